/- The ends of spans, in order. -/
import Derived.Test.YtapagoaoglmegaaEdPlaces
import Derived.Deep.AppendLies
namespace Go.Proofs.Ytapagoaoglmegaa
open Go.RowKit Go.Proofs.YtapagoaoglmegaaW.PrintWords Go.Proofs.YtapagoaoglmegaaW.PrintLast Go.Proofs.YtapagoaoglmegaaW.PrintMore PCl
set_option linter.unusedVariables false
set_option linter.unusedSimpArgs false
set_option maxRecDepth 100000
@[reducible] def oY : Bool := true
@[reducible] def oN : Bool := false
theorem PlV.fr {B : Nat} {w w' : World} {v : Value} {P : List Int} (h : PlV B w v P) (k : Fr (fun _ => False) w w') : PlV B w' v P := by
 rcases h with h | ⟨g, c, h1, h2, h3⟩
 ·exact .inl h
 ·exact .inr ⟨g, c, h1, h2, h3.fr k (fun h => h)⟩
theorem end_at {B : Nat} {w : World} {v : Value} {P : List Int} (hP : PlV B w v P) (hs : P.Pairwise (· < ·)) (hl : P.length ≤ 40) {x : Int} (hx : x ∈ P) (adds : Nat) :
  Calls Try.prog 73 #[v, .int .i64 x, .float .f64 adds] w fun e w' => e = .returned (.complex .f64 (flE (rkE P x : Nat)) adds) ∧ Fr (fun _ => False) w w' := by
 rcases hP with ⟨_, rfl⟩ | ⟨g, cp, rfl, hg, hc⟩
 ·cases hx
 ·have HS := hidE (search_at (cap := cp) hc (by omega) (hs.imp (fun h => Int.le_of_lt h)) x)
  clear hs hx hc hg
  go_enter Try.func73, Try.ntmps73
  go_wp2_with fail
  refine HS.out.mono ?_
  rintro e w1 ⟨rfl, q, rfl⟩
  go_wp2
  go_ret
  exact ⟨rfl, by (repeat' (first | (with_reducible exact Fr.refl _ _) | (with_reducible assumption) | (with_reducible refine Fr.alloc ?_ _) | (with_reducible refine Fr.drew ?_) | (with_reducible refine Fr.drewN ?_ _) | (with_reducible refine Fr.setCell ?_ _ _ ?_) | (exact Or.inr rfl) | (left; simp; done) | (left; simp; omega) | (simp; done) | (simp; omega) | omega))⟩
def finE (n : Nat) : Fin 64 := ⟨n % 64, Nat.mod_lt _ (by decide)⟩
theorem finE_val {n : Nat} (h : n < 64) : (finE n).val = n := Nat.mod_eq_of_lt h
def unF (P : List Int) (L : List S24) : List (Fin 64 × Bool) := L.flatMap (fun s => [(finE (rkE P s.f1), true), (finE (rkE P s.f2), false)])
theorem unF_snoc {P : List Int} {L : List S24} {k : Nat} {s : S24} (h : L[k]? = some s) : unF P (L.take (k + 1)) = unF P (L.take k) ++ [(finE (rkE P s.f1), true), (finE (rkE P s.f2), false)] := by
 unfold unF
 rw [List.take_add_one, h, List.flatMap_append]; rfl
theorem unF_map {P : List Int} (hl : P.length ≤ 40) : ∀ L : List S24, (unF P L).map toN = unE P L
 | [] => rfl
 | s :: L => by
  have ih := unF_map hl L
  have h1 := rk_len P s.f1
  have h2 := rk_len P s.f2
  unfold unF unE at *
  rw [List.flatMap_cons, List.flatMap_cons, List.map_append, ih]
  simp [toN, finE_val (show rkE P s.f1 < 64 by omega), finE_val (show rkE P s.f2 < 64 by omega)]
theorem unF_len (P : List Int) : ∀ L : List S24, (unF P L).length = 2 * L.length
 | [] => rfl
 | s :: L => by have := unF_len P L; unfold unF at *; rw [List.flatMap_cons]; simp at this ⊢; omega
theorem infoC : (Try.prog.info? 74).map (fun i => (i.zero, i.size, i.bytes)) = some (some (.complex .f64 0 0), 1, 16) := by kernel_rfl
/-- A slice of the call's own (or nil) that reads as the ends E. -/
def EnV (B : Nat) (w : World) (v : Value) (E : List (Nat × Bool)) : Prop := (v = .slice none 0 0 ∧ E = []) ∨ ∃ g cap l, v = .slice (some ⟨g, 0, none⟩) E.length cap ∧ B ≤ g ∧ l.map toN = E ∧ CsE encE w g l
theorem EnV.fr {B : Nat} {w w' : World} {v : Value} {P : List (Nat × Bool)} (h : EnV B w v P) (k : Fr (fun _ => False) w w') : EnV B w' v P := by
 rcases h with h | ⟨g, c, l, h1, h2, h3, h4⟩
 ·exact .inl h
 ·exact .inr ⟨g, c, l, h1, h2, h3, h4.fr k (fun h => h)⟩
def EnS (w : World) (B : Nat) (s : S24) (u : Value) (xs : List Value) (w' : World) : Prop :=
 w'.cell? ⟨B, 1, none⟩ = some (.int .i64 s.f1) ∧ w'.cell? ⟨B, 2, none⟩ = some (.int .i64 s.f2) ∧ w'.ownsRow w.heap.size 74 1 u xs.length xs ∧ Fr (fun _ => False) w w'
theorem own_fr0 {S : Nat → Prop} {w w' : World} {base : Nat} {e : TypeId} {n s : Nat} {v : Value} {xs : List Value} (h : w.ownsRow base e s v n xs) (k : Fr S w w') (hs : ∀ g, v.ownBlock = some g → ¬ S g) : w'.ownsRow base e s v n xs := by
 obtain ⟨h1, h2⟩ := h
 refine ⟨h1, ?_⟩
 rcases h2 with h2 | ⟨g, cap, cur, rfl, hg, hb, h3⟩
 ·exact .inl h2
 ·exact .inr ⟨g, cap, cur, rfl, hg, (k.block g (Array.getElem?_eq_some_iff.1 hb).1 (hs g rfl)).trans hb, h3⟩
theorem EnS.fr {w : World} {B : Nat} {s : S24} {u : Value} {xs : List Value} {w1 w2 : World} (h : EnS w B s u xs w1) (k : Fr (fun _ => False) w1 w2) : EnS w B s u xs w2 := by
 obtain ⟨h1, h2, h3, h5⟩ := h
 exact ⟨(k.cell (a := ⟨B, 1, none⟩) (World.block_lt_of_cell? w1 _ h1) (fun h => h)).trans h1, (k.cell (a := ⟨B, 2, none⟩) (World.block_lt_of_cell? w1 _ h2) (fun h => h)).trans h2, own_fr0 h3 k (fun _ _ h => h), h5.trans k (fun _ _ h => h)⟩
set_option maxHeartbeats 8000000 in
theorem ends_at {w : World} {A : Option Addr} {cap : Nat} {L : List S24} (hC : Kd.C k24 w A L.length L) (hc : L.length ≤ cap) (hn : L.length ≤ 20) :
  Calls Try.prog 41 #[.slice A L.length cap] w fun e w' => ∃ v, e = .returned v ∧ EnV w.heap.size w' v (endE L) ∧ Fr (fun _ => False) w w' := by
 obtain ⟨p1, p2, p3⟩ := pos_ok L
 have hpl := places_at hC hc (by omega)
 obtain ⟨P, hP⟩ : ∃ P, P = posE L := ⟨_, rfl⟩
 have HE := hidE (show (unF P L).map toN = unE (posE L) L by rw [hP]; exact unF_map (by omega) L)
 rw [← hP] at p1 p2 p3 hpl
 obtain ⟨E, hE⟩ : ∃ E, E = endE L := ⟨_, rfl⟩
 rw [← hE]
 have HEE := hidE hE
 have HC := hidE hC
 have HPL := hidE hpl
 have P1 := hidE p1
 have P2 := hidE p2
 clear hC hP hE hpl p1 p2
 go_enter Try.func41, Try.ntmps41
 go_wp2_with fail
 refine HPL.out.mono ?_
 rintro e w1 ⟨vp, rfl, hp1, k1⟩
 clear HPL
 go_wp2_with fail
 have HP1 := hidE hp1
 have hk1 := k1.size
 clear hp1
 go_loopw [4, 11] (fun v i wr => ∃ k : Nat, k ≤ L.length ∧ i = .int .i64 (k : Int) ∧ wr.ownsRow w1.heap.size 74 1 v ((unF P (L.take k)).map encE).length ((unF P (L.take k)).map encE) ∧ Fr (fun _ => False) w1 wr) (fun _ i _ => L.length - (intOf i).toNat)
 case atStart => exact ⟨0, Nat.zero_le _, rfl, by simpa [unF] using World.ownsRow_nil _ _ _ _, Fr.refl _ _⟩
 case round =>
  obtain ⟨k, hk, rfl, hown, hf⟩ := hrel
  have HO := hidE hown
  clear hown
  by_cases hlt : k < L.length
  ·obtain ⟨r, off, rfl, hr, hat⟩ := C24_open HC.out (by omega)
   obtain ⟨s, hs⟩ : ∃ s, L[k]? = some s := ⟨_, List.getElem?_eq_getElem hlt⟩
   obtain ⟨c0, c1, c2⟩ := ((hat k s hs).fr k1 (fun h => h)).fr hf (fun h => h)
   have HS := hidE hs
   have hsL : s ∈ L := List.mem_of_getElem? hs
   have l1 : (k : Int) < (L.length : Int) := by omega
   clear hat hs
   go_upto_region 6 with fail
   generalize hW : World.alloc wr _ = W1
   have f1 : Fr (fun _ => False) wr W1 := by subst hW; (repeat' (first | (with_reducible exact Fr.refl _ _) | (with_reducible assumption) | (with_reducible refine Fr.alloc ?_ _) | (with_reducible refine Fr.drew ?_) | (with_reducible refine Fr.drewN ?_ _) | (with_reducible refine Fr.setCell ?_ _ _ ?_) | (exact Or.inr rfl) | (left; simp; done) | (left; simp; omega) | (simp; done) | (simp; omega) | omega))
   have o1 := own_fr0 HO.out f1 (fun _ _ h => h)
   have bB : Blk W1 wr.heap.size #[.int .i64 s.f0, .int .i64 s.f1, .int .i64 s.f2] 24 := by subst hW; (repeat' (first | (with_reducible assumption) | (with_reducible apply Blk.drew) | (with_reducible apply Blk.drewN) | (with_reducible apply Blk.set) | (with_reducible apply Blk.other) | (exact Blk.new' _ _ _ (by first | rfl | (simp; done) | (simp; omega))) | (with_reducible apply Blk.alloc) | (with_reducible rfl) | (simp; done) | (simp; omega) | omega | rfl))
   clear hW c0 c1 c2 HO
   obtain ⟨xs, hxs⟩ : ∃ xs, xs = (unF P (L.take k)).map encE := ⟨_, rfl⟩
   have hxl : xs.length ≤ 40 := by rw [hxs, List.length_map, unF_len, List.length_take]; omega
   rw [← hxs] at o1
   have HX := hidE hxs
   clear hxs
   have h1 : EnS w1 wr.heap.size s u4 xs W1.drew := ⟨bB.cell 1, bB.cell 2, o1, (hf.trans f1 (fun _ _ h => h)).drew⟩
   obtain ⟨i0, hi0, hz0, hsz0, hby0⟩ : ∃ i0, Try.prog.info? 74 = some i0 ∧ i0.zero = some (.complex .f64 0 0) ∧ i0.size = 1 ∧ i0.bytes = 16 := by
    obtain ⟨i0, h1, h2⟩ := Option.map_eq_some_iff.1 infoC
    simp only [Prod.mk.injEq] at h2
    exact ⟨i0, h1, h2.1, h2.2.1, h2.2.2⟩
   obtain ⟨B, hB⟩ : ∃ B, B = wr.heap.size := ⟨_, rfl⟩
   rw [← hB] at h1 ⊢
   clear hB bB o1 f1 hf
   have q1 : rkE P s.f1 < 64 := by have := rk_len P s.f1; omega
   have q2 : rkE P s.f2 < 64 := by have := rk_len P s.f2; omega
   obtain ⟨n1, hn1⟩ : ∃ n1, n1 = finE (rkE P s.f1) := ⟨_, rfl⟩
   obtain ⟨n2, hn2⟩ : ∃ n2, n2 = finE (rkE P s.f2) := ⟨_, rfl⟩
   obtain ⟨F1, hF1⟩ : ∃ F1, F1 = flE (n1.val : Int) := ⟨_, rfl⟩
   obtain ⟨F2, hF2⟩ : ∃ F2, F2 = flE (n2.val : Int) := ⟨_, rfl⟩
   have E1 : Hid (∀ W, Fr (fun _ => False) w1 W → Calls Try.prog 73 #[vp, .int .i64 s.f1, .float .f64 4607182418800017408] W fun e w' => e = .returned (.complex .f64 F1 4607182418800017408) ∧ Fr (fun _ => False) W w') := hidE (fun W h => by
    rw [hF1, hn1, finE_val q1]; exact end_at (HP1.out.fr h) P1.out (by omega) (P2.out s hsL).1 _)
   have E2 : Hid (∀ W, Fr (fun _ => False) w1 W → Calls Try.prog 73 #[vp, .int .i64 s.f2, .float .f64 13830554455654793216] W fun e w' => e = .returned (.complex .f64 F2 13830554455654793216) ∧ Fr (fun _ => False) W w') := hidE (fun W h => by
    rw [hF2, hn2, finE_val q2]; exact end_at (HP1.out.fr h) P1.out (by omega) (P2.out s hsL).2 _)
   have HN : Hid ([(Value.complex .f64 F1 4607182418800017408), .complex .f64 F2 13830554455654793216] = [(finE (rkE P s.f1), true), (finE (rkE P s.f2), false)].map encE) := hidE (by rw [hF1, hF2, hn1, hn2]; rfl)
   clear hn1 hn2 q1 q2 hsL hF1 hF2
   refine start_ (n := 12) (S := fun w' => w'.cell? ⟨B, 1, none⟩ = some (.int .i64 s.f1) ∧ w'.cell? ⟨B, 2, none⟩ = some (.int .i64 s.f2) ∧ w'.ownsRow w1.heap.size 74 1 u4 xs.length xs ∧ Fr (fun _ => False) w1 w') (ds := [10]) #[oN,oN,oN,oN,oN,oN,oN,oN,oN,oN,oN,oN] (by kernel_rfl) rfl rfl ⟨h1.1, h1.2.1, h1.2.2.1, h1.2.2.2⟩ (fun hHeld => ?_)
   refine pure_ (i := 0) (N := some 15) (v := ?_) (a' := ?_) #[oY,oN,oN,oN,oN,oN,oN,oN,oN,oN,oN,oN] rfl rfl (by kernel_rfl) (fun _ _ _ h => h) (Or.inl ⟨by rfl, ?_⟩) ?_ ?_
   rotate_left
   ·intro w'
    go_simp
    with_reducible rfl
   rotate_left
   ·simp only [Act.put, List.setIfInBounds_toArray, List.set_cons_zero, List.set_cons_succ, i64_w, i32_w]
    rfl
   refine pure_ (i := 1) (N := some 16) (v := ?_) (a' := ?_) #[oY,oY,oN,oN,oN,oN,oN,oN,oN,oN,oN,oN] rfl rfl (by kernel_rfl) (fun _ _ _ h => h) (Or.inl ⟨by rfl, ?_⟩) ?_ ?_
   rotate_left
   ·intro w'
    go_simp
    with_reducible rfl
   rotate_left
   ·simp only [Act.put, List.setIfInBounds_toArray, List.set_cons_zero, List.set_cons_succ, i64_w, i32_w]
    rfl
   refine pure_ (i := 2) (N := some 17) (v := ?_) (a' := ?_) #[oY,oY,oY,oN,oN,oN,oN,oN,oN,oN,oN,oN] rfl rfl (by kernel_rfl) (fun _ _ _ h => h) (Or.inl ⟨by rfl, ?_⟩) ?_ ?_
   rotate_left
   ·intro w'
    go_simp
    with_reducible rfl
   rotate_left
   ·simp only [Act.put, List.setIfInBounds_toArray, List.set_cons_zero, List.set_cons_succ, i64_w, i32_w]
    rfl
   refine pure_ (i := 5) (N := some 20) (v := ?_) (a' := ?_) #[oY,oY,oY,oN,oN,oY,oN,oN,oN,oN,oN,oN] rfl rfl (by kernel_rfl) (fun _ _ _ h => h) (Or.inl ⟨by rfl, ?_⟩) ?_ ?_
   rotate_left
   ·intro w'
    go_simp
    with_reducible rfl
   rotate_left
   ·simp only [Act.put, List.setIfInBounds_toArray, List.set_cons_zero, List.set_cons_succ, i64_w, i32_w]
    rfl
   refine pure_ (i := 6) (N := some 21) (v := ?_) (a' := ?_) #[oY,oY,oY,oN,oN,oY,oY,oN,oN,oN,oN,oN] rfl rfl (by kernel_rfl) (fun _ _ _ h => h) (Or.inl ⟨by rfl, ?_⟩) ?_ ?_
   rotate_left
   ·intro w'
    go_simp
    with_reducible rfl
   rotate_left
   ·simp only [Act.put, List.setIfInBounds_toArray, List.set_cons_zero, List.set_cons_succ, i64_w, i32_w]
    rfl
   refine take_ (i := 3) (N := some 18) (v := ?_) (a' := ?_) #[oY,oY,oY,oY,oN,oY,oY,oN,oN,oN,oN,oN] rfl rfl (by kernel_rfl) (fun _ _ _ h => h) (Or.inl ⟨by rfl, ?_⟩) hHeld ?_ ?_
   rotate_left
   ·rintro w' ⟨s0, s1, s2, s3⟩
    go_simp
    with_reducible rfl
   rotate_left
   ·simp only [Act.put, List.setIfInBounds_toArray, List.set_cons_zero, List.set_cons_succ, i64_w, i32_w]
    rfl
   refine take_ (i := 7) (N := some 22) (v := ?_) (a' := ?_) #[oY,oY,oY,oY,oN,oY,oY,oY,oN,oN,oN,oN] rfl rfl (by kernel_rfl) (fun _ _ _ h => h) (Or.inl ⟨by rfl, ?_⟩) hHeld ?_ ?_
   rotate_left
   ·rintro w' ⟨s0, s1, s2, s3⟩
    go_simp
    with_reducible rfl
   rotate_left
   ·simp only [Act.put, List.setIfInBounds_toArray, List.set_cons_zero, List.set_cons_succ, i64_w, i32_w]
    rfl
   refine one_ (i := 4) (N := some 19) #[oY,oY,oY,oY,oY,oY,oY,oY,oN,oN,oN,oN] rfl rfl (by kernel_rfl) (by decide) (fun K hK => ?_)
   refine goes_ Try.func73 (by kernel_rfl) rfl #[vp, .int .i64 s.f1, .float .f64 4607182418800017408] (by rfl) rfl rfl (by simp only [List.map_toArray, List.map_cons, List.map_nil]; rfl) ?_
   refine (E1.out _ h1.2.2.2).mono ?_
   rintro e w2 ⟨rfl, k2⟩
   refine ⟨_, rfl, ?_⟩
   have h2 := h1.fr k2
   refine hK.out _ _ ⟨h2.1, h2.2.1, h2.2.2.1, h2.2.2.2⟩ (fun hHeld => ?_)
   clear hK K
   refine norm_ (a' := ?_) ?_ ?_
   rotate_left
   ·show Act.put _ (some 19) _ = _
    simp only [Act.put, List.setIfInBounds_toArray, List.set_cons_zero, List.set_cons_succ, i64_w, i32_w]
    rfl
   refine one_ (i := 8) (N := some 23) #[oY,oY,oY,oY,oY,oY,oY,oY,oY,oN,oN,oN] rfl rfl (by kernel_rfl) (by decide) (fun K hK => ?_)
   refine goes_ Try.func73 (by kernel_rfl) rfl #[vp, .int .i64 s.f2, .float .f64 13830554455654793216] (by rfl) rfl rfl (by simp only [List.map_toArray, List.map_cons, List.map_nil]; rfl) ?_
   refine (E2.out _ h2.2.2.2).mono ?_
   rintro e w3 ⟨rfl, k3⟩
   refine ⟨_, rfl, ?_⟩
   have h3 := h2.fr k3
   refine hK.out _ _ ⟨h3.1, h3.2.1, h3.2.2.1, h3.2.2.2⟩ (fun hHeld => ?_)
   clear hK K
   refine norm_ (a' := ?_) ?_ ?_
   rotate_left
   ·show Act.put _ (some 23) _ = _
    simp only [Act.put, List.setIfInBounds_toArray, List.set_cons_zero, List.set_cons_succ, i64_w, i32_w]
    rfl
   refine one_ (i := 9) (N := some 24) #[oY,oY,oY,oY,oY,oY,oY,oY,oY,oY,oN,oN] rfl rfl (by kernel_rfl) (by decide) (fun K hK => ?_)
   refine value_ (w1 := ?_) (v := ?_) (by rfl) rfl ?_ ?_
   rotate_left 2
   ·go_simp
    constructor
    ·rfl
    ·rfl
   generalize hW : World.alloc w3 _ = w4
   have f4 : Fr (fun _ => False) w3 w4 := by subst hW; (repeat' (first | (with_reducible exact Fr.refl _ _) | (with_reducible assumption) | (with_reducible refine Fr.alloc ?_ _) | (with_reducible refine Fr.drew ?_) | (with_reducible refine Fr.drewN ?_ _) | (with_reducible refine Fr.setCell ?_ _ _ ?_) | (exact Or.inr rfl) | (left; simp; done) | (left; simp; omega) | (simp; done) | (simp; omega) | omega))
   have bN : Blk w4 w3.heap.size #[.complex .f64 F1 4607182418800017408, .complex .f64 F2 13830554455654793216] 74 := by subst hW; (repeat' (first | (with_reducible assumption) | (with_reducible apply Blk.drew) | (with_reducible apply Blk.drewN) | (with_reducible apply Blk.set) | (with_reducible apply Blk.other) | (exact Blk.new' _ _ _ (by first | rfl | (simp; done) | (simp; omega))) | (with_reducible apply Blk.alloc) | (with_reducible rfl) | (simp; done) | (simp; omega) | omega | rfl))
   clear hW
   have h4 := h3.fr f4
   refine hK.out _ _ ⟨h4.1, h4.2.1, h4.2.2.1, h4.2.2.2⟩ (fun hHeld => ?_)
   clear hK K
   refine norm_ (a' := ?_) ?_ ?_
   rotate_left
   ·show Act.put _ (some 24) _ = _
    simp only [Act.put, List.setIfInBounds_toArray, List.set_cons_zero, List.set_cons_succ, i64_w, i32_w]
    rfl
   refine last_ (i := 10) (N := some 25) #[oY,oY,oY,oY,oY,oY,oY,oY,oY,oY,oY,oN] rfl rfl (by kernel_rfl) (by decide) (fun K hK => ?_)
   refine step_append_lies _ rfl (.tmp 15) (.tmp 24) 72 rfl w1.heap.size 74 i0 _ 1 16 Try.underlying72 hi0 hz0 hsz0 hby0 rfl (by decide) u4 xs.length xs rfl h4.2.2.1 ⟨w3.heap.size, 0, none⟩ 2 2 [.complex .f64 F1 4607182418800017408, .complex .f64 F2 13830554455654793216] rfl rfl (World.news_of_block bN) (by simp [Value.oneCell']) (by decide) (by unfold maxLen; omega) (by omega) h4.2.2.2.size _ rfl ?_
   intro g2 cap2 w5 hown5 hg5 hat hlt5
   refine hK.out _ _ ?_
   clear hK K
   refine norm_ (a' := ?_) ?_ ?_
   rotate_left
   ·show Act.put _ (some 25) _ = _
    simp only [Act.put, List.setIfInBounds_toArray, List.set_cons_zero, List.set_cons_succ, i64_w, i32_w]
    rfl
   refine pure_ (i := 11) (N := some 4) (v := ?_) (a' := ?_) #[oY,oY,oY,oY,oY,oY,oY,oY,oY,oY,oY,oY] rfl rfl (by kernel_rfl) (fun _ _ _ h => h) (Or.inl ⟨by rfl, ?_⟩) ?_ ?_
   rotate_left
   ·intro w'
    go_simp
    with_reducible rfl
   rotate_left
   ·simp only [Act.put, List.setIfInBounds_toArray, List.set_cons_zero, List.set_cons_succ, i64_w, i32_w]
    rfl
   refine done_ (by kernel_rfl) ?_
   have f5 : Fr (fun _ => False) w1 w5 := Fr.grown h4.2.2.2 hg5 (fun j hj => .inl (h4.2.2.1.lt j hj).1)
   clear hHeld h4 h3 h2 h1 hg5 hat bN
   go_wp2
   go_roundw
   case rel => exact ⟨k + 1, by omega, by go_num, by rw [unF_snoc HS.out, List.map_append, ← HN.out, ← HX.out]; simpa using hown5, f5⟩
   case measure => simp [intOf]; omega
  ·obtain rfl : k = L.length := by omega
   clear hlt
   have ho := HO.out
   rw [List.take_length, List.length_map] at ho
   have h2 := unF_len P L
   rcases own_cs ho with ⟨hv, h0⟩ | ⟨g, cp, hv, h3, h4, h5, h6⟩
   ·have e0 : E = [] := by rw [HEE.out]; unfold endE; rw [← HE.out, h0]; simp
    subst hv e0
    clear ho h0 h2 HO HEE
    go_wp2_with fail
    refine (sortF_no none 0 _).mono ?_
    rintro e w2 ⟨rfl, rfl⟩
    go_wp2
    go_ret
    exact ⟨_, rfl, .inl ⟨rfl, rfl⟩, k1.trans hf (fun _ _ h => h)⟩
   ·subst hv
    obtain ⟨l, hl⟩ : ∃ l, l = unF P L := ⟨_, rfl⟩
    rw [← hl] at h6 h3 h2 ⊢
    have HL := hidE hl
    have S1 := hidE (sortF_at (cap := cp) h6 (by omega))
    have hlE : Hid (l.length = E.length) := hidE (by rw [HEE.out, end_len, h2])
    clear ho hl h2 HO h6
    go_wp2_with fail
    refine S1.out.mono ?_
    rintro e w2 ⟨rfl, l', hl', hm, h7, k7⟩
    have HM := hidE hm
    have HL' := hidE hl'
    clear hm hl'
    go_wp2
    go_ret
    refine ⟨_, rfl, .inr ⟨g, cp, l', by rw [hlE.out]; rfl, by omega, ?_, h7⟩, (k1.trans hf (fun _ _ h => h)).trans k7 (fun i h e => by omega)⟩
    rw [HM.out, HL.out, HE.out, HEE.out]
    rfl
end Go.Proofs.Ytapagoaoglmegaa
