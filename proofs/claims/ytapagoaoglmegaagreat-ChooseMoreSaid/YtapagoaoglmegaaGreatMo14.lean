/- Texts of mine, joined by shake.py: EdCmp, EdPlaces, EdEnds, EdHull. -/
import Derived.WalkLawsBesides
import Derived.StillTailTactics
import Derived.IntWalk
import Derived.Deep.AppendLies
import Derived.Test.YtapagoaoglmegaaGreatMo3
import Derived.Test.YtapagoaoglmegaaGreatMo13
section
namespace Go.Proofs.YtapagoaoglmegaaGreat
open Go.RowKit Go.Proofs.YtapagoaoglmegaaGreatW.PrintWords Go.Proofs.YtapagoaoglmegaaGreatW.PrintLast Go.Proofs.YtapagoaoglmegaaGreatW.PrintMore PCl
open Go.Sort (Holds putRow grow)
set_option linter.unusedVariables false
set_option linter.unusedSimpArgs false
set_option maxRecDepth 100000
def ordI : Ordering → Int
  | .lt => -1
  | .eq => 0
  | .gt => 1
theorem nan_at {x : Nat} (hx : FloatKind.f64.format.order x x = some .eq) (W : World) : Calls Tryz.prog 131 #[.float .f64 x] W fun e w' => e = .returned (.bool false) ∧ W = w' := by
  go_enter Tryz.func131, Tryz.ntmps131
  go_wp2
  go_ret
  exact ⟨rfl, rfl⟩
theorem fcmp_at {x y : Nat} {o : Ordering} (hx : FloatKind.f64.format.order x x = some .eq) (hy : FloatKind.f64.format.order y y = some .eq) (h : FloatKind.f64.format.order x y = some o) (W : World) :
    Calls Tryz.prog 97 #[.float .f64 x, .float .f64 y] W fun e w' => e = .returned (.int .i64 (ordI o)) ∧ W = w' := by
  have HX := hidE hx
  have HY := hidE hy
  clear hx hy
  cases o
  all_goals
    go_enter Tryz.func97, Tryz.ntmps97
    go_wp2_with fail
    refine (nan_at HX.out _).mono ?_
    rintro e w1 ⟨rfl, rfl⟩
    go_wp2_with fail
    refine (nan_at HY.out _).mono ?_
    rintro e w1 ⟨rfl, rfl⟩
    go_wp2
    go_ret
    exact ⟨rfl, rfl⟩
theorem or_at (a b : Int) (W : World) : Calls Tryz.prog 96 #[.slice (some ⟨W.heap.size, 0, none⟩) 2 2] (W.alloc (.cells #[.int .i64 a, .int .i64 b] 3)) fun e w' => e = .returned (.int .i64 (if a = 0 then b else a)) ∧ w' = W.alloc (.cells #[.int .i64 a, .int .i64 b] 3) := by
  by_cases ha : a = 0
  · by_cases hb : b = 0
    · rw [if_pos ha]
      subst ha hb
      go_enter Tryz.func96, Tryz.ntmps96
      go_wp2
      refine wp_loop_rounds 3 ?_
      repeat any_goals (rw [rounds_succ]; go_wp2)
      all_goals go_ret
      all_goals exact ⟨rfl, rfl⟩
    · rw [if_pos ha]
      subst ha
      have t1 : (b != 0) = true := by simp [hb]
      have t2 : (b == 0) = false := by simp [hb]
      clear hb
      go_enter Tryz.func96, Tryz.ntmps96
      go_wp2
      refine wp_loop_rounds 3 ?_
      repeat any_goals (rw [rounds_succ]; go_wp2)
      all_goals go_ret
      all_goals exact ⟨rfl, rfl⟩
  · rw [if_neg ha]
    have t1 : (a != 0) = true := by simp [ha]
    have t2 : (a == 0) = false := by simp [ha]
    clear ha
    go_enter Tryz.func96, Tryz.ntmps96
    go_wp2
    refine wp_loop_rounds 3 ?_
    repeat any_goals (rw [rounds_succ]; go_wp2)
    all_goals go_ret
    all_goals exact ⟨rfl, rfl⟩
@[reducible] def imE (b : Bool) : Nat := if b then oneE else moneE
def encE (e : Fin 64 × Bool) : Value := .complex .f64 (flE (e.1.val : Int)) (imE e.2)
def toN (e : Fin 64 × Bool) : Nat × Bool := (e.1.val, e.2)
def imO (b a : Bool) : Ordering := if b = a then .eq else if b = true then .gt else .lt
theorem im_ord (b a : Bool) : FloatKind.f64.format.order (imE b) (imE a) = some (imO b a) := by
  have h := sgn_tab
  simp only [Bool.and_eq_true, beq_iff_eq] at h
  obtain ⟨⟨⟨h1, h2⟩, h3⟩, h4⟩ := h
  cases b <;> cases a
  · exact h2
  · exact h4
  · exact h3
  · exact h1
def cfE (a b : Fin 64 × Bool) : Int := if ordI (compare a.1.val b.1.val) = 0 then ordI (imO b.2 a.2) else ordI (compare a.1.val b.1.val)
theorem cfE_at (a b : Fin 64 × Bool) (W : World) : Calls Tryz.prog 95 #[encE a, encE b] W fun e w' => e = .returned (.int .i64 (cfE a b)) ∧ ∃ o, w' = W.alloc o := by
  have hr : FloatKind.f64.format.order (flE (a.1.val : Int)) (flE (b.1.val : Int)) = some (compare a.1.val b.1.val) := fl_ord a.1.isLt b.1.isLt
  have hra : FloatKind.f64.format.order (flE (a.1.val : Int)) (flE (a.1.val : Int)) = some .eq := by rw [fl_ord a.1.isLt a.1.isLt]; simp
  have hrb : FloatKind.f64.format.order (flE (b.1.val : Int)) (flE (b.1.val : Int)) = some .eq := by rw [fl_ord b.1.isLt b.1.isLt]; simp
  have hia : FloatKind.f64.format.order (imE a.2) (imE a.2) = some .eq := by rw [im_ord]; simp [imO]
  have hib : FloatKind.f64.format.order (imE b.2) (imE b.2) = some .eq := by rw [im_ord]; simp [imO]
  have hi := im_ord b.2 a.2
  unfold encE cfE
  generalize compare a.1.val b.1.val = o1 at *
  generalize imO b.2 a.2 = o2 at *
  generalize flE (a.1.val : Int) = ra at *
  generalize flE (b.1.val : Int) = rb at *
  generalize imE a.2 = ia at *
  generalize imE b.2 = ib at *
  have C1 := hidE (fcmp_at hra hrb hr)
  have C2 := hidE (fcmp_at hib hia hi)
  have c3 := or_at (ordI o1) (ordI o2)
  generalize (if ordI o1 = 0 then ordI o2 else ordI o1) = r at *
  have C3 := hidE c3
  clear c3
  clear hr hra hrb hia hib hi
  go_enter Tryz.func95, Tryz.ntmps95
  go_wp2_with fail
  refine (C1.out _).mono ?_
  rintro e w1 ⟨rfl, rfl⟩
  go_wp2_with fail
  refine (C2.out _).mono ?_
  rintro e w1 ⟨rfl, rfl⟩
  go_wp2_with fail
  refine (C3.out _).mono ?_
  rintro e w1 ⟨rfl, rfl⟩
  go_wp2
  go_ret
  exact ⟨rfl, _, rfl⟩
theorem cfE_lt (a b : Fin 64 × Bool) : (Go.Proofs.ltOf cfE a b) = !leE (toN b) (toN a) := by
  obtain ⟨⟨x, hx⟩, p⟩ := a
  obtain ⟨⟨y, hy⟩, q⟩ := b
  have h : cfE (⟨x, hx⟩, p) (⟨y, hy⟩, q) = if ordI (compare x y) = 0 then ordI (imO q p) else ordI (compare x y) := rfl
  unfold ltOf
  rw [h]
  have h2 : leE (toN (⟨y, hy⟩, q)) (toN (⟨x, hx⟩, p)) = (decide (y < x) || (decide (y = x) && (q || !p))) := rfl
  rw [h2]
  rcases Nat.lt_trichotomy x y with c | c | c
  · have e : compare x y = .lt := Nat.compare_eq_lt.2 c
    rw [e]
    have a1 : ¬ y < x := by omega
    have a2 : ¬ y = x := by omega
    simp [ordI, a1, a2]
  · have e : compare x y = .eq := Nat.compare_eq_eq.2 c
    rw [e]
    subst c
    cases p <;> cases q <;> simp [ordI, imO]
  · have e : compare x y = .gt := Nat.compare_eq_gt.2 c
    rw [e]
    simp [ordI, c]
theorem swoE : Go.Sort.SWO (Go.Proofs.ltOf cfE) where
  irrefl x := by
    rw [cfE_lt]
    have := leE_total (toN x) (toN x)
    simp at this
    simp [this]
  trans x y z h1 h2 := by
    rw [cfE_lt] at *
    have t1 := leE_total (toN y) (toN x)
    have t2 := leE_total (toN z) (toN y)
    simp at h1 h2 t1 t2 ⊢
    cases hz : leE (toN z) (toN x) with
    | false => rfl
    | true =>
      have a1 : leE (toN x) (toN y) = true := by simpa [h1] using t1
      have a2 := leE_trans _ _ _ hz a1
      rw [h2] at a2; cases a2
  ntrans x y z h1 h2 := by
    rw [cfE_lt] at *
    simp at h1 h2 ⊢
    exact leE_trans _ _ _ h2 h1
theorem sortF_at {w : World} {g cap : Nat} {l : List (Fin 64 × Bool)} (h : CsE encE w g l) (hs : l.length < 4611686018427387904) :
    Calls Tryz.prog 94 #[.slice (some ⟨g, 0, none⟩) l.length cap, .func (.func 95) #[] #[]] w fun e w' => e = .returned (.tuple #[]) ∧ ∃ l' : List (Fin 64 × Bool), l'.length = l.length ∧ l'.map toN = (l.map toN).mergeSort (fun a b => leE a b) ∧ CsE encE w' g l' ∧ Fr (fun i => i = g) w w' := by
  have hcmp : Go.Proofs.CmpLays1 Tryz.prog 95 #[] encE cfE g 0 l.toArray.size w := fun m os dk hd x y =>
    (cfE_at x y _).mono fun e w' ⟨h1, o, h2⟩ => ⟨h1, 0, #[o], by rw [h2]; rfl⟩
  have hT : ∀ x y, (Go.Proofs.ltOf cfE) x y = false → (Go.Proofs.ltOf cfE) y x = false → x = y := fun x y h1 h2 => by
    rw [cfE_lt] at h1 h2
    simp at h1 h2
    rw [leE_iff] at h1 h2
    obtain ⟨⟨x, hx⟩, p⟩ := x
    obtain ⟨⟨y, hy⟩, q⟩ := y
    simp [toN] at h1 h2
    have : x = y := by omega
    subst this
    simp at h1 h2
    cases p <;> cases q <;> simp_all
  refine Calls.mono (Any.slices_SortFunc_total YtapagoaoglmegaaGreat.srf encE (fun _ => rfl) cfE swoE 95 #[] g 0 cap l.toArray w (enters_of Tryz.func95 (by kernel_rfl) rfl) hcmp h.1 h.2 (by simpa using hs) hT) ?_
  rintro e w' ⟨rfl, n, os, rfl⟩
  obtain ⟨h1, h2⟩ := cs_put (n := n) (os := os) h (m := l.toArray.toList.mergeSort fun x y => !(Go.Proofs.ltOf cfE) y x) (by rw [List.length_mergeSort])
  refine ⟨rfl, _, by rw [List.length_mergeSort], ?_, h1, h2⟩
  rw [List.map_mergeSort (s := fun a b => leE a b)]
  intro a _ b _
  rw [cfE_lt]; simp
theorem sortF_no (A : Option Addr) (cap : Nat) (w : World) : Calls Tryz.prog 94 #[.slice A 0 cap, .func (.func 95) #[] #[]] w fun e w' => e = .returned (.tuple #[]) ∧ w = w' := by
  refine Calls.mono (AnyF.slices_SortFunc_none { YtapagoaoglmegaaGreat.srf with } A cap _ w) ?_
  rintro e w' ⟨rfl, rfl⟩
  exact ⟨rfl, rfl⟩
end Go.Proofs.YtapagoaoglmegaaGreat
namespace Go.Proofs.YtapagoaoglmegaaGreat
open Go.RowKit Go.Proofs.YtapagoaoglmegaaGreatW.PrintWords Go.Proofs.YtapagoaoglmegaaGreatW.PrintLast Go.Proofs.YtapagoaoglmegaaGreatW.PrintMore PCl
set_option linter.unusedVariables false
set_option linter.unusedSimpArgs false
set_option maxRecDepth 100000
theorem plE_snoc {L : List S25} {k : Nat} {s : S25} (h : L[k]? = some s) : plE (L.take (k + 1)) = plE (L.take k) ++ [s.f1, s.f2] := by
  unfold plE
  rw [List.take_add_one, h, List.flatMap_append]; rfl
theorem plE_len (L : List S25) : (plE L).length = 2 * L.length := by
  unfold plE
  induction L with
  | nil => rfl
  | cons s L ih => rw [List.flatMap_cons]; simp at ih ⊢; omega
theorem info64 : (Tryz.prog.info? 2).map (fun i => (i.zero, i.size, i.bytes)) = some (some (.int .i64 0), 1, 8) := by kernel_rfl
def PlV (B : Nat) (w : World) (v : Value) (P : List Int) : Prop := (v = .slice none 0 0 ∧ P = []) ∨ ∃ g cap, v = .slice (some ⟨g, 0, none⟩) P.length cap ∧ B ≤ g ∧ CsE (Value.int .i64) w g P
set_option maxHeartbeats 4000000 in
theorem places_at {w : World} {A : Option Addr} {cap : Nat} {L : List S25} (hC : Kd.C k25 w A L.length L) (hc : L.length ≤ cap) (hn : L.length ≤ 1000) :
    Calls Tryz.prog 44 #[.slice A L.length cap] w fun e w' => ∃ v, e = .returned v ∧ PlV w.heap.size w' v (posE L) ∧ Fr (fun _ => False) w w' := by
  have HC := hidE hC
  clear hC
  obtain ⟨P, hP⟩ : ∃ P, P = posE L := ⟨_, rfl⟩
  rw [← hP]
  have HP := hidE hP
  clear hP
  go_enter Tryz.func44, Tryz.ntmps44
  go_wp2
  go_loopw [3, 8] (fun v i wr => ∃ k : Nat, k ≤ L.length ∧ i = .int .i64 (k : Int) ∧ wr.ownsRow w.heap.size 2 1 v ((plE (L.take k)).map (Value.int .i64)).length ((plE (L.take k)).map (Value.int .i64)) ∧ Fr (fun _ => False) w wr) (fun _ i _ => L.length - (intOf i).toNat)
  case atStart => exact ⟨0, Nat.zero_le _, rfl, by simpa [plE] using World.ownsRow_nil _ _ _ _, Fr.refl _ _⟩
  case round =>
    obtain ⟨k, hk, rfl, hown, hf⟩ := hrel
    have HO := hidE hown
    clear hown
    by_cases hlt : k < L.length
    · obtain ⟨r, off, rfl, hr, hat⟩ := C25_open HC.out (by omega)
      obtain ⟨s, hs⟩ : ∃ s, L[k]? = some s := ⟨_, List.getElem?_eq_getElem hlt⟩
      obtain ⟨c0, c1, c2⟩ := (hat k s hs).fr hf (fun h => h)
      have HS := hidE hs
      have l1 : (k : Int) < (L.length : Int) := by omega
      clear hat hs
      go_upto_region 5 with fail
      generalize hW : World.alloc wr _ = W1
      have f1 : Fr (fun _ => False) wr W1 := by subst hW; (repeat' (first | (with_reducible exact Fr.refl _ _) | (with_reducible assumption) | (with_reducible refine Fr.alloc ?_ _) | (with_reducible refine Fr.drew ?_) | (with_reducible refine Fr.drewN ?_ _) | (with_reducible refine Fr.setCell ?_ _ _ ?_) | (exact Or.inr rfl) | (left; simp; done) | (left; simp; omega) | (simp; done) | (simp; omega) | omega))
      have o1 : W1.ownsRow w.heap.size 2 1 u3 ((plE (L.take k)).map (Value.int .i64)).length ((plE (L.take k)).map (Value.int .i64)) := by subst hW; exact HO.out.alloc _
      have bB : Blk W1 wr.heap.size #[.int .i64 s.f0, .int .i64 s.f1, .int .i64 s.f2] 25 := by subst hW; (repeat' (first | (with_reducible assumption) | (with_reducible apply Blk.drew) | (with_reducible apply Blk.drewN) | (with_reducible apply Blk.set) | (with_reducible apply Blk.other) | (exact Blk.new' _ _ _ (by first | rfl | (simp; done) | (simp; omega))) | (with_reducible apply Blk.alloc) | (with_reducible rfl) | (simp; done) | (simp; omega) | omega | rfl))
      clear hW c0 c1 c2
      have b1 := bB.cell 1
      have b2 := bB.cell 2
      simp at b1 b2
      have hsz : w.heap.size ≤ W1.heap.size := (hf.trans f1 (fun _ _ h => h)).size
      have hlen : (plE (L.take k)).length ≤ 2000 := by rw [plE_len, List.length_take]; omega
      have lN : Lst (W1.alloc (.cells #[.int .i64 s.f1, .int .i64 s.f2] 2)) 2 (.slice (some ⟨W1.heap.size, 0, none⟩) 2 2) [.int .i64 s.f1, .int .i64 s.f2] := Lst.new W1 2 [.int .i64 s.f1, .int .i64 s.f2] (by simp) (by simp [maxLen])
      have o2 := o1.alloc (.cells #[.int .i64 s.f1, .int .i64 s.f2] 2)
      have s2 : w.heap.size ≤ (W1.alloc (.cells #[.int .i64 s.f1, .int .i64 s.f2] 2)).heap.size := by simp; omega
      clear o1 HO
      go_wp2_with (at_builtin; refine wpList_append_lst rfl _ _ 59 rfl w.heap.size 2 (.int .i64 0) 8 Tryz.underlying59 info64 rfl _ _ _ [.int .i64 s.f1, .int .i64 s.f2] rfl rfl o2 lN (by simp [Value.oneCell']) (by simp [maxLen]; omega) (by simp; omega) s2 ?_)
      intro v' w3 o3 g3 b3
      have f3 : Fr (fun _ => False) w w3 := Fr.grown ((hf.trans f1 (fun _ _ h => h)).alloc _) g3 (fun j hj => .inl (o2.lt j hj).1)
      clear o2 lN s2
      go_wp2
      go_roundw
      case rel => exact ⟨k + 1, by omega, by go_num, by rw [plE_snoc HS.out, List.map_append]; simpa using o3, f3⟩
      case measure => simp [intOf]; omega
    · obtain rfl : k = L.length := by omega
      clear hlt
      have ho := HO.out
      rw [List.take_length, List.length_map] at ho
      have h2 := plE_len L
      rcases own_cs ho with ⟨hv, h0⟩ | ⟨g, cp, hv, h3, h4, h5, h6⟩
      · have e0 : P = [] := by rw [HP.out]; unfold posE srtE; rw [h0]; simp [Lib.compact, Lib.compactUpTo]
        subst hv e0
        clear ho h0 h2 HO
        go_wp2_with fail
        refine (sort_no none 0 _).mono ?_
        rintro e w1 ⟨rfl, rfl⟩
        go_wp2_with fail
        refine (compact_no none 0 _).mono ?_
        rintro e w1 ⟨rfl, rfl⟩
        go_wp2
        go_ret
        exact ⟨_, rfl, .inl ⟨rfl, rfl⟩, hf⟩
      · subst hv
        have hf0 := hf.size
        have hs := srt_perm L
        have hsl : (srtE L).length = (plE L).length := hs.length_eq
        obtain ⟨n, hn0⟩ : ∃ n, n = (plE L).length := ⟨_, rfl⟩
        have HN := hidE hn0
        have hPl : P = Lib.compact (srtE L) := HP.out
        have S1 := hidE (fun (W : World) (h : CsE (Value.int .i64) W g (plE L)) => sort_at (cap := cp) h (by omega))
        have S2 := hidE (fun (W : World) (h : CsE (Value.int .i64) W g (srtE L)) => compact_at (cap := cp) h (by omega) (by omega))
        rw [← hPl] at S2
        clear hPl
        rw [← hn0]
        clear ho hs h2 hn0 HO
        go_wp2_with fail
        rw [HN.out]
        refine (S1.out _ h6).mono ?_
        rintro e w1 ⟨rfl, h7, k7⟩
        rw [← HN.out]
        go_wp2_with fail
        have S3 := S2.out w1 h7
        rw [hsl, ← HN.out] at S3
        refine S3.mono ?_
        rintro e w2 ⟨rfl, h8, k8⟩
        clear S3
        go_wp2
        go_ret
        refine ⟨_, rfl, .inr ⟨g, cp, rfl, by omega, h8⟩, (hf.trans k7 (fun i h e => ?_)).trans k8 (fun i h e => ?_)⟩
        · omega
        · omega
theorem PlV.fr {B : Nat} {w w' : World} {v : Value} {P : List Int} (h : PlV B w v P) (k : Fr (fun _ => False) w w') : PlV B w' v P := by
 rcases h with h | ⟨g, c, h1, h2, h3⟩
 ·exact .inl h
 ·exact .inr ⟨g, c, h1, h2, h3.fr k (fun h => h)⟩
theorem end_at {B : Nat} {w : World} {v : Value} {P : List Int} (hP : PlV B w v P) (hs : P.Pairwise (· < ·)) (hl : P.length ≤ 40) {x : Int} (hx : x ∈ P) (adds : Nat) :
  Calls Tryz.prog 93 #[v, .int .i64 x, .float .f64 adds] w fun e w' => e = .returned (.complex .f64 (flE (rkE P x : Nat)) adds) ∧ Fr (fun _ => False) w w' := by
 rcases hP with ⟨_, rfl⟩ | ⟨g, cp, rfl, hg, hc⟩
 ·cases hx
 ·have HS := hidE (search_at (cap := cp) hc (by omega) (hs.imp (fun h => Int.le_of_lt h)) x)
  clear hs hx hc hg
  go_enter Tryz.func93, Tryz.ntmps93
  go_wp2_with fail
  refine HS.out.mono ?_
  rintro e w1 ⟨rfl, q, rfl⟩
  go_wp2
  go_ret
  exact ⟨rfl, by (repeat' (first | (with_reducible exact Fr.refl _ _) | (with_reducible assumption) | (with_reducible refine Fr.alloc ?_ _) | (with_reducible refine Fr.drew ?_) | (with_reducible refine Fr.drewN ?_ _) | (with_reducible refine Fr.setCell ?_ _ _ ?_) | (exact Or.inr rfl) | (left; simp; done) | (left; simp; omega) | (simp; done) | (simp; omega) | omega))⟩
def finE (n : Nat) : Fin 64 := ⟨n % 64, Nat.mod_lt _ (by decide)⟩
theorem finE_val {n : Nat} (h : n < 64) : (finE n).val = n := Nat.mod_eq_of_lt h
def unF (P : List Int) (L : List S25) : List (Fin 64 × Bool) := L.flatMap (fun s => [(finE (rkE P s.f1), true), (finE (rkE P s.f2), false)])
theorem unF_snoc {P : List Int} {L : List S25} {k : Nat} {s : S25} (h : L[k]? = some s) : unF P (L.take (k + 1)) = unF P (L.take k) ++ [(finE (rkE P s.f1), true), (finE (rkE P s.f2), false)] := by
 unfold unF
 rw [List.take_add_one, h, List.flatMap_append]; rfl
theorem unF_map {P : List Int} (hl : P.length ≤ 40) : ∀ L : List S25, (unF P L).map toN = unE P L
 | [] => rfl
 | s :: L => by
  have ih := unF_map hl L
  have h1 := rk_len P s.f1
  have h2 := rk_len P s.f2
  unfold unF unE at *
  rw [List.flatMap_cons, List.flatMap_cons, List.map_append, ih]
  simp [toN, finE_val (show rkE P s.f1 < 64 by omega), finE_val (show rkE P s.f2 < 64 by omega)]
theorem unF_len (P : List Int) : ∀ L : List S25, (unF P L).length = 2 * L.length
 | [] => rfl
 | s :: L => by have := unF_len P L; unfold unF at *; rw [List.flatMap_cons]; simp at this ⊢; omega
theorem infoC : (Tryz.prog.info? 95).map (fun i => (i.zero, i.size, i.bytes)) = some (some (.complex .f64 0 0), 1, 16) := by kernel_rfl
def EnV (B : Nat) (w : World) (v : Value) (E : List (Nat × Bool)) : Prop := (v = .slice none 0 0 ∧ E = []) ∨ ∃ g cap l, v = .slice (some ⟨g, 0, none⟩) E.length cap ∧ B ≤ g ∧ l.map toN = E ∧ CsE encE w g l
theorem EnV.fr {B : Nat} {w w' : World} {v : Value} {P : List (Nat × Bool)} (h : EnV B w v P) (k : Fr (fun _ => False) w w') : EnV B w' v P := by
 rcases h with h | ⟨g, c, l, h1, h2, h3, h4⟩
 ·exact .inl h
 ·exact .inr ⟨g, c, l, h1, h2, h3, h4.fr k (fun h => h)⟩
def EnS (w : World) (B : Nat) (s : S25) (u : Value) (xs : List Value) (w' : World) : Prop :=
 w'.cell? ⟨B, 1, none⟩ = some (.int .i64 s.f1) ∧ w'.cell? ⟨B, 2, none⟩ = some (.int .i64 s.f2) ∧ w'.ownsRow w.heap.size 95 1 u xs.length xs ∧ Fr (fun _ => False) w w'
theorem own_fr0 {S : Nat → Prop} {w w' : World} {base : Nat} {e : TypeId} {n s : Nat} {v : Value} {xs : List Value} (h : w.ownsRow base e s v n xs) (k : Fr S w w') (hs : ∀ g, v.ownBlock = some g → ¬ S g) : w'.ownsRow base e s v n xs := by
 obtain ⟨h1, h2⟩ := h
 refine ⟨h1, ?_⟩
 rcases h2 with h2 | ⟨g, cap, cur, rfl, hg, hb, h3⟩
 ·exact .inl h2
 ·exact .inr ⟨g, cap, cur, rfl, hg, (k.block g (Array.getElem?_eq_some_iff.1 hb).1 (hs g rfl)).trans hb, h3⟩
theorem EnS.fr {w : World} {B : Nat} {s : S25} {u : Value} {xs : List Value} {w1 w2 : World} (h : EnS w B s u xs w1) (k : Fr (fun _ => False) w1 w2) : EnS w B s u xs w2 := by
 obtain ⟨h1, h2, h3, h5⟩ := h
 exact ⟨(k.cell (a := ⟨B, 1, none⟩) (World.block_lt_of_cell? w1 _ h1) (fun h => h)).trans h1, (k.cell (a := ⟨B, 2, none⟩) (World.block_lt_of_cell? w1 _ h2) (fun h => h)).trans h2, own_fr0 h3 k (fun _ _ h => h), h5.trans k (fun _ _ h => h)⟩
set_option maxHeartbeats 8000000 in
theorem ends_at {w : World} {A : Option Addr} {cap : Nat} {L : List S25} (hC : Kd.C k25 w A L.length L) (hc : L.length ≤ cap) (hn : L.length ≤ 20) :
  Calls Tryz.prog 45 #[.slice A L.length cap] w fun e w' => ∃ v, e = .returned v ∧ EnV w.heap.size w' v (endE L) ∧ Fr (fun _ => False) w w' := by
 obtain ⟨p1, p2, p3⟩ := pos_ok L
 have hpl := places_at hC hc (by omega)
 obtain ⟨P, hP⟩ : ∃ P, P = posE L := ⟨_, rfl⟩
 have HE := hidE (show (unF P L).map toN = unE (posE L) L by rw [hP]; exact unF_map (by omega) L)
 rw [← hP] at p1 p2 p3 hpl
 obtain ⟨E, hE⟩ : ∃ E, E = endE L := ⟨_, rfl⟩
 rw [← hE]
 have HEE := hidE hE
 have HC := hidE hC
 have HPL := hidE hpl
 have P1 := hidE p1
 have P2 := hidE p2
 clear hC hP hE hpl p1 p2
 go_enter Tryz.func45, Tryz.ntmps45
 go_wp2_with fail
 refine HPL.out.mono ?_
 rintro e w1 ⟨vp, rfl, hp1, k1⟩
 clear HPL
 go_wp2_with fail
 have HP1 := hidE hp1
 have hk1 := k1.size
 clear hp1
 go_loopw [4, 11] (fun v i wr => ∃ k : Nat, k ≤ L.length ∧ i = .int .i64 (k : Int) ∧ wr.ownsRow w1.heap.size 95 1 v ((unF P (L.take k)).map encE).length ((unF P (L.take k)).map encE) ∧ Fr (fun _ => False) w1 wr) (fun _ i _ => L.length - (intOf i).toNat)
 case atStart => exact ⟨0, Nat.zero_le _, rfl, by simpa [unF] using World.ownsRow_nil _ _ _ _, Fr.refl _ _⟩
 case round =>
  obtain ⟨k, hk, rfl, hown, hf⟩ := hrel
  have HO := hidE hown
  clear hown
  by_cases hlt : k < L.length
  ·obtain ⟨r, off, rfl, hr, hat⟩ := C25_open HC.out (by omega)
   obtain ⟨s, hs⟩ : ∃ s, L[k]? = some s := ⟨_, List.getElem?_eq_getElem hlt⟩
   obtain ⟨c0, c1, c2⟩ := ((hat k s hs).fr k1 (fun h => h)).fr hf (fun h => h)
   have HS := hidE hs
   have hsL : s ∈ L := List.mem_of_getElem? hs
   have l1 : (k : Int) < (L.length : Int) := by omega
   clear hat hs
   go_upto_region 6 with fail
   generalize hW : World.alloc wr _ = W1
   have f1 : Fr (fun _ => False) wr W1 := by subst hW; (repeat' (first | (with_reducible exact Fr.refl _ _) | (with_reducible assumption) | (with_reducible refine Fr.alloc ?_ _) | (with_reducible refine Fr.drew ?_) | (with_reducible refine Fr.drewN ?_ _) | (with_reducible refine Fr.setCell ?_ _ _ ?_) | (exact Or.inr rfl) | (left; simp; done) | (left; simp; omega) | (simp; done) | (simp; omega) | omega))
   have o1 := own_fr0 HO.out f1 (fun _ _ h => h)
   have bB : Blk W1 wr.heap.size #[.int .i64 s.f0, .int .i64 s.f1, .int .i64 s.f2] 25 := by subst hW; (repeat' (first | (with_reducible assumption) | (with_reducible apply Blk.drew) | (with_reducible apply Blk.drewN) | (with_reducible apply Blk.set) | (with_reducible apply Blk.other) | (exact Blk.new' _ _ _ (by first | rfl | (simp; done) | (simp; omega))) | (with_reducible apply Blk.alloc) | (with_reducible rfl) | (simp; done) | (simp; omega) | omega | rfl))
   clear hW c0 c1 c2 HO
   obtain ⟨xs, hxs⟩ : ∃ xs, xs = (unF P (L.take k)).map encE := ⟨_, rfl⟩
   have hxl : xs.length ≤ 40 := by rw [hxs, List.length_map, unF_len, List.length_take]; omega
   rw [← hxs] at o1
   have HX := hidE hxs
   clear hxs
   have h1 : EnS w1 wr.heap.size s u4 xs W1.drew := ⟨bB.cell 1, bB.cell 2, o1, (hf.trans f1 (fun _ _ h => h)).drew⟩
   obtain ⟨i0, hi0, hz0, hsz0, hby0⟩ : ∃ i0, Tryz.prog.info? 95 = some i0 ∧ i0.zero = some (.complex .f64 0 0) ∧ i0.size = 1 ∧ i0.bytes = 16 := by
    obtain ⟨i0, h1, h2⟩ := Option.map_eq_some_iff.1 infoC
    simp only [Prod.mk.injEq] at h2
    exact ⟨i0, h1, h2.1, h2.2.1, h2.2.2⟩
   obtain ⟨B, hB⟩ : ∃ B, B = wr.heap.size := ⟨_, rfl⟩
   rw [← hB] at h1 ⊢
   clear hB bB o1 f1 hf
   have q1 : rkE P s.f1 < 64 := by have := rk_len P s.f1; omega
   have q2 : rkE P s.f2 < 64 := by have := rk_len P s.f2; omega
   obtain ⟨n1, hn1⟩ : ∃ n1, n1 = finE (rkE P s.f1) := ⟨_, rfl⟩
   obtain ⟨n2, hn2⟩ : ∃ n2, n2 = finE (rkE P s.f2) := ⟨_, rfl⟩
   obtain ⟨F1, hF1⟩ : ∃ F1, F1 = flE (n1.val : Int) := ⟨_, rfl⟩
   obtain ⟨F2, hF2⟩ : ∃ F2, F2 = flE (n2.val : Int) := ⟨_, rfl⟩
   have E1 : Hid (∀ W, Fr (fun _ => False) w1 W → Calls Tryz.prog 93 #[vp, .int .i64 s.f1, .float .f64 4607182418800017408] W fun e w' => e = .returned (.complex .f64 F1 4607182418800017408) ∧ Fr (fun _ => False) W w') := hidE (fun W h => by
    rw [hF1, hn1, finE_val q1]; exact end_at (HP1.out.fr h) P1.out (by omega) (P2.out s hsL).1 _)
   have E2 : Hid (∀ W, Fr (fun _ => False) w1 W → Calls Tryz.prog 93 #[vp, .int .i64 s.f2, .float .f64 13830554455654793216] W fun e w' => e = .returned (.complex .f64 F2 13830554455654793216) ∧ Fr (fun _ => False) W w') := hidE (fun W h => by
    rw [hF2, hn2, finE_val q2]; exact end_at (HP1.out.fr h) P1.out (by omega) (P2.out s hsL).2 _)
   have HN : Hid ([(Value.complex .f64 F1 4607182418800017408), .complex .f64 F2 13830554455654793216] = [(finE (rkE P s.f1), true), (finE (rkE P s.f2), false)].map encE) := hidE (by rw [hF1, hF2, hn1, hn2]; rfl)
   clear hn1 hn2 q1 q2 hsL hF1 hF2
   refine start_ (n := 12) (S := fun w' => w'.cell? ⟨B, 1, none⟩ = some (.int .i64 s.f1) ∧ w'.cell? ⟨B, 2, none⟩ = some (.int .i64 s.f2) ∧ w'.ownsRow w1.heap.size 95 1 u4 xs.length xs ∧ Fr (fun _ => False) w1 w') (ds := [10]) #[oN,oN,oN,oN,oN,oN,oN,oN,oN,oN,oN,oN] (by kernel_rfl) rfl rfl ⟨h1.1, h1.2.1, h1.2.2.1, h1.2.2.2⟩ (fun hHeld => ?_)
   refine pure_ (i := 0) (N := some 15) (v := ?_) (a' := ?_) #[oY,oN,oN,oN,oN,oN,oN,oN,oN,oN,oN,oN] rfl rfl (by kernel_rfl) (fun _ _ _ h => h) (Or.inl ⟨by rfl, ?_⟩) ?_ ?_
   rotate_left
   ·intro w'
    go_simp
    with_reducible rfl
   rotate_left
   ·simp only [Act.put, List.setIfInBounds_toArray, List.set_cons_zero, List.set_cons_succ, i64_w, i32_w]
    rfl
   refine pure_ (i := 1) (N := some 16) (v := ?_) (a' := ?_) #[oY,oY,oN,oN,oN,oN,oN,oN,oN,oN,oN,oN] rfl rfl (by kernel_rfl) (fun _ _ _ h => h) (Or.inl ⟨by rfl, ?_⟩) ?_ ?_
   rotate_left
   ·intro w'
    go_simp
    with_reducible rfl
   rotate_left
   ·simp only [Act.put, List.setIfInBounds_toArray, List.set_cons_zero, List.set_cons_succ, i64_w, i32_w]
    rfl
   refine pure_ (i := 2) (N := some 17) (v := ?_) (a' := ?_) #[oY,oY,oY,oN,oN,oN,oN,oN,oN,oN,oN,oN] rfl rfl (by kernel_rfl) (fun _ _ _ h => h) (Or.inl ⟨by rfl, ?_⟩) ?_ ?_
   rotate_left
   ·intro w'
    go_simp
    with_reducible rfl
   rotate_left
   ·simp only [Act.put, List.setIfInBounds_toArray, List.set_cons_zero, List.set_cons_succ, i64_w, i32_w]
    rfl
   refine pure_ (i := 5) (N := some 20) (v := ?_) (a' := ?_) #[oY,oY,oY,oN,oN,oY,oN,oN,oN,oN,oN,oN] rfl rfl (by kernel_rfl) (fun _ _ _ h => h) (Or.inl ⟨by rfl, ?_⟩) ?_ ?_
   rotate_left
   ·intro w'
    go_simp
    with_reducible rfl
   rotate_left
   ·simp only [Act.put, List.setIfInBounds_toArray, List.set_cons_zero, List.set_cons_succ, i64_w, i32_w]
    rfl
   refine pure_ (i := 6) (N := some 21) (v := ?_) (a' := ?_) #[oY,oY,oY,oN,oN,oY,oY,oN,oN,oN,oN,oN] rfl rfl (by kernel_rfl) (fun _ _ _ h => h) (Or.inl ⟨by rfl, ?_⟩) ?_ ?_
   rotate_left
   ·intro w'
    go_simp
    with_reducible rfl
   rotate_left
   ·simp only [Act.put, List.setIfInBounds_toArray, List.set_cons_zero, List.set_cons_succ, i64_w, i32_w]
    rfl
   refine take_ (i := 3) (N := some 18) (v := ?_) (a' := ?_) #[oY,oY,oY,oY,oN,oY,oY,oN,oN,oN,oN,oN] rfl rfl (by kernel_rfl) (fun _ _ _ h => h) (Or.inl ⟨by rfl, ?_⟩) hHeld ?_ ?_
   rotate_left
   ·rintro w' ⟨s0, s1, s2, s3⟩
    go_simp
    with_reducible rfl
   rotate_left
   ·simp only [Act.put, List.setIfInBounds_toArray, List.set_cons_zero, List.set_cons_succ, i64_w, i32_w]
    rfl
   refine take_ (i := 7) (N := some 22) (v := ?_) (a' := ?_) #[oY,oY,oY,oY,oN,oY,oY,oY,oN,oN,oN,oN] rfl rfl (by kernel_rfl) (fun _ _ _ h => h) (Or.inl ⟨by rfl, ?_⟩) hHeld ?_ ?_
   rotate_left
   ·rintro w' ⟨s0, s1, s2, s3⟩
    go_simp
    with_reducible rfl
   rotate_left
   ·simp only [Act.put, List.setIfInBounds_toArray, List.set_cons_zero, List.set_cons_succ, i64_w, i32_w]
    rfl
   refine one_ (i := 4) (N := some 19) #[oY,oY,oY,oY,oY,oY,oY,oY,oN,oN,oN,oN] rfl rfl (by kernel_rfl) (by decide) (fun K hK => ?_)
   refine goes_ Tryz.func93 (by kernel_rfl) rfl #[vp, .int .i64 s.f1, .float .f64 4607182418800017408] (by rfl) rfl rfl (by simp only [List.map_toArray, List.map_cons, List.map_nil]; rfl) ?_
   refine (E1.out _ h1.2.2.2).mono ?_
   rintro e w2 ⟨rfl, k2⟩
   refine ⟨_, rfl, ?_⟩
   have h2 := h1.fr k2
   refine hK.out _ _ ⟨h2.1, h2.2.1, h2.2.2.1, h2.2.2.2⟩ (fun hHeld => ?_)
   clear hK K
   refine norm_ (a' := ?_) ?_ ?_
   rotate_left
   ·show Act.put _ (some 19) _ = _
    simp only [Act.put, List.setIfInBounds_toArray, List.set_cons_zero, List.set_cons_succ, i64_w, i32_w]
    rfl
   refine one_ (i := 8) (N := some 23) #[oY,oY,oY,oY,oY,oY,oY,oY,oY,oN,oN,oN] rfl rfl (by kernel_rfl) (by decide) (fun K hK => ?_)
   refine goes_ Tryz.func93 (by kernel_rfl) rfl #[vp, .int .i64 s.f2, .float .f64 13830554455654793216] (by rfl) rfl rfl (by simp only [List.map_toArray, List.map_cons, List.map_nil]; rfl) ?_
   refine (E2.out _ h2.2.2.2).mono ?_
   rintro e w3 ⟨rfl, k3⟩
   refine ⟨_, rfl, ?_⟩
   have h3 := h2.fr k3
   refine hK.out _ _ ⟨h3.1, h3.2.1, h3.2.2.1, h3.2.2.2⟩ (fun hHeld => ?_)
   clear hK K
   refine norm_ (a' := ?_) ?_ ?_
   rotate_left
   ·show Act.put _ (some 23) _ = _
    simp only [Act.put, List.setIfInBounds_toArray, List.set_cons_zero, List.set_cons_succ, i64_w, i32_w]
    rfl
   refine one_ (i := 9) (N := some 24) #[oY,oY,oY,oY,oY,oY,oY,oY,oY,oY,oN,oN] rfl rfl (by kernel_rfl) (by decide) (fun K hK => ?_)
   refine value_ (w1 := ?_) (v := ?_) (by rfl) rfl ?_ ?_
   rotate_left 2
   ·go_simp
    constructor
    ·rfl
    ·rfl
   generalize hW : World.alloc w3 _ = w4
   have f4 : Fr (fun _ => False) w3 w4 := by subst hW; (repeat' (first | (with_reducible exact Fr.refl _ _) | (with_reducible assumption) | (with_reducible refine Fr.alloc ?_ _) | (with_reducible refine Fr.drew ?_) | (with_reducible refine Fr.drewN ?_ _) | (with_reducible refine Fr.setCell ?_ _ _ ?_) | (exact Or.inr rfl) | (left; simp; done) | (left; simp; omega) | (simp; done) | (simp; omega) | omega))
   have bN : Blk w4 w3.heap.size #[.complex .f64 F1 4607182418800017408, .complex .f64 F2 13830554455654793216] 95 := by subst hW; (repeat' (first | (with_reducible assumption) | (with_reducible apply Blk.drew) | (with_reducible apply Blk.drewN) | (with_reducible apply Blk.set) | (with_reducible apply Blk.other) | (exact Blk.new' _ _ _ (by first | rfl | (simp; done) | (simp; omega))) | (with_reducible apply Blk.alloc) | (with_reducible rfl) | (simp; done) | (simp; omega) | omega | rfl))
   clear hW
   have h4 := h3.fr f4
   refine hK.out _ _ ⟨h4.1, h4.2.1, h4.2.2.1, h4.2.2.2⟩ (fun hHeld => ?_)
   clear hK K
   refine norm_ (a' := ?_) ?_ ?_
   rotate_left
   ·show Act.put _ (some 24) _ = _
    simp only [Act.put, List.setIfInBounds_toArray, List.set_cons_zero, List.set_cons_succ, i64_w, i32_w]
    rfl
   refine last_ (i := 10) (N := some 25) #[oY,oY,oY,oY,oY,oY,oY,oY,oY,oY,oY,oN] rfl rfl (by kernel_rfl) (by decide) (fun K hK => ?_)
   refine step_append_lies _ rfl (.tmp 15) (.tmp 24) 96 rfl w1.heap.size 95 i0 _ 1 16 Tryz.underlying96 hi0 hz0 hsz0 hby0 rfl (by decide) u4 xs.length xs rfl h4.2.2.1 ⟨w3.heap.size, 0, none⟩ 2 2 [.complex .f64 F1 4607182418800017408, .complex .f64 F2 13830554455654793216] rfl rfl (World.news_of_block bN) (by simp [Value.oneCell']) (by decide) (by unfold maxLen; omega) (by omega) h4.2.2.2.size _ rfl ?_
   intro g2 cap2 w5 hown5 hg5 hat hlt5
   refine hK.out _ _ ?_
   clear hK K
   refine norm_ (a' := ?_) ?_ ?_
   rotate_left
   ·show Act.put _ (some 25) _ = _
    simp only [Act.put, List.setIfInBounds_toArray, List.set_cons_zero, List.set_cons_succ, i64_w, i32_w]
    rfl
   refine pure_ (i := 11) (N := some 4) (v := ?_) (a' := ?_) #[oY,oY,oY,oY,oY,oY,oY,oY,oY,oY,oY,oY] rfl rfl (by kernel_rfl) (fun _ _ _ h => h) (Or.inl ⟨by rfl, ?_⟩) ?_ ?_
   rotate_left
   ·intro w'
    go_simp
    with_reducible rfl
   rotate_left
   ·simp only [Act.put, List.setIfInBounds_toArray, List.set_cons_zero, List.set_cons_succ, i64_w, i32_w]
    rfl
   refine done_ (by kernel_rfl) ?_
   have f5 : Fr (fun _ => False) w1 w5 := Fr.grown h4.2.2.2 hg5 (fun j hj => .inl (h4.2.2.1.lt j hj).1)
   clear hHeld h4 h3 h2 h1 hg5 hat bN
   go_wp2
   go_roundw
   case rel => exact ⟨k + 1, by omega, by go_num, by rw [unF_snoc HS.out, List.map_append, ← HN.out, ← HX.out]; simpa using hown5, f5⟩
   case measure => simp [intOf]; omega
  ·obtain rfl : k = L.length := by omega
   clear hlt
   have ho := HO.out
   rw [List.take_length, List.length_map] at ho
   have h2 := unF_len P L
   rcases own_cs ho with ⟨hv, h0⟩ | ⟨g, cp, hv, h3, h4, h5, h6⟩
   ·have e0 : E = [] := by rw [HEE.out]; unfold endE; rw [← HE.out, h0]; simp
    subst hv e0
    clear ho h0 h2 HO HEE
    go_wp2_with fail
    refine (sortF_no none 0 _).mono ?_
    rintro e w2 ⟨rfl, rfl⟩
    go_wp2
    go_ret
    exact ⟨_, rfl, .inl ⟨rfl, rfl⟩, k1.trans hf (fun _ _ h => h)⟩
   ·subst hv
    obtain ⟨l, hl⟩ : ∃ l, l = unF P L := ⟨_, rfl⟩
    rw [← hl] at h6 h3 h2 ⊢
    have HL := hidE hl
    have S1 := hidE (sortF_at (cap := cp) h6 (by omega))
    have hlE : Hid (l.length = E.length) := hidE (by rw [HEE.out, end_len, h2])
    clear ho hl h2 HO h6
    go_wp2_with fail
    refine S1.out.mono ?_
    rintro e w2 ⟨rfl, l', hl', hm, h7, k7⟩
    have HM := hidE hm
    have HL' := hidE hl'
    clear hm hl'
    go_wp2
    go_ret
    refine ⟨_, rfl, .inr ⟨g, cp, l', by rw [hlE.out]; rfl, by omega, ?_, h7⟩, (k1.trans hf (fun _ _ h => h)).trans k7 (fun i h e => by omega)⟩
    rw [HM.out, HL.out, HE.out, HEE.out]
    rfl
theorem cmp_gt {a b : Int} (h : b < a) : (some (compare a b) == some Ordering.gt) = true ∧ (some (compare a b) == some Ordering.lt || some (compare a b) == some Ordering.eq) = false := by
  have e : compare a b = .gt := Int.compare_eq_gt.2 h
  rw [e]; exact ⟨rfl, rfl⟩
theorem cmp_ngt {a b : Int} (h : ¬ b < a) : (some (compare a b) == some Ordering.gt) = false ∧ (some (compare a b) == some Ordering.lt || some (compare a b) == some Ordering.eq) = true := by
  rcases Int.lt_trichotomy a b with c | c | c
  · have e : compare a b = .lt := Int.compare_eq_lt.2 c
    rw [e]; exact ⟨rfl, rfl⟩
  · have e : compare a b = .eq := Int.compare_eq_eq.2 c
    rw [e]; exact ⟨rfl, rfl⟩
  · exact absurd c h
theorem pre_bd {E : List (Nat × Bool)} : ∀ i : Nat, -(i : Int) ≤ preE E i ∧ preE E i ≤ i
  | 0 => by rw [preE_zero]; omega
  | i + 1 => by
    have := pre_bd (E := E) i
    cases h : E[i]? with
    | none =>
      have e : preE E (i + 1) = preE E i := by unfold preE; rw [List.take_add_one, h]; simp
      omega
    | some e =>
      have h2 := preE_succ h
      unfold sgE at h2
      split at h2 <;> omega
set_option maxHeartbeats 16000000 in
theorem hull_main {w : World} {A : Option Addr} {cap : Nat} {L : List S25} (hC : Kd.C k25 w A L.length L) (hc : L.length ≤ cap) (ho : okE L = true) :
    Calls Tryz.prog 25 #[.slice A L.length cap] w fun e w' => e = .returned (.tuple #[.int .i64 (hullZ L).1, .int .i64 (hullZ L).2.1, .int .i64 (hullZ L).2.2]) ∧ Fr (fun _ => False) w w' := by
  have hn : L.length ≤ 16 := by unfold okE at ho; simp at ho; exact ho.1
  have hb : (L.any fun s => !mayE s) = false := by
    unfold okE at ho
    rw [Bool.and_eq_true] at ho
    rw [List.any_eq_false]
    intro s hs
    have := List.all_eq_true.1 ho.2 s hs
    simp [this]
  have B1 := bad_any hC hc
  rw [hb] at B1
  obtain ⟨p1, p2, p3⟩ := pos_ok L
  have hsw := hull_of_sweep p1 p2 (fun s hs => (ok_lohi ho s hs).2.1) (end_perm L) (end_sorted L)
  have hPl := hidE (fun (W : World) (k : Fr (fun _ => False) w W) => places_at (Kd.C_below hC k.below) hc (by omega))
  have hEn := hidE (fun (W : World) (k : Fr (fun _ => False) w W) => ends_at (Kd.C_below hC k.below) hc (by omega))
  have hlen := end_len L
  have hmem : Hid (∀ (i : Nat) e, (endE L)[i]? = some e → e.1 < 64) := hidE (fun i e he => by
    have h1 := (end_perm L).mem_iff.1 (List.mem_of_getElem? he)
    obtain ⟨s, hs, h2⟩ := un_mem (r := e.1) (b := e.2) h1
    have := rk_len (posE L) (if e.2 = true then s.f1 else s.f2)
    omega)
  have hH := hullZ_no ho
  have hH2 := fun lo hi => hullZ_is (lo := lo) (hi := hi) ho
  obtain ⟨Hz, hHz⟩ : ∃ Hz, Hz = hullZ L := ⟨_, rfl⟩
  rw [← hHz] at hH hH2 ⊢
  obtain ⟨E, hE⟩ : ∃ E, E = endE L := ⟨_, rfl⟩
  obtain ⟨P, hP⟩ : ∃ P, P = posE L := ⟨_, rfl⟩
  rw [← hE] at hsw hEn hlen hmem
  rw [← hP] at hsw hPl p3
  have HSW := hidE hsw
  have HB := hidE B1
  have HH := hidE hH
  have HH2 := hidE hH2
  have HLN := hidE hlen
  have hf1 := hf_is (n := L.length) (by omega)
  have hfo := hidE (fun (z : Int) (h1 : -40 ≤ z) (h2 : z ≤ 40) => hf_ord (n := L.length) h1 h2 (by omega))
  obtain ⟨hh, hhh⟩ : ∃ hh, hh = hfE L.length := ⟨_, rfl⟩
  rw [← hhh] at hf1 hfo
  have hq : ∀ W, (binOp .quo 93 (.float .f64 (floatOfInt .f64 (L.length : Int))) (.float .f64 4611686018427387904)).run Tryz.prog W = .ok (.float .f64 hh) W := fun W => run_float_arith W .quo _ .f64 _ _ _ hf1
  have hgt : (L.length : Int) ≤ 16 := by omega
  have tgt : decide ((L.length : Int) > 16) = false := decide_eq_false (by omega)
  clear hC ho hb B1 p1 p2 hsw hHz hE hP hH hH2 hhh hf1 hlen
  go_enter Tryz.func25, Tryz.ntmps25
  go_wp2_with fail
  refine HB.out.mono ?_
  rintro e w1 ⟨rfl, k1⟩
  go_wp2_with fail
  refine (hPl.out _ k1).mono ?_
  rintro e w2 ⟨vp, rfl, hp2, k2⟩
  have f2 := k1.trans k2 (fun _ _ h => h)
  have HP2 := hidE hp2
  clear k1 k2 hp2
  go_wp2_with fail
  refine (hEn.out _ f2).mono ?_
  rintro e w3 ⟨ve, rfl, he3, k3⟩
  have f3 := f2.trans k3 (fun _ _ h => h)
  have HP3 := hidE (HP2.out.fr k3)
  clear k3 HP2 f2 hPl hEn HB hq
  obtain ⟨A3, c3, hve⟩ : ∃ A3 c3, ve = .slice A3 E.length c3 := by
    rcases he3 with ⟨h1, h2⟩ | ⟨g, c, l, h1, _⟩
    · exact ⟨none, 0, by rw [h1, h2]; rfl⟩
    · exact ⟨_, c, h1⟩
  subst hve
  have HE3 := hidE he3
  have hEl : E.length ≤ 32 := by have := HLN.out; omega
  clear he3
  go_wp2_with fail
  go_loopw [7, 8, 9, 30] (fun v7 v8 v9 v30 wr => ∃ (i re : Nat), i ≤ E.length ∧ re ≤ 9218868437227405312 ∧ v30 = .int .i64 (i : Int) ∧ v7 = .complex .f64 re (flE (swE L.length E i).1) ∧ v8 = .int .i64 (swE L.length E i).2.1 ∧ v9 = .int .i64 (swE L.length E i).2.2 ∧ Fr (fun _ => False) w3 wr) (fun _ _ _ v30 _ => E.length - (intOf v30).toNat)
  case atStart => exact ⟨0, 0, Nat.zero_le _, Nat.zero_le _, rfl, by rw [swE_zero]; simp only; rw [fl_zero], by rw [swE_zero], by rw [swE_zero], Fr.refl _ _⟩
  case round =>
    obtain ⟨i, re, hi, hre, rfl, rfl, rfl, rfl, hf⟩ := hrel
    have hpb := pre_bd (E := E) i
    have hsm := (swE_inv (n := (L.length : Int)) (by omega) E i hi).sum
    by_cases hlt : i < E.length
    · obtain ⟨g, c, l, hv, hg, hm, hcs⟩ : ∃ g c l, A3 = some ⟨g, 0, none⟩ ∧ (w3.heap.size ≤ g ∨ True) ∧ l.map toN = E ∧ CsE encE w3 g l := by
        rcases HE3.out with ⟨h1, h2⟩ | ⟨g, c, l, h1, _, h2, h3⟩
        · rw [h2] at hlt; simp at hlt
        · injection h1 with h1; exact ⟨g, c, l, h1, .inr trivial, h2, h3⟩
      subst hv
      obtain ⟨x, hx⟩ : ∃ x, l[i]? = some x := ⟨l[i]'(by rw [← hm] at hlt; simpa using hlt), List.getElem?_eq_getElem _⟩
      have hEx : E[i]? = some (toN x) := by rw [← hm, List.getElem?_map, hx]; rfl
      have hcell := (hf.cell (a := ⟨g, i, none⟩) hcs.2 (fun h => h)).trans (hcs.cell hx)
      have hst := swE_succ (n := (L.length : Int)) hEx
      have hx64 := hmem.out i _ hEx
      obtain ⟨S, hS⟩ : ∃ S, S = (swE L.length E i).1 := ⟨_, rfl⟩
      obtain ⟨F, hF⟩ : ∃ F, F = (swE L.length E i).2.1 := ⟨_, rfl⟩
      obtain ⟨B, hB⟩ : ∃ B, B = (swE L.length E i).2.2 := ⟨_, rfl⟩
      have hSFB : swE L.length E i = (S, F, B) := by rw [hS, hF, hB]
      rw [← hS, ← hF, ← hB]
      rw [hSFB] at hst hsm
      simp only at hsm
      obtain ⟨r, b⟩ := x
      obtain ⟨S', hS'⟩ : ∃ S', S' = S + sgE (toN (r, b)) := ⟨_, rfl⟩
      have hsg : sgE (toN (r, b)) = if b = true then 1 else -1 := rfl
      have hSb : -32 ≤ S ∧ S ≤ 32 := by omega
      have hSb' : -33 ≤ S' ∧ S' ≤ 33 := by rw [hS', hsg]; split <;> omega
      have oA := hfo.out S (by omega) (by omega)
      have oB := hfo.out S' (by omega) (by omega)
      obtain ⟨re', hre1, hre2⟩ := re_add hre (fl_low r.isLt)
      have him : floatBits .add .f64 (flE S) (imE b) = some (flE S') := by
        rw [hS', hsg]
        cases b
        · exact (im_add (by omega) (by omega)).2
        · exact (im_add (by omega) (by omega)).1
      have hadd : ∀ W, (binOp .add 95 (.complex .f64 re (flE S)) (.complex .f64 (flE (r.val : Int)) (imE b))).run Tryz.prog W = .ok (.complex .f64 re' (flE S')) W := fun W => run_complex_sum W .add (.inl rfl) _ .f64 _ _ _ _ _ _ (by unfold cSumBits; rw [hre1, him]; rfl)
      have hcv : ∀ W, (convert 93 3 (.float .f64 (flE (r.val : Int)))).run Tryz.prog W = .ok (.int .i64 (r.val : Int)) W := fun W => run_convert_float_int W _ _ .f64 .i64 _ _ (by rw [Tryz.underlying93]; rfl) Tryz.underlying3 (fl_int r.isLt)
      unfold encE at hcell
      have hST : swE L.length E (i + 1) = if (L.length : Int) < 2 * S' ∧ F < 0 then (S', (r.val : Int), B) else if (L.length : Int) < 2 * S ∧ ¬ (L.length : Int) < 2 * S' then (S', F, (r.val : Int)) else (S', F, B) := by rw [hst, hS']; rfl
      have HST := hidE hST
      have tA : (FloatKind.f64.format.order (flE S) hh == some Ordering.gt) = decide ((L.length : Int) < 2 * S) := by
        rw [oA]
        by_cases c : (L.length : Int) < 2 * S
        · rw [(cmp_gt c).1, decide_eq_true c]
        · rw [(cmp_ngt c).1, decide_eq_false c]
      have tB : (FloatKind.f64.format.order (flE S') hh == some Ordering.gt) = decide ((L.length : Int) < 2 * S') := by
        rw [oB]
        by_cases c : (L.length : Int) < 2 * S'
        · rw [(cmp_gt c).1, decide_eq_true c]
        · rw [(cmp_ngt c).1, decide_eq_false c]
      have tC : (FloatKind.f64.format.order (flE S') hh == some Ordering.lt || FloatKind.f64.format.order (flE S') hh == some Ordering.eq) = !decide ((L.length : Int) < 2 * S') := by
        rw [oB]
        by_cases c : (L.length : Int) < 2 * S'
        · rw [(cmp_gt c).2, decide_eq_true c]; rfl
        · rw [(cmp_ngt c).2, decide_eq_false c]; rfl
      have li : (i : Int) < (E.length : Int) := by omega
      obtain ⟨IA, hIA⟩ : ∃ IA, IA = flE S := ⟨_, rfl⟩
      obtain ⟨IB, hIB⟩ : ∃ IB, IB = flE S' := ⟨_, rfl⟩
      rw [← hIA] at hadd tA ⊢
      rw [← hIB] at hadd tB tC
      have HIB := hidE hIB
      generalize flE (r.val : Int) = FR at *
      generalize imE b = IM at *
      have hri : (0 : Int) ≤ (r.val : Int) := by omega
      generalize (r.val : Int) = R at *
      clear hst him hre1 hEx hx hm hcs hsm hpb hx64 hS' hS hF hB hSFB oA oB hST hIA hIB hsg hSb hSb'
      by_cases cA : (L.length : Int) < 2 * S
      · by_cases cB : (L.length : Int) < 2 * S'
        · by_cases cF : F < 0
          · have HN := hidE (HST.out.trans (if_pos ⟨cB, cF⟩))
            rw [decide_eq_true cA] at tA
            rw [decide_eq_true cB] at tB tC
            have tF : decide (F < 0) = true := decide_eq_true cF
            simp only [Bool.not_true, Bool.not_false] at tC
            clear cA cB cF HST
            go_wp2
            go_roundw
            case rel => exact ⟨i + 1, re', by omega, hre2, by go_num, by rw [HN.out, HIB.out], by rw [HN.out], by rw [HN.out], hf⟩
            case measure => simp [intOf]; omega
          · have HN := hidE ((HST.out.trans (if_neg (fun h => cF h.2))).trans (if_neg (fun h => h.2 cB)))
            rw [decide_eq_true cA] at tA
            rw [decide_eq_true cB] at tB tC
            have tF : decide (F < 0) = false := decide_eq_false cF
            simp only [Bool.not_true, Bool.not_false] at tC
            clear cA cB cF HST
            go_wp2
            go_roundw
            case rel => exact ⟨i + 1, re', by omega, hre2, by go_num, by rw [HN.out, HIB.out], by rw [HN.out], by rw [HN.out], hf⟩
            case measure => simp [intOf]; omega
        · by_cases cF : F < 0
          · have HN := hidE ((HST.out.trans (if_neg (fun h => cB h.1))).trans (if_pos ⟨cA, cB⟩))
            rw [decide_eq_true cA] at tA
            rw [decide_eq_false cB] at tB tC
            have tF : decide (F < 0) = true := decide_eq_true cF
            simp only [Bool.not_true, Bool.not_false] at tC
            clear cA cB cF HST
            go_wp2
            go_roundw
            case rel => exact ⟨i + 1, re', by omega, hre2, by go_num, by rw [HN.out, HIB.out], by rw [HN.out], by rw [HN.out], hf⟩
            case measure => simp [intOf]; omega
          · have HN := hidE ((HST.out.trans (if_neg (fun h => cB h.1))).trans (if_pos ⟨cA, cB⟩))
            rw [decide_eq_true cA] at tA
            rw [decide_eq_false cB] at tB tC
            have tF : decide (F < 0) = false := decide_eq_false cF
            simp only [Bool.not_true, Bool.not_false] at tC
            clear cA cB cF HST
            go_wp2
            go_roundw
            case rel => exact ⟨i + 1, re', by omega, hre2, by go_num, by rw [HN.out, HIB.out], by rw [HN.out], by rw [HN.out], hf⟩
            case measure => simp [intOf]; omega
      · by_cases cB : (L.length : Int) < 2 * S'
        · by_cases cF : F < 0
          · have HN := hidE (HST.out.trans (if_pos ⟨cB, cF⟩))
            rw [decide_eq_false cA] at tA
            rw [decide_eq_true cB] at tB tC
            have tF : decide (F < 0) = true := decide_eq_true cF
            simp only [Bool.not_true, Bool.not_false] at tC
            clear cA cB cF HST
            go_wp2
            go_roundw
            case rel => exact ⟨i + 1, re', by omega, hre2, by go_num, by rw [HN.out, HIB.out], by rw [HN.out], by rw [HN.out], hf⟩
            case measure => simp [intOf]; omega
          · have HN := hidE ((HST.out.trans (if_neg (fun h => cF h.2))).trans (if_neg (fun h => cA h.1)))
            rw [decide_eq_false cA] at tA
            rw [decide_eq_true cB] at tB tC
            have tF : decide (F < 0) = false := decide_eq_false cF
            simp only [Bool.not_true, Bool.not_false] at tC
            clear cA cB cF HST
            go_wp2
            go_roundw
            case rel => exact ⟨i + 1, re', by omega, hre2, by go_num, by rw [HN.out, HIB.out], by rw [HN.out], by rw [HN.out], hf⟩
            case measure => simp [intOf]; omega
        · by_cases cF : F < 0
          · have HN := hidE ((HST.out.trans (if_neg (fun h => cB h.1))).trans (if_neg (fun h => cA h.1)))
            rw [decide_eq_false cA] at tA
            rw [decide_eq_false cB] at tB tC
            have tF : decide (F < 0) = true := decide_eq_true cF
            simp only [Bool.not_true, Bool.not_false] at tC
            clear cA cB cF HST
            go_wp2
            go_roundw
            case rel => exact ⟨i + 1, re', by omega, hre2, by go_num, by rw [HN.out, HIB.out], by rw [HN.out], by rw [HN.out], hf⟩
            case measure => simp [intOf]; omega
          · have HN := hidE ((HST.out.trans (if_neg (fun h => cB h.1))).trans (if_neg (fun h => cA h.1)))
            rw [decide_eq_false cA] at tA
            rw [decide_eq_false cB] at tB tC
            have tF : decide (F < 0) = false := decide_eq_false cF
            simp only [Bool.not_true, Bool.not_false] at tC
            clear cA cB cF HST
            go_wp2
            go_roundw
            case rel => exact ⟨i + 1, re', by omega, hre2, by go_num, by rw [HN.out, HIB.out], by rw [HN.out], by rw [HN.out], hf⟩
            case measure => simp [intOf]; omega
    · obtain rfl : i = E.length := by omega
      clear hlt
      rcases HSW.out with ⟨h1, h2⟩ | ⟨a, b, lo, hi, h1, h2, h3, h4, h5⟩
      · rw [h1]
        have hz := HH.out h2
        subst hz
        clear h1 h2 hsm hpb HSW HH HH2
        go_wp2
        go_returns
        exact ⟨rfl, f3.trans hf (fun _ _ h => h)⟩
      · rw [h1, h2]
        have hz := HH2.out lo hi h5
        subst hz
        obtain ⟨g, c, hv, hg, hcs⟩ : ∃ g c, vp = .slice (some ⟨g, 0, none⟩) P.length c ∧ w1.heap.size ≤ g ∧ CsE (Value.int .i64) w3 g P := by
          rcases HP3.out with ⟨_, e⟩ | ⟨g, c, e1, e2, e3⟩
          · rw [e] at h3; simp at h3
          · exact ⟨g, c, e1, e2, e3⟩
        subst hv
        have ca := (hf.cell (a := ⟨g, a, none⟩) hcs.2 (fun h => h)).trans (hcs.cell h3)
        have cb := (hf.cell (a := ⟨g, b, none⟩) hcs.2 (fun h => h)).trans (hcs.cell h4)
        have la := (List.getElem?_eq_some_iff.1 h3).1
        have lb := (List.getElem?_eq_some_iff.1 h4).1
        have la1 : (a : Int) < (P.length : Int) := by omega
        have lb1 : (b : Int) < (P.length : Int) := by omega
        have la0 : (0 : Int) ≤ (a : Int) := by omega
        have lb0 : (0 : Int) ≤ (b : Int) := by omega
        have ta : decide ((a : Int) < 0) = false := decide_eq_false (by omega)
        clear h1 h2 h3 h4 h5 hsm hpb HSW HH HH2 hcs
        go_wp2_with fail
        go_quiet (fail)
        go_wp2
        go_returns
        exact ⟨rfl, (f3.trans hf (fun _ _ h => h)).trans (by (repeat' (first | (with_reducible exact Fr.refl _ _) | (with_reducible assumption) | (with_reducible refine Fr.alloc ?_ _) | (with_reducible refine Fr.drew ?_) | (with_reducible refine Fr.drewN ?_ _) | (with_reducible refine Fr.setCell ?_ _ _ ?_) | (exact Or.inr rfl) | (left; simp; done) | (left; simp; omega) | (simp; done) | (simp; omega) | omega))) (fun _ _ h => h)⟩
theorem hull_bad {w : World} {A : Option Addr} {cap : Nat} {L : List S25} (hC : Kd.C k25 w A L.length L) (hc : L.length ≤ cap) (ho : ¬ okE L = true) :
    Calls Tryz.prog 25 #[.slice A L.length cap] w fun e w' => e = .returned (.tuple #[.int .i64 0, .int .i64 0, .int .i64 1]) ∧ Fr (fun _ => False) w w' := by
  have hsz := C25_len hC
  by_cases hn : 16 < L.length
  · have t1 : decide ((L.length : Int) > 16) = true := decide_eq_true (by omega)
    have t2 : (16 : Int) < (L.length : Int) := by omega
    clear ho hC
    go_enter Tryz.func25, Tryz.ntmps25
    go_wp2_with fail
    go_returns
    exact ⟨rfl, by (repeat' (first | (with_reducible exact Fr.refl _ _) | (with_reducible assumption) | (with_reducible refine Fr.alloc ?_ _) | (with_reducible refine Fr.drew ?_) | (with_reducible refine Fr.drewN ?_ _) | (with_reducible refine Fr.setCell ?_ _ _ ?_) | (exact Or.inr rfl) | (left; simp; done) | (left; simp; omega) | (simp; done) | (simp; omega) | omega))⟩
  · have t1 : decide ((L.length : Int) > 16) = false := decide_eq_false (by omega)
    have t2 : (L.length : Int) ≤ 16 := by omega
    have hb : (L.any fun s => !mayE s) = true := by
      cases h : (L.any fun s => !mayE s) with
      | true => rfl
      | false =>
        refine absurd ?_ ho
        unfold okE
        rw [Bool.and_eq_true]
        refine ⟨by simp; omega, List.all_eq_true.2 fun s hs => ?_⟩
        rw [List.any_eq_false] at h
        have := h s hs
        simpa using this
    have B1 := bad_any hC hc
    rw [hb] at B1
    have HB := hidE B1
    clear ho hC hb B1
    go_enter Tryz.func25, Tryz.ntmps25
    go_wp2_with fail
    refine HB.out.mono ?_
    rintro e w1 ⟨rfl, k1⟩
    go_wp2_with fail
    go_returns
    exact ⟨rfl, k1⟩
theorem hull_at {w : World} {A : Option Addr} {cap : Nat} {L : List S25} (hC : Kd.C k25 w A L.length L) (hc : L.length ≤ cap) :
    Calls Tryz.prog 25 #[.slice A L.length cap] w fun e w' => e = .returned (.tuple #[.int .i64 (hullZ L).1, .int .i64 (hullZ L).2.1, .int .i64 (hullZ L).2.2]) ∧ Fr (fun _ => False) w w' := by
  by_cases ho : okE L = true
  · exact hull_main hC hc ho
  · rw [hullZ_bad ho]
    exact hull_bad hC hc ho
end Go.Proofs.YtapagoaoglmegaaGreat
end
