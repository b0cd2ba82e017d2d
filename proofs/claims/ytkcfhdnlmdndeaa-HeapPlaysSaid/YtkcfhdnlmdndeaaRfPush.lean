/- The document's heap: Push. -/
import Derived.Test.YtkcfhdnlmdndeaaRfDown
namespace Go.Proofs.Ytkcfhdnlmdndeaa
open Go.RowKit Go.Proofs.YtkcfhdnlmdndeaaW.PrintWords Go.Proofs.YtkcfhdnlmdndeaaW.PrintLast Go.Proofs.YtkcfhdnlmdndeaaW.PrintMore PHp
set_option linter.unusedVariables false
set_option linter.unusedSimpArgs false
set_option maxRecDepth 100000
/-- The document's heap of items L, at most size: its struct is block g, its row v. -/
structure RH (w : World) (g : Nat) (v : Value) (L : List It) (size : Int) : Prop where
 blk : Blk w g #[v, .int .i64 size] 61
 row : w.ownsRow 0 50 3 v L.length (flat L)
 len : (L.length : Int) ≤ size
 sz : size ≤ 1048576
def Rt (g : Nat) (v : Value) (i : Nat) : Prop := i = g ∨ v.ownBlock = some i
section
variable {w w' : World} {g : Nat} {v : Value} {L : List It} {size : Int}
theorem RH.form (h : RH w g v L size) : (v = .slice none 0 0 ∧ L = []) ∨ ∃ r cap, v = .slice (some ⟨r, 0, none⟩) L.length cap ∧ Rh w g r cap L size := by
 rcases h.row.2 with ⟨rfl, e⟩ | ⟨r, cap, cur, rfl, _⟩
 ·exact .inl ⟨rfl, List.eq_nil_of_length_eq_zero e⟩
 ·obtain ⟨hr, hc⟩ := Row.of_owns h.row rfl
  exact .inr ⟨r, cap, rfl, h.blk, hr, hc, hr.ne h.blk (by decide)⟩
theorem RH.of {r cap : Nat} (h : Rh w g r cap L size) (hl : (L.length : Int) ≤ size) (hs : size ≤ 1048576) : RH w g (.slice (some ⟨r, 0, none⟩) L.length cap) L size :=
 ⟨h.blk, h.row.owns h.cap, hl, hs⟩
theorem RH.fr {S : Nat → Prop} (h : RH w g v L size) (k : Fr S w w') (hs : ∀ i, Rt g v i → ¬ S i) : RH w' g v L size :=
 ⟨h.blk.fr k (hs g (.inl rfl)), own_fr h.row k (fun g e => hs g (.inr e)), h.len, h.sz⟩
theorem RH.fr0 (h : RH w g v L size) (k : Fr (fun _ => False) w w') : RH w' g v L size := h.fr k (fun _ _ h => h)
theorem RH.small (h : RH w g v L size) : L.length ≤ 1048576 := by have := h.len; have := h.sz; omega
theorem RH.lt (h : RH w g v L size) : ∀ i, Rt g v i → i < w.heap.size := by
 rintro i (rfl | e)
 ·exact h.blk.lt
 ·exact (h.row.lt i e).2
theorem RH.its (h : RH w g v L size) : Its w v L := by
 rcases h.form with ⟨rfl, rfl⟩ | ⟨r, cap, rfl, hr⟩
 ·exact ⟨none, 0, rfl, Nat.le_refl _, by decide, fun h => absurd h (by decide)⟩
 ·exact hr.its
end
theorem up_samk {l : List It} {k : Nat} (h : (up k l k).2 = k) : (up k l k).1 = l := by
 by_cases hc : 0 < k ∧ ahead (nth l k) (nth l ((k - 1) / 4)) = true
 ·rw [up_go hc.1 hc.2] at h
  have := up_le ((k - 1) / 4) (swp l k ((k - 1) / 4)) ((k - 1) / 4)
  have h0 := hc.1
  omega
 ·rw [up_stop hc]
theorem settle_leaf {l : List It} {k : Nat} (h : k + 1 = l.length) : (up k l k).1 = settle l k := by
 unfold settle
 split
 ·rename_i e
  rw [up_samk e, down_stop (by omega)]
  have := bestTo_stop (l := l) (j := k) (c := 0) (by omega) 4
  rw [Nat.zero_add] at this
  rw [this]; rfl
 ·rfl
theorem infoRf : (Try.prog.info? 50).map (fun i => (i.zero, i.size, i.bytes)) = some (some (.agg #[.int .u64 0, .int .u64 0, .int .i64 0]), 3, 24) := by kernel_rfl
set_option maxHeartbeats 2000000 in
theorem rpush_no {w : World} {g : Nat} {v : Value} {L : List It} {size : Int} {x : It} (h : RH w g v L size) (hE : pushE L size x ≠ 0) :
  Calls Try.prog 24 #[.pointer (some ⟨g, 0, none⟩), vI x] w fun e w' => e = .returned (.int .i64 (pushE L size x)) ∧ Fr (fun _ => False) w w' := by
 have H := hid h
 cases hp : place L x.f0 with
 | some i =>
  have e9 : pushE L size x = 9 := by unfold pushE; rw [hp]; rfl
  rw [e9]
  have HI := hid (plI_some hp)
  clear h hE e9 hp
  go_enter Try.func24, Try.ntmps24
  go_wp2_with fail
  generalize hW : World.alloc w _ = W
  have f0 : Fr (fun _ => False) w W := by subst hW; (repeat' (first | (with_reducible exact Fr.refl _ _) | (with_reducible assumption) | (with_reducible refine Fr.alloc ?_ _) | (with_reducible refine Fr.drew ?_) | (with_reducible refine Fr.drewN ?_ _) | (with_reducible refine Fr.setCell ?_ _ _ ?_) | (exact Or.inr rfl) | (left; simp; done) | (left; simp; omega) | (simp; done) | (simp; omega) | omega))
  have bX : Blk W w.heap.size #[.int .u64 x.f0, .int .u64 x.f1, .int .i64 x.f2] 50 := by subst hW; (repeat' (first | (with_reducible assumption) | (with_reducible apply Blk.drew) | (with_reducible apply Blk.drewN) | (with_reducible apply Blk.set) | (with_reducible apply Blk.other) | (exact Blk.new' _ _ _ (by first | rfl | (simp; done) | (simp; omega))) | (with_reducible apply Blk.alloc) | (with_reducible rfl) | (simp; done) | (simp; omega) | omega | rfl))
  clear hW
  have hg := (H.out.fr0 f0).blk.lt
  have hx := bX.lt
  refine (rplace_at (H.out.fr0 f0).blk (H.out.fr0 f0).its).mono ?_
  rintro e w1 ⟨rfl, rfl⟩
  rw [HI.out]
  go_wp2
  go_ret
  exact ⟨rfl, f0⟩
 | none =>
  have e7 : pushE L size x = 7 ∧ size ≤ L.length := by
   unfold pushE at hE ⊢
   rw [hp] at hE ⊢
   rw [if_neg (by decide)] at hE ⊢
   by_cases hl : size ≤ L.length
   ·exact ⟨if_pos hl, hl⟩
   ·rw [if_neg hl] at hE; exact absurd rfl hE
  obtain ⟨e7, hl⟩ := e7
  rw [e7]
  have HI := hid (plI_none hp)
  have hlen : ∃ n c a, v = .slice a n c ∧ n = L.length := by
   rcases H.out.form with ⟨rfl, rfl⟩ | ⟨g, cap, rfl, _⟩
   ·exact ⟨0, 0, none, rfl, rfl⟩
   ·exact ⟨L.length, cap, _, rfl, rfl⟩
  obtain ⟨n, c, a, hv, hn⟩ := hlen
  have HV := hid hv
  have t1 : decide (size ≤ (n : Int)) = true := decide_eq_true (by omega)
  clear h hE e7 hp hv hn hl
  go_enter Try.func24, Try.ntmps24
  go_wp2_with fail
  generalize hW : World.alloc w _ = W
  have f0 : Fr (fun _ => False) w W := by subst hW; (repeat' (first | (with_reducible exact Fr.refl _ _) | (with_reducible assumption) | (with_reducible refine Fr.alloc ?_ _) | (with_reducible refine Fr.drew ?_) | (with_reducible refine Fr.drewN ?_ _) | (with_reducible refine Fr.setCell ?_ _ _ ?_) | (exact Or.inr rfl) | (left; simp; done) | (left; simp; omega) | (simp; done) | (simp; omega) | omega))
  have bX : Blk W w.heap.size #[.int .u64 x.f0, .int .u64 x.f1, .int .i64 x.f2] 50 := by subst hW; (repeat' (first | (with_reducible assumption) | (with_reducible apply Blk.drew) | (with_reducible apply Blk.drewN) | (with_reducible apply Blk.set) | (with_reducible apply Blk.other) | (exact Blk.new' _ _ _ (by first | rfl | (simp; done) | (simp; omega))) | (with_reducible apply Blk.alloc) | (with_reducible rfl) | (simp; done) | (simp; omega) | omega | rfl))
  clear hW
  have h1 := H.out.fr0 f0
  refine (rplace_at h1.blk h1.its).mono ?_
  rintro e w1 ⟨rfl, rfl⟩
  rw [HI.out]
  have b0 := h1.blk.cell 0
  have b1 := h1.blk.cell 1
  rw [HV.out] at b0
  simp at b0 b1
  go_wp2_with fail
  have ms6 : W.drew.cell? ⟨g, 0, none⟩ = some (.slice a n c) ∧ W.drew.cell? ⟨g, 1, none⟩ = some (.int .i64 size) ∧ Fr (fun _ => False) W W.drew := ⟨b0, b1, Fr.drew (Fr.refl _ _)⟩
  refine start_ (n := 10) (S := fun w' => w'.cell? ⟨g, 0, none⟩ = some (.slice a n c) ∧ w'.cell? ⟨g, 1, none⟩ = some (.int .i64 size) ∧ Fr (fun _ => False) W w') (ds := []) #[oN,oN,oN,oN,oN,oN,oN,oN,oN,oN] (by kernel_rfl) rfl rfl ⟨ms6.1, ms6.2.1, ms6.2.2⟩ (fun hHeld => ?_)
  refine pure_ (i := 0) (N := some 10) (v := ?_) (a' := ?_) #[oY,oN,oN,oN,oN,oN,oN,oN,oN,oN] rfl rfl (by kernel_rfl) (fun _ _ _ h => h) (Or.inl ⟨by rfl, ?_⟩) ?_ ?_
  rotate_left
  ·intro w'
   go_simp
   with_reducible rfl
  rotate_left
  ·simp only [Act.put, List.setIfInBounds_toArray, List.set_cons_zero, List.set_cons_succ, i64_w, i32_w]
   rfl
  refine pure_ (i := 1) (N := some 11) (v := ?_) (a' := ?_) #[oY,oY,oN,oN,oN,oN,oN,oN,oN,oN] rfl rfl (by kernel_rfl) (fun _ _ _ h => h) (Or.inl ⟨by rfl, ?_⟩) ?_ ?_
  rotate_left
  ·intro w'
   go_simp
   with_reducible rfl
  rotate_left
  ·simp only [Act.put, List.setIfInBounds_toArray, List.set_cons_zero, List.set_cons_succ, i64_w, i32_w]
   rfl
  refine pure_ (i := 2) (N := some 12) (v := ?_) (a' := ?_) #[oY,oY,oY,oN,oN,oN,oN,oN,oN,oN] rfl rfl (by kernel_rfl) (fun _ _ _ h => h) (Or.inl ⟨by rfl, ?_⟩) ?_ ?_
  rotate_left
  ·intro w'
   go_simp
   with_reducible rfl
  rotate_left
  ·simp only [Act.put, List.setIfInBounds_toArray, List.set_cons_zero, List.set_cons_succ, i64_w, i32_w]
   rfl
  refine pure_ (i := 5) (N := some 15) (v := ?_) (a' := ?_) #[oY,oY,oY,oN,oN,oY,oN,oN,oN,oN] rfl rfl (by kernel_rfl) (fun _ _ _ h => h) (Or.inl ⟨by rfl, ?_⟩) ?_ ?_
  rotate_left
  ·intro w'
   go_simp
   with_reducible rfl
  rotate_left
  ·simp only [Act.put, List.setIfInBounds_toArray, List.set_cons_zero, List.set_cons_succ, i64_w, i32_w]
   rfl
  refine pure_ (i := 6) (N := some 16) (v := ?_) (a' := ?_) #[oY,oY,oY,oN,oN,oY,oY,oN,oN,oN] rfl rfl (by kernel_rfl) (fun _ _ _ h => h) (Or.inl ⟨by rfl, ?_⟩) ?_ ?_
  rotate_left
  ·intro w'
   go_simp
   with_reducible rfl
  rotate_left
  ·simp only [Act.put, List.setIfInBounds_toArray, List.set_cons_zero, List.set_cons_succ, i64_w, i32_w]
   rfl
  refine pure_ (i := 7) (N := some 17) (v := ?_) (a' := ?_) #[oY,oY,oY,oN,oN,oY,oY,oY,oN,oN] rfl rfl (by kernel_rfl) (fun _ _ _ h => h) (Or.inl ⟨by rfl, ?_⟩) ?_ ?_
  rotate_left
  ·intro w'
   go_simp
   with_reducible rfl
  rotate_left
  ·simp only [Act.put, List.setIfInBounds_toArray, List.set_cons_zero, List.set_cons_succ, i64_w, i32_w]
   rfl
  refine take_ (i := 3) (N := some 13) (v := ?_) (a' := ?_) #[oY,oY,oY,oY,oN,oY,oY,oY,oN,oN] rfl rfl (by kernel_rfl) (fun _ _ _ h => h) (Or.inl ⟨by rfl, ?_⟩) hHeld ?_ ?_
  rotate_left
  ·rintro w' ⟨s0, s1, s2⟩
   go_simp
   with_reducible rfl
  rotate_left
  ·simp only [Act.put, List.setIfInBounds_toArray, List.set_cons_zero, List.set_cons_succ, i64_w, i32_w]
   rfl
  refine pure_ (i := 4) (N := some 14) (v := ?_) (a' := ?_) #[oY,oY,oY,oY,oY,oY,oY,oY,oN,oN] rfl rfl (by kernel_rfl) (fun _ _ _ h => h) (Or.inl ⟨by rfl, ?_⟩) ?_ ?_
  rotate_left
  ·intro w'
   go_simp
   with_reducible rfl
  rotate_left
  ·simp only [Act.put, List.setIfInBounds_toArray, List.set_cons_zero, List.set_cons_succ, i64_w, i32_w]
   rfl
  refine take_ (i := 8) (N := some 18) (v := ?_) (a' := ?_) #[oY,oY,oY,oY,oY,oY,oY,oY,oY,oN] rfl rfl (by kernel_rfl) (fun _ _ _ h => h) (Or.inl ⟨by rfl, ?_⟩) hHeld ?_ ?_
  rotate_left
  ·rintro w' ⟨s0, s1, s2⟩
   go_simp
   with_reducible rfl
  rotate_left
  ·simp only [Act.put, List.setIfInBounds_toArray, List.set_cons_zero, List.set_cons_succ, i64_w, i32_w]
   rfl
  refine pure_ (i := 9) (N := some 19) (v := ?_) (a' := ?_) #[oY,oY,oY,oY,oY,oY,oY,oY,oY,oY] rfl rfl (by kernel_rfl) (fun _ _ _ h => h) (Or.inl ⟨by rfl, ?_⟩) ?_ ?_
  rotate_left
  ·intro w'
   go_simp
   with_reducible rfl
  rotate_left
  ·simp only [Act.put, List.setIfInBounds_toArray, List.set_cons_zero, List.set_cons_succ, i64_w, i32_w]
   rfl
  refine done_ (by kernel_rfl) ?_
  have f3 := hHeld.2.2
  go_wp2
  go_ret
  exact ⟨rfl, f0.trans f3 (fun _ _ h => h)⟩
set_option maxHeartbeats 2000000 in
theorem rpush_ok {w : World} {g : Nat} {v : Value} {L : List It} {size : Int} {x : It} (h : RH w g v L size) (hp : place L x.f0 = none) (hl : (L.length : Int) < size) :
  Calls Try.prog 24 #[.pointer (some ⟨g, 0, none⟩), vI x] w fun e w' => e = .returned (.int .i64 0) ∧
   ∃ v', RH w' g v' (settle (L ++ [x]) L.length) size ∧ (∀ i, v'.ownBlock = some i → v.ownBlock = some i ∨ w.heap.size ≤ i) ∧ Fr (Rt g v) w w' := by
 have H := hid h
 have HI := hid (plI_none hp)
 have hsm := h.small
 have hlen : ∃ n c a, v = .slice a n c ∧ n = L.length := by
  rcases H.out.form with ⟨rfl, rfl⟩ | ⟨g, cap, rfl, _⟩
  ·exact ⟨0, 0, none, rfl, rfl⟩
  ·exact ⟨L.length, cap, _, rfl, rfl⟩
 obtain ⟨n, c, a, hv, hn⟩ := hlen
 have HV := hid hv
 have HN := hid hn
 have t1 : decide (size ≤ (n : Int)) = false := decide_eq_false (by omega)
 have hn2 : n ≤ 1048576 := by omega
 clear h hp hv hn
 go_enter Try.func24, Try.ntmps24
 go_wp2_with fail
 generalize hW : World.alloc w _ = W
 have f0 : Fr (fun _ => False) w W := by subst hW; (repeat' (first | (with_reducible exact Fr.refl _ _) | (with_reducible assumption) | (with_reducible refine Fr.alloc ?_ _) | (with_reducible refine Fr.drew ?_) | (with_reducible refine Fr.drewN ?_ _) | (with_reducible refine Fr.setCell ?_ _ _ ?_) | (exact Or.inr rfl) | (left; simp; done) | (left; simp; omega) | (simp; done) | (simp; omega) | omega))
 have bX : Blk W w.heap.size #[.int .u64 x.f0, .int .u64 x.f1, .int .i64 x.f2] 50 := by subst hW; (repeat' (first | (with_reducible assumption) | (with_reducible apply Blk.drew) | (with_reducible apply Blk.drewN) | (with_reducible apply Blk.set) | (with_reducible apply Blk.other) | (exact Blk.new' _ _ _ (by first | rfl | (simp; done) | (simp; omega))) | (with_reducible apply Blk.alloc) | (with_reducible rfl) | (simp; done) | (simp; omega) | omega | rfl))
 clear hW
 have h1 := H.out.fr0 f0
 refine (rplace_at h1.blk h1.its).mono ?_
 rintro e w1 ⟨rfl, rfl⟩
 rw [HI.out]
 have b0 := h1.blk.cell 0
 have b1 := h1.blk.cell 1
 rw [HV.out] at b0
 simp at b0 b1
 go_wp2_with fail
 have ms6 : W.drew.cell? ⟨g, 0, none⟩ = some (.slice a n c) ∧ W.drew.cell? ⟨g, 1, none⟩ = some (.int .i64 size) ∧ Fr (fun _ => False) W W.drew := ⟨b0, b1, Fr.drew (Fr.refl _ _)⟩
 refine start_ (n := 10) (S := fun w' => w'.cell? ⟨g, 0, none⟩ = some (.slice a n c) ∧ w'.cell? ⟨g, 1, none⟩ = some (.int .i64 size) ∧ Fr (fun _ => False) W w') (ds := []) #[oN,oN,oN,oN,oN,oN,oN,oN,oN,oN] (by kernel_rfl) rfl rfl ⟨ms6.1, ms6.2.1, ms6.2.2⟩ (fun hHeld => ?_)
 refine pure_ (i := 0) (N := some 10) (v := ?_) (a' := ?_) #[oY,oN,oN,oN,oN,oN,oN,oN,oN,oN] rfl rfl (by kernel_rfl) (fun _ _ _ h => h) (Or.inl ⟨by rfl, ?_⟩) ?_ ?_
 rotate_left
 ·intro w'
  go_simp
  with_reducible rfl
 rotate_left
 ·simp only [Act.put, List.setIfInBounds_toArray, List.set_cons_zero, List.set_cons_succ, i64_w, i32_w]
  rfl
 refine pure_ (i := 1) (N := some 11) (v := ?_) (a' := ?_) #[oY,oY,oN,oN,oN,oN,oN,oN,oN,oN] rfl rfl (by kernel_rfl) (fun _ _ _ h => h) (Or.inl ⟨by rfl, ?_⟩) ?_ ?_
 rotate_left
 ·intro w'
  go_simp
  with_reducible rfl
 rotate_left
 ·simp only [Act.put, List.setIfInBounds_toArray, List.set_cons_zero, List.set_cons_succ, i64_w, i32_w]
  rfl
 refine pure_ (i := 2) (N := some 12) (v := ?_) (a' := ?_) #[oY,oY,oY,oN,oN,oN,oN,oN,oN,oN] rfl rfl (by kernel_rfl) (fun _ _ _ h => h) (Or.inl ⟨by rfl, ?_⟩) ?_ ?_
 rotate_left
 ·intro w'
  go_simp
  with_reducible rfl
 rotate_left
 ·simp only [Act.put, List.setIfInBounds_toArray, List.set_cons_zero, List.set_cons_succ, i64_w, i32_w]
  rfl
 refine pure_ (i := 5) (N := some 15) (v := ?_) (a' := ?_) #[oY,oY,oY,oN,oN,oY,oN,oN,oN,oN] rfl rfl (by kernel_rfl) (fun _ _ _ h => h) (Or.inl ⟨by rfl, ?_⟩) ?_ ?_
 rotate_left
 ·intro w'
  go_simp
  with_reducible rfl
 rotate_left
 ·simp only [Act.put, List.setIfInBounds_toArray, List.set_cons_zero, List.set_cons_succ, i64_w, i32_w]
  rfl
 refine pure_ (i := 6) (N := some 16) (v := ?_) (a' := ?_) #[oY,oY,oY,oN,oN,oY,oY,oN,oN,oN] rfl rfl (by kernel_rfl) (fun _ _ _ h => h) (Or.inl ⟨by rfl, ?_⟩) ?_ ?_
 rotate_left
 ·intro w'
  go_simp
  with_reducible rfl
 rotate_left
 ·simp only [Act.put, List.setIfInBounds_toArray, List.set_cons_zero, List.set_cons_succ, i64_w, i32_w]
  rfl
 refine pure_ (i := 7) (N := some 17) (v := ?_) (a' := ?_) #[oY,oY,oY,oN,oN,oY,oY,oY,oN,oN] rfl rfl (by kernel_rfl) (fun _ _ _ h => h) (Or.inl ⟨by rfl, ?_⟩) ?_ ?_
 rotate_left
 ·intro w'
  go_simp
  with_reducible rfl
 rotate_left
 ·simp only [Act.put, List.setIfInBounds_toArray, List.set_cons_zero, List.set_cons_succ, i64_w, i32_w]
  rfl
 refine take_ (i := 3) (N := some 13) (v := ?_) (a' := ?_) #[oY,oY,oY,oY,oN,oY,oY,oY,oN,oN] rfl rfl (by kernel_rfl) (fun _ _ _ h => h) (Or.inl ⟨by rfl, ?_⟩) hHeld ?_ ?_
 rotate_left
 ·rintro w' ⟨s0, s1, s2⟩
  go_simp
  with_reducible rfl
 rotate_left
 ·simp only [Act.put, List.setIfInBounds_toArray, List.set_cons_zero, List.set_cons_succ, i64_w, i32_w]
  rfl
 refine pure_ (i := 4) (N := some 14) (v := ?_) (a' := ?_) #[oY,oY,oY,oY,oY,oY,oY,oY,oN,oN] rfl rfl (by kernel_rfl) (fun _ _ _ h => h) (Or.inl ⟨by rfl, ?_⟩) ?_ ?_
 rotate_left
 ·intro w'
  go_simp
  with_reducible rfl
 rotate_left
 ·simp only [Act.put, List.setIfInBounds_toArray, List.set_cons_zero, List.set_cons_succ, i64_w, i32_w]
  rfl
 refine take_ (i := 8) (N := some 18) (v := ?_) (a' := ?_) #[oY,oY,oY,oY,oY,oY,oY,oY,oY,oN] rfl rfl (by kernel_rfl) (fun _ _ _ h => h) (Or.inl ⟨by rfl, ?_⟩) hHeld ?_ ?_
 rotate_left
 ·rintro w' ⟨s0, s1, s2⟩
  go_simp
  with_reducible rfl
 rotate_left
 ·simp only [Act.put, List.setIfInBounds_toArray, List.set_cons_zero, List.set_cons_succ, i64_w, i32_w]
  rfl
 refine pure_ (i := 9) (N := some 19) (v := ?_) (a' := ?_) #[oY,oY,oY,oY,oY,oY,oY,oY,oY,oY] rfl rfl (by kernel_rfl) (fun _ _ _ h => h) (Or.inl ⟨by rfl, ?_⟩) ?_ ?_
 rotate_left
 ·intro w'
  go_simp
  with_reducible rfl
 rotate_left
 ·simp only [Act.put, List.setIfInBounds_toArray, List.set_cons_zero, List.set_cons_succ, i64_w, i32_w]
  rfl
 refine done_ (by kernel_rfl) ?_
 have f3 := hHeld.2.2
 clear hHeld ms6 t1 b0 b1
 have F3 := f0.trans f3 (fun _ _ h => h)
 have h3 := H.out.fr0 F3
 have bX3 := bX.fr f3 (fun h => h)
 clear h1 bX f3 f0
 generalize hw3 : World.drew W = w3 at *
 have b0 := h3.blk.cell 0
 rw [HV.out] at b0
 obtain ⟨x0, x1, x2, _⟩ := bX3.c3
 simp at b0
 go_wp2_with fail
 have ms8 : w3.drew.cell? ⟨g, 0, none⟩ = some (.slice a n c) ∧ w3.drew.cell? ⟨w.heap.size, 0, none⟩ = some (.int .u64 x.f0) ∧ w3.drew.cell? ⟨w.heap.size, 1, none⟩ = some (.int .u64 x.f1) ∧ w3.drew.cell? ⟨w.heap.size, 2, none⟩ = some (.int .i64 x.f2) := ⟨b0, x0, x1, x2⟩
 obtain ⟨i0, hi0, hz0, hsz0, hby0⟩ : ∃ i0, Try.prog.info? 50 = some i0 ∧ i0.zero = some (.agg #[.int .u64 0, .int .u64 0, .int .i64 0]) ∧ i0.size = 3 ∧ i0.bytes = 24 := by
  obtain ⟨i0, h1, h2⟩ := Option.map_eq_some_iff.1 infoRf
  simp only [Prod.mk.injEq] at h2
  exact ⟨i0, h1, h2.1, h2.2.1, h2.2.2⟩
 refine start_ (n := 11) (S := fun w' => w'.cell? ⟨g, 0, none⟩ = some (.slice a n c) ∧ w'.cell? ⟨w.heap.size, 0, none⟩ = some (.int .u64 x.f0) ∧ w'.cell? ⟨w.heap.size, 1, none⟩ = some (.int .u64 x.f1) ∧ w'.cell? ⟨w.heap.size, 2, none⟩ = some (.int .i64 x.f2)) (ds := [10]) #[oN,oN,oN,oN,oN,oN,oN,oN,oN,oN,oN] (by kernel_rfl) rfl rfl ⟨ms8.1, ms8.2.1, ms8.2.2.1, ms8.2.2.2⟩ (fun hHeld => ?_)
 refine pure_ (i := 0) (N := some 20) (v := ?_) (a' := ?_) #[oY,oN,oN,oN,oN,oN,oN,oN,oN,oN,oN] rfl rfl (by kernel_rfl) (fun _ _ _ h => h) (Or.inl ⟨by rfl, ?_⟩) ?_ ?_
 rotate_left
 ·intro w'
  go_simp
  with_reducible rfl
 rotate_left
 ·simp only [Act.put, List.setIfInBounds_toArray, List.set_cons_zero, List.set_cons_succ, i64_w, i32_w]
  rfl
 refine pure_ (i := 1) (N := some 21) (v := ?_) (a' := ?_) #[oY,oY,oN,oN,oN,oN,oN,oN,oN,oN,oN] rfl rfl (by kernel_rfl) (fun _ _ _ h => h) (Or.inl ⟨by rfl, ?_⟩) ?_ ?_
 rotate_left
 ·intro w'
  go_simp
  with_reducible rfl
 rotate_left
 ·simp only [Act.put, List.setIfInBounds_toArray, List.set_cons_zero, List.set_cons_succ, i64_w, i32_w]
  rfl
 refine pure_ (i := 2) (N := some 22) (v := ?_) (a' := ?_) #[oY,oY,oY,oN,oN,oN,oN,oN,oN,oN,oN] rfl rfl (by kernel_rfl) (fun _ _ _ h => h) (Or.inl ⟨by rfl, ?_⟩) ?_ ?_
 rotate_left
 ·intro w'
  go_simp
  with_reducible rfl
 rotate_left
 ·simp only [Act.put, List.setIfInBounds_toArray, List.set_cons_zero, List.set_cons_succ, i64_w, i32_w]
  rfl
 refine pure_ (i := 3) (N := some 23) (v := ?_) (a' := ?_) #[oY,oY,oY,oY,oN,oN,oN,oN,oN,oN,oN] rfl rfl (by kernel_rfl) (fun _ _ _ h => h) (Or.inl ⟨by rfl, ?_⟩) ?_ ?_
 rotate_left
 ·intro w'
  go_simp
  with_reducible rfl
 rotate_left
 ·simp only [Act.put, List.setIfInBounds_toArray, List.set_cons_zero, List.set_cons_succ, i64_w, i32_w]
  rfl
 refine take_ (i := 4) (N := some 24) (v := ?_) (a' := ?_) #[oY,oY,oY,oY,oY,oN,oN,oN,oN,oN,oN] rfl rfl (by kernel_rfl) (fun _ _ _ h => h) (Or.inl ⟨by rfl, ?_⟩) hHeld ?_ ?_
 rotate_left
 ·rintro w' ⟨s0, s1, s2, s3⟩
  go_simp
  with_reducible rfl
 rotate_left
 ·simp only [Act.put, List.setIfInBounds_toArray, List.set_cons_zero, List.set_cons_succ, i64_w, i32_w]
  rfl
 refine take_ (i := 5) (N := some 25) (v := ?_) (a' := ?_) #[oY,oY,oY,oY,oY,oY,oN,oN,oN,oN,oN] rfl rfl (by kernel_rfl) (fun _ _ _ h => h) (Or.inl ⟨by rfl, ?_⟩) hHeld ?_ ?_
 rotate_left
 ·rintro w' ⟨s0, s1, s2, s3⟩
  go_simp
  with_reducible rfl
 rotate_left
 ·simp only [Act.put, List.setIfInBounds_toArray, List.set_cons_zero, List.set_cons_succ, i64_w, i32_w]
  rfl
 refine one_ (i := 6) (N := some 26) #[oY,oY,oY,oY,oY,oY,oY,oN,oN,oN,oN] rfl rfl (by kernel_rfl) (by decide) (fun K hK => ?_)
 refine value_ (w1 := ?_) (v := ?_) (by rfl) rfl ?_ ?_
 rotate_left 2
 ·go_simp
  constructor
  ·rfl
  ·rfl
 generalize hW : World.drew (World.alloc w3 _) = w4
 have f4 : Fr (fun _ => False) w3 w4 := by subst hW; (repeat' (first | (with_reducible exact Fr.refl _ _) | (with_reducible assumption) | (with_reducible refine Fr.alloc ?_ _) | (with_reducible refine Fr.drew ?_) | (with_reducible refine Fr.drewN ?_ _) | (with_reducible refine Fr.setCell ?_ _ _ ?_) | (exact Or.inr rfl) | (left; simp; done) | (left; simp; omega) | (simp; done) | (simp; omega) | omega))
 have bN : Blk w4 w3.heap.size #[.int .u64 x.f0, .int .u64 x.f1, .int .i64 x.f2] 50 := by subst hW; (repeat' (first | (with_reducible assumption) | (with_reducible apply Blk.drew) | (with_reducible apply Blk.drewN) | (with_reducible apply Blk.set) | (with_reducible apply Blk.other) | (exact Blk.new' _ _ _ (by first | rfl | (simp; done) | (simp; omega))) | (with_reducible apply Blk.alloc) | (with_reducible rfl) | (simp; done) | (simp; omega) | omega | rfl))
 clear hW
 have h4 := h3.fr0 f4
 have bX4 := bX3.fr f4 (fun h => h)
 have b0 := h4.blk.cell 0
 rw [HV.out] at b0
 obtain ⟨x0, x1, x2, _⟩ := bX4.c3
 simp at b0
 have ms4 : w4.cell? ⟨g, 0, none⟩ = some (.slice a n c) ∧ w4.cell? ⟨w.heap.size, 0, none⟩ = some (.int .u64 x.f0) ∧ w4.cell? ⟨w.heap.size, 1, none⟩ = some (.int .u64 x.f1) ∧ w4.cell? ⟨w.heap.size, 2, none⟩ = some (.int .i64 x.f2) := ⟨b0, x0, x1, x2⟩
 refine hK.out _ _ ⟨ms4.1, ms4.2.1, ms4.2.2.1, ms4.2.2.2⟩ (fun hHeld => ?_)
 clear hK K
 refine norm_ (a' := ?_) ?_ ?_
 rotate_left
 ·show Act.put _ (some 26) _ = _
  simp only [Act.put, List.setIfInBounds_toArray, List.set_cons_zero, List.set_cons_succ, i64_w, i32_w]
  rfl
 refine one_ (i := 7) (N := some 27) #[oY,oY,oY,oY,oY,oY,oY,oY,oN,oN,oN] rfl rfl (by kernel_rfl) (by decide) (fun K hK => ?_)
 refine step_append_lies _ rfl (.tmp 24) (.tmp 26) 59 rfl 0 50 i0 _ 3 24 Try.underlying59 hi0 hz0 hsz0 hby0 rfl (by decide) (.slice a n c) L.length (flat L) rfl (by rw [← HV.out]; exact h4.row) ⟨w3.heap.size, 0, none⟩ 1 1 (encI x) rfl rfl (World.news_of_block bN) (flat_one [x]) (by decide) (by unfold maxLen; omega) (by omega) (Nat.zero_le _) _ rfl ?_
 intro g2 cap2 w5 hown5 hg5 hat hlt
 have f5 := fr_grown hg5
 have hvb : ∀ i, (Value.slice a n c).ownBlock = some i → v.ownBlock = some i := fun i e => by rw [HV.out]; exact e
 have hb5 := h4.blk.fr f5 (fun e => by have := hvb _ e; rcases h4.form with ⟨e1, _⟩ | ⟨g9, c9, e1, hp9⟩ <;> (subst e1; first | (cases this; done) | (injection this with this; exact hp9.gr this)))
 have bX5 := bX4.fr f5 (fun e => absurd ((H.out.row.lt _ (hvb _ e)).2) (Nat.lt_irrefl _))
 have b0 := hb5.cell 0
 rw [HV.out] at b0
 have q0 := hb5.free 0
 obtain ⟨x0, x1, x2, _⟩ := bX5.c3
 simp at b0
 have ms5 : w5.cell? ⟨g, 0, none⟩ = some (.slice a n c) ∧ w5.cell? ⟨w.heap.size, 0, none⟩ = some (.int .u64 x.f0) ∧ w5.cell? ⟨w.heap.size, 1, none⟩ = some (.int .u64 x.f1) ∧ w5.cell? ⟨w.heap.size, 2, none⟩ = some (.int .i64 x.f2) := ⟨b0, x0, x1, x2⟩
 refine hK.out _ _ ⟨ms5.1, ms5.2.1, ms5.2.2.1, ms5.2.2.2⟩ (fun hHeld => ?_)
 clear hK K
 refine norm_ (a' := ?_) ?_ ?_
 rotate_left
 ·show Act.put _ (some 27) _ = _
  simp only [Act.put, List.setIfInBounds_toArray, List.set_cons_zero, List.set_cons_succ, i64_w, i32_w]
  rfl
 refine pure_ (i := 8) (N := some 28) (v := ?_) (a' := ?_) #[oY,oY,oY,oY,oY,oY,oY,oY,oY,oN,oN] rfl rfl (by kernel_rfl) (fun _ _ _ h => h) (Or.inl ⟨by rfl, ?_⟩) ?_ ?_
 rotate_left
 ·intro w'
  go_simp
  with_reducible rfl
 rotate_left
 ·simp only [Act.put, List.setIfInBounds_toArray, List.set_cons_zero, List.set_cons_succ, i64_w, i32_w]
  rfl
 refine pure_ (i := 9) (N := some 29) (v := ?_) (a' := ?_) #[oY,oY,oY,oY,oY,oY,oY,oY,oY,oY,oN] rfl rfl (by kernel_rfl) (fun _ _ _ h => h) (Or.inl ⟨by rfl, ?_⟩) ?_ ?_
 rotate_left
 ·intro w'
  go_simp
  with_reducible rfl
 rotate_left
 ·simp only [Act.put, List.setIfInBounds_toArray, List.set_cons_zero, List.set_cons_succ, i64_w, i32_w]
  rfl
 refine last_ (i := 10) (N := none) #[oY,oY,oY,oY,oY,oY,oY,oY,oY,oY,oY] rfl rfl (by kernel_rfl) (by decide) (fun K hK => ?_)
 refine skip_ (w1 := ?_) (by rfl) rfl ?_ ?_
 rotate_left
 ·go_simp
  rfl
 refine hK.out _ _ ?_
 clear hK K
 refine done_ (by kernel_rfl) ?_
 clear hHeld ms5 ms4 ms8 q0 x0 x1 x2 b0
 have hfl : flat L ++ encI x = flat (L ++ [x]) := by rw [flat_app]; rfl
 rw [hfl] at hown5
 have hlL : (L ++ [x]).length = L.length + 1 := by simp
 have hrow5 := Row.of_owns hown5 hlL.symm
 generalize hW : World.setCell w5 _ _ = w6
 have f6 : Fr (fun i => i = g) w5 w6 := by subst hW; (repeat' (first | (with_reducible exact Fr.refl _ _) | (with_reducible assumption) | (with_reducible refine Fr.alloc ?_ _) | (with_reducible refine Fr.drew ?_) | (with_reducible refine Fr.drewN ?_ _) | (with_reducible refine Fr.setCell ?_ _ _ ?_) | (exact Or.inr rfl) | (left; simp; done) | (left; simp; omega) | (simp; done) | (simp; omega) | omega))
 have hb6 : Blk w6 g #[.slice (some ⟨g2, 0, none⟩) (L.length + 1) cap2, .int .i64 size] 61 := by subst hW; exact hb5.set rfl
 clear hW
 have ngb : g2 ≠ g := hrow5.1.ne hb5 (by decide)
 have hp6 : Rh w6 g g2 cap2 (L ++ [x]) size := ⟨by rw [hlL]; exact hb6, hrow5.1.fr f6 ngb, hrow5.2, ngb⟩
 have F6 : Fr (Rt g v) w w6 := (((F3.mono (T := Rt g v) (fun _ _ h => h.elim)).trans f4 (fun _ _ h => h.elim)).trans f5 (fun i hi e => .inr (hvb i e))).trans f6 (fun _ _ e => .inl e)
 have hg2 : Hid (∀ i, some g2 = some i → v.ownBlock = some i ∨ w.heap.size ≤ i) := hid (fun i e => by
  injection e with e; subst e
  rcases hat with e | e
  ·exact .inl (hvb _ e)
  ·right; rw [e]; exact Nat.le_trans F3.size f4.size)
 clear hown5 hg5 hat hlt f5 hb5 bX5 hrow5 f6 f4 bN h4 bX4 h3 bX3 F3 ngb hvb
 have b0 := hb6.cell 0
 simp at b0
 have e1 : wrap64 ((L.length : Int) + 1 - 1) = (L.length : Int) := by rw [Int.add_sub_cancel]; exact wrapN' (by omega)
 have e2 := (i64_w _).trans e1
 have hgl := hb6.lt
 have HP6 := hid hp6
 clear hp6 hb6
 go_wp2_with fail
 refine (rup_at HP6.out (k := L.length) (by rw [hlL]; omega) (by rw [hlL]; omega)).mono ?_
 rintro e w7 ⟨rfl, h7, f7⟩
 rw [settle_leaf hlL.symm] at h7
 go_wp2
 go_ret
 have hs : (settle (L ++ [x]) L.length).length = L.length + 1 := by rw [settle_length, hlL]
 refine ⟨rfl, _, RH.of h7 (by rw [hs]; omega) H.out.sz, hg2.out, F6.trans f7 (fun i hi e => ?_)⟩
 rcases hg2.out g2 rfl with e1 | e1
 ·exact .inr (by rw [e]; exact e1)
 ·omega
theorem rpush_at {w : World} {g : Nat} {v : Value} {L : List It} {size : Int} {x : It} (h : RH w g v L size) :
  Calls Try.prog 24 #[.pointer (some ⟨g, 0, none⟩), vI x] w fun e w' => e = .returned (.int .i64 (pushE L size x)) ∧
   ∃ v', RH w' g v' (pushL L size x) size ∧ (∀ i, v'.ownBlock = some i → v.ownBlock = some i ∨ w.heap.size ≤ i) ∧ Fr (Rt g v) w w' := by
 by_cases hE : pushE L size x = 0
 ·have h1 := hE
  unfold pushE at h1
  split at h1
  ·cases h1
  ·rename_i hp
   split at h1
   ·cases h1
   ·rename_i hl
    have e1 : pushL L size x = settle (L ++ [x]) L.length := if_pos hE
    rw [hE, e1]
    exact rpush_ok h (by cases e : place L x.f0 with | none => rfl | some i => rw [e] at hp; exact absurd rfl hp) (by omega)
 ·have e1 : pushL L size x = L := if_neg hE
  rw [e1]
  refine (rpush_no h hE).mono ?_
  rintro e w' ⟨rfl, f⟩
  exact ⟨rfl, v, h.fr0 f, fun i e => .inl e, f.mono (fun _ _ h => h.elim)⟩
end Go.Proofs.Ytkcfhdnlmdndeaa
