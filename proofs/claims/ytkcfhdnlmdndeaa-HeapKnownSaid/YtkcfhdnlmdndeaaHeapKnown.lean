/- HeapKnown: the walk of the law; calls of no heap. -/
import Derived.Test.YtkcfhdnlmdndeaaHpAwake
import Derived.Test.YtkcfhdnlmdndeaaPHpx1
namespace Go.Proofs.Ytkcfhdnlmdndeaa
open Go.RowKit Go.Proofs.YtkcfhdnlmdndeaaW.PrintWords Go.Proofs.YtkcfhdnlmdndeaaW.PrintLast Go.Proofs.YtkcfhdnlmdndeaaW.PrintMore PHp
set_option linter.unusedVariables false
set_option linter.unusedSimpArgs false
set_option maxRecDepth 100000
attribute [local go_sem high] eqA24
theorem nil_push (x : It) (w : World) : Calls Try.prog 15 #[.pointer none, vI x] w fun e w' => e = .returned (.int .i64 2) ∧ Fr (fun _ => False) w w' := by
  go_enter Try.func15, Try.ntmps15
  go_wp2_with fail
  refine (none_nil _).mono ?_
  rintro e w1 ⟨rfl, k1⟩
  go_wp2
  go_ret
  exact ⟨rfl, Fr.trans (by (repeat' (first | (with_reducible exact Fr.refl _ _) | (with_reducible assumption) | (with_reducible refine Fr.alloc ?_ _) | (with_reducible refine Fr.drew ?_) | (with_reducible refine Fr.drewN ?_ _) | (with_reducible refine Fr.setCell ?_ _ _ ?_) | (exact Or.inr rfl) | (left; simp; done) | (left; simp; omega) | (simp; done) | (simp; omega) | omega))) k1 (fun _ _ h => h)⟩
theorem nil_set (x : It) (w : World) : Calls Try.prog 18 #[.pointer none, vI x] w fun e w' => e = .returned (.int .i64 2) ∧ Fr (fun _ => False) w w' := by
  go_enter Try.func18, Try.ntmps18
  go_wp2_with fail
  refine (none_nil _).mono ?_
  rintro e w1 ⟨rfl, k1⟩
  go_wp2
  go_ret
  exact ⟨rfl, Fr.trans (by (repeat' (first | (with_reducible exact Fr.refl _ _) | (with_reducible assumption) | (with_reducible refine Fr.alloc ?_ _) | (with_reducible refine Fr.drew ?_) | (with_reducible refine Fr.drewN ?_ _) | (with_reducible refine Fr.setCell ?_ _ _ ?_) | (exact Or.inr rfl) | (left; simp; done) | (left; simp; omega) | (simp; done) | (simp; omega) | omega))) k1 (fun _ _ h => h)⟩
theorem nil_len (w : World) : Calls Try.prog 16 #[.pointer none] w fun e w' => e = .returned (.int .i64 0) ∧ Fr (fun _ => False) w w' := by
  go_enter Try.func16, Try.ntmps16
  go_wp2_with fail
  refine (none_nil _).mono ?_
  rintro e w1 ⟨rfl, k1⟩
  go_wp2
  go_ret
  exact ⟨rfl, k1⟩
theorem nil_row (w : World) : Calls Try.prog 22 #[.pointer none] w fun e w' => e = .returned (.slice none 0 0) ∧ Fr (fun _ => False) w w' := by
  go_enter Try.func22, Try.ntmps22
  go_wp2_with fail
  refine (none_nil _).mono ?_
  rintro e w1 ⟨rfl, k1⟩
  go_wp2
  go_ret
  exact ⟨rfl, k1⟩
theorem nil_copy (w : World) : Calls Try.prog 28 #[.pointer none] w fun e w' => e = .returned (.pointer none) ∧ Fr (fun _ => False) w w' := by
  go_enter Try.func28, Try.ntmps28
  go_wp2_with fail
  refine (none_nil _).mono ?_
  rintro e w1 ⟨rfl, k1⟩
  go_wp2
  go_ret
  exact ⟨rfl, k1⟩
theorem nil_pop (w : World) : Calls Try.prog 17 #[.pointer none] w fun e w' => e = .returned (.tuple #[vI ⟨0, 0, 0⟩, .int .i64 2]) ∧ Fr (fun _ => False) w w' := by
  go_enter Try.func17, Try.ntmps17
  go_wp2_with fail
  generalize hW : World.alloc w _ = W
  have f0 : Fr (fun _ => False) w W := by subst hW; (repeat' (first | (with_reducible exact Fr.refl _ _) | (with_reducible assumption) | (with_reducible refine Fr.alloc ?_ _) | (with_reducible refine Fr.drew ?_) | (with_reducible refine Fr.drewN ?_ _) | (with_reducible refine Fr.setCell ?_ _ _ ?_) | (exact Or.inr rfl) | (left; simp; done) | (left; simp; omega) | (simp; done) | (simp; omega) | omega))
  have bR : Blk W w.heap.size #[.int .u64 0, .int .u64 0, .int .i64 0] 24 := by subst hW; (repeat' (first | (with_reducible assumption) | (with_reducible apply Blk.drew) | (with_reducible apply Blk.drewN) | (with_reducible apply Blk.set) | (with_reducible apply Blk.other) | (exact Blk.new' _ _ _ (by first | rfl | (simp; done) | (simp; omega))) | (with_reducible apply Blk.alloc) | (with_reducible rfl) | (simp; done) | (simp; omega) | omega | rfl))
  clear hW
  refine (none_nil _).mono ?_
  rintro e w1 ⟨rfl, k1⟩
  have F1 := f0.trans k1 (fun _ _ h => h)
  have bR1 := bR.fr k1 (fun h => h)
  obtain ⟨r0, r1, r2, q0, q1, q2⟩ := bR1.c3
  go_wp2_with fail
  generalize hW : World.setCell (World.setCell _ _ _) _ _ = W9
  have b3 : Blk W9 w.heap.size #[.int .u64 0, .int .u64 0, .int .i64 0] 24 := by subst hW; exact bR1.set3 _ _ _
  have f9 : Fr (fun _ => False) w W9 := by subst hW; (repeat' (first | (with_reducible exact Fr.refl _ _) | (with_reducible assumption) | (with_reducible refine Fr.alloc ?_ _) | (with_reducible refine Fr.drew ?_) | (with_reducible refine Fr.drewN ?_ _) | (with_reducible refine Fr.setCell ?_ _ _ ?_) | (exact Or.inr rfl) | (left; simp; done) | (left; simp; omega) | (simp; done) | (simp; omega) | omega))
  refine bodyPost_ret (results_ct rfl _ _ _ 24 _ (0, 0) _ rfl b3 Try.underlying24 rfl (by kernel_rfl)) rfl ?_
  exact ⟨rfl, f9⟩
theorem nil_rem (id : Int) (w : World) : Calls Try.prog 19 #[.pointer none, .int .u64 id] w fun e w' => e = .returned (.tuple #[vI ⟨0, 0, 0⟩, .int .i64 2]) ∧ Fr (fun _ => False) w w' := by
  go_enter Try.func19, Try.ntmps19
  go_wp2_with fail
  generalize hW : World.alloc w _ = W
  have f0 : Fr (fun _ => False) w W := by subst hW; (repeat' (first | (with_reducible exact Fr.refl _ _) | (with_reducible assumption) | (with_reducible refine Fr.alloc ?_ _) | (with_reducible refine Fr.drew ?_) | (with_reducible refine Fr.drewN ?_ _) | (with_reducible refine Fr.setCell ?_ _ _ ?_) | (exact Or.inr rfl) | (left; simp; done) | (left; simp; omega) | (simp; done) | (simp; omega) | omega))
  have bR : Blk W w.heap.size #[.int .u64 0, .int .u64 0, .int .i64 0] 24 := by subst hW; (repeat' (first | (with_reducible assumption) | (with_reducible apply Blk.drew) | (with_reducible apply Blk.drewN) | (with_reducible apply Blk.set) | (with_reducible apply Blk.other) | (exact Blk.new' _ _ _ (by first | rfl | (simp; done) | (simp; omega))) | (with_reducible apply Blk.alloc) | (with_reducible rfl) | (simp; done) | (simp; omega) | omega | rfl))
  clear hW
  refine (none_nil _).mono ?_
  rintro e w1 ⟨rfl, k1⟩
  have F1 := f0.trans k1 (fun _ _ h => h)
  have bR1 := bR.fr k1 (fun h => h)
  obtain ⟨r0, r1, r2, q0, q1, q2⟩ := bR1.c3
  go_wp2_with fail
  generalize hW : World.setCell (World.setCell _ _ _) _ _ = W9
  have b3 : Blk W9 w.heap.size #[.int .u64 0, .int .u64 0, .int .i64 0] 24 := by subst hW; exact bR1.set3 _ _ _
  have f9 : Fr (fun _ => False) w W9 := by subst hW; (repeat' (first | (with_reducible exact Fr.refl _ _) | (with_reducible assumption) | (with_reducible refine Fr.alloc ?_ _) | (with_reducible refine Fr.drew ?_) | (with_reducible refine Fr.drewN ?_ _) | (with_reducible refine Fr.setCell ?_ _ _ ?_) | (exact Or.inr rfl) | (left; simp; done) | (left; simp; omega) | (simp; done) | (simp; omega) | omega))
  refine bodyPost_ret (results_ct rfl _ _ _ 24 _ (0, 0) _ rfl b3 Try.underlying24 rfl (by kernel_rfl)) rfl ?_
  exact ⟨rfl, f9⟩
theorem nil_min (w : World) : Calls Try.prog 31 #[.pointer none] w fun e w' => e = .returned (.tuple #[vI ⟨0, 0, 0⟩, .bool false]) ∧ Fr (fun _ => False) w w' := by
  go_enter Try.func31, Try.ntmps31
  go_wp2_with fail
  generalize hW : World.alloc w _ = W
  have f0 : Fr (fun _ => False) w W := by subst hW; (repeat' (first | (with_reducible exact Fr.refl _ _) | (with_reducible assumption) | (with_reducible refine Fr.alloc ?_ _) | (with_reducible refine Fr.drew ?_) | (with_reducible refine Fr.drewN ?_ _) | (with_reducible refine Fr.setCell ?_ _ _ ?_) | (exact Or.inr rfl) | (left; simp; done) | (left; simp; omega) | (simp; done) | (simp; omega) | omega))
  have bR : Blk W w.heap.size #[.int .u64 0, .int .u64 0, .int .i64 0] 24 := by subst hW; (repeat' (first | (with_reducible assumption) | (with_reducible apply Blk.drew) | (with_reducible apply Blk.drewN) | (with_reducible apply Blk.set) | (with_reducible apply Blk.other) | (exact Blk.new' _ _ _ (by first | rfl | (simp; done) | (simp; omega))) | (with_reducible apply Blk.alloc) | (with_reducible rfl) | (simp; done) | (simp; omega) | omega | rfl))
  clear hW
  refine (none_nil _).mono ?_
  rintro e w1 ⟨rfl, k1⟩
  have F1 := f0.trans k1 (fun _ _ h => h)
  have bR1 := bR.fr k1 (fun h => h)
  obtain ⟨r0, r1, r2, q0, q1, q2⟩ := bR1.c3
  go_wp2_with fail
  generalize hW : World.setCell (World.setCell _ _ _) _ _ = W9
  have b3 : Blk W9 w.heap.size #[.int .u64 0, .int .u64 0, .int .i64 0] 24 := by subst hW; exact bR1.set3 _ _ _
  have f9 : Fr (fun _ => False) w W9 := by subst hW; (repeat' (first | (with_reducible exact Fr.refl _ _) | (with_reducible assumption) | (with_reducible refine Fr.alloc ?_ _) | (with_reducible refine Fr.drew ?_) | (with_reducible refine Fr.drewN ?_ _) | (with_reducible refine Fr.setCell ?_ _ _ ?_) | (exact Or.inr rfl) | (left; simp; done) | (left; simp; omega) | (simp; done) | (simp; omega) | omega))
  refine bodyPost_ret (results_ct rfl _ _ _ 24 _ (0, 0) _ rfl b3 Try.underlying24 rfl (by kernel_rfl)) rfl ?_
  exact ⟨rfl, f9⟩
theorem nil_find (id : Int) (w : World) : Calls Try.prog 29 #[.pointer none, .int .u64 id] w fun e w' => e = .returned (.tuple #[vI ⟨0, 0, 0⟩, .int .i64 0, .bool false]) ∧ Fr (fun _ => False) w w' := by
  go_enter Try.func29, Try.ntmps29
  go_wp2_with fail
  generalize hW : World.alloc w _ = W
  have f0 : Fr (fun _ => False) w W := by subst hW; (repeat' (first | (with_reducible exact Fr.refl _ _) | (with_reducible assumption) | (with_reducible refine Fr.alloc ?_ _) | (with_reducible refine Fr.drew ?_) | (with_reducible refine Fr.drewN ?_ _) | (with_reducible refine Fr.setCell ?_ _ _ ?_) | (exact Or.inr rfl) | (left; simp; done) | (left; simp; omega) | (simp; done) | (simp; omega) | omega))
  have bR : Blk W w.heap.size #[.int .u64 0, .int .u64 0, .int .i64 0] 24 := by subst hW; (repeat' (first | (with_reducible assumption) | (with_reducible apply Blk.drew) | (with_reducible apply Blk.drewN) | (with_reducible apply Blk.set) | (with_reducible apply Blk.other) | (exact Blk.new' _ _ _ (by first | rfl | (simp; done) | (simp; omega))) | (with_reducible apply Blk.alloc) | (with_reducible rfl) | (simp; done) | (simp; omega) | omega | rfl))
  clear hW
  refine (none_nil _).mono ?_
  rintro e w1 ⟨rfl, k1⟩
  have F1 := f0.trans k1 (fun _ _ h => h)
  have bR1 := bR.fr k1 (fun h => h)
  obtain ⟨r0, r1, r2, q0, q1, q2⟩ := bR1.c3
  go_wp2_with fail
  generalize hW : World.setCell (World.setCell _ _ _) _ _ = W9
  have b3 : Blk W9 w.heap.size #[.int .u64 0, .int .u64 0, .int .i64 0] 24 := by subst hW; exact bR1.set3 _ _ _
  have f9 : Fr (fun _ => False) w W9 := by subst hW; (repeat' (first | (with_reducible exact Fr.refl _ _) | (with_reducible assumption) | (with_reducible refine Fr.alloc ?_ _) | (with_reducible refine Fr.drew ?_) | (with_reducible refine Fr.drewN ?_ _) | (with_reducible refine Fr.setCell ?_ _ _ ?_) | (exact Or.inr rfl) | (left; simp; done) | (left; simp; omega) | (simp; done) | (simp; omega) | omega))
  refine bodyPost_ret (results_ctt rfl _ _ _ 24 _ (0, 0) _ rfl b3 Try.underlying24 rfl (by kernel_rfl)) rfl ?_
  exact ⟨rfl, f9⟩
set_option maxHeartbeats 8000000 in
theorem heapKnown_walk (w : World) : Calls Try.prog 7 #[] w fun e w' => e = .returned (.bool true) ∧ Fr (fun _ => False) w w' := by
  go_enter Try.func7, Try.ntmps7
  go_wp2_with fail
  refine (new_no (size := 0) (by omega)).mono ?_
  rintro e w1 ⟨rfl, f1⟩
  go_wp2_with fail
  refine (new_no (size := 1048577) (by omega)).mono ?_
  rintro e w2 ⟨rfl, k2⟩
  have f2 := f1.trans k2 (fun _ _ h => h)
  clear f1 k2
  go_wp2_with fail
  refine (new_at (size := 1) (by omega) (by omega)).mono ?_
  rintro e w3 ⟨b, m, rfl, h3, hb3, hm3, k3⟩
  have z3 : Fz w.heap.size b m (.slice none 0 0) := Fz.made (Nat.le_trans f2.size hb3) (Nat.le_trans f2.size hm3)
  have f3 := f2.trans k3 (fun _ _ h => h)
  clear f2 k3 hb3 hm3
  go_wp2_with fail
  refine (pop_at h3).mono ?_
  rintro e w4 ⟨rfl, v4, h4, q4, k4⟩
  rw [show popL [] = [] by kernel_rfl] at h4
  rw [show popX [] = ⟨0, 0, 0⟩ by kernel_rfl, show popE [] = 6 by kernel_rfl]
  have z4 := z3.next q4 f3.size
  have f4 := f3.fz z3 k4
  clear h3 z3 f3 q4 k4
  go_wp2_with fail
  generalize hW : World.alloc w4 _ = W4
  have j4 : Fr (fun _ => False) w4 W4 := by subst hW; (repeat' (first | (with_reducible exact Fr.refl _ _) | (with_reducible assumption) | (with_reducible refine Fr.alloc ?_ _) | (with_reducible refine Fr.drew ?_) | (with_reducible refine Fr.drewN ?_ _) | (with_reducible refine Fr.setCell ?_ _ _ ?_) | (exact Or.inr rfl) | (left; simp; done) | (left; simp; omega) | (simp; done) | (simp; omega) | omega))
  clear hW
  refine (set_at (h4.fr0 j4) (x := ⟨1, 0, 0⟩) (ok_of (by kernel_rfl))).mono ?_
  rintro e w5 ⟨rfl, v5, h5, q5, k5⟩
  rw [show setL [] ⟨1, 0, 0⟩ = [] by kernel_rfl] at h5
  rw [show setE [] ⟨1, 0, 0⟩ = 6 by kernel_rfl]
  have f4' := f4.trans j4 (fun _ _ h => h)
  have z5 := z4.next q5 f4'.size
  have f5 := f4'.fz z4 k5
  clear h4 z4 f4 f4' q5 k5 j4
  go_wp2_with fail
  refine (push_at h5 (x := ⟨1, 0, 5⟩) (ok_of (by kernel_rfl))).mono ?_
  rintro e w6 ⟨rfl, v6, h6, q6, k6⟩
  rw [show pushL [] 1 ⟨1, 0, 5⟩ = [⟨1, 0, 5⟩] by kernel_rfl] at h6
  rw [show pushE [] 1 ⟨1, 0, 5⟩ = 0 by kernel_rfl]
  have z6 := z5.next q6 f5.size
  have f6 := f5.fz z5 k6
  clear h5 z5 f5 q6 k6
  go_wp2_with fail
  refine (push_no h6 (x := ⟨2, 0, 0⟩) (ok_of (by kernel_rfl)) (by rw [show pushE [⟨1, 0, 5⟩] 1 ⟨2, 0, 0⟩ = 7 by kernel_rfl]; decide)).mono ?_
  rintro e w7 ⟨rfl, k7⟩
  rw [show pushE [⟨1, 0, 5⟩] 1 ⟨2, 0, 0⟩ = 7 by kernel_rfl]
  have h7 := h6.fr0 k7
  have f7 := f6.trans k7 (fun _ _ h => h)
  clear h6 f6 k7
  go_wp2_with fail
  refine (set_at h7 (x := ⟨1, 9, 3⟩) (ok_of (by kernel_rfl))).mono ?_
  rintro e w8 ⟨rfl, v8, h8, q8, k8⟩
  rw [show setL [⟨1, 0, 5⟩] ⟨1, 9, 3⟩ = [⟨1, 9, 3⟩] by kernel_rfl] at h8
  rw [show setE [⟨1, 0, 5⟩] ⟨1, 9, 3⟩ = 0 by kernel_rfl]
  have z8 := z6.next q8 f7.size
  have f8 := f7.fz z6 k8
  clear h7 z6 f7 q8 k8
  go_wp2_with fail
  refine (min_hp h8).mono ?_
  rintro e w9 ⟨rfl, k9⟩
  rw [show nth [⟨1, 9, 3⟩] 0 = ⟨1, 9, 3⟩ by kernel_rfl, show decide (0 < [(⟨1, 9, 3⟩ : It)].length) = true by kernel_rfl]
  have f9 := f8.trans k9 (fun _ _ h => h)
  clear h8 z8 f8 k9
  go_wp2_with fail
  generalize hW : World.alloc w9 _ = W9
  have j9 : Fr (fun _ => False) w9 W9 := by subst hW; (repeat' (first | (with_reducible exact Fr.refl _ _) | (with_reducible assumption) | (with_reducible refine Fr.alloc ?_ _) | (with_reducible refine Fr.drew ?_) | (with_reducible refine Fr.drewN ?_ _) | (with_reducible refine Fr.setCell ?_ _ _ ?_) | (exact Or.inr rfl) | (left; simp; done) | (left; simp; omega) | (simp; done) | (simp; omega) | omega))
  have BX : Blk W9 w9.heap.size #[.int .u64 1, .int .u64 9, .int .i64 3] 24 := by subst hW; (repeat' (first | (with_reducible assumption) | (with_reducible apply Blk.drew) | (with_reducible apply Blk.drewN) | (with_reducible apply Blk.set) | (with_reducible apply Blk.other) | (exact Blk.new' _ _ _ (by first | rfl | (simp; done) | (simp; omega))) | (with_reducible apply Blk.alloc) | (with_reducible rfl) | (simp; done) | (simp; omega) | omega | rfl))
  clear hW
  have F9 := f9.trans j9 (fun _ _ h => h)
  clear f9 j9
  refine (nil_pop _).mono ?_
  rintro e w10 ⟨rfl, k10⟩
  replace BX := BX.fr k10 (fun h => h)
  have f10 := F9.trans k10 (fun _ _ h => h)
  clear F9 k10
  go_wp2_with fail
  generalize hW : World.alloc w10 _ = W10
  have j10 : Fr (fun _ => False) w10 W10 := by subst hW; (repeat' (first | (with_reducible exact Fr.refl _ _) | (with_reducible assumption) | (with_reducible refine Fr.alloc ?_ _) | (with_reducible refine Fr.drew ?_) | (with_reducible refine Fr.drewN ?_ _) | (with_reducible refine Fr.setCell ?_ _ _ ?_) | (exact Or.inr rfl) | (left; simp; done) | (left; simp; omega) | (simp; done) | (simp; omega) | omega))
  clear hW
  replace BX := BX.fr j10 (fun h => h)
  have F10 := f10.trans j10 (fun _ _ h => h)
  clear f10 j10
  refine (nil_rem 1 _).mono ?_
  rintro e w11 ⟨rfl, k11⟩
  replace BX := BX.fr k11 (fun h => h)
  have f11 := F10.trans k11 (fun _ _ h => h)
  clear F10 k11
  go_wp2_with fail
  generalize hW : World.alloc w11 _ = W11
  have j11 : Fr (fun _ => False) w11 W11 := by subst hW; (repeat' (first | (with_reducible exact Fr.refl _ _) | (with_reducible assumption) | (with_reducible refine Fr.alloc ?_ _) | (with_reducible refine Fr.drew ?_) | (with_reducible refine Fr.drewN ?_ _) | (with_reducible refine Fr.setCell ?_ _ _ ?_) | (exact Or.inr rfl) | (left; simp; done) | (left; simp; omega) | (simp; done) | (simp; omega) | omega))
  clear hW
  replace BX := BX.fr j11 (fun h => h)
  have F11 := f11.trans j11 (fun _ _ h => h)
  clear f11 j11
  refine (nil_min _).mono ?_
  rintro e w12 ⟨rfl, k12⟩
  replace BX := BX.fr k12 (fun h => h)
  have f12 := F11.trans k12 (fun _ _ h => h)
  clear F11 k12
  go_wp2_with fail
  generalize hW : World.alloc w12 _ = W12
  have j12 : Fr (fun _ => False) w12 W12 := by subst hW; (repeat' (first | (with_reducible exact Fr.refl _ _) | (with_reducible assumption) | (with_reducible refine Fr.alloc ?_ _) | (with_reducible refine Fr.drew ?_) | (with_reducible refine Fr.drewN ?_ _) | (with_reducible refine Fr.setCell ?_ _ _ ?_) | (exact Or.inr rfl) | (left; simp; done) | (left; simp; omega) | (simp; done) | (simp; omega) | omega))
  clear hW
  replace BX := BX.fr j12 (fun h => h)
  have F12 := f12.trans j12 (fun _ _ h => h)
  clear f12 j12
  refine (nil_find 1 _).mono ?_
  rintro e w13 ⟨rfl, k13⟩
  replace BX := BX.fr k13 (fun h => h)
  have f13 := F12.trans k13 (fun _ _ h => h)
  clear F12 k13
  go_wp2_with fail
  generalize hW : World.alloc w13 _ = W13
  have j13 : Fr (fun _ => False) w13 W13 := by subst hW; (repeat' (first | (with_reducible exact Fr.refl _ _) | (with_reducible assumption) | (with_reducible refine Fr.alloc ?_ _) | (with_reducible refine Fr.drew ?_) | (with_reducible refine Fr.drewN ?_ _) | (with_reducible refine Fr.setCell ?_ _ _ ?_) | (exact Or.inr rfl) | (left; simp; done) | (left; simp; omega) | (simp; done) | (simp; omega) | omega))
  clear hW
  replace BX := BX.fr j13 (fun h => h)
  have F13 := f13.trans j13 (fun _ _ h => h)
  clear f13 j13
  refine (awake_at _).mono ?_
  rintro e w14 ⟨rfl, k14⟩
  replace BX := BX.fr k14 (fun h => h)
  have f14 := F13.trans k14 (fun _ _ h => h)
  clear F13 k14
  obtain ⟨x0, x1, x2, _⟩ := id BX.c3
  go_wp2_with fail
  refine (nil_push ⟨1, 9, 3⟩ _).mono ?_
  rintro e w15 ⟨rfl, k15⟩
  replace BX := BX.fr k15 (fun h => h)
  have f15 := f14.trans k15 (fun _ _ h => h)
  clear f14 k15 x0 x1 x2
  obtain ⟨x0, x1, x2, _⟩ := id BX.c3
  go_wp2_with fail
  refine (nil_set ⟨1, 9, 3⟩ _).mono ?_
  rintro e w16 ⟨rfl, k16⟩
  have f16 := f15.trans k16 (fun _ _ h => h)
  clear f15 k16 x0 x1 x2
  go_wp2_with fail
  refine (nil_len _).mono ?_
  rintro e w17 ⟨rfl, k17⟩
  have f17 := f16.trans k17 (fun _ _ h => h)
  clear f16 k17
  go_wp2_with fail
  refine (nil_row _).mono ?_
  rintro e w18 ⟨rfl, k18⟩
  have f18 := f17.trans k18 (fun _ _ h => h)
  clear f17 k18
  go_wp2_with fail
  refine (nil_copy _).mono ?_
  rintro e w19 ⟨rfl, k19⟩
  have f19 := f18.trans k19 (fun _ _ h => h)
  go_wp2
  go_ret
  exact ⟨rfl, f19⟩
end Go.Proofs.Ytkcfhdnlmdndeaa
