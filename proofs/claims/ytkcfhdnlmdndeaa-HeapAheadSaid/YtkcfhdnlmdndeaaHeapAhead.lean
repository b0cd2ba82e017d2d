/- HeapAhead: the walk of the law. -/
import Derived.Test.YtkcfhdnlmdndeaaHpAwake
import Derived.Test.YtkcfhdnlmdndeaaPHpx1
namespace Go.Proofs.Ytkcfhdnlmdndeaa
open Go.RowKit Go.Proofs.YtkcfhdnlmdndeaaW.PrintWords Go.Proofs.YtkcfhdnlmdndeaaW.PrintLast Go.Proofs.YtkcfhdnlmdndeaaW.PrintMore PHp
set_option linter.unusedVariables false
set_option linter.unusedSimpArgs false
set_option maxRecDepth 100000
/-- A flat item that was handed in. -/
theorem item_open {c : List Value} (h : okAll [.i .u64, .i .u64, .i .i64] c) : ∃ x : It, c.toArray = #[.int .u64 x.f0, .int .u64 x.f1, .int .i64 x.f2] ∧ ItOk x := by
 obtain ⟨v0, r0, rfl, h0, h⟩ := okAll.cons h
 obtain ⟨v1, r1, rfl, h1, h⟩ := okAll.cons h
 obtain ⟨v2, r2, rfl, h2, h⟩ := okAll.cons h
 have e3 := okAll.none h
 subst e3
 obtain ⟨a, rfl, ha⟩ := h0
 obtain ⟨b, rfl, hb⟩ := h1
 obtain ⟨c, rfl, hc⟩ := h2
 exact ⟨⟨a, b, c⟩, rfl, ha, hb, hc⟩
/-- What the law reads. -/
def AhS (W : World) (A B C : Nat) (a b c : It) (w' : World) : Prop :=
 (w'.cell? ⟨A, 0, none⟩ = some (.int .u64 a.f0) ∧ w'.cell? ⟨A, 1, none⟩ = some (.int .u64 a.f1) ∧ w'.cell? ⟨A, 2, none⟩ = some (.int .i64 a.f2)) ∧
 (w'.cell? ⟨B, 0, none⟩ = some (.int .u64 b.f0) ∧ w'.cell? ⟨B, 1, none⟩ = some (.int .u64 b.f1) ∧ w'.cell? ⟨B, 2, none⟩ = some (.int .i64 b.f2)) ∧
 (w'.cell? ⟨C, 0, none⟩ = some (.int .u64 c.f0) ∧ w'.cell? ⟨C, 1, none⟩ = some (.int .u64 c.f1) ∧ w'.cell? ⟨C, 2, none⟩ = some (.int .i64 c.f2)) ∧ Fr (fun _ => False) W w'
theorem AhS.fr {W : World} {A B C : Nat} {a b c : It} {w w' : World} (kf : Fr (fun _ => False) w w') (h : AhS W A B C a b c w) : AhS W A B C a b c w' := by
 obtain ⟨⟨a0, a1, a2⟩, ⟨b0, b1, b2⟩, ⟨c0, c1, c2⟩, hf⟩ := h
 have key : ∀ {g i : Nat} {v : Value}, w.cell? ⟨g, i, none⟩ = some v → w'.cell? ⟨g, i, none⟩ = some v := fun h => (kf.cell (World.block_lt_of_cell? w _ h) (fun h => h)).trans h
 exact ⟨⟨key a0, key a1, key a2⟩, ⟨key b0, key b1, key b2⟩, ⟨key c0, key c1, key c2⟩, hf.trans kf (fun _ _ h => h)⟩
attribute [local go_sem high] eqA24
set_option maxHeartbeats 8000000 in
theorem heapAhead_walk (c0 c1 c2 : List Value) (w : World) (h0 : okAll [.i .u64, .i .u64, .i .i64] c0) (h1 : okAll [.i .u64, .i .u64, .i .i64] c1) (h2 : okAll [.i .u64, .i .u64, .i .i64] c2) :
  Calls Try.prog 3 #[.agg c0.toArray, .agg c1.toArray, .agg c2.toArray] w fun e w' => e = .returned (.bool true) ∧ Fr (fun _ => False) w w' := by
 obtain ⟨a, e0, oa⟩ := item_open h0
 obtain ⟨b, e1, ob⟩ := item_open h1
 obtain ⟨c, e2, oc⟩ := item_open h2
 rw [e0, e1, e2]
 clear h0 h1 h2 e0 e1 e2
 go_enter Try.func3, Try.ntmps3
 go_wp2_with fail
 generalize hW : World.alloc (World.alloc (World.alloc w _) _) _ = W
 have f0 : Fr (fun _ => False) w W := by subst hW; (repeat' (first | (with_reducible exact Fr.refl _ _) | (with_reducible assumption) | (with_reducible refine Fr.alloc ?_ _) | (with_reducible refine Fr.drew ?_) | (with_reducible refine Fr.drewN ?_ _) | (with_reducible refine Fr.setCell ?_ _ _ ?_) | (exact Or.inr rfl) | (left; simp; done) | (left; simp; omega) | (simp; done) | (simp; omega) | omega))
 have bA : Blk W w.heap.size #[.int .u64 a.f0, .int .u64 a.f1, .int .i64 a.f2] 24 := by subst hW; (repeat' (first | (with_reducible assumption) | (with_reducible apply Blk.drew) | (with_reducible apply Blk.drewN) | (with_reducible apply Blk.set) | (with_reducible apply Blk.other) | (exact Blk.new' _ _ _ (by first | rfl | (simp; done) | (simp; omega))) | (with_reducible apply Blk.alloc) | (with_reducible rfl) | (simp; done) | (simp; omega) | omega | rfl))
 have bB : Blk W (w.heap.size + 1) #[.int .u64 b.f0, .int .u64 b.f1, .int .i64 b.f2] 24 := by subst hW; (repeat' (first | (with_reducible assumption) | (with_reducible apply Blk.drew) | (with_reducible apply Blk.drewN) | (with_reducible apply Blk.set) | (with_reducible apply Blk.other) | (exact Blk.new' _ _ _ (by first | rfl | (simp; done) | (simp; omega))) | (with_reducible apply Blk.alloc) | (with_reducible rfl) | (simp; done) | (simp; omega) | omega | rfl))
 have bC : Blk W (w.heap.size + 1 + 1) #[.int .u64 c.f0, .int .u64 c.f1, .int .i64 c.f2] 24 := by subst hW; (repeat' (first | (with_reducible assumption) | (with_reducible apply Blk.drew) | (with_reducible apply Blk.drewN) | (with_reducible apply Blk.set) | (with_reducible apply Blk.other) | (exact Blk.new' _ _ _ (by first | rfl | (simp; done) | (simp; omega))) | (with_reducible apply Blk.alloc) | (with_reducible rfl) | (simp; done) | (simp; omega) | omega | rfl))
 clear hW
 have n1 : w.heap.size ≠ w.heap.size + 1 := by omega
 generalize w.heap.size + 1 + 1 = C at *
 generalize w.heap.size + 1 = B at *
 generalize hAe : w.heap.size = A at *
 have ms0 : AhS W A B C a b c W := ⟨⟨bA.cell 0, bA.cell 1, bA.cell 2⟩, ⟨bB.cell 0, bB.cell 1, bB.cell 2⟩, ⟨bC.cell 0, bC.cell 1, bC.cell 2⟩, Fr.refl _ _⟩
 have msd := ms0.fr (Fr.drew (Fr.refl _ _))
 obtain ⟨p, hp⟩ : ∃ p, p = ahead a b := ⟨_, rfl⟩
 obtain ⟨p', hp'⟩ : ∃ p, p = ahead b a := ⟨_, rfl⟩
 obtain ⟨q, hq⟩ : ∃ q, q = ahead b c := ⟨_, rfl⟩
 obtain ⟨r, hr⟩ : ∃ r, r = ahead a c := ⟨_, rfl⟩
 have HAA : Hid (∀ W', Calls Try.prog 12 #[vI a, vI a] W' fun e w' => e = .returned (.bool false) ∧ Fr (fun _ => False) W' w') := hid (fun W' => by have := ahead_at a a W'; rw [ahead_no.2 (it_irrefl a)] at this; exact this)
 have HAB : Hid (∀ W', Calls Try.prog 12 #[vI a, vI b] W' fun e w' => e = .returned (.bool p) ∧ Fr (fun _ => False) W' w') := hid (fun W' => by rw [hp]; exact ahead_at _ _ _)
 have HBA : Hid (∀ W', Calls Try.prog 12 #[vI b, vI a] W' fun e w' => e = .returned (.bool p') ∧ Fr (fun _ => False) W' w') := hid (fun W' => by rw [hp']; exact ahead_at _ _ _)
 have HBC : Hid (∀ W', Calls Try.prog 12 #[vI b, vI c] W' fun e w' => e = .returned (.bool q) ∧ Fr (fun _ => False) W' w') := hid (fun W' => by rw [hq]; exact ahead_at _ _ _)
 have HAC : Hid (∀ W', Calls Try.prog 12 #[vI a, vI c] W' fun e w' => e = .returned (.bool r) ∧ Fr (fun _ => False) W' w') := hid (fun W' => by rw [hr]; exact ahead_at _ _ _)
 have htr : p = true → q = true → r = true := by
  intro h1 h2; rw [hp] at h1; rw [hq] at h2; rw [hr]
  exact ahead_iff.2 (it_trans (ahead_iff.1 h1) (ahead_iff.1 h2))
 have hat : a.f2 < b.f2 → p = true := by intro h; rw [hp]; exact ahead_iff.2 (.inl h)
 have hopp : a ≠ b → p' = !p := by
  intro h
  rw [hp', hp]
  rcases it_total h with h1 | h1
  ·rw [ahead_iff.2 h1, ahead_no.2 (it_asymm h1)]; rfl
  ·rw [ahead_iff.2 h1, ahead_no.2 (it_asymm h1)]; rfl
 clear hp hp' hq hr bA bB bC
 have HTR := hid htr
 have HAT := hid hat
 clear htr hat
 by_cases hab : a = b
 ·have t1 : (a.f0 == b.f0 && (a.f1 == b.f1 && (a.f2 == b.f2))) = true := by rw [hab]; simp
  clear hopp hab
  refine start_ (n := 17) (S := fun w' => (w'.cell? ⟨A, 0, none⟩ = some (.int .u64 a.f0) ∧ w'.cell? ⟨A, 1, none⟩ = some (.int .u64 a.f1) ∧ w'.cell? ⟨A, 2, none⟩ = some (.int .i64 a.f2)) ∧ (w'.cell? ⟨B, 0, none⟩ = some (.int .u64 b.f0) ∧ w'.cell? ⟨B, 1, none⟩ = some (.int .u64 b.f1) ∧ w'.cell? ⟨B, 2, none⟩ = some (.int .i64 b.f2)) ∧ (w'.cell? ⟨C, 0, none⟩ = some (.int .u64 c.f0) ∧ w'.cell? ⟨C, 1, none⟩ = some (.int .u64 c.f1) ∧ w'.cell? ⟨C, 2, none⟩ = some (.int .i64 c.f2)) ∧ Fr (fun _ => False) W w') (ds := []) #[oN,oN,oN,oN,oN,oN,oN,oN,oN,oN,oN,oN,oN,oN,oN,oN,oN] (by kernel_rfl) rfl rfl ⟨msd.1, msd.2.1, msd.2.2.1, msd.2.2.2⟩ (fun hHeld => ?_)
  refine take_ (i := 0) (N := some 7) (v := ?_) (a' := ?_) #[oY,oN,oN,oN,oN,oN,oN,oN,oN,oN,oN,oN,oN,oN,oN,oN,oN] rfl rfl (by kernel_rfl) (fun _ _ _ h => h) (Or.inl ⟨by rfl, ?_⟩) hHeld ?_ ?_
  rotate_left
  ·rintro w' ⟨s0, s1, s2, s3⟩
   go_simp
   with_reducible rfl
  rotate_left
  ·simp only [Act.put, List.setIfInBounds_toArray, List.set_cons_zero, List.set_cons_succ, i64_w, i32_w]
   rfl
  refine take_ (i := 1) (N := some 8) (v := ?_) (a' := ?_) #[oY,oY,oN,oN,oN,oN,oN,oN,oN,oN,oN,oN,oN,oN,oN,oN,oN] rfl rfl (by kernel_rfl) (fun _ _ _ h => h) (Or.inl ⟨by rfl, ?_⟩) hHeld ?_ ?_
  rotate_left
  ·rintro w' ⟨s0, s1, s2, s3⟩
   go_simp
   with_reducible rfl
  rotate_left
  ·simp only [Act.put, List.setIfInBounds_toArray, List.set_cons_zero, List.set_cons_succ, i64_w, i32_w]
   rfl
  refine one_ (i := 2) (N := some 9) #[oY,oY,oY,oN,oN,oN,oN,oN,oN,oN,oN,oN,oN,oN,oN,oN,oN] rfl rfl (by kernel_rfl) (by decide) (fun K hK => ?_)
  refine goes_ Try.func12 (by kernel_rfl) rfl #[vI a, vI a] (by rfl) rfl rfl (by simp only [List.map_toArray, List.map_cons, List.map_nil]; rfl) ?_
  refine (HAA.out _).mono ?_
  rintro e w3 ⟨rfl, k3⟩
  refine ⟨_, rfl, ?_⟩
  have ms3 := AhS.fr k3 hHeld
  refine hK.out _ _ ⟨ms3.1, ms3.2.1, ms3.2.2.1, ms3.2.2.2⟩ (fun hHeld => ?_)
  clear hK K
  refine norm_ (a' := ?_) ?_ ?_
  rotate_left
  ·show Act.put _ (some 9) _ = _
   simp only [Act.put, List.setIfInBounds_toArray, List.set_cons_zero, List.set_cons_succ, i64_w, i32_w]
   rfl
  refine pure_ (i := 3) (N := some 10) (v := ?_) (a' := ?_) #[oY,oY,oY,oY,oN,oN,oN,oN,oN,oN,oN,oN,oN,oN,oN,oN,oN] rfl rfl (by kernel_rfl) (fun _ _ _ h => h) (Or.inl ⟨by rfl, ?_⟩) ?_ ?_
  rotate_left
  ·intro w'
   go_simp
   with_reducible rfl
  rotate_left
  ·simp only [Act.put, List.setIfInBounds_toArray, List.set_cons_zero, List.set_cons_succ, i64_w, i32_w]
   rfl
  refine take_ (i := 4) (N := some 11) (v := ?_) (a' := ?_) #[oY,oY,oY,oY,oY,oN,oN,oN,oN,oN,oN,oN,oN,oN,oN,oN,oN] rfl rfl (by kernel_rfl) (fun _ _ _ h => h) (Or.inl ⟨by rfl, ?_⟩) hHeld ?_ ?_
  rotate_left
  ·rintro w' ⟨s0, s1, s2, s3⟩
   go_simp
   with_reducible rfl
  rotate_left
  ·simp only [Act.put, List.setIfInBounds_toArray, List.set_cons_zero, List.set_cons_succ, i64_w, i32_w]
   rfl
  refine take_ (i := 5) (N := some 12) (v := ?_) (a' := ?_) #[oY,oY,oY,oY,oY,oY,oN,oN,oN,oN,oN,oN,oN,oN,oN,oN,oN] rfl rfl (by kernel_rfl) (fun _ _ _ h => h) (Or.inl ⟨by rfl, ?_⟩) hHeld ?_ ?_
  rotate_left
  ·rintro w' ⟨s0, s1, s2, s3⟩
   go_simp
   with_reducible rfl
  rotate_left
  ·simp only [Act.put, List.setIfInBounds_toArray, List.set_cons_zero, List.set_cons_succ, i64_w, i32_w]
   rfl
  refine pure_ (i := 6) (N := some 13) (v := ?_) (a' := ?_) #[oY,oY,oY,oY,oY,oY,oY,oN,oN,oN,oN,oN,oN,oN,oN,oN,oN] rfl rfl (by kernel_rfl) (fun _ _ _ h => h) (Or.inl ⟨by rfl, ?_⟩) ?_ ?_
  rotate_left
  ·intro w'
   go_simp
   with_reducible rfl
  rotate_left
  ·simp only [Act.put, List.setIfInBounds_toArray, List.set_cons_zero, List.set_cons_succ, i64_w, i32_w]
   rfl
  refine pure_ (i := 7) (N := some 14) (v := ?_) (a' := ?_) #[oY,oY,oY,oY,oY,oY,oY,oY,oN,oN,oN,oN,oN,oN,oN,oN,oN] rfl rfl (by kernel_rfl) (fun _ _ _ h => h) (Or.inl ⟨by rfl, ?_⟩) ?_ ?_
  rotate_left
  ·intro w'
   go_simp
   with_reducible rfl
  rotate_left
  ·simp only [Act.put, List.setIfInBounds_toArray, List.set_cons_zero, List.set_cons_succ, i64_w, i32_w]
   rfl
  refine pure_ (i := 8) (N := some 15) (v := undef) (a' := ?_) #[oY,oY,oY,oY,oY,oY,oY,oY,oY,oN,oN,oN,oN,oN,oN,oN,oN] rfl rfl (by kernel_rfl) (fun _ _ _ h => h) (Or.inr ⟨by rfl, rfl⟩) ?_ ?_
  rotate_left
  ·simp only [Act.put, List.setIfInBounds_toArray, List.set_cons_zero, List.set_cons_succ, i64_w, i32_w]
   rfl
  refine pure_ (i := 9) (N := some 16) (v := undef) (a' := ?_) #[oY,oY,oY,oY,oY,oY,oY,oY,oY,oY,oN,oN,oN,oN,oN,oN,oN] rfl rfl (by kernel_rfl) (fun _ _ _ h => h) (Or.inr ⟨by rfl, rfl⟩) ?_ ?_
  rotate_left
  ·simp only [Act.put, List.setIfInBounds_toArray, List.set_cons_zero, List.set_cons_succ, i64_w, i32_w]
   rfl
  refine pure_ (i := 10) (N := some 17) (v := undef) (a' := ?_) #[oY,oY,oY,oY,oY,oY,oY,oY,oY,oY,oY,oN,oN,oN,oN,oN,oN] rfl rfl (by kernel_rfl) (fun _ _ _ h => h) (Or.inr ⟨by rfl, rfl⟩) ?_ ?_
  rotate_left
  ·simp only [Act.put, List.setIfInBounds_toArray, List.set_cons_zero, List.set_cons_succ, i64_w, i32_w]
   rfl
  refine pure_ (i := 11) (N := some 18) (v := undef) (a' := ?_) #[oY,oY,oY,oY,oY,oY,oY,oY,oY,oY,oY,oY,oN,oN,oN,oN,oN] rfl rfl (by kernel_rfl) (fun _ _ _ h => h) (Or.inr ⟨by rfl, rfl⟩) ?_ ?_
  rotate_left
  ·simp only [Act.put, List.setIfInBounds_toArray, List.set_cons_zero, List.set_cons_succ, i64_w, i32_w]
   rfl
  refine pure_ (i := 12) (N := some 19) (v := undef) (a' := ?_) #[oY,oY,oY,oY,oY,oY,oY,oY,oY,oY,oY,oY,oY,oN,oN,oN,oN] rfl rfl (by kernel_rfl) (fun _ _ _ h => h) (Or.inr ⟨by rfl, rfl⟩) ?_ ?_
  rotate_left
  ·simp only [Act.put, List.setIfInBounds_toArray, List.set_cons_zero, List.set_cons_succ, i64_w, i32_w]
   rfl
  refine pure_ (i := 13) (N := some 20) (v := undef) (a' := ?_) #[oY,oY,oY,oY,oY,oY,oY,oY,oY,oY,oY,oY,oY,oY,oN,oN,oN] rfl rfl (by kernel_rfl) (fun _ _ _ h => h) (Or.inr ⟨by rfl, rfl⟩) ?_ ?_
  rotate_left
  ·simp only [Act.put, List.setIfInBounds_toArray, List.set_cons_zero, List.set_cons_succ, i64_w, i32_w]
   rfl
  refine pure_ (i := 14) (N := some 21) (v := undef) (a' := ?_) #[oY,oY,oY,oY,oY,oY,oY,oY,oY,oY,oY,oY,oY,oY,oY,oN,oN] rfl rfl (by kernel_rfl) (fun _ _ _ h => h) (Or.inr ⟨by rfl, rfl⟩) ?_ ?_
  rotate_left
  ·simp only [Act.put, List.setIfInBounds_toArray, List.set_cons_zero, List.set_cons_succ, i64_w, i32_w]
   rfl
  refine pure_ (i := 15) (N := some 22) (v := ?_) (a' := ?_) #[oY,oY,oY,oY,oY,oY,oY,oY,oY,oY,oY,oY,oY,oY,oY,oY,oN] rfl rfl (by kernel_rfl) (fun _ _ _ h => h) (Or.inl ⟨by rfl, ?_⟩) ?_ ?_
  rotate_left
  ·intro w'
   go_simp
   with_reducible rfl
  rotate_left
  ·simp only [Act.put, List.setIfInBounds_toArray, List.set_cons_zero, List.set_cons_succ, i64_w, i32_w]
   rfl
  refine pure_ (i := 16) (N := some 23) (v := ?_) (a' := ?_) #[oY,oY,oY,oY,oY,oY,oY,oY,oY,oY,oY,oY,oY,oY,oY,oY,oY] rfl rfl (by kernel_rfl) (fun _ _ _ h => h) (Or.inl ⟨by rfl, ?_⟩) ?_ ?_
  rotate_left
  ·intro w'
   go_simp
   with_reducible rfl
  rotate_left
  ·simp only [Act.put, List.setIfInBounds_toArray, List.set_cons_zero, List.set_cons_succ, i64_w, i32_w]
   rfl
  refine done_ (by kernel_rfl) ?_
  have msE := hHeld
  clear hHeld
  obtain ⟨⟨x0, x1, x2⟩, ⟨y0, y1, y2⟩, ⟨z0, z1, z2⟩, fE⟩ := msE
  have F1 := f0.trans fE (fun _ _ h => h)
  have mE : AhS W A B C a b c _ := ⟨⟨x0, x1, x2⟩, ⟨y0, y1, y2⟩, ⟨z0, z1, z2⟩, fE⟩
  clear x0 x1 x2 y0 y1 y2 z0 z1 z2 HAA HBA
  go_wp2_with fail
  refine (awake_at _).mono ?_
  rintro e w10 ⟨rfl, k10⟩
  have m10 := mE.fr k10
  have F10 := F1.trans k10 (fun _ _ h => h)
  obtain ⟨⟨x0, x1, x2⟩, ⟨y0, y1, y2⟩, ⟨z0, z1, z2⟩, _⟩ := id m10
  go_wp2_with fail
  refine (HAB.out _).mono ?_
  rintro e w11 ⟨rfl, k11⟩
  have m11 := m10.fr k11
  have F11 := F10.trans k11 (fun _ _ h => h)
  clear x0 x1 x2 y0 y1 y2 z0 z1 z2
  obtain ⟨⟨x0, x1, x2⟩, ⟨y0, y1, y2⟩, ⟨z0, z1, z2⟩, _⟩ := id m11
  cases p with
  | false =>
   have hge : ¬ a.f2 < b.f2 := fun e => by have := HAT.out e; cases this
   have t9 : decide (a.f2 ≥ b.f2) = true := decide_eq_true (by omega)
   have t9' : decide (b.f2 ≤ a.f2) = true := decide_eq_true (by omega)
   go_wp2
   go_ret
   exact ⟨rfl, F11⟩
  | true =>
   go_wp2_with fail
   refine (HBC.out _).mono ?_
   rintro e w12 ⟨rfl, k12⟩
   have m12 := m11.fr k12
   have F12 := F11.trans k12 (fun _ _ h => h)
   clear x0 x1 x2 y0 y1 y2 z0 z1 z2
   obtain ⟨⟨x0, x1, x2⟩, ⟨y0, y1, y2⟩, ⟨z0, z1, z2⟩, _⟩ := id m12
   by_cases hge : b.f2 ≤ a.f2
   ·have t9 : decide (a.f2 ≥ b.f2) = true := decide_eq_true hge
    have t9' : decide (b.f2 ≤ a.f2) = true := decide_eq_true hge
    cases q with
    | false =>
     go_wp2
     go_ret
     exact ⟨rfl, F12⟩
    | true =>
     obtain rfl : r = true := by have := HTR.out; simpa using this
     go_wp2_with fail
     refine (HAC.out _).mono ?_
     rintro e w13 ⟨rfl, k13⟩
     have m13 := m12.fr k13
     have F13 := F12.trans k13 (fun _ _ h => h)
     clear x0 x1 x2 y0 y1 y2 z0 z1 z2
     obtain ⟨⟨x0, x1, x2⟩, ⟨y0, y1, y2⟩, ⟨z0, z1, z2⟩, _⟩ := id m13
     go_wp2
     go_ret
     exact ⟨rfl, F13⟩
   ·have t9 : decide (a.f2 ≥ b.f2) = false := decide_eq_false hge
    have t9' : decide (b.f2 ≤ a.f2) = false := decide_eq_false hge
    cases q with
    | false =>
     go_wp2_with fail
     refine (HAB.out _).mono ?_
     rintro e w13 ⟨rfl, k13⟩
     go_wp2
     go_ret
     exact ⟨rfl, F12.trans k13 (fun _ _ h => h)⟩
    | true =>
     obtain rfl : r = true := by have := HTR.out; simpa using this
     go_wp2_with fail
     refine (HAC.out _).mono ?_
     rintro e w13 ⟨rfl, k13⟩
     have m13 := m12.fr k13
     have F13 := F12.trans k13 (fun _ _ h => h)
     clear x0 x1 x2 y0 y1 y2 z0 z1 z2
     obtain ⟨⟨x0, x1, x2⟩, ⟨y0, y1, y2⟩, ⟨z0, z1, z2⟩, _⟩ := id m13
     go_wp2_with fail
     refine (HAB.out _).mono ?_
     rintro e w14 ⟨rfl, k14⟩
     go_wp2
     go_ret
     exact ⟨rfl, F13.trans k14 (fun _ _ h => h)⟩
 ·have t1 : (a.f0 == b.f0 && (a.f1 == b.f1 && (a.f2 == b.f2))) = false := by
   rw [Bool.eq_false_iff]
   intro h
   simp at h
   exact hab (it_ext h.1 h.2.1 h.2.2)
  have e1 := hopp hab
  subst e1
  have t2 : (p == !p) = false := by cases p <;> rfl
  clear hopp hab
  refine start_ (n := 17) (S := fun w' => (w'.cell? ⟨A, 0, none⟩ = some (.int .u64 a.f0) ∧ w'.cell? ⟨A, 1, none⟩ = some (.int .u64 a.f1) ∧ w'.cell? ⟨A, 2, none⟩ = some (.int .i64 a.f2)) ∧ (w'.cell? ⟨B, 0, none⟩ = some (.int .u64 b.f0) ∧ w'.cell? ⟨B, 1, none⟩ = some (.int .u64 b.f1) ∧ w'.cell? ⟨B, 2, none⟩ = some (.int .i64 b.f2)) ∧ (w'.cell? ⟨C, 0, none⟩ = some (.int .u64 c.f0) ∧ w'.cell? ⟨C, 1, none⟩ = some (.int .u64 c.f1) ∧ w'.cell? ⟨C, 2, none⟩ = some (.int .i64 c.f2)) ∧ Fr (fun _ => False) W w') (ds := []) #[oN,oN,oN,oN,oN,oN,oN,oN,oN,oN,oN,oN,oN,oN,oN,oN,oN] (by kernel_rfl) rfl rfl ⟨msd.1, msd.2.1, msd.2.2.1, msd.2.2.2⟩ (fun hHeld => ?_)
  refine take_ (i := 0) (N := some 7) (v := ?_) (a' := ?_) #[oY,oN,oN,oN,oN,oN,oN,oN,oN,oN,oN,oN,oN,oN,oN,oN,oN] rfl rfl (by kernel_rfl) (fun _ _ _ h => h) (Or.inl ⟨by rfl, ?_⟩) hHeld ?_ ?_
  rotate_left
  ·rintro w' ⟨s0, s1, s2, s3⟩
   go_simp
   with_reducible rfl
  rotate_left
  ·simp only [Act.put, List.setIfInBounds_toArray, List.set_cons_zero, List.set_cons_succ, i64_w, i32_w]
   rfl
  refine take_ (i := 1) (N := some 8) (v := ?_) (a' := ?_) #[oY,oY,oN,oN,oN,oN,oN,oN,oN,oN,oN,oN,oN,oN,oN,oN,oN] rfl rfl (by kernel_rfl) (fun _ _ _ h => h) (Or.inl ⟨by rfl, ?_⟩) hHeld ?_ ?_
  rotate_left
  ·rintro w' ⟨s0, s1, s2, s3⟩
   go_simp
   with_reducible rfl
  rotate_left
  ·simp only [Act.put, List.setIfInBounds_toArray, List.set_cons_zero, List.set_cons_succ, i64_w, i32_w]
   rfl
  refine one_ (i := 2) (N := some 9) #[oY,oY,oY,oN,oN,oN,oN,oN,oN,oN,oN,oN,oN,oN,oN,oN,oN] rfl rfl (by kernel_rfl) (by decide) (fun K hK => ?_)
  refine goes_ Try.func12 (by kernel_rfl) rfl #[vI a, vI a] (by rfl) rfl rfl (by simp only [List.map_toArray, List.map_cons, List.map_nil]; rfl) ?_
  refine (HAA.out _).mono ?_
  rintro e w3 ⟨rfl, k3⟩
  refine ⟨_, rfl, ?_⟩
  have ms3 := AhS.fr k3 hHeld
  refine hK.out _ _ ⟨ms3.1, ms3.2.1, ms3.2.2.1, ms3.2.2.2⟩ (fun hHeld => ?_)
  clear hK K
  refine norm_ (a' := ?_) ?_ ?_
  rotate_left
  ·show Act.put _ (some 9) _ = _
   simp only [Act.put, List.setIfInBounds_toArray, List.set_cons_zero, List.set_cons_succ, i64_w, i32_w]
   rfl
  refine pure_ (i := 3) (N := some 10) (v := ?_) (a' := ?_) #[oY,oY,oY,oY,oN,oN,oN,oN,oN,oN,oN,oN,oN,oN,oN,oN,oN] rfl rfl (by kernel_rfl) (fun _ _ _ h => h) (Or.inl ⟨by rfl, ?_⟩) ?_ ?_
  rotate_left
  ·intro w'
   go_simp
   with_reducible rfl
  rotate_left
  ·simp only [Act.put, List.setIfInBounds_toArray, List.set_cons_zero, List.set_cons_succ, i64_w, i32_w]
   rfl
  refine take_ (i := 4) (N := some 11) (v := ?_) (a' := ?_) #[oY,oY,oY,oY,oY,oN,oN,oN,oN,oN,oN,oN,oN,oN,oN,oN,oN] rfl rfl (by kernel_rfl) (fun _ _ _ h => h) (Or.inl ⟨by rfl, ?_⟩) hHeld ?_ ?_
  rotate_left
  ·rintro w' ⟨s0, s1, s2, s3⟩
   go_simp
   with_reducible rfl
  rotate_left
  ·simp only [Act.put, List.setIfInBounds_toArray, List.set_cons_zero, List.set_cons_succ, i64_w, i32_w]
   rfl
  refine take_ (i := 5) (N := some 12) (v := ?_) (a' := ?_) #[oY,oY,oY,oY,oY,oY,oN,oN,oN,oN,oN,oN,oN,oN,oN,oN,oN] rfl rfl (by kernel_rfl) (fun _ _ _ h => h) (Or.inl ⟨by rfl, ?_⟩) hHeld ?_ ?_
  rotate_left
  ·rintro w' ⟨s0, s1, s2, s3⟩
   go_simp
   with_reducible rfl
  rotate_left
  ·simp only [Act.put, List.setIfInBounds_toArray, List.set_cons_zero, List.set_cons_succ, i64_w, i32_w]
   rfl
  refine pure_ (i := 6) (N := some 13) (v := ?_) (a' := ?_) #[oY,oY,oY,oY,oY,oY,oY,oN,oN,oN,oN,oN,oN,oN,oN,oN,oN] rfl rfl (by kernel_rfl) (fun _ _ _ h => h) (Or.inl ⟨by rfl, ?_⟩) ?_ ?_
  rotate_left
  ·intro w'
   go_simp
   with_reducible rfl
  rotate_left
  ·simp only [Act.put, List.setIfInBounds_toArray, List.set_cons_zero, List.set_cons_succ, i64_w, i32_w]
   rfl
  refine pure_ (i := 7) (N := some 14) (v := ?_) (a' := ?_) #[oY,oY,oY,oY,oY,oY,oY,oY,oN,oN,oN,oN,oN,oN,oN,oN,oN] rfl rfl (by kernel_rfl) (fun _ _ _ h => h) (Or.inl ⟨by rfl, ?_⟩) ?_ ?_
  rotate_left
  ·intro w'
   go_simp
   with_reducible rfl
  rotate_left
  ·simp only [Act.put, List.setIfInBounds_toArray, List.set_cons_zero, List.set_cons_succ, i64_w, i32_w]
   rfl
  refine take_ (i := 8) (N := some 15) (v := ?_) (a' := ?_) #[oY,oY,oY,oY,oY,oY,oY,oY,oY,oN,oN,oN,oN,oN,oN,oN,oN] rfl rfl (by kernel_rfl) (fun _ _ _ h => h) (Or.inl ⟨by rfl, ?_⟩) hHeld ?_ ?_
  rotate_left
  ·rintro w' ⟨s0, s1, s2, s3⟩
   go_simp
   with_reducible rfl
  rotate_left
  ·simp only [Act.put, List.setIfInBounds_toArray, List.set_cons_zero, List.set_cons_succ, i64_w, i32_w]
   rfl
  refine take_ (i := 9) (N := some 16) (v := ?_) (a' := ?_) #[oY,oY,oY,oY,oY,oY,oY,oY,oY,oY,oN,oN,oN,oN,oN,oN,oN] rfl rfl (by kernel_rfl) (fun _ _ _ h => h) (Or.inl ⟨by rfl, ?_⟩) hHeld ?_ ?_
  rotate_left
  ·rintro w' ⟨s0, s1, s2, s3⟩
   go_simp
   with_reducible rfl
  rotate_left
  ·simp only [Act.put, List.setIfInBounds_toArray, List.set_cons_zero, List.set_cons_succ, i64_w, i32_w]
   rfl
  refine take_ (i := 11) (N := some 18) (v := ?_) (a' := ?_) #[oY,oY,oY,oY,oY,oY,oY,oY,oY,oY,oN,oY,oN,oN,oN,oN,oN] rfl rfl (by kernel_rfl) (fun _ _ _ h => h) (Or.inl ⟨by rfl, ?_⟩) hHeld ?_ ?_
  rotate_left
  ·rintro w' ⟨s0, s1, s2, s3⟩
   go_simp
   with_reducible rfl
  rotate_left
  ·simp only [Act.put, List.setIfInBounds_toArray, List.set_cons_zero, List.set_cons_succ, i64_w, i32_w]
   rfl
  refine take_ (i := 12) (N := some 19) (v := ?_) (a' := ?_) #[oY,oY,oY,oY,oY,oY,oY,oY,oY,oY,oN,oY,oY,oN,oN,oN,oN] rfl rfl (by kernel_rfl) (fun _ _ _ h => h) (Or.inl ⟨by rfl, ?_⟩) hHeld ?_ ?_
  rotate_left
  ·rintro w' ⟨s0, s1, s2, s3⟩
   go_simp
   with_reducible rfl
  rotate_left
  ·simp only [Act.put, List.setIfInBounds_toArray, List.set_cons_zero, List.set_cons_succ, i64_w, i32_w]
   rfl
  refine one_ (i := 10) (N := some 17) #[oY,oY,oY,oY,oY,oY,oY,oY,oY,oY,oY,oY,oY,oN,oN,oN,oN] rfl rfl (by kernel_rfl) (by decide) (fun K hK => ?_)
  refine goes_ Try.func12 (by kernel_rfl) rfl #[vI a, vI b] (by rfl) rfl rfl (by simp only [List.map_toArray, List.map_cons, List.map_nil]; rfl) ?_
  refine (HAB.out _).mono ?_
  rintro e w4 ⟨rfl, k4⟩
  refine ⟨_, rfl, ?_⟩
  have ms4 := AhS.fr k4 hHeld
  refine hK.out _ _ ⟨ms4.1, ms4.2.1, ms4.2.2.1, ms4.2.2.2⟩ (fun hHeld => ?_)
  clear hK K
  refine norm_ (a' := ?_) ?_ ?_
  rotate_left
  ·show Act.put _ (some 17) _ = _
   simp only [Act.put, List.setIfInBounds_toArray, List.set_cons_zero, List.set_cons_succ, i64_w, i32_w]
   rfl
  refine one_ (i := 13) (N := some 20) #[oY,oY,oY,oY,oY,oY,oY,oY,oY,oY,oY,oY,oY,oY,oN,oN,oN] rfl rfl (by kernel_rfl) (by decide) (fun K hK => ?_)
  refine goes_ Try.func12 (by kernel_rfl) rfl #[vI b, vI a] (by rfl) rfl rfl (by simp only [List.map_toArray, List.map_cons, List.map_nil]; rfl) ?_
  refine (HBA.out _).mono ?_
  rintro e w5 ⟨rfl, k5⟩
  refine ⟨_, rfl, ?_⟩
  have ms5 := AhS.fr k5 hHeld
  refine hK.out _ _ ⟨ms5.1, ms5.2.1, ms5.2.2.1, ms5.2.2.2⟩ (fun hHeld => ?_)
  clear hK K
  refine norm_ (a' := ?_) ?_ ?_
  rotate_left
  ·show Act.put _ (some 20) _ = _
   simp only [Act.put, List.setIfInBounds_toArray, List.set_cons_zero, List.set_cons_succ, i64_w, i32_w]
   rfl
  refine pure_ (i := 14) (N := some 21) (v := ?_) (a' := ?_) #[oY,oY,oY,oY,oY,oY,oY,oY,oY,oY,oY,oY,oY,oY,oY,oN,oN] rfl rfl (by kernel_rfl) (fun _ _ _ h => h) (Or.inl ⟨by rfl, ?_⟩) ?_ ?_
  rotate_left
  ·intro w'
   go_simp
   with_reducible rfl
  rotate_left
  ·simp only [Act.put, List.setIfInBounds_toArray, List.set_cons_zero, List.set_cons_succ, i64_w, i32_w]
   rfl
  refine pure_ (i := 15) (N := some 22) (v := ?_) (a' := ?_) #[oY,oY,oY,oY,oY,oY,oY,oY,oY,oY,oY,oY,oY,oY,oY,oY,oN] rfl rfl (by kernel_rfl) (fun _ _ _ h => h) (Or.inl ⟨by rfl, ?_⟩) ?_ ?_
  rotate_left
  ·intro w'
   go_simp
   with_reducible rfl
  rotate_left
  ·simp only [Act.put, List.setIfInBounds_toArray, List.set_cons_zero, List.set_cons_succ, i64_w, i32_w]
   rfl
  refine pure_ (i := 16) (N := some 23) (v := ?_) (a' := ?_) #[oY,oY,oY,oY,oY,oY,oY,oY,oY,oY,oY,oY,oY,oY,oY,oY,oY] rfl rfl (by kernel_rfl) (fun _ _ _ h => h) (Or.inl ⟨by rfl, ?_⟩) ?_ ?_
  rotate_left
  ·intro w'
   go_simp
   with_reducible rfl
  rotate_left
  ·simp only [Act.put, List.setIfInBounds_toArray, List.set_cons_zero, List.set_cons_succ, i64_w, i32_w]
   rfl
  refine done_ (by kernel_rfl) ?_
  have msE := hHeld
  clear hHeld
  obtain ⟨⟨x0, x1, x2⟩, ⟨y0, y1, y2⟩, ⟨z0, z1, z2⟩, fE⟩ := msE
  have F1 := f0.trans fE (fun _ _ h => h)
  have mE : AhS W A B C a b c _ := ⟨⟨x0, x1, x2⟩, ⟨y0, y1, y2⟩, ⟨z0, z1, z2⟩, fE⟩
  clear x0 x1 x2 y0 y1 y2 z0 z1 z2 HAA HBA
  go_wp2_with fail
  refine (awake_at _).mono ?_
  rintro e w10 ⟨rfl, k10⟩
  have m10 := mE.fr k10
  have F10 := F1.trans k10 (fun _ _ h => h)
  obtain ⟨⟨x0, x1, x2⟩, ⟨y0, y1, y2⟩, ⟨z0, z1, z2⟩, _⟩ := id m10
  go_wp2_with fail
  refine (HAB.out _).mono ?_
  rintro e w11 ⟨rfl, k11⟩
  have m11 := m10.fr k11
  have F11 := F10.trans k11 (fun _ _ h => h)
  clear x0 x1 x2 y0 y1 y2 z0 z1 z2
  obtain ⟨⟨x0, x1, x2⟩, ⟨y0, y1, y2⟩, ⟨z0, z1, z2⟩, _⟩ := id m11
  cases p with
  | false =>
   have hge : ¬ a.f2 < b.f2 := fun e => by have := HAT.out e; cases this
   have t9 : decide (a.f2 ≥ b.f2) = true := decide_eq_true (by omega)
   have t9' : decide (b.f2 ≤ a.f2) = true := decide_eq_true (by omega)
   go_wp2
   go_ret
   exact ⟨rfl, F11⟩
  | true =>
   go_wp2_with fail
   refine (HBC.out _).mono ?_
   rintro e w12 ⟨rfl, k12⟩
   have m12 := m11.fr k12
   have F12 := F11.trans k12 (fun _ _ h => h)
   clear x0 x1 x2 y0 y1 y2 z0 z1 z2
   obtain ⟨⟨x0, x1, x2⟩, ⟨y0, y1, y2⟩, ⟨z0, z1, z2⟩, _⟩ := id m12
   by_cases hge : b.f2 ≤ a.f2
   ·have t9 : decide (a.f2 ≥ b.f2) = true := decide_eq_true hge
    have t9' : decide (b.f2 ≤ a.f2) = true := decide_eq_true hge
    cases q with
    | false =>
     go_wp2
     go_ret
     exact ⟨rfl, F12⟩
    | true =>
     obtain rfl : r = true := by have := HTR.out; simpa using this
     go_wp2_with fail
     refine (HAC.out _).mono ?_
     rintro e w13 ⟨rfl, k13⟩
     have m13 := m12.fr k13
     have F13 := F12.trans k13 (fun _ _ h => h)
     clear x0 x1 x2 y0 y1 y2 z0 z1 z2
     obtain ⟨⟨x0, x1, x2⟩, ⟨y0, y1, y2⟩, ⟨z0, z1, z2⟩, _⟩ := id m13
     go_wp2
     go_ret
     exact ⟨rfl, F13⟩
   ·have t9 : decide (a.f2 ≥ b.f2) = false := decide_eq_false hge
    have t9' : decide (b.f2 ≤ a.f2) = false := decide_eq_false hge
    cases q with
    | false =>
     go_wp2_with fail
     refine (HAB.out _).mono ?_
     rintro e w13 ⟨rfl, k13⟩
     go_wp2
     go_ret
     exact ⟨rfl, F12.trans k13 (fun _ _ h => h)⟩
    | true =>
     obtain rfl : r = true := by have := HTR.out; simpa using this
     go_wp2_with fail
     refine (HAC.out _).mono ?_
     rintro e w13 ⟨rfl, k13⟩
     have m13 := m12.fr k13
     have F13 := F12.trans k13 (fun _ _ h => h)
     clear x0 x1 x2 y0 y1 y2 z0 z1 z2
     obtain ⟨⟨x0, x1, x2⟩, ⟨y0, y1, y2⟩, ⟨z0, z1, z2⟩, _⟩ := id m13
     go_wp2_with fail
     refine (HAB.out _).mono ?_
     rintro e w14 ⟨rfl, k14⟩
     go_wp2
     go_ret
     exact ⟨rfl, F13.trans k14 (fun _ _ h => h)⟩
end Go.Proofs.Ytkcfhdnlmdndeaa
