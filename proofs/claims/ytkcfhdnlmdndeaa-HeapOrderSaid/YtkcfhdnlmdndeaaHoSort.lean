/- slices.SortFunc of a heap's items, by heap.Ahead. -/
import Derived.Test.YtkcfhdnlmdndeaaHoPure
import Derived.Test.YtkcfhdnlmdndeaaHpMisc
import Derived.Shelf.SlSortCmp.NoneTotal
import Derived.Shelf.SlGeneric
namespace Go.Proofs
open Go.Shelf
shelf_lay_g SlLaysF0.n6 Slsf 6 at Try 39 as Ytkcfhdnlmdndeaa.srf
end Go.Proofs
namespace Go.Proofs.Ytkcfhdnlmdndeaa
open Go.RowKit Go.Proofs.YtkcfhdnlmdndeaaW.PrintWords Go.Proofs.YtkcfhdnlmdndeaaW.PrintLast Go.Proofs.YtkcfhdnlmdndeaaW.PrintMore PHp
set_option linter.unusedVariables false
set_option linter.unusedSimpArgs false
set_option maxRecDepth 100000
/-- Draws, and blocks laid behind. -/
def Gr (w w' : World) : Prop := ∃ (n : Nat) (os : Array Obj), w' = Go.Sort.grow (w.drewN n) os
theorem Gr.refl (w : World) : Gr w w := ⟨0, #[], by rw [Go.Sort.grow_empty]; rfl⟩
theorem Gr.trans {a b c : World} (h : Gr a b) (k : Gr b c) : Gr a c := by
 obtain ⟨n, os, rfl⟩ := h
 obtain ⟨m, ps, rfl⟩ := k
 exact ⟨n + m, os ++ ps, by show Go.Sort.grow (Go.Sort.grow ((a.drewN n).drewN m) os) ps = _; rw [Go.Sort.grow_grow, World.drewN_drewN]⟩
theorem Gr.drew {a b : World} (h : Gr a b) : Gr a b.drew := h.trans ⟨1, #[], by rw [Go.Sort.grow_empty]; rfl⟩
theorem Gr.drewN {a b : World} (h : Gr a b) (n : Nat) : Gr a (b.drewN n) := h.trans ⟨n, #[], by rw [Go.Sort.grow_empty]⟩
theorem Gr.alloc {a b : World} (h : Gr a b) (o : Obj) : Gr a (b.alloc o) := h.trans ⟨0, #[o], by unfold Go.Sort.grow World.drewN World.alloc; simp only [Nat.add_zero, Array.push_eq_append]⟩
theorem Gr.fr {a b : World} (h : Gr a b) : Fr (fun _ => False) a b := by
 obtain ⟨n, os, rfl⟩ := h
 exact ⟨rfl, rfl, rfl, by simp [Go.Sort.grow, World.drewN], fun k hk _ => Go.Sort.heap_grow_old _ _ (by exact hk)⟩
theorem Gr.of_drawn {a b : World} (h : Drawn0 a b) : Gr a b := by
 obtain ⟨n, rfl⟩ := h.out
 exact (Gr.refl a).drewN n
/-- What Ahead's region reads. -/
def AhS (W1 : World) (x y : Nat) (a b : It) (w' : World) : Prop :=
 Gr W1 w' ∧ w'.cell? ⟨x, 0, none⟩ = some (.int .u64 a.f0) ∧ w'.cell? ⟨x, 1, none⟩ = some (.int .u64 a.f1) ∧ w'.cell? ⟨x, 2, none⟩ = some (.int .i64 a.f2) ∧
 w'.cell? ⟨y, 0, none⟩ = some (.int .u64 b.f0) ∧ w'.cell? ⟨y, 1, none⟩ = some (.int .u64 b.f1) ∧ w'.cell? ⟨y, 2, none⟩ = some (.int .i64 b.f2)
theorem AhS.of {W1 w' : World} {x y : Nat} {a b : It} {ta tb : TypeId} (h : Blk W1 x #[.int .u64 a.f0, .int .u64 a.f1, .int .i64 a.f2] ta) (k : Blk W1 y #[.int .u64 b.f0, .int .u64 b.f1, .int .i64 b.f2] tb) (g : Gr W1 w') : AhS W1 x y a b w' :=
 have h' := h.fr g.fr (fun h => h)
 have k' := k.fr g.fr (fun h => h)
 ⟨g, h'.cell 0, h'.cell 1, h'.cell 2, k'.cell 0, k'.cell 1, k'.cell 2⟩
theorem litK3 (W : World) (x y z : Int) (t : TypeId) : Kd.C (Kd.int .i64) (W.alloc (.cells #[.int .i64 x, .int .i64 y, .int .i64 z] t)) (some ⟨W.heap.size, 0, none⟩) [x, y, z].length [x, y, z] := by
 refine ⟨rfl, by simp, fun _ => ⟨_, rfl, fun j p hj => ⟨[.int .i64 p], rfl, rfl, fun q u hq => ?_⟩⟩⟩
 have hj3 : j < 3 := (List.getElem?_eq_some_iff.1 hj).1
 have hq0 : q = 0 := by have := (List.getElem?_eq_some_iff.1 hq).1; simpa using this
 subst hq0
 have e2 : Value.int .i64 p = u := by simpa using hq
 subst e2
 rw [add_none]
 refine ((Blk.new W #[.int .i64 x, .int .i64 y, .int .i64 z] t).cell _).trans ?_
 rcases (show j = 0 ∨ j = 1 ∨ j = 2 by omega) with rfl | rfl | rfl <;> obtain rfl := Option.some.inj hj <;> rfl
set_option maxHeartbeats 2000000 in
theorem aheadG_at (a b : It) (W : World) : Calls Try.prog 12 #[vI a, vI b] W fun e w' => e = .returned (.bool (ahead a b)) ∧ Gr W w' := by
 obtain ⟨r1, hr1⟩ : ∃ r, cmp_Compare_int64.f a.f2 b.f2 = some r := ⟨_, cmp64_f _ _⟩
 obtain ⟨r2, hr2⟩ : ∃ r, cmp_Compare_uint64.f a.f1 b.f1 = some r := ⟨_, cmpU_f _ _⟩
 obtain ⟨r3, hr3⟩ : ∃ r, cmp_Compare_uint64.f a.f0 b.f0 = some r := ⟨_, cmpU_f _ _⟩
 obtain ⟨r4, hr4⟩ : ∃ r, cmp_Or_int.f 4 [r1, r2, r3] = some r := ⟨_, or3_f _ _ _⟩
 have hf := ahead_f a b
 unfold heap_Ahead.f at hf
 rw [hr1, hr2, hr3] at hf
 simp only [Option.bind_some] at hf
 rw [hr4] at hf
 simp only [Option.bind_some] at hf
 have hf := Option.some.inj hf
 rw [← hf]
 have HR1 := hid hr1
 have HR2 := hid hr2
 have HR3 := hid hr3
 have HR4 := hid hr4
 clear hf hr1 hr2 hr3 hr4
 go_enter Try.func12, Try.ntmps12
 go_wp2_with fail
 generalize hW : World.alloc (World.alloc W _) _ = W1
 have g1 : Gr W W1 := by subst hW; exact ((Gr.refl W).alloc _).alloc _
 have bA : Blk W1 W.heap.size #[.int .u64 a.f0, .int .u64 a.f1, .int .i64 a.f2] 24 := by subst hW; exact (Blk.new' _ _ _ rfl).alloc _
 have bB : Blk W1 (W.heap.size + 1) #[.int .u64 b.f0, .int .u64 b.f1, .int .i64 b.f2] 24 := by subst hW; exact Blk.new' _ _ _ (by simp)
 clear hW
 have msd := AhS.of bA bB (Gr.refl W1).drew
 refine start_ (n := 19) (S := fun w' => Gr W1 w' ∧ w'.cell? ⟨W.heap.size, 0, none⟩ = some (.int .u64 a.f0) ∧ w'.cell? ⟨W.heap.size, 1, none⟩ = some (.int .u64 a.f1) ∧ w'.cell? ⟨W.heap.size, 2, none⟩ = some (.int .i64 a.f2) ∧ w'.cell? ⟨W.heap.size + 1, 0, none⟩ = some (.int .u64 b.f0) ∧ w'.cell? ⟨W.heap.size + 1, 1, none⟩ = some (.int .u64 b.f1) ∧ w'.cell? ⟨W.heap.size + 1, 2, none⟩ = some (.int .i64 b.f2)) (ds := []) #[oN,oN,oN,oN,oN,oN,oN,oN,oN,oN,oN,oN,oN,oN,oN,oN,oN,oN,oN] (by kernel_rfl) rfl rfl ⟨msd.1, msd.2.1, msd.2.2.1, msd.2.2.2.1, msd.2.2.2.2.1, msd.2.2.2.2.2.1, msd.2.2.2.2.2.2⟩ (fun hHeld => ?_)
 refine pure_ (i := 0) (N := some 5) (v := ?_) (a' := ?_) #[oY,oN,oN,oN,oN,oN,oN,oN,oN,oN,oN,oN,oN,oN,oN,oN,oN,oN,oN] rfl rfl (by kernel_rfl) (fun _ _ _ h => h) (Or.inl ⟨by rfl, ?_⟩) ?_ ?_
 rotate_left
 ·intro w'
  go_simp
  with_reducible rfl
 rotate_left
 ·simp only [Act.put, List.setIfInBounds_toArray, List.set_cons_zero, List.set_cons_succ, i64_w, i32_w]
  rfl
 refine pure_ (i := 2) (N := some 7) (v := ?_) (a' := ?_) #[oY,oN,oY,oN,oN,oN,oN,oN,oN,oN,oN,oN,oN,oN,oN,oN,oN,oN,oN] rfl rfl (by kernel_rfl) (fun _ _ _ h => h) (Or.inl ⟨by rfl, ?_⟩) ?_ ?_
 rotate_left
 ·intro w'
  go_simp
  with_reducible rfl
 rotate_left
 ·simp only [Act.put, List.setIfInBounds_toArray, List.set_cons_zero, List.set_cons_succ, i64_w, i32_w]
  rfl
 refine pure_ (i := 5) (N := some 10) (v := ?_) (a' := ?_) #[oY,oN,oY,oN,oN,oY,oN,oN,oN,oN,oN,oN,oN,oN,oN,oN,oN,oN,oN] rfl rfl (by kernel_rfl) (fun _ _ _ h => h) (Or.inl ⟨by rfl, ?_⟩) ?_ ?_
 rotate_left
 ·intro w'
  go_simp
  with_reducible rfl
 rotate_left
 ·simp only [Act.put, List.setIfInBounds_toArray, List.set_cons_zero, List.set_cons_succ, i64_w, i32_w]
  rfl
 refine pure_ (i := 7) (N := some 12) (v := ?_) (a' := ?_) #[oY,oN,oY,oN,oN,oY,oN,oY,oN,oN,oN,oN,oN,oN,oN,oN,oN,oN,oN] rfl rfl (by kernel_rfl) (fun _ _ _ h => h) (Or.inl ⟨by rfl, ?_⟩) ?_ ?_
 rotate_left
 ·intro w'
  go_simp
  with_reducible rfl
 rotate_left
 ·simp only [Act.put, List.setIfInBounds_toArray, List.set_cons_zero, List.set_cons_succ, i64_w, i32_w]
  rfl
 refine pure_ (i := 10) (N := some 15) (v := ?_) (a' := ?_) #[oY,oN,oY,oN,oN,oY,oN,oY,oN,oN,oY,oN,oN,oN,oN,oN,oN,oN,oN] rfl rfl (by kernel_rfl) (fun _ _ _ h => h) (Or.inl ⟨by rfl, ?_⟩) ?_ ?_
 rotate_left
 ·intro w'
  go_simp
  with_reducible rfl
 rotate_left
 ·simp only [Act.put, List.setIfInBounds_toArray, List.set_cons_zero, List.set_cons_succ, i64_w, i32_w]
  rfl
 refine pure_ (i := 12) (N := some 17) (v := ?_) (a' := ?_) #[oY,oN,oY,oN,oN,oY,oN,oY,oN,oN,oY,oN,oY,oN,oN,oN,oN,oN,oN] rfl rfl (by kernel_rfl) (fun _ _ _ h => h) (Or.inl ⟨by rfl, ?_⟩) ?_ ?_
 rotate_left
 ·intro w'
  go_simp
  with_reducible rfl
 rotate_left
 ·simp only [Act.put, List.setIfInBounds_toArray, List.set_cons_zero, List.set_cons_succ, i64_w, i32_w]
  rfl
 refine take_ (i := 1) (N := some 6) (v := ?_) (a' := ?_) #[oY,oY,oY,oN,oN,oY,oN,oY,oN,oN,oY,oN,oY,oN,oN,oN,oN,oN,oN] rfl rfl (by kernel_rfl) (fun _ _ _ h => h) (Or.inl ⟨by rfl, ?_⟩) hHeld ?_ ?_
 rotate_left
 ·rintro w' ⟨s0, s1, s2, s3, s4, s5, s6⟩
  go_simp
  with_reducible rfl
 rotate_left
 ·simp only [Act.put, List.setIfInBounds_toArray, List.set_cons_zero, List.set_cons_succ, i64_w, i32_w]
  rfl
 refine take_ (i := 3) (N := some 8) (v := ?_) (a' := ?_) #[oY,oY,oY,oY,oN,oY,oN,oY,oN,oN,oY,oN,oY,oN,oN,oN,oN,oN,oN] rfl rfl (by kernel_rfl) (fun _ _ _ h => h) (Or.inl ⟨by rfl, ?_⟩) hHeld ?_ ?_
 rotate_left
 ·rintro w' ⟨s0, s1, s2, s3, s4, s5, s6⟩
  go_simp
  with_reducible rfl
 rotate_left
 ·simp only [Act.put, List.setIfInBounds_toArray, List.set_cons_zero, List.set_cons_succ, i64_w, i32_w]
  rfl
 refine take_ (i := 6) (N := some 11) (v := ?_) (a' := ?_) #[oY,oY,oY,oY,oN,oY,oY,oY,oN,oN,oY,oN,oY,oN,oN,oN,oN,oN,oN] rfl rfl (by kernel_rfl) (fun _ _ _ h => h) (Or.inl ⟨by rfl, ?_⟩) hHeld ?_ ?_
 rotate_left
 ·rintro w' ⟨s0, s1, s2, s3, s4, s5, s6⟩
  go_simp
  with_reducible rfl
 rotate_left
 ·simp only [Act.put, List.setIfInBounds_toArray, List.set_cons_zero, List.set_cons_succ, i64_w, i32_w]
  rfl
 refine take_ (i := 8) (N := some 13) (v := ?_) (a' := ?_) #[oY,oY,oY,oY,oN,oY,oY,oY,oY,oN,oY,oN,oY,oN,oN,oN,oN,oN,oN] rfl rfl (by kernel_rfl) (fun _ _ _ h => h) (Or.inl ⟨by rfl, ?_⟩) hHeld ?_ ?_
 rotate_left
 ·rintro w' ⟨s0, s1, s2, s3, s4, s5, s6⟩
  go_simp
  with_reducible rfl
 rotate_left
 ·simp only [Act.put, List.setIfInBounds_toArray, List.set_cons_zero, List.set_cons_succ, i64_w, i32_w]
  rfl
 refine take_ (i := 11) (N := some 16) (v := ?_) (a' := ?_) #[oY,oY,oY,oY,oN,oY,oY,oY,oY,oN,oY,oY,oY,oN,oN,oN,oN,oN,oN] rfl rfl (by kernel_rfl) (fun _ _ _ h => h) (Or.inl ⟨by rfl, ?_⟩) hHeld ?_ ?_
 rotate_left
 ·rintro w' ⟨s0, s1, s2, s3, s4, s5, s6⟩
  go_simp
  with_reducible rfl
 rotate_left
 ·simp only [Act.put, List.setIfInBounds_toArray, List.set_cons_zero, List.set_cons_succ, i64_w, i32_w]
  rfl
 refine take_ (i := 13) (N := some 18) (v := ?_) (a' := ?_) #[oY,oY,oY,oY,oN,oY,oY,oY,oY,oN,oY,oY,oY,oY,oN,oN,oN,oN,oN] rfl rfl (by kernel_rfl) (fun _ _ _ h => h) (Or.inl ⟨by rfl, ?_⟩) hHeld ?_ ?_
 rotate_left
 ·rintro w' ⟨s0, s1, s2, s3, s4, s5, s6⟩
  go_simp
  with_reducible rfl
 rotate_left
 ·simp only [Act.put, List.setIfInBounds_toArray, List.set_cons_zero, List.set_cons_succ, i64_w, i32_w]
  rfl
 refine one_ (i := 4) (N := some 9) #[oY,oY,oY,oY,oY,oY,oY,oY,oY,oN,oY,oY,oY,oY,oN,oN,oN,oN,oN] rfl rfl (by kernel_rfl) (by decide) (fun K hK => ?_)
 refine goes_ Try.func42 (by kernel_rfl) rfl #[.int .i64 a.f2, .int .i64 b.f2] (by rfl) rfl rfl (by simp only [List.map_toArray, List.map_cons, List.map_nil]; rfl) ?_
 refine (cmp_Compare_int64.calls _ _ r1 _ HR1.out).mono ?_
 rintro e w3 ⟨rfl, k3⟩
 refine ⟨_, rfl, ?_⟩
 have g3 := msd.1.trans (Gr.of_drawn k3)
 have ms3 := AhS.of bA bB g3
 refine hK.out _ _ ⟨ms3.1, ms3.2.1, ms3.2.2.1, ms3.2.2.2.1, ms3.2.2.2.2.1, ms3.2.2.2.2.2.1, ms3.2.2.2.2.2.2⟩ (fun hHeld => ?_)
 clear hK K
 refine norm_ (a' := ?_) ?_ ?_
 rotate_left
 ·show Act.put _ (some 9) _ = _
  simp only [Act.put, List.setIfInBounds_toArray, List.set_cons_zero, List.set_cons_succ, i64_w, i32_w]
  rfl
 refine one_ (i := 9) (N := some 14) #[oY,oY,oY,oY,oY,oY,oY,oY,oY,oY,oY,oY,oY,oY,oN,oN,oN,oN,oN] rfl rfl (by kernel_rfl) (by decide) (fun K hK => ?_)
 refine goes_ Try.func43 (by kernel_rfl) rfl #[.int .u64 a.f1, .int .u64 b.f1] (by rfl) rfl rfl (by simp only [List.map_toArray, List.map_cons, List.map_nil]; rfl) ?_
 refine (cmp_Compare_uint64.calls _ _ r2 _ HR2.out).mono ?_
 rintro e w4 ⟨rfl, k4⟩
 refine ⟨_, rfl, ?_⟩
 have g4 := g3.trans (Gr.of_drawn k4)
 have ms4 := AhS.of bA bB g4
 refine hK.out _ _ ⟨ms4.1, ms4.2.1, ms4.2.2.1, ms4.2.2.2.1, ms4.2.2.2.2.1, ms4.2.2.2.2.2.1, ms4.2.2.2.2.2.2⟩ (fun hHeld => ?_)
 clear hK K
 refine norm_ (a' := ?_) ?_ ?_
 rotate_left
 ·show Act.put _ (some 14) _ = _
  simp only [Act.put, List.setIfInBounds_toArray, List.set_cons_zero, List.set_cons_succ, i64_w, i32_w]
  rfl
 refine one_ (i := 14) (N := some 19) #[oY,oY,oY,oY,oY,oY,oY,oY,oY,oY,oY,oY,oY,oY,oY,oN,oN,oN,oN] rfl rfl (by kernel_rfl) (by decide) (fun K hK => ?_)
 refine goes_ Try.func43 (by kernel_rfl) rfl #[.int .u64 a.f0, .int .u64 b.f0] (by rfl) rfl rfl (by simp only [List.map_toArray, List.map_cons, List.map_nil]; rfl) ?_
 refine (cmp_Compare_uint64.calls _ _ r3 _ HR3.out).mono ?_
 rintro e w5 ⟨rfl, k5⟩
 refine ⟨_, rfl, ?_⟩
 have g5 := g4.trans (Gr.of_drawn k5)
 have ms5 := AhS.of bA bB g5
 refine hK.out _ _ ⟨ms5.1, ms5.2.1, ms5.2.2.1, ms5.2.2.2.1, ms5.2.2.2.2.1, ms5.2.2.2.2.2.1, ms5.2.2.2.2.2.2⟩ (fun hHeld => ?_)
 clear hK K
 refine norm_ (a' := ?_) ?_ ?_
 rotate_left
 ·show Act.put _ (some 19) _ = _
  simp only [Act.put, List.setIfInBounds_toArray, List.set_cons_zero, List.set_cons_succ, i64_w, i32_w]
  rfl
 refine one_ (i := 15) (N := some 20) #[oY,oY,oY,oY,oY,oY,oY,oY,oY,oY,oY,oY,oY,oY,oY,oY,oN,oN,oN] rfl rfl (by kernel_rfl) (by decide) (fun K hK => ?_)
 refine value_ (w1 := ?_) (v := ?_) (by rfl) rfl ?_ ?_
 rotate_left 2
 ·go_simp
  constructor
  ·rfl
  ·rfl
 generalize hW6 : World.alloc w5 _ = W6
 have g6 : Gr W1 W6 := by subst hW6; exact g5.alloc _
 have c6 : Kd.C (Kd.int .i64) W6 (some ⟨w5.heap.size, 0, none⟩) [r1, r2, r3].length [r1, r2, r3] := by subst hW6; exact litK3 _ _ _ _ _
 clear hW6
 have ms6 := AhS.of bA bB g6
 refine hK.out _ _ ⟨ms6.1, ms6.2.1, ms6.2.2.1, ms6.2.2.2.1, ms6.2.2.2.2.1, ms6.2.2.2.2.2.1, ms6.2.2.2.2.2.2⟩ (fun hHeld => ?_)
 clear hK K
 refine norm_ (a' := ?_) ?_ ?_
 rotate_left
 ·show Act.put _ (some 20) _ = _
  simp only [Act.put, List.setIfInBounds_toArray, List.set_cons_zero, List.set_cons_succ, i64_w, i32_w]
  rfl
 refine one_ (i := 16) (N := some 21) #[oY,oY,oY,oY,oY,oY,oY,oY,oY,oY,oY,oY,oY,oY,oY,oY,oY,oN,oN] rfl rfl (by kernel_rfl) (by decide) (fun K hK => ?_)
 refine goes_ Try.func41 (by kernel_rfl) rfl #[.slice (some ⟨w5.heap.size, 0, none⟩) [r1, r2, r3].length 3] (by rfl) rfl rfl (by simp only [List.map_toArray, List.map_cons, List.map_nil]; rfl) ?_
 refine (cmp_Or_int.calls 4 _ 3 [r1, r2, r3] r4 _ c6 (by simp) HR4.out).mono ?_
 rintro e w7 ⟨rfl, k7⟩
 refine ⟨_, rfl, ?_⟩
 have g7 := g6.trans (Gr.of_drawn k7)
 have ms7 := AhS.of bA bB g7
 refine hK.out _ _ ⟨ms7.1, ms7.2.1, ms7.2.2.1, ms7.2.2.2.1, ms7.2.2.2.2.1, ms7.2.2.2.2.2.1, ms7.2.2.2.2.2.2⟩ (fun hHeld => ?_)
 clear hK K
 refine norm_ (a' := ?_) ?_ ?_
 rotate_left
 ·show Act.put _ (some 21) _ = _
  simp only [Act.put, List.setIfInBounds_toArray, List.set_cons_zero, List.set_cons_succ, i64_w, i32_w]
  rfl
 refine pure_ (i := 17) (N := some 22) (v := ?_) (a' := ?_) #[oY,oY,oY,oY,oY,oY,oY,oY,oY,oY,oY,oY,oY,oY,oY,oY,oY,oY,oN] rfl rfl (by kernel_rfl) (fun _ _ _ h => h) (Or.inl ⟨by rfl, ?_⟩) ?_ ?_
 rotate_left
 ·intro w'
  go_simp
  with_reducible rfl
 rotate_left
 ·simp only [Act.put, List.setIfInBounds_toArray, List.set_cons_zero, List.set_cons_succ, i64_w, i32_w]
  rfl
 refine pure_ (i := 18) (N := some 4) (v := ?_) (a' := ?_) #[oY,oY,oY,oY,oY,oY,oY,oY,oY,oY,oY,oY,oY,oY,oY,oY,oY,oY,oY] rfl rfl (by kernel_rfl) (fun _ _ _ h => h) (Or.inl ⟨by rfl, ?_⟩) ?_ ?_
 rotate_left
 ·intro w'
  go_simp
  with_reducible rfl
 rotate_left
 ·simp only [Act.put, List.setIfInBounds_toArray, List.set_cons_zero, List.set_cons_succ, i64_w, i32_w]
  rfl
 refine done_ (by kernel_rfl) ?_
 have gE := hHeld.1
 clear hHeld ms7 ms6 ms5 ms4 ms3 msd
 go_wp2
 go_ret
 exact ⟨rfl, g1.trans gE⟩
def cfI (a b : It) : Int := if ahead a b = true then -1 else 1
theorem cfI_lt (a b : It) : Go.Proofs.ltOf cfI a b = ahead a b := by
 unfold Go.Proofs.ltOf cfI
 cases ahead a b <;> rfl
set_option maxHeartbeats 1000000 in
theorem cfI_at (a b : It) (W : World) : Calls Try.prog 40 #[vI a, vI b] W fun e w' => e = .returned (.int .i64 (cfI a b)) ∧ Gr W w' := by
 obtain ⟨q, hq⟩ : ∃ q, q = ahead a b := ⟨_, rfl⟩
 have HA := hid (fun W => aheadG_at a b W)
 rw [← hq] at HA
 unfold cfI
 rw [← hq]
 clear hq
 cases q
 all_goals
  go_enter Try.func40, Try.ntmps40
  go_wp2_with fail
  generalize hW : World.alloc (World.alloc W _) _ = W1
  have g1 : Gr W W1 := by subst hW; exact ((Gr.refl W).alloc _).alloc _
  clear hW
  refine (HA.out W1).mono ?_
  rintro e w2 ⟨rfl, g2⟩
  go_wp2
  go_ret
  exact ⟨rfl, g1.trans g2⟩
theorem swoI : Go.Sort.SWO (Go.Proofs.ltOf cfI) where
 irrefl x := by rw [cfI_lt]; exact ahead_no.2 (it_irrefl x)
 trans x y z h1 h2 := by rw [cfI_lt] at *; exact ahead_iff.2 (it_trans (ahead_iff.1 h1) (ahead_iff.1 h2))
 ntrans x y z h1 h2 := by rw [cfI_lt] at *; exact ahead_no.2 (it_le_trans (ahead_no.1 h2) (ahead_no.1 h1))
instance itInh : Inhabited It := ⟨⟨0, 0, 0⟩⟩
open Go.Sort (HoldsK flatK putRowK putRow grow size_flatK get_flatK)
theorem flatK_get {l : List It} {i j : Nat} {c : It} {v : Value} (hi : l[i]? = some c) (hj : (encI c)[j]? = some v) : (flatK encI 3 l.toArray)[i * 3 + j]! = v := by
 have hil := (List.getElem?_eq_some_iff.1 hi).1
 have hj3 : j < 3 := by have := (List.getElem?_eq_some_iff.1 hj).1; simpa [encI] using this
 rw [get_flatK _ _ _ _ (by simp; omega)]
 have e1 : (i * 3 + j) / 3 = i := by omega
 have e2 : (i * 3 + j) % 3 = j := by omega
 rw [e1, e2]
 have e3 : l.toArray[i]! = c := by
  rw [getElem!_pos _ i (by simpa using hil)]
  simpa using (List.getElem?_eq_some_iff.1 hi).2
 rw [e3, getElem!_pos _ j (by simpa [encI] using hj3)]
 exact (List.getElem?_eq_some_iff.1 hj).2
theorem row_holds {t : TypeId} {w : World} {g cap : Nat} {l : List It} (h : Row t w g cap l) : HoldsK encI 3 w g 0 l.toArray := by
 obtain ⟨cur, hb, h1, h2, h3⟩ := h
 intro k hk
 rw [size_flatK] at hk
 simp at hk
 obtain ⟨c, hc⟩ : ∃ c, l[k / 3]? = some c := ⟨_, List.getElem?_eq_getElem (by omega)⟩
 obtain ⟨v, hv⟩ : ∃ v, (encI c)[k % 3]? = some v := ⟨_, List.getElem?_eq_getElem (by simp [encI]; omega)⟩
 have e : k = k / 3 * 3 + k % 3 := by omega
 refine ⟨?_, hb.free _⟩
 rw [Nat.zero_add, hb.cell, e, h3 _ _ hc _ _ hv, flatK_get hc hv]; rfl
theorem row_put {t : TypeId} {w : World} {g cap n : Nat} {os : Array Obj} {l m : List It} (h : Row t w g cap l) (hl : m.length = l.length) :
  Row t (grow (putRowK encI 3 (Sort.ahead w n) g 0 m.toArray) os) g cap m ∧ Fr (fun i => i = g) w (grow (putRowK encI 3 (Sort.ahead w n) g 0 m.toArray) os) := by
 have hlt := h.lt
 obtain ⟨cur, hb, h1, h2, h3⟩ := h
 have hf : Fr (fun i => i = g) w (grow (putRowK encI 3 (Sort.ahead w n) g 0 m.toArray) os) := by
  refine ⟨rfl, rfl, rfl, by simp [putRowK], fun k hk hne => ?_⟩
  rw [Sort.heap_grow_old _ _ (by simpa [putRowK] using hk)]
  have : ¬ g = k := fun e => hne e.symm
  simp [putRowK, putRow, Sort.mapBlock, Sort.ahead, Array.getElem?_modify, this]
 have hbW : (putRowK encI 3 (Sort.ahead w n) g 0 m.toArray).heap[g]? = some (.cells (Sort.putCells id 0 (flatK encI 3 m.toArray) cur) t (0, 0)) := by
  have hb' : w.heap[g]? = some (.cells cur t (0, 0)) := hb
  simp [putRowK, putRow, Sort.mapBlock, Sort.ahead, Array.getElem?_modify, hb', Sort.onCells]
 refine ⟨⟨Sort.putCells id 0 (flatK encI 3 m.toArray) cur, ?_, ?_, by omega, fun i c hi j v hj => ?_⟩, hf⟩
 ·unfold Blk
  rw [Sort.heap_grow_old _ _ (by simpa [putRowK] using hlt)]
  exact hbW
 ·unfold Sort.putCells; simpa using h1
 ·have hil := (List.getElem?_eq_some_iff.1 hi).1
  have hj3 : j < 3 := by have := (List.getElem?_eq_some_iff.1 hj).1; simpa [encI] using this
  have hs : i * 3 + j < cur.size := by omega
  unfold Sort.putCells
  rw [Array.getElem?_mapIdx, Array.getElem?_eq_getElem hs]
  simp only [Option.map_some]
  rw [if_pos (by rw [size_flatK]; simp; omega), Nat.sub_zero, flatK_get hi hj]; rfl
theorem sortI_at {w : World} {g cap c' : Nat} {l : List It} (h : Row 24 w g cap l) (hs : l.length < 4611686018427387904) :
  Calls Try.prog 39 #[.slice (some ⟨g, 0, none⟩) l.length c', .func (.func 40) #[] #[]] w fun e w' => e = .returned (.tuple #[]) ∧ Row 24 w' g cap (l.mergeSort fun x y => !ahead y x) ∧ Fr (fun i => i = g) w w' := by
 have hcmp : Go.Proofs.CmpLays Try.prog 40 #[] encI 3 cfI g 0 l.toArray.size w := fun m os dk hd x y =>
  (cfI_at x y _).mono fun e w' ⟨h1, n, o, h2⟩ => ⟨h1, n, o, h2⟩
 have hT : ∀ x y, (Go.Proofs.ltOf cfI) x y = false → (Go.Proofs.ltOf cfI) y x = false → x = y := fun x y h1 h2 => by
  rw [cfI_lt] at h1 h2
  by_cases e : x = y
  ·exact e
  ·rcases it_total e with k | k
   ·exact absurd k (ahead_no.1 h1)
   ·exact absurd k (ahead_no.1 h2)
 refine Calls.mono (AnyQ.slices_SortFunc_total Ytkcfhdnlmdndeaa.srf 3 (fun w => by kernel_rfl) (fun w => by kernel_rfl) encI (fun _ => rfl) (fun x v hv => ?_) cfI swoI 40 #[] g 0 c' l.toArray w (enters_of Try.func40 (by kernel_rfl) rfl) hcmp (row_holds h) h.lt (by simpa using hs) hT) ?_
 ·simp only [encI, List.mem_cons, List.not_mem_nil, or_false] at hv
  rcases hv with rfl | rfl | rfl <;> rfl
 rintro e w' ⟨rfl, n, os, rfl⟩
 have e1 : (fun x y : It => !(Go.Proofs.ltOf cfI) y x) = fun x y => !ahead y x := by funext x y; rw [cfI_lt]
 rw [e1]
 obtain ⟨h1, h2⟩ := row_put (n := n) (os := os) h (m := l.mergeSort fun x y => !ahead y x) (by rw [List.length_mergeSort])
 exact ⟨rfl, h1, h2⟩
theorem sortI_no (A : Option Addr) (cap : Nat) (w : World) : Calls Try.prog 39 #[.slice A 0 cap, .func (.func 40) #[] #[]] w fun e w' => e = .returned (.tuple #[]) ∧ w = w' := by
 refine Calls.mono (AnyF.slices_SortFunc_none Ytkcfhdnlmdndeaa.srf A cap _ w) ?_
 rintro e w' ⟨rfl, rfl⟩
 exact ⟨rfl, rfl⟩
/-- The items in order. -/
def srtI (l : List It) : List It := l.mergeSort fun x y => !ahead y x
theorem srtI_perm (l : List It) : (srtI l).Perm l := List.mergeSort_perm _ _
theorem srtI_sorted (l : List It) : (srtI l).Pairwise fun x y => ¬ itLt y x := by
 have := List.pairwise_mergeSort (le := fun x y : It => !ahead y x) (fun a b c h1 h2 => by
  simp at h1 h2 ⊢
  exact ahead_no.2 (it_le_trans (ahead_no.1 h1) (ahead_no.1 h2))) (fun a b => by
  simp
  cases h : ahead b a with
  | false => exact .inl rfl
  | true => exact .inr (ahead_no.2 (it_asymm (ahead_iff.1 h)))) l
 exact this.imp fun h => by simp at h; exact ahead_no.1 h
end Go.Proofs.Ytkcfhdnlmdndeaa
