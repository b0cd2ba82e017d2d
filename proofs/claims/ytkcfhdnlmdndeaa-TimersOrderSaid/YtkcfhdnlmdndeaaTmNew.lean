/- timers.New. -/
import Derived.Test.YtkcfhdnlmdndeaaTmPure
namespace Go.Proofs.Ytkcfhdnlmdndeaa
open Go.RowKit Go.Proofs.YtkcfhdnlmdndeaaW.PrintWords Go.Proofs.YtkcfhdnlmdndeaaW.PrintLast Go.Proofs.YtkcfhdnlmdndeaaW.PrintMore PHp
set_option linter.unusedVariables false
set_option linter.unusedSimpArgs false
set_option maxRecDepth 100000
/-- So far: one heap, two heaps. -/
def NW (w0 : World) (x tm : Nat) (wr : World) (vj : Value) : Prop := Fr (fun _ => False) w0 wr ∧ MF 22 .u64 wr tm 0 (tmF fun _ => none) ∧
  ((vj = .int .i64 0 ∧ Blk wr x #[.pointer none, .pointer none, .map (some tm), .int .u64 0, .int .u64 0] 104) ∨
   (vj = .int .i64 1 ∧ ∃ b0 m0, Blk wr x #[.pointer (some ⟨b0, 0, none⟩), .pointer none, .map (some tm), .int .u64 0, .int .u64 0] 104 ∧ HP wr b0 m0 (.slice none 0 0) [] 256 ∧ (x < b0 ∧ x < m0 ∧ tm < b0 ∧ tm < m0)) ∨
   (vj = .int .i64 2 ∧ ∃ b0 m0 b1 m1, Blk wr x #[.pointer (some ⟨b0, 0, none⟩), .pointer (some ⟨b1, 0, none⟩), .map (some tm), .int .u64 0, .int .u64 0] 104 ∧ HP wr b0 m0 (.slice none 0 0) [] 256 ∧ HP wr b1 m1 (.slice none 0 0) [] 256 ∧ (x < b0 ∧ x < m0 ∧ tm < b0 ∧ tm < m0) ∧ (b0 < b1 ∧ m0 < b1 ∧ b0 < m1 ∧ m0 < m1)))
theorem ft_nil {b m i : Nat} : Ft b m (.slice none 0 0) i ↔ i = b ∨ i = m := by
  unfold Ft; simp [Value.ownBlock]
theorem ti_nil : TI (fun _ => []) (fun _ => 0) (fun _ => none) 0 0 :=
  ⟨fun k y hy => (by cases hy), fun j r h => (by cases h), fun k y hy => (by cases hy), rfl, fun k => ok_nil, fun k y hy => (by cases hy), fun k => (by show (0 : Int) ≤ 0 ∧ (0 : Int) ≤ MT; unfold MT; omega)⟩
set_option maxHeartbeats 2000000 in
theorem tnew_at (w : World) : Calls Try.prog 33 #[] w fun e w' => ∃ x b F, e = .returned (.pointer (some ⟨x, 0, none⟩)) ∧ TS w' x b F (fun _ => []) (fun _ => 0) 0 0 ∧ Fr (fun _ => False) w w' ∧ ∀ i, F i → w.heap.size ≤ i := by
  have hmm := @run_makeMap Try.prog
  go_enter Try.func33, Try.ntmps33
  go_wp2_with fail
  generalize hW : World.alloc (World.alloc w _) _ = W
  have f0 : Fr (fun _ => False) w W := by subst hW; (repeat' (first | (with_reducible exact Fr.refl _ _) | (with_reducible assumption) | (with_reducible refine Fr.alloc ?_ _) | (with_reducible refine Fr.drew ?_) | (with_reducible refine Fr.drewN ?_ _) | (with_reducible refine Fr.setCell ?_ _ _ ?_) | (exact Or.inr rfl) | (left; simp; done) | (left; simp; omega) | (simp; done) | (simp; omega) | omega))
  have bX : Blk W (w.heap.size + 1) #[.pointer none, .pointer none, .map (some w.heap.size), .int .u64 0, .int .u64 0] 104 := by subst hW; (repeat' (first | (with_reducible assumption) | (with_reducible apply Blk.drew) | (with_reducible apply Blk.drewN) | (with_reducible apply Blk.set) | (with_reducible apply Blk.other) | (exact Blk.new' _ _ _ (by first | rfl | (simp; done) | (simp; omega))) | (with_reducible apply Blk.alloc) | (with_reducible rfl) | (simp; done) | (simp; omega) | omega | rfl))
  have mT : MF 22 .u64 W w.heap.size 0 (tmF fun _ => none) := by
    subst hW
    exact ((MF.made w rfl).fr (S := fun _ => False) ((Fr.refl _ _).alloc _) (fun h => h)).congr (fun k _ => rfl)
  clear hW
  go_loopw [6] (fun vj wr => Hid (NW w (w.heap.size + 1) w.heap.size wr vj)) (fun vj _ => 2 - (intOf vj).toNat)
  case atStart => exact hid ⟨f0, mT, .inl ⟨rfl, bX⟩⟩
  case round =>
    clear f0 bX mT
    obtain ⟨hf, hm, hd⟩ := hrel.out
    rcases hd with ⟨rfl, hb⟩ | ⟨rfl, b0, m0, hb, hp0, hl⟩ | ⟨rfl, b0, m0, b1, m1, hb, hp0, hp1, hl, hl2⟩
    · clear hrel
      go_wp2_with fail
      have msd : Fr (fun _ => False) wr wr.drew := Fr.drew (Fr.refl _ _)
      refine start_ (n := 10) (S := fun w' => Fr (fun _ => False) wr w') (ds := [9]) #[oN,oN,oN,oN,oN,oN,oN,oN,oN,oN] (by kernel_rfl) rfl rfl (msd) (fun hHeld => ?_)
      refine pure_ (i := 0) (N := some 10) (v := ?_) (a' := ?_) #[oY,oN,oN,oN,oN,oN,oN,oN,oN,oN] rfl rfl (by kernel_rfl) (fun _ _ _ h => h) (Or.inl ⟨by rfl, ?_⟩) ?_ ?_
      rotate_left
      · intro w'
        go_simp
        with_reducible rfl
      rotate_left
      · simp only [Act.put, List.setIfInBounds_toArray, List.set_cons_zero, List.set_cons_succ, i64_w, i32_w]
        rfl
      refine pure_ (i := 1) (N := some 11) (v := ?_) (a' := ?_) #[oY,oY,oN,oN,oN,oN,oN,oN,oN,oN] rfl rfl (by kernel_rfl) (fun _ _ _ h => h) (Or.inl ⟨by rfl, ?_⟩) ?_ ?_
      rotate_left
      · intro w'
        go_simp
        with_reducible rfl
      rotate_left
      · simp only [Act.put, List.setIfInBounds_toArray, List.set_cons_zero, List.set_cons_succ, i64_w, i32_w]
        rfl
      refine pure_ (i := 6) (N := some 15) (v := ?_) (a' := ?_) #[oY,oY,oN,oN,oN,oN,oY,oN,oN,oN] rfl rfl (by kernel_rfl) (fun _ _ _ h => h) (Or.inl ⟨by rfl, ?_⟩) ?_ ?_
      rotate_left
      · intro w'
        go_simp
        with_reducible rfl
      rotate_left
      · simp only [Act.put, List.setIfInBounds_toArray, List.set_cons_zero, List.set_cons_succ, i64_w, i32_w]
        rfl
      refine pure_ (i := 7) (N := some 16) (v := ?_) (a' := ?_) #[oY,oY,oN,oN,oN,oN,oY,oY,oN,oN] rfl rfl (by kernel_rfl) (fun _ _ _ h => h) (Or.inl ⟨by rfl, ?_⟩) ?_ ?_
      rotate_left
      · intro w'
        go_simp
        with_reducible rfl
      rotate_left
      · simp only [Act.put, List.setIfInBounds_toArray, List.set_cons_zero, List.set_cons_succ, i64_w, i32_w]
        rfl
      refine one_ (i := 2) (N := some 12) #[oY,oY,oY,oN,oN,oN,oY,oY,oN,oN] rfl rfl (by kernel_rfl) (by decide) (fun K hK => ?_)
      refine goes_ Try.func14 (by kernel_rfl) rfl #[.int .i64 256] (by rfl) rfl rfl (by simp only [List.map_toArray, List.map_cons, List.map_nil]; rfl) ?_
      refine (new_at (size := 256) (by omega) (by omega)).mono ?_
      rintro e w2 ⟨b0, m0, rfl, hp0, hb0, hm0, f2⟩
      refine ⟨_, rfl, ?_⟩
      have f3 := msd.trans f2 (fun _ _ h => h)
      have hb2 := hb.fr f3 (fun h => h)
      refine hK.out _ _ (f3) (fun hHeld => ?_)
      clear hK K
      refine norm_ (a' := ?_) ?_ ?_
      rotate_left
      · show Act.put _ (some 12) _ = _
        simp only [Act.put, List.setIfInBounds_toArray, List.set_cons_zero, List.set_cons_succ, i64_w, i32_w]
        rfl
      refine pure_ (i := 3) (N := some 9) (v := ?_) (a' := ?_) #[oY,oY,oY,oY,oN,oN,oY,oY,oN,oN] rfl rfl (by kernel_rfl) (fun _ _ _ h => h) (Or.inl ⟨by rfl, ?_⟩) ?_ ?_
      rotate_left
      · intro w'
        go_simp
        with_reducible rfl
      rotate_left
      · simp only [Act.put, List.setIfInBounds_toArray, List.set_cons_zero, List.set_cons_succ, i64_w, i32_w]
        rfl
      refine pure_ (i := 4) (N := some 13) (v := ?_) (a' := ?_) #[oY,oY,oY,oY,oY,oN,oY,oY,oN,oN] rfl rfl (by kernel_rfl) (fun _ _ _ h => h) (Or.inl ⟨by rfl, ?_⟩) ?_ ?_
      rotate_left
      · intro w'
        go_simp
        with_reducible rfl
      rotate_left
      · simp only [Act.put, List.setIfInBounds_toArray, List.set_cons_zero, List.set_cons_succ, i64_w, i32_w]
        rfl
      refine pure_ (i := 5) (N := some 14) (v := ?_) (a' := ?_) #[oY,oY,oY,oY,oY,oY,oY,oY,oN,oN] rfl rfl (by kernel_rfl) (fun _ _ _ h => h) (Or.inl ⟨by rfl, ?_⟩) ?_ ?_
      rotate_left
      · intro w'
        go_simp
        with_reducible rfl
      rotate_left
      · simp only [Act.put, List.setIfInBounds_toArray, List.set_cons_zero, List.set_cons_succ, i64_w, i32_w]
        rfl
      refine pure_ (i := 8) (N := some 17) (v := ?_) (a' := ?_) #[oY,oY,oY,oY,oY,oY,oY,oY,oY,oN] rfl rfl (by kernel_rfl) (fun _ _ _ h => h) (Or.inl ⟨by rfl, ?_⟩) ?_ ?_
      rotate_left
      · intro w'
        go_simp
        with_reducible rfl
      rotate_left
      · simp only [Act.put, List.setIfInBounds_toArray, List.set_cons_zero, List.set_cons_succ, i64_w, i32_w]
        rfl
      refine last_ (i := 9) (N := none) #[oY,oY,oY,oY,oY,oY,oY,oY,oY,oY] rfl rfl (by kernel_rfl) (by decide) (fun K hK => ?_)
      have c0 := hb2.cell 0
      have q0 := hb2.free 0
      simp at c0
      refine skip_ (w1 := ?_) (by rfl) rfl ?_ ?_
      rotate_left
      · go_simp
        rfl
      generalize hW : World.setCell w2 _ _ = w4
      have b4 : Blk w4 (w.heap.size + 1) #[.pointer (some ⟨b0, 0, none⟩), .pointer none, .map (some w.heap.size), .int .u64 0, .int .u64 0] 104 := by subst hW; exact hb2.set rfl
      have f4 : Fr (fun i => i = w.heap.size + 1) w2 w4 := by subst hW; (repeat' (first | (with_reducible exact Fr.refl _ _) | (with_reducible assumption) | (with_reducible refine Fr.alloc ?_ _) | (with_reducible refine Fr.drew ?_) | (with_reducible refine Fr.drewN ?_ _) | (with_reducible refine Fr.setCell ?_ _ _ ?_) | (exact Or.inr rfl) | (left; simp; done) | (left; simp; omega) | (simp; done) | (simp; omega) | omega))
      clear hW
      refine hK.out _ _ ?_
      clear hK K
      refine done_ (by kernel_rfl) ?_
      have hlt := hb.lt
      have hltm := hm.lt
      have sz : wr.heap.size ≤ b0 ∧ wr.heap.size ≤ m0 := ⟨hb0, hm0⟩
      have NEW : Hid (NW w (w.heap.size + 1) w.heap.size w4 (.int .i64 1)) := hid ⟨(hf.trans f3 (fun _ _ h => h)).trans f4 (fun i hi e => by have e : i = w.heap.size + 1 := e; omega), (hm.fr f3 (fun h => h)).fr f4 (fun e => by omega),
        .inr (.inl ⟨rfl, b0, m0, b4, hp0.fr f4 (fun i hi e => by have := ft_nil.1 hi; have e : i = w.heap.size + 1 := e; omega), by omega⟩)⟩
      clear hHeld c0 q0 msd
      go_wp2
      go_roundw
      case rel => exact NEW
      case measure => simp [intOf]
    · clear hrel
      go_wp2_with fail
      have msd : Fr (fun _ => False) wr wr.drew := Fr.drew (Fr.refl _ _)
      refine start_ (n := 10) (S := fun w' => Fr (fun _ => False) wr w') (ds := [9]) #[oN,oN,oN,oN,oN,oN,oN,oN,oN,oN] (by kernel_rfl) rfl rfl (msd) (fun hHeld => ?_)
      refine pure_ (i := 0) (N := some 10) (v := ?_) (a' := ?_) #[oY,oN,oN,oN,oN,oN,oN,oN,oN,oN] rfl rfl (by kernel_rfl) (fun _ _ _ h => h) (Or.inl ⟨by rfl, ?_⟩) ?_ ?_
      rotate_left
      · intro w'
        go_simp
        with_reducible rfl
      rotate_left
      · simp only [Act.put, List.setIfInBounds_toArray, List.set_cons_zero, List.set_cons_succ, i64_w, i32_w]
        rfl
      refine pure_ (i := 1) (N := some 11) (v := ?_) (a' := ?_) #[oY,oY,oN,oN,oN,oN,oN,oN,oN,oN] rfl rfl (by kernel_rfl) (fun _ _ _ h => h) (Or.inl ⟨by rfl, ?_⟩) ?_ ?_
      rotate_left
      · intro w'
        go_simp
        with_reducible rfl
      rotate_left
      · simp only [Act.put, List.setIfInBounds_toArray, List.set_cons_zero, List.set_cons_succ, i64_w, i32_w]
        rfl
      refine pure_ (i := 6) (N := some 15) (v := ?_) (a' := ?_) #[oY,oY,oN,oN,oN,oN,oY,oN,oN,oN] rfl rfl (by kernel_rfl) (fun _ _ _ h => h) (Or.inl ⟨by rfl, ?_⟩) ?_ ?_
      rotate_left
      · intro w'
        go_simp
        with_reducible rfl
      rotate_left
      · simp only [Act.put, List.setIfInBounds_toArray, List.set_cons_zero, List.set_cons_succ, i64_w, i32_w]
        rfl
      refine pure_ (i := 7) (N := some 16) (v := ?_) (a' := ?_) #[oY,oY,oN,oN,oN,oN,oY,oY,oN,oN] rfl rfl (by kernel_rfl) (fun _ _ _ h => h) (Or.inl ⟨by rfl, ?_⟩) ?_ ?_
      rotate_left
      · intro w'
        go_simp
        with_reducible rfl
      rotate_left
      · simp only [Act.put, List.setIfInBounds_toArray, List.set_cons_zero, List.set_cons_succ, i64_w, i32_w]
        rfl
      refine one_ (i := 2) (N := some 12) #[oY,oY,oY,oN,oN,oN,oY,oY,oN,oN] rfl rfl (by kernel_rfl) (by decide) (fun K hK => ?_)
      refine goes_ Try.func14 (by kernel_rfl) rfl #[.int .i64 256] (by rfl) rfl rfl (by simp only [List.map_toArray, List.map_cons, List.map_nil]; rfl) ?_
      refine (new_at (size := 256) (by omega) (by omega)).mono ?_
      rintro e w2 ⟨b1, m1, rfl, hp1, hb1, hm1, f2⟩
      refine ⟨_, rfl, ?_⟩
      have f3 := msd.trans f2 (fun _ _ h => h)
      have hb2 := hb.fr f3 (fun h => h)
      refine hK.out _ _ (f3) (fun hHeld => ?_)
      clear hK K
      refine norm_ (a' := ?_) ?_ ?_
      rotate_left
      · show Act.put _ (some 12) _ = _
        simp only [Act.put, List.setIfInBounds_toArray, List.set_cons_zero, List.set_cons_succ, i64_w, i32_w]
        rfl
      refine pure_ (i := 3) (N := some 9) (v := ?_) (a' := ?_) #[oY,oY,oY,oY,oN,oN,oY,oY,oN,oN] rfl rfl (by kernel_rfl) (fun _ _ _ h => h) (Or.inl ⟨by rfl, ?_⟩) ?_ ?_
      rotate_left
      · intro w'
        go_simp
        with_reducible rfl
      rotate_left
      · simp only [Act.put, List.setIfInBounds_toArray, List.set_cons_zero, List.set_cons_succ, i64_w, i32_w]
        rfl
      refine pure_ (i := 4) (N := some 13) (v := ?_) (a' := ?_) #[oY,oY,oY,oY,oY,oN,oY,oY,oN,oN] rfl rfl (by kernel_rfl) (fun _ _ _ h => h) (Or.inl ⟨by rfl, ?_⟩) ?_ ?_
      rotate_left
      · intro w'
        go_simp
        with_reducible rfl
      rotate_left
      · simp only [Act.put, List.setIfInBounds_toArray, List.set_cons_zero, List.set_cons_succ, i64_w, i32_w]
        rfl
      refine pure_ (i := 5) (N := some 14) (v := ?_) (a' := ?_) #[oY,oY,oY,oY,oY,oY,oY,oY,oN,oN] rfl rfl (by kernel_rfl) (fun _ _ _ h => h) (Or.inl ⟨by rfl, ?_⟩) ?_ ?_
      rotate_left
      · intro w'
        go_simp
        with_reducible rfl
      rotate_left
      · simp only [Act.put, List.setIfInBounds_toArray, List.set_cons_zero, List.set_cons_succ, i64_w, i32_w]
        rfl
      refine pure_ (i := 8) (N := some 17) (v := ?_) (a' := ?_) #[oY,oY,oY,oY,oY,oY,oY,oY,oY,oN] rfl rfl (by kernel_rfl) (fun _ _ _ h => h) (Or.inl ⟨by rfl, ?_⟩) ?_ ?_
      rotate_left
      · intro w'
        go_simp
        with_reducible rfl
      rotate_left
      · simp only [Act.put, List.setIfInBounds_toArray, List.set_cons_zero, List.set_cons_succ, i64_w, i32_w]
        rfl
      refine last_ (i := 9) (N := none) #[oY,oY,oY,oY,oY,oY,oY,oY,oY,oY] rfl rfl (by kernel_rfl) (by decide) (fun K hK => ?_)
      have c0 := hb2.cell 1
      have q0 := hb2.free 1
      simp at c0
      refine skip_ (w1 := ?_) (by rfl) rfl ?_ ?_
      rotate_left
      · go_simp
        rfl
      generalize hW : World.setCell w2 _ _ = w4
      have b4 : Blk w4 (w.heap.size + 1) #[.pointer (some ⟨b0, 0, none⟩), .pointer (some ⟨b1, 0, none⟩), .map (some w.heap.size), .int .u64 0, .int .u64 0] 104 := by subst hW; exact hb2.set rfl
      have f4 : Fr (fun i => i = w.heap.size + 1) w2 w4 := by subst hW; (repeat' (first | (with_reducible exact Fr.refl _ _) | (with_reducible assumption) | (with_reducible refine Fr.alloc ?_ _) | (with_reducible refine Fr.drew ?_) | (with_reducible refine Fr.drewN ?_ _) | (with_reducible refine Fr.setCell ?_ _ _ ?_) | (exact Or.inr rfl) | (left; simp; done) | (left; simp; omega) | (simp; done) | (simp; omega) | omega))
      clear hW
      refine hK.out _ _ ?_
      clear hK K
      refine done_ (by kernel_rfl) ?_
      have hlt := hb.lt
      have hltm := hm.lt
      have l0 := hp0.lt b0 (.inl rfl)
      have l1 := hp0.lt m0 (.inr (.inl rfl))
      have sz : wr.heap.size ≤ b1 ∧ wr.heap.size ≤ m1 := ⟨hb1, hm1⟩
      have NEW : Hid (NW w (w.heap.size + 1) w.heap.size w4 (.int .i64 2)) := hid ⟨(hf.trans f3 (fun _ _ h => h)).trans f4 (fun i hi e => by have e : i = w.heap.size + 1 := e; omega), (hm.fr f3 (fun h => h)).fr f4 (fun e => by omega),
        .inr (.inr ⟨rfl, b0, m0, b1, m1, b4, (hp0.fr0 f3).fr f4 (fun i hi e => by have := ft_nil.1 hi; have e : i = w.heap.size + 1 := e; omega), hp1.fr f4 (fun i hi e => by have := ft_nil.1 hi; have e : i = w.heap.size + 1 := e; omega), hl, by omega⟩)⟩
      clear hHeld c0 q0 msd
      go_wp2
      go_roundw
      case rel => exact NEW
      case measure => simp [intOf]
    · clear hrel
      go_wp2
      go_returns
      refine ⟨w.heap.size + 1, fun k => bif k then b1 else b0, FT (w.heap.size + 1) w.heap.size (fun k => bif k then b1 else b0) (fun k => bif k then m1 else m0) (fun _ => .slice none 0 0), rfl,
        ⟨fun k => bif k then m1 else m0, fun _ => .slice none 0 0, fun _ => [], w.heap.size, 0, fun _ => none, ⟨hb, fun k => by cases k; exact hp0; exact hp1, hm, ?_, ?_, ?_⟩, ti_nil, fun _ => List.Perm.refl _, by omega, by omega, fun i => Iff.rfl⟩, hf, ?_⟩
      · intro j k hjk i hi hi'
        have h1 := ft_nil.1 hi
        have h2 := ft_nil.1 hi'
        cases j <;> cases k <;> simp at hjk h1 h2 <;> omega
      · intro k hk
        have h1 := ft_nil.1 hk
        cases k <;> simp at h1 <;> omega
      · intro k hk
        have h1 := ft_nil.1 hk
        cases k <;> simp at h1 <;> omega
      · rintro i (rfl | rfl | ⟨k, hk⟩)
        · omega
        · omega
        · have h1 := ft_nil.1 hk
          cases k <;> simp at h1 <;> omega
end Go.Proofs.Ytkcfhdnlmdndeaa
