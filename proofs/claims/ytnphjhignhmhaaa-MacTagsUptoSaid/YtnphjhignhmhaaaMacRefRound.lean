/- The document's round. -/
import Derived.Test.YtnphjhignhmhaaaMacTag0
namespace Go.Proofs.Ytnphjhignhmhaaa
open Go.RowKit
set_option linter.unusedVariables false
set_option linter.unusedSimpArgs false
set_option maxRecDepth 100000

/-- The document's four numbers. -/
def Sr (w : World) (b : Nat) (v : S4) : Prop :=
  Blk w b #[.int .u64 v.1, .int .u64 v.2.1, .int .u64 v.2.2.1, .int .u64 v.2.2.2] 55
theorem U64.turn1 (x : Int) : U64 (turn1 x) := U64.wrap _
theorem turn1_t {y : Int} (h : 0 ≤ y) : IntKind.u64.wrap (IntKind.u64.wrap (2 * y) + IntKind.u64.wrap (y.tdiv 9223372036854775808)) = turn1 y := by
  rw [Int.tdiv_eq_ediv_of_nonneg h]
  unfold turn1
  simp only [wrap_u64]
  omega
theorem turn_at (n : Nat) (hn : n ≤ 64) (k : Int) (hk : k = (n : Int)) (x : Int) (hx : U64 x) (w : World) :
    Calls Try.prog 25 #[.int .u64 x, .int .i64 k] w fun e w' => e = .returned (.int .u64 (rot n x)) ∧ w = w' := by
  subst hk
  rw [rot_turn n hn x hx]
  have HX := hid hx
  clear hx
  go_enter Try.func25, Try.ntmps25
  go_wp2_with fail
  go_loop [0, 5] (fun vx vi => ∃ (i : Nat) (y : Int), i ≤ n ∧ vi = .int .i64 i ∧ vx = .int .u64 y ∧ 0 ≤ y ∧ y = turnN i x) (fun _ vi => n - (intOf vi).toNat)
  case atStart => exact ⟨0, x, by omega, rfl, rfl, HX.out.1, rfl⟩
  case round =>
    obtain ⟨i, y, hi, rfl, rfl, hy0, hy⟩ := hrel
    have HY := hid hy
    clear hy
    by_cases hlt : i < n
    · go_wp2
      go_round
      case rel => exact ⟨i + 1, turn1 y, by omega, by go_num, by rw [turn1_t hy0], (U64.turn1 y).1, by rw [turnN_succ', ← HY.out]⟩
      case measure => simp [intOf]; omega
    · obtain rfl : n = i := by omega
      clear hlt hi
      go_wp2
      go_ret
      exact ⟨by rw [HY.out]; rfl, rfl⟩


set_option maxHeartbeats 4000000 in
theorem rround_at {w : World} {b : Nat} {v : S4} (hu : U4 v) (h : Sr w b v) :
    Calls Try.prog 21 #[.pointer (some ⟨b, 0, none⟩)] w fun e w' => e = .returned (.tuple #[]) ∧ Sr w' b (rnd v) ∧ Fr (fun k => k = b) w w' := by
  obtain ⟨v0, v1, v2, v3⟩ := v
  obtain ⟨u0, u1, u2, u3⟩ := hu
  have HU0 : Hid (U64 v0) := hid u0
  have HU1 : Hid (U64 v1) := hid u1
  have HU2 : Hid (U64 v2) := hid u2
  have HU3 : Hid (U64 v3) := hid u3
  clear u0 u1 u2 u3
  have f0 : Fr (fun k => k = b) w w := Fr.refl _ _
  have c0 := h.cell 0
  have g0 := h.free 0
  have c1 := h.cell 1
  have g1 := h.free 1
  have c2 := h.cell 2
  have g2 := h.free 2
  have c3 := h.cell 3
  have g3 := h.free 3
  simp at c0 c1 c2 c3
  go_enter Try.func21, Try.ntmps21
  go_wp2_with fail
  go_still_tail 12, (by kernel_rfl)
  change wpList _ _ _ _ _ (World.drew w)
  go_wp2_with fail
  generalize hW : World.drew (World.setCell w _ _) = W1
  obtain ⟨x1, hx1⟩ : ∃ y, y = add v0 v1 := ⟨_, rfl⟩
  have h1 : Sr W1 b (x1, v1, v2, v3) := by subst hW; rw [hx1]; unfold Sr at *; (repeat' (first | (with_reducible assumption) | (with_reducible apply Blk.drew) | (with_reducible apply Blk.drewN) | (with_reducible apply Blk.set) | (with_reducible apply Blk.other) | (exact Blk.new' _ _ _ (by first | rfl | (simp; done) | (simp; omega))) | (with_reducible apply Blk.alloc) | (with_reducible rfl) | (simp; done) | (simp; omega) | omega | rfl))
  have f1 : Fr (fun k => k = b) w W1 := by subst hW; exact Fr.trans f0 (by (repeat' (first | (with_reducible exact Fr.refl _ _) | (with_reducible assumption) | (with_reducible refine Fr.alloc ?_ _) | (with_reducible refine Fr.drew ?_) | (with_reducible refine Fr.drewN ?_ _) | (with_reducible refine Fr.setCell ?_ _ _ ?_) | (exact Or.inr rfl) | (left; simp; done) | (left; simp; omega) | (simp; done) | (simp; omega) | omega))) (fun _ _ h => h)
  have HUx1 : Hid (U64 x1) := hid (by rw [hx1]; exact U64.add _ _)
  have Ex1 := hid hx1
  clear hW hx1 h f0 c0 c1 c2 c3 g0 g1 g2 g3
  have c0 := h1.cell 0
  have g0 := h1.free 0
  have c1 := h1.cell 1
  have g1 := h1.free 1
  have c2 := h1.cell 2
  have g2 := h1.free 2
  have c3 := h1.cell 3
  have g3 := h1.free 3
  simp at c0 c1 c2 c3
  go_wp2_with fail
  refine (turn_at 13 (by omega) _ rfl v1 HU1.out _).mono ?_
  rintro e w_ ⟨rfl, rfl⟩
  go_wp2_with fail
  generalize hW : World.setCell W1 _ _ = W2
  obtain ⟨x2, hx2⟩ : ∃ y, y = rot 13 v1 := ⟨_, rfl⟩
  have h2 : Sr W2 b (x1, x2, v2, v3) := by subst hW; rw [hx2]; unfold Sr at *; (repeat' (first | (with_reducible assumption) | (with_reducible apply Blk.drew) | (with_reducible apply Blk.drewN) | (with_reducible apply Blk.set) | (with_reducible apply Blk.other) | (exact Blk.new' _ _ _ (by first | rfl | (simp; done) | (simp; omega))) | (with_reducible apply Blk.alloc) | (with_reducible rfl) | (simp; done) | (simp; omega) | omega | rfl))
  have f2 : Fr (fun k => k = b) w W2 := by subst hW; exact Fr.trans f1 (by (repeat' (first | (with_reducible exact Fr.refl _ _) | (with_reducible assumption) | (with_reducible refine Fr.alloc ?_ _) | (with_reducible refine Fr.drew ?_) | (with_reducible refine Fr.drewN ?_ _) | (with_reducible refine Fr.setCell ?_ _ _ ?_) | (exact Or.inr rfl) | (left; simp; done) | (left; simp; omega) | (simp; done) | (simp; omega) | omega))) (fun _ _ h => h)
  have HUx2 : Hid (U64 x2) := hid (by rw [hx2]; exact U64.rot _ _)
  have Ex2 := hid hx2
  clear hW hx2 h1 f1 c0 c1 c2 c3 g0 g1 g2 g3
  have c0 := h2.cell 0
  have g0 := h2.free 0
  have c1 := h2.cell 1
  have g1 := h2.free 1
  have c2 := h2.cell 2
  have g2 := h2.free 2
  have c3 := h2.cell 3
  have g3 := h2.free 3
  simp at c0 c1 c2 c3
  go_wp2_with fail
  go_still_tail 12, (by kernel_rfl)
  change wpList _ _ _ _ _ (World.drew W2)
  go_wp2_with fail
  generalize hW : World.drew (World.setCell W2 _ _) = W3
  obtain ⟨x3, hx3⟩ : ∃ y, y = xr x2 x1 := ⟨_, rfl⟩
  have h3 : Sr W3 b (x1, x3, v2, v3) := by subst hW; rw [hx3]; unfold Sr at *; (repeat' (first | (with_reducible assumption) | (with_reducible apply Blk.drew) | (with_reducible apply Blk.drewN) | (with_reducible apply Blk.set) | (with_reducible apply Blk.other) | (exact Blk.new' _ _ _ (by first | rfl | (simp; done) | (simp; omega))) | (with_reducible apply Blk.alloc) | (with_reducible rfl) | (simp; done) | (simp; omega) | omega | rfl))
  have f3 : Fr (fun k => k = b) w W3 := by subst hW; exact Fr.trans f2 (by (repeat' (first | (with_reducible exact Fr.refl _ _) | (with_reducible assumption) | (with_reducible refine Fr.alloc ?_ _) | (with_reducible refine Fr.drew ?_) | (with_reducible refine Fr.drewN ?_ _) | (with_reducible refine Fr.setCell ?_ _ _ ?_) | (exact Or.inr rfl) | (left; simp; done) | (left; simp; omega) | (simp; done) | (simp; omega) | omega))) (fun _ _ h => h)
  have HUx3 : Hid (U64 x3) := hid (by rw [hx3]; exact U64.xr _ _)
  have Ex3 := hid hx3
  clear hW hx3 h2 f2 c0 c1 c2 c3 g0 g1 g2 g3
  have c0 := h3.cell 0
  have g0 := h3.free 0
  have c1 := h3.cell 1
  have g1 := h3.free 1
  have c2 := h3.cell 2
  have g2 := h3.free 2
  have c3 := h3.cell 3
  have g3 := h3.free 3
  simp at c0 c1 c2 c3
  go_wp2_with fail
  refine (turn_at 32 (by omega) _ rfl x1 HUx1.out _).mono ?_
  rintro e w_ ⟨rfl, rfl⟩
  go_wp2_with fail
  generalize hW : World.setCell W3 _ _ = W4
  obtain ⟨x4, hx4⟩ : ∃ y, y = rot 32 x1 := ⟨_, rfl⟩
  have h4 : Sr W4 b (x4, x3, v2, v3) := by subst hW; rw [hx4]; unfold Sr at *; (repeat' (first | (with_reducible assumption) | (with_reducible apply Blk.drew) | (with_reducible apply Blk.drewN) | (with_reducible apply Blk.set) | (with_reducible apply Blk.other) | (exact Blk.new' _ _ _ (by first | rfl | (simp; done) | (simp; omega))) | (with_reducible apply Blk.alloc) | (with_reducible rfl) | (simp; done) | (simp; omega) | omega | rfl))
  have f4 : Fr (fun k => k = b) w W4 := by subst hW; exact Fr.trans f3 (by (repeat' (first | (with_reducible exact Fr.refl _ _) | (with_reducible assumption) | (with_reducible refine Fr.alloc ?_ _) | (with_reducible refine Fr.drew ?_) | (with_reducible refine Fr.drewN ?_ _) | (with_reducible refine Fr.setCell ?_ _ _ ?_) | (exact Or.inr rfl) | (left; simp; done) | (left; simp; omega) | (simp; done) | (simp; omega) | omega))) (fun _ _ h => h)
  have HUx4 : Hid (U64 x4) := hid (by rw [hx4]; exact U64.rot _ _)
  have Ex4 := hid hx4
  clear hW hx4 h3 f3 c0 c1 c2 c3 g0 g1 g2 g3
  have c0 := h4.cell 0
  have g0 := h4.free 0
  have c1 := h4.cell 1
  have g1 := h4.free 1
  have c2 := h4.cell 2
  have g2 := h4.free 2
  have c3 := h4.cell 3
  have g3 := h4.free 3
  simp at c0 c1 c2 c3
  go_wp2_with fail
  go_still_tail 12, (by kernel_rfl)
  change wpList _ _ _ _ _ (World.drew W4)
  go_wp2_with fail
  generalize hW : World.drew (World.setCell W4 _ _) = W5
  obtain ⟨x5, hx5⟩ : ∃ y, y = add v2 v3 := ⟨_, rfl⟩
  have h5 : Sr W5 b (x4, x3, x5, v3) := by subst hW; rw [hx5]; unfold Sr at *; (repeat' (first | (with_reducible assumption) | (with_reducible apply Blk.drew) | (with_reducible apply Blk.drewN) | (with_reducible apply Blk.set) | (with_reducible apply Blk.other) | (exact Blk.new' _ _ _ (by first | rfl | (simp; done) | (simp; omega))) | (with_reducible apply Blk.alloc) | (with_reducible rfl) | (simp; done) | (simp; omega) | omega | rfl))
  have f5 : Fr (fun k => k = b) w W5 := by subst hW; exact Fr.trans f4 (by (repeat' (first | (with_reducible exact Fr.refl _ _) | (with_reducible assumption) | (with_reducible refine Fr.alloc ?_ _) | (with_reducible refine Fr.drew ?_) | (with_reducible refine Fr.drewN ?_ _) | (with_reducible refine Fr.setCell ?_ _ _ ?_) | (exact Or.inr rfl) | (left; simp; done) | (left; simp; omega) | (simp; done) | (simp; omega) | omega))) (fun _ _ h => h)
  have HUx5 : Hid (U64 x5) := hid (by rw [hx5]; exact U64.add _ _)
  have Ex5 := hid hx5
  clear hW hx5 h4 f4 c0 c1 c2 c3 g0 g1 g2 g3
  have c0 := h5.cell 0
  have g0 := h5.free 0
  have c1 := h5.cell 1
  have g1 := h5.free 1
  have c2 := h5.cell 2
  have g2 := h5.free 2
  have c3 := h5.cell 3
  have g3 := h5.free 3
  simp at c0 c1 c2 c3
  go_wp2_with fail
  refine (turn_at 16 (by omega) _ rfl v3 HU3.out _).mono ?_
  rintro e w_ ⟨rfl, rfl⟩
  go_wp2_with fail
  generalize hW : World.setCell W5 _ _ = W6
  obtain ⟨x6, hx6⟩ : ∃ y, y = rot 16 v3 := ⟨_, rfl⟩
  have h6 : Sr W6 b (x4, x3, x5, x6) := by subst hW; rw [hx6]; unfold Sr at *; (repeat' (first | (with_reducible assumption) | (with_reducible apply Blk.drew) | (with_reducible apply Blk.drewN) | (with_reducible apply Blk.set) | (with_reducible apply Blk.other) | (exact Blk.new' _ _ _ (by first | rfl | (simp; done) | (simp; omega))) | (with_reducible apply Blk.alloc) | (with_reducible rfl) | (simp; done) | (simp; omega) | omega | rfl))
  have f6 : Fr (fun k => k = b) w W6 := by subst hW; exact Fr.trans f5 (by (repeat' (first | (with_reducible exact Fr.refl _ _) | (with_reducible assumption) | (with_reducible refine Fr.alloc ?_ _) | (with_reducible refine Fr.drew ?_) | (with_reducible refine Fr.drewN ?_ _) | (with_reducible refine Fr.setCell ?_ _ _ ?_) | (exact Or.inr rfl) | (left; simp; done) | (left; simp; omega) | (simp; done) | (simp; omega) | omega))) (fun _ _ h => h)
  have HUx6 : Hid (U64 x6) := hid (by rw [hx6]; exact U64.rot _ _)
  have Ex6 := hid hx6
  clear hW hx6 h5 f5 c0 c1 c2 c3 g0 g1 g2 g3
  have c0 := h6.cell 0
  have g0 := h6.free 0
  have c1 := h6.cell 1
  have g1 := h6.free 1
  have c2 := h6.cell 2
  have g2 := h6.free 2
  have c3 := h6.cell 3
  have g3 := h6.free 3
  simp at c0 c1 c2 c3
  go_wp2_with fail
  go_still_tail 12, (by kernel_rfl)
  change wpList _ _ _ _ _ (World.drew W6)
  go_wp2_with fail
  generalize hW : World.drew (World.setCell W6 _ _) = W7
  obtain ⟨x7, hx7⟩ : ∃ y, y = xr x6 x5 := ⟨_, rfl⟩
  have h7 : Sr W7 b (x4, x3, x5, x7) := by subst hW; rw [hx7]; unfold Sr at *; (repeat' (first | (with_reducible assumption) | (with_reducible apply Blk.drew) | (with_reducible apply Blk.drewN) | (with_reducible apply Blk.set) | (with_reducible apply Blk.other) | (exact Blk.new' _ _ _ (by first | rfl | (simp; done) | (simp; omega))) | (with_reducible apply Blk.alloc) | (with_reducible rfl) | (simp; done) | (simp; omega) | omega | rfl))
  have f7 : Fr (fun k => k = b) w W7 := by subst hW; exact Fr.trans f6 (by (repeat' (first | (with_reducible exact Fr.refl _ _) | (with_reducible assumption) | (with_reducible refine Fr.alloc ?_ _) | (with_reducible refine Fr.drew ?_) | (with_reducible refine Fr.drewN ?_ _) | (with_reducible refine Fr.setCell ?_ _ _ ?_) | (exact Or.inr rfl) | (left; simp; done) | (left; simp; omega) | (simp; done) | (simp; omega) | omega))) (fun _ _ h => h)
  have HUx7 : Hid (U64 x7) := hid (by rw [hx7]; exact U64.xr _ _)
  have Ex7 := hid hx7
  clear hW hx7 h6 f6 c0 c1 c2 c3 g0 g1 g2 g3
  have c0 := h7.cell 0
  have g0 := h7.free 0
  have c1 := h7.cell 1
  have g1 := h7.free 1
  have c2 := h7.cell 2
  have g2 := h7.free 2
  have c3 := h7.cell 3
  have g3 := h7.free 3
  simp at c0 c1 c2 c3
  go_wp2_with fail
  go_still_tail 12, (by kernel_rfl)
  change wpList _ _ _ _ _ (World.drew W7)
  go_wp2_with fail
  generalize hW : World.drew (World.setCell W7 _ _) = W8
  obtain ⟨x8, hx8⟩ : ∃ y, y = add x4 x7 := ⟨_, rfl⟩
  have h8 : Sr W8 b (x8, x3, x5, x7) := by subst hW; rw [hx8]; unfold Sr at *; (repeat' (first | (with_reducible assumption) | (with_reducible apply Blk.drew) | (with_reducible apply Blk.drewN) | (with_reducible apply Blk.set) | (with_reducible apply Blk.other) | (exact Blk.new' _ _ _ (by first | rfl | (simp; done) | (simp; omega))) | (with_reducible apply Blk.alloc) | (with_reducible rfl) | (simp; done) | (simp; omega) | omega | rfl))
  have f8 : Fr (fun k => k = b) w W8 := by subst hW; exact Fr.trans f7 (by (repeat' (first | (with_reducible exact Fr.refl _ _) | (with_reducible assumption) | (with_reducible refine Fr.alloc ?_ _) | (with_reducible refine Fr.drew ?_) | (with_reducible refine Fr.drewN ?_ _) | (with_reducible refine Fr.setCell ?_ _ _ ?_) | (exact Or.inr rfl) | (left; simp; done) | (left; simp; omega) | (simp; done) | (simp; omega) | omega))) (fun _ _ h => h)
  have HUx8 : Hid (U64 x8) := hid (by rw [hx8]; exact U64.add _ _)
  have Ex8 := hid hx8
  clear hW hx8 h7 f7 c0 c1 c2 c3 g0 g1 g2 g3
  have c0 := h8.cell 0
  have g0 := h8.free 0
  have c1 := h8.cell 1
  have g1 := h8.free 1
  have c2 := h8.cell 2
  have g2 := h8.free 2
  have c3 := h8.cell 3
  have g3 := h8.free 3
  simp at c0 c1 c2 c3
  go_wp2_with fail
  refine (turn_at 21 (by omega) _ rfl x7 HUx7.out _).mono ?_
  rintro e w_ ⟨rfl, rfl⟩
  go_wp2_with fail
  generalize hW : World.setCell W8 _ _ = W9
  obtain ⟨x9, hx9⟩ : ∃ y, y = rot 21 x7 := ⟨_, rfl⟩
  have h9 : Sr W9 b (x8, x3, x5, x9) := by subst hW; rw [hx9]; unfold Sr at *; (repeat' (first | (with_reducible assumption) | (with_reducible apply Blk.drew) | (with_reducible apply Blk.drewN) | (with_reducible apply Blk.set) | (with_reducible apply Blk.other) | (exact Blk.new' _ _ _ (by first | rfl | (simp; done) | (simp; omega))) | (with_reducible apply Blk.alloc) | (with_reducible rfl) | (simp; done) | (simp; omega) | omega | rfl))
  have f9 : Fr (fun k => k = b) w W9 := by subst hW; exact Fr.trans f8 (by (repeat' (first | (with_reducible exact Fr.refl _ _) | (with_reducible assumption) | (with_reducible refine Fr.alloc ?_ _) | (with_reducible refine Fr.drew ?_) | (with_reducible refine Fr.drewN ?_ _) | (with_reducible refine Fr.setCell ?_ _ _ ?_) | (exact Or.inr rfl) | (left; simp; done) | (left; simp; omega) | (simp; done) | (simp; omega) | omega))) (fun _ _ h => h)
  have HUx9 : Hid (U64 x9) := hid (by rw [hx9]; exact U64.rot _ _)
  have Ex9 := hid hx9
  clear hW hx9 h8 f8 c0 c1 c2 c3 g0 g1 g2 g3
  have c0 := h9.cell 0
  have g0 := h9.free 0
  have c1 := h9.cell 1
  have g1 := h9.free 1
  have c2 := h9.cell 2
  have g2 := h9.free 2
  have c3 := h9.cell 3
  have g3 := h9.free 3
  simp at c0 c1 c2 c3
  go_wp2_with fail
  go_still_tail 12, (by kernel_rfl)
  change wpList _ _ _ _ _ (World.drew W9)
  go_wp2_with fail
  generalize hW : World.drew (World.setCell W9 _ _) = W10
  obtain ⟨x10, hx10⟩ : ∃ y, y = xr x9 x8 := ⟨_, rfl⟩
  have h10 : Sr W10 b (x8, x3, x5, x10) := by subst hW; rw [hx10]; unfold Sr at *; (repeat' (first | (with_reducible assumption) | (with_reducible apply Blk.drew) | (with_reducible apply Blk.drewN) | (with_reducible apply Blk.set) | (with_reducible apply Blk.other) | (exact Blk.new' _ _ _ (by first | rfl | (simp; done) | (simp; omega))) | (with_reducible apply Blk.alloc) | (with_reducible rfl) | (simp; done) | (simp; omega) | omega | rfl))
  have f10 : Fr (fun k => k = b) w W10 := by subst hW; exact Fr.trans f9 (by (repeat' (first | (with_reducible exact Fr.refl _ _) | (with_reducible assumption) | (with_reducible refine Fr.alloc ?_ _) | (with_reducible refine Fr.drew ?_) | (with_reducible refine Fr.drewN ?_ _) | (with_reducible refine Fr.setCell ?_ _ _ ?_) | (exact Or.inr rfl) | (left; simp; done) | (left; simp; omega) | (simp; done) | (simp; omega) | omega))) (fun _ _ h => h)
  have HUx10 : Hid (U64 x10) := hid (by rw [hx10]; exact U64.xr _ _)
  have Ex10 := hid hx10
  clear hW hx10 h9 f9 c0 c1 c2 c3 g0 g1 g2 g3
  have c0 := h10.cell 0
  have g0 := h10.free 0
  have c1 := h10.cell 1
  have g1 := h10.free 1
  have c2 := h10.cell 2
  have g2 := h10.free 2
  have c3 := h10.cell 3
  have g3 := h10.free 3
  simp at c0 c1 c2 c3
  go_wp2_with fail
  go_still_tail 12, (by kernel_rfl)
  change wpList _ _ _ _ _ (World.drew W10)
  go_wp2_with fail
  generalize hW : World.drew (World.setCell W10 _ _) = W11
  obtain ⟨x11, hx11⟩ : ∃ y, y = add x5 x3 := ⟨_, rfl⟩
  have h11 : Sr W11 b (x8, x3, x11, x10) := by subst hW; rw [hx11]; unfold Sr at *; (repeat' (first | (with_reducible assumption) | (with_reducible apply Blk.drew) | (with_reducible apply Blk.drewN) | (with_reducible apply Blk.set) | (with_reducible apply Blk.other) | (exact Blk.new' _ _ _ (by first | rfl | (simp; done) | (simp; omega))) | (with_reducible apply Blk.alloc) | (with_reducible rfl) | (simp; done) | (simp; omega) | omega | rfl))
  have f11 : Fr (fun k => k = b) w W11 := by subst hW; exact Fr.trans f10 (by (repeat' (first | (with_reducible exact Fr.refl _ _) | (with_reducible assumption) | (with_reducible refine Fr.alloc ?_ _) | (with_reducible refine Fr.drew ?_) | (with_reducible refine Fr.drewN ?_ _) | (with_reducible refine Fr.setCell ?_ _ _ ?_) | (exact Or.inr rfl) | (left; simp; done) | (left; simp; omega) | (simp; done) | (simp; omega) | omega))) (fun _ _ h => h)
  have HUx11 : Hid (U64 x11) := hid (by rw [hx11]; exact U64.add _ _)
  have Ex11 := hid hx11
  clear hW hx11 h10 f10 c0 c1 c2 c3 g0 g1 g2 g3
  have c0 := h11.cell 0
  have g0 := h11.free 0
  have c1 := h11.cell 1
  have g1 := h11.free 1
  have c2 := h11.cell 2
  have g2 := h11.free 2
  have c3 := h11.cell 3
  have g3 := h11.free 3
  simp at c0 c1 c2 c3
  go_wp2_with fail
  refine (turn_at 17 (by omega) _ rfl x3 HUx3.out _).mono ?_
  rintro e w_ ⟨rfl, rfl⟩
  go_wp2_with fail
  generalize hW : World.setCell W11 _ _ = W12
  obtain ⟨x12, hx12⟩ : ∃ y, y = rot 17 x3 := ⟨_, rfl⟩
  have h12 : Sr W12 b (x8, x12, x11, x10) := by subst hW; rw [hx12]; unfold Sr at *; (repeat' (first | (with_reducible assumption) | (with_reducible apply Blk.drew) | (with_reducible apply Blk.drewN) | (with_reducible apply Blk.set) | (with_reducible apply Blk.other) | (exact Blk.new' _ _ _ (by first | rfl | (simp; done) | (simp; omega))) | (with_reducible apply Blk.alloc) | (with_reducible rfl) | (simp; done) | (simp; omega) | omega | rfl))
  have f12 : Fr (fun k => k = b) w W12 := by subst hW; exact Fr.trans f11 (by (repeat' (first | (with_reducible exact Fr.refl _ _) | (with_reducible assumption) | (with_reducible refine Fr.alloc ?_ _) | (with_reducible refine Fr.drew ?_) | (with_reducible refine Fr.drewN ?_ _) | (with_reducible refine Fr.setCell ?_ _ _ ?_) | (exact Or.inr rfl) | (left; simp; done) | (left; simp; omega) | (simp; done) | (simp; omega) | omega))) (fun _ _ h => h)
  have HUx12 : Hid (U64 x12) := hid (by rw [hx12]; exact U64.rot _ _)
  have Ex12 := hid hx12
  clear hW hx12 h11 f11 c0 c1 c2 c3 g0 g1 g2 g3
  have c0 := h12.cell 0
  have g0 := h12.free 0
  have c1 := h12.cell 1
  have g1 := h12.free 1
  have c2 := h12.cell 2
  have g2 := h12.free 2
  have c3 := h12.cell 3
  have g3 := h12.free 3
  simp at c0 c1 c2 c3
  go_wp2_with fail
  go_still_tail 12, (by kernel_rfl)
  change wpList _ _ _ _ _ (World.drew W12)
  go_wp2_with fail
  generalize hW : World.drew (World.setCell W12 _ _) = W13
  obtain ⟨x13, hx13⟩ : ∃ y, y = xr x12 x11 := ⟨_, rfl⟩
  have h13 : Sr W13 b (x8, x13, x11, x10) := by subst hW; rw [hx13]; unfold Sr at *; (repeat' (first | (with_reducible assumption) | (with_reducible apply Blk.drew) | (with_reducible apply Blk.drewN) | (with_reducible apply Blk.set) | (with_reducible apply Blk.other) | (exact Blk.new' _ _ _ (by first | rfl | (simp; done) | (simp; omega))) | (with_reducible apply Blk.alloc) | (with_reducible rfl) | (simp; done) | (simp; omega) | omega | rfl))
  have f13 : Fr (fun k => k = b) w W13 := by subst hW; exact Fr.trans f12 (by (repeat' (first | (with_reducible exact Fr.refl _ _) | (with_reducible assumption) | (with_reducible refine Fr.alloc ?_ _) | (with_reducible refine Fr.drew ?_) | (with_reducible refine Fr.drewN ?_ _) | (with_reducible refine Fr.setCell ?_ _ _ ?_) | (exact Or.inr rfl) | (left; simp; done) | (left; simp; omega) | (simp; done) | (simp; omega) | omega))) (fun _ _ h => h)
  have HUx13 : Hid (U64 x13) := hid (by rw [hx13]; exact U64.xr _ _)
  have Ex13 := hid hx13
  clear hW hx13 h12 f12 c0 c1 c2 c3 g0 g1 g2 g3
  have c0 := h13.cell 0
  have g0 := h13.free 0
  have c1 := h13.cell 1
  have g1 := h13.free 1
  have c2 := h13.cell 2
  have g2 := h13.free 2
  have c3 := h13.cell 3
  have g3 := h13.free 3
  simp at c0 c1 c2 c3
  go_wp2_with fail
  refine (turn_at 32 (by omega) _ rfl x11 HUx11.out _).mono ?_
  rintro e w_ ⟨rfl, rfl⟩
  go_wp2_with fail
  generalize hW : World.setCell W13 _ _ = W14
  obtain ⟨x14, hx14⟩ : ∃ y, y = rot 32 x11 := ⟨_, rfl⟩
  have h14 : Sr W14 b (x8, x13, x14, x10) := by subst hW; rw [hx14]; unfold Sr at *; (repeat' (first | (with_reducible assumption) | (with_reducible apply Blk.drew) | (with_reducible apply Blk.drewN) | (with_reducible apply Blk.set) | (with_reducible apply Blk.other) | (exact Blk.new' _ _ _ (by first | rfl | (simp; done) | (simp; omega))) | (with_reducible apply Blk.alloc) | (with_reducible rfl) | (simp; done) | (simp; omega) | omega | rfl))
  have f14 : Fr (fun k => k = b) w W14 := by subst hW; exact Fr.trans f13 (by (repeat' (first | (with_reducible exact Fr.refl _ _) | (with_reducible assumption) | (with_reducible refine Fr.alloc ?_ _) | (with_reducible refine Fr.drew ?_) | (with_reducible refine Fr.drewN ?_ _) | (with_reducible refine Fr.setCell ?_ _ _ ?_) | (exact Or.inr rfl) | (left; simp; done) | (left; simp; omega) | (simp; done) | (simp; omega) | omega))) (fun _ _ h => h)
  have HUx14 : Hid (U64 x14) := hid (by rw [hx14]; exact U64.rot _ _)
  have Ex14 := hid hx14
  clear hW hx14 h13 f13 c0 c1 c2 c3 g0 g1 g2 g3
  have c0 := h14.cell 0
  have g0 := h14.free 0
  have c1 := h14.cell 1
  have g1 := h14.free 1
  have c2 := h14.cell 2
  have g2 := h14.free 2
  have c3 := h14.cell 3
  have g3 := h14.free 3
  simp at c0 c1 c2 c3
  go_wp2
  go_returns
  refine ⟨rfl, ?_, f14⟩
  have e : rnd (v0, v1, v2, v3) = (x8, x13, x14, x10) := by
    rw [Ex14.out, Ex13.out, Ex12.out, Ex11.out, Ex10.out, Ex9.out, Ex8.out, Ex7.out, Ex6.out, Ex5.out, Ex4.out, Ex3.out, Ex2.out, Ex1.out]
    rfl
  rw [e]
  exact h14
end Go.Proofs.Ytnphjhignhmhaaa
