/- The rounds of SipHash: what each call does to the block of four numbers. (Written by mac_gen.py.) -/
import Derived.Test.YtnphjhignhmhaaaProg
import Derived.Test.YtnphjhignhmhaaaKit
import Derived.Test.YtnphjhignhmhaaaMacPlain
import Derived.StillTailTactics
namespace Go.Proofs.Ytnphjhignhmhaaa
open Go.RowKit
set_option linter.unusedVariables false
set_option linter.unusedSimpArgs false
set_option maxRecDepth 100000

def St (w : World) (b : Nat) (v : S4) : Prop :=
  Blk w b #[.int .u64 v.1, .int .u64 v.2.1, .int .u64 v.2.2.1, .int .u64 v.2.2.2] 60

theorem rotl (n : Nat) (hn : n = 13 ∨ n = 16 ∨ n = 17 ∨ n = 21 ∨ n = 32) (x : Int) (w : World) :
    Calls Try.prog 28 #[.int .u64 x, .int .i64 n] w fun e w' => e = .returned (.int .u64 (rot n x)) ∧ w = w' := by
  have e13 : bits .and .u64 13 63 = 13 := by decide
  have e16 : bits .and .u64 16 63 = 16 := by decide
  have e17 : bits .and .u64 17 63 = 17 := by decide
  have e21 : bits .and .u64 21 63 = 21 := by decide
  have e32 : bits .and .u64 32 63 = 32 := by decide
  rcases hn with rfl | rfl | rfl | rfl | rfl
  all_goals
    go_enter Try.func28, Try.ntmps28
    go_wp2
    go_ret
    exact ⟨by simp [rot], rfl⟩
theorem rotl' (n : Nat) (k : Int) (hk : k = (n : Int)) (hn : n = 13 ∨ n = 16 ∨ n = 17 ∨ n = 21 ∨ n = 32) (x : Int) (w : World) :
    Calls Try.prog 28 #[.int .u64 x, .int .i64 k] w fun e w' => e = .returned (.int .u64 (rot n x)) ∧ w' = w := by
  subst hk
  exact (rotl n hn x w).mono fun _ _ h => ⟨h.1, h.2.symm⟩

set_option maxHeartbeats 4000000 in
theorem half1 {w : World} {b c : Nat} {v0 v1 v2 v3 : Int} (hbc : c ≠ b) (hcl : c < w.heap.size) (h : St w b (v0, v1, v2, v3)) (hc : w.cell? ⟨c, 0, none⟩ = some (.pointer (some ⟨b, 0, none⟩))) :
    Calls Try.prog 27 #[.int .i64 0, .int .i64 1, .int .i64 2, .int .i64 3, .int .i64 13, .int .i64 16, .pointer (some ⟨c, 0, none⟩)] w fun e w' => e = .returned (.tuple #[]) ∧
      St w' b (rot 32 (add v0 v1), xr (rot 13 v1) (add v0 v1), add v2 v3, xr (rot 16 v3) (add v2 v3)) ∧ Fr (fun k => k = b) w w' := by
  have c0 := h.cell 0
  have c1 := h.cell 1
  have c2 := h.cell 2
  have c3 := h.cell 3
  have g0 := h.free 0
  have g1 := h.free 1
  have g2 := h.free 2
  have g3 := h.free 3
  simp at c0 c1 c2 c3
  go_enter Try.func27, Try.ntmps27
  go_wp2_with fail
  go_still_tail 13, (by kernel_rfl)
  change wpList _ _ _ _ _ w.drew
  go_wp2_with fail
  generalize hW : World.drew (World.setCell w _ _) = W1
  have hW1 : St W1 b (add v0 v1, v1, v2, v3) := by subst hW; unfold St at *; (repeat' (first | (with_reducible assumption) | (with_reducible apply Blk.drew) | (with_reducible apply Blk.drewN) | (with_reducible apply Blk.set) | (with_reducible apply Blk.other) | (exact Blk.new' _ _ _ (by first | rfl | (simp; done) | (simp; omega))) | (with_reducible apply Blk.alloc) | (with_reducible rfl) | (simp; done) | (simp; omega) | omega | rfl))
  have fW1 : Fr (fun k => k = b) w W1 := by subst hW; (repeat' (first | (with_reducible exact Fr.refl _ _) | (with_reducible assumption) | (with_reducible refine Fr.alloc ?_ _) | (with_reducible refine Fr.drew ?_) | (with_reducible refine Fr.drewN ?_ _) | (with_reducible refine Fr.setCell ?_ _ _ ?_) | (exact Or.inr rfl) | (left; simp; done) | (left; simp; omega) | (simp; done) | (simp; omega) | omega))
  clear hW
  have lW1 := fW1.lt (by assumption : c < w.heap.size)
  have pW1 := (fW1.cell (a := ⟨c, 0, none⟩) (by assumption) hbc).trans (by assumption)
  have c0 := hW1.cell 0
  have c1 := hW1.cell 1
  have c2 := hW1.cell 2
  have c3 := hW1.cell 3
  have g0 := hW1.free 0
  have g1 := hW1.free 1
  have g2 := hW1.free 2
  have g3 := hW1.free 3
  simp at c0 c1 c2 c3
  go_still_tail 13, (by kernel_rfl)
  change wpList _ _ _ _ _ W1.drew
  go_wp2_with fail
  generalize hW : World.drew (World.setCell W1 _ _) = W2
  have hW2 : St W2 b (add v0 v1, v1, add v2 v3, v3) := by subst hW; unfold St at *; (repeat' (first | (with_reducible assumption) | (with_reducible apply Blk.drew) | (with_reducible apply Blk.drewN) | (with_reducible apply Blk.set) | (with_reducible apply Blk.other) | (exact Blk.new' _ _ _ (by first | rfl | (simp; done) | (simp; omega))) | (with_reducible apply Blk.alloc) | (with_reducible rfl) | (simp; done) | (simp; omega) | omega | rfl))
  have fW2 : Fr (fun k => k = b) W1 W2 := by subst hW; (repeat' (first | (with_reducible exact Fr.refl _ _) | (with_reducible assumption) | (with_reducible refine Fr.alloc ?_ _) | (with_reducible refine Fr.drew ?_) | (with_reducible refine Fr.drewN ?_ _) | (with_reducible refine Fr.setCell ?_ _ _ ?_) | (exact Or.inr rfl) | (left; simp; done) | (left; simp; omega) | (simp; done) | (simp; omega) | omega))
  clear hW
  have lW2 := fW2.lt (by assumption : c < W1.heap.size)
  have pW2 := (fW2.cell (a := ⟨c, 0, none⟩) (by assumption) hbc).trans (by assumption)
  have c0 := hW2.cell 0
  have c1 := hW2.cell 1
  have c2 := hW2.cell 2
  have c3 := hW2.cell 3
  have g0 := hW2.free 0
  have g1 := hW2.free 1
  have g2 := hW2.free 2
  have g3 := hW2.free 3
  simp at c0 c1 c2 c3
  go_still_tail 17, (by kernel_rfl)
  still_call (rotl' 13 13 rfl (by simp) _ _)
  repeat still_step
  refine wpStill_nil ?_
  change wpList _ _ _ _ _ W2.drew
  go_wp2_with fail
  generalize hW : World.drew (World.setCell W2 _ _) = W3
  have hW3 : St W3 b (add v0 v1, xr (rot 13 v1) (add v0 v1), add v2 v3, v3) := by subst hW; unfold St at *; (repeat' (first | (with_reducible assumption) | (with_reducible apply Blk.drew) | (with_reducible apply Blk.drewN) | (with_reducible apply Blk.set) | (with_reducible apply Blk.other) | (exact Blk.new' _ _ _ (by first | rfl | (simp; done) | (simp; omega))) | (with_reducible apply Blk.alloc) | (with_reducible rfl) | (simp; done) | (simp; omega) | omega | rfl))
  have fW3 : Fr (fun k => k = b) W2 W3 := by subst hW; (repeat' (first | (with_reducible exact Fr.refl _ _) | (with_reducible assumption) | (with_reducible refine Fr.alloc ?_ _) | (with_reducible refine Fr.drew ?_) | (with_reducible refine Fr.drewN ?_ _) | (with_reducible refine Fr.setCell ?_ _ _ ?_) | (exact Or.inr rfl) | (left; simp; done) | (left; simp; omega) | (simp; done) | (simp; omega) | omega))
  clear hW
  have lW3 := fW3.lt (by assumption : c < W2.heap.size)
  have pW3 := (fW3.cell (a := ⟨c, 0, none⟩) (by assumption) hbc).trans (by assumption)
  have c0 := hW3.cell 0
  have c1 := hW3.cell 1
  have c2 := hW3.cell 2
  have c3 := hW3.cell 3
  have g0 := hW3.free 0
  have g1 := hW3.free 1
  have g2 := hW3.free 2
  have g3 := hW3.free 3
  simp at c0 c1 c2 c3
  go_still_tail 17, (by kernel_rfl)
  still_call (rotl' 16 16 rfl (by simp) _ _)
  repeat still_step
  refine wpStill_nil ?_
  change wpList _ _ _ _ _ W3.drew
  go_wp2_with fail
  generalize hW : World.drew (World.setCell W3 _ _) = W4
  have hW4 : St W4 b (add v0 v1, xr (rot 13 v1) (add v0 v1), add v2 v3, xr (rot 16 v3) (add v2 v3)) := by subst hW; unfold St at *; (repeat' (first | (with_reducible assumption) | (with_reducible apply Blk.drew) | (with_reducible apply Blk.drewN) | (with_reducible apply Blk.set) | (with_reducible apply Blk.other) | (exact Blk.new' _ _ _ (by first | rfl | (simp; done) | (simp; omega))) | (with_reducible apply Blk.alloc) | (with_reducible rfl) | (simp; done) | (simp; omega) | omega | rfl))
  have fW4 : Fr (fun k => k = b) W3 W4 := by subst hW; (repeat' (first | (with_reducible exact Fr.refl _ _) | (with_reducible assumption) | (with_reducible refine Fr.alloc ?_ _) | (with_reducible refine Fr.drew ?_) | (with_reducible refine Fr.drewN ?_ _) | (with_reducible refine Fr.setCell ?_ _ _ ?_) | (exact Or.inr rfl) | (left; simp; done) | (left; simp; omega) | (simp; done) | (simp; omega) | omega))
  clear hW
  have lW4 := fW4.lt (by assumption : c < W3.heap.size)
  have pW4 := (fW4.cell (a := ⟨c, 0, none⟩) (by assumption) hbc).trans (by assumption)
  have c0 := hW4.cell 0
  have c1 := hW4.cell 1
  have c2 := hW4.cell 2
  have c3 := hW4.cell 3
  have g0 := hW4.free 0
  have g1 := hW4.free 1
  have g2 := hW4.free 2
  have g3 := hW4.free 3
  simp at c0 c1 c2 c3
  go_still_tail 10, (by kernel_rfl)
  still_call (rotl' 32 32 rfl (by simp) _ _)
  repeat still_step
  refine wpStill_nil ?_
  change wpList _ _ _ _ _ W4.drew
  go_wp2_with fail
  generalize hW : World.drew (World.setCell W4 _ _) = W5
  have hW5 : St W5 b (rot 32 (add v0 v1), xr (rot 13 v1) (add v0 v1), add v2 v3, xr (rot 16 v3) (add v2 v3)) := by subst hW; unfold St at *; (repeat' (first | (with_reducible assumption) | (with_reducible apply Blk.drew) | (with_reducible apply Blk.drewN) | (with_reducible apply Blk.set) | (with_reducible apply Blk.other) | (exact Blk.new' _ _ _ (by first | rfl | (simp; done) | (simp; omega))) | (with_reducible apply Blk.alloc) | (with_reducible rfl) | (simp; done) | (simp; omega) | omega | rfl))
  have fW5 : Fr (fun k => k = b) W4 W5 := by subst hW; (repeat' (first | (with_reducible exact Fr.refl _ _) | (with_reducible assumption) | (with_reducible refine Fr.alloc ?_ _) | (with_reducible refine Fr.drew ?_) | (with_reducible refine Fr.drewN ?_ _) | (with_reducible refine Fr.setCell ?_ _ _ ?_) | (exact Or.inr rfl) | (left; simp; done) | (left; simp; omega) | (simp; done) | (simp; omega) | omega))
  clear hW
  have lW5 := fW5.lt (by assumption : c < W4.heap.size)
  have pW5 := (fW5.cell (a := ⟨c, 0, none⟩) (by assumption) hbc).trans (by assumption)
  have c0 := hW5.cell 0
  have c1 := hW5.cell 1
  have c2 := hW5.cell 2
  have c3 := hW5.cell 3
  have g0 := hW5.free 0
  have g1 := hW5.free 1
  have g2 := hW5.free 2
  have g3 := hW5.free 3
  simp at c0 c1 c2 c3
  go_returns
  exact ⟨rfl, hW5, (((fW1.trans fW2 (fun _ _ h => h)).trans fW3 (fun _ _ h => h)).trans fW4 (fun _ _ h => h)).trans fW5 (fun _ _ h => h)⟩

set_option maxHeartbeats 4000000 in
theorem half2 {w : World} {b c : Nat} {v0 v1 v2 v3 : Int} (hbc : c ≠ b) (hcl : c < w.heap.size) (h : St w b (v0, v1, v2, v3)) (hc : w.cell? ⟨c, 0, none⟩ = some (.pointer (some ⟨b, 0, none⟩))) :
    Calls Try.prog 27 #[.int .i64 2, .int .i64 1, .int .i64 0, .int .i64 3, .int .i64 17, .int .i64 21, .pointer (some ⟨c, 0, none⟩)] w fun e w' => e = .returned (.tuple #[]) ∧
      St w' b (add v0 v3, xr (rot 17 v1) (add v2 v1), rot 32 (add v2 v1), xr (rot 21 v3) (add v0 v3)) ∧ Fr (fun k => k = b) w w' := by
  have c0 := h.cell 0
  have c1 := h.cell 1
  have c2 := h.cell 2
  have c3 := h.cell 3
  have g0 := h.free 0
  have g1 := h.free 1
  have g2 := h.free 2
  have g3 := h.free 3
  simp at c0 c1 c2 c3
  go_enter Try.func27, Try.ntmps27
  go_wp2_with fail
  go_still_tail 13, (by kernel_rfl)
  change wpList _ _ _ _ _ w.drew
  go_wp2_with fail
  generalize hW : World.drew (World.setCell w _ _) = W1
  have hW1 : St W1 b (v0, v1, add v2 v1, v3) := by subst hW; unfold St at *; (repeat' (first | (with_reducible assumption) | (with_reducible apply Blk.drew) | (with_reducible apply Blk.drewN) | (with_reducible apply Blk.set) | (with_reducible apply Blk.other) | (exact Blk.new' _ _ _ (by first | rfl | (simp; done) | (simp; omega))) | (with_reducible apply Blk.alloc) | (with_reducible rfl) | (simp; done) | (simp; omega) | omega | rfl))
  have fW1 : Fr (fun k => k = b) w W1 := by subst hW; (repeat' (first | (with_reducible exact Fr.refl _ _) | (with_reducible assumption) | (with_reducible refine Fr.alloc ?_ _) | (with_reducible refine Fr.drew ?_) | (with_reducible refine Fr.drewN ?_ _) | (with_reducible refine Fr.setCell ?_ _ _ ?_) | (exact Or.inr rfl) | (left; simp; done) | (left; simp; omega) | (simp; done) | (simp; omega) | omega))
  clear hW
  have lW1 := fW1.lt (by assumption : c < w.heap.size)
  have pW1 := (fW1.cell (a := ⟨c, 0, none⟩) (by assumption) hbc).trans (by assumption)
  have c0 := hW1.cell 0
  have c1 := hW1.cell 1
  have c2 := hW1.cell 2
  have c3 := hW1.cell 3
  have g0 := hW1.free 0
  have g1 := hW1.free 1
  have g2 := hW1.free 2
  have g3 := hW1.free 3
  simp at c0 c1 c2 c3
  go_still_tail 13, (by kernel_rfl)
  change wpList _ _ _ _ _ W1.drew
  go_wp2_with fail
  generalize hW : World.drew (World.setCell W1 _ _) = W2
  have hW2 : St W2 b (add v0 v3, v1, add v2 v1, v3) := by subst hW; unfold St at *; (repeat' (first | (with_reducible assumption) | (with_reducible apply Blk.drew) | (with_reducible apply Blk.drewN) | (with_reducible apply Blk.set) | (with_reducible apply Blk.other) | (exact Blk.new' _ _ _ (by first | rfl | (simp; done) | (simp; omega))) | (with_reducible apply Blk.alloc) | (with_reducible rfl) | (simp; done) | (simp; omega) | omega | rfl))
  have fW2 : Fr (fun k => k = b) W1 W2 := by subst hW; (repeat' (first | (with_reducible exact Fr.refl _ _) | (with_reducible assumption) | (with_reducible refine Fr.alloc ?_ _) | (with_reducible refine Fr.drew ?_) | (with_reducible refine Fr.drewN ?_ _) | (with_reducible refine Fr.setCell ?_ _ _ ?_) | (exact Or.inr rfl) | (left; simp; done) | (left; simp; omega) | (simp; done) | (simp; omega) | omega))
  clear hW
  have lW2 := fW2.lt (by assumption : c < W1.heap.size)
  have pW2 := (fW2.cell (a := ⟨c, 0, none⟩) (by assumption) hbc).trans (by assumption)
  have c0 := hW2.cell 0
  have c1 := hW2.cell 1
  have c2 := hW2.cell 2
  have c3 := hW2.cell 3
  have g0 := hW2.free 0
  have g1 := hW2.free 1
  have g2 := hW2.free 2
  have g3 := hW2.free 3
  simp at c0 c1 c2 c3
  go_still_tail 17, (by kernel_rfl)
  still_call (rotl' 17 17 rfl (by simp) _ _)
  repeat still_step
  refine wpStill_nil ?_
  change wpList _ _ _ _ _ W2.drew
  go_wp2_with fail
  generalize hW : World.drew (World.setCell W2 _ _) = W3
  have hW3 : St W3 b (add v0 v3, xr (rot 17 v1) (add v2 v1), add v2 v1, v3) := by subst hW; unfold St at *; (repeat' (first | (with_reducible assumption) | (with_reducible apply Blk.drew) | (with_reducible apply Blk.drewN) | (with_reducible apply Blk.set) | (with_reducible apply Blk.other) | (exact Blk.new' _ _ _ (by first | rfl | (simp; done) | (simp; omega))) | (with_reducible apply Blk.alloc) | (with_reducible rfl) | (simp; done) | (simp; omega) | omega | rfl))
  have fW3 : Fr (fun k => k = b) W2 W3 := by subst hW; (repeat' (first | (with_reducible exact Fr.refl _ _) | (with_reducible assumption) | (with_reducible refine Fr.alloc ?_ _) | (with_reducible refine Fr.drew ?_) | (with_reducible refine Fr.drewN ?_ _) | (with_reducible refine Fr.setCell ?_ _ _ ?_) | (exact Or.inr rfl) | (left; simp; done) | (left; simp; omega) | (simp; done) | (simp; omega) | omega))
  clear hW
  have lW3 := fW3.lt (by assumption : c < W2.heap.size)
  have pW3 := (fW3.cell (a := ⟨c, 0, none⟩) (by assumption) hbc).trans (by assumption)
  have c0 := hW3.cell 0
  have c1 := hW3.cell 1
  have c2 := hW3.cell 2
  have c3 := hW3.cell 3
  have g0 := hW3.free 0
  have g1 := hW3.free 1
  have g2 := hW3.free 2
  have g3 := hW3.free 3
  simp at c0 c1 c2 c3
  go_still_tail 17, (by kernel_rfl)
  still_call (rotl' 21 21 rfl (by simp) _ _)
  repeat still_step
  refine wpStill_nil ?_
  change wpList _ _ _ _ _ W3.drew
  go_wp2_with fail
  generalize hW : World.drew (World.setCell W3 _ _) = W4
  have hW4 : St W4 b (add v0 v3, xr (rot 17 v1) (add v2 v1), add v2 v1, xr (rot 21 v3) (add v0 v3)) := by subst hW; unfold St at *; (repeat' (first | (with_reducible assumption) | (with_reducible apply Blk.drew) | (with_reducible apply Blk.drewN) | (with_reducible apply Blk.set) | (with_reducible apply Blk.other) | (exact Blk.new' _ _ _ (by first | rfl | (simp; done) | (simp; omega))) | (with_reducible apply Blk.alloc) | (with_reducible rfl) | (simp; done) | (simp; omega) | omega | rfl))
  have fW4 : Fr (fun k => k = b) W3 W4 := by subst hW; (repeat' (first | (with_reducible exact Fr.refl _ _) | (with_reducible assumption) | (with_reducible refine Fr.alloc ?_ _) | (with_reducible refine Fr.drew ?_) | (with_reducible refine Fr.drewN ?_ _) | (with_reducible refine Fr.setCell ?_ _ _ ?_) | (exact Or.inr rfl) | (left; simp; done) | (left; simp; omega) | (simp; done) | (simp; omega) | omega))
  clear hW
  have lW4 := fW4.lt (by assumption : c < W3.heap.size)
  have pW4 := (fW4.cell (a := ⟨c, 0, none⟩) (by assumption) hbc).trans (by assumption)
  have c0 := hW4.cell 0
  have c1 := hW4.cell 1
  have c2 := hW4.cell 2
  have c3 := hW4.cell 3
  have g0 := hW4.free 0
  have g1 := hW4.free 1
  have g2 := hW4.free 2
  have g3 := hW4.free 3
  simp at c0 c1 c2 c3
  go_still_tail 10, (by kernel_rfl)
  still_call (rotl' 32 32 rfl (by simp) _ _)
  repeat still_step
  refine wpStill_nil ?_
  change wpList _ _ _ _ _ W4.drew
  go_wp2_with fail
  generalize hW : World.drew (World.setCell W4 _ _) = W5
  have hW5 : St W5 b (add v0 v3, xr (rot 17 v1) (add v2 v1), rot 32 (add v2 v1), xr (rot 21 v3) (add v0 v3)) := by subst hW; unfold St at *; (repeat' (first | (with_reducible assumption) | (with_reducible apply Blk.drew) | (with_reducible apply Blk.drewN) | (with_reducible apply Blk.set) | (with_reducible apply Blk.other) | (exact Blk.new' _ _ _ (by first | rfl | (simp; done) | (simp; omega))) | (with_reducible apply Blk.alloc) | (with_reducible rfl) | (simp; done) | (simp; omega) | omega | rfl))
  have fW5 : Fr (fun k => k = b) W4 W5 := by subst hW; (repeat' (first | (with_reducible exact Fr.refl _ _) | (with_reducible assumption) | (with_reducible refine Fr.alloc ?_ _) | (with_reducible refine Fr.drew ?_) | (with_reducible refine Fr.drewN ?_ _) | (with_reducible refine Fr.setCell ?_ _ _ ?_) | (exact Or.inr rfl) | (left; simp; done) | (left; simp; omega) | (simp; done) | (simp; omega) | omega))
  clear hW
  have lW5 := fW5.lt (by assumption : c < W4.heap.size)
  have pW5 := (fW5.cell (a := ⟨c, 0, none⟩) (by assumption) hbc).trans (by assumption)
  have c0 := hW5.cell 0
  have c1 := hW5.cell 1
  have c2 := hW5.cell 2
  have c3 := hW5.cell 3
  have g0 := hW5.free 0
  have g1 := hW5.free 1
  have g2 := hW5.free 2
  have g3 := hW5.free 3
  simp at c0 c1 c2 c3
  go_returns
  exact ⟨rfl, hW5, (((fW1.trans fW2 (fun _ _ h => h)).trans fW3 (fun _ _ h => h)).trans fW4 (fun _ _ h => h)).trans fW5 (fun _ _ h => h)⟩

end Go.Proofs.Ytnphjhignhmhaaa
