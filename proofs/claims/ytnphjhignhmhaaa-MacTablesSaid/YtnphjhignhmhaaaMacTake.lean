/- A round, rounds and the taking of a word. -/
import Derived.Test.YtnphjhignhmhaaaMacRound
namespace Go.Proofs.Ytnphjhignhmhaaa
open Go.RowKit
set_option linter.unusedVariables false
set_option linter.unusedSimpArgs false
set_option maxRecDepth 100000

theorem round_at {w : World} {b : Nat} {v : S4} (h : St w b v) :
    Calls Try.prog 26 #[.pointer (some ⟨b, 0, none⟩)] w fun e w' => e = .returned (.tuple #[]) ∧ St w' b (rnd v) ∧ Fr (fun k => k = b) w w' := by
  obtain ⟨v0, v1, v2, v3⟩ := v
  have hb := h.lt
  have hmf : ∀ (fn : Fn) (first cap : Array Value) (w : World), (Instr.makeFunc fn first cap).run Try.prog w = .ok (.func fn first cap) w := fun _ _ _ _ => rfl
  go_enter Try.func26, Try.ntmps26
  go_wp2_with fail
  generalize hW : World.alloc w _ = W
  have h0 : St W b (v0, v1, v2, v3) := by subst hW; exact Blk.alloc h _
  have f0 : Fr (fun k => k = b) w W := by subst hW; (repeat' (first | (with_reducible exact Fr.refl _ _) | (with_reducible assumption) | (with_reducible refine Fr.alloc ?_ _) | (with_reducible refine Fr.drew ?_) | (with_reducible refine Fr.drewN ?_ _) | (with_reducible refine Fr.setCell ?_ _ _ ?_) | (exact Or.inr rfl) | (left; simp; done) | (left; simp; omega) | (simp; done) | (simp; omega) | omega))
  have p0 : W.cell? ⟨w.heap.size, 0, none⟩ = some (.pointer (some ⟨b, 0, none⟩)) := by subst hW; exact cell_new rfl
  have l0 : w.heap.size < W.heap.size := by subst hW; simp
  clear hW
  have hne : w.heap.size ≠ b := by omega
  refine (half1 hne l0 h0 p0).mono ?_
  rintro e W1 ⟨rfl, h1, f1⟩
  have l1 := f1.lt l0
  have p1 := (f1.cell (a := ⟨w.heap.size, 0, none⟩) l0 hne).trans p0
  go_wp2_with fail
  refine (half2 hne l1 h1 p1).mono ?_
  rintro e W2 ⟨rfl, h2, f2⟩
  go_wp2
  go_returns
  exact ⟨rfl, h2, (f0.trans f1 (fun _ _ h => h)).trans f2 (fun _ _ h => h)⟩

theorem rounds_at {w : World} {b : Nat} {v : S4} (n : Nat) (hn : n ≤ 4) (h : St w b v) :
    Calls Try.prog 23 #[.pointer (some ⟨b, 0, none⟩), .int .i64 n] w fun e w' => e = .returned (.tuple #[]) ∧ St w' b (rnds n v) ∧ Fr (fun k => k = b) w w' := by
  go_enter Try.func23, Try.ntmps23
  go_wp2_with fail
  go_loopw [5] (fun vi wr => ∃ i : Nat, i ≤ n ∧ vi = .int .i64 i ∧ St wr b (rnds i v) ∧ Fr (fun k => k = b) w wr) (fun vi _ => n - (intOf vi).toNat)
  case atStart => exact ⟨0, by omega, rfl, h, Fr.refl _ _⟩
  case round =>
    clear h
    obtain ⟨i, hi, rfl, h, k⟩ := hrel
    by_cases hlt : i < n
    · go_wp2_with fail
      refine (round_at h).mono ?_
      rintro e w3 ⟨rfl, h1, k1⟩
      have k2 := k.trans k1 (fun _ _ h => h)
      clear k k1 h
      go_wp2_with fail
      go_roundw
      case rel => exact ⟨i + 1, by omega, by go_num, by rw [rnds_succ']; exact h1, k2⟩
      case measure => simp [intOf]; omega
    · have hin : i = n := by omega
      subst hin
      go_wp2
      go_returns
      exact ⟨rfl, h, k⟩

theorem take_at {w : World} {b : Nat} {v : S4} (m : Int) (h : St w b v) :
    Calls Try.prog 22 #[.pointer (some ⟨b, 0, none⟩), .int .u64 m] w fun e w' => e = .returned (.tuple #[]) ∧ St w' b (takes m v) ∧ Fr (fun k => k = b) w w' := by
  obtain ⟨v0, v1, v2, v3⟩ := v
  have c0 := h.cell 3
  have g0 := h.free 3
  simp at c0
  go_enter Try.func22, Try.ntmps22
  go_wp2_with fail
  go_still_tail 8, (by kernel_rfl)
  change wpList _ _ _ _ _ w.drew
  go_wp2_with fail
  generalize hW : World.drew (World.setCell w _ _) = W1
  have h1 : St W1 b (v0, v1, v2, xr v3 m) := by subst hW; unfold St at *; (repeat' (first | (with_reducible assumption) | (with_reducible apply Blk.drew) | (with_reducible apply Blk.drewN) | (with_reducible apply Blk.set) | (with_reducible apply Blk.other) | (exact Blk.new' _ _ _ (by first | rfl | (simp; done) | (simp; omega))) | (with_reducible apply Blk.alloc) | (with_reducible rfl) | (simp; done) | (simp; omega) | omega | rfl))
  have f1 : Fr (fun k => k = b) w W1 := by subst hW; (repeat' (first | (with_reducible exact Fr.refl _ _) | (with_reducible assumption) | (with_reducible refine Fr.alloc ?_ _) | (with_reducible refine Fr.drew ?_) | (with_reducible refine Fr.drewN ?_ _) | (with_reducible refine Fr.setCell ?_ _ _ ?_) | (exact Or.inr rfl) | (left; simp; done) | (left; simp; omega) | (simp; done) | (simp; omega) | omega))
  clear hW
  refine (rounds_at 2 (by omega) h1).mono ?_
  rintro e W2 ⟨rfl, h2, f2⟩
  obtain ⟨r, hr⟩ : ∃ r, r = rnds 2 (v0, v1, v2, xr v3 m) := ⟨_, rfl⟩
  rw [← hr] at h2
  obtain ⟨r0, r1, r2, r3⟩ := r
  have c0 := h2.cell 0
  have g0 := h2.free 0
  simp at c0
  go_wp2_with fail
  go_still_tail 8, (by kernel_rfl)
  change wpList _ _ _ _ _ W2.drew
  go_wp2_with fail
  generalize hW : World.drew (World.setCell W2 _ _) = W3
  have h3 : St W3 b (xr r0 m, r1, r2, r3) := by subst hW; unfold St at *; (repeat' (first | (with_reducible assumption) | (with_reducible apply Blk.drew) | (with_reducible apply Blk.drewN) | (with_reducible apply Blk.set) | (with_reducible apply Blk.other) | (exact Blk.new' _ _ _ (by first | rfl | (simp; done) | (simp; omega))) | (with_reducible apply Blk.alloc) | (with_reducible rfl) | (simp; done) | (simp; omega) | omega | rfl))
  have f3 : Fr (fun k => k = b) W2 W3 := by subst hW; (repeat' (first | (with_reducible exact Fr.refl _ _) | (with_reducible assumption) | (with_reducible refine Fr.alloc ?_ _) | (with_reducible refine Fr.drew ?_) | (with_reducible refine Fr.drewN ?_ _) | (with_reducible refine Fr.setCell ?_ _ _ ?_) | (exact Or.inr rfl) | (left; simp; done) | (left; simp; omega) | (simp; done) | (simp; omega) | omega))
  clear hW
  go_returns
  refine ⟨rfl, ?_, (f1.trans f2 (fun _ _ h => h)).trans f3 (fun _ _ h => h)⟩
  unfold takes
  simp only [← hr]
  exact h3
end Go.Proofs.Ytnphjhignhmhaaa
