/- The functions of package nonce: what each call does to the book's block. -/
import Derived.Test.YtmacilbafoejdaaProg
import Derived.Test.YtmacilbafoejdaaKit
import Derived.Test.YtmacilbafoejdaaNoncePlain
import Derived.Laws.IdiomCopy
namespace Go.Proofs.Ytmacilbafoejdaa
open Go.RowKit
set_option linter.unusedVariables false
set_option linter.unusedSimpArgs false

def At (b : Nat) : Nat → Prop := fun k => k = b
theorem At.gone {w0 : World} {b : Nat} (h : w0.heap.size ≤ b) : ∀ i, i < w0.heap.size → At b i → False := fun i hi h' => by simp [At] at h'; omega

def BS.cells (x : BS) (m : Bool) : Array Value := #[.int .u64 x.out, .int .i64 x.since, .int .u64 x.last, .int .u64 x.s0, .int .u64 x.s1, .int .u64 x.s2, .int .u64 x.s3, .bool m]
/-- A book that New made, in block b. -/
def Bk (w : World) (b : Nat) (x : BS) : Prop := Blk w b (x.cells true) 52

section
variable {w : World} {b : Nat} {out since last s0 s1 s2 s3 n raw most : Int} {m : Bool}

/-! ### slices.Index, slices.Contains over four numbers -/
theorem index4 {o : Nat} (c0 : w.cell? ⟨b, o, none⟩ = some (.int .u64 s0)) (c1 : w.cell? ⟨b, o + 1, none⟩ = some (.int .u64 s1)) (c2 : w.cell? ⟨b, o + 2, none⟩ = some (.int .u64 s2)) (c3 : w.cell? ⟨b, o + 3, none⟩ = some (.int .u64 s3)) :
    Calls Try.prog 24 #[.slice (some ⟨b, o, none⟩) 4 4, .int .u64 n] w fun e w' =>
      e = .returned (.int .i64 (if n = s0 then 0 else if n = s1 then 1 else if n = s2 then 2 else if n = s3 then 3 else -1)) ∧ w = w' := by
  by_cases h0 : n = s0
  · subst h0
    go_enter Try.func24, Try.ntmps24
    go_wp2
    go_rounds 5
    go_ret
    exact ⟨by simp, rfl⟩
  · have e0 : (n == s0) = false := by simp [h0]
    by_cases h1 : n = s1
    · subst h1
      go_enter Try.func24, Try.ntmps24
      go_wp2
      go_rounds 5
      go_ret
      exact ⟨by simp [h0], rfl⟩
    · have e1 : (n == s1) = false := by simp [h1]
      by_cases h2 : n = s2
      · subst h2
        go_enter Try.func24, Try.ntmps24
        go_wp2
        go_rounds 5
        go_ret
        exact ⟨by simp [h0, h1], rfl⟩
      · have e2 : (n == s2) = false := by simp [h2]
        by_cases h3 : n = s3
        · subst h3
          go_enter Try.func24, Try.ntmps24
          go_wp2
          go_rounds 5
          go_ret
          exact ⟨by simp [h0, h1, h2], rfl⟩
        · have e3 : (n == s3) = false := by simp [h3]
          go_enter Try.func24, Try.ntmps24
          go_wp2
          go_rounds 5
          go_ret
          exact ⟨by simp [h0, h1, h2, h3], rfl⟩
def has4 (s0 s1 s2 s3 n : Int) : Bool := n == s0 || n == s1 || n == s2 || n == s3
theorem contains4 {o : Nat} (c0 : w.cell? ⟨b, o, none⟩ = some (.int .u64 s0)) (c1 : w.cell? ⟨b, o + 1, none⟩ = some (.int .u64 s1)) (c2 : w.cell? ⟨b, o + 2, none⟩ = some (.int .u64 s2)) (c3 : w.cell? ⟨b, o + 3, none⟩ = some (.int .u64 s3)) :
    Calls Try.prog 23 #[.slice (some ⟨b, o, none⟩) 4 4, .int .u64 n] w fun e w' => e = .returned (.bool (has4 s0 s1 s2 s3 n)) ∧ w = w' := by
  obtain ⟨k, hk, hh⟩ : ∃ k : Int, (if n = s0 then (0 : Int) else if n = s1 then 1 else if n = s2 then 2 else if n = s3 then 3 else -1) = k ∧ has4 s0 s1 s2 s3 n = decide (0 ≤ k) := by
    refine ⟨_, rfl, ?_⟩
    unfold has4
    split
    · simp [*]
    · split
      · simp [*]
      · split
        · simp [*]
        · split <;> simp [*]
  have I := index4 (n := n) c0 c1 c2 c3
  rw [hk] at I
  rw [hh]
  clear hk hh c0 c1 c2 c3
  go_enter Try.func23, Try.ntmps23
  go_wp2_with fail
  refine I.mono ?_
  rintro e w' ⟨rfl, rfl⟩
  go_wp2
  go_ret
  exact ⟨rfl, rfl⟩

/-! ### The book's own -/
theorem eq_arr (w : World) (d : Nat) (a0 a1 a2 a3 b0 b1 b2 b3 : Int) : (Op.equalIn (d + 2) 50 (.agg #[.int .u64 a0, .int .u64 a1, .int .u64 a2, .int .u64 a3]) (.agg #[.int .u64 b0, .int .u64 b1, .int .u64 b2, .int .u64 b3])).run Try.prog w = .ok (a0 == b0 && a1 == b1 && a2 == b2 && a3 == b3) w := by
  have u := run_underlying (P := Try.prog) (w := w) Try.underlying50
  have hs : ∀ w, (sizeOf 25).run Try.prog w = .ok 1 w := fun w => by kernel_rfl
  rw [Op.equalIn]
  simp [u, hs, Std.Legacy.Range.forIn_eq_forIn_range', Std.Legacy.Range.size, List.range', go_sem, part]
  split
  · split
    · split
      · split <;> simp [*]
      · simp [*]
    · simp [*]
  · simp [*]
attribute [local go_sem] eq_arr
theorem none_at (h : Blk w b #[.int .u64 out, .int .i64 since, .int .u64 last, .int .u64 s0, .int .u64 s1, .int .u64 s2, .int .u64 s3, .bool true] 52) :
    Calls Try.prog 18 #[.pointer (some ⟨b, 0, none⟩)] w fun e w' => e = .returned (.bool false) ∧ w = w' := by
  have c0 := h.cell 0
  have c1 := h.cell 1
  have c2 := h.cell 2
  have c3 := h.cell 3
  have c4 := h.cell 4
  have c5 := h.cell 5
  have c6 := h.cell 6
  have c7 := h.cell 7
  simp at c0 c1 c2 c3 c4 c5 c6 c7
  go_enter Try.func18, Try.ntmps18
  go_wp2
  all_goals (go_ret; exact ⟨rfl, rfl⟩)
theorem none_nil : Calls Try.prog 18 #[.pointer none] w fun e w' => e = .returned (.bool true) ∧ w = w' := by
  go_enter Try.func18, Try.ntmps18
  go_wp2
  go_ret
  exact ⟨rfl, rfl⟩
theorem none_zero (h : Blk w b #[.int .u64 0, .int .i64 0, .int .u64 0, .int .u64 0, .int .u64 0, .int .u64 0, .int .u64 0, .bool false] 52) :
    Calls Try.prog 18 #[.pointer (some ⟨b, 0, none⟩)] w fun e w' => e = .returned (.bool true) ∧ w = w' := by
  have c0 := h.cell 0
  have c1 := h.cell 1
  have c2 := h.cell 2
  have c3 := h.cell 3
  have c4 := h.cell 4
  have c5 := h.cell 5
  have c6 := h.cell 6
  have c7 := h.cell 7
  simp at c0 c1 c2 c3 c4 c5 c6 c7
  go_enter Try.func18, Try.ntmps18
  go_wp2
  all_goals (go_ret; exact ⟨rfl, rfl⟩)
theorem copy_run (w : World) (b : Nat) (s0 s1 s2 s3 : Int) (c3 : w.cell? ⟨b, 3, none⟩ = some (.int .u64 s0)) (c4 : w.cell? ⟨b, 4, none⟩ = some (.int .u64 s1)) (c5 : w.cell? ⟨b, 5, none⟩ = some (.int .u64 s2)) (c6 : w.cell? ⟨b, 6, none⟩ = some (.int .u64 s3))
   (f4 : w.frozen? ⟨b, 4, none⟩ = false) (f5 : w.frozen? ⟨b, 5, none⟩ = false) (f6 : w.frozen? ⟨b, 6, none⟩ = false) :
  (Builtin.copy_ #[34, 34] 3 #[.slice (some ⟨b, 4, none⟩) 3 3, .slice (some ⟨b, 3, none⟩) 4 4]).run Try.prog w.drew = .ok (.int .i64 3) ((((w.setCell ⟨b, 4, none⟩ (.int .u64 s0)).setCell ⟨b, 5, none⟩ (.int .u64 s1)).setCell ⟨b, 6, none⟩ (.int .u64 s2)).drew) := by
  have u := Try.underlying34
  simp [Builtin.copy_, Builtin.lenOf, Builtin.firstCells, loadCells, loadCellsFrom, storeCells, go_sem, u, c3, c4, c5, c6, f4, f5, f6]
theorem giveUp_at (h : Blk w b #[.int .u64 out, .int .i64 since, .int .u64 last, .int .u64 s0, .int .u64 s1, .int .u64 s2, .int .u64 s3, .bool true] 52) (ho : out ≠ 0) :
    Calls Try.prog 20 #[.pointer (some ⟨b, 0, none⟩)] w fun e w' => e = .returned (.tuple #[]) ∧
      Blk w' b #[.int .u64 0, .int .i64 0, .int .u64 last, .int .u64 out, .int .u64 s0, .int .u64 s1, .int .u64 s2, .bool true] 52 ∧ Fr (At b) w w' := by
  have c0 := h.cell 0
  have c1 := h.cell 1
  have c2 := h.cell 2
  have c3 := h.cell 3
  have c4 := h.cell 4
  have c5 := h.cell 5
  have c6 := h.cell 6
  have c7 := h.cell 7
  have f0 := h.free 0
  have f1 := h.free 1
  have f3 := h.free 3
  have f4 := h.free 4
  have f5 := h.free 5
  have f6 := h.free 6
  simp at c0 c1 c2 c3 c4 c5 c6 c7
  have h0 : (out == 0) = false := by simp [ho]
  go_enter Try.func20, Try.ntmps20
  go_wp2
  have hcp := copy_run w b s0 s1 s2 s3 c3 c4 c5 c6 f4 f5 f6
  go_region
  go_wp2
  go_region
  go_wp2
  go_end0
  exact ⟨rfl, by (repeat' (first | (with_reducible assumption) | (with_reducible apply Blk.drew) | (with_reducible apply Blk.drewN) | (with_reducible apply Blk.set) | (with_reducible apply Blk.other) | (exact Blk.new' _ _ _ (by first | rfl | (simp; done) | (simp; omega))) | (with_reducible apply Blk.alloc) | (with_reducible rfl) | (simp; done) | (simp; omega) | omega | rfl)), by (repeat' (first | (with_reducible exact Fr.refl _ _) | (with_reducible assumption) | (with_reducible refine Fr.alloc ?_ _) | (with_reducible refine Fr.drew ?_) | (with_reducible refine Fr.drewN ?_ _) | (with_reducible refine Fr.setCell ?_ _ _ ?_) | (exact Or.inr rfl) | (left; simp; done) | (left; simp; omega) | (simp; done) | (simp; omega) | omega))⟩
theorem giveUp_none (h : Blk w b #[.int .u64 0, .int .i64 since, .int .u64 last, .int .u64 s0, .int .u64 s1, .int .u64 s2, .int .u64 s3, .bool true] 52) :
    Calls Try.prog 20 #[.pointer (some ⟨b, 0, none⟩)] w fun e w' => e = .returned (.tuple #[]) ∧ w = w' := by
  have c0 := h.cell 0
  simp at c0
  go_enter Try.func20, Try.ntmps20
  go_wp2
  go_returns
  exact ⟨rfl, rfl⟩
end
end Go.Proofs.Ytmacilbafoejdaa
