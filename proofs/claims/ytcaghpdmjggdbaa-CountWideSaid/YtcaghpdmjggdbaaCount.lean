/- The functions of package count: what each call does to the counter's block. -/
import Derived.Test.YtcaghpdmjggdbaaProg
import Derived.Test.YtcaghpdmjggdbaaKit
namespace Go.Proofs.Ytcaghpdmjggdbaa
open Go.RowKit
set_option linter.unusedVariables false
set_option linter.unusedSimpArgs false

/-- A counter in block b. -/
def Cnt (w : World) (b : Nat) (mask last total : Int) (full : Bool) : Prop :=
  Blk w b #[.int .u64 mask, .int .u64 last, .int .u64 total, .bool full, .bool true] 39

def At (b : Nat) : Nat → Prop := fun k => k = b

theorem none_at (b : Nat) (w : World) (m : Bool) (h : w.cell? ⟨b, 4, none⟩ = some (.bool m)) :
    Calls Try.prog 15 #[.pointer (some ⟨b, 0, none⟩)] w fun e w' => e = .returned (.bool (!m)) ∧ w = w' := by
  go_enter Try.func15, Try.ntmps15
  go_wp2
  go_ret
  exact ⟨rfl, rfl⟩

theorem none_nil (w : World)  :
    Calls Try.prog 15 #[.pointer none] w fun e w' => e = .returned (.bool true) ∧ w = w' := by
  go_enter Try.func15, Try.ntmps15
  go_wp2
  go_ret
  exact ⟨rfl, rfl⟩

theorem new_bad (bits r : Int) (w : World) (h : bits < 8 ∨ 64 < bits) :
    Calls Try.prog 6 #[.int .i64 bits, .int .u64 r] w fun e w' => e = .returned (.tuple #[.pointer none, .int .i64 1]) ∧ w = w' := by
  rcases h with h | h
  · go_enter Try.func6, Try.ntmps6
    go_wp2
    go_ret2
    exact ⟨rfl, rfl⟩
  · have h8 : 8 ≤ bits := by omega
    go_enter Try.func6, Try.ntmps6
    go_wp2
    go_ret2
    exact ⟨rfl, rfl⟩

theorem new_big (bits r : Int) (w : World) (h1 : 8 ≤ bits) (h2 : bits ≤ 64) (h : 18446744073709551615 / 2 ^ (64 - bits).toNat < r) :
    Calls Try.prog 6 #[.int .i64 bits, .int .u64 r] w fun e w' => e = .returned (.tuple #[.pointer none, .int .i64 1]) ∧ w = w' := by
  go_enter Try.func6, Try.ntmps6
  go_wp2
  go_ret2
  exact ⟨rfl, rfl⟩

theorem new_ok (bits r : Int) (w : World) (h1 : 8 ≤ bits) (h2 : bits ≤ 64) (h : r ≤ 18446744073709551615 / 2 ^ (64 - bits).toNat) :
    Calls Try.prog 6 #[.int .i64 bits, .int .u64 r] w fun e w' => e = .returned (.tuple #[.pointer (some ⟨w.heap.size, 0, none⟩), .int .i64 0]) ∧
      Cnt w' w.heap.size (18446744073709551615 / 2 ^ (64 - bits).toNat) r 0 false ∧ Fr (fun _ => False) w w' := by
  go_enter Try.func6, Try.ntmps6
  go_wp2
  go_ret2
  exact ⟨rfl, Blk.new _ _ _, by (repeat' (first | (with_reducible exact Fr.refl _ _) | (with_reducible assumption) | (with_reducible refine Fr.alloc ?_ _) | (with_reducible refine Fr.drew ?_) | (with_reducible refine Fr.drewN ?_ _) | (with_reducible refine Fr.setCell ?_ _ _ ?_) | (exact Or.inr rfl) | (left; simp; done) | (left; simp; omega) | (simp; done) | (simp; omega) | omega))⟩

section
variable {w : World} {b : Nat} {mask last total : Int} {full : Bool}

theorem total_at (h : Cnt w b mask last total full) :
    Calls Try.prog 8 #[.pointer (some ⟨b, 0, none⟩)] w fun e w' => e = .returned (.int .u64 total) ∧ w = w' := by
  have c4 := h.cell 4
  have c2 := h.cell 2
  simp at c4 c2
  go_enter Try.func8, Try.ntmps8
  go_wp2_with (first | go_at_call 15; refine (none_at _ _ _ c4).mono ?_; rintro e w' ⟨rfl, rfl⟩)
  go_ret
  exact ⟨rfl, rfl⟩
theorem last_at (h : Cnt w b mask last total full) :
    Calls Try.prog 10 #[.pointer (some ⟨b, 0, none⟩)] w fun e w' => e = .returned (.int .u64 last) ∧ w = w' := by
  have c4 := h.cell 4
  have c2 := h.cell 1
  simp at c4 c2
  go_enter Try.func10, Try.ntmps10
  go_wp2_with (first | go_at_call 15; refine (none_at _ _ _ c4).mono ?_; rintro e w' ⟨rfl, rfl⟩)
  go_ret
  exact ⟨rfl, rfl⟩
theorem full_at (h : Cnt w b mask last total full) :
    Calls Try.prog 11 #[.pointer (some ⟨b, 0, none⟩)] w fun e w' => e = .returned (.bool full) ∧ w = w' := by
  have c4 := h.cell 4
  have c2 := h.cell 3
  simp at c4 c2
  go_enter Try.func11, Try.ntmps11
  go_wp2_with (first | go_at_call 15; refine (none_at _ _ _ c4).mono ?_; rintro e w' ⟨rfl, rfl⟩)
  go_ret
  exact ⟨rfl, rfl⟩
theorem total_nil : Calls Try.prog 8 #[.pointer none] w fun e w' => e = .returned (.int .u64 0) ∧ w = w' := by
  go_enter Try.func8, Try.ntmps8
  go_wp2
  go_ret
  exact ⟨rfl, rfl⟩
theorem last_nil : Calls Try.prog 10 #[.pointer none] w fun e w' => e = .returned (.int .u64 0) ∧ w = w' := by
  go_enter Try.func10, Try.ntmps10
  go_wp2
  go_ret
  exact ⟨rfl, rfl⟩
theorem full_nil : Calls Try.prog 11 #[.pointer none] w fun e w' => e = .returned (.bool false) ∧ w = w' := by
  go_enter Try.func11, Try.ntmps11
  go_wp2
  go_ret
  exact ⟨rfl, rfl⟩
theorem copy_nil : Calls Try.prog 12 #[.pointer none] w fun e w' => e = .returned (.pointer none) ∧ w = w' := by
  go_enter Try.func12, Try.ntmps12
  go_wp2
  go_ret
  exact ⟨rfl, rfl⟩
end

/-! The questions that Read asks first, each a closure over the reading's cell, the counter's and the way's. -/
section
variable {w : World} {b rb cb wb : Nat} {mask last total r : Int} {full : Bool}
theorem ask1 (hc : w.cell? ⟨cb, 0, none⟩ = some (.pointer (some ⟨b, 0, none⟩))) (c4 : w.cell? ⟨b, 4, none⟩ = some (.bool true)) :
    Calls Try.prog 14 #[.pointer (some ⟨cb, 0, none⟩)] w fun e w' => e = .returned (.tuple #[.bool false, .int .i64 2]) ∧ w = w' := by
  go_enter Try.func14, Try.ntmps14
  go_wp2_with (first | go_at_call 15; refine (none_at _ _ _ c4).mono ?_; rintro e w' ⟨rfl, rfl⟩)
  go_ret2
  exact ⟨rfl, rfl⟩
theorem ask1_nil (hc : w.cell? ⟨cb, 0, none⟩ = some (.pointer none)) :
    Calls Try.prog 14 #[.pointer (some ⟨cb, 0, none⟩)] w fun e w' => e = .returned (.tuple #[.bool true, .int .i64 2]) ∧ w = w' := by
  go_enter Try.func14, Try.ntmps14
  go_wp2_with (first | go_at_call 15; refine (none_nil _).mono ?_; rintro e w' ⟨rfl, rfl⟩)
  go_ret2
  exact ⟨rfl, rfl⟩
theorem ask2 (hr : w.cell? ⟨rb, 0, none⟩ = some (.int .u64 r)) (hc : w.cell? ⟨cb, 0, none⟩ = some (.pointer (some ⟨b, 0, none⟩))) (c0 : w.cell? ⟨b, 0, none⟩ = some (.int .u64 mask)) :
    Calls Try.prog 16 #[.pointer (some ⟨rb, 0, none⟩), .pointer (some ⟨cb, 0, none⟩)] w fun e w' =>
      e = .returned (.tuple #[.bool (decide (mask < r)), .int .i64 1]) ∧ w.drew = w' := by
  go_enter Try.func16, Try.ntmps16
  go_wp2
  go_region
  go_wp2
  go_ret2
  exact ⟨rfl, rfl⟩
theorem ask3 (hc : w.cell? ⟨cb, 0, none⟩ = some (.pointer (some ⟨b, 0, none⟩))) (c3 : w.cell? ⟨b, 3, none⟩ = some (.bool full)) :
    Calls Try.prog 17 #[.pointer (some ⟨cb, 0, none⟩)] w fun e w' => e = .returned (.tuple #[.bool full, .int .i64 7]) ∧ w = w' := by
  go_enter Try.func17, Try.ntmps17
  go_wp2
  go_ret2
  exact ⟨rfl, rfl⟩
theorem ask4_ok (hr : w.cell? ⟨rb, 0, none⟩ = some (.int .u64 r)) (hc : w.cell? ⟨cb, 0, none⟩ = some (.pointer (some ⟨b, 0, none⟩)))
    (c0 : w.cell? ⟨b, 0, none⟩ = some (.int .u64 mask)) (c1 : w.cell? ⟨b, 1, none⟩ = some (.int .u64 last)) (c2 : w.cell? ⟨b, 2, none⟩ = some (.int .u64 total))
    (hwc : w.cell? ⟨wb, 0, none⟩ = some (.int .u64 0)) (hwf : w.frozen? ⟨wb, 0, none⟩ = false) (hbw : b ≠ wb) (hcb : cb ≠ wb) (ht : 0 ≤ total) (ht' : total ≤ 9223372036854775807)
    (hle : bits .and .u64 (IntKind.u64.wrap (r - last)) mask ≤ 9223372036854775807 - total) :
    Calls Try.prog 18 #[.pointer (some ⟨rb, 0, none⟩), .pointer (some ⟨cb, 0, none⟩), .pointer (some ⟨wb, 0, none⟩)] w fun e w' =>
      e = .returned (.tuple #[.bool false, .int .i64 0]) ∧ (w.setCell ⟨wb, 0, none⟩ (.int .u64 (bits .and .u64 (IntKind.u64.wrap (r - last)) mask))).drew.drew = w' := by
  go_enter Try.func18, Try.ntmps18
  go_wp2
  go_region
  go_wp2
  go_region
  go_wp2
  go_ret2
  exact ⟨rfl, rfl⟩
theorem ask4_over (hr : w.cell? ⟨rb, 0, none⟩ = some (.int .u64 r)) (hc : w.cell? ⟨cb, 0, none⟩ = some (.pointer (some ⟨b, 0, none⟩)))
    (c0 : w.cell? ⟨b, 0, none⟩ = some (.int .u64 mask)) (c1 : w.cell? ⟨b, 1, none⟩ = some (.int .u64 last)) (c2 : w.cell? ⟨b, 2, none⟩ = some (.int .u64 total))
    (c3 : w.cell? ⟨b, 3, none⟩ = some (.bool full)) (f2 : w.frozen? ⟨b, 2, none⟩ = false) (f3 : w.frozen? ⟨b, 3, none⟩ = false)
    (hwc : w.cell? ⟨wb, 0, none⟩ = some (.int .u64 0)) (hwf : w.frozen? ⟨wb, 0, none⟩ = false) (hbw : b ≠ wb) (hcb : cb ≠ wb) (ht : 0 ≤ total) (ht' : total ≤ 9223372036854775807)
    (hle : 9223372036854775807 - total < bits .and .u64 (IntKind.u64.wrap (r - last)) mask) :
    Calls Try.prog 18 #[.pointer (some ⟨rb, 0, none⟩), .pointer (some ⟨cb, 0, none⟩), .pointer (some ⟨wb, 0, none⟩)] w fun e w' =>
      e = .returned (.tuple #[.bool true, .int .i64 7]) ∧ (((w.setCell ⟨wb, 0, none⟩ (.int .u64 (bits .and .u64 (IntKind.u64.wrap (r - last)) mask))).setCell ⟨b, 2, none⟩ (.int .u64 9223372036854775807)).setCell ⟨b, 3, none⟩ (.bool true)).drew.drew.drew = w' := by
  go_enter Try.func18, Try.ntmps18
  go_wp2
  go_region
  go_wp2
  go_region
  go_wp2
  go_region
  go_wp2
  go_ret2
  exact ⟨rfl, rfl⟩
end
end Go.Proofs.Ytcaghpdmjggdbaa
