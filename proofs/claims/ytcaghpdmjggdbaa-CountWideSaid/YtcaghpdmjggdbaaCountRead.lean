/- (*Counter).Read: each way through it. -/
import Derived.Test.YtcaghpdmjggdbaaCount
namespace Go.Proofs.Ytcaghpdmjggdbaa
open Go.RowKit
set_option linter.unusedVariables false
set_option linter.unusedSimpArgs false
section
variable {w : World} {b : Nat} {mask last total r : Int} {full : Bool}
set_option maxHeartbeats 1000000 in
theorem read_arg (h : Cnt w b mask last total full) (hr : mask < r) :
    Calls Try.prog 7 #[.pointer (some ⟨b, 0, none⟩), .int .u64 r] w fun e w' => e = .returned (.tuple #[.int .u64 0, .int .i64 1]) ∧ Cnt w' b mask last total full ∧ Fr (At b) w w' := by
  have hb := h.lt
  obtain ⟨hb1, hb2, hb3, hb4, hb5, hb6⟩ := lt8 hb
  have hne : b ≠ w.heap.size := by omega
  have hne1 : b ≠ w.heap.size + 1 := by omega
  have hne2 : b ≠ w.heap.size + 1 + 1 := by omega
  have c0 := h.cell 0
  have c1 := h.cell 1
  have c2 := h.cell 2
  have c3 := h.cell 3
  have c4 := h.cell 4
  have f1 := h.free 1
  have f2 := h.free 2
  have f3 := h.free 3
  simp at c0 c1 c2 c3 c4
  have hd : decide (mask < r) = true := decide_eq_true hr
  go_enter Try.func7, Try.ntmps7
  go_wp2
  refine wp_loop_rounds 5 ?_
  repeat any_goals (rw [rounds_succ]; go_wp2_with (first
    | (go_at_call 14; refine (ask1 (b := b) ?_ ?_).mono ?_; (focus (first | omega | (go_simp; done))); (focus (first | omega | (go_simp; done))); rintro e w' ⟨rfl, rfl⟩)
    | (go_at_call 16; refine (ask2 (b := b) (r := r) (mask := mask) ?_ ?_ ?_).mono ?_; (focus (first | omega | (go_simp; done))); (focus (first | omega | (go_simp; done))); (focus (first | omega | (go_simp; done))); rintro e w' ⟨rfl, rfl⟩)
    | go_in))
  go_ret2
  exact ⟨rfl, by unfold Cnt at *; (repeat' (first | (with_reducible assumption) | (with_reducible apply Blk.drew) | (with_reducible apply Blk.drewN) | (with_reducible apply Blk.set) | (with_reducible apply Blk.other) | (exact Blk.new' _ _ _ (by first | rfl | (simp; done) | (simp; omega))) | (with_reducible apply Blk.alloc) | rfl | (simp; done) | (simp; omega) | omega)), by (repeat' (first | (with_reducible exact Fr.refl _ _) | (with_reducible assumption) | (with_reducible refine Fr.alloc ?_ _) | (with_reducible refine Fr.drew ?_) | (with_reducible refine Fr.drewN ?_ _) | (with_reducible refine Fr.setCell ?_ _ _ ?_) | (exact Or.inr rfl) | (left; simp; done) | (left; simp; omega) | (simp; done) | (simp; omega) | omega))⟩

set_option maxHeartbeats 1000000 in
theorem read_full (h : Cnt w b mask last total true) (hr : r ≤ mask) :
    Calls Try.prog 7 #[.pointer (some ⟨b, 0, none⟩), .int .u64 r] w fun e w' => e = .returned (.tuple #[.int .u64 0, .int .i64 7]) ∧ Cnt w' b mask last total true ∧ Fr (At b) w w' := by
  have hb := h.lt
  obtain ⟨hb1, hb2, hb3, hb4, hb5, hb6⟩ := lt8 hb
  have hne : b ≠ w.heap.size := by omega
  have hne1 : b ≠ w.heap.size + 1 := by omega
  have hne2 : b ≠ w.heap.size + 1 + 1 := by omega
  have c0 := h.cell 0
  have c1 := h.cell 1
  have c2 := h.cell 2
  have c3 := h.cell 3
  have c4 := h.cell 4
  have f1 := h.free 1
  have f2 := h.free 2
  have f3 := h.free 3
  simp at c0 c1 c2 c3 c4
  have hd : decide (mask < r) = false := decide_eq_false (by omega)
  go_enter Try.func7, Try.ntmps7
  go_wp2
  refine wp_loop_rounds 5 ?_
  repeat any_goals (rw [rounds_succ]; go_wp2_with (first
    | (go_at_call 14; refine (ask1 (b := b) ?_ ?_).mono ?_; (focus (first | omega | (go_simp; done))); (focus (first | omega | (go_simp; done))); rintro e w' ⟨rfl, rfl⟩)
    | (go_at_call 16; refine (ask2 (b := b) (r := r) (mask := mask) ?_ ?_ ?_).mono ?_; (focus (first | omega | (go_simp; done))); (focus (first | omega | (go_simp; done))); (focus (first | omega | (go_simp; done))); rintro e w' ⟨rfl, rfl⟩)
    | (go_at_call 17; refine (ask3 (b := b) (full := true) ?_ ?_).mono ?_; (focus (first | omega | (go_simp; done))); (focus (first | omega | (go_simp; done))); rintro e w' ⟨rfl, rfl⟩)
    | go_in))
  go_ret2
  exact ⟨rfl, by unfold Cnt at *; (repeat' (first | (with_reducible assumption) | (with_reducible apply Blk.drew) | (with_reducible apply Blk.drewN) | (with_reducible apply Blk.set) | (with_reducible apply Blk.other) | (exact Blk.new' _ _ _ (by first | rfl | (simp; done) | (simp; omega))) | (with_reducible apply Blk.alloc) | rfl | (simp; done) | (simp; omega) | omega)), by (repeat' (first | (with_reducible exact Fr.refl _ _) | (with_reducible assumption) | (with_reducible refine Fr.alloc ?_ _) | (with_reducible refine Fr.drew ?_) | (with_reducible refine Fr.drewN ?_ _) | (with_reducible refine Fr.setCell ?_ _ _ ?_) | (exact Or.inr rfl) | (left; simp; done) | (left; simp; omega) | (simp; done) | (simp; omega) | omega))⟩

set_option maxHeartbeats 1000000 in
theorem read_over (h : Cnt w b mask last total false) (hr : r ≤ mask) (ht : 0 ≤ total) (ht' : total ≤ 9223372036854775807)
    (hle : 9223372036854775807 - total < bits .and .u64 (IntKind.u64.wrap (r - last)) mask) :
    Calls Try.prog 7 #[.pointer (some ⟨b, 0, none⟩), .int .u64 r] w fun e w' => e = .returned (.tuple #[.int .u64 0, .int .i64 7]) ∧ Cnt w' b mask last 9223372036854775807 true ∧ Fr (At b) w w' := by
  have hb := h.lt
  obtain ⟨hb1, hb2, hb3, hb4, hb5, hb6⟩ := lt8 hb
  have hne : b ≠ w.heap.size := by omega
  have hne1 : b ≠ w.heap.size + 1 := by omega
  have hne2 : b ≠ w.heap.size + 1 + 1 := by omega
  have c0 := h.cell 0
  have c1 := h.cell 1
  have c2 := h.cell 2
  have c3 := h.cell 3
  have c4 := h.cell 4
  have f1 := h.free 1
  have f2 := h.free 2
  have f3 := h.free 3
  simp at c0 c1 c2 c3 c4
  have hd : decide (mask < r) = false := decide_eq_false (by omega)
  go_enter Try.func7, Try.ntmps7
  go_wp2
  refine wp_loop_rounds 5 ?_
  repeat any_goals (rw [rounds_succ]; go_wp2_with (first
    | (go_at_call 14; refine (ask1 (b := b) ?_ ?_).mono ?_; (focus (first | omega | (go_simp; done))); (focus (first | omega | (go_simp; done))); rintro e w' ⟨rfl, rfl⟩)
    | (go_at_call 16; refine (ask2 (b := b) (r := r) (mask := mask) ?_ ?_ ?_).mono ?_; (focus (first | omega | (go_simp; done))); (focus (first | omega | (go_simp; done))); (focus (first | omega | (go_simp; done))); rintro e w' ⟨rfl, rfl⟩)
    | (go_at_call 17; refine (ask3 (b := b) (full := false) ?_ ?_).mono ?_; (focus (first | omega | (go_simp; done))); (focus (first | omega | (go_simp; done))); rintro e w' ⟨rfl, rfl⟩)
    | (go_at_call 18; refine (ask4_over (b := b) (r := r) (mask := mask) (last := last) (total := total) (full := false) ?_ ?_ ?_ ?_ ?_ ?_ ?_ ?_ ?_ ?_ ?_ ?_ ht ht' hle).mono ?_; (focus (first | omega | (go_simp; done))); (focus (first | omega | (go_simp; done))); (focus (first | omega | (go_simp; done))); (focus (first | omega | (go_simp; done))); (focus (first | omega | (go_simp; done))); (focus (first | omega | (go_simp; done))); (focus (first | omega | (go_simp; done))); (focus (first | omega | (go_simp; done))); (focus (first | omega | (go_simp; done))); (focus (first | omega | (go_simp; done))); (focus (first | omega | (go_simp; done))); (focus (first | omega | (go_simp; done))); rintro e w' ⟨rfl, rfl⟩)
    | go_in))
  go_ret2
  exact ⟨rfl, by unfold Cnt at *; (repeat' (first | (with_reducible assumption) | (with_reducible apply Blk.drew) | (with_reducible apply Blk.drewN) | (with_reducible apply Blk.set) | (with_reducible apply Blk.other) | (exact Blk.new' _ _ _ (by first | rfl | (simp; done) | (simp; omega))) | (with_reducible apply Blk.alloc) | rfl | (simp; done) | (simp; omega) | omega)), by (repeat' (first | (with_reducible exact Fr.refl _ _) | (with_reducible assumption) | (with_reducible refine Fr.alloc ?_ _) | (with_reducible refine Fr.drew ?_) | (with_reducible refine Fr.drewN ?_ _) | (with_reducible refine Fr.setCell ?_ _ _ ?_) | (exact Or.inr rfl) | (left; simp; done) | (left; simp; omega) | (simp; done) | (simp; omega) | omega))⟩

set_option maxHeartbeats 1000000 in
theorem read_ok (h : Cnt w b mask last total false) (hr : r ≤ mask) (ht : 0 ≤ total) (ht' : total ≤ 9223372036854775807) (h0 : 0 ≤ bits .and .u64 (IntKind.u64.wrap (r - last)) mask)
    (hle : bits .and .u64 (IntKind.u64.wrap (r - last)) mask ≤ 9223372036854775807 - total) :
    Calls Try.prog 7 #[.pointer (some ⟨b, 0, none⟩), .int .u64 r] w fun e w' => e = .returned (.tuple #[.int .u64 (bits .and .u64 (IntKind.u64.wrap (r - last)) mask), .int .i64 0]) ∧
      Cnt w' b mask r (total + bits .and .u64 (IntKind.u64.wrap (r - last)) mask) false ∧ Fr (At b) w w' := by
  have hb := h.lt
  obtain ⟨hb1, hb2, hb3, hb4, hb5, hb6⟩ := lt8 hb
  have hne : b ≠ w.heap.size := by omega
  have hne1 : b ≠ w.heap.size + 1 := by omega
  have hne2 : b ≠ w.heap.size + 1 + 1 := by omega
  have c0 := h.cell 0
  have c1 := h.cell 1
  have c2 := h.cell 2
  have c3 := h.cell 3
  have c4 := h.cell 4
  have f1 := h.free 1
  have f2 := h.free 2
  have f3 := h.free 3
  simp at c0 c1 c2 c3 c4
  have hd : decide (mask < r) = false := decide_eq_false (by omega)
  go_enter Try.func7, Try.ntmps7
  go_wp2
  refine wp_loop_rounds 5 ?_
  repeat any_goals (rw [rounds_succ]; go_wp2_with (first
    | (go_at_call 14; refine (ask1 (b := b) ?_ ?_).mono ?_; (focus (first | omega | (go_simp; done))); (focus (first | omega | (go_simp; done))); rintro e w' ⟨rfl, rfl⟩)
    | (go_at_call 16; refine (ask2 (b := b) (r := r) (mask := mask) ?_ ?_ ?_).mono ?_; (focus (first | omega | (go_simp; done))); (focus (first | omega | (go_simp; done))); (focus (first | omega | (go_simp; done))); rintro e w' ⟨rfl, rfl⟩)
    | (go_at_call 17; refine (ask3 (b := b) (full := false) ?_ ?_).mono ?_; (focus (first | omega | (go_simp; done))); (focus (first | omega | (go_simp; done))); rintro e w' ⟨rfl, rfl⟩)
    | (go_at_call 18; refine (ask4_ok (b := b) (r := r) (mask := mask) (last := last) (total := total) ?_ ?_ ?_ ?_ ?_ ?_ ?_ ?_ ?_ ht ht' hle).mono ?_; (focus (first | omega | (go_simp; done))); (focus (first | omega | (go_simp; done))); (focus (first | omega | (go_simp; done))); (focus (first | omega | (go_simp; done))); (focus (first | omega | (go_simp; done))); (focus (first | omega | (go_simp; done))); (focus (first | omega | (go_simp; done))); (focus (first | omega | (go_simp; done))); (focus (first | omega | (go_simp; done))); rintro e w' ⟨rfl, rfl⟩)
    | go_in))
  go_region
  go_wp2
  go_ret2
  exact ⟨rfl, by unfold Cnt at *; (repeat' (first | (with_reducible assumption) | (with_reducible apply Blk.drew) | (with_reducible apply Blk.drewN) | (with_reducible apply Blk.set) | (with_reducible apply Blk.other) | (exact Blk.new' _ _ _ (by first | rfl | (simp; done) | (simp; omega))) | (with_reducible apply Blk.alloc) | rfl | (simp; done) | (simp; omega) | omega)), by (repeat' (first | (with_reducible exact Fr.refl _ _) | (with_reducible assumption) | (with_reducible refine Fr.alloc ?_ _) | (with_reducible refine Fr.drew ?_) | (with_reducible refine Fr.drewN ?_ _) | (with_reducible refine Fr.setCell ?_ _ _ ?_) | (exact Or.inr rfl) | (left; simp; done) | (left; simp; omega) | (simp; done) | (simp; omega) | omega))⟩

end
theorem read_nil (w : World) (r : Int) :
    Calls Try.prog 7 #[.pointer none, .int .u64 r] w fun e w' => e = .returned (.tuple #[.int .u64 0, .int .i64 2]) ∧ Fr (fun _ => False) w w' := by
  go_enter Try.func7, Try.ntmps7
  go_wp2
  refine wp_loop_rounds 5 ?_
  repeat any_goals (rw [rounds_succ]; go_wp2_with (first
    | (go_at_call 14; refine (ask1_nil ?_).mono ?_; (focus (first | omega | (go_simp; done))); rintro e w' ⟨rfl, rfl⟩)
    | go_in))
  go_ret2
  exact ⟨rfl, by (repeat' (first | (with_reducible exact Fr.refl _ _) | (with_reducible assumption) | (with_reducible refine Fr.alloc ?_ _) | (with_reducible refine Fr.drew ?_) | (with_reducible refine Fr.drewN ?_ _) | (with_reducible refine Fr.setCell ?_ _ _ ?_) | (exact Or.inr rfl) | (left; simp; done) | (left; simp; omega) | (simp; done) | (simp; omega) | omega))⟩
end Go.Proofs.Ytcaghpdmjggdbaa
