/- Small numbers as floats: how they compare, and what they add up to. -/
import Derived.Test.YtapagoaoglmegaaEdSweep
import Derived.Laws.ComplexArith
import Derived.Laws.FloatArith
import Derived.KernelRfl
namespace Go.Proofs.Ytapagoaoglmegaa
open Go
/-- A small whole number as a float's bits. -/
def flE (n : Int) : Nat := floatOfInt .f64 n
def oneE : Nat := 4607182418800017408
def moneE : Nat := 13830554455654793216
/-- Half of n. -/
def hfE (n : Int) : Nat := (floatBits .quo .f64 (flE n) 4611686018427387904).getD 0
theorem cmp_tab : ((List.range 64).all fun a => (List.range 64).all fun b => (FloatKind.f64.format.order (flE a) (flE b) == some (compare a b))) = true := by kernel_rfl
theorem sgn_tab : (FloatKind.f64.format.order oneE oneE == some .eq && FloatKind.f64.format.order moneE moneE == some .eq && FloatKind.f64.format.order oneE moneE == some .gt && FloatKind.f64.format.order moneE oneE == some .lt) = true := by kernel_rfl
theorem im_tab : ((List.range 81).all fun a => floatBits .add .f64 (flE ((a : Int) - 40)) oneE == some (flE ((a : Int) - 39)) && floatBits .add .f64 (flE ((a : Int) - 40)) moneE == some (flE ((a : Int) - 41))) = true := by kernel_rfl
theorem hf_tab : ((List.range 81).all fun a => (List.range 21).all fun n => (FloatKind.f64.format.order (flE ((a : Int) - 40)) (hfE n) == some (compare (2 * ((a : Int) - 40)) (n : Int))) && floatBits .quo .f64 (flE n) 4611686018427387904 == some (hfE n)) = true := by kernel_rfl
theorem int_tab : ((List.range 64).all fun a => floatToIntVal .f64 (flE a) .i64 == some (a : Int)) = true := by kernel_rfl
theorem low_tab : ((List.range 64).all fun a => decide (flE a < 9218868437227405312)) = true := by kernel_rfl
theorem fl_zero : flE 0 = 0 := by kernel_rfl
theorem fl_ord {a b : Nat} (ha : a < 64) (hb : b < 64) : FloatKind.f64.format.order (flE a) (flE b) = some (compare a b) := by
  have := List.all_eq_true.1 (List.all_eq_true.1 cmp_tab a (List.mem_range.2 ha)) b (List.mem_range.2 hb)
  simpa using this
theorem im_add {z : Int} (h1 : -40 ≤ z) (h2 : z ≤ 40) : floatBits .add .f64 (flE z) oneE = some (flE (z + 1)) ∧ floatBits .add .f64 (flE z) moneE = some (flE (z - 1)) := by
  have := List.all_eq_true.1 im_tab (z + 40).toNat (List.mem_range.2 (by omega))
  rw [show (((z + 40).toNat : Nat) : Int) = z + 40 by omega] at this
  rw [show z + 40 - 40 = z by omega, show z + 40 - 39 = z + 1 by omega, show z + 40 - 41 = z - 1 by omega] at this
  simpa using this
theorem hf_ord {z : Int} {n : Nat} (h1 : -40 ≤ z) (h2 : z ≤ 40) (hn : n ≤ 20) : FloatKind.f64.format.order (flE z) (hfE n) = some (compare (2 * z) (n : Int)) := by
  have := List.all_eq_true.1 (List.all_eq_true.1 hf_tab (z + 40).toNat (List.mem_range.2 (by omega))) n (List.mem_range.2 (by omega))
  rw [show (((z + 40).toNat : Nat) : Int) = z + 40 by omega, show z + 40 - 40 = z by omega, Bool.and_eq_true] at this
  simpa using this.1
theorem hf_is {n : Nat} (hn : n ≤ 20) : floatBits .quo .f64 (flE n) 4611686018427387904 = some (hfE n) := by
  have := List.all_eq_true.1 (List.all_eq_true.1 hf_tab 0 (List.mem_range.2 (by omega))) n (List.mem_range.2 (by omega))
  rw [Bool.and_eq_true] at this
  simpa using this.2
theorem fl_int {a : Nat} (ha : a < 64) : floatToIntVal .f64 (flE a) .i64 = some (a : Int) := by
  have := List.all_eq_true.1 int_tab a (List.mem_range.2 ha)
  simpa using this
theorem fl_low {a : Nat} (ha : a < 64) : flE a < 9218868437227405312 := by
  have := List.all_eq_true.1 low_tab a (List.mem_range.2 ha)
  simpa using this
theorem read_good {x : Nat} (h : x ≤ 9218868437227405312) : (∃ m i, FloatKind.f64.format.read x = .number false m i) ∨ (FloatKind.f64.format.read x = .infinity false ∧ x = 9218868437227405312) := by
  have e1 : x / FloatKind.f64.format.signWeight = 0 := Nat.div_eq_of_lt (by show x < 9223372036854775808; omega)
  have e2 : x % FloatKind.f64.format.signWeight = x := Nat.mod_eq_of_lt (by show x < 9223372036854775808; omega)
  unfold Ieee.Format.read
  simp only [e1, e2]
  split
  · exact .inl ⟨_, _, rfl⟩
  · split
    · exact .inl ⟨_, _, rfl⟩
    · rename_i h1 h2
      have h3 : ¬ x < 9218868437227405312 := h2
      have h4 : x = FloatKind.f64.format.infRung := by show x = 9218868437227405312; omega
      rw [if_pos h4]
      exact .inr ⟨rfl, by omega⟩
theorem inf_rung : FloatKind.f64.format.infRung = 9218868437227405312 := by kernel_rfl
theorem word_good (n : Nat) : FloatKind.f64.format.word false (min n FloatKind.f64.format.infRung) ≤ 9218868437227405312 := by
  rw [inf_rung]
  exact Nat.min_le_right _ _
theorem near_good (m : Nat) (i : Int) : FloatKind.f64.format.nearest false m i ≤ 9218868437227405312 := by
  unfold Ieee.Format.nearest
  split
  · exact Nat.zero_le _
  · exact word_good _
/-- A sum of what is not below 0 is some number. -/
theorem re_add {x y : Nat} (hx : x ≤ 9218868437227405312) (hy : y < 9218868437227405312) : ∃ r, floatBits .add .f64 x y = some r ∧ r ≤ 9218868437227405312 := by
  show ∃ r, FloatKind.f64.format.add x y = some r ∧ r ≤ 9218868437227405312
  unfold Ieee.Format.add
  rcases read_good (show y ≤ 9218868437227405312 by omega) with ⟨n, j, hy1⟩ | ⟨_, hy1⟩
  · rw [hy1]
    rcases read_good hx with ⟨m, i, hx1⟩ | ⟨hx1, _⟩
    · rw [hx1]
      refine ⟨_, rfl, ?_⟩
      unfold Ieee.Format.write
      simp only
      have e : ∀ a b : Nat, (if Ieee.signed false m a + Ieee.signed false n b = 0 then false && false else decide (Ieee.signed false m a + Ieee.signed false n b < 0)) = false := fun a b => by
        have h1 : 0 ≤ Ieee.signed false m a := Int.natCast_nonneg (m <<< a)
        have h2 : 0 ≤ Ieee.signed false n b := Int.natCast_nonneg (n <<< b)
        split
        · rfl
        · simp; omega
      rw [e]
      exact near_good _ _
    · rw [hx1]
      exact ⟨_, rfl, by decide⟩
  · omega
end Go.Proofs.Ytapagoaoglmegaa
