/- Numbers of counters: masks, ways, sums that go round. -/
import Derived.WalkKit
namespace Go.Proofs.Ytcaghpdmjggdbaa
/-- A mask of j bits. -/
def IsMask (m : Int) : Prop := ∃ j : Nat, j ≤ 64 ∧ m = 2 ^ j - 1
theorem IsMask.pos {m : Int} (h : IsMask m) : 0 ≤ m := by
  obtain ⟨j, _, rfl⟩ := h
  have : (0 : Int) < 2 ^ j := Int.pow_pos (by decide)
  omega
theorem IsMask.le {m : Int} (h : IsMask m) : m ≤ 18446744073709551615 := by
  obtain ⟨j, hj, rfl⟩ := h
  have : (2 : Int) ^ j ≤ 2 ^ 64 := by
    have := Nat.pow_le_pow_right (n := 2) (by decide) hj
    exact_mod_cast this
  simp at this
  omega
theorem IsMask.dvd {m : Int} (h : IsMask m) : (m + 1) ∣ 18446744073709551616 := by
  obtain ⟨j, hj, rfl⟩ := h
  refine ⟨2 ^ (64 - j), ?_⟩
  rw [Int.sub_add_cancel, ← Int.pow_add, show j + (64 - j) = 64 from by omega]
  rfl
theorem and_mask {m : Int} (h : IsMask m) (x : Int) (h0 : 0 ≤ x) (h1 : x ≤ 18446744073709551615) : bits .and .u64 x m = x % (m + 1) := by
  have hm0 := h.pos
  have hm1 := h.le
  obtain ⟨j, hj, rfl⟩ := h
  obtain ⟨n, rfl⟩ := Int.eq_ofNat_of_zero_le h0
  have e : ((2 : Int) ^ j - 1) = ((2 ^ j - 1 : Nat) : Int) := by
    have : 1 ≤ 2 ^ j := Nat.one_le_two_pow
    push_cast [this]
    rfl
  rw [e] at hm1 ⊢
  rw [bits_and_u64_nat n (2 ^ j - 1) (by omega) (by omega), Nat.and_two_pow_sub_one_eq_mod, Int.natCast_emod, ← e]
  simp
theorem wrap_u64_mod (x : Int) : IntKind.u64.wrap x = x % 18446744073709551616 := by
  simp [IntKind.wrap, IntKind.bits, IntKind.signed]
theorem wrap_u64_range (x : Int) : 0 ≤ IntKind.u64.wrap x ∧ IntKind.u64.wrap x ≤ 18446744073709551615 := by
  rw [wrap_u64_mod]; omega
/-- The mask of what goes round: the number, below the mask's round. -/
theorem and_wrap {m : Int} (h : IsMask m) (x : Int) : bits .and .u64 (IntKind.u64.wrap x) m = x % (m + 1) := by
  rw [and_mask h _ (wrap_u64_range x).1 (wrap_u64_range x).2, wrap_u64_mod]
  exact Int.emod_emod_of_dvd _ h.dvd
theorem wrap_add_wrap (a b : Int) : IntKind.u64.wrap (IntKind.u64.wrap a + b) = IntKind.u64.wrap (a + b) := by
  simp only [wrap_u64_mod]; omega
theorem wrap_sub_wrap (a b : Int) : IntKind.u64.wrap (IntKind.u64.wrap a - b) = IntKind.u64.wrap (a - b) := by
  simp only [wrap_u64_mod]; omega
theorem mask_is (k : Int) (h1 : 8 ≤ k) (h2 : k ≤ 64) : IsMask (18446744073709551615 / 2 ^ (64 - k).toNat) := by
  obtain ⟨n, rfl⟩ := Int.eq_ofNat_of_zero_le (show 0 ≤ k by omega)
  refine ⟨n, by omega, ?_⟩
  rw [show ((64 : Int) - (n : Int)).toNat = 64 - n from by omega]
  have e : (18446744073709551615 : Int) = 2 ^ (64 - n) * 2 ^ n - 1 := by
    rw [← Int.pow_add, show 64 - n + n = 64 from by omega]; rfl
  have hp : (0 : Int) < 2 ^ (64 - n) := Int.pow_pos (by decide)
  rw [e]
  have : (2 : Int) ^ (64 - n) * 2 ^ n - 1 = (2 ^ (64 - n) - 1) + 2 ^ (64 - n) * (2 ^ n - 1) := by
    rw [Int.mul_sub]; omega
  rw [this, Int.add_mul_ediv_left _ _ (by omega), Int.ediv_eq_zero_of_lt (by omega) (by omega)]
  omega
/-- The way between two readings of what goes round. -/
theorem way_mod (a b M : Int) (h0 : 0 ≤ b) (h1 : b < M) : ((a + b) % M - a % M) % M = b := by
  rw [Int.emod_sub_emod]
  have : (a + b - a % M) % M = (a + b - a) % M := by rw [Int.sub_emod, Int.emod_emod_of_dvd _ (Int.dvd_refl M), ← Int.sub_emod]
  rw [this, show a + b - a = b from by omega]
  exact Int.emod_eq_of_lt h0 h1
theorem and_le {a b : Int} (ha : 0 ≤ a) (ha' : a ≤ 18446744073709551615) (hb : 0 ≤ b) (hb' : b ≤ 18446744073709551615) :
    0 ≤ bits .and .u64 a b ∧ bits .and .u64 a b ≤ a ∧ bits .and .u64 a b ≤ b := by
  obtain ⟨x, rfl⟩ := Int.eq_ofNat_of_zero_le ha
  obtain ⟨y, rfl⟩ := Int.eq_ofNat_of_zero_le hb
  rw [bits_and_u64_nat x y (by omega) (by omega)]
  have h1 : x &&& y ≤ x := Nat.and_le_left
  have h2 : x &&& y ≤ y := Nat.and_le_right
  omega
theorem add_wrap_right (a b : Int) : IntKind.u64.wrap (a + IntKind.u64.wrap b) = IntKind.u64.wrap (a + b) := by
  simp only [wrap_u64_mod]; omega
end Go.Proofs.Ytcaghpdmjggdbaa
