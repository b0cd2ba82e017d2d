/- Texts of mine, joined by shake.py: ClWorst. -/
import Derived.Test.YtapagoaoglmegaaGreatMo7
import Derived.Test.YtapagoaoglmegaaGreatMo8
section
namespace Go.Proofs.YtapagoaoglmegaaGreat
open Go.RowKit Go.Proofs.YtapagoaoglmegaaGreatW.PrintWords Go.Proofs.YtapagoaoglmegaaGreatW.PrintLast Go.Proofs.YtapagoaoglmegaaGreatW.PrintMore PCl
set_option linter.unusedVariables false
theorem cmp64_f (a b : Int) : cmp_Compare_int64.f a b = some (if a < b then -1 else if a > b then 1 else 0) := by
  unfold cmp_Compare_int64.f cmp_isNaN_int64.f
  simp
  split
  · rfl
  · split <;> rfl
theorem cmpI_f (a b : Int) : cmp_Compare_int.f a b = some (if a < b then -1 else if a > b then 1 else 0) := by
  unfold cmp_Compare_int.f cmp_isNaN_int.f
  simp
  split
  · rfl
  · split <;> rfl
theorem or2_f (a b : Int) (k : Nat) (hk : 3 ≤ k) : cmp_Or_int.f k [a, b] = some (if a = 0 then b else a) := by
  obtain ⟨k, rfl⟩ : ∃ m, k = m + 3 := ⟨k - 3, by omega⟩
  unfold cmp_Or_int.f
  have w1 : wrap64 (0 + 1) = 1 := by unfold wrap64; omega
  have w2 : wrap64 (1 + 1) = 2 := by unfold wrap64; omega
  have r0 : rd [a, b] 0 = a := rfl
  have r1 : rd [a, b] 1 = b := rfl
  simp only [cmp_Or_int.l0, List.length_cons, List.length_nil, r0]
  rw [if_pos (by decide), if_pos (by decide), if_pos (by decide)]
  by_cases h0 : a = 0
  · rw [if_pos h0, if_pos h0, w1, if_pos (by decide), if_pos (by decide), if_pos (by decide), r1]
    by_cases h1 : b = 0
    · rw [if_pos h1, w2, if_neg (by decide), h1]
    · rw [if_neg h1]
  · rw [if_neg h0, if_neg h0]
def Worse (l : List S27) (i j : Nat) : Prop := spreadZ l j < spreadZ l i ∨ (spreadZ l i = spreadZ l j ∧ (rd_T27 l (j : Int)).f0 < (rd_T27 l (i : Int)).f0)
instance (l : List S27) (i j : Nat) : Decidable (Worse l i j) := by unfold Worse; infer_instance
def worstTo (l : List S27) : Nat → Nat
  | 0 => 0
  | i + 1 => if Worse l i (worstTo l i) then i else worstTo l i
def worstZ (l : List S27) : Nat := worstTo l l.length
theorem worstTo_lt (l : List S27) (h : 0 < l.length) : ∀ i, i ≤ l.length → worstTo l i < l.length
  | 0, _ => h
  | i + 1, hi => by
    unfold worstTo; split
    · omega
    · exact worstTo_lt l h i (by omega)
theorem worstZ_lt {l : List S27} (h : 0 < l.length) : worstZ l < l.length := worstTo_lt l h _ (Nat.le_refl _)
theorem spread_f {l : List S27} (h : mayB l = true) {i : Nat} (hi : i < l.length) : cluster_spread.f l (i : Int) = some (spreadZ l i) := by
  unfold cluster_spread.f
  rw [if_pos ⟨h, by omega, by omega⟩, Int.toNat_natCast]
theorem worst_l0 {l : List S27} (h : mayB l = true) (hn : 0 < l.length) : ∀ (d i k : Nat), i ≤ l.length → l.length - i = d → d + 4 ≤ k → cluster_worst.l0 k l (worstTo l i : Int) (l.length : Int) (i : Int) = some (worstZ l : Int)
  | 0, i, k, hi, hd, hk => by
    obtain ⟨k, rfl⟩ : ∃ m, k = m + 1 := ⟨k - 1, by omega⟩
    obtain rfl : i = l.length := by omega
    simp only [cluster_worst.l0]
    rw [if_neg (by omega)]
    rfl
  | d + 1, i, k, hi, hd, hk => by
    obtain ⟨k, rfl⟩ : ∃ m, k = m + 1 := ⟨k - 1, by omega⟩
    have hil : i < l.length := by omega
    have hw := worstTo_lt l hn i hi
    have hl16 := ((mayB_iff l).1 h).len
    simp only [cluster_worst.l0]
    rw [if_pos (by omega), spread_f h hil, spread_f h hw]
    simp only [Option.bind_some]
    rw [cmp64_f]
    simp only [Option.bind_some]
    rw [if_pos (by omega), if_pos (by omega), if_pos (by omega), if_pos (by omega), cmpI_f]
    simp only [Option.bind_some]
    rw [or2_f _ _ k (by omega)]
    simp only [Option.bind_some]
    have e1 : wrap64 ((i : Int) + 1) = ((i + 1 : Nat) : Int) := by unfold wrap64; omega
    rw [e1]
    have ih := worst_l0 h hn d (i + 1) k (by omega) (by omega) (by omega)
    have key : ((if (if spreadZ l i < spreadZ l (worstTo l i) then (-1 : Int) else if spreadZ l i > spreadZ l (worstTo l i) then 1 else 0) = 0 then
        (if (rd_T27 l (i : Int)).f0 < (rd_T27 l (worstTo l i : Int)).f0 then (-1 : Int) else if (rd_T27 l (i : Int)).f0 > (rd_T27 l (worstTo l i : Int)).f0 then 1 else 0) else
        (if spreadZ l i < spreadZ l (worstTo l i) then (-1 : Int) else if spreadZ l i > spreadZ l (worstTo l i) then 1 else 0)) > 0) ↔ Worse l i (worstTo l i) := by
      unfold Worse
      generalize spreadZ l i = a
      generalize spreadZ l (worstTo l i) = b
      generalize (rd_T27 l (i : Int)).f0 = c
      generalize (rd_T27 l (worstTo l i : Int)).f0 = d
      by_cases h1 : a < b
      · simp [h1]; omega
      · by_cases h2 : a > b
        · simp [h1, h2]
        · have : a = b := by omega
          subst this
          by_cases h3 : c < d
          · simp [h3]; omega
          · by_cases h4 : c > d
            · simp [h3, h4]
            · simp [h3, h4]
    by_cases hc : Worse l i (worstTo l i)
    · rw [if_pos (key.2 hc)]
      have e2 : worstTo l (i + 1) = i := by rw [worstTo, if_pos hc]
      rw [e2] at ih
      exact ih
    · rw [if_neg (fun e => hc (key.1 e))]
      have e2 : worstTo l (i + 1) = worstTo l i := by rw [worstTo, if_neg hc]
      rw [e2] at ih
      exact ih
theorem worst_f {l : List S27} (h : mayB l = true) (hn : 0 < l.length) (k : Nat) (hk : l.length + 4 ≤ k) : cluster_worst.f k l = some (worstZ l : Int) := by
  have := worst_l0 h hn l.length 0 k (by omega) (by omega) hk
  unfold cluster_worst.f
  exact this
end Go.Proofs.YtapagoaoglmegaaGreat
end
