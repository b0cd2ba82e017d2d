/- The laws' field of candidates, as plain Lean; cluster.Worst and cluster.Spread on a field. -/
import Derived.Test.YtapagoaoglmegaaPClx21
import Derived.Test.YtapagoaoglmegaaPClx17
import Derived.Test.YtapagoaoglmegaaClWorst
import Derived.Test.YtapagoaoglmegaaGClMay
namespace Go.Proofs.Ytapagoaoglmegaa
open Go.RowKit Go.Proofs.YtapagoaoglmegaaW.PrintWords Go.Proofs.YtapagoaoglmegaaW.PrintLast Go.Proofs.YtapagoaoglmegaaW.PrintMore PCl
set_option linter.unusedVariables false

/-- What is handed in is of its types. -/
def NearOk (n : S102) : Prop := 0 ≤ n.f0 ∧ n.f0 < 4294967296 ∧ 0 ≤ n.f1 ∧ n.f1 < 65536 ∧ 0 ≤ n.f2 ∧ n.f2 < 65536
def candOf (i : Nat) (n : S102) : S27 := ⟨i, ⟨9, n.f0 + 1048576 - n.f1, n.f0 + 1048576 + n.f1⟩, n.f2⟩
def fieldTo (l : List S102) (i : Nat) : List S27 := (List.range i).map fun j => candOf j (rd_T102 l j)
def fieldZ (l : List S102) : List S27 := fieldTo l (min l.length 16)
theorem fieldTo_len (l : List S102) (i : Nat) : (fieldTo l i).length = i := by simp [fieldTo]
theorem fieldTo_succ (l : List S102) (i : Nat) : fieldTo l (i + 1) = fieldTo l i ++ [candOf i (rd_T102 l i)] := by
  unfold fieldTo; rw [List.range_succ, List.map_append]; rfl
theorem rd102_mem {l : List S102} {i : Nat} (h : i < l.length) : rd_T102 l (i : Int) ∈ l := by
  unfold rd_T102
  have : l.getD (i : Int).toNat z102 = l[i] := by simp [h]
  rw [this]; exact List.getElem_mem h
theorem field_l0 {l : List S102} (hw : ∀ n ∈ l, NearOk n) (hl : l.length ≤ 9223372036854775807) : ∀ (d i k : Nat), i ≤ min l.length 16 → 17 - i = d → d + 1 ≤ k → ephemerislaw23_field.l0 k (fieldTo l i) l (l.length : Int) (i : Int) = some (fieldZ l)
  | 0, i, k, hi, hd, hk => by omega
  | d + 1, i, k, hi, hd, hk => by
    obtain ⟨k, rfl⟩ : ∃ m, k = m + 1 := ⟨k - 1, by omega⟩
    simp only [ephemerislaw23_field.l0]
    by_cases hlt : i < l.length
    · rw [if_pos (by omega), if_pos (by omega), if_pos (by omega)]
      by_cases h16 : i = 16
      · rw [if_pos (by omega)]
        unfold fieldZ
        rw [show min l.length 16 = i by omega]
      · rw [if_neg (by omega), if_pos (by rw [fieldTo_len]; omega)]
        obtain ⟨a0, a1, b0, b1, c0, c1⟩ := hw _ (rd102_mem hlt)
        have e1 : wrap64 ((i : Int) + 1) = ((i + 1 : Nat) : Int) := by unfold wrap64; omega
        have e2 : wrap64 ((wrap64 ((wrap64 ((rd_T102 l i).f0)) + 1048576)) - (wrap64 ((rd_T102 l i).f1))) = (rd_T102 l i).f0 + 1048576 - (rd_T102 l i).f1 := by unfold wrap64; omega
        have e3 : wrap64 ((wrap64 ((wrap64 ((rd_T102 l i).f0)) + 1048576)) + (wrap64 ((rd_T102 l i).f1))) = (rd_T102 l i).f0 + 1048576 + (rd_T102 l i).f1 := by unfold wrap64; omega
        have e4 : wrap64 ((rd_T102 l i).f2) = (rd_T102 l i).f2 := by unfold wrap64; omega
        rw [e1, e2, e3, e4]
        have := field_l0 hw hl d (i + 1) k (by omega) (by omega) (by omega)
        rw [fieldTo_succ] at this
        exact this
    · rw [if_neg (by omega)]
      unfold fieldZ
      rw [show min l.length 16 = i by omega]
theorem field_f {l : List S102} (hw : ∀ n ∈ l, NearOk n) (hl : l.length ≤ 9223372036854775807) (k : Nat) (hk : 18 ≤ k) : ephemerislaw23_field.f k l = some (fieldZ l) :=
  field_l0 hw hl 17 0 k (by omega) (by omega) (by omega)
theorem fieldZ_len (l : List S102) : (fieldZ l).length = min l.length 16 := fieldTo_len _ _
theorem fieldZ_get {l : List S102} {i : Nat} {c : S27} (h : (fieldZ l)[i]? = some c) : i < l.length ∧ i < 16 ∧ c = candOf i (rd_T102 l i) := by
  have hi := (List.getElem?_eq_some_iff.1 h).1
  rw [fieldZ_len] at hi
  refine ⟨by omega, by omega, ?_⟩
  unfold fieldZ fieldTo at h
  rw [List.getElem?_map, List.getElem?_range hi] at h
  simpa using h.symm
theorem fieldZ_mem {l : List S102} {c : S27} (h : c ∈ fieldZ l) : ∃ i, i < l.length ∧ i < 16 ∧ c = candOf i (rd_T102 l i) := by
  obtain ⟨i, hi⟩ := List.mem_iff_getElem?.1 h
  exact ⟨i, fieldZ_get hi⟩
theorem fieldZ_fld {l : List S102} (hw : ∀ n ∈ l, NearOk n) : Fld (fieldZ l) := by
  refine ⟨by rw [fieldZ_len]; omega, fun c hc => ?_, fun c hc => ?_, fun c hc d hd => ?_, fun c hc => ?_, ?_⟩
  · obtain ⟨i, _, _, rfl⟩ := fieldZ_mem hc
    show (0 : Int) ≤ (i : Int); omega
  · obtain ⟨i, hi, _, rfl⟩ := fieldZ_mem hc
    obtain ⟨a0, a1, b0, b1, c0, c1⟩ := hw _ (rd102_mem hi)
    unfold candOf SpOk Tm MT; simp only; omega
  · obtain ⟨i, _, _, rfl⟩ := fieldZ_mem hc
    obtain ⟨j, _, _, rfl⟩ := fieldZ_mem hd
    rfl
  · obtain ⟨i, hi, _, rfl⟩ := fieldZ_mem hc
    obtain ⟨a0, a1, b0, b1, c0, c1⟩ := hw _ (rd102_mem hi)
    unfold candOf Tm MT; simp only; omega
  · unfold fieldZ fieldTo
    rw [List.pairwise_map]
    exact List.nodup_range.imp fun h e => h (by have : ((_ : Nat) : Int) = ((_ : Nat) : Int) := e; omega)
theorem fieldZ_who (l : List S102) : WhoWf (fieldZ l) := by
  intro c hc
  obtain ⟨i, _, hi, rfl⟩ := fieldZ_mem hc
  show (decide (IntKind.i64.min ≤ (i : Int)) && decide ((i : Int) ≤ IntKind.i64.max)) = true
  rw [decide_eq_true (by show (-9223372036854775808 : Int) ≤ i; omega), decide_eq_true (by show (i : Int) ≤ 9223372036854775807; omega)]
  rfl

theorem may_f {l : List S27} (hF : Fld l) (hw : WhoWf l) : cluster_May.f l = some true := by
  unfold cluster_May.f; rw [if_pos hw, (mayB_iff l).2 hF]
theorem Worst_f {l : List S27} (hF : Fld l) (hw : WhoWf l) (k : Nat) (hk : l.length + 4 ≤ k) : cluster_Worst.f k l = some (if l.length = 0 then (0, false) else ((worstZ l : Int), true)) := by
  unfold cluster_Worst.f
  rw [may_f hF hw]
  simp only [Option.bind_some, if_true]
  by_cases h : l.length = 0
  · rw [if_pos (by omega), if_pos h]
  · rw [if_neg (by omega), if_neg h, worst_f ((mayB_iff l).2 hF) (by omega) k hk]
    rfl
theorem Spread_f {l : List S27} (hF : Fld l) (hw : WhoWf l) {i : Nat} (hi : i < l.length) : cluster_Spread.f l (i : Int) = some (spreadZ l i) := by
  unfold cluster_Spread.f
  rw [may_f hF hw]
  simp only [Option.bind_some, if_true]
  rw [if_neg (by omega), if_neg (by omega), spread_f ((mayB_iff l).2 hF) hi]
  rfl
end Go.Proofs.Ytapagoaoglmegaa
