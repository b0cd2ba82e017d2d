/- Who is left, as plain Lean. -/
import Derived.Test.YtapagoaoglmegaaGClPrune2
import Derived.Test.YtapagoaoglmegaaClField
namespace Go.Proofs.Ytapagoaoglmegaa
open Go.RowKit Go.Proofs.YtapagoaoglmegaaW.PrintWords Go.Proofs.YtapagoaoglmegaaW.PrintLast Go.Proofs.YtapagoaoglmegaaW.PrintMore PCl
set_option linter.unusedVariables false

/-- What pruning comes to. -/
structure Pruned (L y : List S27) : Prop where
  sub : y.Sublist L
  low : min L.length 3 ≤ y.length
  few : L.length ≤ 3 → y = L
  calm : 3 < y.length → spreadZ y (worstZ y) ≤ minJ y
theorem pruneGo_is : ∀ (n : Nat) (L : List S27), L.length ≤ n → Pruned L (pruneGo n L)
  | 0, L, h => by
    obtain rfl := List.eq_nil_of_length_eq_zero (Nat.le_zero.1 h)
    exact ⟨List.Sublist.refl _, by simp, fun _ => rfl, fun h => by simp [pruneGo] at h⟩
  | n + 1, L, h => by
    by_cases hc : 3 < L.length ∧ ¬ spreadZ L (worstZ L) ≤ minJ L
    · have hk : worstZ L < L.length := worstZ_lt (by omega)
      have he : (L.eraseIdx (worstZ L)).length + 1 = L.length := by rw [List.length_eraseIdx, if_pos hk]; omega
      have e : pruneGo (n + 1) L = pruneGo n (L.eraseIdx (worstZ L)) := by
        show (if 3 < L.length ∧ ¬ spreadZ L (worstZ L) ≤ minJ L then _ else _) = _
        rw [if_pos hc]
      obtain ⟨h1, h2, h3, h4⟩ := pruneGo_is n (L.eraseIdx (worstZ L)) (by omega)
      rw [e]
      exact ⟨h1.trans (List.eraseIdx_sublist _ _), by omega, fun h => by omega, h4⟩
    · rw [pruneGo_stop hc]
      exact ⟨List.Sublist.refl _, by omega, fun _ => rfl, fun h => by
        by_cases q : spreadZ L (worstZ L) ≤ minJ L
        · exact q
        · exact absurd ⟨h, q⟩ hc⟩
theorem WhoWf.sub {l l' : List S27} (h : WhoWf l) (hs : l'.Sublist l) : WhoWf l' := fun c hc => h c (hs.subset hc)
theorem spread_nn {l : List S27} (hF : Fld l) {i : Nat} (hi : i < l.length) : 0 ≤ spreadZ l i := by
  unfold spreadZ
  split
  · exact Int.le_refl _
  · have : 0 ≤ (dists l i).sum := (sum_le MT (by unfold MT; omega) _ (fun d hd => by have := dists_tm hF hi d hd; unfold Tm at this; exact this)).1
    exact Int.ediv_nonneg this (by omega)
/-- None is further out than the worst one. -/
theorem spread_worst {l : List S27} {i : Nat} (hi : i < l.length) : spreadZ l i ≤ spreadZ l (worstZ l) := by
  have := worst_max l _ (Nat.le_refl _) i hi
  unfold Worse at this
  have h2 : ¬ spreadZ l (worstTo l l.length) < spreadZ l i := fun h => this (.inl h)
  exact Int.not_lt.1 h2
theorem pruneZ_f {l : List S27} {h : S24} (hw : WhoWf l) : cluster_Prune.f l h.f0 h.f1 h.f2 = some (pruneZ l h) := by
  unfold cluster_Prune.f; rw [if_pos hw]
end Go.Proofs.Ytapagoaoglmegaa
