/- Who is left among candidates: what ClusterLeaves asks. Plain. -/
import Derived.Test.YtapagoaoglmegaaClKnown
namespace Go.Proofs.Ytapagoaoglmegaa
open PCl
set_option linter.unusedVariables false
set_option linter.unusedSimpArgs false
def hullL (lo wide : Int) : S24 := ⟨9, lo + 1048576, lo + 1048576 + wide⟩
theorem hullL_ok {lo wide : Int} (h1 : 0 ≤ lo ∧ lo < 4294967296) (h2 : 0 ≤ wide ∧ wide < 4294967296) : SpOk (hullL lo wide) := by
  unfold SpOk hullL Tm MT; simp only; omega
theorem sub_ok {l : List S102} (hw : ∀ n ∈ l, NearOk n) {h : S24} (hh : SpOk h) (h9 : h.f0 = 9) {x : List S27} (hs : x.Sublist (fieldZ l)) : pruneOk x h = true := by
  unfold pruneOk
  rw [(mayB_iff _).2 ((fieldZ_fld hw).sub hs), decide_eq_true hh]
  simp only [Bool.true_and, Bool.or_eq_true]
  by_cases h0 : x.length = 0
  · left; exact decide_eq_true h0
  · right
    have hm := rd_mem (l := x) (k := 0) (by omega)
    rw [show ((0 : Nat) : Int) = 0 from rfl] at hm
    obtain ⟨i, _, _, e⟩ := fieldZ_mem (hs.subset hm)
    rw [e, h9]; rfl
structure Leaves (F : List S27) (h : S24) (x : List S27) : Prop where
  sub : x.Sublist F
  meet : ∀ c ∈ x, keepB h c = true
  low : min (F.countP (keepB h)) 3 ≤ x.length
  up : x.length ≤ F.countP (keepB h)
  few : F.countP (keepB h) ≤ 3 → x.length = F.countP (keepB h)
  calm : 3 < x.length → ∀ k, k < x.length → ∀ d ∈ x, spreadZ x k ≤ d.f2
  res : pruneZ F h = if F.countP (keepB h) = 0 then ([], 33) else (x, 0)
  again : 0 < x.length → pruneZ x h = (x, 0)
theorem leaves_is {l : List S102} (hw : ∀ n ∈ l, NearOk n) {h : S24} (hh : SpOk h) (h9 : h.f0 = 9) : ∃ x, Leaves (fieldZ l) h x := by
  obtain ⟨F, hF⟩ : ∃ F, F = fieldZ l := ⟨_, rfl⟩
  have hsubF : ∀ x : List S27, x.Sublist F → pruneOk x h = true := fun x hx => sub_ok hw hh h9 (by rw [← hF]; exact hx)
  rw [← hF]
  have P : Pruned (F.filter (keepB h)) (leftZ F h) := pruneGo_is _ _ (Nat.le_refl _)
  have hc : F.countP (keepB h) = (F.filter (keepB h)).length := List.countP_eq_length_filter
  have hs : (leftZ F h).Sublist F := P.sub.trans List.filter_sublist
  have hup := P.sub.length_le
  have hlow := P.low
  have hm : ∀ c ∈ leftZ F h, keepB h c = true := fun c hc => (List.mem_filter.1 (P.sub.subset hc)).2
  have hcalm : 3 < (leftZ F h).length → ∀ k, k < (leftZ F h).length → spreadZ (leftZ F h) k ≤ minJ (leftZ F h) := fun h3 k hk => Int.le_trans (spread_worst hk) (P.calm h3)
  refine ⟨leftZ F h, hs, hm, by rw [hc]; exact hlow, by rw [hc]; exact hup, fun h3 => by rw [hc] at h3 ⊢; rw [P.few h3], fun h3 k hk d hd => Int.le_trans (hcalm h3 k hk) (minJ_le _ d hd), ?_, fun h0 => ?_⟩
  · unfold pruneZ
    rw [if_pos (hsubF F (List.Sublist.refl _)), hc]
    by_cases e : (F.filter (keepB h)).length = 0
    · rw [if_pos e, if_pos (by omega)]
    · rw [if_neg e, if_neg (by omega)]
  · have e : leftZ (leftZ F h) h = leftZ F h := by
      show pruneGo ((leftZ F h).filter (keepB h)).length ((leftZ F h).filter (keepB h)) = _
      rw [List.filter_eq_self.2 hm]
      refine pruneGo_stop fun ⟨a, b⟩ => b (P.calm a)
    unfold pruneZ
    rw [if_pos (hsubF _ hs), e, if_neg (by omega)]
/-- The search goes on: one that is not the wanted one is passed. -/
theorem srch_step {c d : S27} {x F : List S27} {at_ : Nat} (h : (c :: x).Sublist (F.drop at_)) (hd : F[at_]? = some d) (hne : d ≠ c) : (c :: x).Sublist (F.drop (at_ + 1)) := by
  rw [List.drop_eq_getElem_cons (List.getElem?_eq_some_iff.1 hd).1, (List.getElem?_eq_some_iff.1 hd).2] at h
  rcases List.sublist_cons_iff.1 h with h | ⟨r, e, h⟩
  · exact h
  · injection e with e1 e2
    exact absurd e1.symm hne
theorem srch_hit {c : S27} {x F : List S27} {at_ : Nat} (h : (c :: x).Sublist (F.drop at_)) : x.Sublist (F.drop at_) := (List.sublist_cons_self c x).trans h
theorem srch_lt {c : S27} {x F : List S27} {at_ : Nat} (h : (c :: x).Sublist (F.drop at_)) : at_ < F.length := by
  have := h.length_le
  rw [List.length_drop] at this
  simp at this; omega
end Go.Proofs.Ytapagoaoglmegaa
