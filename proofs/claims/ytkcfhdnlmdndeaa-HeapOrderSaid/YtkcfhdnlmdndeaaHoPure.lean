/- What should be in a heap, id by id: plain. -/
import Derived.Test.YtkcfhdnlmdndeaaHpShift
namespace Go.Proofs.Ytkcfhdnlmdndeaa
open Go.RowKit Go.Proofs.YtkcfhdnlmdndeaaW.PrintWords Go.Proofs.YtkcfhdnlmdndeaaW.PrintLast Go.Proofs.YtkcfhdnlmdndeaaW.PrintMore PHp
set_option linter.unusedVariables false
set_option linter.unusedSimpArgs false
/-- What stands at an id. -/
def itF (L : List It) (k : Int) : Option Value := (place L k).map (fun i => vI (nth L i))
theorem itF_mem {L : List It} (hu : Uniq L) {x : It} (hx : x ∈ L) : itF L x.f0 = some (vI x) := by
  obtain ⟨i, hi⟩ := List.mem_iff_getElem?.1 hx
  have hl := (List.getElem?_eq_some_iff.1 hi).1
  have e := nth_of hi
  unfold itF
  rw [← e, place_is hu hl]; rfl
theorem itF_not {L : List It} {k : Int} (h : ∀ x ∈ L, x.f0 ≠ k) : itF L k = none := by
  unfold itF
  rw [place_not (fun j hj => h _ (nth_mem hj))]; rfl
theorem itF_cases (L : List It) (k : Int) : (itF L k = none ∧ ∀ x ∈ L, x.f0 ≠ k) ∨ ∃ x ∈ L, x.f0 = k ∧ itF L k = some (vI x) := by
  unfold itF
  cases h : place L k with
  | none =>
    refine .inl ⟨rfl, fun x hx => ?_⟩
    obtain ⟨i, hi⟩ := List.mem_iff_getElem?.1 hx
    have := place_none h i (List.getElem?_eq_some_iff.1 hi).1
    rwa [nth_of hi] at this
  | some i => obtain ⟨h1, h2, _⟩ := place_some h; exact .inr ⟨_, nth_mem h1, h2, rfl⟩
theorem itF_some (L : List It) (k : Int) : (itF L k).isSome = (place L k).isSome := by unfold itF; cases place L k <;> rfl
theorem itF_perm {A B : List It} (p : A.Perm B) (hu : Uniq B) : itF A = itF B := by
  funext k
  rcases itF_cases A k with ⟨h1, h2⟩ | ⟨x, hx, rfl, h2⟩
  · rw [h1, itF_not (fun x hx => h2 x (p.mem_iff.2 hx))]
  · rw [h2, itF_mem hu (p.mem_iff.1 hx)]
theorem itF_put {x : It} {M : List It} (hu : Uniq (x :: M)) : itF (x :: M) = putF (itF M) x.f0 (vI x) := by
  have hM : Uniq M := by
    rw [uniq_iff] at hu ⊢; simp only [List.map_cons, List.nodup_cons] at hu; exact hu.2
  funext k
  unfold putF
  by_cases e : k = x.f0
  · subst e; rw [if_pos rfl, itF_mem hu (List.mem_cons_self ..)]
  · rw [if_neg e]
    rcases itF_cases M k with ⟨h1, h2⟩ | ⟨y, hy, rfl, h2⟩
    · rw [h1, itF_not]
      intro y hy
      rcases List.mem_cons.1 hy with rfl | hy
      · exact fun h => e h.symm
      · exact h2 y hy
    · rw [h2, itF_mem hu (List.mem_cons_of_mem _ hy)]
theorem itF_del {x : It} {M L : List It} (p : (x :: M).Perm L) (hu : Uniq L) : delF (itF L) x.f0 = itF M := by
  have hx : Uniq (x :: M) := uniq_perm hu p
  rw [← itF_perm p hu, itF_put hx]
  funext k
  unfold delF putF
  by_cases e : k = x.f0
  · subst e; rw [if_pos rfl]
    rw [itF_not]
    intro y hy h
    rw [uniq_iff] at hx; simp only [List.map_cons, List.nodup_cons, List.mem_map] at hx
    exact hx.1 ⟨y, hy, h⟩
  · rw [if_neg e, if_neg e]
theorem pushE_iff (L : List It) (size : Int) (x : It) : pushE L size x = 0 ↔ place L x.f0 = none ∧ (L.length : Int) < size := by
  unfold pushE
  cases h : place L x.f0 with
  | some i => simp
  | none =>
    simp only [Option.isSome_none]
    by_cases c : size ≤ (L.length : Int)
    · simp [c]
    · simp [c]; omega
theorem itF_push {L : List It} {size : Int} {x : It} (hu : Uniq L) (h : pushE L size x = 0) : itF (pushL L size x) = putF (itF L) x.f0 (vI x) ∧ (pushL L size x).length = L.length + 1 := by
  have p := push_perm h
  have h1 : Uniq (x :: L) := uniq_perm (uniq_pushL hu) p.symm
  exact ⟨by rw [itF_perm p h1, itF_put h1], by simpa using p.length_eq⟩
theorem itF_rem {L : List It} {id : Int} {k : Nat} (hu : Uniq L) (h : place L id = some k) : itF (remL L id) = delF (itF L) id ∧ (remL L id).length = L.length - 1 := by
  have p := rem_perm h
  have e := (place_some h).2.1
  have := itF_del p hu
  rw [e] at this
  exact ⟨this.symm, by have := p.length_eq; simp at this; omega⟩
theorem itF_set {L : List It} {x : It} {k : Nat} (hu : Uniq L) (h : place L x.f0 = some k) : itF (setL L x) = putF (itF L) x.f0 (vI x) ∧ (setL L x).length = L.length := by
  obtain ⟨hk, he, _⟩ := place_some h
  have e1 : setL L x = settle (L.set k x) k := by unfold setL; rw [h]
  have p1 : (setL L x).Perm (L.set k x) := by rw [e1]; exact settle_perm (by simpa using hk)
  have p2 := rem_perm h
  have p3 : (L.set k x).Perm (x :: remL L x.f0) := by
    refine List.Perm.cons_inv (a := nth L k) ((set_perm hk x).trans ?_)
    exact (p2.symm.cons x).trans (List.Perm.swap _ _ _)
  have hu2 : Uniq (L.set k x) := uniq_set hu hk he
  have hu3 : Uniq (x :: remL L x.f0) := uniq_perm hu2 p3.symm
  refine ⟨?_, by have := p1.length_eq; simpa using this⟩
  rw [itF_perm (p1.trans p3) hu3, itF_put hu3, (itF_rem hu h).1]
  funext j
  unfold putF delF
  by_cases e : j = x.f0 <;> simp [e]
theorem itF_pop {L : List It} (hu : Uniq L) (h0 : L.length ≠ 0) : itF (popL L) = delF (itF L) (popX L).f0 ∧ (popL L).length = L.length - 1 := by
  have p := pop_perm hu h0
  exact ⟨(itF_del p hu).symm, by have := p.length_eq; simp at this; omega⟩
theorem itF_nil (k : Int) : itF [] k = none := rfl
/-- The row is in order. -/
theorem ok_ahead {L : List It} (ho : Ok L) {k : Nat} (h0 : 0 < k) (hk : k < L.length) : ahead (nth L k) (nth L ((k - 1) / 4)) = false := ahead_no.2 (ho k h0 hk)
theorem pop_ahead {L : List It} (hu : Uniq L) (ho : Ok L) {k : Int} {v : Value} (h : itF (popL L) k = some v) : ∃ y, v = vI y ∧ y.f0 = k ∧ ahead (popX L) y = true ∧ L.length ≠ 0 := by
  rcases itF_cases (popL L) k with ⟨h1, _⟩ | ⟨y, hy, rfl, h2⟩
  · rw [h1] at h; cases h
  · rw [h2] at h
    have h0 : L.length ≠ 0 := fun h0 => by
      have := List.eq_nil_of_length_eq_zero h0; subst this; cases hy
    exact ⟨y, (Option.some.inj h).symm, rfl, ahead_iff.2 (pop_min hu ho h0 y hy), h0⟩
/-- What has come so far of a heap's items. -/
def Got (L W : List It) (left : Int → Bool) : Prop := Uniq W ∧ (∀ y ∈ W, y ∈ L) ∧ ∀ y ∈ L, left y.f0 = false → y ∈ W
theorem got_nil (L : List It) : Got L [] (fun k => (itF L k).isSome) :=
  ⟨fun i j hi => absurd hi (Nat.not_lt_zero _), fun y hy => absurd hy List.not_mem_nil, fun y hy h => by
    have h : (itF L y.f0).isSome = false := h
    rw [itF_some] at h
    obtain ⟨i, hi⟩ := List.mem_iff_getElem?.1 hy
    cases hp : place L y.f0 with
    | some j => rw [hp] at h; cases h
    | none => exact absurd (by rw [nth_of hi]) (place_none hp i (List.getElem?_eq_some_iff.1 hi).1)⟩
theorem got_snoc {L W : List It} {left : Int → Bool} {y : It} (h : Got L W left) (hw : ∀ z ∈ W, left z.f0 = false) (hy : y ∈ L) (hl : left y.f0 = true) (hu : Uniq L) :
    Got L (W ++ [y]) (fun z => left z && !(z == y.f0)) ∧ ∀ z ∈ W ++ [y], (left z.f0 && !(z.f0 == y.f0)) = false := by
  obtain ⟨h1, h2, h3⟩ := h
  refine ⟨⟨?_, ?_, ?_⟩, ?_⟩
  · refine uniq_push h1 (place_not (fun j hj e => ?_))
    have := hw _ (nth_mem hj)
    rw [e, hl] at this; cases this
  · intro z hz
    rcases List.mem_append.1 hz with hz | hz
    · exact h2 z hz
    · rw [List.mem_singleton.1 hz]; exact hy
  · intro z hz he
    by_cases e : z.f0 = y.f0
    · obtain ⟨i, hi⟩ := List.mem_iff_getElem?.1 hz
      obtain ⟨j, hj⟩ := List.mem_iff_getElem?.1 hy
      have hij := hu i j (List.getElem?_eq_some_iff.1 hi).1 (List.getElem?_eq_some_iff.1 hj).1 (by rw [nth_of hi, nth_of hj]; exact e)
      subst hij
      rw [hi] at hj
      have := Option.some.inj hj; subst this
      simp
    · have : (z.f0 == y.f0) = false := by simp [e]
      have he' : (left z.f0 && !(z.f0 == y.f0)) = false := he
      rw [this] at he'
      simp at he'
      exact List.mem_append_left _ (h3 z hz he')
  · intro z hz
    rcases List.mem_append.1 hz with hz | hz
    · rw [hw z hz]; rfl
    · rw [List.mem_singleton.1 hz]; simp
theorem got_all {L W : List It} {left : Int → Bool} (h : Got L W left) (hl : ∀ y ∈ L, left y.f0 = false) (hu : Uniq L) : W.Perm L := by
  obtain ⟨h1, h2, h3⟩ := h
  have n1 : W.Nodup := by have := (uniq_iff W).1 h1; exact (List.pairwise_map.1 this).imp (fun h e => h (by rw [e]))
  have n2 : L.Nodup := by have := (uniq_iff L).1 hu; exact (List.pairwise_map.1 this).imp (fun h e => h (by rw [e]))
  exact (List.perm_ext_iff_of_nodup n1 n2).2 fun y => ⟨h2 y, fun hy => h3 y hy (hl y hy)⟩
end Go.Proofs.Ytkcfhdnlmdndeaa
