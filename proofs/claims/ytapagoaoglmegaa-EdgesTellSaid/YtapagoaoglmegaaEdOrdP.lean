/- EdgesOrder: the order of spans does not matter, nor when they are of; a wider one makes no narrower hull. Plain. -/
import Derived.Test.YtapagoaoglmegaaEdWithin
namespace Go.Proofs.Ytapagoaoglmegaa
open Go.RowKit Go.Proofs.YtapagoaoglmegaaW.PrintWords Go.Proofs.YtapagoaoglmegaaW.PrintLast Go.Proofs.YtapagoaoglmegaaW.PrintMore PCl
set_option linter.unusedVariables false
set_option linter.unusedSimpArgs false
def e2E (s : S24) : Int × Int := (s.f1, s.f2)
theorem dep_e2 (L : List S24) (p : Int) : depE L p = (L.map e2E).countP (fun e => decide (e.1 ≤ p) && decide (p ≤ e.2)) := by
  unfold depE
  rw [List.countP_map]; rfl
theorem hull_same {L M : List S24} (h : (M.map e2E).Perm (L.map e2E)) (hL : okR L) (hl : L.length ≤ 16) : hullZ M = hullZ L := by
  have hlen : M.length = L.length := by have := h.length_eq; simpa using this
  have hd : ∀ p, depE M p = depE L p := fun p => by rw [dep_e2, dep_e2, h.countP_eq]
  have hmem : ∀ s ∈ M, ∃ t ∈ L, e2E t = e2E s := fun s hs => by
    have := h.mem_iff.1 (List.mem_map.2 ⟨s, hs, rfl⟩)
    obtain ⟨t, ht, e⟩ := List.mem_map.1 this
    exact ⟨t, ht, e⟩
  have hmem' : ∀ s ∈ L, ∃ t ∈ M, e2E t = e2E s := fun s hs => by
    have := h.mem_iff.2 (List.mem_map.2 ⟨s, hs, rfl⟩)
    obtain ⟨t, ht, e⟩ := List.mem_map.1 this
    exact ⟨t, ht, e⟩
  have hM : okR M := fun s hs => by
    obtain ⟨t, ht, e⟩ := hmem s hs
    have := hL t ht
    injection e with e1 e2
    omega
  have oL : okE L = true := okE_of hl hL
  have oM : okE M = true := okE_of (by omega) hM
  rcases hull_cases oL with ⟨h1, h2⟩ | ⟨lo, hi, h1, h2⟩
  · rw [h2]
    exact hullZ_no oM (fun p => by rw [hd, hlen]; exact h1 p)
  · rw [h2]
    refine hullZ_is oM ⟨?_, ?_, by rw [hd, hlen]; exact h1.lo_deep, by rw [hd, hlen]; exact h1.hi_deep, fun p hp => h1.all p (by rwa [hd, hlen] at hp)⟩
    · obtain ⟨s, hs, e⟩ := h1.lo_mem
      obtain ⟨t, ht, e'⟩ := hmem' s hs
      injection e' with a b
      exact ⟨t, ht, by omega⟩
    · obtain ⟨s, hs, e⟩ := h1.hi_mem
      obtain ⟨t, ht, e'⟩ := hmem' s hs
      injection e' with a b
      exact ⟨t, ht, by omega⟩
theorem countP_set_le {α : Type} (p : α → Bool) : ∀ (L : List α) (i : Nat) (s t : α), L[i]? = some s → (p s = true → p t = true) → L.countP p ≤ (L.set i t).countP p
  | a :: l, 0, s, t, h, hp => by
    simp at h; subst h
    rw [List.set_cons_zero, List.countP_cons, List.countP_cons]
    by_cases c : p a = true
    · rw [if_pos c, if_pos (hp c)]; omega
    · rw [if_neg c]; omega
  | a :: l, i + 1, s, t, h, hp => by
    have := countP_set_le p l i s t (by simpa using h) hp
    rw [List.set_cons_succ, List.countP_cons, List.countP_cons]; omega
theorem hull_wide {L : List S24} {k : Nat} {s t : S24} (hk : L[k]? = some s) (h1 : t.f1 ≤ s.f1) (h2 : s.f2 ≤ t.f2) (hL : okR L) (hl : L.length ≤ 16) (ht : 0 ≤ t.f1 ∧ t.f1 ≤ t.f2 ∧ t.f2 ≤ 4611686018427387904)
    {lo hi : Int} (h : hullZ L = (lo, hi, 0)) : ∃ lo' hi', hullZ (L.set k t) = (lo', hi', 0) ∧ lo' ≤ lo ∧ hi ≤ hi' := by
  have oL : okE L = true := okE_of hl hL
  have oM : okE (L.set k t) = true := okE_of (by simpa using hl) (okR_set hL ht)
  have hd : ∀ p, depE L p ≤ depE (L.set k t) p := fun p => by
    unfold depE
    refine countP_set_le _ L k s t hk fun e => ?_
    simp at e ⊢; omega
  rcases hull_cases oL with ⟨_, e⟩ | ⟨a, b, H, e⟩
  · rw [h] at e; injection e with _ e; injection e with _ e; cases e
  · rw [h] at e
    injection e with e1 e; injection e with e2 _
    subst e1 e2
    have d1 := H.lo_deep
    have d2 := H.hi_deep
    have m1 := hd lo
    have m2 := hd hi
    rcases hull_cases oM with ⟨g1, _⟩ | ⟨x, y, g1, g2⟩
    · have := g1 lo; rw [List.length_set] at this; omega
    · refine ⟨x, y, g2, ?_, ?_⟩
      · exact (g1.all lo (by rw [List.length_set]; omega)).1
      · exact (g1.all hi (by rw [List.length_set]; omega)).2
theorem hull_err {L : List S24} (hL : okR L) (hl : L.length ≤ 16) : hullZ L = (0, 0, 33) ∨ ∃ lo hi, hullZ L = (lo, hi, 0) := by
  rcases hull_cases (okE_of hl hL) with ⟨_, e⟩ | ⟨a, b, _, e⟩
  · exact .inl e
  · exact .inr ⟨a, b, e⟩
theorem e2_set {L : List S24} {i : Nat} {s t : S24} (h : L[i]? = some s) (e : e2E t = e2E s) : (L.set i t).map e2E = L.map e2E := by
  rw [List.map_set, e]
  apply List.ext_getElem?
  intro j
  rw [List.getElem?_set]
  by_cases c : i = j
  · subst c
    have hl := (List.getElem?_eq_some_iff.1 h).1
    have he := (List.getElem?_eq_some_iff.1 h).2
    simp [hl, List.getElem?_map, he]
  · rw [if_neg c]
theorem turn_perm (L : List S24) (k : Nat) : (L.drop k ++ L.take k).Perm L := by
  have := List.take_append_drop k L
  exact (List.perm_append_comm).trans (by rw [this])
/-- A span is laid in a place: its At. -/
theorem RowS.set0 {t : TypeId} {w : World} {g cap : Nat} {L : List S24} (h : RowS t w g cap L) {i : Nat} {s : S24} (hi : L[i]? = some s) (x : Int) :
    RowS t (w.setCell ⟨g, i * 3, none⟩ (.int .i64 x)) g cap (L.set i ⟨x, s.f1, s.f2⟩) := by
  obtain ⟨cur, hb, h1, h2, h3⟩ := h
  have hil := (List.getElem?_eq_some_iff.1 hi).1
  refine ⟨_, (hb.set rfl), by simpa using h1, by simpa using h2, fun m d hm j v hj => ?_⟩
  have hlt : i * 3 + 2 < cur.size := by omega
  have hj5 : j < 3 := by have := (List.getElem?_eq_some_iff.1 hj).1; simpa [encS] using this
  rw [List.getElem?_set] at hm
  by_cases e : i = m
  · subst e
    rw [if_pos rfl, if_pos hil] at hm
    obtain rfl := Option.some.inj hm
    simp only [Array.getElem?_setIfInBounds, Array.size_setIfInBounds]
    match j, hj5, hj with
    | 0, _, hj => simp [encS] at hj ⊢; exact ⟨by omega, hj⟩
    | 1, _, hj =>
      have := h3 i s hi 1 _ rfl
      simp [encS] at hj ⊢
      rw [← hj]; simpa using this
    | 2, _, hj =>
      have := h3 i s hi 2 _ rfl
      simp [encS] at hj ⊢
      rw [← hj]; simpa using this
  · rw [if_neg e] at hm
    have := h3 m d hm j v hj
    have n0 : i * 3 ≠ m * 3 + j := by omega
    simp only [Array.getElem?_setIfInBounds]
    rw [if_neg n0]
    exact this
end Go.Proofs.Ytapagoaoglmegaa
