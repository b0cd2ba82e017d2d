/- Where an item stands in a heap's row, by its id: as a look-up. -/
import Derived.Test.YtkcfhdnlmdndeaaHeapPlain
namespace Go.Proofs.Ytkcfhdnlmdndeaa
open Go.RowKit Go.Proofs.YtkcfhdnlmdndeaaW.PrintWords Go.Proofs.YtkcfhdnlmdndeaaW.PrintLast Go.Proofs.YtkcfhdnlmdndeaaW.PrintMore PHp
set_option linter.unusedVariables false

def ids (L : List It) : List Int := L.map (·.f0)
/-- Each id once. -/
def Uniq (L : List It) : Prop := ∀ i j, i < L.length → j < L.length → (nth L i).f0 = (nth L j).f0 → i = j
def place (L : List It) (k : Int) : Option Nat := L.findIdx? (fun x => x.f0 == k)
theorem place_some {L : List It} {k : Int} {i : Nat} (h : place L k = some i) : i < L.length ∧ (nth L i).f0 = k ∧ ∀ j, j < i → (nth L j).f0 ≠ k := by
  unfold place at h
  rw [List.findIdx?_eq_some_iff_getElem] at h
  obtain ⟨hi, h1, h2⟩ := h
  have e : ∀ j (hj : j < L.length), nth L j = L[j] := fun j hj => by unfold nth; rw [List.getElem?_eq_getElem hj]; rfl
  refine ⟨hi, by rw [e i hi]; simpa using h1, fun j hj => ?_⟩
  rw [e j (by omega)]
  simpa using h2 j hj
theorem place_none {L : List It} {k : Int} (h : place L k = none) : ∀ j, j < L.length → (nth L j).f0 ≠ k := by
  unfold place at h
  rw [List.findIdx?_eq_none_iff] at h
  intro j hj
  have := h _ (nth_mem hj)
  simpa using this
theorem place_is {L : List It} (hu : Uniq L) {i : Nat} (hi : i < L.length) : place L (nth L i).f0 = some i := by
  cases h : place L (nth L i).f0 with
  | none => exact absurd rfl (place_none h i hi)
  | some j =>
    obtain ⟨h1, h2, _⟩ := place_some h
    rw [hu j i h1 hi h2]
theorem place_not {L : List It} {k : Int} (h : ∀ j, j < L.length → (nth L j).f0 ≠ k) : place L k = none := by
  cases e : place L k with
  | none => rfl
  | some j =>
    obtain ⟨h1, h2, _⟩ := place_some e
    exact absurd h2 (h j h1)
theorem place_iff {L : List It} (hu : Uniq L) {k : Int} {i : Nat} : place L k = some i ↔ i < L.length ∧ (nth L i).f0 = k := by
  constructor
  · intro h; obtain ⟨h1, h2, _⟩ := place_some h; exact ⟨h1, h2⟩
  · rintro ⟨h1, rfl⟩; exact place_is hu h1
/-- A look-up is the place in a row, if it says so of each place. -/
theorem place_ext {L : List It} (hu : Uniq L) (g : Int → Option Nat) (h1 : ∀ k i, g k = some i → i < L.length ∧ (nth L i).f0 = k) (h2 : ∀ i, i < L.length → g (nth L i).f0 = some i) : g = place L := by
  funext k
  cases h : g k with
  | some i => obtain ⟨hi, e⟩ := h1 k i h; rw [← e, place_is hu hi]
  | none =>
    symm
    apply place_not
    intro j hj e
    have := h2 j hj
    rw [e, h] at this
    cases this
def put (g : Int → Option Nat) (k : Int) (i : Nat) : Int → Option Nat := fun j => if j = k then some i else g j
def del (g : Int → Option Nat) (k : Int) : Int → Option Nat := fun j => if j = k then none else g j
theorem uniq_swp {L : List It} (hu : Uniq L) {a b : Nat} (ha : a < L.length) (hb : b < L.length) : Uniq (swp L a b) := by
  intro i j hi hj e
  rw [swp_length] at hi hj
  have key : ∀ i, i < L.length → ∃ s, s < L.length ∧ nth (swp L a b) i = nth L s ∧ s = (if i = b then a else if i = a then b else i) := by
    intro i hi
    refine ⟨_, ?_, ?_, rfl⟩
    · split
      · exact ha
      · split
        · exact hb
        · exact hi
    · rw [nth_swp ha hb]
      split
      · rfl
      · split <;> rfl
  obtain ⟨s, hs, e1, e2⟩ := key i hi
  obtain ⟨t, ht, e3, e4⟩ := key j hj
  rw [e1, e3] at e
  have := hu s t hs ht e
  split at e2 <;> split at e4 <;> (try split at e2) <;> (try split at e4) <;> omega
theorem place_swp {L : List It} (hu : Uniq L) {a b : Nat} (ha : a < L.length) (hb : b < L.length) :
    put (put (place L) (nth L b).f0 a) (nth L a).f0 b = place (swp L a b) := by
  apply place_ext (uniq_swp hu ha hb)
  · intro k i h
    rw [swp_length, nth_swp ha hb]
    unfold put at h
    split at h
    · rename_i e; obtain rfl := Option.some.inj h
      exact ⟨hb, by rw [if_pos rfl, e]⟩
    · rename_i e0
      split at h
      · rename_i e; obtain rfl := Option.some.inj h
        refine ⟨ha, ?_⟩
        split
        · rename_i e2; subst e2; exact absurd e e0
        · rw [if_pos rfl, e]
      · rename_i e
        obtain ⟨h1, h2, _⟩ := place_some h
        refine ⟨h1, ?_⟩
        split
        · rename_i e2; subst e2; exact absurd h2.symm e
        · split
          · rename_i e3; subst e3; exact absurd h2.symm e0
          · exact h2
  · intro i hi
    rw [swp_length] at hi
    rw [nth_swp ha hb]
    unfold put
    by_cases e1 : i = b
    · rw [if_pos e1, if_pos rfl, e1]
    · rw [if_neg e1]
      by_cases e2 : i = a
      · rw [if_pos e2]
        rw [if_neg (fun e => e1 (by rw [e2]; exact (hu _ _ hb ha e).symm)), if_pos rfl, e2]
      · rw [if_neg e2, if_neg (fun e => e2 (hu _ _ hi ha e)), if_neg (fun e => e1 (hu _ _ hi hb e)), place_is hu hi]
theorem nth_push (L : List It) (x : It) (i : Nat) : nth (L ++ [x]) i = if i = L.length then x else nth L i := by
  unfold nth
  split
  · rename_i e; subst e; simp
  · rename_i e
    by_cases h : i < L.length
    · rw [List.getElem?_append_left h]
    · rw [List.getElem?_eq_none (by simp; omega), List.getElem?_eq_none (by omega)]
theorem uniq_push {L : List It} (hu : Uniq L) {x : It} (h : place L x.f0 = none) : Uniq (L ++ [x]) := by
  intro i j hi hj e
  rw [nth_push, nth_push] at e
  simp at hi hj
  have hn := place_none h
  by_cases i1 : i = L.length <;> by_cases j1 : j = L.length <;> simp [i1, j1] at e ⊢
  · exact absurd e.symm (hn j (by omega))
  · exact absurd e (hn i (by omega))
  · exact hu i j (by omega) (by omega) e
theorem place_push {L : List It} (hu : Uniq L) {x : It} (h : place L x.f0 = none) : put (place L) x.f0 L.length = place (L ++ [x]) := by
  have hn := place_none h
  apply place_ext (uniq_push hu h)
  · intro k i hk
    rw [nth_push]
    unfold put at hk
    split at hk
    · rename_i e; obtain rfl := Option.some.inj hk; simp [e]
    · obtain ⟨h1, h2, _⟩ := place_some hk
      rw [if_neg (by omega)]
      exact ⟨by simp; omega, h2⟩
  · intro i hi
    simp at hi
    rw [nth_push]
    unfold put
    by_cases e : i = L.length
    · simp [e]
    · rw [if_neg e, if_neg (hn i (by omega)), place_is hu (by omega)]
theorem uniq_set {L : List It} (hu : Uniq L) {k : Nat} (hk : k < L.length) {x : It} (h : (nth L k).f0 = x.f0) : Uniq (L.set k x) := by
  intro i j hi hj e
  simp at hi hj
  rw [nth_set _ _ _ _ hk, nth_set _ _ _ _ hk] at e
  by_cases i1 : i = k <;> by_cases j1 : j = k <;> simp [i1, j1] at e ⊢
  · exact absurd (hu _ _ hk hj (by rw [h]; exact e)).symm j1
  · exact i1 (hu _ _ hk hi (by rw [h]; exact e.symm)).symm
  · exact hu i j hi hj e
theorem place_set {L : List It} (hu : Uniq L) {k : Nat} (hk : k < L.length) {x : It} (h : (nth L k).f0 = x.f0) : put (place L) x.f0 k = place (L.set k x) := by
  apply place_ext (uniq_set hu hk h)
  · intro j i hj
    unfold put at hj
    rw [nth_set _ _ _ _ hk]
    split at hj
    · rename_i e; obtain rfl := Option.some.inj hj; simp [hk, e]
    · rename_i e1
      obtain ⟨h1, h2, _⟩ := place_some hj
      refine ⟨by simpa using h1, ?_⟩
      split
      · rename_i e; subst e; rw [h] at h2; exact absurd h2.symm e1
      · exact h2
  · intro i hi
    simp at hi
    rw [nth_set _ _ _ _ hk]
    unfold put
    by_cases e : i = k
    · simp [e]
    · rw [if_neg e, if_neg (fun e2 => e (hu _ _ hi hk (by rw [h]; exact e2))), place_is hu hi]
/-- The one at a place taken out, the last one in its place. -/
def cutOut (L : List It) (k : Nat) : List It := if k < L.length - 1 then (L.take (L.length - 1)).set k (nth L (L.length - 1)) else L.take (L.length - 1)
theorem nth_take (L : List It) (n i : Nat) (h : i < n) : nth (L.take n) i = nth L i := by unfold nth; rw [List.getElem?_take_of_lt h]
theorem cutOut_length {L : List It} {k : Nat} : (cutOut L k).length = L.length - 1 := by unfold cutOut; split <;> simp
theorem nth_cutOut {L : List It} {k i : Nat} (hk : k < L.length) (hi : i < L.length - 1) : nth (cutOut L k) i = if i = k then nth L (L.length - 1) else nth L i := by
  unfold cutOut
  split
  · rename_i h
    rw [nth_set _ _ _ _ (by simp; omega)]
    split
    · rfl
    · exact nth_take _ _ _ hi
  · rw [if_neg (by omega)]; exact nth_take _ _ _ hi
theorem uniq_cutOut {L : List It} (hu : Uniq L) {k : Nat} (hk : k < L.length) : Uniq (cutOut L k) := by
  intro i j hi hj e
  rw [cutOut_length] at hi hj
  rw [nth_cutOut hk hi, nth_cutOut hk hj] at e
  by_cases i1 : i = k <;> by_cases j1 : j = k <;> simp [i1, j1] at e ⊢
  · have := hu _ _ (by omega) (by omega) e; omega
  · have := hu _ _ (by omega) (by omega) e; omega
  · exact hu i j (by omega) (by omega) e
theorem place_cutOut {L : List It} (hu : Uniq L) {k : Nat} (hk : k < L.length) :
    (if k < L.length - 1 then put (del (place L) (nth L k).f0) (nth L (L.length - 1)).f0 k else del (place L) (nth L k).f0) = place (cutOut L k) := by
  apply place_ext (uniq_cutOut hu hk)
  · intro j i hj
    rw [cutOut_length]
    have key : ∀ {j i}, del (place L) (nth L k).f0 j = some i → i < L.length ∧ (nth L i).f0 = j ∧ i ≠ k := by
      intro j i h
      unfold del at h
      split at h
      · cases h
      · rename_i e
        obtain ⟨h1, h2, _⟩ := place_some h
        exact ⟨h1, h2, fun e2 => e (by rw [← h2, e2])⟩
    split at hj
    · rename_i hl
      unfold put at hj
      split at hj
      · rename_i e; obtain rfl := Option.some.inj hj
        refine ⟨hl, ?_⟩
        rw [nth_cutOut hk hl, if_pos rfl, e]
      · rename_i e
        obtain ⟨h1, h2, h3⟩ := key hj
        have : i ≠ L.length - 1 := fun e2 => e (by rw [← h2, e2])
        refine ⟨by omega, ?_⟩
        rw [nth_cutOut hk (by omega), if_neg h3, h2]
    · rename_i hl
      obtain ⟨h1, h2, h3⟩ := key hj
      refine ⟨by omega, ?_⟩
      rw [nth_cutOut hk (by omega), if_neg h3, h2]
  · intro i hi
    rw [cutOut_length] at hi
    rw [nth_cutOut hk hi]
    by_cases e : i = k
    · subst e
      rw [if_pos rfl, if_pos hi]
      unfold put; rw [if_pos rfl]
    · rw [if_neg e]
      have h1 : del (place L) (nth L k).f0 (nth L i).f0 = some i := by
        unfold del; rw [if_neg (fun e2 => e (hu _ _ (by omega) hk e2)), place_is hu (by omega)]
      split
      · unfold put
        rw [if_neg (fun e2 => by have := hu _ _ (by omega) (by omega) e2; omega)]; exact h1
      · exact h1
end Go.Proofs.Ytkcfhdnlmdndeaa
