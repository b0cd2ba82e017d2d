/- Ends in order, gone through one by one: where the count is first above half of n, and where it is so last. Plain. -/
namespace Go.Proofs.Ytapagoaoglmegaa
/-- An end (its rank; does a span begin there): what it adds. -/
def sgE (e : Nat × Bool) : Int := if e.2 = true then 1 else -1
/-- What the first i ends add. -/
def preE (E : List (Nat × Bool)) (i : Nat) : Int := ((E.take i).map sgE).sum
def leE (a b : Nat × Bool) : Bool := decide (a.1 < b.1) || (decide (a.1 = b.1) && (a.2 || !b.2))
/-- Ends up to all that begin at rank k. -/
def dnE (k : Nat) (e : Nat × Bool) : Bool := decide (e.1 < k) || (decide (e.1 = k) && e.2)
/-- How many spans have the place of rank k. -/
def DE (E : List (Nat × Bool)) (k : Nat) : Int := (E.countP (fun e => e.2 && decide (e.1 ≤ k)) : Int) - (E.countP (fun e => !e.2 && decide (e.1 < k)) : Int)
def SortedE (E : List (Nat × Bool)) : Prop := ∀ (i j : Nat) (a b : Nat × Bool), i < j → E[i]? = some a → E[j]? = some b → leE a b = true
theorem leE_iff (a b : Nat × Bool) : leE a b = true ↔ a.1 < b.1 ∨ a.1 = b.1 ∧ (a.2 = true ∨ b.2 = false) := by
  unfold leE; simp
theorem dnE_iff (k : Nat) (e : Nat × Bool) : dnE k e = true ↔ e.1 < k ∨ e.1 = k ∧ e.2 = true := by
  unfold dnE; simp
theorem SortedE.of {E : List (Nat × Bool)} (h : E.Pairwise (fun a b => leE a b = true)) : SortedE E := fun i j a b hij ha hb => by
  obtain ⟨h1, rfl⟩ := List.getElem?_eq_some_iff.1 ha
  obtain ⟨h2, rfl⟩ := List.getElem?_eq_some_iff.1 hb
  exact List.pairwise_iff_getElem.1 h i j h1 h2 hij
theorem preE_zero (E : List (Nat × Bool)) : preE E 0 = 0 := by simp [preE]
theorem sum_snoc : ∀ (l : List Int) (x : Int), (l ++ [x]).sum = l.sum + x
  | [], x => by simp
  | a :: l, x => by simp only [List.cons_append, List.sum_cons, sum_snoc l x]; omega
theorem preE_succ {E : List (Nat × Bool)} {i : Nat} {e : Nat × Bool} (h : E[i]? = some e) : preE E (i + 1) = preE E i + sgE e := by
  unfold preE
  rw [List.take_add_one, h]
  simp only [Option.toList_some, List.map_append, List.map_cons, List.map_nil]
  exact sum_snoc _ _
theorem filt_sum (k : Nat) : ∀ E : List (Nat × Bool), ((E.filter (dnE k)).map sgE).sum = DE E k
  | [] => rfl
  | a :: t => by
    have ih := filt_sum k t
    unfold DE at ih ⊢
    obtain ⟨r, b⟩ := a
    cases b
    · by_cases h : r < k
      · have e1 : dnE k (r, false) = true := (dnE_iff _ _).2 (.inl h)
        rw [List.filter_cons_of_pos e1, List.map_cons, List.sum_cons, ih, List.countP_cons, List.countP_cons]
        simp [sgE, h]; omega
      · have e1 : ¬ dnE k (r, false) = true := fun e => by rcases (dnE_iff _ _).1 e with e | e; exact h e; cases e.2
        rw [List.filter_cons_of_neg e1, ih, List.countP_cons, List.countP_cons]
        simp [h]
    · by_cases h : r ≤ k
      · have e1 : dnE k (r, true) = true := (dnE_iff _ _).2 (by simp; omega)
        rw [List.filter_cons_of_pos e1, List.map_cons, List.sum_cons, ih, List.countP_cons, List.countP_cons]
        simp [sgE, h]; omega
      · have e1 : ¬ dnE k (r, true) = true := fun e => by rcases (dnE_iff _ _).1 e with e | e; · simp at e; omega
                                                          · simp at e; omega
        rw [List.filter_cons_of_neg e1, ih, List.countP_cons, List.countP_cons]
        simp [h]
theorem dn_of_le {k : Nat} {a b : Nat × Bool} (h : leE a b = true) (hb : dnE k b = true) : dnE k a = true := by
  rw [dnE_iff] at *
  rw [leE_iff] at h
  rcases h with h | ⟨h1, h2 | h2⟩ <;> rcases hb with hb | ⟨hb1, hb2⟩
  · left; omega
  · left; omega
  · left; omega
  · right; exact ⟨by omega, h2⟩
  · left; omega
  · rw [h2] at hb2; cases hb2
theorem split_dn (k : Nat) : ∀ E : List (Nat × Bool), SortedE E → ∃ m, m ≤ E.length ∧ E.take m = E.filter (dnE k) ∧ ∀ j e, E[j]? = some e → (j < m ↔ dnE k e = true)
  | [], _ => ⟨0, Nat.le_refl _, rfl, fun j e h => by simp at h⟩
  | a :: t, hs => by
    have ht : SortedE t := fun i j x y hij hx hy => hs (i + 1) (j + 1) x y (by omega) hx hy
    by_cases ha : dnE k a = true
    · obtain ⟨m, hm, h1, h2⟩ := split_dn k t ht
      refine ⟨m + 1, by simp; omega, by rw [List.take_succ_cons, List.filter_cons_of_pos ha, h1], fun j e hj => ?_⟩
      cases j with
      | zero => simp at hj; subst hj; exact ⟨fun _ => ha, fun _ => by omega⟩
      | succ j => have := h2 j e (by simpa using hj); rw [← this]; omega
    · have hno : ∀ (j : Nat) (e : Nat × Bool), (a :: t)[j]? = some e → ¬ dnE k e = true := fun j e hj hd => by
        cases j with
        | zero => simp at hj; subst hj; exact ha hd
        | succ j => exact ha (dn_of_le (hs 0 (j + 1) a e (by omega) rfl hj) hd)
      refine ⟨0, Nat.zero_le _, ?_, fun j e hj => ⟨fun h => by omega, fun h => absurd h (hno j e hj)⟩⟩
      rw [List.take_zero]
      symm
      rw [List.filter_eq_nil_iff]
      intro e he
      obtain ⟨j, hj⟩ := List.getElem?_of_mem he
      exact hno j e hj
theorem split_pre {E : List (Nat × Bool)} (hs : SortedE E) (k : Nat) : ∃ m, m ≤ E.length ∧ preE E m = DE E k ∧ ∀ j e, E[j]? = some e → (j < m ↔ dnE k e = true) := by
  obtain ⟨m, h1, h2, h3⟩ := split_dn k E hs
  exact ⟨m, h1, by unfold preE; rw [h2]; exact filt_sum k E, h3⟩
theorem pre_up {E : List (Nat × Bool)} {a : Nat} : ∀ d, a + d ≤ E.length → (∀ j e, a ≤ j → j < a + d → E[j]? = some e → e.2 = true) → preE E a ≤ preE E (a + d)
  | 0, _, _ => Int.le_refl _
  | d + 1, hl, h => by
    have h1 := pre_up d (by omega) (fun j e h1 h2 => h j e h1 (by omega))
    have h2 : E[a + d]? = some E[a + d] := List.getElem?_eq_getElem (by omega)
    have h3 := preE_succ h2
    have h4 := h _ _ (by omega) (by omega) h2
    simp only [sgE, if_pos h4] at h3
    show preE E a ≤ preE E (a + d + 1)
    omega
theorem pre_down {E : List (Nat × Bool)} {a : Nat} : ∀ d, a + d ≤ E.length → (∀ j e, a ≤ j → j < a + d → E[j]? = some e → e.2 = false) → preE E (a + d) ≤ preE E a
  | 0, _, _ => Int.le_refl _
  | d + 1, hl, h => by
    have h1 := pre_down d (by omega) (fun j e h1 h2 => h j e h1 (by omega))
    have h2 : E[a + d]? = some E[a + d] := List.getElem?_eq_getElem (by omega)
    have h3 := preE_succ h2
    have h4 := h _ _ (by omega) (by omega) h2
    simp only [sgE, h4] at h3
    show preE E (a + d + 1) ≤ preE E a
    simp at h3
    omega
theorem pre_at_lo {E : List (Nat × Bool)} (hs : SortedE E) {i k : Nat} (h : E[i]? = some (k, true)) : preE E (i + 1) ≤ DE E k := by
  obtain ⟨m, hm, hp, hd⟩ := split_pre hs k
  have him : i < m := (hd i _ h).2 ((dnE_iff _ _).2 (.inr ⟨rfl, rfl⟩))
  rw [← hp]
  obtain ⟨d, rfl⟩ : ∃ d, m = i + 1 + d := ⟨m - (i + 1), by omega⟩
  refine pre_up d hm fun j e h1 h2 he => ?_
  have a1 := (dnE_iff _ _).1 ((hd j e he).1 h2)
  have a2 := (leE_iff _ _).1 (hs i j _ _ (by omega) h he)
  simp at a2
  rcases a1 with a1 | a1
  · omega
  · exact a1.2
theorem pre_at_hi {E : List (Nat × Bool)} (hs : SortedE E) {i k : Nat} (h : E[i]? = some (k, false)) : preE E i ≤ DE E k := by
  obtain ⟨m, hm, hp, hd⟩ := split_pre hs k
  have him : ¬ i < m := fun e => by have := (dnE_iff _ _).1 ((hd i _ h).1 e); simp at this
  have hil := (List.getElem?_eq_some_iff.1 h).1
  rw [← hp]
  obtain ⟨d, rfl⟩ : ∃ d, i = m + d := ⟨i - m, by omega⟩
  refine pre_down d (by omega) fun j e h1 h2 he => ?_
  have a1 : ¬ dnE k e = true := fun q => by have := (hd j e he).2 q; omega
  have a2 := (leE_iff _ _).1 (hs j (m + d) _ _ h2 he h)
  rw [dnE_iff] at a1
  simp at a2 a1
  cases hb : e.2 with
  | false => rfl
  | true => exfalso; have := a1.2; rw [hb] at this; simp at this; omega
/-- One end more: what has been added; the first rank above half (or -1); the last (or -1). -/
def stE (n : Int) (st : Int × Int × Int) (e : Nat × Bool) : Int × Int × Int :=
  if n < 2 * (st.1 + sgE e) ∧ st.2.1 < 0 then (st.1 + sgE e, (e.1 : Int), st.2.2)
  else if n < 2 * st.1 ∧ ¬ n < 2 * (st.1 + sgE e) then (st.1 + sgE e, st.2.1, (e.1 : Int)) else (st.1 + sgE e, st.2.1, st.2.2)
def swE (n : Int) (E : List (Nat × Bool)) (i : Nat) : Int × Int × Int := (E.take i).foldl (stE n) (0, -1, -1)
theorem swE_zero (n : Int) (E : List (Nat × Bool)) : swE n E 0 = (0, -1, -1) := by simp [swE]
theorem swE_succ {n : Int} {E : List (Nat × Bool)} {i : Nat} {e : Nat × Bool} (h : E[i]? = some e) : swE n E (i + 1) = stE n (swE n E i) e := by
  unfold swE
  rw [List.take_add_one, h, List.foldl_append]; rfl
structure InvE (n : Int) (E : List (Nat × Bool)) (i : Nat) (st : Int × Int × Int) : Prop where
  sum : st.1 = preE E i
  first : (st.2.1 = -1 ∧ ∀ j, j ≤ i → 2 * preE E j ≤ n) ∨ ∃ j e, j < i ∧ E[j]? = some e ∧ st.2.1 = (e.1 : Int) ∧ n < 2 * preE E (j + 1) ∧ ∀ q, q ≤ j → 2 * preE E q ≤ n
  last : (st.2.2 = -1 ∧ ∀ j, j < i → ¬ (n < 2 * preE E j ∧ 2 * preE E (j + 1) ≤ n)) ∨ ∃ j e, j < i ∧ E[j]? = some e ∧ st.2.2 = (e.1 : Int) ∧ n < 2 * preE E j ∧ 2 * preE E (j + 1) ≤ n ∧ ∀ q, j < q → q < i → ¬ (n < 2 * preE E q ∧ 2 * preE E (q + 1) ≤ n)
theorem InvE.step {n : Int} {E : List (Nat × Bool)} {i : Nat} {st : Int × Int × Int} (h : InvE n E i st) {e : Nat × Bool} (he : E[i]? = some e) : InvE n E (i + 1) (stE n st e) := by
  obtain ⟨h1, h2, h3⟩ := h
  have hp := preE_succ he
  unfold stE
  by_cases c1 : n < 2 * (st.1 + sgE e) ∧ st.2.1 < 0
  · rw [if_pos c1]
    have h2' : ∀ j, j ≤ i → 2 * preE E j ≤ n := by
      rcases h2 with h2 | ⟨j, x, _, _, hx, _⟩
      · exact h2.2
      · omega
    refine ⟨by show st.1 + sgE e = _; omega, .inr ⟨i, e, by omega, he, rfl, by omega, h2'⟩, ?_⟩
    rcases h3 with h3 | ⟨j, x, a, b, c, d, f, g⟩
    · refine .inl ⟨h3.1, fun j hj => ?_⟩
      by_cases e0 : j = i
      · subst e0; have := h2' j (Nat.le_refl _); omega
      · exact h3.2 j (by omega)
    · refine .inr ⟨j, x, by omega, b, c, d, f, fun q hq1 hq2 => ?_⟩
      by_cases e0 : q = i
      · subst e0; have := h2' q (Nat.le_refl _); omega
      · exact g q hq1 (by omega)
  · rw [if_neg c1]
    by_cases c2 : n < 2 * st.1 ∧ ¬ n < 2 * (st.1 + sgE e)
    · rw [if_pos c2]
      refine ⟨by show st.1 + sgE e = _; omega, ?_, .inr ⟨i, e, by omega, he, rfl, by omega, by omega, fun q hq1 hq2 => by omega⟩⟩
      rcases h2 with h2 | ⟨j, x, a, b, c, d, f⟩
      · have := h2.2 i (Nat.le_refl _); omega
      · exact .inr ⟨j, x, by omega, b, c, d, f⟩
    · rw [if_neg c2]
      refine ⟨by show st.1 + sgE e = _; omega, ?_, ?_⟩
      · rcases h2 with h2 | ⟨j, x, a, b, c, d, f⟩
        · refine .inl ⟨h2.1, fun j hj => ?_⟩
          by_cases e0 : j = i + 1
          · subst e0; have := h2.1; omega
          · exact h2.2 j (by omega)
        · exact .inr ⟨j, x, by omega, b, c, d, f⟩
      · rcases h3 with h3 | ⟨j, x, a, b, c, d, f, g⟩
        · refine .inl ⟨h3.1, fun j hj => ?_⟩
          by_cases e0 : j = i
          · subst e0; omega
          · exact h3.2 j (by omega)
        · refine .inr ⟨j, x, by omega, b, c, d, f, fun q hq1 hq2 => ?_⟩
          by_cases e0 : q = i
          · subst e0; omega
          · exact g q hq1 (by omega)
theorem swE_inv {n : Int} (hn : 0 ≤ n) (E : List (Nat × Bool)) : ∀ i, i ≤ E.length → InvE n E i (swE n E i)
  | 0, _ => by
    rw [swE_zero]
    exact ⟨(preE_zero E).symm, .inl ⟨rfl, fun j hj => by obtain rfl : j = 0 := by omega
                                                         rw [preE_zero]; omega⟩, .inl ⟨rfl, fun j hj => by omega⟩⟩
  | i + 1, h => by
    have he : E[i]? = some E[i] := List.getElem?_eq_getElem (by omega)
    rw [swE_succ he]
    exact (swE_inv hn E i (by omega)).step he
theorem trans_ex {n : Int} {f : Nat → Int} : ∀ d q, n < 2 * f q → 2 * f (q + d) ≤ n → ∃ t, q ≤ t ∧ t < q + d ∧ n < 2 * f t ∧ 2 * f (t + 1) ≤ n
  | 0, q, h1, h2 => by rw [Nat.add_zero] at h2; omega
  | d + 1, q, h1, h2 => by
    by_cases c : 2 * f (q + 1) ≤ n
    · exact ⟨q, Nat.le_refl _, by omega, h1, c⟩
    · obtain ⟨t, a, b, c1, c2⟩ := trans_ex (n := n) (f := f) d (q + 1) (by omega) (by rw [show q + 1 + d = q + (d + 1) by omega]; exact h2)
      exact ⟨t, by omega, by omega, c1, c2⟩
/-- THE SWEEP: no place has more than half; or the first and the last that has are found. -/
theorem sweep {n : Int} (hn : 0 ≤ n) {E : List (Nat × Bool)} (hs : SortedE E) (h0 : preE E E.length = 0) :
    ((swE n E E.length).2.1 = -1 ∧ ∀ k, 2 * DE E k ≤ n) ∨
    ∃ a b : Nat, (swE n E E.length).2.1 = a ∧ (swE n E E.length).2.2 = b ∧ (a, true) ∈ E ∧ (b, false) ∈ E ∧ n < 2 * DE E a ∧ n < 2 * DE E b ∧ ∀ k, n < 2 * DE E k → a ≤ k ∧ k ≤ b := by
  have H := swE_inv hn E E.length (Nat.le_refl _)
  rcases H.first with ⟨h1, h2⟩ | ⟨i, e, hi, he, h1, h2, h3⟩
  · refine .inl ⟨h1, fun k => ?_⟩
    obtain ⟨m, hm, hp, _⟩ := split_pre hs k
    rw [← hp]; exact h2 m hm
  · have hT : e.2 = true := by
      cases hb : e.2 with
      | true => rfl
      | false =>
        have := preE_succ he
        have h4 := h3 i (Nat.le_refl _)
        simp only [sgE, hb] at this
        simp at this
        omega
    obtain ⟨a, eb⟩ := e
    simp only at hT h1
    subst hT
    have hlast : ∃ (j x : Nat), E[j]? = some (x, false) ∧ (swE n E E.length).2.2 = (x : Int) ∧ n < 2 * preE E j ∧ ∀ q, j < q → q < E.length → ¬ (n < 2 * preE E q ∧ 2 * preE E (q + 1) ≤ n) := by
      rcases H.last with ⟨_, h5⟩ | ⟨j, x, hj, hx, h4, h5, h6, h7⟩
      · obtain ⟨t, t1, t2, t3, t4⟩ := trans_ex (n := n) (f := preE E) (E.length - (i + 1)) (i + 1) h2 (by rw [show i + 1 + (E.length - (i + 1)) = E.length by omega, h0]; omega)
        exact absurd ⟨t3, t4⟩ (h5 t (by omega))
      · obtain ⟨x, xb⟩ := x
        have hF : xb = false := by
          cases xb with
          | false => rfl
          | true =>
            have := preE_succ hx
            simp [sgE] at this
            omega
        subst hF
        exact ⟨j, x, hx, h4, h5, h7⟩
    obtain ⟨j, b, hj, h4, h5, h7⟩ := hlast
    refine .inr ⟨a, b, h1, h4, List.mem_of_getElem? he, List.mem_of_getElem? hj, ?_, ?_, fun k hk => ?_⟩
    · have := pre_at_lo hs he; omega
    · have := pre_at_hi hs hj; omega
    · obtain ⟨m, hm, hp, hd⟩ := split_pre hs k
      have him : i < m := by
        by_cases c : i < m
        · exact c
        · have := h3 m (by omega); omega
      have hjm : ¬ j < m := fun c => by
        obtain ⟨t, t1, t2, t3, t4⟩ := trans_ex (n := n) (f := preE E) (E.length - m) m (by omega) (by rw [show m + (E.length - m) = E.length by omega, h0]; omega)
        exact h7 t (by omega) (by omega) ⟨t3, t4⟩
      constructor
      · have := (dnE_iff _ _).1 ((hd i _ he).1 him)
        simp at this; omega
      · have : ¬ dnE k (b, false) = true := fun e => hjm ((hd j _ hj).2 e)
        rw [dnE_iff] at this
        simp at this; omega
end Go.Proofs.Ytapagoaoglmegaa
