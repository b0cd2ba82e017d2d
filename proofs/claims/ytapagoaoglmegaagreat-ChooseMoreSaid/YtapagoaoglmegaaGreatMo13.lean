/- Texts of mine, joined by shake.py: EdSweep, EdSpans, Lists, EdMem, EdBad, EdFloat, EdRow. -/
import Derived.Lib.SlicesCompact
import Derived.Maps.AppendAt
import Derived.OwnWalk
import Derived.Deep.RegionHeld3
import Derived.Shelf.SlicesQ.IndexFunc
import Derived.Shelf.SlGeneric
import Derived.Lib.Hide
import Derived.Laws.ComplexArith
import Derived.Laws.FloatArith
import Derived.KernelRfl
import Derived.Shelf.SortM.Plain
import Derived.Shelf.SortM.SortNone
import Derived.Shelf.SlicesG.CompactI
import Derived.Shelf.SlicesG.SearchI
import Derived.Shelf.SlSortCmp.NoneTotal
import Derived.Ground.SlgnProg
import Derived.Ground.SlgmProg
import Derived.Test.YtapagoaoglmegaaGreatMo0
import Derived.Test.YtapagoaoglmegaaGreatMo2
section
namespace Go.Proofs.YtapagoaoglmegaaGreat
def sgE (e : Nat × Bool) : Int := if e.2 = true then 1 else -1
def preE (E : List (Nat × Bool)) (i : Nat) : Int := ((E.take i).map sgE).sum
def leE (a b : Nat × Bool) : Bool := decide (a.1 < b.1) || (decide (a.1 = b.1) && (a.2 || !b.2))
def dnE (k : Nat) (e : Nat × Bool) : Bool := decide (e.1 < k) || (decide (e.1 = k) && e.2)
def DE (E : List (Nat × Bool)) (k : Nat) : Int := (E.countP (fun e => e.2 && decide (e.1 ≤ k)) : Int) - (E.countP (fun e => !e.2 && decide (e.1 < k)) : Int)
def SortedE (E : List (Nat × Bool)) : Prop := ∀ (i j : Nat) (a b : Nat × Bool), i < j → E[i]? = some a → E[j]? = some b → leE a b = true
theorem leE_iff (a b : Nat × Bool) : leE a b = true ↔ a.1 < b.1 ∨ a.1 = b.1 ∧ (a.2 = true ∨ b.2 = false) := by
  unfold leE; simp
theorem dnE_iff (k : Nat) (e : Nat × Bool) : dnE k e = true ↔ e.1 < k ∨ e.1 = k ∧ e.2 = true := by
  unfold dnE; simp
theorem SortedE.of {E : List (Nat × Bool)} (h : E.Pairwise (fun a b => leE a b = true)) : SortedE E := fun i j a b hij ha hb => by
  obtain ⟨h1, rfl⟩ := List.getElem?_eq_some_iff.1 ha
  obtain ⟨h2, rfl⟩ := List.getElem?_eq_some_iff.1 hb
  exact List.pairwise_iff_getElem.1 h i j h1 h2 hij
theorem preE_zero (E : List (Nat × Bool)) : preE E 0 = 0 := by simp [preE]
theorem sum_snoc : ∀ (l : List Int) (x : Int), (l ++ [x]).sum = l.sum + x
  | [], x => by simp
  | a :: l, x => by simp only [List.cons_append, List.sum_cons, sum_snoc l x]; omega
theorem preE_succ {E : List (Nat × Bool)} {i : Nat} {e : Nat × Bool} (h : E[i]? = some e) : preE E (i + 1) = preE E i + sgE e := by
  unfold preE
  rw [List.take_add_one, h]
  simp only [Option.toList_some, List.map_append, List.map_cons, List.map_nil]
  exact sum_snoc _ _
theorem filt_sum (k : Nat) : ∀ E : List (Nat × Bool), ((E.filter (dnE k)).map sgE).sum = DE E k
  | [] => rfl
  | a :: t => by
    have ih := filt_sum k t
    unfold DE at ih ⊢
    obtain ⟨r, b⟩ := a
    cases b
    · by_cases h : r < k
      · have e1 : dnE k (r, false) = true := (dnE_iff _ _).2 (.inl h)
        rw [List.filter_cons_of_pos e1, List.map_cons, List.sum_cons, ih, List.countP_cons, List.countP_cons]
        simp [sgE, h]; omega
      · have e1 : ¬ dnE k (r, false) = true := fun e => by rcases (dnE_iff _ _).1 e with e | e; exact h e; cases e.2
        rw [List.filter_cons_of_neg e1, ih, List.countP_cons, List.countP_cons]
        simp [h]
    · by_cases h : r ≤ k
      · have e1 : dnE k (r, true) = true := (dnE_iff _ _).2 (by simp; omega)
        rw [List.filter_cons_of_pos e1, List.map_cons, List.sum_cons, ih, List.countP_cons, List.countP_cons]
        simp [sgE, h]; omega
      · have e1 : ¬ dnE k (r, true) = true := fun e => by rcases (dnE_iff _ _).1 e with e | e; · simp at e; omega
                                                          · simp at e; omega
        rw [List.filter_cons_of_neg e1, ih, List.countP_cons, List.countP_cons]
        simp [h]
theorem dn_of_le {k : Nat} {a b : Nat × Bool} (h : leE a b = true) (hb : dnE k b = true) : dnE k a = true := by
  rw [dnE_iff] at *
  rw [leE_iff] at h
  rcases h with h | ⟨h1, h2 | h2⟩ <;> rcases hb with hb | ⟨hb1, hb2⟩
  · left; omega
  · left; omega
  · left; omega
  · right; exact ⟨by omega, h2⟩
  · left; omega
  · rw [h2] at hb2; cases hb2
theorem split_dn (k : Nat) : ∀ E : List (Nat × Bool), SortedE E → ∃ m, m ≤ E.length ∧ E.take m = E.filter (dnE k) ∧ ∀ j e, E[j]? = some e → (j < m ↔ dnE k e = true)
  | [], _ => ⟨0, Nat.le_refl _, rfl, fun j e h => by simp at h⟩
  | a :: t, hs => by
    have ht : SortedE t := fun i j x y hij hx hy => hs (i + 1) (j + 1) x y (by omega) hx hy
    by_cases ha : dnE k a = true
    · obtain ⟨m, hm, h1, h2⟩ := split_dn k t ht
      refine ⟨m + 1, by simp; omega, by rw [List.take_succ_cons, List.filter_cons_of_pos ha, h1], fun j e hj => ?_⟩
      cases j with
      | zero => simp at hj; subst hj; exact ⟨fun _ => ha, fun _ => by omega⟩
      | succ j => have := h2 j e (by simpa using hj); rw [← this]; omega
    · have hno : ∀ (j : Nat) (e : Nat × Bool), (a :: t)[j]? = some e → ¬ dnE k e = true := fun j e hj hd => by
        cases j with
        | zero => simp at hj; subst hj; exact ha hd
        | succ j => exact ha (dn_of_le (hs 0 (j + 1) a e (by omega) rfl hj) hd)
      refine ⟨0, Nat.zero_le _, ?_, fun j e hj => ⟨fun h => by omega, fun h => absurd h (hno j e hj)⟩⟩
      rw [List.take_zero]
      symm
      rw [List.filter_eq_nil_iff]
      intro e he
      obtain ⟨j, hj⟩ := List.getElem?_of_mem he
      exact hno j e hj
theorem split_pre {E : List (Nat × Bool)} (hs : SortedE E) (k : Nat) : ∃ m, m ≤ E.length ∧ preE E m = DE E k ∧ ∀ j e, E[j]? = some e → (j < m ↔ dnE k e = true) := by
  obtain ⟨m, h1, h2, h3⟩ := split_dn k E hs
  exact ⟨m, h1, by unfold preE; rw [h2]; exact filt_sum k E, h3⟩
theorem pre_up {E : List (Nat × Bool)} {a : Nat} : ∀ d, a + d ≤ E.length → (∀ j e, a ≤ j → j < a + d → E[j]? = some e → e.2 = true) → preE E a ≤ preE E (a + d)
  | 0, _, _ => Int.le_refl _
  | d + 1, hl, h => by
    have h1 := pre_up d (by omega) (fun j e h1 h2 => h j e h1 (by omega))
    have h2 : E[a + d]? = some E[a + d] := List.getElem?_eq_getElem (by omega)
    have h3 := preE_succ h2
    have h4 := h _ _ (by omega) (by omega) h2
    simp only [sgE, if_pos h4] at h3
    show preE E a ≤ preE E (a + d + 1)
    omega
theorem pre_down {E : List (Nat × Bool)} {a : Nat} : ∀ d, a + d ≤ E.length → (∀ j e, a ≤ j → j < a + d → E[j]? = some e → e.2 = false) → preE E (a + d) ≤ preE E a
  | 0, _, _ => Int.le_refl _
  | d + 1, hl, h => by
    have h1 := pre_down d (by omega) (fun j e h1 h2 => h j e h1 (by omega))
    have h2 : E[a + d]? = some E[a + d] := List.getElem?_eq_getElem (by omega)
    have h3 := preE_succ h2
    have h4 := h _ _ (by omega) (by omega) h2
    simp only [sgE, h4] at h3
    show preE E (a + d + 1) ≤ preE E a
    simp at h3
    omega
theorem pre_at_lo {E : List (Nat × Bool)} (hs : SortedE E) {i k : Nat} (h : E[i]? = some (k, true)) : preE E (i + 1) ≤ DE E k := by
  obtain ⟨m, hm, hp, hd⟩ := split_pre hs k
  have him : i < m := (hd i _ h).2 ((dnE_iff _ _).2 (.inr ⟨rfl, rfl⟩))
  rw [← hp]
  obtain ⟨d, rfl⟩ : ∃ d, m = i + 1 + d := ⟨m - (i + 1), by omega⟩
  refine pre_up d hm fun j e h1 h2 he => ?_
  have a1 := (dnE_iff _ _).1 ((hd j e he).1 h2)
  have a2 := (leE_iff _ _).1 (hs i j _ _ (by omega) h he)
  simp at a2
  rcases a1 with a1 | a1
  · omega
  · exact a1.2
theorem pre_at_hi {E : List (Nat × Bool)} (hs : SortedE E) {i k : Nat} (h : E[i]? = some (k, false)) : preE E i ≤ DE E k := by
  obtain ⟨m, hm, hp, hd⟩ := split_pre hs k
  have him : ¬ i < m := fun e => by have := (dnE_iff _ _).1 ((hd i _ h).1 e); simp at this
  have hil := (List.getElem?_eq_some_iff.1 h).1
  rw [← hp]
  obtain ⟨d, rfl⟩ : ∃ d, i = m + d := ⟨i - m, by omega⟩
  refine pre_down d (by omega) fun j e h1 h2 he => ?_
  have a1 : ¬ dnE k e = true := fun q => by have := (hd j e he).2 q; omega
  have a2 := (leE_iff _ _).1 (hs j (m + d) _ _ h2 he h)
  rw [dnE_iff] at a1
  simp at a2 a1
  cases hb : e.2 with
  | false => rfl
  | true => exfalso; have := a1.2; rw [hb] at this; simp at this; omega
def stE (n : Int) (st : Int × Int × Int) (e : Nat × Bool) : Int × Int × Int :=
  if n < 2 * (st.1 + sgE e) ∧ st.2.1 < 0 then (st.1 + sgE e, (e.1 : Int), st.2.2)
  else if n < 2 * st.1 ∧ ¬ n < 2 * (st.1 + sgE e) then (st.1 + sgE e, st.2.1, (e.1 : Int)) else (st.1 + sgE e, st.2.1, st.2.2)
def swE (n : Int) (E : List (Nat × Bool)) (i : Nat) : Int × Int × Int := (E.take i).foldl (stE n) (0, -1, -1)
theorem swE_zero (n : Int) (E : List (Nat × Bool)) : swE n E 0 = (0, -1, -1) := by simp [swE]
theorem swE_succ {n : Int} {E : List (Nat × Bool)} {i : Nat} {e : Nat × Bool} (h : E[i]? = some e) : swE n E (i + 1) = stE n (swE n E i) e := by
  unfold swE
  rw [List.take_add_one, h, List.foldl_append]; rfl
structure InvE (n : Int) (E : List (Nat × Bool)) (i : Nat) (st : Int × Int × Int) : Prop where
  sum : st.1 = preE E i
  first : (st.2.1 = -1 ∧ ∀ j, j ≤ i → 2 * preE E j ≤ n) ∨ ∃ j e, j < i ∧ E[j]? = some e ∧ st.2.1 = (e.1 : Int) ∧ n < 2 * preE E (j + 1) ∧ ∀ q, q ≤ j → 2 * preE E q ≤ n
  last : (st.2.2 = -1 ∧ ∀ j, j < i → ¬ (n < 2 * preE E j ∧ 2 * preE E (j + 1) ≤ n)) ∨ ∃ j e, j < i ∧ E[j]? = some e ∧ st.2.2 = (e.1 : Int) ∧ n < 2 * preE E j ∧ 2 * preE E (j + 1) ≤ n ∧ ∀ q, j < q → q < i → ¬ (n < 2 * preE E q ∧ 2 * preE E (q + 1) ≤ n)
theorem InvE.step {n : Int} {E : List (Nat × Bool)} {i : Nat} {st : Int × Int × Int} (h : InvE n E i st) {e : Nat × Bool} (he : E[i]? = some e) : InvE n E (i + 1) (stE n st e) := by
  obtain ⟨h1, h2, h3⟩ := h
  have hp := preE_succ he
  unfold stE
  by_cases c1 : n < 2 * (st.1 + sgE e) ∧ st.2.1 < 0
  · rw [if_pos c1]
    have h2' : ∀ j, j ≤ i → 2 * preE E j ≤ n := by
      rcases h2 with h2 | ⟨j, x, _, _, hx, _⟩
      · exact h2.2
      · omega
    refine ⟨by show st.1 + sgE e = _; omega, .inr ⟨i, e, by omega, he, rfl, by omega, h2'⟩, ?_⟩
    rcases h3 with h3 | ⟨j, x, a, b, c, d, f, g⟩
    · refine .inl ⟨h3.1, fun j hj => ?_⟩
      by_cases e0 : j = i
      · subst e0; have := h2' j (Nat.le_refl _); omega
      · exact h3.2 j (by omega)
    · refine .inr ⟨j, x, by omega, b, c, d, f, fun q hq1 hq2 => ?_⟩
      by_cases e0 : q = i
      · subst e0; have := h2' q (Nat.le_refl _); omega
      · exact g q hq1 (by omega)
  · rw [if_neg c1]
    by_cases c2 : n < 2 * st.1 ∧ ¬ n < 2 * (st.1 + sgE e)
    · rw [if_pos c2]
      refine ⟨by show st.1 + sgE e = _; omega, ?_, .inr ⟨i, e, by omega, he, rfl, by omega, by omega, fun q hq1 hq2 => by omega⟩⟩
      rcases h2 with h2 | ⟨j, x, a, b, c, d, f⟩
      · have := h2.2 i (Nat.le_refl _); omega
      · exact .inr ⟨j, x, by omega, b, c, d, f⟩
    · rw [if_neg c2]
      refine ⟨by show st.1 + sgE e = _; omega, ?_, ?_⟩
      · rcases h2 with h2 | ⟨j, x, a, b, c, d, f⟩
        · refine .inl ⟨h2.1, fun j hj => ?_⟩
          by_cases e0 : j = i + 1
          · subst e0; have := h2.1; omega
          · exact h2.2 j (by omega)
        · exact .inr ⟨j, x, by omega, b, c, d, f⟩
      · rcases h3 with h3 | ⟨j, x, a, b, c, d, f, g⟩
        · refine .inl ⟨h3.1, fun j hj => ?_⟩
          by_cases e0 : j = i
          · subst e0; omega
          · exact h3.2 j (by omega)
        · refine .inr ⟨j, x, by omega, b, c, d, f, fun q hq1 hq2 => ?_⟩
          by_cases e0 : q = i
          · subst e0; omega
          · exact g q hq1 (by omega)
theorem swE_inv {n : Int} (hn : 0 ≤ n) (E : List (Nat × Bool)) : ∀ i, i ≤ E.length → InvE n E i (swE n E i)
  | 0, _ => by
    rw [swE_zero]
    exact ⟨(preE_zero E).symm, .inl ⟨rfl, fun j hj => by obtain rfl : j = 0 := by omega
                                                         rw [preE_zero]; omega⟩, .inl ⟨rfl, fun j hj => by omega⟩⟩
  | i + 1, h => by
    have he : E[i]? = some E[i] := List.getElem?_eq_getElem (by omega)
    rw [swE_succ he]
    exact (swE_inv hn E i (by omega)).step he
theorem trans_ex {n : Int} {f : Nat → Int} : ∀ d q, n < 2 * f q → 2 * f (q + d) ≤ n → ∃ t, q ≤ t ∧ t < q + d ∧ n < 2 * f t ∧ 2 * f (t + 1) ≤ n
  | 0, q, h1, h2 => by rw [Nat.add_zero] at h2; omega
  | d + 1, q, h1, h2 => by
    by_cases c : 2 * f (q + 1) ≤ n
    · exact ⟨q, Nat.le_refl _, by omega, h1, c⟩
    · obtain ⟨t, a, b, c1, c2⟩ := trans_ex (n := n) (f := f) d (q + 1) (by omega) (by rw [show q + 1 + d = q + (d + 1) by omega]; exact h2)
      exact ⟨t, by omega, by omega, c1, c2⟩
theorem sweep {n : Int} (hn : 0 ≤ n) {E : List (Nat × Bool)} (hs : SortedE E) (h0 : preE E E.length = 0) :
    ((swE n E E.length).2.1 = -1 ∧ ∀ k, 2 * DE E k ≤ n) ∨
    ∃ a b : Nat, (swE n E E.length).2.1 = a ∧ (swE n E E.length).2.2 = b ∧ (a, true) ∈ E ∧ (b, false) ∈ E ∧ n < 2 * DE E a ∧ n < 2 * DE E b ∧ ∀ k, n < 2 * DE E k → a ≤ k ∧ k ≤ b := by
  have H := swE_inv hn E E.length (Nat.le_refl _)
  rcases H.first with ⟨h1, h2⟩ | ⟨i, e, hi, he, h1, h2, h3⟩
  · refine .inl ⟨h1, fun k => ?_⟩
    obtain ⟨m, hm, hp, _⟩ := split_pre hs k
    rw [← hp]; exact h2 m hm
  · have hT : e.2 = true := by
      cases hb : e.2 with
      | true => rfl
      | false =>
        have := preE_succ he
        have h4 := h3 i (Nat.le_refl _)
        simp only [sgE, hb] at this
        simp at this
        omega
    obtain ⟨a, eb⟩ := e
    simp only at hT h1
    subst hT
    have hlast : ∃ (j x : Nat), E[j]? = some (x, false) ∧ (swE n E E.length).2.2 = (x : Int) ∧ n < 2 * preE E j ∧ ∀ q, j < q → q < E.length → ¬ (n < 2 * preE E q ∧ 2 * preE E (q + 1) ≤ n) := by
      rcases H.last with ⟨_, h5⟩ | ⟨j, x, hj, hx, h4, h5, h6, h7⟩
      · obtain ⟨t, t1, t2, t3, t4⟩ := trans_ex (n := n) (f := preE E) (E.length - (i + 1)) (i + 1) h2 (by rw [show i + 1 + (E.length - (i + 1)) = E.length by omega, h0]; omega)
        exact absurd ⟨t3, t4⟩ (h5 t (by omega))
      · obtain ⟨x, xb⟩ := x
        have hF : xb = false := by
          cases xb with
          | false => rfl
          | true =>
            have := preE_succ hx
            simp [sgE] at this
            omega
        subst hF
        exact ⟨j, x, hx, h4, h5, h7⟩
    obtain ⟨j, b, hj, h4, h5, h7⟩ := hlast
    refine .inr ⟨a, b, h1, h4, List.mem_of_getElem? he, List.mem_of_getElem? hj, ?_, ?_, fun k hk => ?_⟩
    · have := pre_at_lo hs he; omega
    · have := pre_at_hi hs hj; omega
    · obtain ⟨m, hm, hp, hd⟩ := split_pre hs k
      have him : i < m := by
        by_cases c : i < m
        · exact c
        · have := h3 m (by omega); omega
      have hjm : ¬ j < m := fun c => by
        obtain ⟨t, t1, t2, t3, t4⟩ := trans_ex (n := n) (f := preE E) (E.length - m) m (by omega) (by rw [show m + (E.length - m) = E.length by omega, h0]; omega)
        exact h7 t (by omega) (by omega) ⟨t3, t4⟩
      constructor
      · have := (dnE_iff _ _).1 ((hd i _ he).1 him)
        simp at this; omega
      · have : ¬ dnE k (b, false) = true := fun e => hjm ((hd j _ hj).2 e)
        rw [dnE_iff] at this
        simp at this; omega
open PCl
set_option linter.unusedVariables false
set_option linter.unusedSimpArgs false
def rkE (P : List Int) (x : Int) : Nat := P.countP (fun y => decide (y < x))
theorem rk_le (P : List Int) {x y : Int} (h : x ≤ y) : rkE P x ≤ rkE P y := by
  refine List.countP_mono_left fun z _ hz => ?_
  simp at hz ⊢; omega
theorem rk_lt : ∀ {P : List Int} {x y : Int}, x ∈ P → x < y → rkE P x < rkE P y
  | a :: t, x, y, hx, h => by
    unfold rkE
    rw [List.countP_cons, List.countP_cons]
    have ht := rk_le t (Int.le_of_lt h)
    unfold rkE at ht
    rcases List.mem_cons.1 hx with e | e
    · subst e
      simp [h]; omega
    · have := rk_lt e h
      unfold rkE at this
      by_cases c : a < x
      · have c' : a < y := by omega
        simp [c, c']; omega
      · by_cases c' : a < y <;> simp [c, c'] <;> omega
theorem rk_lt_iff {P : List Int} {x y : Int} (hx : x ∈ P) (hy : y ∈ P) : rkE P x < rkE P y ↔ x < y := by
  constructor
  · intro h
    by_cases c : x < y
    · exact c
    · have := rk_le P (x := y) (y := x) (by omega); omega
  · exact rk_lt hx
theorem rk_le_iff {P : List Int} {x y : Int} (hx : x ∈ P) (hy : y ∈ P) : rkE P x ≤ rkE P y ↔ x ≤ y := by
  have := rk_lt_iff hy hx; omega
theorem rk_get : ∀ {P : List Int} {x : Int}, P.Pairwise (· < ·) → x ∈ P → P[rkE P x]? = some x
  | a :: t, x, hs, hx => by
    obtain ⟨h1, h2⟩ := List.pairwise_cons.1 hs
    unfold rkE
    rw [List.countP_cons]
    rcases List.mem_cons.1 hx with e | e
    · subst e
      have : t.countP (fun y => decide (y < x)) = 0 := by
        rw [List.countP_eq_zero]
        intro z hz
        have := h1 z hz
        simp; omega
      rw [this]; simp
    · have hlt := h1 x e
      have ih := rk_get h2 e
      unfold rkE at ih
      simp [hlt, ih]
theorem rk_len (P : List Int) (x : Int) : rkE P x ≤ P.length := List.countP_le_length
def depE (L : List S25) (p : Int) : Nat := L.countP (fun s => decide (s.f1 ≤ p) && decide (p ≤ s.f2))
def unE (P : List Int) (L : List S25) : List (Nat × Bool) := L.flatMap (fun s => [(rkE P s.f1, true), (rkE P s.f2, false)])
theorem DE_un {P : List Int} {p : Int} (hp : p ∈ P) : ∀ L : List S25, (∀ s ∈ L, s.f1 ∈ P ∧ s.f2 ∈ P) → (∀ s ∈ L, s.f1 ≤ s.f2) → DE (unE P L) (rkE P p) = depE L p
  | [], _, _ => rfl
  | s :: L, hm, hv => by
    have ih := DE_un hp L (fun t h => hm t (List.mem_cons_of_mem _ h)) (fun t h => hv t (List.mem_cons_of_mem _ h))
    obtain ⟨m1, m2⟩ := hm s List.mem_cons_self
    have v := hv s List.mem_cons_self
    have c1 := rk_le_iff m1 hp
    have c2 := rk_lt_iff m2 hp
    unfold DE depE unE at ih ⊢
    rw [List.flatMap_cons]
    simp only [List.cons_append, List.nil_append, List.countP_cons]
    simp only [Bool.true_and, Bool.false_and, Bool.not_true, Bool.not_false, decide_eq_true_eq, c1, c2, Bool.false_eq_true, if_false, Bool.and_eq_true]
    by_cases a : s.f1 ≤ p <;> by_cases b : s.f2 < p
    · have b' : ¬ p ≤ s.f2 := by omega
      simp only [a, b, b', if_true, if_false, and_false, and_true]; omega
    · have b' : p ≤ s.f2 := by omega
      simp only [a, b, b', if_true, if_false, and_true]; omega
    · omega
    · simp only [a, b, if_false, false_and]; omega
theorem sum_count : ∀ E : List (Nat × Bool), (E.map sgE).sum = (E.countP (fun e => e.2) : Int) - (E.countP (fun e => !e.2) : Int)
  | [] => rfl
  | (r, b) :: t => by
    rw [List.map_cons, List.sum_cons, sum_count t, List.countP_cons, List.countP_cons]
    cases b <;> simp [sgE] <;> omega
theorem un_true (P : List Int) : ∀ L : List S25, (unE P L).countP (fun e => e.2) = L.length ∧ (unE P L).countP (fun e => !e.2) = L.length
  | [] => ⟨rfl, rfl⟩
  | s :: L => by
    obtain ⟨h1, h2⟩ := un_true P L
    unfold unE at *
    rw [List.flatMap_cons]
    simp only [List.cons_append, List.nil_append, List.countP_cons, h1, h2]
    simp
theorem DE_perm {E F : List (Nat × Bool)} (h : E.Perm F) (k : Nat) : DE E k = DE F k := by
  unfold DE; rw [h.countP_eq, h.countP_eq]
theorem pre_all {P : List Int} {L : List S25} {E : List (Nat × Bool)} (h : E.Perm (unE P L)) : preE E E.length = 0 := by
  unfold preE
  rw [List.take_length, sum_count, h.countP_eq, h.countP_eq, (un_true P L).1, (un_true P L).2]
  omega
structure IsHull (L : List S25) (lo hi : Int) : Prop where
  lo_mem : ∃ s ∈ L, s.f1 = lo
  hi_mem : ∃ s ∈ L, s.f2 = hi
  lo_deep : L.length < 2 * depE L lo
  hi_deep : L.length < 2 * depE L hi
  all : ∀ p, L.length < 2 * depE L p → lo ≤ p ∧ p ≤ hi
def NoHull (L : List S25) : Prop := ∀ p, 2 * depE L p ≤ L.length
theorem max_ex {α : Type} (f : α → Int) : ∀ M : List α, M ≠ [] → ∃ s ∈ M, ∀ t ∈ M, f t ≤ f s
  | [], h => absurd rfl h
  | [a], _ => ⟨a, List.mem_cons_self, fun t ht => by obtain rfl : t = a := by simpa using ht
                                                     exact Int.le_refl _⟩
  | a :: b :: t, _ => by
    obtain ⟨s, hs, hm⟩ := max_ex f (b :: t) (by simp)
    by_cases c : f a ≤ f s
    · exact ⟨s, List.mem_cons_of_mem _ hs, fun x hx => by rcases List.mem_cons.1 hx with e | e; · subst e; exact c
                                                          · exact hm x e⟩
    · exact ⟨a, List.mem_cons_self, fun x hx => by rcases List.mem_cons.1 hx with e | e; · subst e; exact Int.le_refl _
                                                   · have := hm x e; omega⟩
theorem has_iff (s : S25) (p : Int) : (decide (s.f1 ≤ p) && decide (p ≤ s.f2)) = true ↔ s.f1 ≤ p ∧ p ≤ s.f2 := by simp
theorem dep_lo {L : List S25} {p : Int} (h : 0 < depE L p) : ∃ s ∈ L, s.f1 ≤ p ∧ p ≤ s.f2 ∧ depE L p ≤ depE L s.f1 := by
  obtain ⟨s0, h0, h1⟩ := List.countP_pos_iff.1 h
  have hne : L.filter (fun s => decide (s.f1 ≤ p) && decide (p ≤ s.f2)) ≠ [] := fun e => by
    have : s0 ∈ L.filter (fun s => decide (s.f1 ≤ p) && decide (p ≤ s.f2)) := List.mem_filter.2 ⟨h0, h1⟩
    rw [e] at this; cases this
  obtain ⟨s, hs, hm⟩ := max_ex (fun s : S25 => s.f1) _ hne
  obtain ⟨hs1, hs2⟩ := List.mem_filter.1 hs
  rw [has_iff] at hs2
  refine ⟨s, hs1, hs2.1, hs2.2, List.countP_mono_left fun t ht h2 => ?_⟩
  have h3 := hm t (List.mem_filter.2 ⟨ht, h2⟩)
  rw [has_iff] at h2 ⊢
  omega
theorem dep_hi {L : List S25} {p : Int} (h : 0 < depE L p) : ∃ s ∈ L, s.f1 ≤ p ∧ p ≤ s.f2 ∧ depE L p ≤ depE L s.f2 := by
  obtain ⟨s0, h0, h1⟩ := List.countP_pos_iff.1 h
  have hne : L.filter (fun s => decide (s.f1 ≤ p) && decide (p ≤ s.f2)) ≠ [] := fun e => by
    have : s0 ∈ L.filter (fun s => decide (s.f1 ≤ p) && decide (p ≤ s.f2)) := List.mem_filter.2 ⟨h0, h1⟩
    rw [e] at this; cases this
  obtain ⟨s, hs, hm⟩ := max_ex (fun s : S25 => -s.f2) _ hne
  obtain ⟨hs1, hs2⟩ := List.mem_filter.1 hs
  rw [has_iff] at hs2
  refine ⟨s, hs1, hs2.1, hs2.2, List.countP_mono_left fun t ht h2 => ?_⟩
  have h3 := hm t (List.mem_filter.2 ⟨ht, h2⟩)
  rw [has_iff] at h2 ⊢
  omega
theorem un_mem {P : List Int} {L : List S25} {r : Nat} {b : Bool} (h : (r, b) ∈ unE P L) : ∃ s ∈ L, r = rkE P (if b = true then s.f1 else s.f2) := by
  unfold unE at h
  obtain ⟨s, hs, h⟩ := List.mem_flatMap.1 h
  refine ⟨s, hs, ?_⟩
  rcases List.mem_cons.1 h with e | e
  · injection e with e1 e2; subst e1 e2; rfl
  · rcases List.mem_cons.1 e with e | e
    · injection e with e1 e2; subst e1 e2; rfl
    · cases e
theorem hull_of_sweep {L : List S25} {P : List Int} {E : List (Nat × Bool)} (hP : P.Pairwise (· < ·)) (hm : ∀ s ∈ L, s.f1 ∈ P ∧ s.f2 ∈ P) (hv : ∀ s ∈ L, s.f1 ≤ s.f2) (hE : E.Perm (unE P L)) (hs : SortedE E) :
    ((swE L.length E E.length).2.1 = -1 ∧ NoHull L) ∨
    ∃ (a b : Nat) (lo hi : Int), (swE L.length E E.length).2.1 = a ∧ (swE L.length E E.length).2.2 = b ∧ P[a]? = some lo ∧ P[b]? = some hi ∧ IsHull L lo hi := by
  have hD : ∀ p, p ∈ P → DE E (rkE P p) = depE L p := fun p hp => by rw [DE_perm hE]; exact DE_un hp L hm hv
  rcases sweep (n := (L.length : Int)) (by omega) hs (pre_all hE) with ⟨h1, h2⟩ | ⟨a, b, h1, h2, ha, hb, da, db, hall⟩
  · refine .inl ⟨h1, fun p => ?_⟩
    by_cases c : 0 < depE L p
    · obtain ⟨s, hs, _, _, hd⟩ := dep_lo c
      have := h2 (rkE P s.f1)
      rw [hD _ (hm s hs).1] at this
      omega
    · omega
  · obtain ⟨s, hs1, es⟩ := un_mem (hE.mem_iff.1 ha)
    obtain ⟨t, ht1, et⟩ := un_mem (hE.mem_iff.1 hb)
    simp only [if_true] at es
    simp only [Bool.false_eq_true, if_false] at et
    rw [es, hD _ (hm s hs1).1] at da
    rw [et, hD _ (hm t ht1).2] at db
    refine .inr ⟨a, b, s.f1, t.f2, h1, h2, by rw [es]; exact rk_get hP (hm s hs1).1, by rw [et]; exact rk_get hP (hm t ht1).2, ⟨s, hs1, rfl⟩, ⟨t, ht1, rfl⟩, by omega, by omega, fun p hp => ?_⟩
    have c : 0 < depE L p := by omega
    obtain ⟨x, hx, x1, x2, xd⟩ := dep_lo c
    obtain ⟨y, hy, y1, y2, yd⟩ := dep_hi c
    have k1 := (hall (rkE P x.f1) (by rw [hD _ (hm x hx).1]; omega)).1
    have k2 := (hall (rkE P y.f2) (by rw [hD _ (hm y hy).2]; omega)).2
    rw [es, rk_le_iff (hm s hs1).1 (hm x hx).1] at k1
    rw [et, rk_le_iff (hm y hy).2 (hm t ht1).2] at k2
    omega
theorem compact_inv (d : Array Int) (hs : ∀ i j, i ≤ j → j < d.size → d[i]! ≤ d[j]!) : ∀ m, m ≤ d.size →
    (Lib.compactUpTo d m).Pairwise (· < ·) ∧ (∀ x ∈ Lib.compactUpTo d m, ∃ j, j < m ∧ x = d[j]!) ∧ ∀ j, j < m → d[j]! ∈ Lib.compactUpTo d m
  | 0, _ => ⟨by simp [Lib.compactUpTo], by simp [Lib.compactUpTo], fun j h => by omega⟩
  | m + 1, h => by
    obtain ⟨h1, h2, h3⟩ := compact_inv d hs m (by omega)
    rw [Lib.compactUpTo_succ]
    by_cases c : m = 0 ∨ d[m]! ≠ d[m - 1]!
    · have e : Lib.keeps d m = true := by simp [Lib.keeps, c]
      rw [e, if_pos rfl]
      refine ⟨List.pairwise_append.2 ⟨h1, by simp, fun x hx y hy => ?_⟩, fun x hx => ?_, fun j hj => ?_⟩
      · obtain rfl : y = d[m]! := by simpa using hy
        obtain ⟨j, hj, rfl⟩ := h2 x hx
        rcases c with c | c
        · omega
        · have a1 := hs j (m - 1) (by omega) (by omega)
          have a2 := hs (m - 1) m (by omega) (by omega)
          omega
      · rcases List.mem_append.1 hx with e | e
        · obtain ⟨j, hj, e⟩ := h2 x e; exact ⟨j, by omega, e⟩
        · exact ⟨m, by omega, by simpa using e⟩
      · by_cases q : j = m
        · subst q; simp
        · exact List.mem_append_left _ (h3 j (by omega))
    · have c1 : ¬ m = 0 := fun q => c (.inl q)
      have c2 : d[m]! = d[m - 1]! := by
        by_cases q : d[m]! = d[m - 1]!
        · exact q
        · exact absurd (.inr q) c
      have e : Lib.keeps d m = false := by simp [Lib.keeps, c1, c2]
      rw [e]
      simp only [Bool.false_eq_true, if_false, List.append_nil]
      refine ⟨h1, fun x hx => ?_, fun j hj => ?_⟩
      · obtain ⟨j, hj, e⟩ := h2 x hx; exact ⟨j, by omega, e⟩
      · by_cases q : j = m
        · subst q; rw [c2]; exact h3 _ (by omega)
        · exact h3 j (by omega)
def plE (L : List S25) : List Int := L.flatMap (fun s => [s.f1, s.f2])
def srtE (L : List S25) : List Int := (plE L).mergeSort fun x y => decide (x ≤ y)
def posE (L : List S25) : List Int := Lib.compact (srtE L)
theorem srt_perm (L : List S25) : (srtE L).Perm (plE L) := List.mergeSort_perm _ _
theorem srt_sorted (L : List S25) : (srtE L).Pairwise (· ≤ ·) := by
  have := List.pairwise_mergeSort (le := fun x y : Int => decide (x ≤ y)) (fun a b c h1 h2 => by simp at *; omega) (fun a b => by simp; omega) (plE L)
  exact this.imp (by simp)
theorem pos_ok (L : List S25) : (posE L).Pairwise (· < ·) ∧ (∀ s ∈ L, s.f1 ∈ posE L ∧ s.f2 ∈ posE L) ∧ (posE L).length ≤ 2 * L.length := by
  have hs : ∀ i j, i ≤ j → j < (srtE L).toArray.size → (srtE L).toArray[i]! ≤ (srtE L).toArray[j]! := fun i j hij hj => by
    have hj' : j < (srtE L).length := by simpa using hj
    rw [getElem!_pos _ i (by simp; omega), getElem!_pos _ j (by simpa using hj')]
    simp only [List.getElem_toArray]
    by_cases e : i = j
    · subst e; exact Int.le_refl _
    · exact List.pairwise_iff_getElem.1 (srt_sorted L) i j (by omega) hj' (by omega)
  obtain ⟨h1, h2, h3⟩ := compact_inv (srtE L).toArray hs (srtE L).length (by simp)
  have hmem : ∀ x, x ∈ plE L → x ∈ posE L := fun x hx => by
    obtain ⟨j, hj⟩ := List.getElem?_of_mem ((srt_perm L).mem_iff.2 hx)
    obtain ⟨hjl, rfl⟩ := List.getElem?_eq_some_iff.1 hj
    have := h3 j hjl
    rw [getElem!_pos _ j (by simpa using hjl)] at this
    simpa [posE, Lib.compact] using this
  refine ⟨h1, fun s hs => ⟨hmem _ ?_, hmem _ ?_⟩, ?_⟩
  · exact List.mem_flatMap.2 ⟨s, hs, by simp⟩
  · exact List.mem_flatMap.2 ⟨s, hs, by simp⟩
  · have a : (Lib.compactUpTo (srtE L).toArray (srtE L).length).length ≤ (srtE L).length := by
      unfold Lib.compactUpTo
      rw [List.length_map]
      exact Nat.le_trans (List.length_filter_le _ _) (by simp)
    have b : (srtE L).length = (plE L).length := (srt_perm L).length_eq
    have c : (plE L).length = 2 * L.length := by
      unfold plE
      clear a b hmem hs h1 h2 h3
      induction L with
      | nil => rfl
      | cons s L ih => rw [List.flatMap_cons]; simp at ih ⊢; omega
    unfold posE Lib.compact
    omega
def mayE (s : S25) : Bool := decide (0 ≤ s.f1) && decide (s.f1 ≤ s.f2) && decide (s.f2 ≤ 4611686018427387904)
def okE (L : List S25) : Bool := decide (L.length ≤ 16) && L.all mayE
def mnE (L : List S25) : Option Int := ((L.map (·.f1)).filter (fun p => decide (L.length < 2 * depE L p))).min?
def mxE (L : List S25) : Option Int := ((L.map (·.f2)).filter (fun p => decide (L.length < 2 * depE L p))).max?
def hullZ (L : List S25) : Int × Int × Int := if okE L = true then (match mnE L, mxE L with | some lo, some hi => (lo, hi, 0) | _, _ => (0, 0, 33)) else (0, 0, 1)
theorem hullZ_is {L : List S25} {lo hi : Int} (ho : okE L = true) (h : IsHull L lo hi) : hullZ L = (lo, hi, 0) := by
  have h1 : mnE L = some lo := by
    unfold mnE
    rw [List.min?_eq_some_iff]
    refine ⟨List.mem_filter.2 ⟨?_, by simpa using h.lo_deep⟩, fun b hb => ?_⟩
    · obtain ⟨s, hs, e⟩ := h.lo_mem; exact List.mem_map.2 ⟨s, hs, e⟩
    · exact (h.all b (by simpa using (List.mem_filter.1 hb).2)).1
  have h2 : mxE L = some hi := by
    unfold mxE
    rw [List.max?_eq_some_iff]
    refine ⟨List.mem_filter.2 ⟨?_, by simpa using h.hi_deep⟩, fun b hb => ?_⟩
    · obtain ⟨s, hs, e⟩ := h.hi_mem; exact List.mem_map.2 ⟨s, hs, e⟩
    · exact (h.all b (by simpa using (List.mem_filter.1 hb).2)).2
  unfold hullZ
  rw [if_pos ho, h1, h2]
theorem hullZ_no {L : List S25} (ho : okE L = true) (h : NoHull L) : hullZ L = (0, 0, 33) := by
  have h1 : mnE L = none := by
    unfold mnE
    rw [List.min?_eq_none_iff, List.filter_eq_nil_iff]
    intro p _
    have := h p
    simp; omega
  unfold hullZ
  rw [if_pos ho, h1]
theorem hullZ_bad {L : List S25} (ho : ¬ okE L = true) : hullZ L = (0, 0, 1) := if_neg ho
def endE (L : List S25) : List (Nat × Bool) := (unE (posE L) L).mergeSort fun a b => leE a b
theorem leE_trans (a b c : Nat × Bool) (h1 : leE a b = true) (h2 : leE b c = true) : leE a c = true := by
  rw [leE_iff] at *
  rcases h1 with h1 | ⟨h1, h1' | h1'⟩ <;> rcases h2 with h2 | ⟨h2, h2' | h2'⟩
  · left; omega
  · left; omega
  · left; omega
  · left; omega
  · right; exact ⟨by omega, .inl h1'⟩
  · right; exact ⟨by omega, .inl h1'⟩
  · left; omega
  · rw [h1'] at h2'; cases h2'
  · right; exact ⟨by omega, .inr h2'⟩
theorem leE_total (a b : Nat × Bool) : (leE a b || leE b a) = true := by
  rw [Bool.or_eq_true, leE_iff, leE_iff]
  by_cases h : a.1 = b.1
  · cases ha : a.2 <;> cases hb : b.2 <;> simp [h]
  · omega
theorem end_perm (L : List S25) : (endE L).Perm (unE (posE L) L) := List.mergeSort_perm _ _
theorem end_sorted (L : List S25) : SortedE (endE L) := SortedE.of (List.pairwise_mergeSort leE_trans leE_total _)
theorem un_len (P : List Int) : ∀ L : List S25, (unE P L).length = 2 * L.length
  | [] => rfl
  | s :: L => by have := un_len P L; unfold unE at *; rw [List.flatMap_cons]; simp at this ⊢; omega
theorem end_len (L : List S25) : (endE L).length = 2 * L.length := (end_perm L).length_eq.trans (un_len _ L)
theorem ok_lohi {L : List S25} (ho : okE L = true) : ∀ s ∈ L, 0 ≤ s.f1 ∧ s.f1 ≤ s.f2 ∧ s.f2 ≤ 4611686018427387904 := fun s hs => by
  unfold okE at ho
  rw [Bool.and_eq_true] at ho
  have := List.all_eq_true.1 ho.2 s hs
  unfold mayE at this
  simp at this
  omega
theorem hull_cases {L : List S25} (ho : okE L = true) : (NoHull L ∧ hullZ L = (0, 0, 33)) ∨ ∃ lo hi, IsHull L lo hi ∧ hullZ L = (lo, hi, 0) := by
  obtain ⟨p1, p2, _⟩ := pos_ok L
  rcases hull_of_sweep p1 p2 (fun s hs => (ok_lohi ho s hs).2.1) (end_perm L) (end_sorted L) with ⟨_, h⟩ | ⟨a, b, lo, hi, _, _, _, _, h⟩
  · exact .inl ⟨h, hullZ_no ho h⟩
  · exact .inr ⟨lo, hi, h, hullZ_is ho h⟩
end Go.Proofs.YtapagoaoglmegaaGreat
namespace Go.Proofs.YtapagoaoglmegaaGreat
open Go.RowKit
set_option linter.unusedVariables false
def Lst (w : World) (e : TypeId) (v : Value) (l : List Value) : Prop :=
  ∃ A cap, v = .slice A l.length cap ∧ l.length ≤ cap ∧ cap ≤ maxLen ∧
    (l = [] ∨ ∃ r off cs, A = some ⟨r, off, none⟩ ∧ Blk w r cs e ∧ ∀ i u, l[i]? = some u → cs[off + i]? = some u)
theorem Lst.nil (w : World) (e : TypeId) : Lst w e (.slice none 0 0) [] := ⟨none, 0, rfl, by simp, by simp, .inl rfl⟩
theorem Lst.fr {w w' : World} {e : TypeId} {v : Value} {l : List Value} {S : Nat → Prop} (h : Lst w e v l) (k : Fr S w w') (hS : ∀ r cs, S r → ¬ Blk w r cs e) : Lst w' e v l := by
  obtain ⟨A, cap, hv, hl, hm, h⟩ := h
  refine ⟨A, cap, hv, hl, hm, ?_⟩
  rcases h with h | ⟨r, off, cs, hA, hb, hc⟩
  · exact .inl h
  · exact .inr ⟨r, off, cs, hA, hb.fr k (fun hs => hS r cs hs hb), hc⟩
theorem Lst.drewN {w : World} {e : TypeId} {v : Value} {l : List Value} (h : Lst w e v l) (n : Nat) : Lst (w.drewN n) e v l := h
theorem Lst.drew {w : World} {e : TypeId} {v : Value} {l : List Value} (h : Lst w e v l) : Lst w.drew e v l := h
theorem Lst.get {w : World} {e : TypeId} {A : Option Addr} {len cap i : Nat} {l : List Value} {u : Value} (h : Lst w e (.slice A len cap) l) (hi : l[i]? = some u) :
    ∃ r off, A = some ⟨r, off, none⟩ ∧ w.cell? ⟨r, off + i, none⟩ = some u ∧ r < w.heap.size := by
  obtain ⟨A', cap', hv, _, _, h⟩ := h
  injection hv with h1 h2 h3
  subst h1
  rcases h with h | ⟨r, off, cs, hA, hb, hc⟩
  · subst h; simp at hi
  · exact ⟨r, off, hA, by rw [hb.cell]; exact hc i u hi, hb.lt⟩
theorem Lst.form {w : World} {e : TypeId} {v : Value} {l : List Value} (h : Lst w e v l) : ∃ A cap, v = .slice A l.length cap ∧ l.length ≤ cap ∧ cap ≤ maxLen := by
  obtain ⟨A, cap, hv, hl, hm, _⟩ := h
  exact ⟨A, cap, hv, hl, hm⟩
theorem Lst.drop {w : World} {e : TypeId} {r off len cap k : Nat} {l : List Value} (h : Lst w e (.slice (some ⟨r, off, none⟩) len cap) l) (hk : k ≤ l.length) :
    Lst w e (.slice (some ⟨r, off + k, none⟩) (len - k) (cap - k)) (l.drop k) := by
  obtain ⟨A, cap', hv, hl, hm, h⟩ := h
  injection hv with h1 h2 h3
  subst h1 h2 h3
  refine ⟨some ⟨r, off + k, none⟩, cap - k, by simp, by simp; omega, by omega, ?_⟩
  rcases h with h | ⟨r', off', cs, hA, hb, hc⟩
  · exact .inl (by subst h; simp)
  · injection hA with hA
    injection hA with e1 e2
    subst e1 e2
    refine .inr ⟨r, off + k, cs, rfl, hb, fun i u hi => ?_⟩
    rw [List.getElem?_drop] at hi
    have := hc (k + i) u hi
    rwa [← Nat.add_assoc] at this
theorem Lst.new (w : World) (e : TypeId) (l : List Value) (hl : l ≠ []) (hm : l.length ≤ maxLen) : Lst (w.alloc (.cells l.toArray e)) e (.slice (some ⟨w.heap.size, 0, none⟩) l.length l.length) l :=
  ⟨_, _, rfl, Nat.le_refl _, hm, .inr ⟨w.heap.size, 0, l.toArray, rfl, Blk.new _ _ _, fun i u hi => by simpa using hi⟩⟩
section
variable {P : Program} {ops : Array Oper} {rest : List Oper} {o : Oper} {a : Act} {Q : Exit → Act → World → Prop} {w : World}
theorem run_append_zero (t ty e : TypeId) (i : TypeInfo) (ht : P.underlying t = some (.slice e)) (hi : P.info? e = some i) (A B : Option Addr) (n c cc : Nat) (hn : n ≤ c) :
    (Builtin.append_ #[t, t] ty #[.slice A n c, .slice B 0 cc]).run P w = .ok (.slice A n c) w := by
  have hs : (sizeOf e).run P w = .ok i.size w := by simp [sizeOf, typeInfo, hi]
  have hu := run_underlying (P := P) (w := w) ht
  cases A <;> cases B <;> simp [Builtin.append_, hu, hs, Builtin.lenOf, Builtin.firstCells, loadCells, loadCellsFrom, storeCells, hn]
theorem wpList_append_lst (hgd : o.guard = none) (s x : Operand) (t : TypeId)
    (ho : o.op = .call { callee := .builtin .append, args := #[s, x], argTypes := #[t, t] })
    (base : Nat) (e : TypeId) (z : Value) (bytes : Nat) (ht : P.underlying t = some (.slice e)) (hinfo : (P.info? e).map (fun i => (i.zero, i.size, i.bytes)) = some (some z, 1, bytes)) (hz : z.cells.size = 1)
    (v sv : Value) (xs news : List Value) (hs : a.eval s = v) (hx : a.eval x = sv) (hown : w.ownsRow base e 1 v xs.length xs) (hsrc : Lst w e sv news) (h1 : ∀ u ∈ news, u.oneCell' = true)
    (hlen : xs.length + news.length ≤ maxLen) (hbytes : (xs.length + news.length) * bytes ≤ 140737488355328) (hbase : base ≤ w.heap.size)
    (h : ∀ v' w', w'.ownsRow base e 1 v' (xs ++ news).length (xs ++ news) → w.grownBy w' v.ownBlock → (v'.ownBlock = v.ownBlock ∨ v'.ownBlock = some w.heap.size) → wpList P ops Q rest (a.put o.dst v') w') :
    wpList P ops Q (o :: rest) a w := by
  obtain ⟨i0, hi, hzz⟩ := Option.map_eq_some_iff.1 hinfo
  simp only [Prod.mk.injEq] at hzz
  obtain ⟨hz0, hz1, hz2⟩ := hzz
  by_cases hn : news = []
  · subst hn
    obtain ⟨B, cc, rfl, _, _⟩ := hsrc.form
    simp only [List.append_nil] at h
    refine wpList_plain hgd fun K hK => ?_
    have hv : ∃ A c, v = .slice A xs.length c ∧ xs.length ≤ c := by
      rcases hown.2 with ⟨rfl, h0⟩ | ⟨g, cap, cur, rfl, _, _, hc, _⟩
      · exact ⟨none, 0, by rw [h0], by omega⟩
      · exact ⟨_, cap, rfl, hc⟩
    obtain ⟨A, c, rfl, hc⟩ := hv
    unfold Oper.wp execOp
    simp only [ho, resolve, invoke, builtin, Sem.run_bind, Sem.run_pure, Result.andThen_ok, List.map_toArray, List.map_cons, List.map_nil, hs, hx]
    rw [show ([] : List Value).length = 0 from rfl, run_append_zero t o.type e i0 ht hi A B xs.length c cc hc]
    exact hK _ _ (h _ _ hown ⟨rfl, rfl, rfl, Nat.le_refl _, fun _ _ _ => rfl⟩ (.inl rfl))
  · obtain ⟨u, hu⟩ : ∃ u, news[0]? = some u := by
      cases news with
      | nil => exact absurd rfl hn
      | cons u l => exact ⟨u, rfl⟩
    obtain ⟨B, cc, rfl, _, _⟩ := hsrc.form
    obtain ⟨r, off, rfl, _, _⟩ := hsrc.get hu
    have hadd : ∀ k, (⟨r, off, none⟩ : Addr).add k = ⟨r, off + k, none⟩ := by intro k; unfold Addr.add; split <;> simp_all
    refine wpList_append_own_at (P := P) (w := w) hgd s x t ho base e i0 z 1 bytes ht hi hz0 hz1 hz2 hz (by decide) v xs.length xs hs hown ⟨r, off, none⟩ news.length cc news hx (by simp) ?_ h1 hlen hbytes hbase ?_
    · intro j u hj
      rw [hadd]
      obtain ⟨r', off', e1, e2, _⟩ := hsrc.get hj
      injection e1 with e1
      injection e1 with e3 e4
      subst e3 e4
      exact e2
    · intro v' w' h2 h3 _ h5
      exact h v' w' (by rw [List.length_append]; exact h2) h3 h5
end
theorem Fr.grown {S : Nat → Prop} {a w w' : World} {row : Option Nat} (h : Fr S a w) (g : w.grownBy w' row) (hr : ∀ k, row = some k → a.heap.size ≤ k ∨ S k) : Fr S a w' :=
  ⟨g.os.trans h.os, g.tape.trans h.tape, g.output.trans h.output, Nat.le_trans h.size g.size, fun k hk hn => (g.block k (Nat.lt_of_lt_of_le hk h.size) (fun e => by
    rcases hr k e.symm with h' | h'
    · omega
    · exact hn h')).trans (h.block k hk hn)⟩
end Go.Proofs.YtapagoaoglmegaaGreat
namespace Go.Proofs.YtapagoaoglmegaaGreat
open Go.RowKit Go.Proofs.YtapagoaoglmegaaGreatW.PrintWords Go.Proofs.YtapagoaoglmegaaGreatW.PrintLast Go.Proofs.YtapagoaoglmegaaGreatW.PrintMore PCl
set_option linter.unusedVariables false
set_option linter.unusedSimpArgs false
set_option maxRecDepth 100000
theorem hidE {p : Prop} (h : p) : Hid p := h
theorem spotE {w : World} {ad : Addr} {v : Value} (h : w.cell? ad = some v) : ∃ r off, ad = ⟨r, off, none⟩ := by
  obtain ⟨r, off, spot⟩ := ad
  cases spot with
  | none => exact ⟨r, off, rfl⟩
  | some s => simp only [World.cell?] at h; split at h <;> simp_all
theorem addE (r off k : Nat) : (⟨r, off, none⟩ : Addr).add k = ⟨r, off + k, none⟩ := by unfold Addr.add; split <;> simp_all
def encS (s : S25) : List Value := [.int .i64 s.f0, .int .i64 s.f1, .int .i64 s.f2]
@[reducible] def vS (s : S25) : Value := .agg #[.int .i64 s.f0, .int .i64 s.f1, .int .i64 s.f2]
def AtS (w : World) (r o : Nat) (s : S25) : Prop :=
  w.cell? ⟨r, o, none⟩ = some (.int .i64 s.f0) ∧ w.cell? ⟨r, o + 1, none⟩ = some (.int .i64 s.f1) ∧ w.cell? ⟨r, o + 2, none⟩ = some (.int .i64 s.f2)
theorem AtS.fr {w w' : World} {r o : Nat} {s : S25} {S : Nat → Prop} (h : AtS w r o s) (k : Fr S w w') (hs : ¬ S r) : AtS w' r o s := by
  have hb := World.block_lt_of_cell? w _ h.1
  exact ⟨(k.cell (a := ⟨r, o, none⟩) hb hs).trans h.1, (k.cell (a := ⟨r, o + 1, none⟩) hb hs).trans h.2.1, (k.cell (a := ⟨r, o + 2, none⟩) hb hs).trans h.2.2⟩
theorem rdE {l : List S25} {i : Nat} {s : S25} (h : l[i]? = some s) : rd_T25 l (i : Int) = s := by
  unfold rd_T25; simp [h]
theorem C25_open {w : World} {A : Option Addr} {l : List S25} (h : Kd.C k25 w A l.length l) (hn : 0 < l.length) : ∃ r off, A = some ⟨r, off, none⟩ ∧ r < w.heap.size ∧ ∀ i s, l[i]? = some s → AtS w r (off + i * 3) s := by
  obtain ⟨ad, rfl, h0, _⟩ := at_T25 h 0 (by omega) (by omega)
  rw [show (0 : Int).toNat * 3 = 0 from rfl] at h0
  have e0 : ad.add 0 = ad := by unfold Addr.add; simp
  rw [e0] at h0
  obtain ⟨r, off, rfl⟩ := spotE h0
  refine ⟨r, off, rfl, World.block_lt_of_cell? w _ h0, fun i s hi => ?_⟩
  have hil := (List.getElem?_eq_some_iff.1 hi).1
  obtain ⟨ad, e, h1, h2, h3⟩ := at_T25 h (i : Int) (by omega) (by omega)
  obtain rfl := Option.some.inj e
  rw [rdE hi, Int.toNat_natCast, addE] at h1 h2 h3
  exact ⟨h1, h2, h3⟩
theorem C25_len {w : World} {A : Option Addr} {l : List S25} (h : Kd.C k25 w A l.length l) : l.length ≤ 9223372036854775807 := h.2.1
theorem emay_at (s : S25) (W : World) : Calls Tryz.prog 43 #[vS s] W fun e w' => e = .returned (.bool (mayE s)) ∧ Fr (fun _ => False) W w' := by
  by_cases h1 : 0 ≤ s.f1
  · by_cases h2 : s.f1 ≤ s.f2
    · by_cases h3 : s.f2 ≤ 4611686018427387904
      · have e : mayE s = true := by unfold mayE; simp [h1, h2, h3]
        rw [e]
        clear e
        have t1 : decide (s.f1 ≥ 0) = true := decide_eq_true h1
        have t2 : decide (s.f1 ≤ s.f2) = true := decide_eq_true h2
        have t3 : decide (s.f2 ≤ 4611686018427387904) = true := decide_eq_true h3
        go_enter Tryz.func43, Tryz.ntmps43
        go_wp2
        go_ret
        exact ⟨rfl, by (repeat' (first | (with_reducible exact Fr.refl _ _) | (with_reducible assumption) | (with_reducible refine Fr.alloc ?_ _) | (with_reducible refine Fr.drew ?_) | (with_reducible refine Fr.drewN ?_ _) | (with_reducible refine Fr.setCell ?_ _ _ ?_) | (exact Or.inr rfl) | (left; simp; done) | (left; simp; omega) | (simp; done) | (simp; omega) | omega))⟩
      · have e : mayE s = false := by unfold mayE; simp [h3]
        rw [e]
        clear e
        have t1 : decide (s.f1 ≥ 0) = true := decide_eq_true h1
        have t2 : decide (s.f1 ≤ s.f2) = true := decide_eq_true h2
        have t3 : decide (s.f2 ≤ 4611686018427387904) = false := decide_eq_false h3
        go_enter Tryz.func43, Tryz.ntmps43
        go_wp2
        go_ret
        exact ⟨rfl, by (repeat' (first | (with_reducible exact Fr.refl _ _) | (with_reducible assumption) | (with_reducible refine Fr.alloc ?_ _) | (with_reducible refine Fr.drew ?_) | (with_reducible refine Fr.drewN ?_ _) | (with_reducible refine Fr.setCell ?_ _ _ ?_) | (exact Or.inr rfl) | (left; simp; done) | (left; simp; omega) | (simp; done) | (simp; omega) | omega))⟩
    · have e : mayE s = false := by unfold mayE; simp [h2]
      rw [e]
      clear e
      have t1 : decide (s.f1 ≥ 0) = true := decide_eq_true h1
      have t2 : decide (s.f1 ≤ s.f2) = false := decide_eq_false h2
      go_enter Tryz.func43, Tryz.ntmps43
      go_wp2
      go_ret
      exact ⟨rfl, by (repeat' (first | (with_reducible exact Fr.refl _ _) | (with_reducible assumption) | (with_reducible refine Fr.alloc ?_ _) | (with_reducible refine Fr.drew ?_) | (with_reducible refine Fr.drewN ?_ _) | (with_reducible refine Fr.setCell ?_ _ _ ?_) | (exact Or.inr rfl) | (left; simp; done) | (left; simp; omega) | (simp; done) | (simp; omega) | omega))⟩
  · have e : mayE s = false := by unfold mayE; simp [h1]
    rw [e]
    clear e
    have t1 : decide (s.f1 ≥ 0) = false := decide_eq_false h1
    go_enter Tryz.func43, Tryz.ntmps43
    go_wp2
    go_ret
    exact ⟨rfl, by (repeat' (first | (with_reducible exact Fr.refl _ _) | (with_reducible assumption) | (with_reducible refine Fr.alloc ?_ _) | (with_reducible refine Fr.drew ?_) | (with_reducible refine Fr.drewN ?_ _) | (with_reducible refine Fr.setCell ?_ _ _ ?_) | (exact Or.inr rfl) | (left; simp; done) | (left; simp; omega) | (simp; done) | (simp; omega) | omega))⟩
theorem bad_at (s : S25) (W : World) : Calls Tryz.prog 42 #[vS s] W fun e w' => e = .returned (.bool (!mayE s)) ∧ Fr (fun _ => False) W w' := by
  obtain ⟨q, hq⟩ : ∃ q, q = mayE s := ⟨_, rfl⟩
  have HM : Hid (∀ W, Calls Tryz.prog 43 #[vS s] W fun e w' => e = .returned (.bool q) ∧ Fr (fun _ => False) W w') := hidE (by rw [hq]; exact emay_at s)
  rw [← hq]
  clear hq
  go_enter Tryz.func42, Tryz.ntmps42
  go_wp2_with fail
  generalize hW : World.alloc W _ = W1
  have f0 : Fr (fun _ => False) W W1 := by subst hW; (repeat' (first | (with_reducible exact Fr.refl _ _) | (with_reducible assumption) | (with_reducible refine Fr.alloc ?_ _) | (with_reducible refine Fr.drew ?_) | (with_reducible refine Fr.drewN ?_ _) | (with_reducible refine Fr.setCell ?_ _ _ ?_) | (exact Or.inr rfl) | (left; simp; done) | (left; simp; omega) | (simp; done) | (simp; omega) | omega))
  clear hW
  refine (HM.out _).mono ?_
  rintro e w2 ⟨rfl, k2⟩
  go_wp2
  go_ret
  exact ⟨rfl, f0.trans k2 (fun _ _ h => h)⟩
section
open Go.Shelf
shelf_lay_g SlLaysH0.n8 Slgf 8 at Tryz 41 as YtapagoaoglmegaaGreat.ctf
end
instance inhS : Inhabited S25 := ⟨z25⟩
theorem ix_none (A : Option Addr) (cap : Nat) (w : World) : Calls Tryz.prog 90 #[.slice A 0 cap, .func (.func 42) #[] #[]] w fun e w' => e = .returned (.int .i64 (-1)) ∧ Fr (fun _ => False) w w' := by
  go_enter Tryz.func90, Tryz.ntmps90
  go_wp2
  refine wp_loop_rounds 1 ?_
  rw [rounds_succ]
  go_wp2
  go_ret
  exact ⟨rfl, by (repeat' (first | (with_reducible exact Fr.refl _ _) | (with_reducible assumption) | (with_reducible refine Fr.alloc ?_ _) | (with_reducible refine Fr.drew ?_) | (with_reducible refine Fr.drewN ?_ _) | (with_reducible refine Fr.setCell ?_ _ _ ?_) | (exact Or.inr rfl) | (left; simp; done) | (left; simp; omega) | (simp; done) | (simp; omega) | omega))⟩
theorem bad_none (A : Option Addr) (cap : Nat) (w : World) : Calls Tryz.prog 41 #[.slice A 0 cap, .func (.func 42) #[] #[]] w fun e w' => e = .returned (.bool false) ∧ Fr (fun _ => False) w w' := by
  go_enter Tryz.func41, Tryz.ntmps41
  go_wp2_with fail
  refine (ix_none A cap _).mono ?_
  rintro e w1 ⟨rfl, k1⟩
  go_wp2
  go_ret
  exact ⟨rfl, k1⟩
theorem bad_any {w : World} {A : Option Addr} {cap : Nat} {L : List S25} (hC : Kd.C k25 w A L.length L) (hc : L.length ≤ cap) :
    Calls Tryz.prog 41 #[.slice A L.length cap, .func (.func 42) #[] #[]] w fun e w' => e = .returned (.bool (L.any fun s => !mayE s)) ∧ Fr (fun _ => False) w w' := by
  by_cases hn : 0 < L.length
  · obtain ⟨r, off, rfl, hr, hat⟩ := C25_open hC hn
    have hp : Go.Proofs.PredBelow Tryz.prog 42 #[] (fun s => .agg (encS s).toArray) (fun s => !mayE s) w := fun W s hb => (bad_at s W).mono fun e w' h => ⟨h.1, hb.trans (h.2.below.mono hb.size)⟩
    have hcell : ∀ j, j < L.length → ∀ i v, (encS L[j]!)[i]? = some v → w.cell? ⟨r, off + j * 3 + i, none⟩ = some v := fun j hj i v hv => by
      have h1 : L[j]? = some L[j]! := by rw [getElem!_pos _ j hj]; exact List.getElem?_eq_getElem hj
      obtain ⟨a0, a1, a2⟩ := hat j _ h1
      match i, hv with
      | 0, hv => have hv := Option.some.inj hv; subst hv; exact a0
      | 1, hv => have hv := Option.some.inj hv; subst hv; exact a1
      | 2, hv => have hv := Option.some.inj hv; subst hv; exact a2
      | i + 3, hv => simp [encS] at hv
    have := AnyQ.slices_ContainsFunc YtapagoaoglmegaaGreat.ctf 3 Tryz.isAgg25 Tryz.sizeOf25 encS (fun _ => rfl) (fun s => !mayE s) 42 #[] (enters_of Tryz.func42 (by kernel_rfl) rfl) r off L.length cap L w hp (Nat.le_refl _) (C25_len hC) hr hcell
    rw [List.take_length] at this
    exact this.mono fun e w' h => ⟨h.1, Fr.of_below h.2 (Nat.le_refl _) _⟩
  · have h0 : L = [] := List.eq_nil_of_length_eq_zero (by omega)
    subst h0
    exact bad_none A cap w
end Go.Proofs.YtapagoaoglmegaaGreat
namespace Go.Proofs.YtapagoaoglmegaaGreat
open Go
def flE (n : Int) : Nat := floatOfInt .f64 n
def oneE : Nat := 4607182418800017408
def moneE : Nat := 13830554455654793216
def hfE (n : Int) : Nat := (floatBits .quo .f64 (flE n) 4611686018427387904).getD 0
theorem cmp_tab : ((List.range 64).all fun a => (List.range 64).all fun b => (FloatKind.f64.format.order (flE a) (flE b) == some (compare a b))) = true := by kernel_rfl
theorem sgn_tab : (FloatKind.f64.format.order oneE oneE == some .eq && FloatKind.f64.format.order moneE moneE == some .eq && FloatKind.f64.format.order oneE moneE == some .gt && FloatKind.f64.format.order moneE oneE == some .lt) = true := by kernel_rfl
theorem im_tab : ((List.range 81).all fun a => floatBits .add .f64 (flE ((a : Int) - 40)) oneE == some (flE ((a : Int) - 39)) && floatBits .add .f64 (flE ((a : Int) - 40)) moneE == some (flE ((a : Int) - 41))) = true := by kernel_rfl
theorem hf_tab : ((List.range 81).all fun a => (List.range 21).all fun n => (FloatKind.f64.format.order (flE ((a : Int) - 40)) (hfE n) == some (compare (2 * ((a : Int) - 40)) (n : Int))) && floatBits .quo .f64 (flE n) 4611686018427387904 == some (hfE n)) = true := by kernel_rfl
theorem int_tab : ((List.range 64).all fun a => floatToIntVal .f64 (flE a) .i64 == some (a : Int)) = true := by kernel_rfl
theorem low_tab : ((List.range 64).all fun a => decide (flE a < 9218868437227405312)) = true := by kernel_rfl
theorem fl_zero : flE 0 = 0 := by kernel_rfl
theorem fl_ord {a b : Nat} (ha : a < 64) (hb : b < 64) : FloatKind.f64.format.order (flE a) (flE b) = some (compare a b) := by
  have := List.all_eq_true.1 (List.all_eq_true.1 cmp_tab a (List.mem_range.2 ha)) b (List.mem_range.2 hb)
  simpa using this
theorem im_add {z : Int} (h1 : -40 ≤ z) (h2 : z ≤ 40) : floatBits .add .f64 (flE z) oneE = some (flE (z + 1)) ∧ floatBits .add .f64 (flE z) moneE = some (flE (z - 1)) := by
  have := List.all_eq_true.1 im_tab (z + 40).toNat (List.mem_range.2 (by omega))
  rw [show (((z + 40).toNat : Nat) : Int) = z + 40 by omega] at this
  rw [show z + 40 - 40 = z by omega, show z + 40 - 39 = z + 1 by omega, show z + 40 - 41 = z - 1 by omega] at this
  simpa using this
theorem hf_ord {z : Int} {n : Nat} (h1 : -40 ≤ z) (h2 : z ≤ 40) (hn : n ≤ 20) : FloatKind.f64.format.order (flE z) (hfE n) = some (compare (2 * z) (n : Int)) := by
  have := List.all_eq_true.1 (List.all_eq_true.1 hf_tab (z + 40).toNat (List.mem_range.2 (by omega))) n (List.mem_range.2 (by omega))
  rw [show (((z + 40).toNat : Nat) : Int) = z + 40 by omega, show z + 40 - 40 = z by omega, Bool.and_eq_true] at this
  simpa using this.1
theorem hf_is {n : Nat} (hn : n ≤ 20) : floatBits .quo .f64 (flE n) 4611686018427387904 = some (hfE n) := by
  have := List.all_eq_true.1 (List.all_eq_true.1 hf_tab 0 (List.mem_range.2 (by omega))) n (List.mem_range.2 (by omega))
  rw [Bool.and_eq_true] at this
  simpa using this.2
theorem fl_int {a : Nat} (ha : a < 64) : floatToIntVal .f64 (flE a) .i64 = some (a : Int) := by
  have := List.all_eq_true.1 int_tab a (List.mem_range.2 ha)
  simpa using this
theorem fl_low {a : Nat} (ha : a < 64) : flE a < 9218868437227405312 := by
  have := List.all_eq_true.1 low_tab a (List.mem_range.2 ha)
  simpa using this
theorem read_good {x : Nat} (h : x ≤ 9218868437227405312) : (∃ m i, FloatKind.f64.format.read x = .number false m i) ∨ (FloatKind.f64.format.read x = .infinity false ∧ x = 9218868437227405312) := by
  have e1 : x / FloatKind.f64.format.signWeight = 0 := Nat.div_eq_of_lt (by show x < 9223372036854775808; omega)
  have e2 : x % FloatKind.f64.format.signWeight = x := Nat.mod_eq_of_lt (by show x < 9223372036854775808; omega)
  unfold Ieee.Format.read
  simp only [e1, e2]
  split
  · exact .inl ⟨_, _, rfl⟩
  · split
    · exact .inl ⟨_, _, rfl⟩
    · rename_i h1 h2
      have h3 : ¬ x < 9218868437227405312 := h2
      have h4 : x = FloatKind.f64.format.infRung := by show x = 9218868437227405312; omega
      rw [if_pos h4]
      exact .inr ⟨rfl, by omega⟩
theorem inf_rung : FloatKind.f64.format.infRung = 9218868437227405312 := by kernel_rfl
theorem word_good (n : Nat) : FloatKind.f64.format.word false (min n FloatKind.f64.format.infRung) ≤ 9218868437227405312 := by
  rw [inf_rung]
  exact Nat.min_le_right _ _
theorem near_good (m : Nat) (i : Int) : FloatKind.f64.format.nearest false m i ≤ 9218868437227405312 := by
  unfold Ieee.Format.nearest
  split
  · exact Nat.zero_le _
  · exact word_good _
theorem re_add {x y : Nat} (hx : x ≤ 9218868437227405312) (hy : y < 9218868437227405312) : ∃ r, floatBits .add .f64 x y = some r ∧ r ≤ 9218868437227405312 := by
  show ∃ r, FloatKind.f64.format.add x y = some r ∧ r ≤ 9218868437227405312
  unfold Ieee.Format.add
  rcases read_good (show y ≤ 9218868437227405312 by omega) with ⟨n, j, hy1⟩ | ⟨_, hy1⟩
  · rw [hy1]
    rcases read_good hx with ⟨m, i, hx1⟩ | ⟨hx1, _⟩
    · rw [hx1]
      refine ⟨_, rfl, ?_⟩
      unfold Ieee.Format.write
      simp only
      have e : ∀ a b : Nat, (if Ieee.signed false m a + Ieee.signed false n b = 0 then false && false else decide (Ieee.signed false m a + Ieee.signed false n b < 0)) = false := fun a b => by
        have h1 : 0 ≤ Ieee.signed false m a := Int.natCast_nonneg (m <<< a)
        have h2 : 0 ≤ Ieee.signed false n b := Int.natCast_nonneg (n <<< b)
        split
        · rfl
        · simp; omega
      rw [e]
      exact near_good _ _
    · rw [hx1]
      exact ⟨_, rfl, by decide⟩
  · omega
end Go.Proofs.YtapagoaoglmegaaGreat
namespace Go.Proofs
open Go.Shelf
shelf_lay_g SlLaysM.n5 Slgm 5 at Tryz 91 as YtapagoaoglmegaaGreat.srt
shelf_lay_g SlLaysN.n43 Slgn 43 at Tryz 92 as YtapagoaoglmegaaGreat.cpt
shelf_lay_g SlLaysN.n49 Slgn 49 at Tryz 129 as YtapagoaoglmegaaGreat.bsr
shelf_lay_g SlLaysF.n6 Slsf 6 at Tryz 94 as YtapagoaoglmegaaGreat.srf
end Go.Proofs
namespace Go.Proofs.YtapagoaoglmegaaGreat
open Go.RowKit Go.Proofs.YtapagoaoglmegaaGreatW.PrintWords Go.Proofs.YtapagoaoglmegaaGreatW.PrintLast Go.Proofs.YtapagoaoglmegaaGreatW.PrintMore PCl
open Go.Sort (Holds putRow grow)
set_option linter.unusedVariables false
set_option linter.unusedSimpArgs false
set_option maxRecDepth 100000
section
variable {α : Type} [Inhabited α] {enc : α → Value}
def CsE (enc : α → Value) (w : World) (g : Nat) (l : List α) : Prop := Holds enc w g 0 l.toArray ∧ g < w.heap.size
theorem CsE.cell {w : World} {g : Nat} {l : List α} (h : CsE enc w g l) {i : Nat} {x : α} (hi : l[i]? = some x) : w.cell? ⟨g, i, none⟩ = some (enc x) := by
  obtain ⟨hl, rfl⟩ := List.getElem?_eq_some_iff.1 hi
  have := (h.1 i (by simpa using hl)).1
  rw [Nat.zero_add, getElem!_pos _ i (by simpa using hl)] at this
  simpa using this
theorem CsE.of {w : World} {g : Nat} {l : List α} (h : ∀ i x, l[i]? = some x → w.cell? ⟨g, i, none⟩ = some (enc x) ∧ w.frozen? ⟨g, i, none⟩ = false) (hg : g < w.heap.size) : CsE enc w g l := by
  refine ⟨fun j hj => ?_, hg⟩
  have hl : j < l.length := by simpa using hj
  rw [Nat.zero_add, getElem!_pos _ j hj]
  simpa using h j l[j] (List.getElem?_eq_getElem hl)
theorem CsE.get {w : World} {g : Nat} {l : List α} (h : CsE enc w g l) {i : Nat} {x : α} (hi : l[i]? = some x) : w.cell? ⟨g, i, none⟩ = some (enc x) ∧ w.frozen? ⟨g, i, none⟩ = false := by
  obtain ⟨hl, _⟩ := List.getElem?_eq_some_iff.1 hi
  have := (h.1 i (by simpa using hl)).2
  rw [Nat.zero_add] at this
  exact ⟨h.cell hi, this⟩
theorem CsE.fr {S : Nat → Prop} {w w' : World} {g : Nat} {l : List α} (h : CsE enc w g l) (k : Fr S w w') (hs : ¬ S g) : CsE enc w' g l := by
  refine CsE.of (fun i x hi => ?_) (k.lt h.2)
  obtain ⟨h1, h2⟩ := h.get hi
  have hb := k.block g h.2 hs
  refine ⟨(k.cell (a := ⟨g, i, none⟩) h.2 hs).trans h1, ?_⟩
  rw [← h2]
  simp only [World.frozen?, hb]
theorem CsE.head {w : World} {g : Nat} {a b : List α} (h : CsE enc w g (a ++ b)) : CsE enc w g a :=
  CsE.of (fun i x hi => h.get (by rw [List.getElem?_append_left (List.getElem?_eq_some_iff.1 hi).1]; exact hi)) h.2
theorem own_cs {w : World} {base : Nat} {e : TypeId} {v : Value} {l : List α} (h : w.ownsRow base e 1 v l.length (l.map enc)) :
    (v = .slice none 0 0 ∧ l = []) ∨ ∃ g cap, v = .slice (some ⟨g, 0, none⟩) l.length cap ∧ l.length ≤ cap ∧ cap ≤ maxLen ∧ base ≤ g ∧ CsE enc w g l := by
  rcases h.2 with ⟨rfl, e⟩ | ⟨g, cap, cur, rfl, hg, hb, hc, hm, hs, ht⟩
  · exact .inl ⟨rfl, List.eq_nil_of_length_eq_zero e⟩
  · refine .inr ⟨g, cap, rfl, hc, hm, hg, CsE.of (fun i x hi => ⟨?_, by simp [World.frozen?, hb]⟩) (Array.getElem?_eq_some_iff.1 hb).1⟩
    have hl := (List.getElem?_eq_some_iff.1 hi).1
    have h1 : (cur.toList.take (l.length * 1))[i]? = (l.map enc)[i]? := by rw [ht]
    rw [List.getElem?_take_of_lt (by omega), List.getElem?_map, hi] at h1
    simp only [World.cell?, hb]
    simpa using h1
theorem cs_put {w : World} {g n : Nat} {os : Array Obj} {l m : List α} (h : CsE enc w g l) (hl : m.length = l.length) :
    CsE enc (grow (putRow enc (Sort.ahead w n) g 0 m.toArray) os) g m ∧ Fr (fun i => i = g) w (grow (putRow enc (Sort.ahead w n) g 0 m.toArray) os) := by
  have h0 : Holds enc (Sort.ahead w n) g 0 l.toArray := h.1
  have h1 := Sort.holds_putRow enc (Sort.ahead w n) g 0 l.toArray m.toArray h0 (by simp [hl])
  have hf : Fr (fun i => i = g) w (grow (putRow enc (Sort.ahead w n) g 0 m.toArray) os) := by
    refine ⟨rfl, rfl, rfl, by simp, fun k hk hne => ?_⟩
    rw [Sort.heap_grow_old _ _ (by simpa using hk)]
    have : ¬ g = k := fun e => hne e.symm
    simp [putRow, Sort.mapBlock, Sort.ahead, Array.getElem?_modify, this]
  refine ⟨CsE.of (fun i x hi => ?_) (hf.lt h.2), hf⟩
  have hl1 := (List.getElem?_eq_some_iff.1 hi).1
  obtain ⟨a1, a2⟩ := h1 i (by simpa using hl1)
  have hgs : g < (putRow enc (Sort.ahead w n) g 0 m.toArray).heap.size := by simpa using h.2
  have hb := Sort.heap_grow_old (putRow enc (Sort.ahead w n) g 0 m.toArray) os hgs
  rw [Nat.zero_add] at a1 a2
  rw [getElem!_pos _ i (by simpa using hl1)] at a1
  refine ⟨?_, ?_⟩
  · rw [← (List.getElem?_eq_some_iff.1 hi).2]
    refine Eq.trans ?_ (by simpa using a1)
    simp only [World.cell?, hb]
  · rw [← a2]
    simp only [World.frozen?, hb]
end
theorem sort_at {w : World} {g cap : Nat} {l : List Int} (h : CsE (Value.int .i64) w g l) (hs : l.length < 4611686018427387904) :
    Calls Tryz.prog 91 #[.slice (some ⟨g, 0, none⟩) l.length cap] w fun e w' => e = .returned (.tuple #[]) ∧ CsE (Value.int .i64) w' g (l.mergeSort fun x y => decide (x ≤ y)) ∧ Fr (fun i => i = g) w w' := by
  refine Calls.mono (AnyM.slices_Sort_int YtapagoaoglmegaaGreat.srt g 0 cap l w h.1 h.2 hs) ?_
  rintro e w' ⟨rfl, n, os, rfl⟩
  obtain ⟨h1, h2⟩ := cs_put (n := n) (os := os) h (m := l.mergeSort fun x y => decide (x ≤ y)) (List.length_mergeSort _)
  exact ⟨rfl, h1, h2⟩
theorem sort_no (A : Option Addr) (cap : Nat) (w : World) : Calls Tryz.prog 91 #[.slice A 0 cap] w fun e w' => e = .returned (.tuple #[]) ∧ w = w' := by
  refine Calls.mono (AnyM.slices_Sort_int_none YtapagoaoglmegaaGreat.srt A cap w) ?_
  rintro e w' ⟨rfl, rfl⟩
  exact ⟨rfl, rfl⟩
theorem compact_le (l : List Int) : (Lib.compact l).length ≤ l.length := by
  unfold Lib.compact Lib.compactUpTo
  rw [List.length_map]
  exact Nat.le_trans (List.length_filter_le _ _) (by simp)
theorem compact_at {w : World} {g cap : Nat} {l : List Int} (h : CsE (Value.int .i64) w g l) (hs : l.length ≤ 9223372036854775807) (hc : l.length ≤ cap) :
    Calls Tryz.prog 92 #[.slice (some ⟨g, 0, none⟩) l.length cap] w fun e w' => e = .returned (.slice (some ⟨g, 0, none⟩) (Lib.compact l).length cap) ∧ CsE (Value.int .i64) w' g (Lib.compact l) ∧ Fr (fun i => i = g) w w' := by
  refine Calls.mono (AnyG.slices_Compact_int YtapagoaoglmegaaGreat.cpt g 0 cap l w h.1 hs hc) ?_
  rintro e w' ⟨rfl, n, rfl⟩
  have hlen := compact_le l
  obtain ⟨h1, h2⟩ := cs_put (n := n) (os := #[]) h (m := Lib.compact l ++ List.replicate (l.length - (Lib.compact l).length) 0) (by rw [List.length_append, List.length_replicate]; omega)
  rw [Sort.grow_empty] at h1 h2
  exact ⟨rfl, h1.head, h2⟩
theorem compact_no (A : Option Addr) (cap : Nat) (w : World) : Calls Tryz.prog 92 #[.slice A 0 cap] w fun e w' => e = .returned (.slice A 0 cap) ∧ w = w' := by
  refine Calls.mono (AnyG.slices_Compact_int_empty YtapagoaoglmegaaGreat.cpt A cap w) ?_
  rintro e w' ⟨rfl, rfl⟩
  exact ⟨rfl, rfl⟩
theorem search_at {w : World} {g cap : Nat} {l : List Int} (h : CsE (Value.int .i64) w g l) (hs : l.length < 4611686018427387904) (hp : l.Pairwise (· ≤ ·)) (x : Int) :
    Calls Tryz.prog 129 #[.slice (some ⟨g, 0, none⟩) l.length cap, .int .i64 x] w fun e w' => e = .returned (.tuple #[.int .i64 (rkE l x : Nat), .bool (l.contains x)]) ∧ ∃ q, w' = w.drewN q := by
  have hc : ∀ j, j < l.length → w.cell? ⟨g, 0 + j, none⟩ = some (.int .i64 (l.getD j 0)) := fun j hj => by
    rw [Nat.zero_add, List.getD_eq_getElem?_getD, List.getElem?_eq_getElem hj]
    exact h.cell (List.getElem?_eq_getElem hj)
  have := AnyG.slices_BinarySearch_int YtapagoaoglmegaaGreat.bsr g 0 l.length cap l x w (Nat.le_refl _) hs hc (by rw [List.take_length]; exact hp)
  rw [List.take_length] at this
  exact this
end Go.Proofs.YtapagoaoglmegaaGreat
end
