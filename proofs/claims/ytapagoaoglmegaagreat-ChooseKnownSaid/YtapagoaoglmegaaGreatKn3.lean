/- Texts of mine, joined by shake.py: EdSweep, EdSpans, Lists, EdMem, EdBad, EdFloat, EdRow, EdCmp, EdPlaces, EdEnds, EdHull, FxQuo, MnWts, MnIter, MnAdd, MnPart, MnMean, EdOpen, EdFlat, ChColl. -/
import Derived.Lib.SlicesCompact
import Derived.Maps.AppendAt
import Derived.OwnWalk
import Derived.Deep.RegionHeld3
import Derived.Shelf.SlicesQ.IndexFunc
import Derived.Shelf.SlGeneric
import Derived.Lib.Hide
import Derived.Laws.ComplexArith
import Derived.Laws.FloatArith
import Derived.KernelRfl
import Derived.Shelf.SortM.Plain
import Derived.Shelf.SortM.SortNone
import Derived.Shelf.SlicesG.CompactI
import Derived.Shelf.SlicesG.SearchI
import Derived.Shelf.SlSortCmp.NoneTotal
import Derived.Ground.SlgnProg
import Derived.Ground.SlgmProg
import Derived.WalkLawsBesides
import Derived.StillTailTactics
import Derived.IntWalk
import Derived.Deep.AppendLies
import Derived.Test.YtapagoaoglmegaaGreatProg
import Derived.Shelf.Bits.Mul64
import Derived.RangeFuncNested
import Derived.RangeFuncBound
import Derived.RangeFuncCalls
import Derived.RangeFuncLeaves
import Derived.Shelf.Abstract
import Derived.Shelf.RegionOpen
import Derived.OwnWalkIn
import Derived.TacticsInMore
import Derived.LoopNIn
import Derived.LoopIn
import Derived.Test.YtapagoaoglmegaaGreatKn0
import Derived.Test.YtapagoaoglmegaaGreatKn1
import Derived.Test.YtapagoaoglmegaaGreatKn2
section
namespace Go.Proofs.YtapagoaoglmegaaGreat
def sgE (e : Nat × Bool) : Int := if e.2 = true then 1 else -1
def preE (E : List (Nat × Bool)) (i : Nat) : Int := ((E.take i).map sgE).sum
def leE (a b : Nat × Bool) : Bool := decide (a.1 < b.1) || (decide (a.1 = b.1) && (a.2 || !b.2))
def dnE (k : Nat) (e : Nat × Bool) : Bool := decide (e.1 < k) || (decide (e.1 = k) && e.2)
def DE (E : List (Nat × Bool)) (k : Nat) : Int := (E.countP (fun e => e.2 && decide (e.1 ≤ k)) : Int) - (E.countP (fun e => !e.2 && decide (e.1 < k)) : Int)
def SortedE (E : List (Nat × Bool)) : Prop := ∀ (i j : Nat) (a b : Nat × Bool), i < j → E[i]? = some a → E[j]? = some b → leE a b = true
theorem leE_iff (a b : Nat × Bool) : leE a b = true ↔ a.1 < b.1 ∨ a.1 = b.1 ∧ (a.2 = true ∨ b.2 = false) := by
  unfold leE; simp
theorem dnE_iff (k : Nat) (e : Nat × Bool) : dnE k e = true ↔ e.1 < k ∨ e.1 = k ∧ e.2 = true := by
  unfold dnE; simp
theorem SortedE.of {E : List (Nat × Bool)} (h : E.Pairwise (fun a b => leE a b = true)) : SortedE E := fun i j a b hij ha hb => by
  obtain ⟨h1, rfl⟩ := List.getElem?_eq_some_iff.1 ha
  obtain ⟨h2, rfl⟩ := List.getElem?_eq_some_iff.1 hb
  exact List.pairwise_iff_getElem.1 h i j h1 h2 hij
theorem preE_zero (E : List (Nat × Bool)) : preE E 0 = 0 := by simp [preE]
theorem sum_snoc : ∀ (l : List Int) (x : Int), (l ++ [x]).sum = l.sum + x
  | [], x => by simp
  | a :: l, x => by simp only [List.cons_append, List.sum_cons, sum_snoc l x]; omega
theorem preE_succ {E : List (Nat × Bool)} {i : Nat} {e : Nat × Bool} (h : E[i]? = some e) : preE E (i + 1) = preE E i + sgE e := by
  unfold preE
  rw [List.take_add_one, h]
  simp only [Option.toList_some, List.map_append, List.map_cons, List.map_nil]
  exact sum_snoc _ _
theorem filt_sum (k : Nat) : ∀ E : List (Nat × Bool), ((E.filter (dnE k)).map sgE).sum = DE E k
  | [] => rfl
  | a :: t => by
    have ih := filt_sum k t
    unfold DE at ih ⊢
    obtain ⟨r, b⟩ := a
    cases b
    · by_cases h : r < k
      · have e1 : dnE k (r, false) = true := (dnE_iff _ _).2 (.inl h)
        rw [List.filter_cons_of_pos e1, List.map_cons, List.sum_cons, ih, List.countP_cons, List.countP_cons]
        simp [sgE, h]; omega
      · have e1 : ¬ dnE k (r, false) = true := fun e => by rcases (dnE_iff _ _).1 e with e | e; exact h e; cases e.2
        rw [List.filter_cons_of_neg e1, ih, List.countP_cons, List.countP_cons]
        simp [h]
    · by_cases h : r ≤ k
      · have e1 : dnE k (r, true) = true := (dnE_iff _ _).2 (by simp; omega)
        rw [List.filter_cons_of_pos e1, List.map_cons, List.sum_cons, ih, List.countP_cons, List.countP_cons]
        simp [sgE, h]; omega
      · have e1 : ¬ dnE k (r, true) = true := fun e => by rcases (dnE_iff _ _).1 e with e | e; · simp at e; omega
                                                          · simp at e; omega
        rw [List.filter_cons_of_neg e1, ih, List.countP_cons, List.countP_cons]
        simp [h]
theorem dn_of_le {k : Nat} {a b : Nat × Bool} (h : leE a b = true) (hb : dnE k b = true) : dnE k a = true := by
  rw [dnE_iff] at *
  rw [leE_iff] at h
  rcases h with h | ⟨h1, h2 | h2⟩ <;> rcases hb with hb | ⟨hb1, hb2⟩
  · left; omega
  · left; omega
  · left; omega
  · right; exact ⟨by omega, h2⟩
  · left; omega
  · rw [h2] at hb2; cases hb2
theorem split_dn (k : Nat) : ∀ E : List (Nat × Bool), SortedE E → ∃ m, m ≤ E.length ∧ E.take m = E.filter (dnE k) ∧ ∀ j e, E[j]? = some e → (j < m ↔ dnE k e = true)
  | [], _ => ⟨0, Nat.le_refl _, rfl, fun j e h => by simp at h⟩
  | a :: t, hs => by
    have ht : SortedE t := fun i j x y hij hx hy => hs (i + 1) (j + 1) x y (by omega) hx hy
    by_cases ha : dnE k a = true
    · obtain ⟨m, hm, h1, h2⟩ := split_dn k t ht
      refine ⟨m + 1, by simp; omega, by rw [List.take_succ_cons, List.filter_cons_of_pos ha, h1], fun j e hj => ?_⟩
      cases j with
      | zero => simp at hj; subst hj; exact ⟨fun _ => ha, fun _ => by omega⟩
      | succ j => have := h2 j e (by simpa using hj); rw [← this]; omega
    · have hno : ∀ (j : Nat) (e : Nat × Bool), (a :: t)[j]? = some e → ¬ dnE k e = true := fun j e hj hd => by
        cases j with
        | zero => simp at hj; subst hj; exact ha hd
        | succ j => exact ha (dn_of_le (hs 0 (j + 1) a e (by omega) rfl hj) hd)
      refine ⟨0, Nat.zero_le _, ?_, fun j e hj => ⟨fun h => by omega, fun h => absurd h (hno j e hj)⟩⟩
      rw [List.take_zero]
      symm
      rw [List.filter_eq_nil_iff]
      intro e he
      obtain ⟨j, hj⟩ := List.getElem?_of_mem he
      exact hno j e hj
theorem split_pre {E : List (Nat × Bool)} (hs : SortedE E) (k : Nat) : ∃ m, m ≤ E.length ∧ preE E m = DE E k ∧ ∀ j e, E[j]? = some e → (j < m ↔ dnE k e = true) := by
  obtain ⟨m, h1, h2, h3⟩ := split_dn k E hs
  exact ⟨m, h1, by unfold preE; rw [h2]; exact filt_sum k E, h3⟩
theorem pre_up {E : List (Nat × Bool)} {a : Nat} : ∀ d, a + d ≤ E.length → (∀ j e, a ≤ j → j < a + d → E[j]? = some e → e.2 = true) → preE E a ≤ preE E (a + d)
  | 0, _, _ => Int.le_refl _
  | d + 1, hl, h => by
    have h1 := pre_up d (by omega) (fun j e h1 h2 => h j e h1 (by omega))
    have h2 : E[a + d]? = some E[a + d] := List.getElem?_eq_getElem (by omega)
    have h3 := preE_succ h2
    have h4 := h _ _ (by omega) (by omega) h2
    simp only [sgE, if_pos h4] at h3
    show preE E a ≤ preE E (a + d + 1)
    omega
theorem pre_down {E : List (Nat × Bool)} {a : Nat} : ∀ d, a + d ≤ E.length → (∀ j e, a ≤ j → j < a + d → E[j]? = some e → e.2 = false) → preE E (a + d) ≤ preE E a
  | 0, _, _ => Int.le_refl _
  | d + 1, hl, h => by
    have h1 := pre_down d (by omega) (fun j e h1 h2 => h j e h1 (by omega))
    have h2 : E[a + d]? = some E[a + d] := List.getElem?_eq_getElem (by omega)
    have h3 := preE_succ h2
    have h4 := h _ _ (by omega) (by omega) h2
    simp only [sgE, h4] at h3
    show preE E (a + d + 1) ≤ preE E a
    simp at h3
    omega
theorem pre_at_lo {E : List (Nat × Bool)} (hs : SortedE E) {i k : Nat} (h : E[i]? = some (k, true)) : preE E (i + 1) ≤ DE E k := by
  obtain ⟨m, hm, hp, hd⟩ := split_pre hs k
  have him : i < m := (hd i _ h).2 ((dnE_iff _ _).2 (.inr ⟨rfl, rfl⟩))
  rw [← hp]
  obtain ⟨d, rfl⟩ : ∃ d, m = i + 1 + d := ⟨m - (i + 1), by omega⟩
  refine pre_up d hm fun j e h1 h2 he => ?_
  have a1 := (dnE_iff _ _).1 ((hd j e he).1 h2)
  have a2 := (leE_iff _ _).1 (hs i j _ _ (by omega) h he)
  simp at a2
  rcases a1 with a1 | a1
  · omega
  · exact a1.2
theorem pre_at_hi {E : List (Nat × Bool)} (hs : SortedE E) {i k : Nat} (h : E[i]? = some (k, false)) : preE E i ≤ DE E k := by
  obtain ⟨m, hm, hp, hd⟩ := split_pre hs k
  have him : ¬ i < m := fun e => by have := (dnE_iff _ _).1 ((hd i _ h).1 e); simp at this
  have hil := (List.getElem?_eq_some_iff.1 h).1
  rw [← hp]
  obtain ⟨d, rfl⟩ : ∃ d, i = m + d := ⟨i - m, by omega⟩
  refine pre_down d (by omega) fun j e h1 h2 he => ?_
  have a1 : ¬ dnE k e = true := fun q => by have := (hd j e he).2 q; omega
  have a2 := (leE_iff _ _).1 (hs j (m + d) _ _ h2 he h)
  rw [dnE_iff] at a1
  simp at a2 a1
  cases hb : e.2 with
  | false => rfl
  | true => exfalso; have := a1.2; rw [hb] at this; simp at this; omega
def stE (n : Int) (st : Int × Int × Int) (e : Nat × Bool) : Int × Int × Int :=
  if n < 2 * (st.1 + sgE e) ∧ st.2.1 < 0 then (st.1 + sgE e, (e.1 : Int), st.2.2)
  else if n < 2 * st.1 ∧ ¬ n < 2 * (st.1 + sgE e) then (st.1 + sgE e, st.2.1, (e.1 : Int)) else (st.1 + sgE e, st.2.1, st.2.2)
def swE (n : Int) (E : List (Nat × Bool)) (i : Nat) : Int × Int × Int := (E.take i).foldl (stE n) (0, -1, -1)
theorem swE_zero (n : Int) (E : List (Nat × Bool)) : swE n E 0 = (0, -1, -1) := by simp [swE]
theorem swE_succ {n : Int} {E : List (Nat × Bool)} {i : Nat} {e : Nat × Bool} (h : E[i]? = some e) : swE n E (i + 1) = stE n (swE n E i) e := by
  unfold swE
  rw [List.take_add_one, h, List.foldl_append]; rfl
structure InvE (n : Int) (E : List (Nat × Bool)) (i : Nat) (st : Int × Int × Int) : Prop where
  sum : st.1 = preE E i
  first : (st.2.1 = -1 ∧ ∀ j, j ≤ i → 2 * preE E j ≤ n) ∨ ∃ j e, j < i ∧ E[j]? = some e ∧ st.2.1 = (e.1 : Int) ∧ n < 2 * preE E (j + 1) ∧ ∀ q, q ≤ j → 2 * preE E q ≤ n
  last : (st.2.2 = -1 ∧ ∀ j, j < i → ¬ (n < 2 * preE E j ∧ 2 * preE E (j + 1) ≤ n)) ∨ ∃ j e, j < i ∧ E[j]? = some e ∧ st.2.2 = (e.1 : Int) ∧ n < 2 * preE E j ∧ 2 * preE E (j + 1) ≤ n ∧ ∀ q, j < q → q < i → ¬ (n < 2 * preE E q ∧ 2 * preE E (q + 1) ≤ n)
theorem InvE.step {n : Int} {E : List (Nat × Bool)} {i : Nat} {st : Int × Int × Int} (h : InvE n E i st) {e : Nat × Bool} (he : E[i]? = some e) : InvE n E (i + 1) (stE n st e) := by
  obtain ⟨h1, h2, h3⟩ := h
  have hp := preE_succ he
  unfold stE
  by_cases c1 : n < 2 * (st.1 + sgE e) ∧ st.2.1 < 0
  · rw [if_pos c1]
    have h2' : ∀ j, j ≤ i → 2 * preE E j ≤ n := by
      rcases h2 with h2 | ⟨j, x, _, _, hx, _⟩
      · exact h2.2
      · omega
    refine ⟨by show st.1 + sgE e = _; omega, .inr ⟨i, e, by omega, he, rfl, by omega, h2'⟩, ?_⟩
    rcases h3 with h3 | ⟨j, x, a, b, c, d, f, g⟩
    · refine .inl ⟨h3.1, fun j hj => ?_⟩
      by_cases e0 : j = i
      · subst e0; have := h2' j (Nat.le_refl _); omega
      · exact h3.2 j (by omega)
    · refine .inr ⟨j, x, by omega, b, c, d, f, fun q hq1 hq2 => ?_⟩
      by_cases e0 : q = i
      · subst e0; have := h2' q (Nat.le_refl _); omega
      · exact g q hq1 (by omega)
  · rw [if_neg c1]
    by_cases c2 : n < 2 * st.1 ∧ ¬ n < 2 * (st.1 + sgE e)
    · rw [if_pos c2]
      refine ⟨by show st.1 + sgE e = _; omega, ?_, .inr ⟨i, e, by omega, he, rfl, by omega, by omega, fun q hq1 hq2 => by omega⟩⟩
      rcases h2 with h2 | ⟨j, x, a, b, c, d, f⟩
      · have := h2.2 i (Nat.le_refl _); omega
      · exact .inr ⟨j, x, by omega, b, c, d, f⟩
    · rw [if_neg c2]
      refine ⟨by show st.1 + sgE e = _; omega, ?_, ?_⟩
      · rcases h2 with h2 | ⟨j, x, a, b, c, d, f⟩
        · refine .inl ⟨h2.1, fun j hj => ?_⟩
          by_cases e0 : j = i + 1
          · subst e0; have := h2.1; omega
          · exact h2.2 j (by omega)
        · exact .inr ⟨j, x, by omega, b, c, d, f⟩
      · rcases h3 with h3 | ⟨j, x, a, b, c, d, f, g⟩
        · refine .inl ⟨h3.1, fun j hj => ?_⟩
          by_cases e0 : j = i
          · subst e0; omega
          · exact h3.2 j (by omega)
        · refine .inr ⟨j, x, by omega, b, c, d, f, fun q hq1 hq2 => ?_⟩
          by_cases e0 : q = i
          · subst e0; omega
          · exact g q hq1 (by omega)
theorem swE_inv {n : Int} (hn : 0 ≤ n) (E : List (Nat × Bool)) : ∀ i, i ≤ E.length → InvE n E i (swE n E i)
  | 0, _ => by
    rw [swE_zero]
    exact ⟨(preE_zero E).symm, .inl ⟨rfl, fun j hj => by obtain rfl : j = 0 := by omega
                                                         rw [preE_zero]; omega⟩, .inl ⟨rfl, fun j hj => by omega⟩⟩
  | i + 1, h => by
    have he : E[i]? = some E[i] := List.getElem?_eq_getElem (by omega)
    rw [swE_succ he]
    exact (swE_inv hn E i (by omega)).step he
theorem trans_ex {n : Int} {f : Nat → Int} : ∀ d q, n < 2 * f q → 2 * f (q + d) ≤ n → ∃ t, q ≤ t ∧ t < q + d ∧ n < 2 * f t ∧ 2 * f (t + 1) ≤ n
  | 0, q, h1, h2 => by rw [Nat.add_zero] at h2; omega
  | d + 1, q, h1, h2 => by
    by_cases c : 2 * f (q + 1) ≤ n
    · exact ⟨q, Nat.le_refl _, by omega, h1, c⟩
    · obtain ⟨t, a, b, c1, c2⟩ := trans_ex (n := n) (f := f) d (q + 1) (by omega) (by rw [show q + 1 + d = q + (d + 1) by omega]; exact h2)
      exact ⟨t, by omega, by omega, c1, c2⟩
theorem sweep {n : Int} (hn : 0 ≤ n) {E : List (Nat × Bool)} (hs : SortedE E) (h0 : preE E E.length = 0) :
    ((swE n E E.length).2.1 = -1 ∧ ∀ k, 2 * DE E k ≤ n) ∨
    ∃ a b : Nat, (swE n E E.length).2.1 = a ∧ (swE n E E.length).2.2 = b ∧ (a, true) ∈ E ∧ (b, false) ∈ E ∧ n < 2 * DE E a ∧ n < 2 * DE E b ∧ ∀ k, n < 2 * DE E k → a ≤ k ∧ k ≤ b := by
  have H := swE_inv hn E E.length (Nat.le_refl _)
  rcases H.first with ⟨h1, h2⟩ | ⟨i, e, hi, he, h1, h2, h3⟩
  · refine .inl ⟨h1, fun k => ?_⟩
    obtain ⟨m, hm, hp, _⟩ := split_pre hs k
    rw [← hp]; exact h2 m hm
  · have hT : e.2 = true := by
      cases hb : e.2 with
      | true => rfl
      | false =>
        have := preE_succ he
        have h4 := h3 i (Nat.le_refl _)
        simp only [sgE, hb] at this
        simp at this
        omega
    obtain ⟨a, eb⟩ := e
    simp only at hT h1
    subst hT
    have hlast : ∃ (j x : Nat), E[j]? = some (x, false) ∧ (swE n E E.length).2.2 = (x : Int) ∧ n < 2 * preE E j ∧ ∀ q, j < q → q < E.length → ¬ (n < 2 * preE E q ∧ 2 * preE E (q + 1) ≤ n) := by
      rcases H.last with ⟨_, h5⟩ | ⟨j, x, hj, hx, h4, h5, h6, h7⟩
      · obtain ⟨t, t1, t2, t3, t4⟩ := trans_ex (n := n) (f := preE E) (E.length - (i + 1)) (i + 1) h2 (by rw [show i + 1 + (E.length - (i + 1)) = E.length by omega, h0]; omega)
        exact absurd ⟨t3, t4⟩ (h5 t (by omega))
      · obtain ⟨x, xb⟩ := x
        have hF : xb = false := by
          cases xb with
          | false => rfl
          | true =>
            have := preE_succ hx
            simp [sgE] at this
            omega
        subst hF
        exact ⟨j, x, hx, h4, h5, h7⟩
    obtain ⟨j, b, hj, h4, h5, h7⟩ := hlast
    refine .inr ⟨a, b, h1, h4, List.mem_of_getElem? he, List.mem_of_getElem? hj, ?_, ?_, fun k hk => ?_⟩
    · have := pre_at_lo hs he; omega
    · have := pre_at_hi hs hj; omega
    · obtain ⟨m, hm, hp, hd⟩ := split_pre hs k
      have him : i < m := by
        by_cases c : i < m
        · exact c
        · have := h3 m (by omega); omega
      have hjm : ¬ j < m := fun c => by
        obtain ⟨t, t1, t2, t3, t4⟩ := trans_ex (n := n) (f := preE E) (E.length - m) m (by omega) (by rw [show m + (E.length - m) = E.length by omega, h0]; omega)
        exact h7 t (by omega) (by omega) ⟨t3, t4⟩
      constructor
      · have := (dnE_iff _ _).1 ((hd i _ he).1 him)
        simp at this; omega
      · have : ¬ dnE k (b, false) = true := fun e => hjm ((hd j _ hj).2 e)
        rw [dnE_iff] at this
        simp at this; omega
open PCl
set_option linter.unusedVariables false
set_option linter.unusedSimpArgs false
def rkE (P : List Int) (x : Int) : Nat := P.countP (fun y => decide (y < x))
theorem rk_le (P : List Int) {x y : Int} (h : x ≤ y) : rkE P x ≤ rkE P y := by
  refine List.countP_mono_left fun z _ hz => ?_
  simp at hz ⊢; omega
theorem rk_lt : ∀ {P : List Int} {x y : Int}, x ∈ P → x < y → rkE P x < rkE P y
  | a :: t, x, y, hx, h => by
    unfold rkE
    rw [List.countP_cons, List.countP_cons]
    have ht := rk_le t (Int.le_of_lt h)
    unfold rkE at ht
    rcases List.mem_cons.1 hx with e | e
    · subst e
      simp [h]; omega
    · have := rk_lt e h
      unfold rkE at this
      by_cases c : a < x
      · have c' : a < y := by omega
        simp [c, c']; omega
      · by_cases c' : a < y <;> simp [c, c'] <;> omega
theorem rk_lt_iff {P : List Int} {x y : Int} (hx : x ∈ P) (hy : y ∈ P) : rkE P x < rkE P y ↔ x < y := by
  constructor
  · intro h
    by_cases c : x < y
    · exact c
    · have := rk_le P (x := y) (y := x) (by omega); omega
  · exact rk_lt hx
theorem rk_le_iff {P : List Int} {x y : Int} (hx : x ∈ P) (hy : y ∈ P) : rkE P x ≤ rkE P y ↔ x ≤ y := by
  have := rk_lt_iff hy hx; omega
theorem rk_get : ∀ {P : List Int} {x : Int}, P.Pairwise (· < ·) → x ∈ P → P[rkE P x]? = some x
  | a :: t, x, hs, hx => by
    obtain ⟨h1, h2⟩ := List.pairwise_cons.1 hs
    unfold rkE
    rw [List.countP_cons]
    rcases List.mem_cons.1 hx with e | e
    · subst e
      have : t.countP (fun y => decide (y < x)) = 0 := by
        rw [List.countP_eq_zero]
        intro z hz
        have := h1 z hz
        simp; omega
      rw [this]; simp
    · have hlt := h1 x e
      have ih := rk_get h2 e
      unfold rkE at ih
      simp [hlt, ih]
theorem rk_len (P : List Int) (x : Int) : rkE P x ≤ P.length := List.countP_le_length
def depE (L : List S25) (p : Int) : Nat := L.countP (fun s => decide (s.f1 ≤ p) && decide (p ≤ s.f2))
def unE (P : List Int) (L : List S25) : List (Nat × Bool) := L.flatMap (fun s => [(rkE P s.f1, true), (rkE P s.f2, false)])
theorem DE_un {P : List Int} {p : Int} (hp : p ∈ P) : ∀ L : List S25, (∀ s ∈ L, s.f1 ∈ P ∧ s.f2 ∈ P) → (∀ s ∈ L, s.f1 ≤ s.f2) → DE (unE P L) (rkE P p) = depE L p
  | [], _, _ => rfl
  | s :: L, hm, hv => by
    have ih := DE_un hp L (fun t h => hm t (List.mem_cons_of_mem _ h)) (fun t h => hv t (List.mem_cons_of_mem _ h))
    obtain ⟨m1, m2⟩ := hm s List.mem_cons_self
    have v := hv s List.mem_cons_self
    have c1 := rk_le_iff m1 hp
    have c2 := rk_lt_iff m2 hp
    unfold DE depE unE at ih ⊢
    rw [List.flatMap_cons]
    simp only [List.cons_append, List.nil_append, List.countP_cons]
    simp only [Bool.true_and, Bool.false_and, Bool.not_true, Bool.not_false, decide_eq_true_eq, c1, c2, Bool.false_eq_true, if_false, Bool.and_eq_true]
    by_cases a : s.f1 ≤ p <;> by_cases b : s.f2 < p
    · have b' : ¬ p ≤ s.f2 := by omega
      simp only [a, b, b', if_true, if_false, and_false, and_true]; omega
    · have b' : p ≤ s.f2 := by omega
      simp only [a, b, b', if_true, if_false, and_true]; omega
    · omega
    · simp only [a, b, if_false, false_and]; omega
theorem sum_count : ∀ E : List (Nat × Bool), (E.map sgE).sum = (E.countP (fun e => e.2) : Int) - (E.countP (fun e => !e.2) : Int)
  | [] => rfl
  | (r, b) :: t => by
    rw [List.map_cons, List.sum_cons, sum_count t, List.countP_cons, List.countP_cons]
    cases b <;> simp [sgE] <;> omega
theorem un_true (P : List Int) : ∀ L : List S25, (unE P L).countP (fun e => e.2) = L.length ∧ (unE P L).countP (fun e => !e.2) = L.length
  | [] => ⟨rfl, rfl⟩
  | s :: L => by
    obtain ⟨h1, h2⟩ := un_true P L
    unfold unE at *
    rw [List.flatMap_cons]
    simp only [List.cons_append, List.nil_append, List.countP_cons, h1, h2]
    simp
theorem DE_perm {E F : List (Nat × Bool)} (h : E.Perm F) (k : Nat) : DE E k = DE F k := by
  unfold DE; rw [h.countP_eq, h.countP_eq]
theorem pre_all {P : List Int} {L : List S25} {E : List (Nat × Bool)} (h : E.Perm (unE P L)) : preE E E.length = 0 := by
  unfold preE
  rw [List.take_length, sum_count, h.countP_eq, h.countP_eq, (un_true P L).1, (un_true P L).2]
  omega
structure IsHull (L : List S25) (lo hi : Int) : Prop where
  lo_mem : ∃ s ∈ L, s.f1 = lo
  hi_mem : ∃ s ∈ L, s.f2 = hi
  lo_deep : L.length < 2 * depE L lo
  hi_deep : L.length < 2 * depE L hi
  all : ∀ p, L.length < 2 * depE L p → lo ≤ p ∧ p ≤ hi
def NoHull (L : List S25) : Prop := ∀ p, 2 * depE L p ≤ L.length
theorem max_ex {α : Type} (f : α → Int) : ∀ M : List α, M ≠ [] → ∃ s ∈ M, ∀ t ∈ M, f t ≤ f s
  | [], h => absurd rfl h
  | [a], _ => ⟨a, List.mem_cons_self, fun t ht => by obtain rfl : t = a := by simpa using ht
                                                     exact Int.le_refl _⟩
  | a :: b :: t, _ => by
    obtain ⟨s, hs, hm⟩ := max_ex f (b :: t) (by simp)
    by_cases c : f a ≤ f s
    · exact ⟨s, List.mem_cons_of_mem _ hs, fun x hx => by rcases List.mem_cons.1 hx with e | e; · subst e; exact c
                                                          · exact hm x e⟩
    · exact ⟨a, List.mem_cons_self, fun x hx => by rcases List.mem_cons.1 hx with e | e; · subst e; exact Int.le_refl _
                                                   · have := hm x e; omega⟩
theorem has_iff (s : S25) (p : Int) : (decide (s.f1 ≤ p) && decide (p ≤ s.f2)) = true ↔ s.f1 ≤ p ∧ p ≤ s.f2 := by simp
theorem dep_lo {L : List S25} {p : Int} (h : 0 < depE L p) : ∃ s ∈ L, s.f1 ≤ p ∧ p ≤ s.f2 ∧ depE L p ≤ depE L s.f1 := by
  obtain ⟨s0, h0, h1⟩ := List.countP_pos_iff.1 h
  have hne : L.filter (fun s => decide (s.f1 ≤ p) && decide (p ≤ s.f2)) ≠ [] := fun e => by
    have : s0 ∈ L.filter (fun s => decide (s.f1 ≤ p) && decide (p ≤ s.f2)) := List.mem_filter.2 ⟨h0, h1⟩
    rw [e] at this; cases this
  obtain ⟨s, hs, hm⟩ := max_ex (fun s : S25 => s.f1) _ hne
  obtain ⟨hs1, hs2⟩ := List.mem_filter.1 hs
  rw [has_iff] at hs2
  refine ⟨s, hs1, hs2.1, hs2.2, List.countP_mono_left fun t ht h2 => ?_⟩
  have h3 := hm t (List.mem_filter.2 ⟨ht, h2⟩)
  rw [has_iff] at h2 ⊢
  omega
theorem dep_hi {L : List S25} {p : Int} (h : 0 < depE L p) : ∃ s ∈ L, s.f1 ≤ p ∧ p ≤ s.f2 ∧ depE L p ≤ depE L s.f2 := by
  obtain ⟨s0, h0, h1⟩ := List.countP_pos_iff.1 h
  have hne : L.filter (fun s => decide (s.f1 ≤ p) && decide (p ≤ s.f2)) ≠ [] := fun e => by
    have : s0 ∈ L.filter (fun s => decide (s.f1 ≤ p) && decide (p ≤ s.f2)) := List.mem_filter.2 ⟨h0, h1⟩
    rw [e] at this; cases this
  obtain ⟨s, hs, hm⟩ := max_ex (fun s : S25 => -s.f2) _ hne
  obtain ⟨hs1, hs2⟩ := List.mem_filter.1 hs
  rw [has_iff] at hs2
  refine ⟨s, hs1, hs2.1, hs2.2, List.countP_mono_left fun t ht h2 => ?_⟩
  have h3 := hm t (List.mem_filter.2 ⟨ht, h2⟩)
  rw [has_iff] at h2 ⊢
  omega
theorem un_mem {P : List Int} {L : List S25} {r : Nat} {b : Bool} (h : (r, b) ∈ unE P L) : ∃ s ∈ L, r = rkE P (if b = true then s.f1 else s.f2) := by
  unfold unE at h
  obtain ⟨s, hs, h⟩ := List.mem_flatMap.1 h
  refine ⟨s, hs, ?_⟩
  rcases List.mem_cons.1 h with e | e
  · injection e with e1 e2; subst e1 e2; rfl
  · rcases List.mem_cons.1 e with e | e
    · injection e with e1 e2; subst e1 e2; rfl
    · cases e
theorem hull_of_sweep {L : List S25} {P : List Int} {E : List (Nat × Bool)} (hP : P.Pairwise (· < ·)) (hm : ∀ s ∈ L, s.f1 ∈ P ∧ s.f2 ∈ P) (hv : ∀ s ∈ L, s.f1 ≤ s.f2) (hE : E.Perm (unE P L)) (hs : SortedE E) :
    ((swE L.length E E.length).2.1 = -1 ∧ NoHull L) ∨
    ∃ (a b : Nat) (lo hi : Int), (swE L.length E E.length).2.1 = a ∧ (swE L.length E E.length).2.2 = b ∧ P[a]? = some lo ∧ P[b]? = some hi ∧ IsHull L lo hi := by
  have hD : ∀ p, p ∈ P → DE E (rkE P p) = depE L p := fun p hp => by rw [DE_perm hE]; exact DE_un hp L hm hv
  rcases sweep (n := (L.length : Int)) (by omega) hs (pre_all hE) with ⟨h1, h2⟩ | ⟨a, b, h1, h2, ha, hb, da, db, hall⟩
  · refine .inl ⟨h1, fun p => ?_⟩
    by_cases c : 0 < depE L p
    · obtain ⟨s, hs, _, _, hd⟩ := dep_lo c
      have := h2 (rkE P s.f1)
      rw [hD _ (hm s hs).1] at this
      omega
    · omega
  · obtain ⟨s, hs1, es⟩ := un_mem (hE.mem_iff.1 ha)
    obtain ⟨t, ht1, et⟩ := un_mem (hE.mem_iff.1 hb)
    simp only [if_true] at es
    simp only [Bool.false_eq_true, if_false] at et
    rw [es, hD _ (hm s hs1).1] at da
    rw [et, hD _ (hm t ht1).2] at db
    refine .inr ⟨a, b, s.f1, t.f2, h1, h2, by rw [es]; exact rk_get hP (hm s hs1).1, by rw [et]; exact rk_get hP (hm t ht1).2, ⟨s, hs1, rfl⟩, ⟨t, ht1, rfl⟩, by omega, by omega, fun p hp => ?_⟩
    have c : 0 < depE L p := by omega
    obtain ⟨x, hx, x1, x2, xd⟩ := dep_lo c
    obtain ⟨y, hy, y1, y2, yd⟩ := dep_hi c
    have k1 := (hall (rkE P x.f1) (by rw [hD _ (hm x hx).1]; omega)).1
    have k2 := (hall (rkE P y.f2) (by rw [hD _ (hm y hy).2]; omega)).2
    rw [es, rk_le_iff (hm s hs1).1 (hm x hx).1] at k1
    rw [et, rk_le_iff (hm y hy).2 (hm t ht1).2] at k2
    omega
theorem compact_inv (d : Array Int) (hs : ∀ i j, i ≤ j → j < d.size → d[i]! ≤ d[j]!) : ∀ m, m ≤ d.size →
    (Lib.compactUpTo d m).Pairwise (· < ·) ∧ (∀ x ∈ Lib.compactUpTo d m, ∃ j, j < m ∧ x = d[j]!) ∧ ∀ j, j < m → d[j]! ∈ Lib.compactUpTo d m
  | 0, _ => ⟨by simp [Lib.compactUpTo], by simp [Lib.compactUpTo], fun j h => by omega⟩
  | m + 1, h => by
    obtain ⟨h1, h2, h3⟩ := compact_inv d hs m (by omega)
    rw [Lib.compactUpTo_succ]
    by_cases c : m = 0 ∨ d[m]! ≠ d[m - 1]!
    · have e : Lib.keeps d m = true := by simp [Lib.keeps, c]
      rw [e, if_pos rfl]
      refine ⟨List.pairwise_append.2 ⟨h1, by simp, fun x hx y hy => ?_⟩, fun x hx => ?_, fun j hj => ?_⟩
      · obtain rfl : y = d[m]! := by simpa using hy
        obtain ⟨j, hj, rfl⟩ := h2 x hx
        rcases c with c | c
        · omega
        · have a1 := hs j (m - 1) (by omega) (by omega)
          have a2 := hs (m - 1) m (by omega) (by omega)
          omega
      · rcases List.mem_append.1 hx with e | e
        · obtain ⟨j, hj, e⟩ := h2 x e; exact ⟨j, by omega, e⟩
        · exact ⟨m, by omega, by simpa using e⟩
      · by_cases q : j = m
        · subst q; simp
        · exact List.mem_append_left _ (h3 j (by omega))
    · have c1 : ¬ m = 0 := fun q => c (.inl q)
      have c2 : d[m]! = d[m - 1]! := by
        by_cases q : d[m]! = d[m - 1]!
        · exact q
        · exact absurd (.inr q) c
      have e : Lib.keeps d m = false := by simp [Lib.keeps, c1, c2]
      rw [e]
      simp only [Bool.false_eq_true, if_false, List.append_nil]
      refine ⟨h1, fun x hx => ?_, fun j hj => ?_⟩
      · obtain ⟨j, hj, e⟩ := h2 x hx; exact ⟨j, by omega, e⟩
      · by_cases q : j = m
        · subst q; rw [c2]; exact h3 _ (by omega)
        · exact h3 j (by omega)
def plE (L : List S25) : List Int := L.flatMap (fun s => [s.f1, s.f2])
def srtE (L : List S25) : List Int := (plE L).mergeSort fun x y => decide (x ≤ y)
def posE (L : List S25) : List Int := Lib.compact (srtE L)
theorem srt_perm (L : List S25) : (srtE L).Perm (plE L) := List.mergeSort_perm _ _
theorem srt_sorted (L : List S25) : (srtE L).Pairwise (· ≤ ·) := by
  have := List.pairwise_mergeSort (le := fun x y : Int => decide (x ≤ y)) (fun a b c h1 h2 => by simp at *; omega) (fun a b => by simp; omega) (plE L)
  exact this.imp (by simp)
theorem pos_ok (L : List S25) : (posE L).Pairwise (· < ·) ∧ (∀ s ∈ L, s.f1 ∈ posE L ∧ s.f2 ∈ posE L) ∧ (posE L).length ≤ 2 * L.length := by
  have hs : ∀ i j, i ≤ j → j < (srtE L).toArray.size → (srtE L).toArray[i]! ≤ (srtE L).toArray[j]! := fun i j hij hj => by
    have hj' : j < (srtE L).length := by simpa using hj
    rw [getElem!_pos _ i (by simp; omega), getElem!_pos _ j (by simpa using hj')]
    simp only [List.getElem_toArray]
    by_cases e : i = j
    · subst e; exact Int.le_refl _
    · exact List.pairwise_iff_getElem.1 (srt_sorted L) i j (by omega) hj' (by omega)
  obtain ⟨h1, h2, h3⟩ := compact_inv (srtE L).toArray hs (srtE L).length (by simp)
  have hmem : ∀ x, x ∈ plE L → x ∈ posE L := fun x hx => by
    obtain ⟨j, hj⟩ := List.getElem?_of_mem ((srt_perm L).mem_iff.2 hx)
    obtain ⟨hjl, rfl⟩ := List.getElem?_eq_some_iff.1 hj
    have := h3 j hjl
    rw [getElem!_pos _ j (by simpa using hjl)] at this
    simpa [posE, Lib.compact] using this
  refine ⟨h1, fun s hs => ⟨hmem _ ?_, hmem _ ?_⟩, ?_⟩
  · exact List.mem_flatMap.2 ⟨s, hs, by simp⟩
  · exact List.mem_flatMap.2 ⟨s, hs, by simp⟩
  · have a : (Lib.compactUpTo (srtE L).toArray (srtE L).length).length ≤ (srtE L).length := by
      unfold Lib.compactUpTo
      rw [List.length_map]
      exact Nat.le_trans (List.length_filter_le _ _) (by simp)
    have b : (srtE L).length = (plE L).length := (srt_perm L).length_eq
    have c : (plE L).length = 2 * L.length := by
      unfold plE
      clear a b hmem hs h1 h2 h3
      induction L with
      | nil => rfl
      | cons s L ih => rw [List.flatMap_cons]; simp at ih ⊢; omega
    unfold posE Lib.compact
    omega
def mayE (s : S25) : Bool := decide (0 ≤ s.f1) && decide (s.f1 ≤ s.f2) && decide (s.f2 ≤ 4611686018427387904)
def okE (L : List S25) : Bool := decide (L.length ≤ 16) && L.all mayE
def mnE (L : List S25) : Option Int := ((L.map (·.f1)).filter (fun p => decide (L.length < 2 * depE L p))).min?
def mxE (L : List S25) : Option Int := ((L.map (·.f2)).filter (fun p => decide (L.length < 2 * depE L p))).max?
def hullZ (L : List S25) : Int × Int × Int := if okE L = true then (match mnE L, mxE L with | some lo, some hi => (lo, hi, 0) | _, _ => (0, 0, 33)) else (0, 0, 1)
theorem hullZ_is {L : List S25} {lo hi : Int} (ho : okE L = true) (h : IsHull L lo hi) : hullZ L = (lo, hi, 0) := by
  have h1 : mnE L = some lo := by
    unfold mnE
    rw [List.min?_eq_some_iff]
    refine ⟨List.mem_filter.2 ⟨?_, by simpa using h.lo_deep⟩, fun b hb => ?_⟩
    · obtain ⟨s, hs, e⟩ := h.lo_mem; exact List.mem_map.2 ⟨s, hs, e⟩
    · exact (h.all b (by simpa using (List.mem_filter.1 hb).2)).1
  have h2 : mxE L = some hi := by
    unfold mxE
    rw [List.max?_eq_some_iff]
    refine ⟨List.mem_filter.2 ⟨?_, by simpa using h.hi_deep⟩, fun b hb => ?_⟩
    · obtain ⟨s, hs, e⟩ := h.hi_mem; exact List.mem_map.2 ⟨s, hs, e⟩
    · exact (h.all b (by simpa using (List.mem_filter.1 hb).2)).2
  unfold hullZ
  rw [if_pos ho, h1, h2]
theorem hullZ_no {L : List S25} (ho : okE L = true) (h : NoHull L) : hullZ L = (0, 0, 33) := by
  have h1 : mnE L = none := by
    unfold mnE
    rw [List.min?_eq_none_iff, List.filter_eq_nil_iff]
    intro p _
    have := h p
    simp; omega
  unfold hullZ
  rw [if_pos ho, h1]
theorem hullZ_bad {L : List S25} (ho : ¬ okE L = true) : hullZ L = (0, 0, 1) := if_neg ho
def endE (L : List S25) : List (Nat × Bool) := (unE (posE L) L).mergeSort fun a b => leE a b
theorem leE_trans (a b c : Nat × Bool) (h1 : leE a b = true) (h2 : leE b c = true) : leE a c = true := by
  rw [leE_iff] at *
  rcases h1 with h1 | ⟨h1, h1' | h1'⟩ <;> rcases h2 with h2 | ⟨h2, h2' | h2'⟩
  · left; omega
  · left; omega
  · left; omega
  · left; omega
  · right; exact ⟨by omega, .inl h1'⟩
  · right; exact ⟨by omega, .inl h1'⟩
  · left; omega
  · rw [h1'] at h2'; cases h2'
  · right; exact ⟨by omega, .inr h2'⟩
theorem leE_total (a b : Nat × Bool) : (leE a b || leE b a) = true := by
  rw [Bool.or_eq_true, leE_iff, leE_iff]
  by_cases h : a.1 = b.1
  · cases ha : a.2 <;> cases hb : b.2 <;> simp [h]
  · omega
theorem end_perm (L : List S25) : (endE L).Perm (unE (posE L) L) := List.mergeSort_perm _ _
theorem end_sorted (L : List S25) : SortedE (endE L) := SortedE.of (List.pairwise_mergeSort leE_trans leE_total _)
theorem un_len (P : List Int) : ∀ L : List S25, (unE P L).length = 2 * L.length
  | [] => rfl
  | s :: L => by have := un_len P L; unfold unE at *; rw [List.flatMap_cons]; simp at this ⊢; omega
theorem end_len (L : List S25) : (endE L).length = 2 * L.length := (end_perm L).length_eq.trans (un_len _ L)
theorem ok_lohi {L : List S25} (ho : okE L = true) : ∀ s ∈ L, 0 ≤ s.f1 ∧ s.f1 ≤ s.f2 ∧ s.f2 ≤ 4611686018427387904 := fun s hs => by
  unfold okE at ho
  rw [Bool.and_eq_true] at ho
  have := List.all_eq_true.1 ho.2 s hs
  unfold mayE at this
  simp at this
  omega
end Go.Proofs.YtapagoaoglmegaaGreat
namespace Go.Proofs.YtapagoaoglmegaaGreat
open Go.RowKit
set_option linter.unusedVariables false
def Lst (w : World) (e : TypeId) (v : Value) (l : List Value) : Prop :=
  ∃ A cap, v = .slice A l.length cap ∧ l.length ≤ cap ∧ cap ≤ maxLen ∧
    (l = [] ∨ ∃ r off cs, A = some ⟨r, off, none⟩ ∧ Blk w r cs e ∧ ∀ i u, l[i]? = some u → cs[off + i]? = some u)
theorem Lst.nil (w : World) (e : TypeId) : Lst w e (.slice none 0 0) [] := ⟨none, 0, rfl, by simp, by simp, .inl rfl⟩
theorem Lst.fr {w w' : World} {e : TypeId} {v : Value} {l : List Value} {S : Nat → Prop} (h : Lst w e v l) (k : Fr S w w') (hS : ∀ r cs, S r → ¬ Blk w r cs e) : Lst w' e v l := by
  obtain ⟨A, cap, hv, hl, hm, h⟩ := h
  refine ⟨A, cap, hv, hl, hm, ?_⟩
  rcases h with h | ⟨r, off, cs, hA, hb, hc⟩
  · exact .inl h
  · exact .inr ⟨r, off, cs, hA, hb.fr k (fun hs => hS r cs hs hb), hc⟩
theorem Lst.drewN {w : World} {e : TypeId} {v : Value} {l : List Value} (h : Lst w e v l) (n : Nat) : Lst (w.drewN n) e v l := h
theorem Lst.drew {w : World} {e : TypeId} {v : Value} {l : List Value} (h : Lst w e v l) : Lst w.drew e v l := h
theorem Lst.get {w : World} {e : TypeId} {A : Option Addr} {len cap i : Nat} {l : List Value} {u : Value} (h : Lst w e (.slice A len cap) l) (hi : l[i]? = some u) :
    ∃ r off, A = some ⟨r, off, none⟩ ∧ w.cell? ⟨r, off + i, none⟩ = some u ∧ r < w.heap.size := by
  obtain ⟨A', cap', hv, _, _, h⟩ := h
  injection hv with h1 h2 h3
  subst h1
  rcases h with h | ⟨r, off, cs, hA, hb, hc⟩
  · subst h; simp at hi
  · exact ⟨r, off, hA, by rw [hb.cell]; exact hc i u hi, hb.lt⟩
theorem Lst.form {w : World} {e : TypeId} {v : Value} {l : List Value} (h : Lst w e v l) : ∃ A cap, v = .slice A l.length cap ∧ l.length ≤ cap ∧ cap ≤ maxLen := by
  obtain ⟨A, cap, hv, hl, hm, _⟩ := h
  exact ⟨A, cap, hv, hl, hm⟩
theorem Lst.drop {w : World} {e : TypeId} {r off len cap k : Nat} {l : List Value} (h : Lst w e (.slice (some ⟨r, off, none⟩) len cap) l) (hk : k ≤ l.length) :
    Lst w e (.slice (some ⟨r, off + k, none⟩) (len - k) (cap - k)) (l.drop k) := by
  obtain ⟨A, cap', hv, hl, hm, h⟩ := h
  injection hv with h1 h2 h3
  subst h1 h2 h3
  refine ⟨some ⟨r, off + k, none⟩, cap - k, by simp, by simp; omega, by omega, ?_⟩
  rcases h with h | ⟨r', off', cs, hA, hb, hc⟩
  · exact .inl (by subst h; simp)
  · injection hA with hA
    injection hA with e1 e2
    subst e1 e2
    refine .inr ⟨r, off + k, cs, rfl, hb, fun i u hi => ?_⟩
    rw [List.getElem?_drop] at hi
    have := hc (k + i) u hi
    rwa [← Nat.add_assoc] at this
theorem Lst.new (w : World) (e : TypeId) (l : List Value) (hl : l ≠ []) (hm : l.length ≤ maxLen) : Lst (w.alloc (.cells l.toArray e)) e (.slice (some ⟨w.heap.size, 0, none⟩) l.length l.length) l :=
  ⟨_, _, rfl, Nat.le_refl _, hm, .inr ⟨w.heap.size, 0, l.toArray, rfl, Blk.new _ _ _, fun i u hi => by simpa using hi⟩⟩
section
variable {P : Program} {ops : Array Oper} {rest : List Oper} {o : Oper} {a : Act} {Q : Exit → Act → World → Prop} {w : World}
theorem run_append_zero (t ty e : TypeId) (i : TypeInfo) (ht : P.underlying t = some (.slice e)) (hi : P.info? e = some i) (A B : Option Addr) (n c cc : Nat) (hn : n ≤ c) :
    (Builtin.append_ #[t, t] ty #[.slice A n c, .slice B 0 cc]).run P w = .ok (.slice A n c) w := by
  have hs : (sizeOf e).run P w = .ok i.size w := by simp [sizeOf, typeInfo, hi]
  have hu := run_underlying (P := P) (w := w) ht
  cases A <;> cases B <;> simp [Builtin.append_, hu, hs, Builtin.lenOf, Builtin.firstCells, loadCells, loadCellsFrom, storeCells, hn]
theorem wpList_append_lst (hgd : o.guard = none) (s x : Operand) (t : TypeId)
    (ho : o.op = .call { callee := .builtin .append, args := #[s, x], argTypes := #[t, t] })
    (base : Nat) (e : TypeId) (z : Value) (bytes : Nat) (ht : P.underlying t = some (.slice e)) (hinfo : (P.info? e).map (fun i => (i.zero, i.size, i.bytes)) = some (some z, 1, bytes)) (hz : z.cells.size = 1)
    (v sv : Value) (xs news : List Value) (hs : a.eval s = v) (hx : a.eval x = sv) (hown : w.ownsRow base e 1 v xs.length xs) (hsrc : Lst w e sv news) (h1 : ∀ u ∈ news, u.oneCell' = true)
    (hlen : xs.length + news.length ≤ maxLen) (hbytes : (xs.length + news.length) * bytes ≤ 140737488355328) (hbase : base ≤ w.heap.size)
    (h : ∀ v' w', w'.ownsRow base e 1 v' (xs ++ news).length (xs ++ news) → w.grownBy w' v.ownBlock → (v'.ownBlock = v.ownBlock ∨ v'.ownBlock = some w.heap.size) → wpList P ops Q rest (a.put o.dst v') w') :
    wpList P ops Q (o :: rest) a w := by
  obtain ⟨i0, hi, hzz⟩ := Option.map_eq_some_iff.1 hinfo
  simp only [Prod.mk.injEq] at hzz
  obtain ⟨hz0, hz1, hz2⟩ := hzz
  by_cases hn : news = []
  · subst hn
    obtain ⟨B, cc, rfl, _, _⟩ := hsrc.form
    simp only [List.append_nil] at h
    refine wpList_plain hgd fun K hK => ?_
    have hv : ∃ A c, v = .slice A xs.length c ∧ xs.length ≤ c := by
      rcases hown.2 with ⟨rfl, h0⟩ | ⟨g, cap, cur, rfl, _, _, hc, _⟩
      · exact ⟨none, 0, by rw [h0], by omega⟩
      · exact ⟨_, cap, rfl, hc⟩
    obtain ⟨A, c, rfl, hc⟩ := hv
    unfold Oper.wp execOp
    simp only [ho, resolve, invoke, builtin, Sem.run_bind, Sem.run_pure, Result.andThen_ok, List.map_toArray, List.map_cons, List.map_nil, hs, hx]
    rw [show ([] : List Value).length = 0 from rfl, run_append_zero t o.type e i0 ht hi A B xs.length c cc hc]
    exact hK _ _ (h _ _ hown ⟨rfl, rfl, rfl, Nat.le_refl _, fun _ _ _ => rfl⟩ (.inl rfl))
  · obtain ⟨u, hu⟩ : ∃ u, news[0]? = some u := by
      cases news with
      | nil => exact absurd rfl hn
      | cons u l => exact ⟨u, rfl⟩
    obtain ⟨B, cc, rfl, _, _⟩ := hsrc.form
    obtain ⟨r, off, rfl, _, _⟩ := hsrc.get hu
    have hadd : ∀ k, (⟨r, off, none⟩ : Addr).add k = ⟨r, off + k, none⟩ := by intro k; unfold Addr.add; split <;> simp_all
    refine wpList_append_own_at (P := P) (w := w) hgd s x t ho base e i0 z 1 bytes ht hi hz0 hz1 hz2 hz (by decide) v xs.length xs hs hown ⟨r, off, none⟩ news.length cc news hx (by simp) ?_ h1 hlen hbytes hbase ?_
    · intro j u hj
      rw [hadd]
      obtain ⟨r', off', e1, e2, _⟩ := hsrc.get hj
      injection e1 with e1
      injection e1 with e3 e4
      subst e3 e4
      exact e2
    · intro v' w' h2 h3 _ h5
      exact h v' w' (by rw [List.length_append]; exact h2) h3 h5
end
theorem Fr.grown {S : Nat → Prop} {a w w' : World} {row : Option Nat} (h : Fr S a w) (g : w.grownBy w' row) (hr : ∀ k, row = some k → a.heap.size ≤ k ∨ S k) : Fr S a w' :=
  ⟨g.os.trans h.os, g.tape.trans h.tape, g.output.trans h.output, Nat.le_trans h.size g.size, fun k hk hn => (g.block k (Nat.lt_of_lt_of_le hk h.size) (fun e => by
    rcases hr k e.symm with h' | h'
    · omega
    · exact hn h')).trans (h.block k hk hn)⟩
end Go.Proofs.YtapagoaoglmegaaGreat
namespace Go.Proofs.YtapagoaoglmegaaGreat
open Go.RowKit Go.Proofs.YtapagoaoglmegaaGreatW.PrintWords Go.Proofs.YtapagoaoglmegaaGreatW.PrintLast Go.Proofs.YtapagoaoglmegaaGreatW.PrintMore PCl
set_option linter.unusedVariables false
set_option linter.unusedSimpArgs false
set_option maxRecDepth 100000
theorem hidE {p : Prop} (h : p) : Hid p := h
theorem spotE {w : World} {ad : Addr} {v : Value} (h : w.cell? ad = some v) : ∃ r off, ad = ⟨r, off, none⟩ := by
  obtain ⟨r, off, spot⟩ := ad
  cases spot with
  | none => exact ⟨r, off, rfl⟩
  | some s => simp only [World.cell?] at h; split at h <;> simp_all
theorem addE (r off k : Nat) : (⟨r, off, none⟩ : Addr).add k = ⟨r, off + k, none⟩ := by unfold Addr.add; split <;> simp_all
def encS (s : S25) : List Value := [.int .i64 s.f0, .int .i64 s.f1, .int .i64 s.f2]
@[reducible] def vS (s : S25) : Value := .agg #[.int .i64 s.f0, .int .i64 s.f1, .int .i64 s.f2]
def AtS (w : World) (r o : Nat) (s : S25) : Prop :=
  w.cell? ⟨r, o, none⟩ = some (.int .i64 s.f0) ∧ w.cell? ⟨r, o + 1, none⟩ = some (.int .i64 s.f1) ∧ w.cell? ⟨r, o + 2, none⟩ = some (.int .i64 s.f2)
theorem AtS.fr {w w' : World} {r o : Nat} {s : S25} {S : Nat → Prop} (h : AtS w r o s) (k : Fr S w w') (hs : ¬ S r) : AtS w' r o s := by
  have hb := World.block_lt_of_cell? w _ h.1
  exact ⟨(k.cell (a := ⟨r, o, none⟩) hb hs).trans h.1, (k.cell (a := ⟨r, o + 1, none⟩) hb hs).trans h.2.1, (k.cell (a := ⟨r, o + 2, none⟩) hb hs).trans h.2.2⟩
theorem rdE {l : List S25} {i : Nat} {s : S25} (h : l[i]? = some s) : rd_T25 l (i : Int) = s := by
  unfold rd_T25; simp [h]
theorem C25_open {w : World} {A : Option Addr} {l : List S25} (h : Kd.C k25 w A l.length l) (hn : 0 < l.length) : ∃ r off, A = some ⟨r, off, none⟩ ∧ r < w.heap.size ∧ ∀ i s, l[i]? = some s → AtS w r (off + i * 3) s := by
  obtain ⟨ad, rfl, h0, _⟩ := at_T25 h 0 (by omega) (by omega)
  rw [show (0 : Int).toNat * 3 = 0 from rfl] at h0
  have e0 : ad.add 0 = ad := by unfold Addr.add; simp
  rw [e0] at h0
  obtain ⟨r, off, rfl⟩ := spotE h0
  refine ⟨r, off, rfl, World.block_lt_of_cell? w _ h0, fun i s hi => ?_⟩
  have hil := (List.getElem?_eq_some_iff.1 hi).1
  obtain ⟨ad, e, h1, h2, h3⟩ := at_T25 h (i : Int) (by omega) (by omega)
  obtain rfl := Option.some.inj e
  rw [rdE hi, Int.toNat_natCast, addE] at h1 h2 h3
  exact ⟨h1, h2, h3⟩
theorem C25_len {w : World} {A : Option Addr} {l : List S25} (h : Kd.C k25 w A l.length l) : l.length ≤ 9223372036854775807 := h.2.1
theorem emay_at (s : S25) (W : World) : Calls Tryz.prog 43 #[vS s] W fun e w' => e = .returned (.bool (mayE s)) ∧ Fr (fun _ => False) W w' := by
  by_cases h1 : 0 ≤ s.f1
  · by_cases h2 : s.f1 ≤ s.f2
    · by_cases h3 : s.f2 ≤ 4611686018427387904
      · have e : mayE s = true := by unfold mayE; simp [h1, h2, h3]
        rw [e]
        clear e
        have t1 : decide (s.f1 ≥ 0) = true := decide_eq_true h1
        have t2 : decide (s.f1 ≤ s.f2) = true := decide_eq_true h2
        have t3 : decide (s.f2 ≤ 4611686018427387904) = true := decide_eq_true h3
        go_enter Tryz.func43, Tryz.ntmps43
        go_wp2
        go_ret
        exact ⟨rfl, by (repeat' (first | (with_reducible exact Fr.refl _ _) | (with_reducible assumption) | (with_reducible refine Fr.alloc ?_ _) | (with_reducible refine Fr.drew ?_) | (with_reducible refine Fr.drewN ?_ _) | (with_reducible refine Fr.setCell ?_ _ _ ?_) | (exact Or.inr rfl) | (left; simp; done) | (left; simp; omega) | (simp; done) | (simp; omega) | omega))⟩
      · have e : mayE s = false := by unfold mayE; simp [h3]
        rw [e]
        clear e
        have t1 : decide (s.f1 ≥ 0) = true := decide_eq_true h1
        have t2 : decide (s.f1 ≤ s.f2) = true := decide_eq_true h2
        have t3 : decide (s.f2 ≤ 4611686018427387904) = false := decide_eq_false h3
        go_enter Tryz.func43, Tryz.ntmps43
        go_wp2
        go_ret
        exact ⟨rfl, by (repeat' (first | (with_reducible exact Fr.refl _ _) | (with_reducible assumption) | (with_reducible refine Fr.alloc ?_ _) | (with_reducible refine Fr.drew ?_) | (with_reducible refine Fr.drewN ?_ _) | (with_reducible refine Fr.setCell ?_ _ _ ?_) | (exact Or.inr rfl) | (left; simp; done) | (left; simp; omega) | (simp; done) | (simp; omega) | omega))⟩
    · have e : mayE s = false := by unfold mayE; simp [h2]
      rw [e]
      clear e
      have t1 : decide (s.f1 ≥ 0) = true := decide_eq_true h1
      have t2 : decide (s.f1 ≤ s.f2) = false := decide_eq_false h2
      go_enter Tryz.func43, Tryz.ntmps43
      go_wp2
      go_ret
      exact ⟨rfl, by (repeat' (first | (with_reducible exact Fr.refl _ _) | (with_reducible assumption) | (with_reducible refine Fr.alloc ?_ _) | (with_reducible refine Fr.drew ?_) | (with_reducible refine Fr.drewN ?_ _) | (with_reducible refine Fr.setCell ?_ _ _ ?_) | (exact Or.inr rfl) | (left; simp; done) | (left; simp; omega) | (simp; done) | (simp; omega) | omega))⟩
  · have e : mayE s = false := by unfold mayE; simp [h1]
    rw [e]
    clear e
    have t1 : decide (s.f1 ≥ 0) = false := decide_eq_false h1
    go_enter Tryz.func43, Tryz.ntmps43
    go_wp2
    go_ret
    exact ⟨rfl, by (repeat' (first | (with_reducible exact Fr.refl _ _) | (with_reducible assumption) | (with_reducible refine Fr.alloc ?_ _) | (with_reducible refine Fr.drew ?_) | (with_reducible refine Fr.drewN ?_ _) | (with_reducible refine Fr.setCell ?_ _ _ ?_) | (exact Or.inr rfl) | (left; simp; done) | (left; simp; omega) | (simp; done) | (simp; omega) | omega))⟩
theorem bad_at (s : S25) (W : World) : Calls Tryz.prog 42 #[vS s] W fun e w' => e = .returned (.bool (!mayE s)) ∧ Fr (fun _ => False) W w' := by
  obtain ⟨q, hq⟩ : ∃ q, q = mayE s := ⟨_, rfl⟩
  have HM : Hid (∀ W, Calls Tryz.prog 43 #[vS s] W fun e w' => e = .returned (.bool q) ∧ Fr (fun _ => False) W w') := hidE (by rw [hq]; exact emay_at s)
  rw [← hq]
  clear hq
  go_enter Tryz.func42, Tryz.ntmps42
  go_wp2_with fail
  generalize hW : World.alloc W _ = W1
  have f0 : Fr (fun _ => False) W W1 := by subst hW; (repeat' (first | (with_reducible exact Fr.refl _ _) | (with_reducible assumption) | (with_reducible refine Fr.alloc ?_ _) | (with_reducible refine Fr.drew ?_) | (with_reducible refine Fr.drewN ?_ _) | (with_reducible refine Fr.setCell ?_ _ _ ?_) | (exact Or.inr rfl) | (left; simp; done) | (left; simp; omega) | (simp; done) | (simp; omega) | omega))
  clear hW
  refine (HM.out _).mono ?_
  rintro e w2 ⟨rfl, k2⟩
  go_wp2
  go_ret
  exact ⟨rfl, f0.trans k2 (fun _ _ h => h)⟩
section
open Go.Shelf
shelf_lay_g SlLaysH0.n8 Slgf 8 at Tryz 41 as YtapagoaoglmegaaGreat.ctf
end
instance inhS : Inhabited S25 := ⟨z25⟩
theorem ix_none (A : Option Addr) (cap : Nat) (w : World) : Calls Tryz.prog 90 #[.slice A 0 cap, .func (.func 42) #[] #[]] w fun e w' => e = .returned (.int .i64 (-1)) ∧ Fr (fun _ => False) w w' := by
  go_enter Tryz.func90, Tryz.ntmps90
  go_wp2
  refine wp_loop_rounds 1 ?_
  rw [rounds_succ]
  go_wp2
  go_ret
  exact ⟨rfl, by (repeat' (first | (with_reducible exact Fr.refl _ _) | (with_reducible assumption) | (with_reducible refine Fr.alloc ?_ _) | (with_reducible refine Fr.drew ?_) | (with_reducible refine Fr.drewN ?_ _) | (with_reducible refine Fr.setCell ?_ _ _ ?_) | (exact Or.inr rfl) | (left; simp; done) | (left; simp; omega) | (simp; done) | (simp; omega) | omega))⟩
theorem bad_none (A : Option Addr) (cap : Nat) (w : World) : Calls Tryz.prog 41 #[.slice A 0 cap, .func (.func 42) #[] #[]] w fun e w' => e = .returned (.bool false) ∧ Fr (fun _ => False) w w' := by
  go_enter Tryz.func41, Tryz.ntmps41
  go_wp2_with fail
  refine (ix_none A cap _).mono ?_
  rintro e w1 ⟨rfl, k1⟩
  go_wp2
  go_ret
  exact ⟨rfl, k1⟩
theorem bad_any {w : World} {A : Option Addr} {cap : Nat} {L : List S25} (hC : Kd.C k25 w A L.length L) (hc : L.length ≤ cap) :
    Calls Tryz.prog 41 #[.slice A L.length cap, .func (.func 42) #[] #[]] w fun e w' => e = .returned (.bool (L.any fun s => !mayE s)) ∧ Fr (fun _ => False) w w' := by
  by_cases hn : 0 < L.length
  · obtain ⟨r, off, rfl, hr, hat⟩ := C25_open hC hn
    have hp : Go.Proofs.PredBelow Tryz.prog 42 #[] (fun s => .agg (encS s).toArray) (fun s => !mayE s) w := fun W s hb => (bad_at s W).mono fun e w' h => ⟨h.1, hb.trans (h.2.below.mono hb.size)⟩
    have hcell : ∀ j, j < L.length → ∀ i v, (encS L[j]!)[i]? = some v → w.cell? ⟨r, off + j * 3 + i, none⟩ = some v := fun j hj i v hv => by
      have h1 : L[j]? = some L[j]! := by rw [getElem!_pos _ j hj]; exact List.getElem?_eq_getElem hj
      obtain ⟨a0, a1, a2⟩ := hat j _ h1
      match i, hv with
      | 0, hv => have hv := Option.some.inj hv; subst hv; exact a0
      | 1, hv => have hv := Option.some.inj hv; subst hv; exact a1
      | 2, hv => have hv := Option.some.inj hv; subst hv; exact a2
      | i + 3, hv => simp [encS] at hv
    have := AnyQ.slices_ContainsFunc YtapagoaoglmegaaGreat.ctf 3 Tryz.isAgg25 Tryz.sizeOf25 encS (fun _ => rfl) (fun s => !mayE s) 42 #[] (enters_of Tryz.func42 (by kernel_rfl) rfl) r off L.length cap L w hp (Nat.le_refl _) (C25_len hC) hr hcell
    rw [List.take_length] at this
    exact this.mono fun e w' h => ⟨h.1, Fr.of_below h.2 (Nat.le_refl _) _⟩
  · have h0 : L = [] := List.eq_nil_of_length_eq_zero (by omega)
    subst h0
    exact bad_none A cap w
end Go.Proofs.YtapagoaoglmegaaGreat
namespace Go.Proofs.YtapagoaoglmegaaGreat
open Go
def flE (n : Int) : Nat := floatOfInt .f64 n
def oneE : Nat := 4607182418800017408
def moneE : Nat := 13830554455654793216
def hfE (n : Int) : Nat := (floatBits .quo .f64 (flE n) 4611686018427387904).getD 0
theorem cmp_tab : ((List.range 64).all fun a => (List.range 64).all fun b => (FloatKind.f64.format.order (flE a) (flE b) == some (compare a b))) = true := by kernel_rfl
theorem sgn_tab : (FloatKind.f64.format.order oneE oneE == some .eq && FloatKind.f64.format.order moneE moneE == some .eq && FloatKind.f64.format.order oneE moneE == some .gt && FloatKind.f64.format.order moneE oneE == some .lt) = true := by kernel_rfl
theorem im_tab : ((List.range 81).all fun a => floatBits .add .f64 (flE ((a : Int) - 40)) oneE == some (flE ((a : Int) - 39)) && floatBits .add .f64 (flE ((a : Int) - 40)) moneE == some (flE ((a : Int) - 41))) = true := by kernel_rfl
theorem hf_tab : ((List.range 81).all fun a => (List.range 21).all fun n => (FloatKind.f64.format.order (flE ((a : Int) - 40)) (hfE n) == some (compare (2 * ((a : Int) - 40)) (n : Int))) && floatBits .quo .f64 (flE n) 4611686018427387904 == some (hfE n)) = true := by kernel_rfl
theorem int_tab : ((List.range 64).all fun a => floatToIntVal .f64 (flE a) .i64 == some (a : Int)) = true := by kernel_rfl
theorem low_tab : ((List.range 64).all fun a => decide (flE a < 9218868437227405312)) = true := by kernel_rfl
theorem fl_zero : flE 0 = 0 := by kernel_rfl
theorem fl_ord {a b : Nat} (ha : a < 64) (hb : b < 64) : FloatKind.f64.format.order (flE a) (flE b) = some (compare a b) := by
  have := List.all_eq_true.1 (List.all_eq_true.1 cmp_tab a (List.mem_range.2 ha)) b (List.mem_range.2 hb)
  simpa using this
theorem im_add {z : Int} (h1 : -40 ≤ z) (h2 : z ≤ 40) : floatBits .add .f64 (flE z) oneE = some (flE (z + 1)) ∧ floatBits .add .f64 (flE z) moneE = some (flE (z - 1)) := by
  have := List.all_eq_true.1 im_tab (z + 40).toNat (List.mem_range.2 (by omega))
  rw [show (((z + 40).toNat : Nat) : Int) = z + 40 by omega] at this
  rw [show z + 40 - 40 = z by omega, show z + 40 - 39 = z + 1 by omega, show z + 40 - 41 = z - 1 by omega] at this
  simpa using this
theorem hf_ord {z : Int} {n : Nat} (h1 : -40 ≤ z) (h2 : z ≤ 40) (hn : n ≤ 20) : FloatKind.f64.format.order (flE z) (hfE n) = some (compare (2 * z) (n : Int)) := by
  have := List.all_eq_true.1 (List.all_eq_true.1 hf_tab (z + 40).toNat (List.mem_range.2 (by omega))) n (List.mem_range.2 (by omega))
  rw [show (((z + 40).toNat : Nat) : Int) = z + 40 by omega, show z + 40 - 40 = z by omega, Bool.and_eq_true] at this
  simpa using this.1
theorem hf_is {n : Nat} (hn : n ≤ 20) : floatBits .quo .f64 (flE n) 4611686018427387904 = some (hfE n) := by
  have := List.all_eq_true.1 (List.all_eq_true.1 hf_tab 0 (List.mem_range.2 (by omega))) n (List.mem_range.2 (by omega))
  rw [Bool.and_eq_true] at this
  simpa using this.2
theorem fl_int {a : Nat} (ha : a < 64) : floatToIntVal .f64 (flE a) .i64 = some (a : Int) := by
  have := List.all_eq_true.1 int_tab a (List.mem_range.2 ha)
  simpa using this
theorem fl_low {a : Nat} (ha : a < 64) : flE a < 9218868437227405312 := by
  have := List.all_eq_true.1 low_tab a (List.mem_range.2 ha)
  simpa using this
theorem read_good {x : Nat} (h : x ≤ 9218868437227405312) : (∃ m i, FloatKind.f64.format.read x = .number false m i) ∨ (FloatKind.f64.format.read x = .infinity false ∧ x = 9218868437227405312) := by
  have e1 : x / FloatKind.f64.format.signWeight = 0 := Nat.div_eq_of_lt (by show x < 9223372036854775808; omega)
  have e2 : x % FloatKind.f64.format.signWeight = x := Nat.mod_eq_of_lt (by show x < 9223372036854775808; omega)
  unfold Ieee.Format.read
  simp only [e1, e2]
  split
  · exact .inl ⟨_, _, rfl⟩
  · split
    · exact .inl ⟨_, _, rfl⟩
    · rename_i h1 h2
      have h3 : ¬ x < 9218868437227405312 := h2
      have h4 : x = FloatKind.f64.format.infRung := by show x = 9218868437227405312; omega
      rw [if_pos h4]
      exact .inr ⟨rfl, by omega⟩
theorem inf_rung : FloatKind.f64.format.infRung = 9218868437227405312 := by kernel_rfl
theorem word_good (n : Nat) : FloatKind.f64.format.word false (min n FloatKind.f64.format.infRung) ≤ 9218868437227405312 := by
  rw [inf_rung]
  exact Nat.min_le_right _ _
theorem near_good (m : Nat) (i : Int) : FloatKind.f64.format.nearest false m i ≤ 9218868437227405312 := by
  unfold Ieee.Format.nearest
  split
  · exact Nat.zero_le _
  · exact word_good _
theorem re_add {x y : Nat} (hx : x ≤ 9218868437227405312) (hy : y < 9218868437227405312) : ∃ r, floatBits .add .f64 x y = some r ∧ r ≤ 9218868437227405312 := by
  show ∃ r, FloatKind.f64.format.add x y = some r ∧ r ≤ 9218868437227405312
  unfold Ieee.Format.add
  rcases read_good (show y ≤ 9218868437227405312 by omega) with ⟨n, j, hy1⟩ | ⟨_, hy1⟩
  · rw [hy1]
    rcases read_good hx with ⟨m, i, hx1⟩ | ⟨hx1, _⟩
    · rw [hx1]
      refine ⟨_, rfl, ?_⟩
      unfold Ieee.Format.write
      simp only
      have e : ∀ a b : Nat, (if Ieee.signed false m a + Ieee.signed false n b = 0 then false && false else decide (Ieee.signed false m a + Ieee.signed false n b < 0)) = false := fun a b => by
        have h1 : 0 ≤ Ieee.signed false m a := Int.natCast_nonneg (m <<< a)
        have h2 : 0 ≤ Ieee.signed false n b := Int.natCast_nonneg (n <<< b)
        split
        · rfl
        · simp; omega
      rw [e]
      exact near_good _ _
    · rw [hx1]
      exact ⟨_, rfl, by decide⟩
  · omega
end Go.Proofs.YtapagoaoglmegaaGreat
namespace Go.Proofs
open Go.Shelf
shelf_lay_g SlLaysM.n5 Slgm 5 at Tryz 91 as YtapagoaoglmegaaGreat.srt
shelf_lay_g SlLaysN.n43 Slgn 43 at Tryz 92 as YtapagoaoglmegaaGreat.cpt
shelf_lay_g SlLaysN.n49 Slgn 49 at Tryz 129 as YtapagoaoglmegaaGreat.bsr
shelf_lay_g SlLaysF.n6 Slsf 6 at Tryz 94 as YtapagoaoglmegaaGreat.srf
end Go.Proofs
namespace Go.Proofs.YtapagoaoglmegaaGreat
open Go.RowKit Go.Proofs.YtapagoaoglmegaaGreatW.PrintWords Go.Proofs.YtapagoaoglmegaaGreatW.PrintLast Go.Proofs.YtapagoaoglmegaaGreatW.PrintMore PCl
open Go.Sort (Holds putRow grow)
set_option linter.unusedVariables false
set_option linter.unusedSimpArgs false
set_option maxRecDepth 100000
section
variable {α : Type} [Inhabited α] {enc : α → Value}
def CsE (enc : α → Value) (w : World) (g : Nat) (l : List α) : Prop := Holds enc w g 0 l.toArray ∧ g < w.heap.size
theorem CsE.cell {w : World} {g : Nat} {l : List α} (h : CsE enc w g l) {i : Nat} {x : α} (hi : l[i]? = some x) : w.cell? ⟨g, i, none⟩ = some (enc x) := by
  obtain ⟨hl, rfl⟩ := List.getElem?_eq_some_iff.1 hi
  have := (h.1 i (by simpa using hl)).1
  rw [Nat.zero_add, getElem!_pos _ i (by simpa using hl)] at this
  simpa using this
theorem CsE.of {w : World} {g : Nat} {l : List α} (h : ∀ i x, l[i]? = some x → w.cell? ⟨g, i, none⟩ = some (enc x) ∧ w.frozen? ⟨g, i, none⟩ = false) (hg : g < w.heap.size) : CsE enc w g l := by
  refine ⟨fun j hj => ?_, hg⟩
  have hl : j < l.length := by simpa using hj
  rw [Nat.zero_add, getElem!_pos _ j hj]
  simpa using h j l[j] (List.getElem?_eq_getElem hl)
theorem CsE.get {w : World} {g : Nat} {l : List α} (h : CsE enc w g l) {i : Nat} {x : α} (hi : l[i]? = some x) : w.cell? ⟨g, i, none⟩ = some (enc x) ∧ w.frozen? ⟨g, i, none⟩ = false := by
  obtain ⟨hl, _⟩ := List.getElem?_eq_some_iff.1 hi
  have := (h.1 i (by simpa using hl)).2
  rw [Nat.zero_add] at this
  exact ⟨h.cell hi, this⟩
theorem CsE.fr {S : Nat → Prop} {w w' : World} {g : Nat} {l : List α} (h : CsE enc w g l) (k : Fr S w w') (hs : ¬ S g) : CsE enc w' g l := by
  refine CsE.of (fun i x hi => ?_) (k.lt h.2)
  obtain ⟨h1, h2⟩ := h.get hi
  have hb := k.block g h.2 hs
  refine ⟨(k.cell (a := ⟨g, i, none⟩) h.2 hs).trans h1, ?_⟩
  rw [← h2]
  simp only [World.frozen?, hb]
theorem CsE.head {w : World} {g : Nat} {a b : List α} (h : CsE enc w g (a ++ b)) : CsE enc w g a :=
  CsE.of (fun i x hi => h.get (by rw [List.getElem?_append_left (List.getElem?_eq_some_iff.1 hi).1]; exact hi)) h.2
theorem own_cs {w : World} {base : Nat} {e : TypeId} {v : Value} {l : List α} (h : w.ownsRow base e 1 v l.length (l.map enc)) :
    (v = .slice none 0 0 ∧ l = []) ∨ ∃ g cap, v = .slice (some ⟨g, 0, none⟩) l.length cap ∧ l.length ≤ cap ∧ cap ≤ maxLen ∧ base ≤ g ∧ CsE enc w g l := by
  rcases h.2 with ⟨rfl, e⟩ | ⟨g, cap, cur, rfl, hg, hb, hc, hm, hs, ht⟩
  · exact .inl ⟨rfl, List.eq_nil_of_length_eq_zero e⟩
  · refine .inr ⟨g, cap, rfl, hc, hm, hg, CsE.of (fun i x hi => ⟨?_, by simp [World.frozen?, hb]⟩) (Array.getElem?_eq_some_iff.1 hb).1⟩
    have hl := (List.getElem?_eq_some_iff.1 hi).1
    have h1 : (cur.toList.take (l.length * 1))[i]? = (l.map enc)[i]? := by rw [ht]
    rw [List.getElem?_take_of_lt (by omega), List.getElem?_map, hi] at h1
    simp only [World.cell?, hb]
    simpa using h1
theorem cs_put {w : World} {g n : Nat} {os : Array Obj} {l m : List α} (h : CsE enc w g l) (hl : m.length = l.length) :
    CsE enc (grow (putRow enc (Sort.ahead w n) g 0 m.toArray) os) g m ∧ Fr (fun i => i = g) w (grow (putRow enc (Sort.ahead w n) g 0 m.toArray) os) := by
  have h0 : Holds enc (Sort.ahead w n) g 0 l.toArray := h.1
  have h1 := Sort.holds_putRow enc (Sort.ahead w n) g 0 l.toArray m.toArray h0 (by simp [hl])
  have hf : Fr (fun i => i = g) w (grow (putRow enc (Sort.ahead w n) g 0 m.toArray) os) := by
    refine ⟨rfl, rfl, rfl, by simp, fun k hk hne => ?_⟩
    rw [Sort.heap_grow_old _ _ (by simpa using hk)]
    have : ¬ g = k := fun e => hne e.symm
    simp [putRow, Sort.mapBlock, Sort.ahead, Array.getElem?_modify, this]
  refine ⟨CsE.of (fun i x hi => ?_) (hf.lt h.2), hf⟩
  have hl1 := (List.getElem?_eq_some_iff.1 hi).1
  obtain ⟨a1, a2⟩ := h1 i (by simpa using hl1)
  have hgs : g < (putRow enc (Sort.ahead w n) g 0 m.toArray).heap.size := by simpa using h.2
  have hb := Sort.heap_grow_old (putRow enc (Sort.ahead w n) g 0 m.toArray) os hgs
  rw [Nat.zero_add] at a1 a2
  rw [getElem!_pos _ i (by simpa using hl1)] at a1
  refine ⟨?_, ?_⟩
  · rw [← (List.getElem?_eq_some_iff.1 hi).2]
    refine Eq.trans ?_ (by simpa using a1)
    simp only [World.cell?, hb]
  · rw [← a2]
    simp only [World.frozen?, hb]
end
theorem sort_at {w : World} {g cap : Nat} {l : List Int} (h : CsE (Value.int .i64) w g l) (hs : l.length < 4611686018427387904) :
    Calls Tryz.prog 91 #[.slice (some ⟨g, 0, none⟩) l.length cap] w fun e w' => e = .returned (.tuple #[]) ∧ CsE (Value.int .i64) w' g (l.mergeSort fun x y => decide (x ≤ y)) ∧ Fr (fun i => i = g) w w' := by
  refine Calls.mono (AnyM.slices_Sort_int YtapagoaoglmegaaGreat.srt g 0 cap l w h.1 h.2 hs) ?_
  rintro e w' ⟨rfl, n, os, rfl⟩
  obtain ⟨h1, h2⟩ := cs_put (n := n) (os := os) h (m := l.mergeSort fun x y => decide (x ≤ y)) (List.length_mergeSort _)
  exact ⟨rfl, h1, h2⟩
theorem sort_no (A : Option Addr) (cap : Nat) (w : World) : Calls Tryz.prog 91 #[.slice A 0 cap] w fun e w' => e = .returned (.tuple #[]) ∧ w = w' := by
  refine Calls.mono (AnyM.slices_Sort_int_none YtapagoaoglmegaaGreat.srt A cap w) ?_
  rintro e w' ⟨rfl, rfl⟩
  exact ⟨rfl, rfl⟩
theorem compact_le (l : List Int) : (Lib.compact l).length ≤ l.length := by
  unfold Lib.compact Lib.compactUpTo
  rw [List.length_map]
  exact Nat.le_trans (List.length_filter_le _ _) (by simp)
theorem compact_at {w : World} {g cap : Nat} {l : List Int} (h : CsE (Value.int .i64) w g l) (hs : l.length ≤ 9223372036854775807) (hc : l.length ≤ cap) :
    Calls Tryz.prog 92 #[.slice (some ⟨g, 0, none⟩) l.length cap] w fun e w' => e = .returned (.slice (some ⟨g, 0, none⟩) (Lib.compact l).length cap) ∧ CsE (Value.int .i64) w' g (Lib.compact l) ∧ Fr (fun i => i = g) w w' := by
  refine Calls.mono (AnyG.slices_Compact_int YtapagoaoglmegaaGreat.cpt g 0 cap l w h.1 hs hc) ?_
  rintro e w' ⟨rfl, n, rfl⟩
  have hlen := compact_le l
  obtain ⟨h1, h2⟩ := cs_put (n := n) (os := #[]) h (m := Lib.compact l ++ List.replicate (l.length - (Lib.compact l).length) 0) (by rw [List.length_append, List.length_replicate]; omega)
  rw [Sort.grow_empty] at h1 h2
  exact ⟨rfl, h1.head, h2⟩
theorem compact_no (A : Option Addr) (cap : Nat) (w : World) : Calls Tryz.prog 92 #[.slice A 0 cap] w fun e w' => e = .returned (.slice A 0 cap) ∧ w = w' := by
  refine Calls.mono (AnyG.slices_Compact_int_empty YtapagoaoglmegaaGreat.cpt A cap w) ?_
  rintro e w' ⟨rfl, rfl⟩
  exact ⟨rfl, rfl⟩
theorem search_at {w : World} {g cap : Nat} {l : List Int} (h : CsE (Value.int .i64) w g l) (hs : l.length < 4611686018427387904) (hp : l.Pairwise (· ≤ ·)) (x : Int) :
    Calls Tryz.prog 129 #[.slice (some ⟨g, 0, none⟩) l.length cap, .int .i64 x] w fun e w' => e = .returned (.tuple #[.int .i64 (rkE l x : Nat), .bool (l.contains x)]) ∧ ∃ q, w' = w.drewN q := by
  have hc : ∀ j, j < l.length → w.cell? ⟨g, 0 + j, none⟩ = some (.int .i64 (l.getD j 0)) := fun j hj => by
    rw [Nat.zero_add, List.getD_eq_getElem?_getD, List.getElem?_eq_getElem hj]
    exact h.cell (List.getElem?_eq_getElem hj)
  have := AnyG.slices_BinarySearch_int YtapagoaoglmegaaGreat.bsr g 0 l.length cap l x w (Nat.le_refl _) hs hc (by rw [List.take_length]; exact hp)
  rw [List.take_length] at this
  exact this
def ordI : Ordering → Int
  | .lt => -1
  | .eq => 0
  | .gt => 1
theorem nan_at {x : Nat} (hx : FloatKind.f64.format.order x x = some .eq) (W : World) : Calls Tryz.prog 131 #[.float .f64 x] W fun e w' => e = .returned (.bool false) ∧ W = w' := by
  go_enter Tryz.func131, Tryz.ntmps131
  go_wp2
  go_ret
  exact ⟨rfl, rfl⟩
theorem fcmp_at {x y : Nat} {o : Ordering} (hx : FloatKind.f64.format.order x x = some .eq) (hy : FloatKind.f64.format.order y y = some .eq) (h : FloatKind.f64.format.order x y = some o) (W : World) :
    Calls Tryz.prog 97 #[.float .f64 x, .float .f64 y] W fun e w' => e = .returned (.int .i64 (ordI o)) ∧ W = w' := by
  have HX := hidE hx
  have HY := hidE hy
  clear hx hy
  cases o
  all_goals
    go_enter Tryz.func97, Tryz.ntmps97
    go_wp2_with fail
    refine (nan_at HX.out _).mono ?_
    rintro e w1 ⟨rfl, rfl⟩
    go_wp2_with fail
    refine (nan_at HY.out _).mono ?_
    rintro e w1 ⟨rfl, rfl⟩
    go_wp2
    go_ret
    exact ⟨rfl, rfl⟩
theorem or_at (a b : Int) (W : World) : Calls Tryz.prog 96 #[.slice (some ⟨W.heap.size, 0, none⟩) 2 2] (W.alloc (.cells #[.int .i64 a, .int .i64 b] 3)) fun e w' => e = .returned (.int .i64 (if a = 0 then b else a)) ∧ w' = W.alloc (.cells #[.int .i64 a, .int .i64 b] 3) := by
  by_cases ha : a = 0
  · by_cases hb : b = 0
    · rw [if_pos ha]
      subst ha hb
      go_enter Tryz.func96, Tryz.ntmps96
      go_wp2
      refine wp_loop_rounds 3 ?_
      repeat any_goals (rw [rounds_succ]; go_wp2)
      all_goals go_ret
      all_goals exact ⟨rfl, rfl⟩
    · rw [if_pos ha]
      subst ha
      have t1 : (b != 0) = true := by simp [hb]
      have t2 : (b == 0) = false := by simp [hb]
      clear hb
      go_enter Tryz.func96, Tryz.ntmps96
      go_wp2
      refine wp_loop_rounds 3 ?_
      repeat any_goals (rw [rounds_succ]; go_wp2)
      all_goals go_ret
      all_goals exact ⟨rfl, rfl⟩
  · rw [if_neg ha]
    have t1 : (a != 0) = true := by simp [ha]
    have t2 : (a == 0) = false := by simp [ha]
    clear ha
    go_enter Tryz.func96, Tryz.ntmps96
    go_wp2
    refine wp_loop_rounds 3 ?_
    repeat any_goals (rw [rounds_succ]; go_wp2)
    all_goals go_ret
    all_goals exact ⟨rfl, rfl⟩
@[reducible] def imE (b : Bool) : Nat := if b then oneE else moneE
def encE (e : Fin 64 × Bool) : Value := .complex .f64 (flE (e.1.val : Int)) (imE e.2)
def toN (e : Fin 64 × Bool) : Nat × Bool := (e.1.val, e.2)
def imO (b a : Bool) : Ordering := if b = a then .eq else if b = true then .gt else .lt
theorem im_ord (b a : Bool) : FloatKind.f64.format.order (imE b) (imE a) = some (imO b a) := by
  have h := sgn_tab
  simp only [Bool.and_eq_true, beq_iff_eq] at h
  obtain ⟨⟨⟨h1, h2⟩, h3⟩, h4⟩ := h
  cases b <;> cases a
  · exact h2
  · exact h4
  · exact h3
  · exact h1
def cfE (a b : Fin 64 × Bool) : Int := if ordI (compare a.1.val b.1.val) = 0 then ordI (imO b.2 a.2) else ordI (compare a.1.val b.1.val)
theorem cfE_at (a b : Fin 64 × Bool) (W : World) : Calls Tryz.prog 95 #[encE a, encE b] W fun e w' => e = .returned (.int .i64 (cfE a b)) ∧ ∃ o, w' = W.alloc o := by
  have hr : FloatKind.f64.format.order (flE (a.1.val : Int)) (flE (b.1.val : Int)) = some (compare a.1.val b.1.val) := fl_ord a.1.isLt b.1.isLt
  have hra : FloatKind.f64.format.order (flE (a.1.val : Int)) (flE (a.1.val : Int)) = some .eq := by rw [fl_ord a.1.isLt a.1.isLt]; simp
  have hrb : FloatKind.f64.format.order (flE (b.1.val : Int)) (flE (b.1.val : Int)) = some .eq := by rw [fl_ord b.1.isLt b.1.isLt]; simp
  have hia : FloatKind.f64.format.order (imE a.2) (imE a.2) = some .eq := by rw [im_ord]; simp [imO]
  have hib : FloatKind.f64.format.order (imE b.2) (imE b.2) = some .eq := by rw [im_ord]; simp [imO]
  have hi := im_ord b.2 a.2
  unfold encE cfE
  generalize compare a.1.val b.1.val = o1 at *
  generalize imO b.2 a.2 = o2 at *
  generalize flE (a.1.val : Int) = ra at *
  generalize flE (b.1.val : Int) = rb at *
  generalize imE a.2 = ia at *
  generalize imE b.2 = ib at *
  have C1 := hidE (fcmp_at hra hrb hr)
  have C2 := hidE (fcmp_at hib hia hi)
  have c3 := or_at (ordI o1) (ordI o2)
  generalize (if ordI o1 = 0 then ordI o2 else ordI o1) = r at *
  have C3 := hidE c3
  clear c3
  clear hr hra hrb hia hib hi
  go_enter Tryz.func95, Tryz.ntmps95
  go_wp2_with fail
  refine (C1.out _).mono ?_
  rintro e w1 ⟨rfl, rfl⟩
  go_wp2_with fail
  refine (C2.out _).mono ?_
  rintro e w1 ⟨rfl, rfl⟩
  go_wp2_with fail
  refine (C3.out _).mono ?_
  rintro e w1 ⟨rfl, rfl⟩
  go_wp2
  go_ret
  exact ⟨rfl, _, rfl⟩
theorem cfE_lt (a b : Fin 64 × Bool) : (Go.Proofs.ltOf cfE a b) = !leE (toN b) (toN a) := by
  obtain ⟨⟨x, hx⟩, p⟩ := a
  obtain ⟨⟨y, hy⟩, q⟩ := b
  have h : cfE (⟨x, hx⟩, p) (⟨y, hy⟩, q) = if ordI (compare x y) = 0 then ordI (imO q p) else ordI (compare x y) := rfl
  unfold ltOf
  rw [h]
  have h2 : leE (toN (⟨y, hy⟩, q)) (toN (⟨x, hx⟩, p)) = (decide (y < x) || (decide (y = x) && (q || !p))) := rfl
  rw [h2]
  rcases Nat.lt_trichotomy x y with c | c | c
  · have e : compare x y = .lt := Nat.compare_eq_lt.2 c
    rw [e]
    have a1 : ¬ y < x := by omega
    have a2 : ¬ y = x := by omega
    simp [ordI, a1, a2]
  · have e : compare x y = .eq := Nat.compare_eq_eq.2 c
    rw [e]
    subst c
    cases p <;> cases q <;> simp [ordI, imO]
  · have e : compare x y = .gt := Nat.compare_eq_gt.2 c
    rw [e]
    simp [ordI, c]
theorem swoE : Go.Sort.SWO (Go.Proofs.ltOf cfE) where
  irrefl x := by
    rw [cfE_lt]
    have := leE_total (toN x) (toN x)
    simp at this
    simp [this]
  trans x y z h1 h2 := by
    rw [cfE_lt] at *
    have t1 := leE_total (toN y) (toN x)
    have t2 := leE_total (toN z) (toN y)
    simp at h1 h2 t1 t2 ⊢
    cases hz : leE (toN z) (toN x) with
    | false => rfl
    | true =>
      have a1 : leE (toN x) (toN y) = true := by simpa [h1] using t1
      have a2 := leE_trans _ _ _ hz a1
      rw [h2] at a2; cases a2
  ntrans x y z h1 h2 := by
    rw [cfE_lt] at *
    simp at h1 h2 ⊢
    exact leE_trans _ _ _ h2 h1
theorem sortF_at {w : World} {g cap : Nat} {l : List (Fin 64 × Bool)} (h : CsE encE w g l) (hs : l.length < 4611686018427387904) :
    Calls Tryz.prog 94 #[.slice (some ⟨g, 0, none⟩) l.length cap, .func (.func 95) #[] #[]] w fun e w' => e = .returned (.tuple #[]) ∧ ∃ l' : List (Fin 64 × Bool), l'.length = l.length ∧ l'.map toN = (l.map toN).mergeSort (fun a b => leE a b) ∧ CsE encE w' g l' ∧ Fr (fun i => i = g) w w' := by
  have hcmp : Go.Proofs.CmpLays1 Tryz.prog 95 #[] encE cfE g 0 l.toArray.size w := fun m os dk hd x y =>
    (cfE_at x y _).mono fun e w' ⟨h1, o, h2⟩ => ⟨h1, 0, #[o], by rw [h2]; rfl⟩
  have hT : ∀ x y, (Go.Proofs.ltOf cfE) x y = false → (Go.Proofs.ltOf cfE) y x = false → x = y := fun x y h1 h2 => by
    rw [cfE_lt] at h1 h2
    simp at h1 h2
    rw [leE_iff] at h1 h2
    obtain ⟨⟨x, hx⟩, p⟩ := x
    obtain ⟨⟨y, hy⟩, q⟩ := y
    simp [toN] at h1 h2
    have : x = y := by omega
    subst this
    simp at h1 h2
    cases p <;> cases q <;> simp_all
  refine Calls.mono (Any.slices_SortFunc_total YtapagoaoglmegaaGreat.srf encE (fun _ => rfl) cfE swoE 95 #[] g 0 cap l.toArray w (enters_of Tryz.func95 (by kernel_rfl) rfl) hcmp h.1 h.2 (by simpa using hs) hT) ?_
  rintro e w' ⟨rfl, n, os, rfl⟩
  obtain ⟨h1, h2⟩ := cs_put (n := n) (os := os) h (m := l.toArray.toList.mergeSort fun x y => !(Go.Proofs.ltOf cfE) y x) (by rw [List.length_mergeSort])
  refine ⟨rfl, _, by rw [List.length_mergeSort], ?_, h1, h2⟩
  rw [List.map_mergeSort (s := fun a b => leE a b)]
  intro a _ b _
  rw [cfE_lt]; simp
theorem sortF_no (A : Option Addr) (cap : Nat) (w : World) : Calls Tryz.prog 94 #[.slice A 0 cap, .func (.func 95) #[] #[]] w fun e w' => e = .returned (.tuple #[]) ∧ w = w' := by
  refine Calls.mono (AnyF.slices_SortFunc_none { YtapagoaoglmegaaGreat.srf with } A cap _ w) ?_
  rintro e w' ⟨rfl, rfl⟩
  exact ⟨rfl, rfl⟩
end Go.Proofs.YtapagoaoglmegaaGreat
namespace Go.Proofs.YtapagoaoglmegaaGreat
open Go.RowKit Go.Proofs.YtapagoaoglmegaaGreatW.PrintWords Go.Proofs.YtapagoaoglmegaaGreatW.PrintLast Go.Proofs.YtapagoaoglmegaaGreatW.PrintMore PCl
set_option linter.unusedVariables false
set_option linter.unusedSimpArgs false
set_option maxRecDepth 100000
theorem plE_snoc {L : List S25} {k : Nat} {s : S25} (h : L[k]? = some s) : plE (L.take (k + 1)) = plE (L.take k) ++ [s.f1, s.f2] := by
  unfold plE
  rw [List.take_add_one, h, List.flatMap_append]; rfl
theorem plE_len (L : List S25) : (plE L).length = 2 * L.length := by
  unfold plE
  induction L with
  | nil => rfl
  | cons s L ih => rw [List.flatMap_cons]; simp at ih ⊢; omega
theorem info64 : (Tryz.prog.info? 2).map (fun i => (i.zero, i.size, i.bytes)) = some (some (.int .i64 0), 1, 8) := by kernel_rfl
def PlV (B : Nat) (w : World) (v : Value) (P : List Int) : Prop := (v = .slice none 0 0 ∧ P = []) ∨ ∃ g cap, v = .slice (some ⟨g, 0, none⟩) P.length cap ∧ B ≤ g ∧ CsE (Value.int .i64) w g P
set_option maxHeartbeats 4000000 in
theorem places_at {w : World} {A : Option Addr} {cap : Nat} {L : List S25} (hC : Kd.C k25 w A L.length L) (hc : L.length ≤ cap) (hn : L.length ≤ 1000) :
    Calls Tryz.prog 44 #[.slice A L.length cap] w fun e w' => ∃ v, e = .returned v ∧ PlV w.heap.size w' v (posE L) ∧ Fr (fun _ => False) w w' := by
  have HC := hidE hC
  clear hC
  obtain ⟨P, hP⟩ : ∃ P, P = posE L := ⟨_, rfl⟩
  rw [← hP]
  have HP := hidE hP
  clear hP
  go_enter Tryz.func44, Tryz.ntmps44
  go_wp2
  go_loopw [3, 8] (fun v i wr => ∃ k : Nat, k ≤ L.length ∧ i = .int .i64 (k : Int) ∧ wr.ownsRow w.heap.size 2 1 v ((plE (L.take k)).map (Value.int .i64)).length ((plE (L.take k)).map (Value.int .i64)) ∧ Fr (fun _ => False) w wr) (fun _ i _ => L.length - (intOf i).toNat)
  case atStart => exact ⟨0, Nat.zero_le _, rfl, by simpa [plE] using World.ownsRow_nil _ _ _ _, Fr.refl _ _⟩
  case round =>
    obtain ⟨k, hk, rfl, hown, hf⟩ := hrel
    have HO := hidE hown
    clear hown
    by_cases hlt : k < L.length
    · obtain ⟨r, off, rfl, hr, hat⟩ := C25_open HC.out (by omega)
      obtain ⟨s, hs⟩ : ∃ s, L[k]? = some s := ⟨_, List.getElem?_eq_getElem hlt⟩
      obtain ⟨c0, c1, c2⟩ := (hat k s hs).fr hf (fun h => h)
      have HS := hidE hs
      have l1 : (k : Int) < (L.length : Int) := by omega
      clear hat hs
      go_upto_region 5 with fail
      generalize hW : World.alloc wr _ = W1
      have f1 : Fr (fun _ => False) wr W1 := by subst hW; (repeat' (first | (with_reducible exact Fr.refl _ _) | (with_reducible assumption) | (with_reducible refine Fr.alloc ?_ _) | (with_reducible refine Fr.drew ?_) | (with_reducible refine Fr.drewN ?_ _) | (with_reducible refine Fr.setCell ?_ _ _ ?_) | (exact Or.inr rfl) | (left; simp; done) | (left; simp; omega) | (simp; done) | (simp; omega) | omega))
      have o1 : W1.ownsRow w.heap.size 2 1 u3 ((plE (L.take k)).map (Value.int .i64)).length ((plE (L.take k)).map (Value.int .i64)) := by subst hW; exact HO.out.alloc _
      have bB : Blk W1 wr.heap.size #[.int .i64 s.f0, .int .i64 s.f1, .int .i64 s.f2] 25 := by subst hW; (repeat' (first | (with_reducible assumption) | (with_reducible apply Blk.drew) | (with_reducible apply Blk.drewN) | (with_reducible apply Blk.set) | (with_reducible apply Blk.other) | (exact Blk.new' _ _ _ (by first | rfl | (simp; done) | (simp; omega))) | (with_reducible apply Blk.alloc) | (with_reducible rfl) | (simp; done) | (simp; omega) | omega | rfl))
      clear hW c0 c1 c2
      have b1 := bB.cell 1
      have b2 := bB.cell 2
      simp at b1 b2
      have hsz : w.heap.size ≤ W1.heap.size := (hf.trans f1 (fun _ _ h => h)).size
      have hlen : (plE (L.take k)).length ≤ 2000 := by rw [plE_len, List.length_take]; omega
      have lN : Lst (W1.alloc (.cells #[.int .i64 s.f1, .int .i64 s.f2] 2)) 2 (.slice (some ⟨W1.heap.size, 0, none⟩) 2 2) [.int .i64 s.f1, .int .i64 s.f2] := Lst.new W1 2 [.int .i64 s.f1, .int .i64 s.f2] (by simp) (by simp [maxLen])
      have o2 := o1.alloc (.cells #[.int .i64 s.f1, .int .i64 s.f2] 2)
      have s2 : w.heap.size ≤ (W1.alloc (.cells #[.int .i64 s.f1, .int .i64 s.f2] 2)).heap.size := by simp; omega
      clear o1 HO
      go_wp2_with (at_builtin; refine wpList_append_lst rfl _ _ 59 rfl w.heap.size 2 (.int .i64 0) 8 Tryz.underlying59 info64 rfl _ _ _ [.int .i64 s.f1, .int .i64 s.f2] rfl rfl o2 lN (by simp [Value.oneCell']) (by simp [maxLen]; omega) (by simp; omega) s2 ?_)
      intro v' w3 o3 g3 b3
      have f3 : Fr (fun _ => False) w w3 := Fr.grown ((hf.trans f1 (fun _ _ h => h)).alloc _) g3 (fun j hj => .inl (o2.lt j hj).1)
      clear o2 lN s2
      go_wp2
      go_roundw
      case rel => exact ⟨k + 1, by omega, by go_num, by rw [plE_snoc HS.out, List.map_append]; simpa using o3, f3⟩
      case measure => simp [intOf]; omega
    · obtain rfl : k = L.length := by omega
      clear hlt
      have ho := HO.out
      rw [List.take_length, List.length_map] at ho
      have h2 := plE_len L
      rcases own_cs ho with ⟨hv, h0⟩ | ⟨g, cp, hv, h3, h4, h5, h6⟩
      · have e0 : P = [] := by rw [HP.out]; unfold posE srtE; rw [h0]; simp [Lib.compact, Lib.compactUpTo]
        subst hv e0
        clear ho h0 h2 HO
        go_wp2_with fail
        refine (sort_no none 0 _).mono ?_
        rintro e w1 ⟨rfl, rfl⟩
        go_wp2_with fail
        refine (compact_no none 0 _).mono ?_
        rintro e w1 ⟨rfl, rfl⟩
        go_wp2
        go_ret
        exact ⟨_, rfl, .inl ⟨rfl, rfl⟩, hf⟩
      · subst hv
        have hf0 := hf.size
        have hs := srt_perm L
        have hsl : (srtE L).length = (plE L).length := hs.length_eq
        obtain ⟨n, hn0⟩ : ∃ n, n = (plE L).length := ⟨_, rfl⟩
        have HN := hidE hn0
        have hPl : P = Lib.compact (srtE L) := HP.out
        have S1 := hidE (fun (W : World) (h : CsE (Value.int .i64) W g (plE L)) => sort_at (cap := cp) h (by omega))
        have S2 := hidE (fun (W : World) (h : CsE (Value.int .i64) W g (srtE L)) => compact_at (cap := cp) h (by omega) (by omega))
        rw [← hPl] at S2
        clear hPl
        rw [← hn0]
        clear ho hs h2 hn0 HO
        go_wp2_with fail
        rw [HN.out]
        refine (S1.out _ h6).mono ?_
        rintro e w1 ⟨rfl, h7, k7⟩
        rw [← HN.out]
        go_wp2_with fail
        have S3 := S2.out w1 h7
        rw [hsl, ← HN.out] at S3
        refine S3.mono ?_
        rintro e w2 ⟨rfl, h8, k8⟩
        clear S3
        go_wp2
        go_ret
        refine ⟨_, rfl, .inr ⟨g, cp, rfl, by omega, h8⟩, (hf.trans k7 (fun i h e => ?_)).trans k8 (fun i h e => ?_)⟩
        · omega
        · omega
theorem PlV.fr {B : Nat} {w w' : World} {v : Value} {P : List Int} (h : PlV B w v P) (k : Fr (fun _ => False) w w') : PlV B w' v P := by
 rcases h with h | ⟨g, c, h1, h2, h3⟩
 ·exact .inl h
 ·exact .inr ⟨g, c, h1, h2, h3.fr k (fun h => h)⟩
theorem end_at {B : Nat} {w : World} {v : Value} {P : List Int} (hP : PlV B w v P) (hs : P.Pairwise (· < ·)) (hl : P.length ≤ 40) {x : Int} (hx : x ∈ P) (adds : Nat) :
  Calls Tryz.prog 93 #[v, .int .i64 x, .float .f64 adds] w fun e w' => e = .returned (.complex .f64 (flE (rkE P x : Nat)) adds) ∧ Fr (fun _ => False) w w' := by
 rcases hP with ⟨_, rfl⟩ | ⟨g, cp, rfl, hg, hc⟩
 ·cases hx
 ·have HS := hidE (search_at (cap := cp) hc (by omega) (hs.imp (fun h => Int.le_of_lt h)) x)
  clear hs hx hc hg
  go_enter Tryz.func93, Tryz.ntmps93
  go_wp2_with fail
  refine HS.out.mono ?_
  rintro e w1 ⟨rfl, q, rfl⟩
  go_wp2
  go_ret
  exact ⟨rfl, by (repeat' (first | (with_reducible exact Fr.refl _ _) | (with_reducible assumption) | (with_reducible refine Fr.alloc ?_ _) | (with_reducible refine Fr.drew ?_) | (with_reducible refine Fr.drewN ?_ _) | (with_reducible refine Fr.setCell ?_ _ _ ?_) | (exact Or.inr rfl) | (left; simp; done) | (left; simp; omega) | (simp; done) | (simp; omega) | omega))⟩
def finE (n : Nat) : Fin 64 := ⟨n % 64, Nat.mod_lt _ (by decide)⟩
theorem finE_val {n : Nat} (h : n < 64) : (finE n).val = n := Nat.mod_eq_of_lt h
def unF (P : List Int) (L : List S25) : List (Fin 64 × Bool) := L.flatMap (fun s => [(finE (rkE P s.f1), true), (finE (rkE P s.f2), false)])
theorem unF_snoc {P : List Int} {L : List S25} {k : Nat} {s : S25} (h : L[k]? = some s) : unF P (L.take (k + 1)) = unF P (L.take k) ++ [(finE (rkE P s.f1), true), (finE (rkE P s.f2), false)] := by
 unfold unF
 rw [List.take_add_one, h, List.flatMap_append]; rfl
theorem unF_map {P : List Int} (hl : P.length ≤ 40) : ∀ L : List S25, (unF P L).map toN = unE P L
 | [] => rfl
 | s :: L => by
  have ih := unF_map hl L
  have h1 := rk_len P s.f1
  have h2 := rk_len P s.f2
  unfold unF unE at *
  rw [List.flatMap_cons, List.flatMap_cons, List.map_append, ih]
  simp [toN, finE_val (show rkE P s.f1 < 64 by omega), finE_val (show rkE P s.f2 < 64 by omega)]
theorem unF_len (P : List Int) : ∀ L : List S25, (unF P L).length = 2 * L.length
 | [] => rfl
 | s :: L => by have := unF_len P L; unfold unF at *; rw [List.flatMap_cons]; simp at this ⊢; omega
theorem infoC : (Tryz.prog.info? 95).map (fun i => (i.zero, i.size, i.bytes)) = some (some (.complex .f64 0 0), 1, 16) := by kernel_rfl
def EnV (B : Nat) (w : World) (v : Value) (E : List (Nat × Bool)) : Prop := (v = .slice none 0 0 ∧ E = []) ∨ ∃ g cap l, v = .slice (some ⟨g, 0, none⟩) E.length cap ∧ B ≤ g ∧ l.map toN = E ∧ CsE encE w g l
theorem EnV.fr {B : Nat} {w w' : World} {v : Value} {P : List (Nat × Bool)} (h : EnV B w v P) (k : Fr (fun _ => False) w w') : EnV B w' v P := by
 rcases h with h | ⟨g, c, l, h1, h2, h3, h4⟩
 ·exact .inl h
 ·exact .inr ⟨g, c, l, h1, h2, h3, h4.fr k (fun h => h)⟩
def EnS (w : World) (B : Nat) (s : S25) (u : Value) (xs : List Value) (w' : World) : Prop :=
 w'.cell? ⟨B, 1, none⟩ = some (.int .i64 s.f1) ∧ w'.cell? ⟨B, 2, none⟩ = some (.int .i64 s.f2) ∧ w'.ownsRow w.heap.size 95 1 u xs.length xs ∧ Fr (fun _ => False) w w'
theorem own_fr0 {S : Nat → Prop} {w w' : World} {base : Nat} {e : TypeId} {n s : Nat} {v : Value} {xs : List Value} (h : w.ownsRow base e s v n xs) (k : Fr S w w') (hs : ∀ g, v.ownBlock = some g → ¬ S g) : w'.ownsRow base e s v n xs := by
 obtain ⟨h1, h2⟩ := h
 refine ⟨h1, ?_⟩
 rcases h2 with h2 | ⟨g, cap, cur, rfl, hg, hb, h3⟩
 ·exact .inl h2
 ·exact .inr ⟨g, cap, cur, rfl, hg, (k.block g (Array.getElem?_eq_some_iff.1 hb).1 (hs g rfl)).trans hb, h3⟩
theorem EnS.fr {w : World} {B : Nat} {s : S25} {u : Value} {xs : List Value} {w1 w2 : World} (h : EnS w B s u xs w1) (k : Fr (fun _ => False) w1 w2) : EnS w B s u xs w2 := by
 obtain ⟨h1, h2, h3, h5⟩ := h
 exact ⟨(k.cell (a := ⟨B, 1, none⟩) (World.block_lt_of_cell? w1 _ h1) (fun h => h)).trans h1, (k.cell (a := ⟨B, 2, none⟩) (World.block_lt_of_cell? w1 _ h2) (fun h => h)).trans h2, own_fr0 h3 k (fun _ _ h => h), h5.trans k (fun _ _ h => h)⟩
set_option maxHeartbeats 8000000 in
theorem ends_at {w : World} {A : Option Addr} {cap : Nat} {L : List S25} (hC : Kd.C k25 w A L.length L) (hc : L.length ≤ cap) (hn : L.length ≤ 20) :
  Calls Tryz.prog 45 #[.slice A L.length cap] w fun e w' => ∃ v, e = .returned v ∧ EnV w.heap.size w' v (endE L) ∧ Fr (fun _ => False) w w' := by
 obtain ⟨p1, p2, p3⟩ := pos_ok L
 have hpl := places_at hC hc (by omega)
 obtain ⟨P, hP⟩ : ∃ P, P = posE L := ⟨_, rfl⟩
 have HE := hidE (show (unF P L).map toN = unE (posE L) L by rw [hP]; exact unF_map (by omega) L)
 rw [← hP] at p1 p2 p3 hpl
 obtain ⟨E, hE⟩ : ∃ E, E = endE L := ⟨_, rfl⟩
 rw [← hE]
 have HEE := hidE hE
 have HC := hidE hC
 have HPL := hidE hpl
 have P1 := hidE p1
 have P2 := hidE p2
 clear hC hP hE hpl p1 p2
 go_enter Tryz.func45, Tryz.ntmps45
 go_wp2_with fail
 refine HPL.out.mono ?_
 rintro e w1 ⟨vp, rfl, hp1, k1⟩
 clear HPL
 go_wp2_with fail
 have HP1 := hidE hp1
 have hk1 := k1.size
 clear hp1
 go_loopw [4, 11] (fun v i wr => ∃ k : Nat, k ≤ L.length ∧ i = .int .i64 (k : Int) ∧ wr.ownsRow w1.heap.size 95 1 v ((unF P (L.take k)).map encE).length ((unF P (L.take k)).map encE) ∧ Fr (fun _ => False) w1 wr) (fun _ i _ => L.length - (intOf i).toNat)
 case atStart => exact ⟨0, Nat.zero_le _, rfl, by simpa [unF] using World.ownsRow_nil _ _ _ _, Fr.refl _ _⟩
 case round =>
  obtain ⟨k, hk, rfl, hown, hf⟩ := hrel
  have HO := hidE hown
  clear hown
  by_cases hlt : k < L.length
  ·obtain ⟨r, off, rfl, hr, hat⟩ := C25_open HC.out (by omega)
   obtain ⟨s, hs⟩ : ∃ s, L[k]? = some s := ⟨_, List.getElem?_eq_getElem hlt⟩
   obtain ⟨c0, c1, c2⟩ := ((hat k s hs).fr k1 (fun h => h)).fr hf (fun h => h)
   have HS := hidE hs
   have hsL : s ∈ L := List.mem_of_getElem? hs
   have l1 : (k : Int) < (L.length : Int) := by omega
   clear hat hs
   go_upto_region 6 with fail
   generalize hW : World.alloc wr _ = W1
   have f1 : Fr (fun _ => False) wr W1 := by subst hW; (repeat' (first | (with_reducible exact Fr.refl _ _) | (with_reducible assumption) | (with_reducible refine Fr.alloc ?_ _) | (with_reducible refine Fr.drew ?_) | (with_reducible refine Fr.drewN ?_ _) | (with_reducible refine Fr.setCell ?_ _ _ ?_) | (exact Or.inr rfl) | (left; simp; done) | (left; simp; omega) | (simp; done) | (simp; omega) | omega))
   have o1 := own_fr0 HO.out f1 (fun _ _ h => h)
   have bB : Blk W1 wr.heap.size #[.int .i64 s.f0, .int .i64 s.f1, .int .i64 s.f2] 25 := by subst hW; (repeat' (first | (with_reducible assumption) | (with_reducible apply Blk.drew) | (with_reducible apply Blk.drewN) | (with_reducible apply Blk.set) | (with_reducible apply Blk.other) | (exact Blk.new' _ _ _ (by first | rfl | (simp; done) | (simp; omega))) | (with_reducible apply Blk.alloc) | (with_reducible rfl) | (simp; done) | (simp; omega) | omega | rfl))
   clear hW c0 c1 c2 HO
   obtain ⟨xs, hxs⟩ : ∃ xs, xs = (unF P (L.take k)).map encE := ⟨_, rfl⟩
   have hxl : xs.length ≤ 40 := by rw [hxs, List.length_map, unF_len, List.length_take]; omega
   rw [← hxs] at o1
   have HX := hidE hxs
   clear hxs
   have h1 : EnS w1 wr.heap.size s u4 xs W1.drew := ⟨bB.cell 1, bB.cell 2, o1, (hf.trans f1 (fun _ _ h => h)).drew⟩
   obtain ⟨i0, hi0, hz0, hsz0, hby0⟩ : ∃ i0, Tryz.prog.info? 95 = some i0 ∧ i0.zero = some (.complex .f64 0 0) ∧ i0.size = 1 ∧ i0.bytes = 16 := by
    obtain ⟨i0, h1, h2⟩ := Option.map_eq_some_iff.1 infoC
    simp only [Prod.mk.injEq] at h2
    exact ⟨i0, h1, h2.1, h2.2.1, h2.2.2⟩
   obtain ⟨B, hB⟩ : ∃ B, B = wr.heap.size := ⟨_, rfl⟩
   rw [← hB] at h1 ⊢
   clear hB bB o1 f1 hf
   have q1 : rkE P s.f1 < 64 := by have := rk_len P s.f1; omega
   have q2 : rkE P s.f2 < 64 := by have := rk_len P s.f2; omega
   obtain ⟨n1, hn1⟩ : ∃ n1, n1 = finE (rkE P s.f1) := ⟨_, rfl⟩
   obtain ⟨n2, hn2⟩ : ∃ n2, n2 = finE (rkE P s.f2) := ⟨_, rfl⟩
   obtain ⟨F1, hF1⟩ : ∃ F1, F1 = flE (n1.val : Int) := ⟨_, rfl⟩
   obtain ⟨F2, hF2⟩ : ∃ F2, F2 = flE (n2.val : Int) := ⟨_, rfl⟩
   have E1 : Hid (∀ W, Fr (fun _ => False) w1 W → Calls Tryz.prog 93 #[vp, .int .i64 s.f1, .float .f64 4607182418800017408] W fun e w' => e = .returned (.complex .f64 F1 4607182418800017408) ∧ Fr (fun _ => False) W w') := hidE (fun W h => by
    rw [hF1, hn1, finE_val q1]; exact end_at (HP1.out.fr h) P1.out (by omega) (P2.out s hsL).1 _)
   have E2 : Hid (∀ W, Fr (fun _ => False) w1 W → Calls Tryz.prog 93 #[vp, .int .i64 s.f2, .float .f64 13830554455654793216] W fun e w' => e = .returned (.complex .f64 F2 13830554455654793216) ∧ Fr (fun _ => False) W w') := hidE (fun W h => by
    rw [hF2, hn2, finE_val q2]; exact end_at (HP1.out.fr h) P1.out (by omega) (P2.out s hsL).2 _)
   have HN : Hid ([(Value.complex .f64 F1 4607182418800017408), .complex .f64 F2 13830554455654793216] = [(finE (rkE P s.f1), true), (finE (rkE P s.f2), false)].map encE) := hidE (by rw [hF1, hF2, hn1, hn2]; rfl)
   clear hn1 hn2 q1 q2 hsL hF1 hF2
   refine start_ (n := 12) (S := fun w' => w'.cell? ⟨B, 1, none⟩ = some (.int .i64 s.f1) ∧ w'.cell? ⟨B, 2, none⟩ = some (.int .i64 s.f2) ∧ w'.ownsRow w1.heap.size 95 1 u4 xs.length xs ∧ Fr (fun _ => False) w1 w') (ds := [10]) #[oN,oN,oN,oN,oN,oN,oN,oN,oN,oN,oN,oN] (by kernel_rfl) rfl rfl ⟨h1.1, h1.2.1, h1.2.2.1, h1.2.2.2⟩ (fun hHeld => ?_)
   refine pure_ (i := 0) (N := some 15) (v := ?_) (a' := ?_) #[oY,oN,oN,oN,oN,oN,oN,oN,oN,oN,oN,oN] rfl rfl (by kernel_rfl) (fun _ _ _ h => h) (Or.inl ⟨by rfl, ?_⟩) ?_ ?_
   rotate_left
   ·intro w'
    go_simp
    with_reducible rfl
   rotate_left
   ·simp only [Act.put, List.setIfInBounds_toArray, List.set_cons_zero, List.set_cons_succ, i64_w, i32_w]
    rfl
   refine pure_ (i := 1) (N := some 16) (v := ?_) (a' := ?_) #[oY,oY,oN,oN,oN,oN,oN,oN,oN,oN,oN,oN] rfl rfl (by kernel_rfl) (fun _ _ _ h => h) (Or.inl ⟨by rfl, ?_⟩) ?_ ?_
   rotate_left
   ·intro w'
    go_simp
    with_reducible rfl
   rotate_left
   ·simp only [Act.put, List.setIfInBounds_toArray, List.set_cons_zero, List.set_cons_succ, i64_w, i32_w]
    rfl
   refine pure_ (i := 2) (N := some 17) (v := ?_) (a' := ?_) #[oY,oY,oY,oN,oN,oN,oN,oN,oN,oN,oN,oN] rfl rfl (by kernel_rfl) (fun _ _ _ h => h) (Or.inl ⟨by rfl, ?_⟩) ?_ ?_
   rotate_left
   ·intro w'
    go_simp
    with_reducible rfl
   rotate_left
   ·simp only [Act.put, List.setIfInBounds_toArray, List.set_cons_zero, List.set_cons_succ, i64_w, i32_w]
    rfl
   refine pure_ (i := 5) (N := some 20) (v := ?_) (a' := ?_) #[oY,oY,oY,oN,oN,oY,oN,oN,oN,oN,oN,oN] rfl rfl (by kernel_rfl) (fun _ _ _ h => h) (Or.inl ⟨by rfl, ?_⟩) ?_ ?_
   rotate_left
   ·intro w'
    go_simp
    with_reducible rfl
   rotate_left
   ·simp only [Act.put, List.setIfInBounds_toArray, List.set_cons_zero, List.set_cons_succ, i64_w, i32_w]
    rfl
   refine pure_ (i := 6) (N := some 21) (v := ?_) (a' := ?_) #[oY,oY,oY,oN,oN,oY,oY,oN,oN,oN,oN,oN] rfl rfl (by kernel_rfl) (fun _ _ _ h => h) (Or.inl ⟨by rfl, ?_⟩) ?_ ?_
   rotate_left
   ·intro w'
    go_simp
    with_reducible rfl
   rotate_left
   ·simp only [Act.put, List.setIfInBounds_toArray, List.set_cons_zero, List.set_cons_succ, i64_w, i32_w]
    rfl
   refine take_ (i := 3) (N := some 18) (v := ?_) (a' := ?_) #[oY,oY,oY,oY,oN,oY,oY,oN,oN,oN,oN,oN] rfl rfl (by kernel_rfl) (fun _ _ _ h => h) (Or.inl ⟨by rfl, ?_⟩) hHeld ?_ ?_
   rotate_left
   ·rintro w' ⟨s0, s1, s2, s3⟩
    go_simp
    with_reducible rfl
   rotate_left
   ·simp only [Act.put, List.setIfInBounds_toArray, List.set_cons_zero, List.set_cons_succ, i64_w, i32_w]
    rfl
   refine take_ (i := 7) (N := some 22) (v := ?_) (a' := ?_) #[oY,oY,oY,oY,oN,oY,oY,oY,oN,oN,oN,oN] rfl rfl (by kernel_rfl) (fun _ _ _ h => h) (Or.inl ⟨by rfl, ?_⟩) hHeld ?_ ?_
   rotate_left
   ·rintro w' ⟨s0, s1, s2, s3⟩
    go_simp
    with_reducible rfl
   rotate_left
   ·simp only [Act.put, List.setIfInBounds_toArray, List.set_cons_zero, List.set_cons_succ, i64_w, i32_w]
    rfl
   refine one_ (i := 4) (N := some 19) #[oY,oY,oY,oY,oY,oY,oY,oY,oN,oN,oN,oN] rfl rfl (by kernel_rfl) (by decide) (fun K hK => ?_)
   refine goes_ Tryz.func93 (by kernel_rfl) rfl #[vp, .int .i64 s.f1, .float .f64 4607182418800017408] (by rfl) rfl rfl (by simp only [List.map_toArray, List.map_cons, List.map_nil]; rfl) ?_
   refine (E1.out _ h1.2.2.2).mono ?_
   rintro e w2 ⟨rfl, k2⟩
   refine ⟨_, rfl, ?_⟩
   have h2 := h1.fr k2
   refine hK.out _ _ ⟨h2.1, h2.2.1, h2.2.2.1, h2.2.2.2⟩ (fun hHeld => ?_)
   clear hK K
   refine norm_ (a' := ?_) ?_ ?_
   rotate_left
   ·show Act.put _ (some 19) _ = _
    simp only [Act.put, List.setIfInBounds_toArray, List.set_cons_zero, List.set_cons_succ, i64_w, i32_w]
    rfl
   refine one_ (i := 8) (N := some 23) #[oY,oY,oY,oY,oY,oY,oY,oY,oY,oN,oN,oN] rfl rfl (by kernel_rfl) (by decide) (fun K hK => ?_)
   refine goes_ Tryz.func93 (by kernel_rfl) rfl #[vp, .int .i64 s.f2, .float .f64 13830554455654793216] (by rfl) rfl rfl (by simp only [List.map_toArray, List.map_cons, List.map_nil]; rfl) ?_
   refine (E2.out _ h2.2.2.2).mono ?_
   rintro e w3 ⟨rfl, k3⟩
   refine ⟨_, rfl, ?_⟩
   have h3 := h2.fr k3
   refine hK.out _ _ ⟨h3.1, h3.2.1, h3.2.2.1, h3.2.2.2⟩ (fun hHeld => ?_)
   clear hK K
   refine norm_ (a' := ?_) ?_ ?_
   rotate_left
   ·show Act.put _ (some 23) _ = _
    simp only [Act.put, List.setIfInBounds_toArray, List.set_cons_zero, List.set_cons_succ, i64_w, i32_w]
    rfl
   refine one_ (i := 9) (N := some 24) #[oY,oY,oY,oY,oY,oY,oY,oY,oY,oY,oN,oN] rfl rfl (by kernel_rfl) (by decide) (fun K hK => ?_)
   refine value_ (w1 := ?_) (v := ?_) (by rfl) rfl ?_ ?_
   rotate_left 2
   ·go_simp
    constructor
    ·rfl
    ·rfl
   generalize hW : World.alloc w3 _ = w4
   have f4 : Fr (fun _ => False) w3 w4 := by subst hW; (repeat' (first | (with_reducible exact Fr.refl _ _) | (with_reducible assumption) | (with_reducible refine Fr.alloc ?_ _) | (with_reducible refine Fr.drew ?_) | (with_reducible refine Fr.drewN ?_ _) | (with_reducible refine Fr.setCell ?_ _ _ ?_) | (exact Or.inr rfl) | (left; simp; done) | (left; simp; omega) | (simp; done) | (simp; omega) | omega))
   have bN : Blk w4 w3.heap.size #[.complex .f64 F1 4607182418800017408, .complex .f64 F2 13830554455654793216] 95 := by subst hW; (repeat' (first | (with_reducible assumption) | (with_reducible apply Blk.drew) | (with_reducible apply Blk.drewN) | (with_reducible apply Blk.set) | (with_reducible apply Blk.other) | (exact Blk.new' _ _ _ (by first | rfl | (simp; done) | (simp; omega))) | (with_reducible apply Blk.alloc) | (with_reducible rfl) | (simp; done) | (simp; omega) | omega | rfl))
   clear hW
   have h4 := h3.fr f4
   refine hK.out _ _ ⟨h4.1, h4.2.1, h4.2.2.1, h4.2.2.2⟩ (fun hHeld => ?_)
   clear hK K
   refine norm_ (a' := ?_) ?_ ?_
   rotate_left
   ·show Act.put _ (some 24) _ = _
    simp only [Act.put, List.setIfInBounds_toArray, List.set_cons_zero, List.set_cons_succ, i64_w, i32_w]
    rfl
   refine last_ (i := 10) (N := some 25) #[oY,oY,oY,oY,oY,oY,oY,oY,oY,oY,oY,oN] rfl rfl (by kernel_rfl) (by decide) (fun K hK => ?_)
   refine step_append_lies _ rfl (.tmp 15) (.tmp 24) 96 rfl w1.heap.size 95 i0 _ 1 16 Tryz.underlying96 hi0 hz0 hsz0 hby0 rfl (by decide) u4 xs.length xs rfl h4.2.2.1 ⟨w3.heap.size, 0, none⟩ 2 2 [.complex .f64 F1 4607182418800017408, .complex .f64 F2 13830554455654793216] rfl rfl (World.news_of_block bN) (by simp [Value.oneCell']) (by decide) (by unfold maxLen; omega) (by omega) h4.2.2.2.size _ rfl ?_
   intro g2 cap2 w5 hown5 hg5 hat hlt5
   refine hK.out _ _ ?_
   clear hK K
   refine norm_ (a' := ?_) ?_ ?_
   rotate_left
   ·show Act.put _ (some 25) _ = _
    simp only [Act.put, List.setIfInBounds_toArray, List.set_cons_zero, List.set_cons_succ, i64_w, i32_w]
    rfl
   refine pure_ (i := 11) (N := some 4) (v := ?_) (a' := ?_) #[oY,oY,oY,oY,oY,oY,oY,oY,oY,oY,oY,oY] rfl rfl (by kernel_rfl) (fun _ _ _ h => h) (Or.inl ⟨by rfl, ?_⟩) ?_ ?_
   rotate_left
   ·intro w'
    go_simp
    with_reducible rfl
   rotate_left
   ·simp only [Act.put, List.setIfInBounds_toArray, List.set_cons_zero, List.set_cons_succ, i64_w, i32_w]
    rfl
   refine done_ (by kernel_rfl) ?_
   have f5 : Fr (fun _ => False) w1 w5 := Fr.grown h4.2.2.2 hg5 (fun j hj => .inl (h4.2.2.1.lt j hj).1)
   clear hHeld h4 h3 h2 h1 hg5 hat bN
   go_wp2
   go_roundw
   case rel => exact ⟨k + 1, by omega, by go_num, by rw [unF_snoc HS.out, List.map_append, ← HN.out, ← HX.out]; simpa using hown5, f5⟩
   case measure => simp [intOf]; omega
  ·obtain rfl : k = L.length := by omega
   clear hlt
   have ho := HO.out
   rw [List.take_length, List.length_map] at ho
   have h2 := unF_len P L
   rcases own_cs ho with ⟨hv, h0⟩ | ⟨g, cp, hv, h3, h4, h5, h6⟩
   ·have e0 : E = [] := by rw [HEE.out]; unfold endE; rw [← HE.out, h0]; simp
    subst hv e0
    clear ho h0 h2 HO HEE
    go_wp2_with fail
    refine (sortF_no none 0 _).mono ?_
    rintro e w2 ⟨rfl, rfl⟩
    go_wp2
    go_ret
    exact ⟨_, rfl, .inl ⟨rfl, rfl⟩, k1.trans hf (fun _ _ h => h)⟩
   ·subst hv
    obtain ⟨l, hl⟩ : ∃ l, l = unF P L := ⟨_, rfl⟩
    rw [← hl] at h6 h3 h2 ⊢
    have HL := hidE hl
    have S1 := hidE (sortF_at (cap := cp) h6 (by omega))
    have hlE : Hid (l.length = E.length) := hidE (by rw [HEE.out, end_len, h2])
    clear ho hl h2 HO h6
    go_wp2_with fail
    refine S1.out.mono ?_
    rintro e w2 ⟨rfl, l', hl', hm, h7, k7⟩
    have HM := hidE hm
    have HL' := hidE hl'
    clear hm hl'
    go_wp2
    go_ret
    refine ⟨_, rfl, .inr ⟨g, cp, l', by rw [hlE.out]; rfl, by omega, ?_, h7⟩, (k1.trans hf (fun _ _ h => h)).trans k7 (fun i h e => by omega)⟩
    rw [HM.out, HL.out, HE.out, HEE.out]
    rfl
theorem cmp_gt {a b : Int} (h : b < a) : (some (compare a b) == some Ordering.gt) = true ∧ (some (compare a b) == some Ordering.lt || some (compare a b) == some Ordering.eq) = false := by
  have e : compare a b = .gt := Int.compare_eq_gt.2 h
  rw [e]; exact ⟨rfl, rfl⟩
theorem cmp_ngt {a b : Int} (h : ¬ b < a) : (some (compare a b) == some Ordering.gt) = false ∧ (some (compare a b) == some Ordering.lt || some (compare a b) == some Ordering.eq) = true := by
  rcases Int.lt_trichotomy a b with c | c | c
  · have e : compare a b = .lt := Int.compare_eq_lt.2 c
    rw [e]; exact ⟨rfl, rfl⟩
  · have e : compare a b = .eq := Int.compare_eq_eq.2 c
    rw [e]; exact ⟨rfl, rfl⟩
  · exact absurd c h
theorem pre_bd {E : List (Nat × Bool)} : ∀ i : Nat, -(i : Int) ≤ preE E i ∧ preE E i ≤ i
  | 0 => by rw [preE_zero]; omega
  | i + 1 => by
    have := pre_bd (E := E) i
    cases h : E[i]? with
    | none =>
      have e : preE E (i + 1) = preE E i := by unfold preE; rw [List.take_add_one, h]; simp
      omega
    | some e =>
      have h2 := preE_succ h
      unfold sgE at h2
      split at h2 <;> omega
set_option maxHeartbeats 16000000 in
theorem hull_main {w : World} {A : Option Addr} {cap : Nat} {L : List S25} (hC : Kd.C k25 w A L.length L) (hc : L.length ≤ cap) (ho : okE L = true) :
    Calls Tryz.prog 25 #[.slice A L.length cap] w fun e w' => e = .returned (.tuple #[.int .i64 (hullZ L).1, .int .i64 (hullZ L).2.1, .int .i64 (hullZ L).2.2]) ∧ Fr (fun _ => False) w w' := by
  have hn : L.length ≤ 16 := by unfold okE at ho; simp at ho; exact ho.1
  have hb : (L.any fun s => !mayE s) = false := by
    unfold okE at ho
    rw [Bool.and_eq_true] at ho
    rw [List.any_eq_false]
    intro s hs
    have := List.all_eq_true.1 ho.2 s hs
    simp [this]
  have B1 := bad_any hC hc
  rw [hb] at B1
  obtain ⟨p1, p2, p3⟩ := pos_ok L
  have hsw := hull_of_sweep p1 p2 (fun s hs => (ok_lohi ho s hs).2.1) (end_perm L) (end_sorted L)
  have hPl := hidE (fun (W : World) (k : Fr (fun _ => False) w W) => places_at (Kd.C_below hC k.below) hc (by omega))
  have hEn := hidE (fun (W : World) (k : Fr (fun _ => False) w W) => ends_at (Kd.C_below hC k.below) hc (by omega))
  have hlen := end_len L
  have hmem : Hid (∀ (i : Nat) e, (endE L)[i]? = some e → e.1 < 64) := hidE (fun i e he => by
    have h1 := (end_perm L).mem_iff.1 (List.mem_of_getElem? he)
    obtain ⟨s, hs, h2⟩ := un_mem (r := e.1) (b := e.2) h1
    have := rk_len (posE L) (if e.2 = true then s.f1 else s.f2)
    omega)
  have hH := hullZ_no ho
  have hH2 := fun lo hi => hullZ_is (lo := lo) (hi := hi) ho
  obtain ⟨Hz, hHz⟩ : ∃ Hz, Hz = hullZ L := ⟨_, rfl⟩
  rw [← hHz] at hH hH2 ⊢
  obtain ⟨E, hE⟩ : ∃ E, E = endE L := ⟨_, rfl⟩
  obtain ⟨P, hP⟩ : ∃ P, P = posE L := ⟨_, rfl⟩
  rw [← hE] at hsw hEn hlen hmem
  rw [← hP] at hsw hPl p3
  have HSW := hidE hsw
  have HB := hidE B1
  have HH := hidE hH
  have HH2 := hidE hH2
  have HLN := hidE hlen
  have hf1 := hf_is (n := L.length) (by omega)
  have hfo := hidE (fun (z : Int) (h1 : -40 ≤ z) (h2 : z ≤ 40) => hf_ord (n := L.length) h1 h2 (by omega))
  obtain ⟨hh, hhh⟩ : ∃ hh, hh = hfE L.length := ⟨_, rfl⟩
  rw [← hhh] at hf1 hfo
  have hq : ∀ W, (binOp .quo 93 (.float .f64 (floatOfInt .f64 (L.length : Int))) (.float .f64 4611686018427387904)).run Tryz.prog W = .ok (.float .f64 hh) W := fun W => run_float_arith W .quo _ .f64 _ _ _ hf1
  have hgt : (L.length : Int) ≤ 16 := by omega
  have tgt : decide ((L.length : Int) > 16) = false := decide_eq_false (by omega)
  clear hC ho hb B1 p1 p2 hsw hHz hE hP hH hH2 hhh hf1 hlen
  go_enter Tryz.func25, Tryz.ntmps25
  go_wp2_with fail
  refine HB.out.mono ?_
  rintro e w1 ⟨rfl, k1⟩
  go_wp2_with fail
  refine (hPl.out _ k1).mono ?_
  rintro e w2 ⟨vp, rfl, hp2, k2⟩
  have f2 := k1.trans k2 (fun _ _ h => h)
  have HP2 := hidE hp2
  clear k1 k2 hp2
  go_wp2_with fail
  refine (hEn.out _ f2).mono ?_
  rintro e w3 ⟨ve, rfl, he3, k3⟩
  have f3 := f2.trans k3 (fun _ _ h => h)
  have HP3 := hidE (HP2.out.fr k3)
  clear k3 HP2 f2 hPl hEn HB hq
  obtain ⟨A3, c3, hve⟩ : ∃ A3 c3, ve = .slice A3 E.length c3 := by
    rcases he3 with ⟨h1, h2⟩ | ⟨g, c, l, h1, _⟩
    · exact ⟨none, 0, by rw [h1, h2]; rfl⟩
    · exact ⟨_, c, h1⟩
  subst hve
  have HE3 := hidE he3
  have hEl : E.length ≤ 32 := by have := HLN.out; omega
  clear he3
  go_wp2_with fail
  go_loopw [7, 8, 9, 30] (fun v7 v8 v9 v30 wr => ∃ (i re : Nat), i ≤ E.length ∧ re ≤ 9218868437227405312 ∧ v30 = .int .i64 (i : Int) ∧ v7 = .complex .f64 re (flE (swE L.length E i).1) ∧ v8 = .int .i64 (swE L.length E i).2.1 ∧ v9 = .int .i64 (swE L.length E i).2.2 ∧ Fr (fun _ => False) w3 wr) (fun _ _ _ v30 _ => E.length - (intOf v30).toNat)
  case atStart => exact ⟨0, 0, Nat.zero_le _, Nat.zero_le _, rfl, by rw [swE_zero]; simp only; rw [fl_zero], by rw [swE_zero], by rw [swE_zero], Fr.refl _ _⟩
  case round =>
    obtain ⟨i, re, hi, hre, rfl, rfl, rfl, rfl, hf⟩ := hrel
    have hpb := pre_bd (E := E) i
    have hsm := (swE_inv (n := (L.length : Int)) (by omega) E i hi).sum
    by_cases hlt : i < E.length
    · obtain ⟨g, c, l, hv, hg, hm, hcs⟩ : ∃ g c l, A3 = some ⟨g, 0, none⟩ ∧ (w3.heap.size ≤ g ∨ True) ∧ l.map toN = E ∧ CsE encE w3 g l := by
        rcases HE3.out with ⟨h1, h2⟩ | ⟨g, c, l, h1, _, h2, h3⟩
        · rw [h2] at hlt; simp at hlt
        · injection h1 with h1; exact ⟨g, c, l, h1, .inr trivial, h2, h3⟩
      subst hv
      obtain ⟨x, hx⟩ : ∃ x, l[i]? = some x := ⟨l[i]'(by rw [← hm] at hlt; simpa using hlt), List.getElem?_eq_getElem _⟩
      have hEx : E[i]? = some (toN x) := by rw [← hm, List.getElem?_map, hx]; rfl
      have hcell := (hf.cell (a := ⟨g, i, none⟩) hcs.2 (fun h => h)).trans (hcs.cell hx)
      have hst := swE_succ (n := (L.length : Int)) hEx
      have hx64 := hmem.out i _ hEx
      obtain ⟨S, hS⟩ : ∃ S, S = (swE L.length E i).1 := ⟨_, rfl⟩
      obtain ⟨F, hF⟩ : ∃ F, F = (swE L.length E i).2.1 := ⟨_, rfl⟩
      obtain ⟨B, hB⟩ : ∃ B, B = (swE L.length E i).2.2 := ⟨_, rfl⟩
      have hSFB : swE L.length E i = (S, F, B) := by rw [hS, hF, hB]
      rw [← hS, ← hF, ← hB]
      rw [hSFB] at hst hsm
      simp only at hsm
      obtain ⟨r, b⟩ := x
      obtain ⟨S', hS'⟩ : ∃ S', S' = S + sgE (toN (r, b)) := ⟨_, rfl⟩
      have hsg : sgE (toN (r, b)) = if b = true then 1 else -1 := rfl
      have hSb : -32 ≤ S ∧ S ≤ 32 := by omega
      have hSb' : -33 ≤ S' ∧ S' ≤ 33 := by rw [hS', hsg]; split <;> omega
      have oA := hfo.out S (by omega) (by omega)
      have oB := hfo.out S' (by omega) (by omega)
      obtain ⟨re', hre1, hre2⟩ := re_add hre (fl_low r.isLt)
      have him : floatBits .add .f64 (flE S) (imE b) = some (flE S') := by
        rw [hS', hsg]
        cases b
        · exact (im_add (by omega) (by omega)).2
        · exact (im_add (by omega) (by omega)).1
      have hadd : ∀ W, (binOp .add 95 (.complex .f64 re (flE S)) (.complex .f64 (flE (r.val : Int)) (imE b))).run Tryz.prog W = .ok (.complex .f64 re' (flE S')) W := fun W => run_complex_sum W .add (.inl rfl) _ .f64 _ _ _ _ _ _ (by unfold cSumBits; rw [hre1, him]; rfl)
      have hcv : ∀ W, (convert 93 3 (.float .f64 (flE (r.val : Int)))).run Tryz.prog W = .ok (.int .i64 (r.val : Int)) W := fun W => run_convert_float_int W _ _ .f64 .i64 _ _ (by rw [Tryz.underlying93]; rfl) Tryz.underlying3 (fl_int r.isLt)
      unfold encE at hcell
      have hST : swE L.length E (i + 1) = if (L.length : Int) < 2 * S' ∧ F < 0 then (S', (r.val : Int), B) else if (L.length : Int) < 2 * S ∧ ¬ (L.length : Int) < 2 * S' then (S', F, (r.val : Int)) else (S', F, B) := by rw [hst, hS']; rfl
      have HST := hidE hST
      have tA : (FloatKind.f64.format.order (flE S) hh == some Ordering.gt) = decide ((L.length : Int) < 2 * S) := by
        rw [oA]
        by_cases c : (L.length : Int) < 2 * S
        · rw [(cmp_gt c).1, decide_eq_true c]
        · rw [(cmp_ngt c).1, decide_eq_false c]
      have tB : (FloatKind.f64.format.order (flE S') hh == some Ordering.gt) = decide ((L.length : Int) < 2 * S') := by
        rw [oB]
        by_cases c : (L.length : Int) < 2 * S'
        · rw [(cmp_gt c).1, decide_eq_true c]
        · rw [(cmp_ngt c).1, decide_eq_false c]
      have tC : (FloatKind.f64.format.order (flE S') hh == some Ordering.lt || FloatKind.f64.format.order (flE S') hh == some Ordering.eq) = !decide ((L.length : Int) < 2 * S') := by
        rw [oB]
        by_cases c : (L.length : Int) < 2 * S'
        · rw [(cmp_gt c).2, decide_eq_true c]; rfl
        · rw [(cmp_ngt c).2, decide_eq_false c]; rfl
      have li : (i : Int) < (E.length : Int) := by omega
      obtain ⟨IA, hIA⟩ : ∃ IA, IA = flE S := ⟨_, rfl⟩
      obtain ⟨IB, hIB⟩ : ∃ IB, IB = flE S' := ⟨_, rfl⟩
      rw [← hIA] at hadd tA ⊢
      rw [← hIB] at hadd tB tC
      have HIB := hidE hIB
      generalize flE (r.val : Int) = FR at *
      generalize imE b = IM at *
      have hri : (0 : Int) ≤ (r.val : Int) := by omega
      generalize (r.val : Int) = R at *
      clear hst him hre1 hEx hx hm hcs hsm hpb hx64 hS' hS hF hB hSFB oA oB hST hIA hIB hsg hSb hSb'
      by_cases cA : (L.length : Int) < 2 * S
      · by_cases cB : (L.length : Int) < 2 * S'
        · by_cases cF : F < 0
          · have HN := hidE (HST.out.trans (if_pos ⟨cB, cF⟩))
            rw [decide_eq_true cA] at tA
            rw [decide_eq_true cB] at tB tC
            have tF : decide (F < 0) = true := decide_eq_true cF
            simp only [Bool.not_true, Bool.not_false] at tC
            clear cA cB cF HST
            go_wp2
            go_roundw
            case rel => exact ⟨i + 1, re', by omega, hre2, by go_num, by rw [HN.out, HIB.out], by rw [HN.out], by rw [HN.out], hf⟩
            case measure => simp [intOf]; omega
          · have HN := hidE ((HST.out.trans (if_neg (fun h => cF h.2))).trans (if_neg (fun h => h.2 cB)))
            rw [decide_eq_true cA] at tA
            rw [decide_eq_true cB] at tB tC
            have tF : decide (F < 0) = false := decide_eq_false cF
            simp only [Bool.not_true, Bool.not_false] at tC
            clear cA cB cF HST
            go_wp2
            go_roundw
            case rel => exact ⟨i + 1, re', by omega, hre2, by go_num, by rw [HN.out, HIB.out], by rw [HN.out], by rw [HN.out], hf⟩
            case measure => simp [intOf]; omega
        · by_cases cF : F < 0
          · have HN := hidE ((HST.out.trans (if_neg (fun h => cB h.1))).trans (if_pos ⟨cA, cB⟩))
            rw [decide_eq_true cA] at tA
            rw [decide_eq_false cB] at tB tC
            have tF : decide (F < 0) = true := decide_eq_true cF
            simp only [Bool.not_true, Bool.not_false] at tC
            clear cA cB cF HST
            go_wp2
            go_roundw
            case rel => exact ⟨i + 1, re', by omega, hre2, by go_num, by rw [HN.out, HIB.out], by rw [HN.out], by rw [HN.out], hf⟩
            case measure => simp [intOf]; omega
          · have HN := hidE ((HST.out.trans (if_neg (fun h => cB h.1))).trans (if_pos ⟨cA, cB⟩))
            rw [decide_eq_true cA] at tA
            rw [decide_eq_false cB] at tB tC
            have tF : decide (F < 0) = false := decide_eq_false cF
            simp only [Bool.not_true, Bool.not_false] at tC
            clear cA cB cF HST
            go_wp2
            go_roundw
            case rel => exact ⟨i + 1, re', by omega, hre2, by go_num, by rw [HN.out, HIB.out], by rw [HN.out], by rw [HN.out], hf⟩
            case measure => simp [intOf]; omega
      · by_cases cB : (L.length : Int) < 2 * S'
        · by_cases cF : F < 0
          · have HN := hidE (HST.out.trans (if_pos ⟨cB, cF⟩))
            rw [decide_eq_false cA] at tA
            rw [decide_eq_true cB] at tB tC
            have tF : decide (F < 0) = true := decide_eq_true cF
            simp only [Bool.not_true, Bool.not_false] at tC
            clear cA cB cF HST
            go_wp2
            go_roundw
            case rel => exact ⟨i + 1, re', by omega, hre2, by go_num, by rw [HN.out, HIB.out], by rw [HN.out], by rw [HN.out], hf⟩
            case measure => simp [intOf]; omega
          · have HN := hidE ((HST.out.trans (if_neg (fun h => cF h.2))).trans (if_neg (fun h => cA h.1)))
            rw [decide_eq_false cA] at tA
            rw [decide_eq_true cB] at tB tC
            have tF : decide (F < 0) = false := decide_eq_false cF
            simp only [Bool.not_true, Bool.not_false] at tC
            clear cA cB cF HST
            go_wp2
            go_roundw
            case rel => exact ⟨i + 1, re', by omega, hre2, by go_num, by rw [HN.out, HIB.out], by rw [HN.out], by rw [HN.out], hf⟩
            case measure => simp [intOf]; omega
        · by_cases cF : F < 0
          · have HN := hidE ((HST.out.trans (if_neg (fun h => cB h.1))).trans (if_neg (fun h => cA h.1)))
            rw [decide_eq_false cA] at tA
            rw [decide_eq_false cB] at tB tC
            have tF : decide (F < 0) = true := decide_eq_true cF
            simp only [Bool.not_true, Bool.not_false] at tC
            clear cA cB cF HST
            go_wp2
            go_roundw
            case rel => exact ⟨i + 1, re', by omega, hre2, by go_num, by rw [HN.out, HIB.out], by rw [HN.out], by rw [HN.out], hf⟩
            case measure => simp [intOf]; omega
          · have HN := hidE ((HST.out.trans (if_neg (fun h => cB h.1))).trans (if_neg (fun h => cA h.1)))
            rw [decide_eq_false cA] at tA
            rw [decide_eq_false cB] at tB tC
            have tF : decide (F < 0) = false := decide_eq_false cF
            simp only [Bool.not_true, Bool.not_false] at tC
            clear cA cB cF HST
            go_wp2
            go_roundw
            case rel => exact ⟨i + 1, re', by omega, hre2, by go_num, by rw [HN.out, HIB.out], by rw [HN.out], by rw [HN.out], hf⟩
            case measure => simp [intOf]; omega
    · obtain rfl : i = E.length := by omega
      clear hlt
      rcases HSW.out with ⟨h1, h2⟩ | ⟨a, b, lo, hi, h1, h2, h3, h4, h5⟩
      · rw [h1]
        have hz := HH.out h2
        subst hz
        clear h1 h2 hsm hpb HSW HH HH2
        go_wp2
        go_returns
        exact ⟨rfl, f3.trans hf (fun _ _ h => h)⟩
      · rw [h1, h2]
        have hz := HH2.out lo hi h5
        subst hz
        obtain ⟨g, c, hv, hg, hcs⟩ : ∃ g c, vp = .slice (some ⟨g, 0, none⟩) P.length c ∧ w1.heap.size ≤ g ∧ CsE (Value.int .i64) w3 g P := by
          rcases HP3.out with ⟨_, e⟩ | ⟨g, c, e1, e2, e3⟩
          · rw [e] at h3; simp at h3
          · exact ⟨g, c, e1, e2, e3⟩
        subst hv
        have ca := (hf.cell (a := ⟨g, a, none⟩) hcs.2 (fun h => h)).trans (hcs.cell h3)
        have cb := (hf.cell (a := ⟨g, b, none⟩) hcs.2 (fun h => h)).trans (hcs.cell h4)
        have la := (List.getElem?_eq_some_iff.1 h3).1
        have lb := (List.getElem?_eq_some_iff.1 h4).1
        have la1 : (a : Int) < (P.length : Int) := by omega
        have lb1 : (b : Int) < (P.length : Int) := by omega
        have la0 : (0 : Int) ≤ (a : Int) := by omega
        have lb0 : (0 : Int) ≤ (b : Int) := by omega
        have ta : decide ((a : Int) < 0) = false := decide_eq_false (by omega)
        clear h1 h2 h3 h4 h5 hsm hpb HSW HH HH2 hcs
        go_wp2_with fail
        go_quiet (fail)
        go_wp2
        go_returns
        exact ⟨rfl, (f3.trans hf (fun _ _ h => h)).trans (by (repeat' (first | (with_reducible exact Fr.refl _ _) | (with_reducible assumption) | (with_reducible refine Fr.alloc ?_ _) | (with_reducible refine Fr.drew ?_) | (with_reducible refine Fr.drewN ?_ _) | (with_reducible refine Fr.setCell ?_ _ _ ?_) | (exact Or.inr rfl) | (left; simp; done) | (left; simp; omega) | (simp; done) | (simp; omega) | omega))) (fun _ _ h => h)⟩
theorem hull_bad {w : World} {A : Option Addr} {cap : Nat} {L : List S25} (hC : Kd.C k25 w A L.length L) (hc : L.length ≤ cap) (ho : ¬ okE L = true) :
    Calls Tryz.prog 25 #[.slice A L.length cap] w fun e w' => e = .returned (.tuple #[.int .i64 0, .int .i64 0, .int .i64 1]) ∧ Fr (fun _ => False) w w' := by
  have hsz := C25_len hC
  by_cases hn : 16 < L.length
  · have t1 : decide ((L.length : Int) > 16) = true := decide_eq_true (by omega)
    have t2 : (16 : Int) < (L.length : Int) := by omega
    clear ho hC
    go_enter Tryz.func25, Tryz.ntmps25
    go_wp2_with fail
    go_returns
    exact ⟨rfl, by (repeat' (first | (with_reducible exact Fr.refl _ _) | (with_reducible assumption) | (with_reducible refine Fr.alloc ?_ _) | (with_reducible refine Fr.drew ?_) | (with_reducible refine Fr.drewN ?_ _) | (with_reducible refine Fr.setCell ?_ _ _ ?_) | (exact Or.inr rfl) | (left; simp; done) | (left; simp; omega) | (simp; done) | (simp; omega) | omega))⟩
  · have t1 : decide ((L.length : Int) > 16) = false := decide_eq_false (by omega)
    have t2 : (L.length : Int) ≤ 16 := by omega
    have hb : (L.any fun s => !mayE s) = true := by
      cases h : (L.any fun s => !mayE s) with
      | true => rfl
      | false =>
        refine absurd ?_ ho
        unfold okE
        rw [Bool.and_eq_true]
        refine ⟨by simp; omega, List.all_eq_true.2 fun s hs => ?_⟩
        rw [List.any_eq_false] at h
        have := h s hs
        simpa using this
    have B1 := bad_any hC hc
    rw [hb] at B1
    have HB := hidE B1
    clear ho hC hb B1
    go_enter Tryz.func25, Tryz.ntmps25
    go_wp2_with fail
    refine HB.out.mono ?_
    rintro e w1 ⟨rfl, k1⟩
    go_wp2_with fail
    go_returns
    exact ⟨rfl, k1⟩
theorem hull_at {w : World} {A : Option Addr} {cap : Nat} {L : List S25} (hC : Kd.C k25 w A L.length L) (hc : L.length ≤ cap) :
    Calls Tryz.prog 25 #[.slice A L.length cap] w fun e w' => e = .returned (.tuple #[.int .i64 (hullZ L).1, .int .i64 (hullZ L).2.1, .int .i64 (hullZ L).2.2]) ∧ Fr (fun _ => False) w w' := by
  by_cases ho : okE L = true
  · exact hull_main hC hc ho
  · rw [hullZ_bad ho]
    exact hull_bad hC hc ho
end Go.Proofs.YtapagoaoglmegaaGreat
namespace Go.Proofs.YtapagoaoglmegaaGreat
open Go.RowKit
set_option linter.unusedVariables false
set_option linter.unusedSimpArgs false
set_option maxRecDepth 100000
theorem hidQ {p : Prop} (h : p) : Hid p := h
set_option maxHeartbeats 1000000 in
theorem mul64_at (x y : Nat) (hx : x < 18446744073709551616) (hy : y < 18446744073709551616) (w : World) :
    Calls Tryz.prog 134 #[.int .u64 x, .int .u64 y] w fun e w' => e = .returned (.tuple #[.int .u64 ((x * y / 18446744073709551616 : Nat) : Int), .int .u64 ((x * y % 18446744073709551616 : Nat) : Int)]) ∧ Fr (fun _ => False) w w' := by
  obtain ⟨bd, bt, bw, hhi⟩ := Lib.mul64_hi x y hx hy
  have ba := Lib.half_mul_le (a := x / 4294967296) (b := y / 4294967296) (by omega) (by omega)
  have bb := Lib.half_mul_le (a := x / 4294967296) (b := y % 4294967296) (by omega) (by omega)
  have bc := Lib.half_mul_le (a := x % 4294967296) (b := y / 4294967296) (by omega) (by omega)
  have ba' : x / 4294967296 * (y / 4294967296) < 18446744073709551616 := by omega
  have bb' : x / 4294967296 * (y % 4294967296) < 18446744073709551616 := by omega
  have bc' : x % 4294967296 * (y / 4294967296) < 18446744073709551616 := by omega
  have bh1 : x / 4294967296 * (y / 4294967296) + (x / 4294967296 * (y % 4294967296) + x % 4294967296 * (y % 4294967296) / 4294967296) / 4294967296 < 18446744073709551616 := by omega
  have bh : x / 4294967296 * (y / 4294967296) + (x / 4294967296 * (y % 4294967296) + x % 4294967296 * (y % 4294967296) / 4294967296) / 4294967296 + ((x / 4294967296 * (y % 4294967296) + x % 4294967296 * (y % 4294967296) / 4294967296) % 4294967296 + x % 4294967296 * (y / 4294967296)) / 4294967296 < 18446744073709551616 := by omega
  go_enter Tryz.func134, Tryz.ntmps134
  go_wp2
  simp only [Mul64.maskN x hx, Mul64.maskN y hy, Mul64.divN, Mul64.mulN, Mul64.addN, Mul64.wrapN _ bd, Mul64.wrapN _ bb', Mul64.wrapN _ bt, Mul64.maskN _ bt, Mul64.wrapN _ bc', Mul64.wrapN _ bw, Mul64.wrapN _ ba', Mul64.wrapN _ bh1, Mul64.wrapN _ bh, Mul64.wrapM (x * y)]
  rw [hhi]
  go_ret2
  exact ⟨rfl, Fr.refl _ _⟩
theorem div64_0 (lo y : Nat) (hl : lo < 18446744073709551616) (hy : 0 < y) (hy2 : y < 18446744073709551616) (w : World) :
    Calls Tryz.prog 136 #[.int .u64 ((0 : Nat) : Int), .int .u64 lo, .int .u64 y] w fun e w' => e = .returned (.tuple #[.int .u64 ((lo / y : Nat) : Int), .int .u64 ((lo % y : Nat) : Int)]) ∧ Fr (fun _ => False) w w' := by
  have t1 : ((y : Int) == 0) = false := beq_eq_false_iff_ne.2 (by omega)
  have t2 : decide ((y : Int) ≤ 0) = false := decide_eq_false (by omega)
  have e1 : IntKind.u64.wrap ((lo : Int) / (y : Int)) = ((lo / y : Nat) : Int) := by
    rw [← Int.natCast_ediv]
    exact Mul64.wrapN _ (Nat.lt_of_le_of_lt (Nat.div_le_self _ _) hl)
  have e2 : (lo : Int) % (y : Int) = ((lo % y : Nat) : Int) := (Int.natCast_emod lo y).symm
  have n1 : ¬ (y : Int) = 0 := by omega
  go_enter Tryz.func136, Tryz.ntmps136
  go_wp2_with fail
  go_quiet (fail)
  go_wp2
  go_ret2
  exact ⟨by first | rfl | (simp; done), (Fr.refl _ _).drewN _⟩
theorem size_at (a : Nat) (ha : a < 9223372036854775808) (w : World) :
    Calls Tryz.prog 135 #[.int .i64 (a : Int)] w fun e w' => e = .returned (.int .u64 (a : Int)) ∧ w = w' := by
  have t1 : decide ((a : Int) < 0) = false := decide_eq_false (by omega)
  have e1 : IntKind.u64.wrap (a : Int) = (a : Int) := Mul64.wrapN a (by omega)
  go_enter Tryz.func135, Tryz.ntmps135
  go_wp2_with fail
  go_ret
  exact ⟨by rfl, rfl⟩
theorem signed_at (n : Nat) (hn : n < 18446744073709551616) (w : World) :
    Calls Tryz.prog 137 #[.int .u64 (n : Int), .bool false] w fun e w' => e = .returned (.tuple #[(.int .i64 (wrap64 (n : Int))), .bool (decide ((n : Int) < 9223372036854775808))]) ∧ w = w' := by
  go_enter Tryz.func137, Tryz.ntmps137
  go_wp2_with fail
  go_ret2
  exact ⟨by rfl, rfl⟩
theorem signed_yes (n : Nat) (hn : n < 9223372036854775808) (w : World) :
    Calls Tryz.prog 137 #[.int .u64 (n : Int), .bool false] w fun e w' => e = .returned (.tuple #[.int .i64 (n : Int), .bool true]) ∧ w = w' := by
  refine (signed_at n (by omega) w).mono ?_
  rintro e w' ⟨rfl, rfl⟩
  rw [IntWalk.wrap64_in _ (by omega), decide_eq_true (by omega)]
  exact ⟨rfl, rfl⟩
theorem signed_no (n : Nat) (hn : n < 18446744073709551616) (h : ¬ n < 9223372036854775808) (w : World) :
    Calls Tryz.prog 137 #[.int .u64 (n : Int), .bool false] w fun e w' => e = .returned (.tuple #[.int .i64 (wrap64 (n : Int)), .bool false]) ∧ w = w' := by
  refine (signed_at n hn w).mono ?_
  rintro e w' ⟨rfl, rfl⟩
  rw [decide_eq_false (by omega : ¬ (n : Int) < 9223372036854775808)]
  exact ⟨rfl, rfl⟩
theorem down_at (w : World) : Calls Tryz.prog 110 #[.bool false] w fun e w' => e = .returned (.bool false) ∧ w = w' := by
  go_enter Tryz.func110, Tryz.ntmps110
  go_wp2_with fail
  go_ret
  exact ⟨rfl, rfl⟩
theorem up_at (w : World) : Calls Tryz.prog 111 #[.bool false] w fun e w' => e = .returned (.bool true) ∧ w = w' := by
  go_enter Tryz.func111, Tryz.ntmps111
  go_wp2_with fail
  go_ret
  exact ⟨rfl, rfl⟩
def quoZ (a b c : Nat) (up : Bool) : Int × Int :=
  if c ≤ a * b / 18446744073709551616 then (0, 20)
  else if a * b / c + (if up = true ∧ 0 < a * b % c then 1 else 0) < 9223372036854775808 then (((a * b / c + (if up = true ∧ 0 < a * b % c then 1 else 0) : Nat) : Int), 0) else (0, 20)
def DivOk (a b c : Nat) : Prop := a * b / 18446744073709551616 < c → ∀ W : World, Calls Tryz.prog 136 #[.int .u64 ((a * b / 18446744073709551616 : Nat) : Int), .int .u64 ((a * b % 18446744073709551616 : Nat) : Int), .int .u64 (c : Int)] W fun e w' => e = .returned (.tuple #[.int .u64 ((a * b / c : Nat) : Int), .int .u64 ((a * b % c : Nat) : Int)]) ∧ Fr (fun _ => False) W w'
theorem divOk_0 {a b c : Nat} (hc : 0 < c) (hc2 : c < 18446744073709551616) (h : a * b < 18446744073709551616) : DivOk a b c := by
  intro _ W
  rw [Nat.div_eq_of_lt h, Nat.mod_eq_of_lt h]
  exact div64_0 _ _ h hc hc2 W
set_option maxHeartbeats 4000000 in
theorem quo_at {a b c : Nat} (ha : a < 9223372036854775808) (hb : b < 9223372036854775808) (hc : 0 < c) (hc2 : c < 9223372036854775808) (hD : DivOk a b c) (up : Bool) (fv : Nat) (hent : ∀ args w, (callFunc fv args).run Tryz.prog w = .ok (.enter fv args) w) (hf : ∀ W : World, Calls Tryz.prog fv #[.bool false] W fun e w' => e = .returned (.bool up) ∧ W = w') (w : World) :
    Calls Tryz.prog 109 #[.int .i64 (a : Int), .int .i64 (b : Int), .int .i64 (c : Int), .func (.func fv) #[] #[]] w fun e w' => e = .returned (.tuple #[.int .i64 (quoZ a b c up).1, .int .i64 (quoZ a b c up).2]) ∧ Fr (fun _ => False) w w' := by
  have HM := hidQ (mul64_at a b (by omega) (by omega))
  have t1 : decide ((c : Int) ≤ 0) = false := decide_eq_false (by omega)
  have t2 : decide ((a : Int) < 0) = false := decide_eq_false (by omega)
  have t3 : decide ((b : Int) < 0) = false := decide_eq_false (by omega)
  have e1 : IntKind.u64.wrap (c : Int) = (c : Int) := Mul64.wrapN c (by omega)
  have HD := hidQ hD
  unfold DivOk at HD
  obtain ⟨q, hq⟩ : ∃ q, q = quoZ a b c up := ⟨_, rfl⟩
  rw [← hq]
  unfold quoZ at hq
  obtain ⟨H, hH⟩ : ∃ H, H = a * b / 18446744073709551616 := ⟨_, rfl⟩
  obtain ⟨L, hL⟩ : ∃ L, L = a * b % 18446744073709551616 := ⟨_, rfl⟩
  obtain ⟨Q, hQ⟩ : ∃ Q, Q = a * b / c := ⟨_, rfl⟩
  obtain ⟨R, hR⟩ : ∃ R, R = a * b % c := ⟨_, rfl⟩
  rw [← hH, ← hQ, ← hR] at hq
  rw [← hH, ← hL] at HM
  rw [← hH, ← hL, ← hQ, ← hR] at HD
  have HQ := hidQ hq
  have hQl : H < c → Q < 18446744073709551616 := fun h => by
    rw [hQ]
    apply Nat.div_lt_of_lt_mul
    rw [hH] at h
    have := Nat.div_add_mod (a * b) 18446744073709551616
    have h2 := Nat.mod_lt (a * b) (show 0 < 18446744073709551616 by omega)
    omega
  have hQL := hidQ hQl
  clear hq hH hL hQ hR hQl hD
  go_enter Tryz.func109, Tryz.ntmps109
  go_wp2_with fail
  generalize hW : World.alloc w _ = W2
  have fW : Fr (fun _ => False) w W2 := by subst hW; (repeat' (first | (with_reducible exact Fr.refl _ _) | (with_reducible assumption) | (with_reducible refine Fr.alloc ?_ _) | (with_reducible refine Fr.drew ?_) | (with_reducible refine Fr.drewN ?_ _) | (with_reducible refine Fr.setCell ?_ _ _ ?_) | (exact Or.inr rfl) | (left; simp; done) | (left; simp; omega) | (simp; done) | (simp; omega) | omega))
  have bB : Blk W2 w.heap.size #[.int .u64 0, .int .u64 0] 183 := by subst hW; (repeat' (first | (with_reducible assumption) | (with_reducible apply Blk.drew) | (with_reducible apply Blk.drewN) | (with_reducible apply Blk.set) | (with_reducible apply Blk.other) | (exact Blk.new' _ _ _ (by first | rfl | (simp; done) | (simp; omega))) | (with_reducible apply Blk.alloc) | (with_reducible rfl) | (simp; done) | (simp; omega) | omega | rfl))
  clear hW
  obtain ⟨B, hB⟩ : ∃ B, B = w.heap.size := ⟨_, rfl⟩
  rw [← hB] at bB ⊢
  have hBw : w.heap.size ≤ B := by omega
  clear hB
  refine (size_at a ha _).mono ?_
  rintro e w1 ⟨rfl, rfl⟩
  go_wp2_with fail
  refine (size_at b hb _).mono ?_
  rintro e w1 ⟨rfl, rfl⟩
  go_wp2_with fail
  refine (HM.out _).mono ?_
  rintro e w1 ⟨rfl, k1⟩
  clear HM
  have b1 := bB.fr k1 (fun h => h)
  have f1 := fW.trans k1 (fun _ _ h => h)
  have hBl := b1.lt
  have c0 : w1.cell? ⟨B, 0, none⟩ = some (.int .u64 0) := b1.cell 0
  have c1 : w1.cell? ⟨B, 1, none⟩ = some (.int .u64 0) := b1.cell 1
  have z0 := b1.free 0
  have z1 := b1.free 1
  clear bB b1 k1 fW
  by_cases hHc : H < c
  · have HDc := hidQ (HD.out hHc)
    have t4 : decide (c ≤ H) = false := decide_eq_false (by omega)
    have hQ := hQL.out hHc
    have HQ2 : Hid (q = if Q + (if up = true ∧ 0 < R then 1 else 0) < 9223372036854775808 then (((Q + (if up = true ∧ 0 < R then 1 else 0) : Nat) : Int), 0) else (0, 20)) := hidQ (by have := HQ.out; rwa [if_neg (by omega)] at this)
    clear HD hQL HQ hHc
    go_wp2_with fail
    refine (HDc.out _).mono ?_
    rintro e w2 ⟨rfl, k2⟩
    clear HDc
    have f2 : Fr (fun _ => False) w w2 := f1.trans (Fr.trans (S := fun i => i = B) (by (repeat' (first | (with_reducible exact Fr.refl _ _) | (with_reducible assumption) | (with_reducible refine Fr.alloc ?_ _) | (with_reducible refine Fr.drew ?_) | (with_reducible refine Fr.drewN ?_ _) | (with_reducible refine Fr.setCell ?_ _ _ ?_) | (exact Or.inr rfl) | (left; simp; done) | (left; simp; omega) | (simp; done) | (simp; omega) | omega))) k2 (fun _ _ h => h.elim)) (fun i hi e => by omega)
    have HV := hidQ (hf w2)
    clear k2 f1 c0 c1 z0 z1 hBl hf
    by_cases hR : 0 < R
    · have t5 : decide ((R : Int) > 0) = true := decide_eq_true (by omega)
      have t6 : decide (0 < R) = true := decide_eq_true hR
      cases up with
      | true =>
        have HQ3 : Hid (q = if Q + 1 < 9223372036854775808 then (((Q + 1 : Nat) : Int), 0) else (0, 20)) := hidQ (by have := HQ2.out; simpa [hR] using this)
        clear hR HQ2
        go_wp2_with fail
        refine HV.out.mono ?_
        rintro e w3 ⟨rfl, rfl⟩
        clear HV
        by_cases hq1 : Q + 1 < 18446744073709551616
        · obtain ⟨Q1, hQ1⟩ : ∃ Q1, Q1 = Q + 1 := ⟨_, rfl⟩
          rw [← hQ1] at HQ3
          have e2 : IntKind.u64.wrap ((Q : Int) + 1) = (Q1 : Int) := by rw [hQ1]; exact Mul64.wrapN (Q + 1) hq1
          have t7 : ((Q1 : Int) == 0) = false := beq_eq_false_iff_ne.2 (by omega)
          have t8 : (Q1 == 0) = false := beq_eq_false_iff_ne.2 (by omega)
          have t9 : decide (Q1 = 0) = false := decide_eq_false (by omega)
          by_cases hs : Q1 < 9223372036854775808
          · have HQ4 := hidQ (show q = ((Q1 : Int), 0) by rw [HQ3.out, if_pos hs])
            have HS := hidQ (signed_yes Q1 hs w2)
            clear hQ1 hq1 hs HQ3 hQ
            go_wp2_with fail
            refine HS.out.mono ?_
            rintro e w4 ⟨rfl, rfl⟩
            clear HS
            go_wp2_with fail
            go_ret2
            rw [HQ4.out]
            exact ⟨by rfl, f2⟩
          · have HQ4 := hidQ (show q = (0, 20) by rw [HQ3.out, if_neg hs])
            have HS := hidQ (signed_no Q1 (by omega) hs w2)
            clear hQ1 hq1 hs HQ3 hQ
            go_wp2_with fail
            refine HS.out.mono ?_
            rintro e w4 ⟨rfl, rfl⟩
            clear HS
            go_wp2_with fail
            go_ret2
            rw [HQ4.out]
            exact ⟨by rfl, f2⟩
        · have e2 : IntKind.u64.wrap ((Q : Int) + 1) = 0 := by rw [show (Q : Int) + 1 = 18446744073709551616 by omega]; rfl
          have HQ4 := hidQ (show q = (0, 20) by rw [HQ3.out, if_neg (by omega)])
          clear hq1 HQ3 hQ
          go_wp2_with fail
          go_ret2
          rw [HQ4.out]
          exact ⟨by rfl, f2⟩
      | false =>
        have HQ3 : Hid (q = if Q < 9223372036854775808 then (((Q : Nat) : Int), 0) else (0, 20)) := hidQ (by have := HQ2.out; simpa [hR] using this)
        clear hR HQ2
        by_cases hs : Q < 9223372036854775808
        · have HQ4 := hidQ (show q = ((Q : Int), 0) by rw [HQ3.out, if_pos hs])
          have HS := hidQ (signed_yes Q hs w2)
          clear hs HQ3 hQ
          go_wp2_with fail
          refine HV.out.mono ?_
          rintro e w3 ⟨rfl, rfl⟩
          clear HV
          go_wp2_with fail
          refine HS.out.mono ?_
          rintro e w4 ⟨rfl, rfl⟩
          clear HS
          go_wp2_with fail
          go_ret2
          rw [HQ4.out]
          exact ⟨by rfl, f2⟩
        · have HQ4 := hidQ (show q = (0, 20) by rw [HQ3.out, if_neg hs])
          have HS := hidQ (signed_no Q hQ hs w2)
          clear hs HQ3 hQ
          go_wp2_with fail
          refine HV.out.mono ?_
          rintro e w3 ⟨rfl, rfl⟩
          clear HV
          go_wp2_with fail
          refine HS.out.mono ?_
          rintro e w4 ⟨rfl, rfl⟩
          clear HS
          go_wp2_with fail
          go_ret2
          rw [HQ4.out]
          exact ⟨by rfl, f2⟩
    · have t5 : decide ((R : Int) > 0) = false := decide_eq_false (by omega)
      have t6 : decide (0 < R) = false := decide_eq_false hR
      have HQ3 : Hid (q = if Q < 9223372036854775808 then (((Q : Nat) : Int), 0) else (0, 20)) := hidQ (by have := HQ2.out; simpa [hR] using this)
      clear hR HQ2 HV
      by_cases hs : Q < 9223372036854775808
      · have HQ4 := hidQ (show q = ((Q : Int), 0) by rw [HQ3.out, if_pos hs])
        have HS := hidQ (signed_yes Q hs w2)
        clear hs HQ3 hQ
        go_wp2_with fail
        refine HS.out.mono ?_
        rintro e w4 ⟨rfl, rfl⟩
        clear HS
        go_wp2_with fail
        go_ret2
        rw [HQ4.out]
        exact ⟨by rfl, f2⟩
      · have HQ4 := hidQ (show q = (0, 20) by rw [HQ3.out, if_neg hs])
        have HS := hidQ (signed_no Q hQ hs w2)
        clear hs HQ3 hQ
        go_wp2_with fail
        refine HS.out.mono ?_
        rintro e w4 ⟨rfl, rfl⟩
        clear HS
        go_wp2_with fail
        go_ret2
        rw [HQ4.out]
        exact ⟨by rfl, f2⟩
  · have t4 : decide (c ≤ H) = true := decide_eq_true (by omega)
    have HQ2 := hidQ (show q = (0, 20) from by have := HQ.out; rwa [if_pos (by omega)] at this)
    clear HD hQL HQ hHc
    go_wp2_with fail
    go_ret2
    rw [HQ2.out]
    exact ⟨by rfl, Fr.trans (T := fun i => i = B) f1 (by (repeat' (first | (with_reducible exact Fr.refl _ _) | (with_reducible assumption) | (with_reducible refine Fr.alloc ?_ _) | (with_reducible refine Fr.drew ?_) | (with_reducible refine Fr.drewN ?_ _) | (with_reducible refine Fr.setCell ?_ _ _ ?_) | (exact Or.inr rfl) | (left; simp; done) | (left; simp; omega) | (simp; done) | (simp; omega) | omega))) (fun i hi e => by omega)⟩
theorem muldiv_at {a b c : Nat} (ha : a < 9223372036854775808) (hb : b < 9223372036854775808) (hc : 0 < c) (hc2 : c < 9223372036854775808) (hD : DivOk a b c) (w : World) :
    Calls Tryz.prog 61 #[.int .i64 (a : Int), .int .i64 (b : Int), .int .i64 (c : Int)] w fun e w' => e = .returned (.tuple #[.int .i64 (quoZ a b c false).1, .int .i64 (quoZ a b c false).2]) ∧ Fr (fun _ => False) w w' := by
  have HQ := hidQ (quo_at ha hb hc hc2 hD false 110 (enters_of Tryz.func110 (by kernel_rfl) rfl) down_at w)
  generalize quoZ a b c false = q at HQ ⊢
  clear hD
  go_enter Tryz.func61, Tryz.ntmps61
  go_wp2_with fail
  refine HQ.out.mono ?_
  rintro e w1 ⟨rfl, k1⟩
  go_wp2_with fail
  go_ret2
  exact ⟨rfl, k1⟩
theorem muldivup_at {a b c : Nat} (ha : a < 9223372036854775808) (hb : b < 9223372036854775808) (hc : 0 < c) (hc2 : c < 9223372036854775808) (hD : DivOk a b c) (w : World) :
    Calls Tryz.prog 63 #[.int .i64 (a : Int), .int .i64 (b : Int), .int .i64 (c : Int)] w fun e w' => e = .returned (.tuple #[.int .i64 (quoZ a b c true).1, .int .i64 (quoZ a b c true).2]) ∧ Fr (fun _ => False) w w' := by
  have HQ := hidQ (quo_at ha hb hc hc2 hD true 111 (enters_of Tryz.func111 (by kernel_rfl) rfl) up_at w)
  generalize quoZ a b c true = q at HQ ⊢
  clear hD
  go_enter Tryz.func63, Tryz.ntmps63
  go_wp2_with fail
  refine HQ.out.mono ?_
  rintro e w1 ⟨rfl, k1⟩
  go_wp2_with fail
  go_ret2
  exact ⟨rfl, k1⟩
end Go.Proofs.YtapagoaoglmegaaGreat
namespace Go.Proofs.YtapagoaoglmegaaGreat
open Go.RowKit Go.Proofs.YtapagoaoglmegaaGreatW.PrintWords Go.Proofs.YtapagoaoglmegaaGreatW.PrintLast Go.Proofs.YtapagoaoglmegaaGreatW.PrintMore PCl
attribute [local go_sem] max2_int min2_int max_two min_two
set_option linter.unusedVariables false
set_option linter.unusedSimpArgs false
set_option maxRecDepth 100000
theorem spmay_at (s : S25) (W : World) : Calls Tryz.prog 35 #[vS s] W fun e w' => e = .returned (.bool (decide (SpOk s))) ∧ Fr (fun _ => False) W w' :=
  (span_May.calls 5 s.f0 s.f1 s.f2 _ W (spMay_f s.f0 s.f1 s.f2 5 (by omega))).mono fun _ _ q => ⟨q.1, Fr.of_below q.2 (Nat.le_refl _) _⟩
theorem spbad_at (s : S25) (W : World) : Calls Tryz.prog 105 #[vS s] W fun e w' => e = .returned (.bool (!decide (SpOk s))) ∧ Fr (fun _ => False) W w' := by
  have HM := hidE (spmay_at s)
  generalize decide (SpOk s) = q at HM ⊢
  go_enter Tryz.func105, Tryz.ntmps105
  go_wp2_with fail
  generalize hW : World.alloc W _ = W1
  have f0 : Fr (fun _ => False) W W1 := by subst hW; (repeat' (first | (with_reducible exact Fr.refl _ _) | (with_reducible assumption) | (with_reducible refine Fr.alloc ?_ _) | (with_reducible refine Fr.drew ?_) | (with_reducible refine Fr.drewN ?_ _) | (with_reducible refine Fr.setCell ?_ _ _ ?_) | (exact Or.inr rfl) | (left; simp; done) | (left; simp; omega) | (simp; done) | (simp; omega) | omega))
  clear hW
  refine (HM.out _).mono ?_
  rintro e w2 ⟨rfl, k2⟩
  go_wp2
  go_ret
  exact ⟨rfl, f0.trans k2 (fun _ _ h => h)⟩
theorem spany_at {w : World} {A : Option Addr} {cap : Nat} {L : List S25} (hC : Kd.C k25 w A L.length L) (hc : L.length ≤ cap) (hn : 0 < L.length) :
    Calls Tryz.prog 41 #[.slice A L.length cap, .func (.func 105) #[] #[]] w fun e w' => e = .returned (.bool (L.any fun s => !decide (SpOk s))) ∧ Fr (fun _ => False) w w' := by
  obtain ⟨r, off, rfl, hr, hat⟩ := C25_open hC hn
  have hp : Go.Proofs.PredBelow Tryz.prog 105 #[] (fun s => .agg (encS s).toArray) (fun s => !decide (SpOk s)) w := fun W s hb => (spbad_at s W).mono fun e w' h => ⟨h.1, hb.trans (h.2.below.mono hb.size)⟩
  have hcell : ∀ j, j < L.length → ∀ i v, (encS L[j]!)[i]? = some v → w.cell? ⟨r, off + j * 3 + i, none⟩ = some v := fun j hj i v hv => by
    have h1 : L[j]? = some L[j]! := by rw [getElem!_pos _ j hj]; exact List.getElem?_eq_getElem hj
    obtain ⟨a0, a1, a2⟩ := hat j _ h1
    match i, hv with
    | 0, hv => have hv := Option.some.inj hv; subst hv; exact a0
    | 1, hv => have hv := Option.some.inj hv; subst hv; exact a1
    | 2, hv => have hv := Option.some.inj hv; subst hv; exact a2
    | i + 3, hv => simp [encS] at hv
  have := AnyQ.slices_ContainsFunc YtapagoaoglmegaaGreat.ctf 3 Tryz.isAgg25 Tryz.sizeOf25 encS (fun _ => rfl) (fun s => !decide (SpOk s)) 105 #[] (enters_of Tryz.func105 (by kernel_rfl) rfl) r off L.length cap L w hp (Nat.le_refl _) (C25_len hC) hr hcell
  rw [List.take_length] at this
  exact this.mono fun e w' h => ⟨h.1, Fr.of_below h.2 (Nat.le_refl _) _⟩
theorem cmay_at {w : World} {A : Option Addr} {cap : Nat} {L : List S25} (hC : Kd.C k25 w A L.length L) (hc : L.length ≤ cap) (hn : 0 < L.length) (hl : ∀ s ∈ L, SpOk s) :
    Calls Tryz.prog 57 #[.slice A L.length cap] w fun e w' => e = .returned (.bool true) ∧ Fr (fun _ => False) w w' := by
  have HA := hidE (spany_at hC hc hn)
  have e : (L.any fun s => !decide (SpOk s)) = false := by
    rw [List.any_eq_false]
    intro s hs
    simp [hl s hs]
  rw [e] at HA
  clear e hC hl
  go_enter Tryz.func57, Tryz.ntmps57
  go_wp2_with fail
  refine HA.out.mono ?_
  rintro e w1 ⟨rfl, k1⟩
  go_wp2
  go_ret
  exact ⟨rfl, k1⟩
theorem breadth_at {s : S25} (hs : SpOk s) (W : World) : Calls Tryz.prog 133 #[vS s] W fun e w' => e = .returned (.int .i64 (brZ s)) ∧ Fr (fun _ => False) W w' := by
  have HW := hidE (fun W => span_Width.calls 5 s.f0 s.f1 s.f2 _ W (width_f s.f0 s.f1 s.f2 5 (by omega) hs))
  have e1 : IntKind.i64.wrap (s.f2 - s.f1 + 1) = brZ s := IntWalk.i64_in _ (by have := br_pos hs; unfold brZ at this; omega)
  have e2 : wrap64 (s.f2 - s.f1 + 1) = brZ s := IntWalk.wrap64_in _ (by have := br_pos hs; unfold brZ at this; omega)
  go_enter Tryz.func133, Tryz.ntmps133
  go_wp2_with fail
  generalize hW : World.alloc W _ = W1
  have f0 : Fr (fun _ => False) W W1 := by subst hW; (repeat' (first | (with_reducible exact Fr.refl _ _) | (with_reducible assumption) | (with_reducible refine Fr.alloc ?_ _) | (with_reducible refine Fr.drew ?_) | (with_reducible refine Fr.drewN ?_ _) | (with_reducible refine Fr.setCell ?_ _ _ ?_) | (exact Or.inr rfl) | (left; simp; done) | (left; simp; omega) | (simp; done) | (simp; omega) | omega))
  clear hW
  refine (HW.out _).mono ?_
  rintro e w2 ⟨rfl, k2⟩
  go_wp2
  go_ret
  exact ⟨by rfl, f0.trans (Fr.of_below k2 (Nat.le_refl _) _) (fun _ _ h => h)⟩
def wideTo (l : List S25) (i : Nat) : Int := wideZ (l.take i)
theorem wide_snoc {l : List S25} {i : Nat} {s : S25} (h : l[i]? = some s) : wideTo l (i + 1) = max (wideTo l i) (brZ s) := by
  unfold wideTo wideZ
  rw [List.take_add_one, h, List.foldl_append]; rfl
theorem infoL : (Tryz.prog.info? 2).map (fun i => (i.zero, i.size, i.bytes)) = some (some (.int .i64 0), 1, 8) := by kernel_rfl
theorem quo_down {m b : Int} (h0 : 0 ≤ m ∧ m ≤ 4611686018427387905) (h1 : 1 ≤ b ∧ b ≤ 4611686018427387905) : ∃ x y, quoZ m.toNat 1024 b.toNat false = (x, y) ∧ (y = 0 ∧ x = m * 1024 / b ∨ y = 20 ∧ 1048576 < m * 1024 / b) := by
  obtain ⟨M, rfl⟩ := Int.eq_ofNat_of_zero_le h0.1
  obtain ⟨B, rfl⟩ := Int.eq_ofNat_of_zero_le (show 0 ≤ b by omega)
  simp only [Int.toNat_natCast]
  unfold quoZ
  have e : (M : Int) * 1024 / (B : Int) = ((M * 1024 / B : Nat) : Int) := by rw [Int.natCast_ediv, Int.natCast_mul]; rfl
  rw [e]
  by_cases hc : B ≤ M * 1024 / 18446744073709551616
  · refine ⟨0, 20, by rw [if_pos hc], .inr ⟨rfl, ?_⟩⟩
    have : 18446744073709551616 ≤ M * 1024 / B := by
      apply (Nat.le_div_iff_mul_le (by omega)).2
      have := Nat.div_mul_le_self (M * 1024) 18446744073709551616
      have := Nat.mul_le_mul_right 18446744073709551616 hc
      have h3 : 18446744073709551616 * B = B * 18446744073709551616 := Nat.mul_comm _ _
      omega
    omega
  · rw [if_neg hc]
    simp only [Bool.false_eq_true, false_and, if_false, Nat.add_zero]
    by_cases hq : M * 1024 / B < 9223372036854775808
    · exact ⟨_, _, if_pos hq, .inl ⟨rfl, rfl⟩⟩
    · exact ⟨_, _, if_neg hq, .inr ⟨rfl, by omega⟩⟩
set_option maxHeartbeats 4000000 in
theorem weights_at {w : World} {A : Option Addr} {cap : Nat} {L : List S25} (hC : Kd.C k25 w A L.length L) (hc : L.length ≤ cap) (hn : 0 < L.length) (h16 : L.length ≤ 16) (hl : ∀ s ∈ L, SpOk s) (hD : ∀ s ∈ L, DivOk (wideZ L).toNat 1024 (brZ s).toNat) :
    Calls Tryz.prog 107 #[.slice A L.length cap] w fun e w' => ∃ g c, e = .returned (.slice (some ⟨g, 0, none⟩) L.length c) ∧ L.length ≤ c ∧ w.heap.size ≤ g ∧ CsE (Value.int .i64) w' g (wtsZ L) ∧ Fr (fun _ => False) w w' := by
  obtain ⟨r, off, rfl, hr, hat⟩ := C25_open hC hn
  have HAt := hidE hat
  have HM := hidE (cmay_at hC hc hn hl)
  have HL := hidE hl
  have HD := hidE hD
  have t0 : decide ((L.length : Int) > 16) = false := decide_eq_false (by omega)
  clear hC hat hl hD
  go_enter Tryz.func107, Tryz.ntmps107
  go_wp2_with fail
  refine HM.out.mono ?_
  rintro e w1 ⟨rfl, k1⟩
  clear HM
  go_wp2_with fail
  go_loopw [3, 21] (fun v3 v21 wr => ∃ i : Nat, i ≤ L.length ∧ v21 = .int .i64 (i : Int) ∧ v3 = .int .i64 (wideTo L i) ∧ Fr (fun _ => False) w wr) (fun _ v21 _ => L.length - (intOf v21).toNat)
  case atStart => exact ⟨0, Nat.zero_le _, rfl, by simp [wideTo, wideZ], k1⟩
  case round =>
    clear k1
    obtain ⟨i, hi, rfl, rfl, hf⟩ := hrel
    by_cases hlt : i < L.length
    · obtain ⟨s, hs⟩ : ∃ s, L[i]? = some s := ⟨_, List.getElem?_eq_getElem hlt⟩
      obtain ⟨c0, c1, c2⟩ := (HAt.out i s hs).fr hf (fun h => h)
      have t1 : (i : Int) < (L.length : Int) := by omega
      have HB := hidE (fun W => breadth_at (HL.out s (List.mem_of_getElem? hs)) W)
      have hsn := hidE (wide_snoc hs)
      obtain ⟨m, hm⟩ : ∃ m, m = wideTo L i := ⟨_, rfl⟩
      obtain ⟨b, hb⟩ : ∃ b, b = brZ s := ⟨_, rfl⟩
      rw [← hm, ← hb] at hsn
      rw [← hb] at HB
      rw [← hm]
      clear hs hm hb
      go_wp2_with fail
      generalize hW : World.alloc wr _ = W5
      have f5 : Fr (fun _ => False) wr W5 := by subst hW; (repeat' (first | (with_reducible exact Fr.refl _ _) | (with_reducible assumption) | (with_reducible refine Fr.alloc ?_ _) | (with_reducible refine Fr.drew ?_) | (with_reducible refine Fr.drewN ?_ _) | (with_reducible refine Fr.setCell ?_ _ _ ?_) | (exact Or.inr rfl) | (left; simp; done) | (left; simp; omega) | (simp; done) | (simp; omega) | omega))
      clear hW c0 c1 c2
      refine (HB.out _).mono ?_
      rintro e w6 ⟨rfl, k6⟩
      clear HB
      have hnx : Hid ((if m < b then b else m) = wideTo L (i + 1)) := hidE (by rw [hsn.out]; split <;> omega)
      go_wp2_with fail
      all_goals (go_roundw)
      case rel => exact ⟨i + 1, by omega, by go_num, by rw [hnx.out], (hf.trans f5 (fun _ _ h => h)).trans k6 (fun _ _ h => h)⟩
      case measure => simp [intOf]; omega
    · obtain rfl : i = L.length := by omega
      have hwt : wideTo L L.length = wideZ L := by unfold wideTo; rw [List.take_length]
      rw [hwt]
      have hwl := wide_le HL.out
      obtain ⟨M, hM⟩ : ∃ M, M = wideZ L := ⟨_, rfl⟩
      rw [← hM] at HD hwl ⊢
      have HMe := hidE hM
      clear hlt hwt hM hi
      go_wp2_with fail
      have hsz : w.heap.size ≤ wr.heap.size := hf.size
      go_loopw [6, 32] (fun v6 v32 wq => ∃ k : Nat, k ≤ L.length ∧ v32 = .int .i64 (k : Int) ∧ wq.ownsRow w.heap.size 2 1 v6 ((wtsZ L).take k |>.map (Value.int .i64)).length ((wtsZ L).take k |>.map (Value.int .i64)) ∧ Fr (fun _ => False) w wq) (fun _ v32 _ => L.length - (intOf v32).toNat)
      case atStart => exact ⟨0, Nat.zero_le _, rfl, by simpa using World.ownsRow_nil _ _ _ _, hf⟩
      case round =>
        clear hf hsz
        obtain ⟨k, hk, rfl, hown, hf⟩ := hrel
        obtain ⟨wq, rfl⟩ : ∃ wq : World, wq = wr := ⟨_, rfl⟩
        have HO := hidE hown
        clear hown
        by_cases hlt : k < L.length
        · obtain ⟨s, hs⟩ : ∃ s, L[k]? = some s := ⟨_, List.getElem?_eq_getElem hlt⟩
          obtain ⟨c0, c1, c2⟩ := (HAt.out k s hs).fr hf (fun h => h)
          have hms := List.mem_of_getElem? hs
          have hbp := br_pos (HL.out s hms)
          have t1 : (k : Int) < (L.length : Int) := by omega
          have HB := hidE (fun W => breadth_at (HL.out s hms) W)
          have hwk : (wtsZ L)[k]? = some (min (M * 1024 / brZ s) 1048576) := by
            unfold wtsZ wtZ
            rw [List.getElem?_map, hs, HMe.out]; rfl
          obtain ⟨x, y, hxy, hcs⟩ := quo_down hwl hbp
          have HQ := hidE (fun W => muldiv_at (a := M.toNat) (b := 1024) (c := (brZ s).toNat) (by omega) (by omega) (by omega) (by omega) (HD.out s hms) W)
          rw [hxy] at HQ
          have e1 : ((M.toNat : Nat) : Int) = M := Int.toNat_of_nonneg (by omega)
          have e2 : (((brZ s).toNat : Nat) : Int) = brZ s := Int.toNat_of_nonneg (by omega)
          rw [e1, e2] at HQ
          obtain ⟨b, hb⟩ : ∃ b, b = brZ s := ⟨_, rfl⟩
          rw [← hb] at HB HQ hwk hcs
          obtain ⟨z, hz⟩ : ∃ z, z = min (M * 1024 / b) 1048576 := ⟨_, rfl⟩
          rw [← hz] at hwk
          have HWk := hidE hwk
          have hzz : (y = 0 ∧ (if 1048576 < x then 1048576 else x) = z) ∨ (y = 20 ∧ 1048576 = z) := by
            rcases hcs with ⟨h1, h2⟩ | ⟨h1, h2⟩
            · left; refine ⟨h1, ?_⟩; rw [hz, h2]; split <;> omega
            · right; exact ⟨h1, by rw [hz]; omega⟩
          clear hs hms hbp hwk hxy hcs hb hz e1 e2
          go_wp2_with fail
          generalize hW : World.alloc wq _ = W5
          have f5 : Fr (fun _ => False) wq W5 := by subst hW; (repeat' (first | (with_reducible exact Fr.refl _ _) | (with_reducible assumption) | (with_reducible refine Fr.alloc ?_ _) | (with_reducible refine Fr.drew ?_) | (with_reducible refine Fr.drewN ?_ _) | (with_reducible refine Fr.setCell ?_ _ _ ?_) | (exact Or.inr rfl) | (left; simp; done) | (left; simp; omega) | (simp; done) | (simp; omega) | omega))
          clear hW c0 c1 c2
          refine (HB.out _).mono ?_
          rintro e w6 ⟨rfl, k6⟩
          clear HB
          go_wp2_with fail
          refine (HQ.out _).mono ?_
          rintro e w7 ⟨rfl, k7⟩
          clear HQ
          have F7 := (hf.trans f5 (fun _ _ h => h)).trans (k6.trans k7 (fun _ _ h => h)) (fun _ _ h => h)
          have o7 := own_fr0 HO.out ((f5.trans k6 (fun _ _ h => h)).trans k7 (fun _ _ h => h)) (fun _ _ h => h)
          have hlen : ((wtsZ L).take k).length = k := by
            rw [List.length_take]
            have : (wtsZ L).length = L.length := by unfold wtsZ; simp
            omega
          have lN : Lst (w7.alloc (.cells #[.int .i64 z] 2)) 2 (.slice (some ⟨w7.heap.size, 0, none⟩) 1 1) [.int .i64 z] := Lst.new w7 2 [.int .i64 z] (by simp) (by simp [maxLen])
          have o8 := o7.alloc (.cells #[.int .i64 z] 2)
          have hsz : w.heap.size ≤ w7.heap.size := F7.size
          have s8 : w.heap.size ≤ (w7.alloc (.cells #[.int .i64 z] 2)).heap.size := by simp; omega
          have hnx : Hid ((wtsZ L).take (k + 1) = (wtsZ L).take k ++ [z]) := hidE (by rw [List.take_add_one, HWk.out]; rfl)
          clear k6 k7 f5 HO hf o7
          rcases hzz with ⟨rfl, hz⟩ | ⟨rfl, hz⟩
          · go_wp2_with (at_builtin; refine wpList_append_lst rfl _ _ 59 rfl w.heap.size 2 (.int .i64 0) 8 Tryz.underlying59 infoL rfl _ _ _ [.int .i64 z] rfl rfl o8 lN (by simp [Value.oneCell']) (by simp [maxLen, hlen]; omega) (by simp [hlen]; omega) s8 ?_)
            intro v' w9 o9 g9 b9
            have f9 : Fr (fun _ => False) w w9 := Fr.grown (F7.alloc _) g9 (fun j hj => .inl (o8.lt j hj).1)
            clear o8 lN s8
            go_wp2
            go_roundw
            case rel => exact ⟨k + 1, by omega, by go_num, by rw [hnx.out, List.map_append]; simpa using o9, f9⟩
            case measure => simp [intOf]; omega
          · subst hz
            go_wp2_with (at_builtin; refine wpList_append_lst rfl _ _ 59 rfl w.heap.size 2 (.int .i64 0) 8 Tryz.underlying59 infoL rfl _ _ _ [.int .i64 1048576] rfl rfl o8 lN (by simp [Value.oneCell']) (by simp [maxLen, hlen]; omega) (by simp [hlen]; omega) s8 ?_)
            intro v' w9 o9 g9 b9
            have f9 : Fr (fun _ => False) w w9 := Fr.grown (F7.alloc _) g9 (fun j hj => .inl (o8.lt j hj).1)
            clear o8 lN s8
            go_wp2
            go_roundw
            case rel => exact ⟨k + 1, by omega, by go_num, by rw [hnx.out, List.map_append]; simpa using o9, f9⟩
            case measure => simp [intOf]; omega
        · obtain rfl : k = L.length := by omega
          have hwn : (wtsZ L).length = L.length := by unfold wtsZ; simp
          have ho := HO.out
          rw [List.take_of_length_le (by omega), List.length_map] at ho
          obtain ⟨g, cp, hv, h3, h4, h5, h6⟩ : ∃ g cp, u6 = .slice (some ⟨g, 0, none⟩) L.length cp ∧ L.length ≤ cp ∧ cp ≤ maxLen ∧ w.heap.size ≤ g ∧ CsE (Value.int .i64) wq g (wtsZ L) := by
            rcases own_cs ho with ⟨hv, h0⟩ | h
            · rw [h0] at hwn
              have : L.length = 0 := hwn.symm
              omega
            · rwa [hwn] at h
          subst hv
          clear ho HO hlt
          go_wp2
          go_ret
          exact ⟨g, cp, rfl, h3, h5, h6, hf⟩
end Go.Proofs.YtapagoaoglmegaaGreat
namespace Go.Proofs.YtapagoaoglmegaaGreat
open Go.RowKit Go.Shelf Go.Proofs.YtapagoaoglmegaaGreatW.PrintWords Go.Proofs.YtapagoaoglmegaaGreatW.PrintLast Go.Proofs.YtapagoaoglmegaaGreatW.PrintMore PCl
attribute [local go_sem] Oper.semAt_some
set_option linter.unusedVariables false
set_option linter.unusedSimpArgs false
set_option maxRecDepth 100000
theorem Fr.grow {w w' : World} (h : Fr (fun _ => False) w w') : w.grownBy w' none := ⟨h.os, h.tape, h.output, h.size, fun k hk _ => h.block k hk (fun h => h)⟩
def KC (B : Nat) (W W' : World) : Prop := W.heap.size ≤ W'.heap.size ∧ ∀ k o, W.heap[k]? = some o → o.isCells = true → k ≠ B → W'.heap[k]? = some o
theorem KC.refl (B : Nat) (W : World) : KC B W W := ⟨Nat.le_refl _, fun _ _ h _ _ => h⟩
theorem KC.trans {B : Nat} {X Y Z : World} (h : KC B X Y) (k : KC B Y Z) : KC B X Z := ⟨Nat.le_trans h.1 k.1, fun i o hi ho hn => k.2 i o (h.2 i o hi ho hn) ho hn⟩
theorem KC.of_fr {B : Nat} {W W' : World} (h : Fr (fun i => i = B) W W') : KC B W W' := ⟨h.size, fun k o hk _ hn => (h.block k (Array.getElem?_eq_some_iff.1 hk).1 hn).trans hk⟩
theorem KC.of_fr0 {B : Nat} {W W' : World} (h : Fr (fun _ => False) W W') : KC B W W' := KC.of_fr (h.mono (fun _ _ h => h.elim))
theorem KC.putObj {B : Nat} (W : World) (l : Nat) (o o' : Obj) (h : W.heap[l]? = some o) (ho : o.isCells = false) : KC B W (W.putObj l o') := by
  refine ⟨by simp [World.putObj], fun k u hk hu hn => ?_⟩
  by_cases e : k = l
  · subst e; rw [h] at hk; cases hk; rw [ho] at hu; cases hu
  · exact (World.putObj_heap_other e).trans hk
theorem KC.cell {B : Nat} {W W' : World} (h : KC B W W') {b i : Nat} {v : Value} (hc : W.cell? ⟨b, i, none⟩ = some v) (hb : b ≠ B) : W'.cell? ⟨b, i, none⟩ = some v := by
  obtain ⟨cs, t, fz, ho⟩ : ∃ cs t fz, W.heap[b]? = some (.cells cs t fz) := by
    unfold World.cell? at hc
    split at hc
    · rename_i cs t fz e; exact ⟨_, _, _, by simpa using e⟩
    · cases hc
  have := h.2 b _ ho rfl hb
  rw [← hc]
  exact World.cell?_of_block (a := ⟨b, i, none⟩) (this.trans ho.symm)
def msZ (L : List S25) (h : S25) : List (Int × Int) := L.map fun s => (mdZ h s, wtZ (wideZ L) s)
abbrev MsT (L : List S25) (h : S25) := { x : Int × Int // x ∈ msZ L h }
theorem yv {e : Ending} {p q : Prop} (hd : e = .returned (.bool true) ∧ p ∨ e = .returned (.bool false) ∧ q) : ∃ b : Bool, e = .returned (.bool b) ∧ Hid ((b = true ∧ p) ∨ (b = false ∧ q)) := by
  rcases hd with ⟨rfl, h1⟩ | ⟨rfl, h1⟩
  · exact ⟨true, rfl, hidE (.inl ⟨rfl, h1⟩)⟩
  · exact ⟨false, rfl, hidE (.inr ⟨rfl, h1⟩)⟩
def MidQ {α : Type} (J Jx : List α → World → Prop) (Bc : Nat) (wr : World) (pre : List α) (x : α) (A : Bool → Act) : Exit → Act → World → Prop
  | .normal, a', W' => ∃ (b : Bool) (W7 : World), a' = A b ∧ Fr (fun _ => False) wr W7 ∧ Hid ((b = true ∧ J (pre ++ [x]) W' ∧ KC Bc W7 W') ∨ (b = false ∧ Jx (pre ++ [x]) W'))
  | _, _, _ => False
theorem MidQ.out {α : Type} {J Jx : List α → World → Prop} {Bc : Nat} {wr : World} {pre : List α} {x : α} {A : Bool → Act} {e : Exit} {a' : Act} {W' : World} (h : MidQ J Jx Bc wr pre x A e a' W') :
    e = .normal ∧ ∃ (b : Bool) (W7 : World), a' = A b ∧ Fr (fun _ => False) wr W7 ∧ Hid ((b = true ∧ J (pre ++ [x]) W' ∧ KC Bc W7 W') ∨ (b = false ∧ Jx (pre ++ [x]) W')) := by
  cases e with
  | normal => exact ⟨rfl, h⟩
  | _ => exact h.elim
theorem midS_at {s : S25} (hs : SpOk s) (W : World) : Calls Tryz.prog 104 #[vS s] W fun e w' => e = .returned (.int .i64 (midZ s)) ∧ Fr (fun _ => False) W w' :=
  (span_Mid.calls 5 s.f0 s.f1 s.f2 _ W (mid_f s.f0 s.f1 s.f2 5 (by omega) hs)).mono fun _ _ q => ⟨q.1, Fr.of_below q.2 (Nat.le_refl _) _⟩
theorem clamp_at (x a b : Int) (W : World) : Calls Tryz.prog 108 #[.int .i64 x, .int .i64 a, .int .i64 b] W fun e w' => e = .returned (.int .i64 (clZ x a b)) ∧ Fr (fun _ => False) W w' := by
  have e : fix_Clamp.f x a b = some (clZ x a b) := by
    unfold fix_Clamp.f clZ
    by_cases h1 : x < a
    · rw [if_pos h1, if_pos h1]
    · rw [if_neg h1, if_neg h1]
      by_cases h2 : b < x
      · rw [if_pos h2, if_pos h2]
      · rw [if_neg h2, if_neg h2]
  refine (fix_Clamp.calls x a b _ W e).mono fun _ _ q => ⟨q.1, ?_⟩
  obtain ⟨n, rfl⟩ := q.2.out
  exact (Fr.refl _ _).drewN n
theorem ms_get {L : List S25} {h : S25} {k : Nat} {s : S25} (hs : L[k]? = some s) : ∃ x : MsT L h, (msZ L h).attach[k]? = some x ∧ x.1.1 = mdZ h s ∧ x.1.2 = wtZ (wideZ L) s := by
  have hk := (List.getElem?_eq_some_iff.1 hs).1
  have hk' : k < (msZ L h).length := by unfold msZ; simpa using hk
  have hm : (msZ L h)[k] = (mdZ h s, wtZ (wideZ L) s) := by
    have : (msZ L h)[k]? = some (mdZ h s, wtZ (wideZ L) s) := by unfold msZ; rw [List.getElem?_map, hs]; rfl
    rw [List.getElem?_eq_getElem hk'] at this
    exact Option.some.inj this
  refine ⟨⟨(msZ L h)[k], List.getElem_mem hk'⟩, ?_, by show ((msZ L h)[k]).1 = _; rw [hm], by show ((msZ L h)[k]).2 = _; rw [hm]⟩
  rw [List.getElem?_eq_getElem (by simpa using hk')]
  simp
set_option maxHeartbeats 4000000 in
theorem mid1_in (n : Nat) (hn : 1 ≤ n) {l Bl Bh Bc cap : Nat} {A : Option Addr} {L : List S25} {h : S25} (J Jx : List (MsT L h) → World → Prop) (W : World) (hJ : AbidesFrom W.heap.size J)
    (hY : ∀ pre (x : MsT L h) W1, J pre W1 → pre.length < L.length → YieldAt Fence.wide (n - 1) Tryz.prog l #[.int .i64 x.1.1, .int .i64 x.1.2] W1 fun e W' => (e = .returned (.bool true) ∧ J (pre ++ [x]) W' ∧ KC Bc W1 W') ∨ (e = .returned (.bool false) ∧ Jx (pre ++ [x]) W'))
    (hBl : W.cell? ⟨Bl, 0, none⟩ = some (.slice A L.length cap)) (hBh : AtS W Bh 0 h) (nl : Bl ≠ Bc) (nh : Bh ≠ Bc) (hC : Kd.C k25 W A L.length L) (hA : ∀ r off, A = some ⟨r, off, none⟩ → r ≠ Bc) (hc : L.length ≤ cap) (h0 : 0 < L.length) (h16 : L.length ≤ 16)
    (hl : ∀ s ∈ L, SpOk s) (hD : ∀ s ∈ L, DivOk (wideZ L).toNat 1024 (brZ s).toNat) (hB : Bc < W.heap.size) (hJ0 : J [] W) :
    CallsIn Fence.wide n Tryz.prog 106 #[.func (.yield l) #[] #[], .pointer (some ⟨Bl, 0, none⟩), .pointer (some ⟨Bh, 0, none⟩)] W fun e W' => (∃ v, e = .returned v) ∧ ((∃ ys, ys = (msZ L h).attach ∧ J ys W') ∨ ∃ pre, True ∧ Jx pre W') := by
  have HW := hidE (weights_at hC hc h0 h16 hl hD)
  obtain ⟨r, off, rfl, hr, hat⟩ := C25_open hC h0
  have hrB := hA r off rfl
  have HAt := hidE hat
  have HL := hidE hl
  have HBh := hidE hBh
  have HBl := hidE hBl
  clear hC hat hl hD hA
  refine callsIn_of_wp Tryz.func106 rfl trivial ?_ rfl
  simp only [Tryz.ntmps106, List.size_toArray, List.length_cons, List.length_nil, Nat.reduceAdd, Nat.reduceSub, Array.replicate_succ, Array.replicate_zero, List.push_toArray, List.append_toArray, List.nil_append, List.cons_append]
  gi_wp2_with (refine ⟨trivial, ?_⟩; gi_at_call 107; refine (callsIn_wide.2 HW.out).mono ?_; rintro e W2 ⟨g, c, rfl, hcg, hg, hcs, k2⟩)
  have hJ2 : J [] W2 := hJ _ W W2 none hJ0 k2.grow (fun r e => by cases e)
  have HS := hidE hcs
  have gB : g ≠ Bc := by omega
  have hgs := hcs.2
  have K2 := hidE k2
  clear hcs HW hJ0
  gi_loopw [9] (fun v9 wr => ∃ k : Nat, k ≤ L.length ∧ v9 = .int .i64 (k : Int) ∧ J ((msZ L h).attach.take k) wr ∧ KC Bc W2 wr) (fun v9 _ => L.length - (intOf v9).toNat)
  case atStart => exact ⟨0, Nat.zero_le _, rfl, by simpa using hJ2, KC.refl _ _⟩
  case round =>
    clear hJ2
    obtain ⟨k, hk, rfl, hJk, hkc⟩ := hrel
    by_cases hlt : k < L.length
    · obtain ⟨s, hs⟩ : ∃ s, L[k]? = some s := ⟨_, List.getElem?_eq_getElem hlt⟩
      obtain ⟨x, hx, hx1, hx2⟩ := ms_get (h := h) hs
      have hwk : (wtsZ L)[k]? = some x.1.2 := by unfold wtsZ; rw [List.getElem?_map, hs, hx2]; rfl
      have d0 := hkc.cell (HS.out.cell hwk) gB
      have d1 := hkc.cell ((K2.out.cell (a := ⟨Bl, 0, none⟩) (World.block_lt_of_cell? W _ HBl.out) (fun h => h)).trans HBl.out) nl
      obtain ⟨b0, b1, b2⟩ := HBh.out.fr K2.out (fun h => h)
      obtain ⟨c0, c1, c2⟩ := (HAt.out k s hs).fr K2.out (fun h => h)
      replace b0 := hkc.cell b0 nh
      replace b1 := hkc.cell b1 nh
      replace b2 := hkc.cell b2 nh
      replace c0 := hkc.cell c0 hrB
      replace c1 := hkc.cell c1 hrB
      replace c2 := hkc.cell c2 hrB
      have t1 : (k : Int) < (L.length : Int) := by omega
      have hlen : ((msZ L h).attach.take k).length < L.length := by
        rw [List.length_take]; unfold msZ; simp; omega
      have hmd : clZ (midZ s) h.f1 h.f2 = x.1.1 := hx1.symm
      have HMd := hidE hmd
      have HSp := hidE (HL.out s (List.mem_of_getElem? hs))
      have hnx : Hid ((msZ L h).attach.take k ++ [x] = (msZ L h).attach.take (k + 1)) := hidE (by rw [List.take_add_one, hx]; rfl)
      clear hs hx hx1 hx2 hwk hmd
      have HCl : Hid (∀ W, Calls Tryz.prog 108 #[.int .i64 (midZ s), .int .i64 h.f1, .int .i64 h.f2] W fun e w' => e = .returned (.int .i64 x.1.1) ∧ Fr (fun _ => False) W w') := hidE (fun W => by rw [← HMd.out]; exact clamp_at _ _ _ W)
      have hmx : Tryz.prog.follows .mixedOrders = true := by kernel_rfl
      have hbh := World.block_lt_of_cell? wr _ b0
      gi_wp2
      refine wpIn_mono (Q := MidQ J Jx Bc wr ((msZ L h).attach.take k) x (fun b => { tmps := #[.func (.yield l) #[] #[], .pointer (some ⟨Bl, 0, none⟩), .pointer (some ⟨Bh, 0, none⟩), undef, .int .i64 (k : Int), .int .i64 x.1.2, .slice (some ⟨r, off, none⟩) L.length cap, .slice (some ⟨g, 0, none⟩) L.length c, .int .i64 (L.length : Int), .int .i64 (k : Int), .bool true, .int .i64 (k : Int), .pointer (some ⟨g, k, none⟩), .int .i64 x.1.2, .func (.yield l) #[] #[], .slice (some ⟨r, off, none⟩) L.length cap, .int .i64 (k : Int), .pointer (some ⟨r, off + k * 3, none⟩), .agg #[.int .i64 s.f0, .int .i64 s.f1, .int .i64 s.f2], .int .i64 (midZ s), .pointer (some ⟨Bh, 1, none⟩), .int .i64 h.f1, .pointer (some ⟨Bh, 2, none⟩), .int .i64 h.f2, .int .i64 x.1.1, .int .i64 x.1.2, .bool b, .bool (!b), u28], defers := [] })) ?hh ?hq
      case hh =>
        gi_region_with_o (first
          | (refine ⟨trivial, ?_⟩; gi_at_call 104; refine (callsIn_wide.2 (midS_at HSp.out _)).mono ?_; rintro e W6 ⟨rfl, k6⟩; have b1' := (k6.cell (a := ⟨Bh, 0 + 1, none⟩) hbh (fun h => h)).trans b1; have b2' := (k6.cell (a := ⟨Bh, 0 + 2, none⟩) hbh (fun h => h)).trans b2)
          | (refine ⟨trivial, ?_⟩; gi_at_call 108; refine (callsIn_wide.2 (HCl.out _)).mono ?_; rintro e W7 ⟨rfl, k7⟩; have F7 : Fr (fun _ => False) wr W7 := ((Fr.refl _ wr).drew.trans k6 (fun _ _ h => h)).trans k7 (fun _ _ h => h); have hJ7 := hJ _ wr W7 none hJk F7.grow (fun r e => by cases e); obtain ⟨fn, tmps, assign, body, hy, hR⟩ := hY _ x W7 hJ7 hlen)
          | (refine hR.mono ?_; rintro e W8 hd; obtain ⟨b, rfl, hb⟩ := yv hd))
        all_goals exact ⟨b, W7, rfl, F7, hb⟩
      case hq =>
        intro e a' W8 hm
        obtain ⟨rfl, b, W7, rfl, F7, hb⟩ := hm.out
        cases b
        · have hj := hb.out.resolve_left (by simp)
          gi_wp2
          refine bodyPost_ret (results_none rfl _ _ _) rfl ?_
          exact ⟨⟨_, rfl⟩, .inr ⟨_, by first | exact hj.2 | exact ⟨trivial, hj.2⟩⟩⟩
        · have hj := hb.out.resolve_right (by simp)
          gi_wp2
          go_roundw
          case rel => exact ⟨k + 1, by omega, by go_num, by rw [← hnx.out]; exact hj.2.1, (hkc.trans (KC.of_fr0 F7)).trans hj.2.2⟩
          case measure => simp [intOf]; omega
    · obtain rfl : k = L.length := by omega
      have hall : (msZ L h).attach.take L.length = (msZ L h).attach := by
        rw [List.take_of_length_le]; unfold msZ; simp
      gi_wp2
      go_end0
      exact ⟨⟨_, rfl⟩, .inl ⟨_, rfl, by rw [← hall]; exact hJk⟩⟩
theorem mids_stops (n : Nat) (hn : 1 ≤ n) {Bl Bh Bc cap : Nat} {A : Option Addr} {L : List S25} {h : S25} {w : World} (hBl : w.cell? ⟨Bl, 0, none⟩ = some (.slice A L.length cap)) (hBh : AtS w Bh 0 h) (nl : Bl ≠ Bc) (nh : Bh ≠ Bc) (hC : Kd.C k25 w A L.length L) (hA : ∀ r off, A = some ⟨r, off, none⟩ → r ≠ Bc) (hc : L.length ≤ cap) (h0 : 0 < L.length) (h16 : L.length ≤ 16)
    (hl : ∀ s ∈ L, SpOk s) (hD : ∀ s ∈ L, DivOk (wideZ L).toNat 1024 (brZ s).toNat) (hB : Bc < w.heap.size) :
    SeqStopsK Fence.wide n Tryz.prog 106 #[.pointer (some ⟨Bl, 0, none⟩), .pointer (some ⟨Bh, 0, none⟩)] (fun x : MsT L h => #[.int .i64 x.1.1, .int .i64 x.1.2]) (KC Bc) (fun ys => ys = (msZ L h).attach) (fun _ => True) L.length w := fun l J Jx W hW hJ hJx hY hJ0 => by
  have f := Fr.of_below hW (Nat.le_refl _) (fun _ => False)
  refine mid1_in n hn J Jx W hJ hY ((f.cell (a := ⟨Bl, 0, none⟩) (World.block_lt_of_cell? w _ hBl) (fun h => h)).trans hBl) (hBh.fr f (fun h => h)) nl nh (Kd.C_below hC hW) hA hc h0 h16 hl hD (f.lt hB) hJ0
theorem middles_at {w : World} {A : Option Addr} {cap n : Nat} {h : S25} (n0 : Nat) :
    Calls Tryz.prog 58 #[.slice A n cap, vS h] w fun e w' => ∃ Bl Bh, e = .returned (.func (.func 106) #[] #[.pointer (some ⟨Bl, 0, none⟩), .pointer (some ⟨Bh, 0, none⟩)]) ∧ w.heap.size ≤ Bl ∧ w.heap.size ≤ Bh ∧ w'.cell? ⟨Bl, 0, none⟩ = some (.slice A n cap) ∧ AtS w' Bh 0 h ∧ Fr (fun _ => False) w w' := by
  go_enter Tryz.func58, Tryz.ntmps58
  go_wp2_with fail
  go_ret
  have b0 : Blk ((w.alloc (.cells #[.slice A n cap] 66)).alloc (.cells #[.int .i64 h.f0, .int .i64 h.f1, .int .i64 h.f2] 25)) w.heap.size #[.slice A n cap] 66 := by (repeat' (first | (with_reducible assumption) | (with_reducible apply Blk.drew) | (with_reducible apply Blk.drewN) | (with_reducible apply Blk.set) | (with_reducible apply Blk.other) | (exact Blk.new' _ _ _ (by first | rfl | (simp; done) | (simp; omega))) | (with_reducible apply Blk.alloc) | (with_reducible rfl) | (simp; done) | (simp; omega) | omega | rfl))
  have b1 : Blk ((w.alloc (.cells #[.slice A n cap] 66)).alloc (.cells #[.int .i64 h.f0, .int .i64 h.f1, .int .i64 h.f2] 25)) (w.heap.size + 1) #[.int .i64 h.f0, .int .i64 h.f1, .int .i64 h.f2] 25 := by (repeat' (first | (with_reducible assumption) | (with_reducible apply Blk.drew) | (with_reducible apply Blk.drewN) | (with_reducible apply Blk.set) | (with_reducible apply Blk.other) | (exact Blk.new' _ _ _ (by first | rfl | (simp; done) | (simp; omega))) | (with_reducible apply Blk.alloc) | (with_reducible rfl) | (simp; done) | (simp; omega) | omega | rfl))
  exact ⟨_, _, rfl, Nat.le_refl _, by omega, b0.cell 0, ⟨b1.cell 0, b1.cell 1, b1.cell 2⟩, by (repeat' (first | (with_reducible exact Fr.refl _ _) | (with_reducible assumption) | (with_reducible refine Fr.alloc ?_ _) | (with_reducible refine Fr.drew ?_) | (with_reducible refine Fr.drewN ?_ _) | (with_reducible refine Fr.setCell ?_ _ _ ?_) | (exact Or.inr rfl) | (left; simp; done) | (left; simp; omega) | (simp; done) | (simp; omega) | omega))⟩
def sumW {α : Type} (f : α → Int) (l : List α) : Int := l.foldl (fun s x => wrap64 (s + f x)) 0
theorem sumW_snoc {α : Type} (f : α → Int) (l : List α) (x : α) : sumW f (l ++ [x]) = wrap64 (sumW f l + f x) := by unfold sumW; rw [List.foldl_append]; rfl
theorem sumW_is {α : Type} (f : α → Int) (l : List α) (h : ∀ k, k ≤ l.length → -9223372036854775808 ≤ ((l.take k).map f).sum ∧ ((l.take k).map f).sum ≤ 9223372036854775807) : ∀ k, k ≤ l.length → sumW f (l.take k) = ((l.take k).map f).sum
  | 0, _ => by simp [sumW]
  | k + 1, hk => by
    have ih := sumW_is f l h k (by omega)
    have hb := h (k + 1) hk
    have hk' : k < l.length := by omega
    rw [List.take_add_one, List.getElem?_eq_getElem hk'] at hb ⊢
    simp only [Option.toList_some, List.map_append, List.map_cons, List.map_nil, List.sum_append, List.sum_cons, List.sum_nil, Int.add_zero] at hb ⊢
    rw [sumW_snoc, ih]
    exact IntWalk.wrap64_in _ (by omega)
theorem sumW_attach {L : List S25} {h : S25} (f : Int × Int → Int) (hb : ∀ k, k ≤ L.length → -9223372036854775808 ≤ (((msZ L h).take k).map f).sum ∧ (((msZ L h).take k).map f).sum ≤ 9223372036854775807) :
    sumW (fun x : MsT L h => f x.1) (msZ L h).attach = ((msZ L h).map f).sum := by
  have e : sumW (fun x : MsT L h => f x.1) (msZ L h).attach = sumW f (msZ L h) := by
    have : sumW f ((msZ L h).attach.map (·.1)) = sumW (fun x : MsT L h => f x.1) (msZ L h).attach := by
      unfold sumW; rw [List.foldl_map]
    rw [← this, List.attach_map_subtype_val]
  have hl : (msZ L h).length = L.length := by unfold msZ; simp
  have := sumW_is f (msZ L h) (fun k hk => hb k (by omega)) (msZ L h).length (Nat.le_refl _)
  rw [List.take_length] at this
  rw [e, this]
theorem KO.of_fr {W W' : World} (h : Fr (fun _ => False) W W') : KeepsOthers W W' := ⟨h.size, fun k o hk _ => (h.block k (Array.getElem?_eq_some_iff.1 hk).1 (fun h => h)).trans hk⟩
theorem boxed_new' {W : World} {B : Nat} {t : TypeId} {v : Value} (h : B = W.heap.size) : Boxed (W.alloc (.cells #[v] t)) B t v := by subst h; exact Boxed.new _ _ _
theorem boxed_fr {S : Nat → Prop} {W W' : World} {B : Nat} {t : TypeId} {v : Value} (h : Boxed W B t v) (k : Fr S W W') (hs : ¬ S B) : Boxed W' B t v := (k.block B h.lt hs).trans h
theorem KC.set {B : Nat} {W W' : World} (h : KC B W W') (v : Value) : KC B W (W'.setCell ⟨B, 0, none⟩ v) := h.trans (KC.of_fr ((Fr.refl (fun i => i = B) W').setCell _ _ (.inr rfl)))
set_option maxHeartbeats 4000000 in
theorem added_at {w : World} {Ml Mh cap fv : Nat} {caps : Array Value} {A : Option Addr} {L : List S25} {h : S25} (pf : Int × Int → Int)
    (hent : ∀ args w, (callFunc fv args).run Tryz.prog w = .ok (.enter fv args) w)
    (hpart : ∀ (x : MsT L h) (W : World), Below w.heap.size w W → Calls Tryz.prog fv (#[.int .i64 x.1.1, .int .i64 x.1.2] ++ caps) W fun e w' => ∃ er : Int, e = .returned (.tuple #[.int .i64 (pf x.1), .int .i64 er]) ∧ Fr (fun _ => False) W w')
    (hMl : w.cell? ⟨Ml, 0, none⟩ = some (.slice A L.length cap)) (hMh : AtS w Mh 0 h) (hC : Kd.C k25 w A L.length L) (hc : L.length ≤ cap) (h0 : 0 < L.length) (h16 : L.length ≤ 16)
    (hl : ∀ s ∈ L, SpOk s) (hD : ∀ s ∈ L, DivOk (wideZ L).toNat 1024 (brZ s).toNat)
    (hb : ∀ k, k ≤ L.length → -9223372036854775808 ≤ (((msZ L h).take k).map pf).sum ∧ (((msZ L h).take k).map pf).sum ≤ 9223372036854775807) :
    Calls Tryz.prog 59 #[.func (.func fv) #[] caps, .pointer (some ⟨Ml, 0, none⟩), .pointer (some ⟨Mh, 0, none⟩)] w fun e w' => e = .returned (.int .i64 ((msZ L h).map pf).sum) ∧ Fr (fun _ => False) w w' := by
  have HS := hidE (sumW_attach pf hb)
  have HMl := hidE hMl
  have HMh := hidE hMh
  have HC := hidE hC
  clear hb
  obtain ⟨r, off, rfl, hr, _⟩ := C25_open hC h0
  have m0 := World.block_lt_of_cell? w _ hMl
  have m1 := World.block_lt_of_cell? w _ hMh.1
  obtain ⟨c0, c1, c2⟩ := hMh
  refine (callsIn_wide (n := 6)).1 ?_
  refine callsIn_of_wp_marks Tryz.func59 rfl trivial ?_ rfl
  simp only [Tryz.ntmps59, List.size_toArray, List.length_cons, List.length_nil, Nat.reduceAdd, Nat.reduceSub, Array.replicate_succ, Array.replicate_zero, List.push_toArray, List.append_toArray, List.nil_append, List.cons_append]
  gi_wp2_with fail
  generalize hW : World.alloc (World.alloc w _) _ = W2
  obtain ⟨tF, bF⟩ : ∃ t, Boxed W2 w.heap.size t (.func (.func fv) #[] caps) := ⟨_, by subst hW; exact (Boxed.new w _ _).alloc _⟩
  obtain ⟨tS, bS⟩ : ∃ t, Boxed W2 (w.heap.size + 1) t (.int .i64 0) := ⟨_, by subst hW; exact boxed_new' (by simp)⟩
  have fW : Fr (fun _ => False) w W2 := by subst hW; (repeat' (first | (with_reducible exact Fr.refl _ _) | (with_reducible assumption) | (with_reducible refine Fr.alloc ?_ _) | (with_reducible refine Fr.drew ?_) | (with_reducible refine Fr.drewN ?_ _) | (with_reducible refine Fr.setCell ?_ _ _ ?_) | (exact Or.inr rfl) | (left; simp; done) | (left; simp; omega) | (simp; done) | (simp; omega) | omega))
  have hsz : W2.heap.size = w.heap.size + 2 := by subst hW; simp
  clear hW
  refine ⟨trivial, ?_⟩
  gi_at_call 58
  refine (callsIn_wide.2 (middles_at 0)).mono ?_
  rintro e W3 ⟨Bl, Bh, rfl, hBl, hBh, hcl, hch, k3⟩
  have F3 := fW.trans k3 (fun _ _ h => h)
  have bF3 := boxed_fr bF k3 (fun h => h)
  have bS3 := boxed_fr bS k3 (fun h => h)
  have hs3 := k3.size
  have HS3 := hidE (mids_stops 5 (by omega) (Bc := w.heap.size + 1) hcl hch (by omega) (by omega) (Kd.C_below HC.out F3.below) (fun r' off' e => by injection e with e; injection e with e1 e2; omega) hc h0 h16 hl hD (by omega))
  clear bF bS k3 c0 c1 c2 fW hl hD
  gi_wp2_with fail
  refine wpIn_rangeFunc_ownF (n := 6) (w := W3) rfl (by omega) (gf := 106) (lb := #[.pointer (some ⟨Bl, 0, none⟩), .pointer (some ⟨Bh, 0, none⟩)]) rfl trivial (enters_of Tryz.func106 (by kernel_rfl) rfl)
    HS3.out (fun h k => h.trans k) (fun W l o o' _ h ho _ => KC.putObj W l o o' h ho) (Below.refl _ _) (fun _ => rfl)
    (fun pre W => (Boxed W w.heap.size tF (.func (.func fv) #[] caps) ∧ Boxed W (w.heap.size + 1) tS (.int .i64 (sumW (fun x : MsT L h => pf x.1) pre))) ∧ Below w.heap.size w W)
    (fun _ _ _ => False)
    (OwnFrom.and (Own.from (fun s A B row hs hg hr => ⟨boxed_own (β := Unit) _ _ (fun _ => _) () A B row hs.1 hg hr, boxed_own (β := Unit) _ _ (fun _ => _) () A B row hs.2 hg hr⟩) _) (ownFrom_below (Nat.le_refl _) (by omega)))
    (fun _ _ _ _ _ hs _ _ => hs)
    ⟨⟨bF3, bS3⟩, F3.below⟩
    (fun x => { tmps := #[.func (.func fv) #[] caps, .pointer (some ⟨Ml, 0, none⟩), .pointer (some ⟨Mh, 0, none⟩), .pointer (some ⟨w.heap.size, 0, none⟩), .int .i64 0, .pointer (some ⟨w.heap.size + 1, 0, none⟩), .int .i64 x.1.1, .int .i64 x.1.2, undef, undef, .slice (some ⟨r, off, none⟩) L.length cap, .agg #[.int .i64 h.f0, .int .i64 h.f1, .int .i64 h.f2], .func (.func 106) #[] #[.pointer (some ⟨Bl, 0, none⟩), .pointer (some ⟨Bh, 0, none⟩)], .int .i64 x.1.1, .int .i64 x.1.2, undef, undef, undef, undef, undef, undef, undef, undef, undef, undef, undef], defers := [] }) ?assign ?body ?done ?stop
  case assign =>
    intro l x W K hK
    gi_wp2
    exact hK
  case body =>
    rintro l pre x W ⟨⟨hf, hs⟩, hB⟩ _
    have cf := hf.cell
    have HP := hidE (hpart x W hB)
    have hd : 1 ≤ 6 - 1 - 1 := by omega
    gi_wp2_with fail
    refine ⟨trivial, ?_⟩
    refine (CallsIn.inRound l (callsIn_wide.2 HP.out)).mono ?_
    rintro e W6 ⟨er, rfl, k6⟩
    have hf6 := boxed_fr hf k6 (fun h => h)
    have hs6 := boxed_fr hs k6 (fun h => h)
    have cs6 := hs6.cell
    have fz6 := hs6.frozen
    have lt6 := hs6.lt
    have hB6 : Below w.heap.size w W6 := hB.trans (k6.below.mono hB.size)
    clear HP
    gi_wp2
    exact ⟨(KO.of_fr k6).trans (KeepsOthers.setCell _ _ _), (KC.of_fr0 k6).set _, ⟨hf6.other (by omega) _, by rw [sumW_snoc]; exact hs6.set _⟩, hB6.setCell (p := ⟨w.heap.size + 1, 0, none⟩) (by simp) _⟩
  case done =>
    rintro D ys W hD rfl ⟨⟨hf, hs⟩, hB⟩ hK
    have cs := hs.cell
    gi_wp2
    refine ⟨by simp, .inl ⟨_, _, rfl, run_takeDeferred hK, ?_⟩⟩
    exact ⟨_, results_tmp rfl _ _ _, by rw [← HS.out]; rfl, Fr.of_below (hB.trans (belowK_b (n₀ := w.heap.size) (w := w) (Nat.le_refl _) W D _ _ (by omega) hK rfl rfl)) (Nat.le_refl _) _⟩
  case stop =>
    rintro D c pre W _ _ h _
    exact h.elim
end Go.Proofs.YtapagoaoglmegaaGreat
namespace Go.Proofs.YtapagoaoglmegaaGreat
open Go.RowKit Go.Shelf Go.Proofs.YtapagoaoglmegaaGreatW.PrintWords Go.Proofs.YtapagoaoglmegaaGreatW.PrintLast Go.Proofs.YtapagoaoglmegaaGreatW.PrintMore PCl
set_option linter.unusedVariables false
set_option linter.unusedSimpArgs false
set_option maxRecDepth 100000
theorem cdv_nat (p c : Nat) (hc : 0 < c) : p / c + (if 0 < p % c then 1 else 0) = (p + (c - 1)) / c := by
 have h := Nat.div_add_mod p c
 have hm := Nat.mod_lt p hc
 obtain ⟨q, hq⟩ : ∃ q, q = p / c := ⟨_, rfl⟩
 obtain ⟨r, hr⟩ : ∃ r, r = p % c := ⟨_, rfl⟩
 rw [← hq, ← hr] at h
 rw [← hr] at hm ⊢
 rw [← hq]
 by_cases h0 : 0 < r
 ·rw [if_pos h0]
  symm
  rw [Nat.div_eq_iff hc]
  have e : (q + 1) * c = c * q + c := by rw [Nat.add_mul, Nat.mul_comm]; omega
  rw [e]; omega
 ·rw [if_neg h0]
  symm
  rw [Nat.div_eq_iff hc]
  have e : (q + 0) * c = c * q := by rw [Nat.add_zero, Nat.mul_comm]
  rw [e]; omega
theorem quo_fit {a b c : Nat} (ha : a < 9223372036854775808) (hb : b ≤ c) (hc : 0 < c) (up : Bool) : quoZ a b c up = (((a * b / c + (if up = true ∧ 0 < a * b % c then 1 else 0) : Nat) : Int), 0) := by
 have h1 : a * b ≤ a * c := Nat.mul_le_mul_left a hb
 have h2 : a * c < 9223372036854775808 * c := Nat.mul_lt_mul_of_pos_right ha hc
 have h3 : ¬ c ≤ a * b / 18446744073709551616 := by
  intro h
  have := Nat.div_mul_le_self (a * b) 18446744073709551616
  have := Nat.mul_le_mul_right 18446744073709551616 h
  omega
 have h4 : a * b / c + (if up = true ∧ 0 < a * b % c then 1 else 0) ≤ a := by
  have h5 : a * b / c + (if 0 < a * b % c then 1 else 0) ≤ a := by
   rw [cdv_nat _ _ hc]
   apply Nat.lt_succ_iff.1
   rw [Nat.div_lt_iff_lt_mul hc, Nat.succ_mul]
   omega
  by_cases hu : up = true
  ·simpa [hu] using h5
  ·simp [hu]; omega
 unfold quoZ
 rw [if_neg h3, if_pos (by omega)]
theorem quo_dn {a b c : Int} (ha : 0 ≤ a ∧ a ≤ 4611686018427387904) (hb : 0 ≤ b ∧ b ≤ c) (hc : 0 < c) : quoZ a.toNat b.toNat c.toNat false = (a * b / c, 0) := by
 obtain ⟨A, rfl⟩ := Int.eq_ofNat_of_zero_le ha.1
 obtain ⟨B, rfl⟩ := Int.eq_ofNat_of_zero_le hb.1
 obtain ⟨C, rfl⟩ := Int.eq_ofNat_of_zero_le (show 0 ≤ c by omega)
 simp only [Int.toNat_natCast]
 rw [quo_fit (by omega) (by omega) (by omega)]
 simp
theorem quo_upp {a b c : Int} (ha : 0 ≤ a ∧ a ≤ 4611686018427387904) (hb : 0 ≤ b ∧ b ≤ c) (hc : 0 < c) : quoZ a.toNat b.toNat c.toNat true = (cdv (a * b) c, 0) := by
 obtain ⟨A, rfl⟩ := Int.eq_ofNat_of_zero_le ha.1
 obtain ⟨B, rfl⟩ := Int.eq_ofNat_of_zero_le hb.1
 obtain ⟨C, rfl⟩ := Int.eq_ofNat_of_zero_le (show 0 ≤ c by omega)
 simp only [Int.toNat_natCast]
 rw [quo_fit (by omega) (by omega) (by omega)]
 have e := cdv_nat (A * B) C (by omega)
 simp only [true_and]
 rw [e]
 unfold cdv
 congr 1
 have : (C : Int) - 1 = ((C - 1 : Nat) : Int) := by omega
 rw [this, Int.natCast_ediv, Int.natCast_add, Int.natCast_mul]
def pf2 (h : S25) (a : Int) (x : Int × Int) : Int := (x.1 - h.f1) * x.2 / a
def pf3 (m a : Int) (x : Int × Int) : Int := cdv (dist x.1 m * x.2) a
theorem part2_at {h : S25} {a : Int} {x : Int × Int} {Mh Ma : Nat} (hh : SpOk h) (hx : h.f1 ≤ x.1 ∧ x.1 ≤ h.f2) (hw : 0 ≤ x.2 ∧ x.2 ≤ a) (ha : 0 < a ∧ a ≤ 16777216) (hD : DivOk (x.1 - h.f1).toNat x.2.toNat a.toNat) {W : World} (hMh : AtS W Mh 0 h) (hMa : W.cell? ⟨Ma, 0, none⟩ = some (.int .i64 a)) :
  Calls Tryz.prog 60 (#[.int .i64 x.1, .int .i64 x.2] ++ #[.pointer (some ⟨Mh, 0, none⟩), .pointer (some ⟨Ma, 0, none⟩)]) W fun e w' => ∃ er : Int, e = .returned (.tuple #[.int .i64 (pf2 h a x), .int .i64 er]) ∧ Fr (fun _ => False) W w' := by
 have hh' := hh
 unfold SpOk Tm MT at hh'
 have HM := hidE (fun W => muldiv_at (a := (x.1 - h.f1).toNat) (b := x.2.toNat) (c := a.toNat) (by omega) (by omega) (by omega) (by omega) hD W)
 rw [quo_dn (by omega) hw ha.1] at HM
 rw [Int.toNat_of_nonneg (by omega), Int.toNat_of_nonneg hw.1, Int.toNat_of_nonneg (by omega)] at HM
 have e1 : IntKind.i64.wrap (x.1 - h.f1) = x.1 - h.f1 := IntWalk.i64_in _ (by omega)
 have e2 : wrap64 (x.1 - h.f1) = x.1 - h.f1 := IntWalk.wrap64_in _ (by omega)
 obtain ⟨c0, c1, c2⟩ := hMh
 clear hD hh hh'
 go_enter Tryz.func60, Tryz.ntmps60
 go_wp2_with fail
 refine (HM.out _).mono ?_
 rintro e w1 ⟨rfl, k1⟩
 go_wp2
 go_ret2
 exact ⟨_, rfl, k1⟩
theorem part3_at {h : S25} {m a : Int} {x : Int × Int} {Mm Ma : Nat} (hh : SpOk h) (hx : h.f1 ≤ x.1 ∧ x.1 ≤ h.f2) (hm : h.f1 ≤ m ∧ m ≤ h.f2) (hw : 0 ≤ x.2 ∧ x.2 ≤ a) (ha : 0 < a ∧ a ≤ 16777216) (hD : DivOk (dist x.1 m).toNat x.2.toNat a.toNat) {W : World} (hMm : W.cell? ⟨Mm, 0, none⟩ = some (.int .i64 m)) (hMa : W.cell? ⟨Ma, 0, none⟩ = some (.int .i64 a)) :
  Calls Tryz.prog 62 (#[.int .i64 x.1, .int .i64 x.2] ++ #[.pointer (some ⟨Mm, 0, none⟩), .pointer (some ⟨Ma, 0, none⟩)]) W fun e w' => ∃ er : Int, e = .returned (.tuple #[.int .i64 (pf3 m a x), .int .i64 er]) ∧ Fr (fun _ => False) W w' := by
 have hh' := hh
 unfold SpOk Tm MT at hh'
 have hd := dist_in (h := h) hx hm
 have HM := hidE (fun W => muldivup_at (a := (dist x.1 m).toNat) (b := x.2.toNat) (c := a.toNat) (by omega) (by omega) (by omega) (by omega) hD W)
 rw [quo_upp (by omega) hw ha.1] at HM
 rw [Int.toNat_of_nonneg hd.1, Int.toNat_of_nonneg hw.1, Int.toNat_of_nonneg (by omega)] at HM
 have HA : Hid (∀ W, Calls Tryz.prog 64 #[.int .i64 (x.1 - m)] W fun e w' => e = .returned (.int .i64 (dist x.1 m)) ∧ Fr (fun _ => False) W w') := hidE (fun W => abs_at (x.1 - m) (by omega) (by omega) W)
 have e1 : IntKind.i64.wrap (x.1 - m) = x.1 - m := IntWalk.i64_in _ (by omega)
 have e2 : wrap64 (x.1 - m) = x.1 - m := IntWalk.wrap64_in _ (by omega)
 have lm := World.block_lt_of_cell? W _ hMm
 have la := World.block_lt_of_cell? W _ hMa
 clear hD hh hh' hd
 go_enter Tryz.func62, Tryz.ntmps62
 go_wp2_with fail
 have msd : W.drew.cell? ⟨Mm, 0, none⟩ = some (.int .i64 m) ∧ W.drew.cell? ⟨Ma, 0, none⟩ = some (.int .i64 a) ∧ Fr (fun _ => False) W W.drew := ⟨hMm, hMa, Fr.drew (Fr.refl _ _)⟩
 refine start_ (n := 11) (S := fun w' => w'.cell? ⟨Mm, 0, none⟩ = some (.int .i64 m) ∧ w'.cell? ⟨Ma, 0, none⟩ = some (.int .i64 a) ∧ Fr (fun _ => False) W w') (ds := []) #[oN,oN,oN,oN,oN,oN,oN,oN,oN,oN,oN] (by kernel_rfl) rfl rfl ⟨msd.1, msd.2.1, msd.2.2⟩ (fun hHeld => ?_)
 refine pure_ (i := 0) (N := some 8) (v := ?_) (a' := ?_) #[oY,oN,oN,oN,oN,oN,oN,oN,oN,oN,oN] rfl rfl (by kernel_rfl) (fun _ _ _ h => h) (Or.inl ⟨by rfl, ?_⟩) ?_ ?_
 rotate_left
 ·intro w'
  go_simp
  with_reducible rfl
 rotate_left
 ·simp only [Act.put, List.setIfInBounds_toArray, List.set_cons_zero, List.set_cons_succ, i64_w, i32_w]
  rfl
 refine pure_ (i := 4) (N := some 12) (v := ?_) (a' := ?_) #[oY,oN,oN,oN,oY,oN,oN,oN,oN,oN,oN] rfl rfl (by kernel_rfl) (fun _ _ _ h => h) (Or.inl ⟨by rfl, ?_⟩) ?_ ?_
 rotate_left
 ·intro w'
  go_simp
  with_reducible rfl
 rotate_left
 ·simp only [Act.put, List.setIfInBounds_toArray, List.set_cons_zero, List.set_cons_succ, i64_w, i32_w]
  rfl
 refine take_ (i := 1) (N := some 9) (v := ?_) (a' := ?_) #[oY,oY,oN,oN,oY,oN,oN,oN,oN,oN,oN] rfl rfl (by kernel_rfl) (fun _ _ _ h => h) (Or.inl ⟨by rfl, ?_⟩) hHeld ?_ ?_
 rotate_left
 ·rintro w' ⟨s0, s1, s2⟩
  go_simp
  with_reducible rfl
 rotate_left
 ·simp only [Act.put, List.setIfInBounds_toArray, List.set_cons_zero, List.set_cons_succ, i64_w, i32_w]
  rfl
 refine pure_ (i := 2) (N := some 10) (v := ?_) (a' := ?_) #[oY,oY,oY,oN,oY,oN,oN,oN,oN,oN,oN] rfl rfl (by kernel_rfl) (fun _ _ _ h => h) (Or.inl ⟨by rfl, ?_⟩) ?_ ?_
 rotate_left
 ·intro w'
  go_simp
  with_reducible rfl
 rotate_left
 ·simp only [Act.put, List.setIfInBounds_toArray, List.set_cons_zero, List.set_cons_succ, i64_w, i32_w]
  rfl
 refine take_ (i := 5) (N := some 13) (v := ?_) (a' := ?_) #[oY,oY,oY,oN,oY,oY,oN,oN,oN,oN,oN] rfl rfl (by kernel_rfl) (fun _ _ _ h => h) (Or.inl ⟨by rfl, ?_⟩) hHeld ?_ ?_
 rotate_left
 ·rintro w' ⟨s0, s1, s2⟩
  go_simp
  with_reducible rfl
 rotate_left
 ·simp only [Act.put, List.setIfInBounds_toArray, List.set_cons_zero, List.set_cons_succ, i64_w, i32_w]
  rfl
 refine one_ (i := 3) (N := some 11) #[oY,oY,oY,oY,oY,oY,oN,oN,oN,oN,oN] rfl rfl (by kernel_rfl) (by decide) (fun K hK => ?_)
 refine goes_ Tryz.func64 (by kernel_rfl) rfl #[.int .i64 (x.1 - m)] (by rfl) rfl rfl (by simp only [List.map_toArray, List.map_cons, List.map_nil]; rfl) ?_
 refine (HA.out _).mono ?_
 rintro e w5 ⟨rfl, k5⟩
 refine ⟨_, rfl, ?_⟩
 have ms5 : w5.cell? ⟨Mm, 0, none⟩ = some (.int .i64 m) ∧ w5.cell? ⟨Ma, 0, none⟩ = some (.int .i64 a) ∧ Fr (fun _ => False) W w5 := ⟨(k5.cell (a := ⟨Mm, 0, none⟩) lm (fun h => h)).trans hMm, (k5.cell (a := ⟨Ma, 0, none⟩) la (fun h => h)).trans hMa, Fr.trans (Fr.drew (Fr.refl _ _)) k5 (fun _ _ h => h)⟩
 refine hK.out _ _ ⟨ms5.1, ms5.2.1, ms5.2.2⟩ (fun hHeld => ?_)
 clear hK K
 refine norm_ (a' := ?_) ?_ ?_
 rotate_left
 ·show Act.put _ (some 11) _ = _
  simp only [Act.put, List.setIfInBounds_toArray, List.set_cons_zero, List.set_cons_succ, i64_w, i32_w]
  rfl
 refine one_ (i := 6) (N := some 14) #[oY,oY,oY,oY,oY,oY,oY,oN,oN,oN,oN] rfl rfl (by kernel_rfl) (by decide) (fun K hK => ?_)
 refine goes_ Tryz.func63 (by kernel_rfl) rfl #[.int .i64 (dist x.1 m), .int .i64 x.2, .int .i64 a] (by rfl) rfl rfl (by simp only [List.map_toArray, List.map_cons, List.map_nil]; rfl) ?_
 refine (HM.out _).mono ?_
 rintro e w6 ⟨rfl, k6⟩
 refine ⟨_, rfl, ?_⟩
 have ms6 : w6.cell? ⟨Mm, 0, none⟩ = some (.int .i64 m) ∧ w6.cell? ⟨Ma, 0, none⟩ = some (.int .i64 a) ∧ Fr (fun _ => False) W w6 := ⟨(k6.cell (a := ⟨Mm, 0, none⟩) (ms5.2.2.lt lm) (fun h => h)).trans ms5.1, (k6.cell (a := ⟨Ma, 0, none⟩) (ms5.2.2.lt la) (fun h => h)).trans ms5.2.1, ms5.2.2.trans k6 (fun _ _ h => h)⟩
 refine hK.out _ _ ⟨ms6.1, ms6.2.1, ms6.2.2⟩ (fun hHeld => ?_)
 clear hK K
 refine norm_ (a' := ?_) ?_ ?_
 rotate_left
 ·show Act.put _ (some 14) _ = _
  simp only [Act.put, List.setIfInBounds_toArray, List.set_cons_zero, List.set_cons_succ, i64_w, i32_w]
  rfl
 refine pure_ (i := 7) (N := some 15) (v := ?_) (a' := ?_) #[oY,oY,oY,oY,oY,oY,oY,oY,oN,oN,oN] rfl rfl (by kernel_rfl) (fun _ _ _ h => h) (Or.inl ⟨by rfl, ?_⟩) ?_ ?_
 rotate_left
 ·intro w'
  go_simp
  with_reducible rfl
 rotate_left
 ·simp only [Act.put, List.setIfInBounds_toArray, List.set_cons_zero, List.set_cons_succ, i64_w, i32_w]
  rfl
 refine pure_ (i := 8) (N := some 16) (v := ?_) (a' := ?_) #[oY,oY,oY,oY,oY,oY,oY,oY,oY,oN,oN] rfl rfl (by kernel_rfl) (fun _ _ _ h => h) (Or.inl ⟨by rfl, ?_⟩) ?_ ?_
 rotate_left
 ·intro w'
  go_simp
  with_reducible rfl
 rotate_left
 ·simp only [Act.put, List.setIfInBounds_toArray, List.set_cons_zero, List.set_cons_succ, i64_w, i32_w]
  rfl
 refine pure_ (i := 9) (N := some 6) (v := ?_) (a' := ?_) #[oY,oY,oY,oY,oY,oY,oY,oY,oY,oY,oN] rfl rfl (by kernel_rfl) (fun _ _ _ h => h) (Or.inl ⟨by rfl, ?_⟩) ?_ ?_
 rotate_left
 ·intro w'
  go_simp
  with_reducible rfl
 rotate_left
 ·simp only [Act.put, List.setIfInBounds_toArray, List.set_cons_zero, List.set_cons_succ, i64_w, i32_w]
  rfl
 refine pure_ (i := 10) (N := some 7) (v := ?_) (a' := ?_) #[oY,oY,oY,oY,oY,oY,oY,oY,oY,oY,oY] rfl rfl (by kernel_rfl) (fun _ _ _ h => h) (Or.inl ⟨by rfl, ?_⟩) ?_ ?_
 rotate_left
 ·intro w'
  go_simp
  with_reducible rfl
 rotate_left
 ·simp only [Act.put, List.setIfInBounds_toArray, List.set_cons_zero, List.set_cons_succ, i64_w, i32_w]
  rfl
 refine done_ (by kernel_rfl) ?_
 go_wp2
 go_ret2
 exact ⟨_, rfl, hHeld.2.2⟩
end Go.Proofs.YtapagoaoglmegaaGreat
namespace Go.Proofs.YtapagoaoglmegaaGreat
open Go.RowKit Go.Shelf Go.Proofs.YtapagoaoglmegaaGreatW.PrintWords Go.Proofs.YtapagoaoglmegaaGreatW.PrintLast Go.Proofs.YtapagoaoglmegaaGreatW.PrintMore PCl
attribute [local go_sem] Oper.semAt_some
set_option linter.unusedVariables false
set_option linter.unusedSimpArgs false
set_option maxRecDepth 100000
theorem kc_own {β : Type} (B : Nat) (W0 : World) : Own (fun (_ : β) W => KC B W0 W) := fun s X Y row hs hg hrow => ⟨Nat.le_trans hs.1 hg.size, fun k o hk ho hn => by
  have hX := hs.2 k o hk ho hn
  refine (hg.block k (Array.getElem?_eq_some_iff.1 hX).1 (fun e => ?_)).trans hX
  obtain ⟨u, hu, hc⟩ := hrow k e.symm
  rw [hX] at hu; cases hu; rw [ho] at hc; cases hc⟩
theorem ms_all (L : List S25) (h : S25) : ((msZ L h).map (fun x => x.2)).sum = allZ L := by
  unfold msZ allZ wtsZ; rw [List.map_map]; rfl
theorem sum_nn {α : Type} (f : α → Int) : ∀ (l : List α), (∀ x ∈ l, 0 ≤ f x) → 0 ≤ (l.map f).sum ∧ ∀ k, 0 ≤ ((l.take k).map f).sum ∧ ((l.take k).map f).sum ≤ (l.map f).sum
  | [], _ => by simp
  | a :: l, h => by
    obtain ⟨h1, h2⟩ := sum_nn f l (fun x hx => h x (List.mem_cons_of_mem _ hx))
    have h3 := h a List.mem_cons_self
    refine ⟨by simp only [List.map_cons, List.sum_cons]; omega, fun k => ?_⟩
    cases k with
    | zero => simp only [List.take_zero, List.map_nil, List.sum_nil, List.map_cons, List.sum_cons]; omega
    | succ k =>
      have := h2 k
      simp only [List.take_succ_cons, List.map_cons, List.sum_cons]; omega
theorem ms_mem {L : List S25} {h : S25} {x : Int × Int} (hx : x ∈ msZ L h) : ∃ s ∈ L, x = (mdZ h s, wtZ (wideZ L) s) := by
  obtain ⟨s, hs, rfl⟩ := List.mem_map.1 hx
  exact ⟨s, hs, rfl⟩
theorem ms_part (L : List S25) (h : S25) : ((msZ L h).map (pf2 h (allZ L))).sum = (L.map (partZ L h)).sum := by
  unfold msZ; rw [List.map_map]; rfl
theorem ms_jit (L : List S25) (h : S25) : ((msZ L h).map (pf3 (meanZ L h) (allZ L))).sum = jitZ L h := by
  unfold msZ jitZ; rw [List.map_map]; rfl
theorem cdv_le (p n : Int) (hn : 0 < n) : cdv p n ≤ p / n + 1 := by
  unfold cdv
  have h1 : (p + (n - 1)) / n < p / n + 2 := by
    apply (Int.ediv_lt_iff_lt_mul hn).2
    have := Int.emod_lt_of_pos p hn
    have := Int.emod_add_mul_ediv p n
    rw [Int.add_mul, Int.mul_comm (p / n) n]
    omega
  omega
theorem jit_bd {L : List S25} {h : S25} (hl : ∀ s ∈ L, SpOk s) (hh : SpOk h) (h0 : 0 < L.length) : 0 ≤ jitZ L h ∧ jitZ L h ≤ h.f2 - h.f1 + L.length := by
  have hA := all_bd hl h0
  have hm := mean_in hl hh h0
  have h1 := (sum_nn (jpartZ L h (meanZ L h)) L (fun s hs => (jpart_in hl hh hm hs).1)).1
  refine ⟨h1, ?_⟩
  have h2 := sum_div (allZ L) (by omega) (fun s => dist (mdZ h s) (meanZ L h) * wtZ (wideZ L) s) L
  have h3 := sum_mul_le (h.f2 - h.f1) (fun s => dist (mdZ h s) (meanZ L h)) (wtZ (wideZ L)) L (fun s hs => ⟨by have := dist_in (md_in hh s) hm; exact this.2, by have := wt_in hl hs; omega⟩)
  have h4 : (L.map (fun s => dist (mdZ h s) (meanZ L h) * wtZ (wideZ L) s)).sum / allZ L ≤ h.f2 - h.f1 := by
    have e : (L.map (wtZ (wideZ L))).sum = allZ L := rfl
    rw [e] at h3
    have := Int.ediv_le_ediv (a := (L.map (fun s => dist (mdZ h s) (meanZ L h) * wtZ (wideZ L) s)).sum) (c := allZ L) (by omega) h3
    rw [Int.mul_ediv_cancel _ (by omega)] at this
    exact this
  have h5 : ∀ l : List S25, (l.map (jpartZ L h (meanZ L h))).sum ≤ (l.map (fun s => (dist (mdZ h s) (meanZ L h) * wtZ (wideZ L) s) / allZ L)).sum + l.length := by
    intro l
    induction l with
    | nil => simp
    | cons a l ih =>
      simp only [List.map_cons, List.sum_cons, List.length_cons]
      have := cdv_le (dist (mdZ h a) (meanZ L h) * wtZ (wideZ L) a) (allZ L) (by omega)
      unfold jpartZ at ih ⊢
      omega
  have h6 := h5 L
  unfold jitZ
  omega
theorem at_fr {w w' : World} {b i : Nat} {v : Value} (k : Below w.heap.size w w') (h : w.cell? ⟨b, i, none⟩ = some v) : w'.cell? ⟨b, i, none⟩ = some v :=
  ((Fr.of_below k (Nat.le_refl _) (fun _ => False)).cell (a := ⟨b, i, none⟩) (World.block_lt_of_cell? w _ h) (fun h => h)).trans h
def MeanQ (W : World) (M : Int) (A : Nat → Act) : Exit → Act → World → Prop
  | .normal, a', W' => ∃ Bm, a' = A Bm ∧ W.heap.size ≤ Bm ∧ W'.cell? ⟨Bm, 0, none⟩ = some (.int .i64 M) ∧ Fr (fun _ => False) W W'
  | _, _, _ => False
theorem MeanQ.out {W : World} {M : Int} {A : Nat → Act} {e : Exit} {a' : Act} {W' : World} (h : MeanQ W M A e a' W') :
    e = .normal ∧ ∃ Bm, a' = A Bm ∧ W.heap.size ≤ Bm ∧ W'.cell? ⟨Bm, 0, none⟩ = some (.int .i64 M) ∧ Fr (fun _ => False) W W' := by
  cases e with
  | normal => exact ⟨rfl, h⟩
  | _ => exact h.elim
set_option maxHeartbeats 8000000 in
theorem mean_at {w : World} {A : Option Addr} {cap : Nat} {L : List S25} {h : S25} (hC : Kd.C k25 w A L.length L) (hc : L.length ≤ cap) (h0 : 0 < L.length) (h16 : L.length ≤ 16) (hl : ∀ s ∈ L, SpOk s) (hh : SpOk h)
    (hD : ∀ s ∈ L, DivOk (wideZ L).toNat 1024 (brZ s).toNat) (hD2 : ∀ s ∈ L, DivOk (mdZ h s - h.f1).toNat (wtZ (wideZ L) s).toNat (allZ L).toNat) (hD3 : ∀ s ∈ L, DivOk (dist (mdZ h s) (meanZ L h)).toNat (wtZ (wideZ L) s).toNat (allZ L).toNat) :
    Calls Tryz.prog 28 #[.slice A L.length cap, vS h] w fun e w' => e = .returned (.tuple #[.int .i64 (meanZ L h), .int .i64 (jitZ L h), .int .i64 0]) ∧ Fr (fun _ => False) w w' := by
  have HC := hidE hC
  have HL := hidE hl
  have HH := hidE hh
  have HD1 := hidE hD
  have HD2 := hidE hD2
  have HD3 := hidE hD3
  obtain ⟨r, off, rfl, hr, _⟩ := C25_open hC h0
  have t0 : decide ((L.length : Int) > 16) = false := decide_eq_false (by omega)
  have t1 : ((L.length : Int) == 0) = false := beq_eq_false_iff_ne.2 (by omega)
  have t2 : decide (SpOk h) = true := decide_eq_true hh
  clear hC hl hD hD2 hD3
  refine (callsIn_wide (n := 8)).1 ?_
  refine callsIn_of_wp_marks Tryz.func28 rfl trivial ?_ rfl
  simp only [Tryz.ntmps28, List.size_toArray, List.length_cons, List.length_nil, Nat.reduceAdd, Nat.reduceSub, Array.replicate_succ, Array.replicate_zero, List.push_toArray, List.append_toArray, List.nil_append, List.cons_append]
  gi_wp2_with fail
  generalize hW : World.alloc (World.alloc w _) _ = W2
  have bL : Blk W2 w.heap.size #[.slice (some ⟨r, off, none⟩) L.length cap] 66 := by subst hW; (repeat' (first | (with_reducible assumption) | (with_reducible apply Blk.drew) | (with_reducible apply Blk.drewN) | (with_reducible apply Blk.set) | (with_reducible apply Blk.other) | (exact Blk.new' _ _ _ (by first | rfl | (simp; done) | (simp; omega))) | (with_reducible apply Blk.alloc) | (with_reducible rfl) | (simp; done) | (simp; omega) | omega | rfl))
  have bH : Blk W2 (w.heap.size + 1) #[.int .i64 h.f0, .int .i64 h.f1, .int .i64 h.f2] 25 := by subst hW; (repeat' (first | (with_reducible assumption) | (with_reducible apply Blk.drew) | (with_reducible apply Blk.drewN) | (with_reducible apply Blk.set) | (with_reducible apply Blk.other) | (exact Blk.new' _ _ _ (by first | rfl | (simp; done) | (simp; omega))) | (with_reducible apply Blk.alloc) | (with_reducible rfl) | (simp; done) | (simp; omega) | omega | rfl))
  have f2 : Fr (fun _ => False) w W2 := by subst hW; (repeat' (first | (with_reducible exact Fr.refl _ _) | (with_reducible assumption) | (with_reducible refine Fr.alloc ?_ _) | (with_reducible refine Fr.drew ?_) | (with_reducible refine Fr.drewN ?_ _) | (with_reducible refine Fr.setCell ?_ _ _ ?_) | (exact Or.inr rfl) | (left; simp; done) | (left; simp; omega) | (simp; done) | (simp; omega) | omega))
  have hs2 : W2.heap.size = w.heap.size + 2 := by subst hW; simp
  clear hW
  refine ⟨trivial, ?_⟩
  gi_at_call 57
  refine (callsIn_wide.2 (cmay_at (Kd.C_below HC.out f2.below) hc h0 HL.out)).mono ?_
  rintro e W3 ⟨rfl, k3⟩
  replace bL := bL.fr k3 (fun h => h)
  replace bH := bH.fr k3 (fun h => h)
  have f3 := f2.trans k3 (fun _ _ h => h)
  have c0 := bH.cell 0
  have c1 := bH.cell 1
  have c2 := bH.cell 2
  have c3 := bL.cell 0
  simp at c0 c1 c2 c3
  have l0 := bL.lt
  have l1 := bH.lt
  have hs3 := k3.size
  clear f2 k3
  gi_wp2_with fail
  refine ⟨trivial, ?_⟩
  gi_at_call 35
  refine (callsIn_wide.2 (spmay_at h W3)).mono ?_
  rw [t2]
  rintro e W4 ⟨rfl, k4⟩
  replace bL := bL.fr k4 (fun h => h)
  replace bH := bH.fr k4 (fun h => h)
  have f4 := f3.trans k4 (fun _ _ h => h)
  clear c0 c1 c2 c3 l0 l1
  have c0 := bH.cell 0
  have c1 := bH.cell 1
  have c2 := bH.cell 2
  have c3 := bL.cell 0
  simp at c0 c1 c2 c3
  have l0 := bL.lt
  have l1 := bH.lt
  have hs4 := k4.size
  clear f3 k4
  gi_wp2_with fail
  generalize hW : World.alloc W4 _ = W5
  obtain ⟨tA, bA⟩ : ∃ t, Boxed W5 W4.heap.size t (.int .i64 0) := ⟨_, by subst hW; exact Boxed.new _ _ _⟩
  have f5 : Fr (fun _ => False) W4 W5 := by subst hW; (repeat' (first | (with_reducible exact Fr.refl _ _) | (with_reducible assumption) | (with_reducible refine Fr.alloc ?_ _) | (with_reducible refine Fr.drew ?_) | (with_reducible refine Fr.drewN ?_ _) | (with_reducible refine Fr.setCell ?_ _ _ ?_) | (exact Or.inr rfl) | (left; simp; done) | (left; simp; omega) | (simp; done) | (simp; omega) | omega))
  have hs5 : W5.heap.size = W4.heap.size + 1 := by subst hW; simp
  clear hW
  refine ⟨trivial, ?_⟩
  gi_at_call 58
  refine (callsIn_wide.2 (middles_at 0)).mono ?_
  rintro e W6 ⟨Bl, Bh, rfl, hBl, hBh, hcl, hch, k6⟩
  replace bL := (bL.fr f5 (fun h => h)).fr k6 (fun h => h)
  replace bH := (bH.fr f5 (fun h => h)).fr k6 (fun h => h)
  have bA6 := boxed_fr bA k6 (fun h => h)
  have F6 := (f4.trans f5 (fun _ _ h => h)).trans k6 (fun _ _ h => h)
  have hs6 := k6.size
  have HS6 := hidE (mids_stops 7 (by omega) (Bc := W4.heap.size) hcl hch (by omega) (by omega) (Kd.C_below HC.out F6.below) (fun r' off' e => by injection e with e; injection e with e1 e2; omega) hc h0 h16 HL.out HD1.out (by omega))
  have BL := hidE bL
  have BH := hidE bH
  clear bA k6 f5 c0 c1 c2 c3 bL bH f4 hcl hch l0 l1
  gi_wp2_with fail
  refine wpIn_rangeFunc_ownF (n := 8) (w := W6) rfl (by omega) (gf := 106) (lb := #[.pointer (some ⟨Bl, 0, none⟩), .pointer (some ⟨Bh, 0, none⟩)]) rfl trivial (enters_of Tryz.func106 (by kernel_rfl) rfl)
    HS6.out (fun h k => h.trans k) (fun W l o o' _ h ho _ => KC.putObj W l o o' h ho) (Below.refl _ _) (fun _ => rfl)
    (fun pre W => (Boxed W W4.heap.size tA (.int .i64 (sumW (fun x : MsT L h => x.1.2) pre)) ∧ KC W4.heap.size W6 W) ∧ Below w.heap.size w W)
    (fun _ _ _ => False)
    (OwnFrom.and (Own.from (fun s A B row hs hg hr => ⟨boxed_own (β := Unit) _ _ (fun _ => _) () A B row hs.1 hg hr, kc_own (β := Unit) _ _ () A B row hs.2 hg hr⟩) _) (ownFrom_below (Nat.le_refl _) (by omega)))
    (fun _ _ _ _ _ hs _ _ => hs)
    ⟨⟨bA6, KC.refl _ _⟩, F6.below⟩
    (fun x => { tmps := #[.slice (some ⟨r, off, none⟩) L.length cap, vS h, .pointer (some ⟨w.heap.size, 0, none⟩), .pointer (some ⟨w.heap.size + 1, 0, none⟩), .int .i64 0, .int .i64 0, .int .i64 0, .pointer (some ⟨W4.heap.size, 0, none⟩), undef, .int .i64 x.1.2, undef, undef, undef, .bool false, .slice (some ⟨r, off, none⟩) L.length cap, .int .i64 (L.length : Int), .bool false, .bool false, .slice (some ⟨r, off, none⟩) L.length cap, .bool true, .bool false, .bool false, .bool false, .agg #[.int .i64 h.f0, .int .i64 h.f1, .int .i64 h.f2], .bool true, .bool false, .bool false, .bool false, .slice (some ⟨r, off, none⟩) L.length cap, .int .i64 (L.length : Int), .bool false, .slice (some ⟨r, off, none⟩) L.length cap, .agg #[.int .i64 h.f0, .int .i64 h.f1, .int .i64 h.f2], .func (.func 106) #[] #[.pointer (some ⟨Bl, 0, none⟩), .pointer (some ⟨Bh, 0, none⟩)], .int .i64 x.1.1, .int .i64 x.1.2, undef, undef, undef, undef, undef, undef, undef, undef, undef, undef, undef, undef, undef, undef, undef], defers := [] }) ?assign ?body ?done ?stop
  case assign =>
    intro l x W K hK
    gi_wp2
    exact hK
  case body =>
    rintro l pre x W ⟨⟨hs, hkc⟩, hB⟩ _
    have cs := hs.cell
    have fz := hs.frozen
    have lt := hs.lt
    gi_wp2
    exact ⟨KeepsOthers.setCell _ _ _, (KC.refl _ _).set _, ⟨by rw [sumW_snoc]; exact hs.set _, hkc.set _⟩, hB.setCell (p := ⟨W4.heap.size, 0, none⟩) (by simp; omega) _⟩
  case done =>
    rintro D ys W hD rfl ⟨⟨hs, hkc⟩, hB⟩ hK
    have hall : sumW (fun x : MsT L h => x.1.2) (msZ L h).attach = allZ L := by
      rw [sumW_attach (fun x => x.2) (fun k hk => ?_), ms_all]
      obtain ⟨q1, q2⟩ := (sum_nn (fun x : Int × Int => x.2) (msZ L h) (fun x hx => by obtain ⟨s, hs, rfl⟩ := ms_mem hx; have := wt_in HL.out hs; show 0 ≤ wtZ (wideZ L) s; omega)).2 k
      have := all_bd HL.out h0
      rw [ms_all] at q2
      omega
    rw [hall] at hs
    have hAl := all_bd HL.out h0
    have hme := mean_in HL.out hh h0
    have hjb := jit_bd HL.out hh h0
    have hS2 : h.f1 + ((msZ L h).map (pf2 h (allZ L))).sum = meanZ L h := by rw [ms_part]; rfl
    have hJ := ms_jit L h
    have hhb := hh
    unfold SpOk Tm MT at hhb
    have c3 := hkc.cell (BL.out.cell 0) (by omega)
    have c0 := hkc.cell (BH.out.cell 0) (by omega)
    have c1 := hkc.cell (BH.out.cell 1) (by omega)
    have c2 := hkc.cell (BH.out.cell 2) (by omega)
    have cA := hs.cell
    simp at c0 c1 c2 c3
    have FW : Fr (fun _ => False) w W := Fr.of_below hB (Nat.le_refl _) _
    have HX : Hid (∀ x : MsT L h, (h.f1 ≤ x.1.1 ∧ x.1.1 ≤ h.f2) ∧ (0 ≤ x.1.2 ∧ x.1.2 ≤ allZ L) ∧ DivOk (x.1.1 - h.f1).toNat x.1.2.toNat (allZ L).toNat ∧ DivOk (dist x.1.1 (meanZ L h)).toNat x.1.2.toNat (allZ L).toNat) := hidE (fun x => by
      obtain ⟨s, hs, e⟩ := ms_mem x.2
      rw [e]
      have := wt_in HL.out hs
      exact ⟨md_in hh s, ⟨by show 0 ≤ wtZ (wideZ L) s; omega, all_in HL.out hs⟩, HD2.out s hs, HD3.out s hs⟩)
    have HAdd : Hid (∀ W', Fr (fun _ => False) W W' → Calls Tryz.prog 59 #[.func (.func 60) #[] #[.pointer (some ⟨w.heap.size + 1, 0, none⟩), .pointer (some ⟨W4.heap.size, 0, none⟩)], .pointer (some ⟨w.heap.size, 0, none⟩), .pointer (some ⟨w.heap.size + 1, 0, none⟩)] W' fun e w' => e = .returned (.int .i64 ((msZ L h).map (pf2 h (allZ L))).sum) ∧ Fr (fun _ => False) W' w') := hidE (fun W' k => by
      have kb := k.below
      refine added_at (pf2 h (allZ L)) (enters_of Tryz.func60 (by kernel_rfl) rfl) (fun x W'' hb => ?_) (at_fr kb c3) ⟨at_fr kb c0, at_fr kb c1, at_fr kb c2⟩ (Kd.C_below HC.out (FW.trans k (fun _ _ h => h)).below) hc h0 h16 HL.out HD1.out (fun k hk => ?_)
      · obtain ⟨x1, x2, x3, _⟩ := HX.out x
        exact part2_at hh x1 x2 (by omega) x3 ⟨at_fr hb (at_fr kb c0), at_fr hb (at_fr kb c1), at_fr hb (at_fr kb c2)⟩ (at_fr hb (at_fr kb cA))
      · obtain ⟨q1, q2⟩ := (sum_nn (pf2 h (allZ L)) (msZ L h) (fun x hx => by obtain ⟨s, hs, rfl⟩ := ms_mem hx; exact (part_in HL.out hh hs).1)).2 k
        omega)
    have HAdd3 : Hid (∀ W' Bm, Fr (fun _ => False) W W' → W'.cell? ⟨Bm, 0, none⟩ = some (.int .i64 (meanZ L h)) → Calls Tryz.prog 59 #[.func (.func 62) #[] #[.pointer (some ⟨Bm, 0, none⟩), .pointer (some ⟨W4.heap.size, 0, none⟩)], .pointer (some ⟨w.heap.size, 0, none⟩), .pointer (some ⟨w.heap.size + 1, 0, none⟩)] W' fun e w' => e = .returned (.int .i64 (jitZ L h)) ∧ Fr (fun _ => False) W' w') := hidE (fun W' Bm k hBm => by
      have kb := k.below
      rw [← hJ]
      refine added_at (pf3 (meanZ L h) (allZ L)) (enters_of Tryz.func62 (by kernel_rfl) rfl) (fun x W'' hb => ?_) (at_fr kb c3) ⟨at_fr kb c0, at_fr kb c1, at_fr kb c2⟩ (Kd.C_below HC.out (FW.trans k (fun _ _ h => h)).below) hc h0 h16 HL.out HD1.out (fun k hk => ?_)
      · obtain ⟨x1, x2, _, x3⟩ := HX.out x
        exact part3_at hh x1 hme x2 (by omega) x3 (at_fr hb hBm) (at_fr hb (at_fr kb cA))
      · obtain ⟨q1, q2⟩ := (sum_nn (pf3 (meanZ L h) (allZ L)) (msZ L h) (fun x hx => by obtain ⟨s, hs, rfl⟩ := ms_mem hx; exact (jpart_in HL.out hh hme hs).1)).2 k
        rw [hJ] at q2
        omega)
    have l1 : w.heap.size + 1 < W.heap.size := World.block_lt_of_cell? W _ c1
    have HA1 : Hid (Calls Tryz.prog 59 #[.func (.func 60) #[] #[.pointer (some ⟨w.heap.size + 1, 0, none⟩), .pointer (some ⟨W4.heap.size, 0, none⟩)], .pointer (some ⟨w.heap.size, 0, none⟩), .pointer (some ⟨w.heap.size + 1, 0, none⟩)] (W.alloc (.cells #[.int .i64 0] 2)).drew fun e W8 => e = .returned (.int .i64 ((msZ L h).map (pf2 h (allZ L))).sum) ∧ W8.cell? ⟨w.heap.size + 1, 1, none⟩ = some (.int .i64 h.f1) ∧ Boxed W8 W.heap.size 2 (.int .i64 0) ∧ Fr (fun _ => False) W W8) := hidE (by
      have k0 : Fr (fun _ => False) W (W.alloc (.cells #[.int .i64 0] 2)).drew := ((Fr.refl _ W).alloc _).drew
      have b0 : Boxed (W.alloc (.cells #[.int .i64 0] 2)).drew W.heap.size 2 (.int .i64 0) := Boxed.new W _ _
      refine (HAdd.out _ k0).mono ?_
      rintro e W8 ⟨rfl, k8⟩
      have k := k0.trans k8 (fun _ _ h => h)
      exact ⟨rfl, at_fr k.below c1, boxed_fr b0 k8 (fun h => h), k⟩)
    have HA2 : Hid (Calls Tryz.prog 59 #[.func (.func 60) #[] #[.pointer (some ⟨w.heap.size + 1, 0, none⟩), .pointer (some ⟨W4.heap.size, 0, none⟩)], .pointer (some ⟨w.heap.size, 0, none⟩), .pointer (some ⟨w.heap.size + 1, 0, none⟩)] W.drew fun e W8 => e = .returned (.int .i64 ((msZ L h).map (pf2 h (allZ L))).sum) ∧ W8.cell? ⟨w.heap.size + 1, 1, none⟩ = some (.int .i64 h.f1) ∧ W.heap.size ≤ W8.heap.size ∧ Fr (fun _ => False) W W8) := hidE (by
      refine (HAdd.out _ (Fr.refl _ W).drew).mono ?_
      rintro e W8 ⟨rfl, k8⟩
      have k := (Fr.refl (fun _ => False) W).drew.trans k8 (fun _ _ h => h)
      exact ⟨rfl, at_fr k.below c1, k.size, k⟩)
    obtain ⟨S2, hS⟩ : ∃ S2, S2 = ((msZ L h).map (pf2 h (allZ L))).sum := ⟨_, rfl⟩
    rw [← hS] at HA1 HA2 hS2
    clear HAdd
    have e1 : IntKind.i64.wrap (h.f1 + S2) = meanZ L h := by rw [hS2]; exact IntWalk.i64_in _ (by omega)
    have e2 : wrap64 (h.f1 + S2) = meanZ L h := by rw [hS2]; exact IntWalk.wrap64_in _ (by omega)
    have HHK := hidE hK
    clear hall hs hkc hjb hJ hS hK hS2
    obtain ⟨M, hM⟩ : ∃ M, M = meanZ L h := ⟨_, rfl⟩
    rw [← hM] at e1 e2 HAdd3
    have HMe := hidE hM
    clear hM hme HX
    have hmx : Tryz.prog.follows .mixedOrders = true := by kernel_rfl
    gi_wp2_with fail
    refine wpIn_mono (Q := MeanQ W M (fun Bm => { tmps := #[.slice (some ⟨r, off, none⟩) L.length cap, vS h, .pointer (some ⟨w.heap.size, 0, none⟩), .pointer (some ⟨w.heap.size + 1, 0, none⟩), .int .i64 0, .int .i64 0, .int .i64 0, .pointer (some ⟨W4.heap.size, 0, none⟩), undef, undef, .func (.func 59) #[] #[.pointer (some ⟨w.heap.size, 0, none⟩), .pointer (some ⟨w.heap.size + 1, 0, none⟩)], .pointer (some ⟨Bm, 0, none⟩), undef, .bool false, .slice (some ⟨r, off, none⟩) L.length cap, .int .i64 (L.length : Int), .bool false, .bool false, .slice (some ⟨r, off, none⟩) L.length cap, .bool true, .bool false, .bool false, .bool false, .agg #[.int .i64 h.f0, .int .i64 h.f1, .int .i64 h.f2], .bool true, .bool false, .bool false, .bool false, .slice (some ⟨r, off, none⟩) L.length cap, .int .i64 (L.length : Int), .bool false, .slice (some ⟨r, off, none⟩) L.length cap, .agg #[.int .i64 h.f0, .int .i64 h.f1, .int .i64 h.f2], .func (.func 106) #[] #[.pointer (some ⟨Bl, 0, none⟩), .pointer (some ⟨Bh, 0, none⟩)], undef, undef, undef, undef, undef, .func (.func 59) #[] #[.pointer (some ⟨w.heap.size, 0, none⟩), .pointer (some ⟨w.heap.size + 1, 0, none⟩)], .pointer (some ⟨w.heap.size + 1, 1, none⟩), .int .i64 h.f1, .func (.func 59) #[] #[.pointer (some ⟨w.heap.size, 0, none⟩), .pointer (some ⟨w.heap.size + 1, 0, none⟩)], .func (.func 60) #[] #[.pointer (some ⟨w.heap.size + 1, 0, none⟩), .pointer (some ⟨W4.heap.size, 0, none⟩)], .int .i64 S2, .int .i64 M, undef, undef, undef, undef, undef], defers := [{ target := .collected D, args := #[] }] })) ?hh ?hq
    case hh =>
      gi_region_with_o (first
        | (refine ⟨trivial, ?_⟩; gi_at_call 59; refine (callsIn_wide.2 HA1.out).mono ?_; rintro e W8 ⟨rfl, c1', bx8, k8⟩; have m8 := bx8.cell; have z8 := bx8.frozen; have lt8 := bx8.lt)
        | (refine ⟨trivial, ?_⟩; gi_at_call 59; refine (callsIn_wide.2 HA2.out).mono ?_; rintro e W8 ⟨rfl, c1', s8, k8⟩; have l8 : w.heap.size + 1 < W8.heap.size := Nat.lt_of_lt_of_le l1 s8))
      all_goals first
        | exact ⟨W.heap.size, rfl, Nat.le_refl _, (bx8.set _).cell, k8.setCell ⟨W.heap.size, 0, none⟩ _ (.inl (Nat.le_refl _))⟩
        | exact ⟨W8.heap.size, rfl, s8, (boxed_new' (W := W8) rfl).cell, k8.alloc _⟩
    case hq =>
      intro e a' W7 hm
      obtain ⟨rfl, Bm, rfl, hBm, hcm, k7⟩ := hm.out
      have lm := World.block_lt_of_cell? W7 _ hcm
      clear hm HA1 HA2 e1 e2 hmx
      gi_wp2_with fail
      refine ⟨trivial, ?_⟩
      gi_at_call 59
      refine (callsIn_wide.2 (HAdd3.out W7 Bm k7 hcm)).mono ?_
      rintro e W9 ⟨rfl, k9⟩
      have cm := at_fr k9.below hcm
      have kk := k7.trans k9 (fun _ _ h => h)
      have hlD := (Array.getElem?_eq_some_iff.1 HHK.out).1
      have hK9 := (kk.block D hlD (fun h => h)).trans HHK.out
      clear HAdd3
      gi_wp2
      refine ⟨by simp, .inl ⟨_, _, rfl, run_takeDeferred hK9, ?_⟩⟩
      exact ⟨_, results_tmp3 rfl _ _ _, by rw [← HMe.out]; rfl, Fr.of_below ((FW.trans kk (fun _ _ h => h)).below.trans (belowK_b (n₀ := w.heap.size) (w := w) (Nat.le_refl _) W9 D _ _ (by omega) hK9 rfl rfl)) (Nat.le_refl _) _⟩
  case stop =>
    rintro D c pre W _ _ h _
    exact h.elim
end Go.Proofs.YtapagoaoglmegaaGreat
namespace Go.Proofs.YtapagoaoglmegaaGreat
open Go.RowKit Go.Proofs.YtapagoaoglmegaaGreatW.PrintWords Go.Proofs.YtapagoaoglmegaaGreatW.PrintLast Go.Proofs.YtapagoaoglmegaaGreatW.PrintMore PCl
set_option linter.unusedVariables false
set_option linter.unusedSimpArgs false
set_option maxRecDepth 100000
def RowS (t : TypeId) (w : World) (g cap : Nat) (L : List S25) : Prop :=
  ∃ cur : Array Value, Blk w g cur t ∧ cur.size = cap * 3 ∧ L.length ≤ cap ∧ ∀ i c, L[i]? = some c → ∀ j v, (encS c)[j]? = some v → cur[i * 3 + j]? = some v
section
variable {t : TypeId} {w w' : World} {g cap : Nat} {L : List S25}
theorem RowS.lt (h : RowS t w g cap L) : g < w.heap.size := by obtain ⟨cur, hb, _⟩ := h; exact hb.lt
theorem RowS.len (h : RowS t w g cap L) : L.length ≤ cap := by obtain ⟨cur, _, _, h, _⟩ := h; exact h
theorem RowS.fr {S : Nat → Prop} (h : RowS t w g cap L) (k : Fr S w w') (hs : ¬ S g) : RowS t w' g cap L := by
  obtain ⟨cur, hb, h1, h2, h3⟩ := h
  exact ⟨cur, hb.fr k hs, h1, h2, h3⟩
theorem RowS.drew (h : RowS t w g cap L) : RowS t w.drew g cap L := h
theorem RowS.ne {b : Nat} {cs : Array Value} {u : TypeId} (h : RowS t w g cap L) (k : Blk w b cs u) (e : t ≠ u) : g ≠ b := by
  rintro rfl
  obtain ⟨cur, hb, _⟩ := h
  exact e (hb.one k).2
theorem RowS.free (h : RowS t w g cap L) (o : Nat) : w.frozen? ⟨g, o, none⟩ = false := by
  obtain ⟨cur, hb, _⟩ := h; exact hb.free o
theorem RowS.there (h : RowS t w g cap L) {o : Nat} (ho : o < cap * 3) : ∃ v, w.cell? ⟨g, o, none⟩ = some v ∧ w.frozen? ⟨g, o, none⟩ = false := by
  obtain ⟨cur, hb, h1, h2, h3⟩ := h
  exact ⟨cur[o]'(by omega), by rw [hb.cell, Array.getElem?_eq_getElem (by omega)], hb.free o⟩
theorem RowS.take (h : RowS t w g cap L) (n : Nat) : RowS t w g cap (L.take n) := by
  obtain ⟨cur, hb, h1, h2, h3⟩ := h
  refine ⟨cur, hb, h1, by simp; omega, fun i c hi => h3 i c ?_⟩
  rw [List.getElem?_take] at hi
  split at hi
  · exact hi
  · cases hi
end
theorem RowS.toC {t : TypeId} {w : World} {g cap : Nat} {L : List S25} (h : RowS t w g cap L) (hm : cap ≤ maxLen) : Kd.C k25 w (some ⟨g, 0, none⟩) L.length L := by
  refine ⟨rfl, by have := h.len; unfold maxLen at hm; omega, fun _ => ⟨_, rfl, fun j p hj => ⟨encS p, rfl, k25_mk w p, fun i u hi => ?_⟩⟩⟩
  obtain ⟨cur, hb, h1, h2, h3⟩ := h
  rw [addE, Nat.zero_add]
  exact (hb.cell _).trans (h3 j p hj i u hi)
theorem RowS.of_R {w : World} {base : Nat} {ok : Nat → Prop} {v : Value} {xs : List S25} (h : Kd.R k25 25 w base ok v xs) :
    (v = .slice none 0 0 ∧ xs = []) ∨ ∃ g cap, v = .slice (some ⟨g, 0, none⟩) xs.length cap ∧ base ≤ g ∧ cap ≤ maxLen ∧ RowS 25 w g cap xs := by
  obtain ⟨h0, inner, ⟨hl, ho⟩, hr⟩ := h
  rcases ho with ⟨rfl, hn⟩ | ⟨g, cap, cur, rfl, hg, hh, hnc, hcm, hsz, hin⟩
  · exact .inl ⟨rfl, List.eq_nil_of_length_eq_zero hn⟩
  · refine .inr ⟨g, cap, rfl, hg, hcm, cur, hh, hsz, hnc, fun i c hi j v hj => ?_⟩
    have hk := hr.2 i c hi
    have he := k25_openM hk
    have hil := (List.getElem?_eq_some_iff.1 hi).1
    have hj5 : j < 3 := by have := (List.getElem?_eq_some_iff.1 hj).1; simpa [encS] using this
    have hsz5 : (k25 : Kd S25).sz = 3 := rfl
    rw [hsz5] at he hin
    have e1 : (List.take 3 (List.drop (i * 3) inner))[j]? = some v := by rw [he]; exact hj
    rw [List.getElem?_take_of_lt hj5, List.getElem?_drop, ← hin, List.getElem?_take_of_lt (by omega)] at e1
    simpa using e1
theorem RowS.to_R {w : World} {g cap : Nat} {L : List S25} (h : RowS 25 w g cap L) {base : Nat} (hb : base ≤ g) (hm : cap ≤ maxLen) : Kd.R k25 25 w base (fun _ => True) (.slice (some ⟨g, 0, none⟩) L.length cap) L := by
  obtain ⟨cur, hblk, h1, h2, h3⟩ := h
  refine ⟨fun _ _ => trivial, cur.toList.take (L.length * 3), ⟨?_, .inr ⟨g, cap, cur, rfl, hb, hblk, h2, hm, h1, rfl⟩⟩, ?_, fun j p hj => ?_⟩
  · have : (k25 : Kd S25).sz = 3 := rfl
    rw [this, List.length_take]; simp; omega
  · have : (k25 : Kd S25).sz = 3 := rfl
    rw [this, List.length_take]; simp; omega
  · have hsz5 : (k25 : Kd S25).sz = 3 := rfl
    rw [hsz5]
    have hjl := (List.getElem?_eq_some_iff.1 hj).1
    have e : List.take 3 (List.drop (j * 3) (List.take (L.length * 3) cur.toList)) = encS p := by
      apply List.ext_getElem?
      intro i
      by_cases hi : i < 3
      · rw [List.getElem?_take_of_lt hi, List.getElem?_drop, List.getElem?_take_of_lt (by omega)]
        obtain ⟨v, hv⟩ : ∃ v, (encS p)[i]? = some v := ⟨(encS p)[i]'(by simpa [encS] using hi), List.getElem?_eq_getElem _⟩
        rw [hv]
        simpa using h3 j p hj i v hv
      · rw [List.getElem?_eq_none (by simp; omega), List.getElem?_eq_none (by simp [encS]; omega)]
    rw [e]
    exact k25_mkM w base _ p
def flatS : List S25 → List Value
  | [] => []
  | c :: l => encS c ++ flatS l
theorem flatS_app : ∀ (L M : List S25), flatS (L ++ M) = flatS L ++ flatS M
  | [], M => rfl
  | c :: l, M => by simp [flatS, flatS_app l M]
theorem flatS_get : ∀ (L : List S25) (i j : Nat) (c : S25), L[i]? = some c → j < 3 → (flatS L)[i * 3 + j]? = (encS c)[j]?
  | [], i, j, c, h, _ => by simp at h
  | d :: l, 0, j, c, h, hj => by
    simp at h; subst h
    rw [flatS, Nat.zero_mul, Nat.zero_add, List.getElem?_append_left (by simpa [encS] using hj)]
  | d :: l, i + 1, j, c, h, hj => by
    have := flatS_get l i j c (by simpa using h) hj
    rw [flatS, List.getElem?_append_right (by simp [encS]; omega)]
    rw [← this]; congr 1; simp [encS]; omega
theorem flatS_one : ∀ (L : List S25), ∀ u ∈ flatS L, u.oneCell' = true
  | [], u, h => by cases h
  | c :: l, u, h => by
    rw [flatS] at h
    rcases List.mem_append.1 h with h | h
    · simp [encS] at h; rcases h with rfl | rfl | rfl <;> rfl
    · exact flatS_one l u h
theorem RowS.of_owns {t : TypeId} {w : World} {g cap n : Nat} {L : List S25} (h : w.ownsRow 0 t 3 (.slice (some ⟨g, 0, none⟩) n cap) n (flatS L)) (hn : n = L.length) : RowS t w g cap L ∧ cap ≤ maxLen := by
  subst hn
  rcases h.2 with ⟨e, _⟩ | ⟨g', cap', cur, e, _, hb, hnc, hcm, hsz, htk⟩
  · cases e
  · injection e with e1 e2 e3
    injection e1 with e1
    injection e1 with e1
    subst e1 e3
    refine ⟨⟨cur, hb, hsz, hnc, fun i c hi j v hj => ?_⟩, hcm⟩
    have hj3 : j < 3 := by have := (List.getElem?_eq_some_iff.1 hj).1; simpa [encS] using this
    have hil := (List.getElem?_eq_some_iff.1 hi).1
    have hf := flatS_get L i j c hi hj3
    rw [← htk, List.getElem?_take_of_lt (by omega), hj] at hf
    simpa using hf
theorem Blk.c3 {w : World} {b : Nat} {x y z : Value} {t : TypeId} (h : Blk w b #[x, y, z] t) : w.cell? ⟨b, 0, none⟩ = some x ∧ w.cell? ⟨b, 1, none⟩ = some y ∧ w.cell? ⟨b, 2, none⟩ = some z ∧ w.frozen? ⟨b, 0, none⟩ = false ∧ w.frozen? ⟨b, 1, none⟩ = false ∧ w.frozen? ⟨b, 2, none⟩ = false :=
  ⟨h.cell 0, h.cell 1, h.cell 2, h.free 0, h.free 1, h.free 2⟩
theorem infoS : (Tryz.prog.info? 25).map (fun i => (i.zero, i.size, i.bytes)) = some (some (.agg #[.int .i64 0, .int .i64 0, .int .i64 0]), 3, 24) := by kernel_rfl
def OwS (base : Nat) (w : World) (v : Value) (L : List S25) : Prop := w.ownsRow base 25 3 v L.length (flatS L)
theorem OwS.nil (base : Nat) (w : World) : OwS base w (.slice none 0 0) [] := ⟨rfl, .inl ⟨rfl, rfl⟩⟩
theorem OwS.fr {S : Nat → Prop} {base : Nat} {w w' : World} {v : Value} {L : List S25} (h : OwS base w v L) (k : Fr S w w') (hs : ∀ g, v.ownBlock = some g → ¬ S g) : OwS base w' v L := own_fr0 h k hs
theorem OwS.form {base : Nat} {w : World} {v : Value} {L : List S25} (h : OwS base w v L) :
    (v = .slice none 0 0 ∧ L = []) ∨ ∃ g cap, v = .slice (some ⟨g, 0, none⟩) L.length cap ∧ base ≤ g ∧ cap ≤ maxLen ∧ RowS 25 w g cap L := by
  rcases h.2 with ⟨rfl, e⟩ | ⟨g, cap, cur, rfl, hg, hb, hc, hm, hs, ht⟩
  · exact .inl ⟨rfl, List.eq_nil_of_length_eq_zero e⟩
  · exact .inr ⟨g, cap, rfl, hg, hm, (RowS.of_owns (n := L.length) ⟨h.1, .inr ⟨g, cap, cur, rfl, Nat.zero_le _, hb, hc, hm, hs, ht⟩⟩ rfl).1⟩
theorem OwS.C {base : Nat} {w : World} {v : Value} {L : List S25} (h : OwS base w v L) : ∃ A cap, v = .slice A L.length cap ∧ L.length ≤ cap ∧ Kd.C k25 w A L.length L := by
  rcases h.form with ⟨rfl, rfl⟩ | ⟨g, cap, rfl, _, hm, hr⟩
  · exact ⟨none, 0, rfl, Nat.le_refl _, ⟨rfl, by simp, fun h => absurd h (by simp)⟩⟩
  · exact ⟨_, cap, rfl, hr.len, hr.toC hm⟩
theorem OwS.R {base : Nat} {w : World} {v : Value} {L : List S25} (h : OwS base w v L) : Kd.R k25 25 w base (fun _ => True) v L := by
  rcases h.form with ⟨rfl, rfl⟩ | ⟨g, cap, rfl, hg, hm, hr⟩
  · exact Kd.R_nil _ _ _ _ _
  · exact hr.to_R hg hm
end Go.Proofs.YtapagoaoglmegaaGreat
namespace Go.Proofs.YtapagoaoglmegaaGreat
open Go.RowKit Go.Shelf Go.Proofs.YtapagoaoglmegaaGreatW.PrintWords Go.Proofs.YtapagoaoglmegaaGreatW.PrintLast Go.Proofs.YtapagoaoglmegaaGreatW.PrintMore PCl
attribute [local go_sem] Oper.semAt_some
set_option linter.unusedVariables false
set_option linter.unusedSimpArgs false
set_option maxRecDepth 100000
@[reducible] def vC (c : S27) : Value := .agg #[.int .i64 c.f0, .int .i64 c.f1.f0, .int .i64 c.f1.f1, .int .i64 c.f1.f2, .int .i64 c.f2]
theorem ofs_at (c : S27) (W : World) : Calls Tryz.prog 48 #[vC c] W fun e w' => e = .returned (vS c.f1) ∧ Fr (fun _ => False) W w' := by
  go_enter Tryz.func48, Tryz.ntmps48
  go_wp2
  refine bodyPost_ret (v := vS c.f1) ?_ rfl ?_
  · simp [results, Tryz.f48, go_sem]
    trace_state
  · exact ⟨rfl, by (repeat' (first | (with_reducible exact Fr.refl _ _) | (with_reducible assumption) | (with_reducible refine Fr.alloc ?_ _) | (with_reducible refine Fr.drew ?_) | (with_reducible refine Fr.drewN ?_ _) | (with_reducible refine Fr.setCell ?_ _ _ ?_) | (exact Or.inr rfl) | (left; simp; done) | (left; simp; omega) | (simp; done) | (simp; omega) | omega))⟩
theorem eachs_at {w : World} {A : Option Addr} {cap n : Nat} :
    Calls Tryz.prog 47 #[.slice A n cap, .func (.func 48) #[] #[]] w fun e w' => ∃ Bl Bo, e = .returned (.func (.func 99) #[] #[.pointer (some ⟨Bl, 0, none⟩), .pointer (some ⟨Bo, 0, none⟩)]) ∧ Bl < w'.heap.size ∧ Bo < w'.heap.size ∧ w'.cell? ⟨Bl, 0, none⟩ = some (.slice A n cap) ∧ w'.cell? ⟨Bo, 0, none⟩ = some (.func (.func 48) #[] #[]) ∧ Fr (fun _ => False) w w' := by
  go_enter Tryz.func47, Tryz.ntmps47
  go_wp2_with fail
  generalize hW : World.alloc (World.alloc w _) _ = W2
  obtain ⟨t1, b1⟩ : ∃ t, Boxed W2 w.heap.size t (.slice A n cap) := ⟨_, by subst hW; exact (Boxed.new w _ _).alloc _⟩
  obtain ⟨t2, b2⟩ : ∃ t, Boxed W2 (w.heap.size + 1) t (.func (.func 48) #[] #[]) := ⟨_, by subst hW; exact boxed_new' (by simp)⟩
  have f2 : Fr (fun _ => False) w W2 := by subst hW; (repeat' (first | (with_reducible exact Fr.refl _ _) | (with_reducible assumption) | (with_reducible refine Fr.alloc ?_ _) | (with_reducible refine Fr.drew ?_) | (with_reducible refine Fr.drewN ?_ _) | (with_reducible refine Fr.setCell ?_ _ _ ?_) | (exact Or.inr rfl) | (left; simp; done) | (left; simp; omega) | (simp; done) | (simp; omega) | omega))
  clear hW
  go_ret
  exact ⟨_, _, rfl, b1.lt, b2.lt, b1.cell, b2.cell, f2⟩
set_option maxHeartbeats 4000000 in
theorem eachs1_in (n : Nat) (hn : 1 ≤ n) {l Bl Bo n₀ cap : Nat} {A : Option Addr} {L : List S27} (J Jx : List S25 → World → Prop) (W : World) (hJ : AbidesFrom W.heap.size J)
    (hY : ∀ pre (x : S25) W1, J pre W1 → pre.length < L.length → YieldAt Fence.wide (n - 1) Tryz.prog l #[vS x] W1 fun e W' => (e = .returned (.bool true) ∧ J (pre ++ [x]) W' ∧ Below n₀ W1 W') ∨ (e = .returned (.bool false) ∧ Jx (pre ++ [x]) W'))
    (hBl : W.cell? ⟨Bl, 0, none⟩ = some (.slice A L.length cap)) (hBo : W.cell? ⟨Bo, 0, none⟩ = some (.func (.func 48) #[] #[])) (no : Bo < n₀) (hC : Kd.C k27 W A L.length L) (hA : 0 < L.length → ∀ r off, A = some ⟨r, off, none⟩ → r < n₀) (hn0 : n₀ ≤ W.heap.size) (hJ0 : J [] W) :
    CallsIn Fence.wide n Tryz.prog 99 #[.func (.yield l) #[] #[], .pointer (some ⟨Bl, 0, none⟩), .pointer (some ⟨Bo, 0, none⟩)] W fun e W' => (∃ v, e = .returned v) ∧ ((∃ ys, ys = L.map (fun c => c.f1) ∧ J ys W') ∨ ∃ pre, True ∧ Jx pre W') := by
  have HC := hidE hC
  have HBo := hidE hBo
  have hlen := C27_nil hC
  clear hC hBo
  refine callsIn_of_wp Tryz.func99 rfl trivial ?_ rfl
  simp only [Tryz.ntmps99, List.size_toArray, List.length_cons, List.length_nil, Nat.reduceAdd, Nat.reduceSub, Array.replicate_succ, Array.replicate_zero, List.push_toArray, List.append_toArray, List.nil_append, List.cons_append]
  gi_wp2_with fail
  gi_loopw [8] (fun v8 wr => ∃ k : Nat, k ≤ L.length ∧ v8 = .int .i64 (k : Int) ∧ J ((L.map (fun c => c.f1)).take k) wr ∧ Below n₀ W wr) (fun v8 _ => L.length - (intOf v8).toNat)
  case atStart => exact ⟨0, Nat.zero_le _, rfl, by simpa using hJ0, Below.refl _ _⟩
  case round =>
    clear hJ0
    obtain ⟨k, hk, rfl, hJk, hkc⟩ := hrel
    by_cases hlt : k < L.length
    · obtain ⟨r, off, rfl, hr, hat⟩ := C27_open HC.out (by omega)
      obtain ⟨c, hcs⟩ : ∃ c, L[k]? = some c := ⟨_, List.getElem?_eq_getElem hlt⟩
      obtain ⟨a0, a1, a2, a3, a4⟩ := hat k c hcs
      have hrn := hA (by omega) r off rfl
      replace a0 := (hkc.cell (p := ⟨r, off + k * 5, none⟩) hrn).trans a0
      replace a1 := (hkc.cell (p := ⟨r, off + k * 5 + 1, none⟩) hrn).trans a1
      replace a2 := (hkc.cell (p := ⟨r, off + k * 5 + 2, none⟩) hrn).trans a2
      replace a3 := (hkc.cell (p := ⟨r, off + k * 5 + 3, none⟩) hrn).trans a3
      replace a4 := (hkc.cell (p := ⟨r, off + k * 5 + 4, none⟩) hrn).trans a4
      have d0 := (hkc.cell (p := ⟨Bo, 0, none⟩) no).trans HBo.out
      have t1 : (k : Int) < (L.length : Int) := by omega
      have hln : ((L.map (fun c => c.f1)).take k).length < L.length := by rw [List.length_take]; simp; omega
      have lo := World.block_lt_of_cell? wr _ d0
      have hnx : Hid ((L.map (fun c => c.f1)).take k ++ [c.f1] = (L.map (fun c => c.f1)).take (k + 1)) := hidE (by rw [List.take_add_one, List.getElem?_map, hcs]; rfl)
      clear hat hcs
      gi_wp2_with fail
      generalize hW : World.alloc wr _ = W5
      have f5 : Fr (fun _ => False) wr W5 := by subst hW; (repeat' (first | (with_reducible exact Fr.refl _ _) | (with_reducible assumption) | (with_reducible refine Fr.alloc ?_ _) | (with_reducible refine Fr.drew ?_) | (with_reducible refine Fr.drewN ?_ _) | (with_reducible refine Fr.setCell ?_ _ _ ?_) | (exact Or.inr rfl) | (left; simp; done) | (left; simp; omega) | (simp; done) | (simp; omega) | omega))
      clear hW a0 a1 a2 a3 a4 d0
      refine ⟨trivial, ?_⟩
      gi_at_call 48
      refine (callsIn_wide.2 (ofs_at c W5)).mono ?_
      rintro e W6 ⟨rfl, k6⟩
      have F6 := f5.trans k6 (fun _ _ h => h)
      have hJ6 := hJ _ wr W6 none hJk F6.grow (fun r e => by cases e)
      obtain ⟨fn, tmps, assign, body, hy, hR⟩ := hY _ c.f1 W6 hJ6 hln
      gi_wp2_with fail
      refine hR.mono ?_
      rintro e W7 (⟨rfl, hJ7, hk7⟩ | ⟨rfl, hx7⟩)
      · have hB7 : Below n₀ W W7 := (hkc.trans (F6.below.mono (Nat.le_trans hn0 hkc.size))).trans hk7
        gi_wp2
        go_roundw
        case rel => exact ⟨k + 1, by omega, by go_num, by rw [← hnx.out]; exact hJ7, hB7⟩
        case measure => simp [intOf]; omega
      · gi_wp2
        refine bodyPost_ret (results_none rfl _ _ _) rfl ?_
        exact ⟨⟨_, rfl⟩, .inr ⟨_, by first | exact hx7 | exact ⟨trivial, hx7⟩⟩⟩
    · obtain rfl : k = L.length := by omega
      have hall : (L.map (fun c => c.f1)).take L.length = L.map (fun c => c.f1) := by
        rw [List.take_of_length_le]; simp
      gi_wp2
      go_end0
      exact ⟨⟨_, rfl⟩, .inl ⟨_, rfl, by rw [← hall]; exact hJk⟩⟩
theorem eachs_stops (n : Nat) (hn : 1 ≤ n) {Bl Bo cap : Nat} {A : Option Addr} {L : List S27} {w : World} (hBl : w.cell? ⟨Bl, 0, none⟩ = some (.slice A L.length cap)) (hBo : w.cell? ⟨Bo, 0, none⟩ = some (.func (.func 48) #[] #[])) (hC : Kd.C k27 w A L.length L) :
    SeqStopsK Fence.wide n Tryz.prog 99 #[.pointer (some ⟨Bl, 0, none⟩), .pointer (some ⟨Bo, 0, none⟩)] (fun x : S25 => #[vS x]) (Below w.heap.size) (fun ys => ys = L.map (fun c => c.f1)) (fun _ => True) L.length w := fun l J Jx W hW hJ hJx hY hJ0 => by
  have f := Fr.of_below hW (Nat.le_refl _) (fun _ => False)
  refine eachs1_in n hn J Jx W hJ hY ((f.cell (a := ⟨Bl, 0, none⟩) (World.block_lt_of_cell? w _ hBl) (fun h => h)).trans hBl) ((f.cell (a := ⟨Bo, 0, none⟩) (World.block_lt_of_cell? w _ hBo) (fun h => h)).trans hBo) (World.block_lt_of_cell? w _ hBo) (Kd.C_below hC hW) (fun h0 r off e => ?_) f.size hJ0
  subst e
  obtain ⟨r', off', e, hr, _⟩ := C27_open hC h0
  injection e with e
  injection e with e1 e2
  omega
theorem blk_own {β : Type} (Bx : Nat) (cs : Array Value) (t : TypeId) : Own (fun (_ : β) W => Blk W Bx cs t) := fun s X Y row hs hg hrow => by
  refine (hg.block Bx hs.lt (fun e => ?_)).trans hs
  obtain ⟨u, hu, hc⟩ := hrow Bx e.symm
  rw [show X.heap[Bx]? = _ from hs] at hu; cases hu; cases hc
theorem spcell (W : World) (x : S25) : ∀ j u, (encS x)[j]? = some u → (W.alloc (.cells #[.int .i64 x.f0, .int .i64 x.f1, .int .i64 x.f2] 25)).cell? ((⟨W.heap.size, 0, none⟩ : Addr).add j) = some u := by
  intro j u hj
  rw [addE, Nat.zero_add, (Blk.new W #[.int .i64 x.f0, .int .i64 x.f1, .int .i64 x.f2] 25).cell]
  match j, hj with
  | 0, hj => exact hj
  | 1, hj => exact hj
  | 2, hj => exact hj
  | j + 3, hj => simp [encS] at hj
theorem encS_one (x : S25) : ∀ u ∈ encS x, u.oneCell' = true := fun u hu => flatS_one [x] u (by simpa [flatS] using hu)
set_option maxHeartbeats 4000000 in
theorem appseqs_at {w : World} {gf N : Nat} {lb : Array Value} {ys : List S25} (hent : ∀ args w, (callFunc gf args).run Tryz.prog w = .ok (.enter gf args) w) (hN : N ≤ 16) (hlen : ys.length ≤ 16)
    (hseq : SeqStopsK Fence.wide 5 Tryz.prog gf lb (fun x : S25 => #[vS x]) (Below w.heap.size) (fun l => l = ys) (fun _ => True) N w) :
    Calls Tryz.prog 98 #[.slice none 0 0, .func (.func gf) #[] lb] w fun e w' => ∃ v, e = .returned v ∧ OwS w.heap.size w' v ys ∧ Fr (fun _ => False) w w' := by
  refine (callsIn_wide (n := 6)).1 ?_
  refine callsIn_of_wp_marks Tryz.func98 rfl trivial ?_ rfl
  simp only [Tryz.ntmps98, List.size_toArray, List.length_cons, List.length_nil, Nat.reduceAdd, Nat.reduceSub, Array.replicate_succ, Array.replicate_zero, List.push_toArray, List.append_toArray, List.nil_append, List.cons_append]
  obtain ⟨i0, hi0, hz0, hsz0, hby0⟩ : ∃ i0, Tryz.prog.info? 25 = some i0 ∧ i0.zero = some (.agg #[.int .i64 0, .int .i64 0, .int .i64 0]) ∧ i0.size = 3 ∧ i0.bytes = 24 := by
    obtain ⟨i0, h1, h2⟩ := Option.map_eq_some_iff.1 infoS
    simp only [Prod.mk.injEq] at h2
    exact ⟨i0, h1, h2.1, h2.2.1, h2.2.2⟩
  gi_wp2_with fail
  generalize hW : World.alloc w _ = W2
  have bS : Boxed W2 w.heap.size 66 (.slice none 0 0) := by subst hW; exact Boxed.new _ _ _
  have f2 : Fr (fun _ => False) w W2 := by subst hW; (repeat' (first | (with_reducible exact Fr.refl _ _) | (with_reducible assumption) | (with_reducible refine Fr.alloc ?_ _) | (with_reducible refine Fr.drew ?_) | (with_reducible refine Fr.drewN ?_ _) | (with_reducible refine Fr.setCell ?_ _ _ ?_) | (exact Or.inr rfl) | (left; simp; done) | (left; simp; omega) | (simp; done) | (simp; omega) | omega))
  have hs2 : W2.heap.size = w.heap.size + 1 := by subst hW; simp
  clear hW
  refine wpIn_rangeFunc_ownH (n := 6) (w := W2) rfl (by omega) (gf := gf) (lb := lb) rfl trivial hent hseq belowK_t (belowK_b (by omega)) f2.below (fun _ => rfl)
    (fun pre W => (∃ v, Boxed W w.heap.size 66 v ∧ W.ownsRow w.heap.size 25 3 v pre.length (flatS pre) ∧ True) ∧ Below w.heap.size w W)
    (fun _ _ _ => False)
    (OwnFrom.and (Own.from (holdsRow_own _ _ _ _ _ (fun pre : List S25 => pre.length) flatS (fun _ _ => True)) _) (ownFrom_below (Nat.le_refl _) (by omega)))
    (fun _ _ _ _ _ hs _ _ => hs)
    ⟨⟨_, bS, World.ownsRow_nil _ _ _ _, trivial⟩, f2.below⟩
    (fun x a' W => ∃ Bx, w.heap.size < Bx ∧ Blk W Bx #[.int .i64 x.f0, .int .i64 x.f1, .int .i64 x.f2] 25 ∧ a' = { tmps := #[.slice none 0 0, .func (.func gf) #[] lb, .pointer (some ⟨w.heap.size, 0, none⟩), undef, .slice none 0 0, .pointer (some ⟨Bx, 0, none⟩), .func (.func gf) #[] lb, vS x, undef, undef, undef, undef, undef], defers := [] })
    (fun x a' => Own.from (fun s X Y row ⟨Bx, h1, h2, h3⟩ hg hr => ⟨Bx, h1, blk_own (β := Unit) Bx _ _ () X Y row h2 hg hr, h3⟩) _) ?assign ?body ?done ?stop
  case assign =>
    rintro l pre x W K ⟨⟨v, hv, hrow, _⟩, hB⟩ hK
    have hsz := hB.size
    gi_wp2
    exact hK _ _ ((KeepsOthers.alloc _ _).from _) ((Below.refl _ W).alloc hB.size _) ⟨⟨v, hv.alloc _, hrow.alloc _, trivial⟩, hB.alloc hB.size _⟩ ⟨W.heap.size, hv.lt, Blk.new W _ _, rfl⟩
  case body =>
    rintro l pre x a' W hl ⟨rc, hrc⟩ ⟨⟨v, hv, hrow, _⟩, hB⟩ ⟨Bx, hBx, bX, rfl⟩ hlt
    have cv := hv.cell
    have x0 := bX.cell 0
    have x1 := bX.cell 1
    have x2 := bX.cell 2
    simp at x0 x1 x2
    have lX := bX.lt
    have lv := hv.lt
    have hsz := hB.size
    have hcl := spcell W x
    have h1c := encS_one x
    have b1 : pre.length + 1 ≤ maxLen := by unfold maxLen; omega
    have b2 : (pre.length + 1) * 24 ≤ 140737488355328 := by omega
    have b3 : w.heap.size ≤ (W.alloc (.cells #[.int .i64 x.f0, .int .i64 x.f1, .int .i64 x.f2] 25)).heap.size := by simp; omega
    have hne : (66 : TypeId) ≠ 25 := by decide
    have h30 : 0 < 3 := by decide
    gi_wp2_with (gi_at_builtin; refine wpListIn_append_own _ rfl _ _ 66 rfl w.heap.size 25 i0 _ 3 24 Tryz.underlying66 hi0 hz0 hsz0 hby0 rfl h30 v pre.length (flatS pre) rfl (hrow.alloc _) ⟨W.heap.size, 0, none⟩ 1 1 (encS x) rfl rfl hcl h1c b1 b2 b3 ?_; intro v' w1 hown' hgrow _; obtain ⟨g', cap', rfl⟩ := ownsRow_succ hown'; obtain ⟨hv1, hv2, hr2, hk2, hb2⟩ := hv.appended hne hrow hB.size (Nat.le_refl _) hown' hgrow; have hc1 := hv1.cell; have hf1 := hv1.frozen)
    exact ⟨hk2.from _, hb2, ⟨⟨_, hv2, by rw [List.length_append, flatS_app]; simpa [flatS] using hr2, trivial⟩, hB.trans hb2⟩⟩
  case done =>
    rintro D zs W hD rfl ⟨⟨v, hv, hrow, _⟩, hB⟩ hK
    have cv := hv.cell
    gi_wp2
    refine ⟨by simp, .inl ⟨_, _, rfl, run_takeDeferred hK, ?_⟩⟩
    exact ⟨_, results_tmp rfl _ _ _, v, rfl, ownsRow_putObj hrow _ hK rfl, Fr.of_below (hB.trans (belowK_b (n₀ := w.heap.size) (w := w) (Nat.le_refl _) W D _ _ (by omega) hK rfl rfl)) (Nat.le_refl _) _⟩
  case stop =>
    rintro D c pre W _ _ h _
    exact h.elim
theorem spans_at {w : World} {A : Option Addr} {cap : Nat} {L : List S27} (hC : Kd.C k27 w A L.length L) (h16 : L.length ≤ 16) :
    Calls Tryz.prog 26 #[.slice A L.length cap] w fun e w' => ∃ v, e = .returned v ∧ OwS w.heap.size w' v (L.map (fun c => c.f1)) ∧ Fr (fun _ => False) w w' := by
  have HC := hidE hC
  clear hC
  go_enter Tryz.func26, Tryz.ntmps26
  go_wp2_with fail
  refine (eachs_at (w := w) (A := A) (cap := cap) (n := L.length)).mono ?_
  rintro e w1 ⟨Bl, Bo, rfl, hl, ho, hcl, hco, k1⟩
  have HS := hidE (eachs_stops 5 (by omega) hcl hco (Kd.C_below HC.out k1.below))
  have HA : Hid (Calls Tryz.prog 98 #[.slice none 0 0, .func (.func 99) #[] #[.pointer (some ⟨Bl, 0, none⟩), .pointer (some ⟨Bo, 0, none⟩)]] w1 fun e w' => ∃ v, e = .returned v ∧ OwS w1.heap.size w' v (L.map (fun c => c.f1)) ∧ Fr (fun _ => False) w1 w') := hidE (appseqs_at (enters_of Tryz.func99 (by kernel_rfl) rfl) h16 (by simpa using h16) HS.out)
  have HD : Hid (Calls Tryz.prog 46 #[.func (.func 99) #[] #[.pointer (some ⟨Bl, 0, none⟩), .pointer (some ⟨Bo, 0, none⟩)]] w1 fun e w' => ∃ v, e = .returned v ∧ OwS w1.heap.size w' v (L.map (fun c => c.f1)) ∧ Fr (fun _ => False) w1 w') := hidE (by
    clear hl ho hcl hco HS
    go_enter Tryz.func46, Tryz.ntmps46
    go_wp2_with fail
    refine HA.out.mono ?_
    rintro e w2 ⟨v, rfl, hv, k2⟩
    go_wp2
    go_ret
    exact ⟨_, rfl, hv, k2⟩)
  clear HA HS hl ho hcl hco
  have hs1 := k1.size
  go_wp2_with fail
  refine HD.out.mono ?_
  rintro e w2 ⟨v, rfl, hv, k2⟩
  have hv' : OwS w.heap.size w2 v (L.map (fun c => c.f1)) := ⟨hv.1, by
    rcases hv.2 with h | ⟨g, cap, cur, e1, hg, hb⟩
    · exact .inl h
    · exact .inr ⟨g, cap, cur, e1, Nat.le_trans hs1 hg, hb⟩⟩
  go_wp2
  go_ret
  exact ⟨_, rfl, hv', k1.trans k2 (fun _ _ h => h)⟩
end Go.Proofs.YtapagoaoglmegaaGreat
end
