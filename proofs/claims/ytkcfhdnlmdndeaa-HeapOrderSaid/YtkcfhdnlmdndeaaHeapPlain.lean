/- The heap as a list: an item goes up and down; nothing is lost; the order is kept; the first one is ahead of all. -/
import Derived.Test.YtkcfhdnlmdndeaaPHpx0
namespace Go.Proofs.Ytkcfhdnlmdndeaa
open Go.RowKit Go.Proofs.YtkcfhdnlmdndeaaW.PrintWords Go.Proofs.YtkcfhdnlmdndeaaW.PrintLast Go.Proofs.YtkcfhdnlmdndeaaW.PrintMore PHp
set_option linter.unusedVariables false

/-- An item: an id (f0), what tells ties apart (f1), an instant (f2). -/
abbrev It := S24

def itLt (a b : It) : Prop := a.f2 < b.f2 ∨ (a.f2 = b.f2 ∧ (a.f1 < b.f1 ∨ (a.f1 = b.f1 ∧ a.f0 < b.f0)))
instance (a b : It) : Decidable (itLt a b) := by unfold itLt; infer_instance
def ahead (a b : It) : Bool := decide (itLt a b)
theorem ahead_iff {a b : It} : ahead a b = true ↔ itLt a b := by unfold ahead; simp
theorem ahead_no {a b : It} : ahead a b = false ↔ ¬ itLt a b := by unfold ahead; simp
theorem it_ext {a b : It} (h : a.f0 = b.f0) (h' : a.f1 = b.f1) (h'' : a.f2 = b.f2) : a = b := by
  cases a; cases b; simp_all
theorem it_irrefl (a : It) : ¬ itLt a a := by unfold itLt; omega
theorem it_trans {a b c : It} (h : itLt a b) (k : itLt b c) : itLt a c := by unfold itLt at *; omega
theorem it_asymm {a b : It} (h : itLt a b) : ¬ itLt b a := by unfold itLt at *; omega
theorem it_total {a b : It} (h : a ≠ b) : itLt a b ∨ itLt b a := by
  by_cases h1 : itLt a b
  · exact .inl h1
  · by_cases h2 : itLt b a
    · exact .inr h2
    · exfalso; apply h; unfold itLt at h1 h2; exact it_ext (by omega) (by omega) (by omega)
theorem it_le_trans {a b c : It} (h : ¬ itLt b a) (k : ¬ itLt c b) : ¬ itLt c a := by unfold itLt at *; omega
theorem it_lt_of_lt_le {a b c : It} (h : itLt a b) (k : ¬ itLt c b) : itLt a c := by unfold itLt at *; omega
theorem it_lt_of_le_lt {a b c : It} (h : ¬ itLt b a) (k : itLt b c) : itLt a c := by unfold itLt at *; omega

def nth (l : List It) (i : Nat) : It := (l[i]?).getD ⟨0, 0, 0⟩
theorem nth_some {l : List It} {i : Nat} (h : i < l.length) : l[i]? = some (nth l i) := by
  unfold nth; rw [List.getElem?_eq_getElem h]; rfl
theorem nth_of {l : List It} {i : Nat} {x : It} (h : l[i]? = some x) : nth l i = x := by unfold nth; rw [h]; rfl
theorem nth_mem {l : List It} {i : Nat} (h : i < l.length) : nth l i ∈ l := List.mem_of_getElem? (nth_some h)
theorem nth_set (l : List It) (i j : Nat) (x : It) (h : i < l.length) : nth (l.set i x) j = if j = i then x else nth l j := by
  unfold nth; rw [List.getElem?_set]; by_cases e : i = j
  · subst e; simp [h]
  · simp [e, Ne.symm e]

/-- Two items in each other's places. -/
def swp (l : List It) (i j : Nat) : List It := (l.set i (nth l j)).set j (nth l i)
theorem swp_length (l : List It) (i j : Nat) : (swp l i j).length = l.length := by simp [swp]
theorem nth_swp {l : List It} {i j : Nat} (hi : i < l.length) (hj : j < l.length) (m : Nat) :
    nth (swp l i j) m = if m = j then nth l i else if m = i then nth l j else nth l m := by
  unfold swp; rw [nth_set _ _ _ _ (by simpa using hj)]; split
  · rfl
  · rw [nth_set _ _ _ _ hi]
theorem set_perm {l : List It} {i : Nat} (h : i < l.length) (x : It) : (nth l i :: l.set i x).Perm (x :: l) := by
  induction l generalizing i with
  | nil => simp at h
  | cons a l ih =>
    cases i with
    | zero => simp only [List.set_cons_zero]; unfold nth; simp; exact List.Perm.swap _ _ _
    | succ i =>
      have h' : i < l.length := by simpa using h
      have e : nth (a :: l) (i + 1) = nth l i := by unfold nth; simp
      rw [e, List.set_cons_succ]
      exact (List.Perm.swap _ _ _).trans (((ih h').cons a).trans (List.Perm.swap _ _ _))
theorem swp_perm {l : List It} {i j : Nat} (hi : i < l.length) (hj : j < l.length) : (swp l i j).Perm l := by
  unfold swp
  have h1 := set_perm (l := l.set i (nth l j)) (i := j) (by simpa using hj) (nth l i)
  have h2 := set_perm hi (nth l j)
  rw [nth_set _ _ _ _ hi] at h1
  have e : (if j = i then nth l j else nth l j) = nth l j := by split <;> rfl
  rw [e] at h1
  exact List.Perm.cons_inv (h1.trans h2)

/-- An item goes up. -/
def up : Nat → List It → Nat → List It × Nat
  | 0, l, k => (l, k)
  | n + 1, l, k => if 0 < k ∧ ahead (nth l k) (nth l ((k - 1) / 4)) = true then up n (swp l k ((k - 1) / 4)) ((k - 1) / 4) else (l, k)
/-- The first one of a place and of the first m of its children. -/
def bestTo (l : List It) (k : Nat) : Nat → Nat
  | 0 => k
  | m + 1 => if 4 * k + 1 + m < l.length ∧ ahead (nth l (4 * k + 1 + m)) (nth l (bestTo l k m)) = true then 4 * k + 1 + m else bestTo l k m
/-- An item goes down. -/
def down : Nat → List It → Nat → List It
  | 0, l, _ => l
  | n + 1, l, k => if bestTo l k 4 = k then l else down n (swp l k (bestTo l k 4)) (bestTo l k 4)
def settle (l : List It) (k : Nat) : List It := if (up k l k).2 = k then down l.length l k else (up k l k).1

theorem up_le : ∀ (n : Nat) (l : List It) (k : Nat), (up n l k).2 ≤ k
  | 0, _, _ => Nat.le_refl _
  | n + 1, l, k => by
    unfold up; split
    · exact Nat.le_trans (up_le n _ _) (by omega)
    · exact Nat.le_refl _
theorem up_length : ∀ (n : Nat) (l : List It) (k : Nat), (up n l k).1.length = l.length
  | 0, _, _ => rfl
  | n + 1, l, k => by
    unfold up; split
    · rw [up_length n, swp_length]
    · rfl
theorem up_perm : ∀ (n : Nat) (l : List It) (k : Nat), k < l.length → (up n l k).1.Perm l
  | 0, _, _, _ => List.Perm.refl _
  | n + 1, l, k, h => by
    unfold up; split
    · exact (up_perm n _ _ (by rw [swp_length]; omega)).trans (swp_perm h (by omega))
    · exact List.Perm.refl _
theorem up_same : ∀ (n : Nat) (l : List It) (k : Nat), (up n l k).2 = k → (up n l k).1 = l
  | 0, _, _, _ => rfl
  | n + 1, l, k, h => by
    unfold up at h ⊢; split
    · rename_i hc
      rw [if_pos hc] at h
      have := up_le n (swp l k ((k - 1) / 4)) ((k - 1) / 4)
      omega
    · rfl
theorem bestTo_lt {l : List It} {k : Nat} (h : k < l.length) : ∀ m, bestTo l k m < l.length
  | 0 => h
  | m + 1 => by unfold bestTo; split
                · rename_i hc; exact hc.1
                · exact bestTo_lt h m
theorem bestTo_ge (l : List It) (k : Nat) : ∀ m, bestTo l k m = k ∨ (4 * k + 1 ≤ bestTo l k m ∧ bestTo l k m ≤ 4 * k + m)
  | 0 => .inl rfl
  | m + 1 => by
    unfold bestTo; split
    · exact .inr (by omega)
    · rcases bestTo_ge l k m with h | h
      · exact .inl h
      · exact .inr (by omega)
/-- None of them is ahead of the best one. -/
theorem bestTo_min (l : List It) (k : Nat) : ∀ m, ¬ itLt (nth l k) (nth l (bestTo l k m)) ∧ ∀ i, i < m → 4 * k + 1 + i < l.length → ¬ itLt (nth l (4 * k + 1 + i)) (nth l (bestTo l k m))
  | 0 => ⟨it_irrefl _, fun i hi => by omega⟩
  | m + 1 => by
    obtain ⟨h1, h2⟩ := bestTo_min l k m
    unfold bestTo; split
    · rename_i hc
      have hc2 := ahead_iff.1 hc.2
      refine ⟨fun h => h1 (it_trans h hc2), fun i hi hl => ?_⟩
      by_cases e : i = m
      · subst e; exact it_irrefl _
      · exact fun h => h2 i (by omega) hl (it_trans h hc2)
    · rename_i hc
      refine ⟨h1, fun i hi hl => ?_⟩
      by_cases e : i = m
      · subst e; intro h; exact hc ⟨hl, ahead_iff.2 h⟩
      · exact h2 i (by omega) hl
theorem bestTo_lt_of_ne {l : List It} {k : Nat} : ∀ m, bestTo l k m ≠ k → itLt (nth l (bestTo l k m)) (nth l k)
  | 0, h => absurd rfl h
  | m + 1, h => by
    unfold bestTo at h ⊢; split
    · rename_i hc
      rw [if_pos hc] at h
      by_cases e : bestTo l k m = k
      · have := ahead_iff.1 hc.2; rwa [e] at this
      · exact it_trans (ahead_iff.1 hc.2) (bestTo_lt_of_ne m e)
    · rename_i hc
      rw [if_neg hc] at h
      exact bestTo_lt_of_ne m h
theorem down_length : ∀ (n : Nat) (l : List It) (k : Nat), (down n l k).length = l.length
  | 0, _, _ => rfl
  | n + 1, l, k => by
    unfold down; split
    · rfl
    · rw [down_length n, swp_length]
theorem down_perm : ∀ (n : Nat) (l : List It) (k : Nat), k < l.length → (down n l k).Perm l
  | 0, _, _, _ => List.Perm.refl _
  | n + 1, l, k, h => by
    unfold down; split
    · exact List.Perm.refl _
    · exact (down_perm n _ _ (by rw [swp_length]; exact bestTo_lt h 4)).trans (swp_perm h (bestTo_lt h 4))
theorem settle_length (l : List It) (k : Nat) : (settle l k).length = l.length := by
  unfold settle; split
  · exact down_length _ _ _
  · exact up_length _ _ _
theorem settle_perm {l : List It} {k : Nat} (h : k < l.length) : (settle l k).Perm l := by
  unfold settle; split
  · exact down_perm _ _ _ h
  · exact up_perm _ _ _ h

/-! ### the order -/
/-- None but, maybe, k (as a child or as a parent) is ahead of its parent. -/
def Ok (l : List It) : Prop := ∀ i, 0 < i → i < l.length → ¬ itLt (nth l i) (nth l ((i - 1) / 4))
/-- The order holds but between k and its parent, and k's children are behind k's parent. -/
def OkUp (l : List It) (k : Nat) : Prop :=
  (∀ i, 0 < i → i < l.length → i ≠ k → ¬ itLt (nth l i) (nth l ((i - 1) / 4))) ∧
  (∀ i, 0 < i → i < l.length → (i - 1) / 4 = k → 0 < k → ¬ itLt (nth l i) (nth l ((k - 1) / 4)))
/-- The order holds but between k and its children, which are behind k's parent. -/
def OkDown (l : List It) (k : Nat) : Prop :=
  (∀ i, 0 < i → i < l.length → (i - 1) / 4 ≠ k → ¬ itLt (nth l i) (nth l ((i - 1) / 4))) ∧
  (∀ i, 0 < i → i < l.length → (i - 1) / 4 = k → 0 < k → ¬ itLt (nth l i) (nth l ((k - 1) / 4)))

theorem up_ok : ∀ (n : Nat) (l : List It) (k : Nat), k ≤ n → k < l.length → OkUp l k → Ok (up n l k).1
  | 0, l, k, hn, hk, h => by
    have : k = 0 := by omega
    subst this
    exact fun i h0 hi => h.1 i h0 hi (by omega)
  | n + 1, l, k, hn, hk, h => by
    unfold up; split
    · rename_i hc
      have hlt := ahead_iff.1 hc.2
      have hp : (k - 1) / 4 < l.length := by omega
      refine up_ok n _ _ (by omega) (by rw [swp_length]; exact hp) ⟨?_, ?_⟩
      · intro i h0 hi hne
        rw [swp_length] at hi
        rw [nth_swp hk hp, nth_swp hk hp]
        rw [if_neg hne]
        by_cases e : i = k
        · subst e
          rw [if_pos rfl, if_pos rfl]
          exact it_asymm hlt
        · rw [if_neg e]
          by_cases e1 : (i - 1) / 4 = (k - 1) / 4
          · rw [if_pos e1]
            intro hh
            have := h.1 i h0 hi e
            rw [e1] at this
            exact this (it_trans hh hlt)
          · rw [if_neg e1]
            by_cases e2 : (i - 1) / 4 = k
            · rw [if_pos e2]
              exact h.2 i h0 hi e2 hc.1
            · rw [if_neg e2]
              exact h.1 i h0 hi e
      · intro i h0 hi he hpos
        rw [swp_length] at hi
        rw [nth_swp hk hp, nth_swp hk hp]
        have n1 : ((k - 1) / 4 - 1) / 4 ≠ (k - 1) / 4 := by omega
        have n2 : ((k - 1) / 4 - 1) / 4 ≠ k := by omega
        rw [if_neg n1, if_neg n2]
        have hpp := h.1 ((k - 1) / 4) hpos hp (by omega)
        have n3 : i ≠ (k - 1) / 4 := by omega
        rw [if_neg n3]
        by_cases e : i = k
        · rw [if_pos e]; exact hpp
        · rw [if_neg e]
          have := h.1 i h0 hi e
          rw [he] at this
          exact it_le_trans hpp this
    · rename_i hc
      intro i h0 hi
      by_cases e : i = k
      · subst e
        intro hh
        exact hc ⟨h0, ahead_iff.2 hh⟩
      · exact h.1 i h0 hi e
theorem down_ok : ∀ (n : Nat) (l : List It) (k : Nat), l.length ≤ n + k → k < l.length → OkDown l k → Ok (down n l k)
  | 0, l, k, hn, hk, h => by omega
  | n + 1, l, k, hn, hk, h => by
    have hb := bestTo_lt hk 4
    have hg := bestTo_ge l k 4
    obtain ⟨hm1, hm2⟩ := bestTo_min l k 4
    have hl := bestTo_lt_of_ne (l := l) (k := k) 4
    unfold down
    generalize bestTo l k 4 = b at *
    split
    · rename_i e
      subst e
      intro i h0 hi
      by_cases e : (i - 1) / 4 = b
      · have := hm2 (i - 1 - 4 * b) (by omega) (by omega)
        rw [show 4 * b + 1 + (i - 1 - 4 * b) = i by omega] at this
        rw [e]; exact this
      · exact h.1 i h0 hi e
    · rename_i e
      have hlt := hl e
      have hg' : 4 * k + 1 ≤ b ∧ b ≤ 4 * k + 4 := by omega
      refine down_ok n _ _ (by rw [swp_length]; omega) (by rw [swp_length]; exact hb) ⟨?_, ?_⟩
      · intro i h0 hi hne
        rw [swp_length] at hi
        rw [nth_swp hk hb, nth_swp hk hb, if_neg hne]
        by_cases e1 : i = b
        · rw [if_pos e1]
          have : (i - 1) / 4 = k := by omega
          rw [if_pos this]; exact it_asymm hlt
        · rw [if_neg e1]
          by_cases e2 : (i - 1) / 4 = k
          · rw [if_pos e2]
            have hik : i ≠ k := by omega
            rw [if_neg hik]
            have := hm2 (i - 1 - 4 * k) (by omega) (by omega)
            rw [show 4 * k + 1 + (i - 1 - 4 * k) = i by omega] at this
            exact this
          · rw [if_neg e2]
            by_cases e3 : i = k
            · rw [if_pos e3]
              subst e3
              exact h.2 b (by omega) hb (by omega) h0
            · rw [if_neg e3]; exact h.1 i h0 hi e2
      · intro i h0 hi he hpos
        rw [swp_length] at hi
        rw [nth_swp hk hb, nth_swp hk hb]
        have n1 : (b - 1) / 4 = k := by omega
        have n2 : (b - 1) / 4 ≠ b := by omega
        rw [if_neg n2, if_pos n1]
        have n3 : i ≠ b := by omega
        have n4 : i ≠ k := by omega
        rw [if_neg n3, if_neg n4]
        have := h.1 i h0 hi (by omega)
        rwa [he] at this
/-- An item that was laid in a place of a row in order. -/
theorem settle_ok {l : List It} {k : Nat} (hk : k < l.length) (x : It) (h : Ok l) : Ok (settle (l.set k x) k) := by
  have hk' : k < (l.set k x).length := by simpa using hk
  have hn : ∀ j, nth (l.set k x) j = if j = k then x else nth l j := fun j => nth_set l k j x hk
  have hpp : ∀ i, 0 < i → i < l.length → (i - 1) / 4 = k → 0 < k → ¬ itLt (nth l i) (nth l ((k - 1) / 4)) := by
    intro i h0 hi e hk0
    have h1 := h i h0 hi
    rw [e] at h1
    exact it_le_trans (h k hk0 hk) h1
  unfold settle
  have hu := up_same k (l.set k x) k
  have hle := up_le k (l.set k x) k
  split
  · rename_i e
    refine down_ok _ _ _ (by omega) hk' ⟨?_, ?_⟩
    · intro i h0 hi hne
      have hi' : i < l.length := by simpa using hi
      rw [hn, hn, if_neg hne]
      by_cases e1 : i = k
      · subst e1
        rw [if_pos rfl]
        intro hh
        have : (up i (l.set i x) i).2 ≠ i := by
          cases i with
          | zero => omega
          | succ i =>
            unfold up
            rw [if_pos ⟨by omega, ahead_iff.2 (by rw [hn, hn, if_pos rfl, if_neg hne]; exact hh)⟩]
            have := up_le i (swp (l.set (i + 1) x) (i + 1) ((i + 1 - 1) / 4)) ((i + 1 - 1) / 4)
            omega
        exact this e
      · rw [if_neg e1]; exact h i h0 hi'
    · intro i h0 hi he hk0
      have hi' : i < l.length := by simpa using hi
      rw [hn, hn, if_neg (by omega), if_neg (by omega)]
      exact hpp i h0 hi' he hk0
  · rename_i e
    -- it went up: it was ahead of its parent
    have hk0 : 0 < k := by
      rcases Nat.eq_zero_or_pos k with e0 | e0
      · subst e0; simp [up] at e
      · exact e0
    have hup : itLt x (nth l ((k - 1) / 4)) := by
      cases k with
      | zero => omega
      | succ k =>
        unfold up at e
        split at e
        · rename_i hc
          have := ahead_iff.1 hc.2
          rwa [hn, hn, if_pos rfl, if_neg (by omega)] at this
        · exact absurd rfl e
    refine up_ok k _ _ (Nat.le_refl _) hk' ⟨?_, ?_⟩
    · intro i h0 hi hne
      have hi' : i < l.length := by simpa using hi
      rw [hn, hn, if_neg hne]
      by_cases e1 : (i - 1) / 4 = k
      · rw [if_pos e1]
        have := hpp i h0 hi' e1 hk0
        intro hh
        exact this (it_trans hh hup)
      · rw [if_neg e1]; exact h i h0 hi'
    · intro i h0 hi he _
      have hi' : i < l.length := by simpa using hi
      rw [hn, hn, if_neg (by omega), if_neg (by omega)]
      exact hpp i h0 hi' he hk0
/-- An item that was appended to a row in order. -/
theorem settle_push {l : List It} (x : It) (h : Ok l) : Ok (settle (l ++ [x]) l.length) := by
  have e : l ++ [x] = (l ++ [x]).set l.length x := by
    rw [List.set_append_right _ _ (Nat.le_refl _)]; simp
  have hn : ∀ z j, j < l.length → nth (l ++ [z]) j = nth l j := by
    intro z j hj; unfold nth; rw [List.getElem?_append_left hj]
  by_cases h1 : l.length = 0
  · have : l = [] := List.eq_nil_of_length_eq_zero h1
    subst this
    intro i h0 hi
    rw [settle_length] at hi; simp at hi; omega
  · -- as if the parent had been there
    let y := nth l ((l.length - 1) / 4)
    have hy : Ok (l ++ [y]) := by
      intro i h0 hi
      simp at hi
      by_cases ei : i = l.length
      · subst ei
        rw [hn y ((l.length - 1) / 4) (by omega)]
        have : nth (l ++ [y]) l.length = y := by unfold nth; simp
        rw [this]; exact it_irrefl _
      · rw [hn y i (by omega), hn y ((i - 1) / 4) (by omega)]; exact h i h0 (by omega)
    have := settle_ok (l := l ++ [y]) (k := l.length) (by simp) x hy
    rw [List.set_append_right _ _ (Nat.le_refl _)] at this
    simpa using this
/-- The first one is ahead of all. -/
theorem ok_min {l : List It} (h : Ok l) : ∀ i, i < l.length → ¬ itLt (nth l i) (nth l 0) := by
  intro i
  induction i using Nat.strongRecOn with
  | ind i ih =>
    intro hi
    rcases Nat.eq_zero_or_pos i with e | e
    · subst e; exact it_irrefl _
    · exact it_le_trans (ih ((i - 1) / 4) (by omega) (by omega)) (h i e hi)
theorem ok_prefix {l : List It} (n : Nat) (h : Ok l) : Ok (l.take n) := by
  intro i h0 hi
  have hi' : i < n ∧ i < l.length := by simp at hi; omega
  have e : ∀ j, j < n → nth (l.take n) j = nth l j := by
    intro j hj; unfold nth; rw [List.getElem?_take_of_lt hj]
  rw [e i hi'.1, e _ (by omega)]
  exact h i h0 hi'.2
theorem up_fuel : ∀ (n m : Nat) (l : List It) (k : Nat), k ≤ n → k ≤ m → up n l k = up m l k
  | 0, 0, _, _, _, _ => rfl
  | 0, m + 1, l, k, h, _ => by
    obtain rfl : k = 0 := by omega
    unfold up; rw [if_neg (by omega)]
  | n + 1, 0, l, k, _, h => by
    obtain rfl : k = 0 := by omega
    unfold up; rw [if_neg (by omega)]
  | n + 1, m + 1, l, k, h, h' => by
    unfold up
    split
    · rename_i hc
      exact up_fuel n m _ _ (by omega) (by omega)
    · rfl
theorem up_go {l : List It} {j : Nat} (h0 : 0 < j) (ha : ahead (nth l j) (nth l ((j - 1) / 4)) = true) : up j l j = up ((j - 1) / 4) (swp l j ((j - 1) / 4)) ((j - 1) / 4) := by
  obtain ⟨i, rfl⟩ : ∃ i, j = i + 1 := ⟨j - 1, by omega⟩
  rw [show up (i + 1) l (i + 1) = (if 0 < i + 1 ∧ ahead (nth l (i + 1)) (nth l ((i + 1 - 1) / 4)) = true then up i (swp l (i + 1) ((i + 1 - 1) / 4)) ((i + 1 - 1) / 4) else (l, i + 1)) from rfl, if_pos ⟨h0, ha⟩]
  exact up_fuel _ _ _ _ (by omega) (by omega)
theorem up_stop {l : List It} {j : Nat} (h : ¬ (0 < j ∧ ahead (nth l j) (nth l ((j - 1) / 4)) = true)) : up j l j = (l, j) := by
  cases j with
  | zero => rfl
  | succ i => unfold up; rw [if_neg h]
theorem bestTo_stop {l : List It} {j c : Nat} (h : l.length ≤ 4 * j + 1 + c) : ∀ d, bestTo l j (c + d) = bestTo l j c
  | 0 => rfl
  | d + 1 => by
    rw [show bestTo l j (c + (d + 1)) = (if 4 * j + 1 + (c + d) < l.length ∧ ahead (nth l (4 * j + 1 + (c + d))) (nth l (bestTo l j (c + d))) = true then 4 * j + 1 + (c + d) else bestTo l j (c + d)) from rfl, if_neg (by omega)]
    exact bestTo_stop h d
theorem bestTo_go {l : List It} {j c : Nat} (h : 4 * j + 1 + c < l.length) : bestTo l j (c + 1) = if ahead (nth l (4 * j + 1 + c)) (nth l (bestTo l j c)) = true then 4 * j + 1 + c else bestTo l j c := by
  rw [show bestTo l j (c + 1) = (if 4 * j + 1 + c < l.length ∧ ahead (nth l (4 * j + 1 + c)) (nth l (bestTo l j c)) = true then 4 * j + 1 + c else bestTo l j c) from rfl]
  by_cases ha : ahead (nth l (4 * j + 1 + c)) (nth l (bestTo l j c)) = true
  · rw [if_pos ⟨h, ha⟩, if_pos ha]
  · rw [if_neg (fun e => ha e.2), if_neg ha]
theorem down_fuel : ∀ (n m : Nat) (l : List It) (k : Nat), k < l.length → l.length ≤ n + k → l.length ≤ m + k → down n l k = down m l k
  | 0, _, _, _, h0, h, _ => by omega
  | n + 1, 0, l, k, h0, _, h => by omega
  | n + 1, m + 1, l, k, h0, h, h' => by
    unfold down
    split
    · rfl
    · rename_i hc
      have hb := bestTo_lt h0 4
      have hg := bestTo_ge l k 4
      exact down_fuel n m _ _ (by rw [swp_length]; exact hb) (by rw [swp_length]; omega) (by rw [swp_length]; omega)
theorem down_stop {l : List It} {j : Nat} (h0 : j < l.length) (h : bestTo l j 4 = j) : down l.length l j = l := by
  obtain ⟨n, hn⟩ : ∃ n, l.length = n + 1 := ⟨l.length - 1, by omega⟩
  rw [hn]; unfold down; rw [if_pos h]
theorem down_go {l : List It} {j : Nat} (h0 : j < l.length) (h : bestTo l j 4 ≠ j) : down l.length l j = down (swp l j (bestTo l j 4)).length (swp l j (bestTo l j 4)) (bestTo l j 4) := by
  have hb := bestTo_lt h0 4
  have hg := bestTo_ge l j 4
  obtain ⟨n, hn⟩ : ∃ n, l.length = n + 1 := ⟨l.length - 1, by omega⟩
  rw [show down l.length l j = down (n + 1) l j by rw [hn]]
  rw [show down (n + 1) l j = (if bestTo l j 4 = j then l else down n (swp l j (bestTo l j 4)) (bestTo l j 4)) from rfl, if_neg h]
  exact down_fuel _ _ _ _ (by rw [swp_length]; exact hb) (by rw [swp_length]; omega) (by rw [swp_length]; omega)
end Go.Proofs.Ytkcfhdnlmdndeaa
