/- TimersSeq: the pure side: the order in which they fire. -/
import Derived.Test.YtkcfhdnlmdndeaaTmTimes
namespace Go.Proofs.Ytkcfhdnlmdndeaa
open Go.RowKit Go.Proofs.YtkcfhdnlmdndeaaW.PrintWords Go.Proofs.YtkcfhdnlmdndeaaW.PrintLast Go.Proofs.YtkcfhdnlmdndeaaW.PrintMore PHp
set_option linter.unusedVariables false
set_option linter.unusedSimpArgs false
/-- Timers 1 to n, all at a. -/
def rl (n : Nat) : List It := (List.range n).map fun (j : Nat) => ⟨(j : Int) + 1, (j : Int) + 1, 50⟩
theorem rl_succ (n : Nat) : rl (n + 1) = rl n ++ [⟨(n : Int) + 1, (n : Int) + 1, 50⟩] := by unfold rl; rw [List.range_succ]; simp
theorem rl_len (n : Nat) : (rl n).length = n := by simp [rl]
theorem rl_get {n i : Nat} (h : i < n) : (rl n)[i]? = some ⟨(i : Int) + 1, (i : Int) + 1, 50⟩ := by
  unfold rl; rw [List.getElem?_map, List.getElem?_range h]; rfl
/-- All but the k-th. -/
def rlBut (n k : Nat) : List It := (rl n).take (k - 1) ++ (rl n).drop k
theorem rl_split {n k : Nat} (h1 : 1 ≤ k) (h2 : k ≤ n) : (rl n).Perm (⟨(k : Int), (k : Int), 50⟩ :: rlBut n k) := by
  have hg : (rl n)[k - 1]? = some ⟨(k : Int), (k : Int), 50⟩ := by
    rw [rl_get (by omega)]
    have : ((k - 1 : Nat) : Int) + 1 = k := by omega
    rw [this]
  have hd : (rl n).drop (k - 1) = ⟨(k : Int), (k : Int), 50⟩ :: (rl n).drop k := by
    obtain ⟨hl, e⟩ := List.getElem?_eq_some_iff.1 hg
    rw [List.drop_eq_getElem_cons hl, e, show k - 1 + 1 = k by omega]
  have := List.take_append_drop (k - 1) (rl n)
  rw [hd] at this
  unfold rlBut
  rw [← this]
  have e2 : (List.take (k - 1) (List.take (k - 1) (rl n) ++ ⟨(k : Int), (k : Int), 50⟩ :: List.drop k (rl n)) ++ List.drop k (List.take (k - 1) (rl n) ++ ⟨(k : Int), (k : Int), 50⟩ :: List.drop k (rl n))) = List.take (k - 1) (rl n) ++ List.drop k (rl n) := by rw [this]
  rw [e2]
  exact List.perm_middle
/-- In the order of firing, at instant a. -/
def ord (n k : Nat) (a : Int) : List It := (rlBut n k ++ [(⟨(k : Int), (n : Int) + 1, 50⟩ : It)]).map fun (y : It) => (⟨y.f0, y.f1, a⟩ : It)
theorem ord_len {n k : Nat} (h1 : 1 ≤ k) (h2 : k ≤ n) (a : Int) : (ord n k a).length = n := by
  unfold ord rlBut; simp [rl_len]; omega
def wantOf (n k i : Nat) : Int := if i + 1 = n then (k : Int) else if i + 1 < k then (i : Int) + 1 else (i : Int) + 2
theorem ord_get {n k i : Nat} (h1 : 1 ≤ k) (h2 : k ≤ n) (hi : i < n) (a : Int) : (ord n k a)[i]? = some ⟨wantOf n k i, if i + 1 = n then (n : Int) + 1 else wantOf n k i, a⟩ := by
  unfold ord rlBut wantOf
  rw [List.getElem?_map]
  have hl1 : ((rl n).take (k - 1)).length = k - 1 := by rw [List.length_take, rl_len]; omega
  have hl2 : ((rl n).drop k).length = n - k := by rw [List.length_drop, rl_len]
  by_cases hn : i + 1 = n
  · rw [if_pos hn, List.getElem?_append_right (by rw [List.length_append, hl1, hl2]; omega)]
    rw [show i - ((rl n).take (k - 1) ++ (rl n).drop k).length = 0 by rw [List.length_append, hl1, hl2]; omega]
    simp [hn]
  · rw [if_neg hn, List.getElem?_append_left (by rw [List.length_append, hl1, hl2]; omega)]
    by_cases hk : i + 1 < k
    · rw [if_pos hk, List.getElem?_append_left (by rw [hl1]; omega), List.getElem?_take_of_lt (by omega), rl_get hi]
      simp [hn]
    · rw [if_neg hk, List.getElem?_append_right (by rw [hl1]; omega), hl1, List.getElem?_drop, show k + (i - (k - 1)) = i + 1 by omega, rl_get (by omega)]
      simp [hn]
      omega
theorem ord_sorted {n k : Nat} (h1 : 1 ≤ k) (h2 : k ≤ n) (a : Int) : (ord n k a).Pairwise itLt := by
  rw [List.pairwise_iff_getElem]
  intro i j hi hj hij
  rw [ord_len h1 h2] at hi hj
  have ei := ord_get h1 h2 hi a
  have ej := ord_get h1 h2 hj a
  have gi := List.getElem?_eq_getElem (l := ord n k a) (by rw [ord_len h1 h2]; exact hi)
  have gj := List.getElem?_eq_getElem (l := ord n k a) (by rw [ord_len h1 h2]; exact hj)
  rw [ei] at gi
  rw [ej] at gj
  rw [← Option.some.inj gi, ← Option.some.inj gj]
  unfold itLt wantOf
  simp only
  right
  refine ⟨trivial, .inl ?_⟩
  split <;> split <;> (try split) <;> (try split) <;> omega
theorem ord_mem {n k : Nat} {a : Int} : ∀ y ∈ ord n k a, y.f2 = a := by
  intro y hy
  unfold ord at hy
  obtain ⟨z, _, rfl⟩ := List.mem_map.1 hy
  rfl
theorem ord_start {n k : Nat} : (⟨(k : Int), (n : Int) + 1, 50⟩ :: rlBut n k).Perm (ord n k 50) := by
  have e : ord n k 50 = rlBut n k ++ [⟨(k : Int), (n : Int) + 1, 50⟩] := by
    unfold ord
    conv => rhs; rw [← List.map_id (rlBut n k ++ [(⟨(k : Int), (n : Int) + 1, 50⟩ : It)])]
    apply List.map_congr_left
    intro y hy
    have : y.f2 = 50 := by
      rcases List.mem_append.1 hy with h | h
      · unfold rlBut at h
        rcases List.mem_append.1 h with h | h
        · have h := List.mem_of_mem_take h
          unfold rl at h; obtain ⟨j, _, rfl⟩ := List.mem_map.1 h; rfl
        · have h := List.mem_of_mem_drop h
          unfold rl at h; obtain ⟨j, _, rfl⟩ := List.mem_map.1 h; rfl
      · simp at h; rw [h]
    cases y; simp at this; simp [this]
  rw [e]
  exact (List.perm_append_singleton _ _).symm
theorem nxt50 (i s : Int) : nxt 7 50 ⟨i, s, 50⟩ = [⟨i, s, 57⟩] := by
  have hm : mss 7 50 ⟨i, s, 50⟩ = 0 := by rw [mss_pos (by omega)]; rfl
  exact nxt_some hm (by omega) (by omega)
theorem ord_fires (n k : Nat) : (ord n k 50).flatMap (nxt 7 50) = ord n k 57 := by
  unfold ord
  rw [List.flatMap_map]
  induction (rlBut n k ++ [(⟨(k : Int), (n : Int) + 1, 50⟩ : It)]) with
  | nil => rfl
  | cons y l ih => rw [List.flatMap_cons, List.map_cons, ih, nxt50]; rfl
theorem ord_gone (l : List It) (now : Int) : l.flatMap (nxt 0 now) = [] := by
  induction l with
  | nil => rfl
  | cons y l ih =>
    rw [List.flatMap_cons, ih]
    unfold nxt
    rw [if_pos (Or.inl rfl)]; rfl
end Go.Proofs.Ytkcfhdnlmdndeaa
