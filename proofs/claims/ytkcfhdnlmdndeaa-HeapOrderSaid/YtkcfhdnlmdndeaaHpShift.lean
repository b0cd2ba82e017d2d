/- All instants moved by as much: a heap's row stands as it did. -/
import Derived.Test.YtkcfhdnlmdndeaaHpLaw
namespace Go.Proofs.Ytkcfhdnlmdndeaa
open Go.RowKit Go.Proofs.YtkcfhdnlmdndeaaW.PrintWords Go.Proofs.YtkcfhdnlmdndeaaW.PrintLast Go.Proofs.YtkcfhdnlmdndeaaW.PrintMore PHp
set_option linter.unusedVariables false

def sh (d : Int) (x : It) : It := ⟨x.f0, x.f1, x.f2 + d⟩
def shL (d : Int) (L : List It) : List It := L.map (sh d)
theorem sh_lt (d : Int) (a b : It) : itLt (sh d a) (sh d b) ↔ itLt a b := by unfold itLt sh; simp only; omega
theorem sh_ahead (d : Int) (a b : It) : ahead (sh d a) (sh d b) = ahead a b := by
  unfold ahead; exact decide_eq_decide.2 (sh_lt d a b)
theorem shL_len (d : Int) (L : List It) : (shL d L).length = L.length := by simp [shL]
theorem shL_nth (d : Int) {L : List It} {i : Nat} (h : i < L.length) : nth (shL d L) i = sh d (nth L i) := by
  unfold shL nth; rw [List.getElem?_map, List.getElem?_eq_getElem h]; rfl
theorem shL_set (d : Int) (L : List It) (i : Nat) (x : It) : (shL d L).set i (sh d x) = shL d (L.set i x) := by simp [shL]
theorem shL_swp (d : Int) {L : List It} {i j : Nat} (hi : i < L.length) (hj : j < L.length) : swp (shL d L) i j = shL d (swp L i j) := by
  unfold swp; rw [shL_nth d hi, shL_nth d hj, shL_set, shL_set]
theorem shL_up (d : Int) : ∀ (n : Nat) (L : List It) (k : Nat), k < L.length → up n (shL d L) k = (shL d (up n L k).1, (up n L k).2)
  | 0, _, _, _ => rfl
  | n + 1, L, k, hk => by
    unfold up
    rw [shL_nth d hk, shL_nth d (show (k - 1) / 4 < L.length by omega), sh_ahead]
    split
    · rw [shL_swp d hk (by omega)]
      exact shL_up d n _ _ (by rw [swp_length]; omega)
    · rfl
theorem shL_best (d : Int) {L : List It} {k : Nat} (hk : k < L.length) : ∀ m, bestTo (shL d L) k m = bestTo L k m
  | 0 => rfl
  | m + 1 => by
    have ih := shL_best d hk m
    have hb := bestTo_lt hk m
    unfold bestTo
    rw [ih, shL_len]
    by_cases h : 4 * k + 1 + m < L.length
    · rw [shL_nth d h, shL_nth d hb, sh_ahead]
    · rw [if_neg (fun e => h e.1), if_neg (fun e => h e.1)]
theorem shL_down (d : Int) : ∀ (n : Nat) (L : List It) (k : Nat), k < L.length → down n (shL d L) k = shL d (down n L k)
  | 0, _, _, _ => rfl
  | n + 1, L, k, hk => by
    have hb := bestTo_lt hk 4
    unfold down
    rw [shL_best d hk 4]
    split
    · rfl
    · rw [shL_swp d hk hb]
      exact shL_down d n _ _ (by rw [swp_length]; exact hb)
theorem shL_settle (d : Int) {L : List It} {k : Nat} (hk : k < L.length) : settle (shL d L) k = shL d (settle L k) := by
  unfold settle
  rw [shL_up d k L k hk, shL_len]
  simp only
  split
  · exact shL_down d _ _ _ hk
  · rfl
theorem shL_place (d : Int) (L : List It) (id : Int) : place (shL d L) id = place L id := by
  unfold place shL
  rw [List.findIdx?_map]
  rfl
theorem shL_app (d : Int) (L : List It) (x : It) : shL d L ++ [sh d x] = shL d (L ++ [x]) := by simp [shL]
theorem shL_pushE (d : Int) (L : List It) (size : Int) (x : It) : pushE (shL d L) size (sh d x) = pushE L size x := by
  unfold pushE; rw [show (sh d x).f0 = x.f0 from rfl, shL_place, shL_len]
theorem shL_pushL (d : Int) (L : List It) (size : Int) (x : It) : pushL (shL d L) size (sh d x) = shL d (pushL L size x) := by
  unfold pushL
  rw [shL_pushE, shL_app, shL_len]
  split
  · exact shL_settle d (by simp)
  · rfl
theorem shL_setE (d : Int) (L : List It) (x : It) : setE (shL d L) (sh d x) = setE L x := by
  unfold setE; rw [show (sh d x).f0 = x.f0 from rfl, shL_place]
theorem shL_setL (d : Int) (L : List It) (x : It) : setL (shL d L) (sh d x) = shL d (setL L x) := by
  unfold setL
  rw [show (sh d x).f0 = x.f0 from rfl, shL_place]
  cases h : place L x.f0 with
  | none => rfl
  | some k =>
    simp only
    rw [shL_set]
    exact shL_settle d (by simpa using (place_some h).1)
theorem shL_cut (d : Int) {L : List It} {k : Nat} (hk : k < L.length) : cutOut (shL d L) k = shL d (cutOut L k) := by
  unfold cutOut
  rw [shL_len, shL_nth d (by omega)]
  have ht : (shL d L).take (L.length - 1) = shL d (L.take (L.length - 1)) := by simp [shL, List.map_take]
  rw [ht, shL_set]
  split <;> rfl
theorem shL_remE (d : Int) (L : List It) (id : Int) : remE (shL d L) id = remE L id := by unfold remE; rw [shL_place]
theorem shL_remL (d : Int) (L : List It) (id : Int) : remL (shL d L) id = shL d (remL L id) := by
  unfold remL
  rw [shL_place]
  cases h : place L id with
  | none => rfl
  | some k =>
    have hk := (place_some h).1
    simp only
    rw [shL_len, shL_cut d hk]
    split
    · rename_i hl
      exact shL_settle d (by rw [cutOut_length]; exact hl)
    · rfl
theorem shL_popE (d : Int) (L : List It) : popE (shL d L) = popE L := by unfold popE; rw [shL_len]
theorem shL_popL (d : Int) (L : List It) : popL (shL d L) = shL d (popL L) := by
  unfold popL
  rw [shL_len]
  split
  · rfl
  · rename_i h
    rw [shL_nth d (by omega)]
    exact shL_remL d L _
theorem shL_popX (d : Int) (L : List It) : (popX (shL d L)).f0 = (popX L).f0 := by
  unfold popX
  by_cases h : 0 < L.length
  · rw [shL_nth d h]; rfl
  · have : L = [] := List.eq_nil_of_length_eq_zero (by omega)
    subst this; rfl
theorem shL_ids (d : Int) (L : List It) : (shL d L).map (·.f0) = L.map (·.f0) := by
  unfold shL; rw [List.map_map]; rfl
/-! ### whose instants lie where -/
def AllIn (lo hi : Int) (L : List It) : Prop := ∀ x ∈ L, lo ≤ x.f2 ∧ x.f2 ≤ hi
theorem AllIn.push {lo hi size : Int} {L : List It} {x : It} (h : AllIn lo hi L) (hx : lo ≤ x.f2 ∧ x.f2 ≤ hi) : AllIn lo hi (pushL L size x) := by
  by_cases hE : pushE L size x = 0
  · intro y hy
    rcases List.mem_cons.1 ((push_perm hE).subset hy) with e | e
    · rw [e]; exact hx
    · exact h y e
  · unfold pushL; rw [if_neg hE]; exact h
theorem AllIn.set {lo hi : Int} {L : List It} {x : It} (h : AllIn lo hi L) (hx : lo ≤ x.f2 ∧ x.f2 ≤ hi) : AllIn lo hi (setL L x) := by
  unfold setL
  split
  · rename_i k hk
    intro y hy
    rcases List.mem_or_eq_of_mem_set ((settle_perm (by simpa using (place_some hk).1)).subset hy) with e | e
    · exact h y e
    · rw [e]; exact hx
  · exact h
theorem AllIn.rem {lo hi : Int} {L : List It} {id : Int} (h : AllIn lo hi L) : AllIn lo hi (remL L id) := by
  cases hk : place L id with
  | none => unfold remL; rw [hk]; exact h
  | some k => exact fun y hy => h y ((rem_perm hk).subset (List.mem_cons_of_mem _ hy))
theorem AllIn.pop {lo hi : Int} {L : List It} (h : AllIn lo hi L) : AllIn lo hi (popL L) := by
  unfold popL; split
  · exact h
  · exact h.rem
/-! ### two heaps of the same items are popped alike -/
theorem first_same {A C : List It} (p : A.Perm C) (hu : Uniq A) (ha : Ok A) (hc : Ok C) (h0 : A.length ≠ 0) : nth A 0 = nth C 0 := by
  have hlen := p.length_eq
  have h1 : nth A 0 ∈ C := p.subset (nth_mem (by omega))
  have h2 : nth C 0 ∈ A := p.symm.subset (nth_mem (by omega))
  obtain ⟨i, hi⟩ := List.mem_iff_getElem?.1 h1
  obtain ⟨j, hj⟩ := List.mem_iff_getElem?.1 h2
  have a1 := ok_min hc i (List.getElem?_eq_some_iff.1 hi).1
  have a2 := ok_min ha j (List.getElem?_eq_some_iff.1 hj).1
  rw [nth_of hi] at a1
  rw [nth_of hj] at a2
  by_cases e : nth A 0 = nth C 0
  · exact e
  · rcases it_total e with h | h
    · exact absurd h a1
    · exact absurd h a2
theorem pop_same {A C : List It} (p : A.Perm C) (hu : Uniq A) (hv : Uniq C) (ha : Ok A) (hc : Ok C) : (popL A).Perm (popL C) ∧ popX A = popX C ∧ popE A = popE C := by
  have hlen := p.length_eq
  by_cases h0 : A.length = 0
  · have e1 : A = [] := List.eq_nil_of_length_eq_zero h0
    have e2 : C = [] := List.eq_nil_of_length_eq_zero (by omega)
    subst e1 e2
    exact ⟨List.Perm.refl _, rfl, rfl⟩
  · have e := first_same p hu ha hc h0
    have p1 := pop_perm hu h0
    have p2 := pop_perm hv (by omega)
    rw [e] at p1
    refine ⟨List.Perm.cons_inv (p1.trans (p.trans p2.symm)), e, ?_⟩
    unfold popE; rw [hlen]
theorem uniq_pushL {L : List It} {size : Int} {x : It} (h : Uniq L) : Uniq (pushL L size x) := by
  by_cases hE : pushE L size x = 0
  · have hp : place L x.f0 = none := by
      unfold pushE at hE
      split at hE
      · cases hE
      · rename_i h1
        cases hq : place L x.f0 with
        | none => rfl
        | some j => rw [hq] at h1; exact absurd rfl h1
    unfold pushL; rw [if_pos hE]
    exact uniq_perm (uniq_push h hp) (settle_perm (by simp))
  · unfold pushL; rw [if_neg hE]; exact h
theorem uniq_popL {L : List It} (h : Uniq L) : Uniq (popL L) := by
  by_cases h0 : L.length = 0
  · unfold popL; rw [if_pos h0]; exact h
  · have hp := uniq_perm h (pop_perm h h0)
    have := (uniq_iff _).1 hp
    simp only [List.map_cons, List.nodup_cons] at this
    exact (uniq_iff _).2 this.2
end Go.Proofs.Ytkcfhdnlmdndeaa
