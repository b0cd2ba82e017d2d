/- What a heap's calls make of the order: plain. -/
import Derived.Test.YtkcfhdnlmdndeaaHpMisc
namespace Go.Proofs.Ytkcfhdnlmdndeaa
open Go.RowKit Go.Proofs.YtkcfhdnlmdndeaaW.PrintWords Go.Proofs.YtkcfhdnlmdndeaaW.PrintLast Go.Proofs.YtkcfhdnlmdndeaaW.PrintMore PHp
set_option linter.unusedVariables false
theorem ok_nil : Ok [] := fun i _ h => by simp at h
theorem ok_pushL {L : List It} {size : Int} {x : It} (h : Ok L) : Ok (pushL L size x) := by
  unfold pushL; split
  · exact settle_push x h
  · exact h
theorem ok_setL {L : List It} {x : It} (h : Ok L) : Ok (setL L x) := by
  unfold setL; split
  · rename_i k hk; exact settle_ok (place_some hk).1 x h
  · exact h
theorem ok_remL {L : List It} {id : Int} (h : Ok L) : Ok (remL L id) := by
  unfold remL; split
  · rename_i k hk
    have hk' := (place_some hk).1
    unfold cutOut
    split
    · rename_i hl
      exact settle_ok (by simp; omega) _ (ok_prefix _ h)
    · exact ok_prefix _ h
  · exact h
theorem ok_popL {L : List It} (h : Ok L) : Ok (popL L) := by
  unfold popL; split
  · exact h
  · exact ok_remL h
theorem push_perm {L : List It} {size : Int} {x : It} (h : pushE L size x = 0) : (pushL L size x).Perm (x :: L) := by
  unfold pushL; rw [if_pos h]
  exact (settle_perm (by simp)).trans (List.perm_append_comm.trans (List.Perm.refl _))
theorem cut_perm {L : List It} {k : Nat} (hk : k < L.length) : (nth L k :: cutOut L k).Perm L := by
  obtain ⟨M, e, hL⟩ : ∃ M e, L = M ++ [e] := ⟨L.dropLast, L.getLast (by intro h; subst h; simp at hk), (List.dropLast_concat_getLast _).symm⟩
  subst hL
  have hl : (M ++ [e]).length - 1 = M.length := by simp
  have ht : (M ++ [e]).take M.length = M := by simp
  have hlast : nth (M ++ [e]) M.length = e := by rw [nth_push]; simp
  simp at hk
  unfold cutOut
  rw [hl, ht, hlast]
  split
  · rename_i hkm
    rw [nth_push, if_neg (by omega)]
    exact (set_perm hkm e).trans (List.perm_append_singleton _ _).symm
  · have : k = M.length := by omega
    subst this
    rw [hlast]
    exact (List.perm_append_singleton _ _).symm
theorem rem_perm {L : List It} {id : Int} {k : Nat} (h : place L id = some k) : (nth L k :: remL L id).Perm L :=
  ((remL_perm h).cons _).trans (cut_perm (place_some h).1)
theorem pop_perm {L : List It} (hu : Uniq L) (h0 : L.length ≠ 0) : (nth L 0 :: popL L).Perm L := by
  unfold popL; rw [if_neg h0]
  exact rem_perm (place_is hu (by omega))
/-- The first one is ahead of all that are left. -/
theorem pop_min {L : List It} (hu : Uniq L) (ho : Ok L) (h0 : L.length ≠ 0) : ∀ y ∈ popL L, itLt (nth L 0) y := by
  intro y hy
  have hp := pop_perm hu h0
  have hyL : y ∈ L := hp.subset (List.mem_cons_of_mem _ hy)
  obtain ⟨i, hi⟩ := List.mem_iff_getElem?.1 hyL
  have hil := (List.getElem?_eq_some_iff.1 hi).1
  have hn := ok_min ho i hil
  rw [nth_of hi] at hn
  refine (it_total (fun e => ?_)).resolve_right hn
  have hu' : Uniq (nth L 0 :: popL L) := uniq_perm hu hp
  have := (uniq_iff _).1 hu'
  simp only [List.map_cons, List.nodup_cons, List.mem_map] at this
  exact this.1 ⟨y, hy, by rw [e]⟩
theorem pop_len {L : List It} (hu : Uniq L) (h0 : L.length ≠ 0) : (popL L).length + 1 = L.length := by
  have := (pop_perm hu h0).length_eq; simpa using this
end Go.Proofs.Ytkcfhdnlmdndeaa
