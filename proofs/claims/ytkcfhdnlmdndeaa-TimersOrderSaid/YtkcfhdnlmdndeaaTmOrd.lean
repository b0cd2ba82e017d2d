/- TimersOrder: the pure side: distinct instants fire in one order, whatever their ids and seqs. -/
import Derived.Test.YtkcfhdnlmdndeaaTmAlive
namespace Go.Proofs.Ytkcfhdnlmdndeaa
open Go.RowKit Go.Proofs.YtkcfhdnlmdndeaaW.PrintWords Go.Proofs.YtkcfhdnlmdndeaaW.PrintLast Go.Proofs.YtkcfhdnlmdndeaaW.PrintMore PHp
set_option linter.unusedVariables false
set_option linter.unusedSimpArgs false
@[reducible] def par (v : Int) : Bool := v % 2 == 1
def MK (Y : List It) : Bool → List It := fun k => Y.filter (fun y => par y.f2 == k)
theorem MK_len : ∀ Y : List It, (MK Y false).length + (MK Y true).length = Y.length
  | [] => rfl
  | y :: Y => by
    have h := MK_len Y
    unfold MK at h ⊢
    cases hp : par y.f2 <;> simp [List.filter_cons, hp] at h ⊢ <;> omega
theorem MK_snoc (Y : List It) (y : It) {k : Bool} (hk : k = par y.f2) : ∀ j, (upd (MK Y) k (y :: MK Y k) j).Perm (MK (Y ++ [y]) j) := by
  subst hk
  intro j
  have e : MK (Y ++ [y]) j = MK Y j ++ (if par y.f2 = j then [y] else []) := by
    unfold MK; rw [List.filter_append]; congr 1
    by_cases h : par y.f2 = j
    · rw [if_pos h]; simp [h]
    · rw [if_neg h]; simp [h]
  rw [e]
  by_cases h : j = par y.f2
  · subst h
    rw [upd_same, if_pos rfl]
    exact (List.perm_append_singleton _ _).symm
  · rw [upd_ne _ _ h, if_neg (Ne.symm h), List.append_nil]
theorem MK_mem {Y : List It} {k : Bool} {y : It} (h : y ∈ MK Y k) : y ∈ Y := (List.mem_filter.1 h).1
/-- An item laid in its place. -/
def ins (x : It) : List It → List It
  | [] => [x]
  | y :: l => if itLt x y then x :: y :: l else y :: ins x l
theorem ins_perm (x : It) : ∀ l : List It, (ins x l).Perm (x :: l)
  | [] => List.Perm.refl _
  | y :: l => by
    unfold ins; split
    · exact List.Perm.refl _
    · exact ((ins_perm x l).cons y).trans (List.Perm.swap _ _ _)
theorem ins_sorted (x : It) : ∀ l : List It, l.Pairwise itLt → (∀ y ∈ l, y ≠ x) → (ins x l).Pairwise itLt
  | [], _, _ => List.pairwise_singleton _ _
  | y :: l, h, hx => by
    rw [List.pairwise_cons] at h
    unfold ins; split
    · rename_i hlt
      rw [List.pairwise_cons, List.pairwise_cons]
      refine ⟨fun z hz => ?_, h⟩
      rcases List.mem_cons.1 hz with rfl | hz
      · exact hlt
      · exact it_trans hlt (h.1 z hz)
    · rename_i hge
      rw [List.pairwise_cons]
      refine ⟨fun z hz => ?_, ins_sorted x l h.2 (fun z hz => hx z (List.mem_cons_of_mem _ hz))⟩
      rcases List.mem_cons.1 ((ins_perm x l).subset hz) with rfl | hz
      · rcases it_total (hx y (List.mem_cons_self ..)) with h1 | h1
        · exact h1
        · exact absurd h1 hge
      · exact h.1 z hz
theorem sort_ex : ∀ l : List It, l.Nodup → ∃ D : List It, l.Perm D ∧ D.Pairwise itLt
  | [], _ => ⟨[], List.Perm.refl _, List.Pairwise.nil⟩
  | x :: l, h => by
    rw [List.nodup_cons] at h
    obtain ⟨D, p, s⟩ := sort_ex l h.2
    refine ⟨ins x D, (p.cons x).trans (ins_perm x D).symm, ins_sorted x D s (fun y hy e => ?_)⟩
    subst e
    exact h.1 (p.mem_iff.2 hy)
theorem strict_eq : ∀ (l m : List Int), l.Pairwise (· < ·) → m.Pairwise (· < ·) → l.Perm m → l = m
  | [], m, _, _, p => (p.nil_eq)
  | a :: l, [], _, _, p => by have := p.length_eq; simp at this
  | a :: l, b :: m, hl, hm, p => by
    have h1 := List.pairwise_cons.1 hl
    have h2 := List.pairwise_cons.1 hm
    have ha : a ∈ b :: m := p.subset (List.mem_cons_self ..)
    have hb : b ∈ a :: l := p.symm.subset (List.mem_cons_self ..)
    have e : a = b := by
      rcases List.mem_cons.1 ha with h | h
      · exact h
      · rcases List.mem_cons.1 hb with h' | h'
        · exact h'.symm
        · have := h1.1 b h'; have := h2.1 a h; omega
    subst e
    rw [strict_eq l m h1.2 h2.2 p.cons_inv]
theorem times_strict {D : List It} (h : D.Pairwise itLt) (hn : (D.map (·.f2)).Nodup) : (D.map (·.f2)).Pairwise (· < ·) := by
  rw [List.pairwise_map]
  rw [List.Nodup, List.pairwise_map] at hn
  refine (h.and hn).imp ?_
  intro a b hab
  have h1 := hab.1
  have h2 := hab.2
  unfold itLt at h1
  omega
/-- Two rows of items of the same distinct instants: what fires, in order. -/
theorem order_ex {X Y : List It} {al : List Int} (hx : X.map (·.f2) = al) (hy : (Y.map (·.f2)).Perm al) (hn : al.Nodup) :
    ∃ DX DY : Bool → List It, (∀ k, (MK X k).Perm (DX k)) ∧ (∀ k, (MK Y k).Perm (DY k)) ∧ (∀ k, (DX k).Pairwise itLt) ∧ (∀ k, (DY k).Pairwise itLt) ∧ ∀ k, (DX k).map (·.f2) = (DY k).map (·.f2) := by
  have nX : (X.map (·.f2)).Nodup := by rw [hx]; exact hn
  have nY : (Y.map (·.f2)).Nodup := (hy.nodup_iff).2 hn
  have fm : ∀ (Z : List It) k, (MK Z k).map (·.f2) = (Z.map (·.f2)).filter (fun v => par v == k) := fun Z k => by
    unfold MK
    rw [List.filter_map]
    rfl
  have nd : ∀ (Z : List It), (Z.map (·.f2)).Nodup → ∀ k, ((MK Z k).map (·.f2)).Nodup := fun Z h k => by
    rw [fm]; exact h.filter _
  have ndi : ∀ (l : List It), (l.map (·.f2)).Nodup → l.Nodup := fun l h => by
    rw [List.Nodup, List.pairwise_map] at h
    exact h.imp (fun hne e => hne (by rw [e]))
  have cX := fun k => sort_ex (MK X k) (ndi _ (nd X nX k))
  have cY := fun k => sort_ex (MK Y k) (ndi _ (nd Y nY k))
  obtain ⟨DX, hX⟩ := Classical.axiomOfChoice cX
  obtain ⟨DY, hY⟩ := Classical.axiomOfChoice cY
  refine ⟨DX, DY, fun k => (hX k).1, fun k => (hY k).1, fun k => (hX k).2, fun k => (hY k).2, fun k => ?_⟩
  have pX := (hX k).1.map (·.f2)
  have pY := (hY k).1.map (·.f2)
  refine strict_eq _ _ (times_strict (hX k).2 (pX.nodup_iff.1 (nd X nX k))) (times_strict (hY k).2 (pY.nodup_iff.1 (nd Y nY k))) ?_
  refine pX.symm.trans (List.Perm.trans ?_ pY)
  rw [fm, fm, hx]
  exact (hy.symm).filter _
/-- What is told of what fires but its id. -/
theorem fds_same {DX DY : Bool → List It} {E nw : Bool → Int} (h : ∀ k, (DX k).map (·.f2) = (DY k).map (·.f2)) :
    (fds DX E nw false ++ fds DX E nw true).map (·.2) = (fds DY E nw false ++ fds DY E nw true).map (·.2) := by
  have key : ∀ k, (fds DX E nw k).map (·.2) = (fds DY E nw k).map (·.2) := fun k => by
    have e : ∀ D : List It, (D.map (fd k (E k) (nw k))).map (·.2) = (D.map (·.f2)).map (fun v => ((k, v, E k, nw k - v, if 0 < E k then (nw k - v) / E k else 0) : Bool × Int × Int × Int × Int)) := fun D => by
      rw [List.map_map, List.map_map]; rfl
    unfold fds
    rw [e, e, h]
  rw [List.map_append, List.map_append, key, key]
end Go.Proofs.Ytkcfhdnlmdndeaa
