/- Timers: what their calls make of the items, in plain Lean. -/
import Derived.Test.YtkcfhdnlmdndeaaTmMem
namespace Go.Proofs.Ytkcfhdnlmdndeaa
open Go.RowKit Go.Proofs.YtkcfhdnlmdndeaaW.PrintWords Go.Proofs.YtkcfhdnlmdndeaaW.PrintLast Go.Proofs.YtkcfhdnlmdndeaaW.PrintMore PHp
set_option linter.unusedVariables false
set_option linter.unusedSimpArgs false
section
variable {L : Bool → List It} {E : Bool → Int} {T : Tm} {n : Nat} {id : Int}
theorem TI.fresh (h : TI L E T n id) {j : Int} (hj : id < j) : T j = none := by
  cases e : T j with
  | none => rfl
  | some r =>
    obtain ⟨k, y, hy, h1⟩ := h.src j r e
    have := (h.ids k y hy).2
    omega
theorem TI.noPlace (h : TI L E T n id) (k : Bool) {j : Int} (hj : id < j) : place (L k) j = none := by
  refine place_not fun i hi e => ?_
  have := (h.ids k _ (nth_mem hi)).2
  omega
theorem upd_len (L : Bool → List It) (k : Bool) (L' : List It) : (upd L k L' false).length + (upd L k L' true).length + (L k).length = (L false).length + (L true).length + L'.length := by
  cases k <;> simp [upd] <;> omega
theorem TI.add (h : TI L E T n id) (k : Bool) {s a : Int} {L' : List It} (p : L'.Perm (⟨id + 1, s, a⟩ :: L k)) (ho : Ok L') (ha : 0 ≤ a ∧ a ≤ MT) (hid : 0 ≤ id) :
    TI (upd L k L') E (putT T (id + 1) (k, a, E k)) (n + 1) (id + 1) := by
  have memk : ∀ y, y ∈ L' → y = ⟨id + 1, s, a⟩ ∨ y ∈ L k := fun y hy => by
    have := p.subset hy
    rcases List.mem_cons.1 this with h | h
    · exact .inl h
    · exact .inr h
  have mem : ∀ j y, y ∈ upd L k L' j → (j = k ∧ y = ⟨id + 1, s, a⟩) ∨ y ∈ L j := fun j y hy => by
    by_cases e : j = k
    · subst e
      rw [upd_same] at hy
      rcases memk y hy with h | h
      · exact .inl ⟨rfl, h⟩
      · exact .inr h
    · rw [upd_ne _ _ e] at hy; exact .inr hy
  refine ⟨fun j y hy => ?_, fun j r hj => ?_, fun j y hy => ?_, ?_, fun j => ?_, fun j y hy => ?_, h.evs⟩
  · rcases mem j y hy with ⟨rfl, rfl⟩ | hy
    · unfold putT; rw [if_pos rfl]
    · have := (h.ids j y hy).2
      unfold putT
      rw [if_neg (by omega)]
      exact h.t j y hy
  · unfold putT at hj
    split at hj
    · rename_i e
      exact ⟨k, ⟨id + 1, s, a⟩, by rw [upd_same]; exact p.mem_iff.2 (List.mem_cons_self ..), e.symm⟩
    · obtain ⟨q, y, hy, e⟩ := h.src j r hj
      refine ⟨q, y, ?_, e⟩
      by_cases eq : q = k
      · subst eq; rw [upd_same]; exact p.mem_iff.2 (List.mem_cons_of_mem _ hy)
      · rw [upd_ne _ _ eq]; exact hy
  · rcases mem j y hy with ⟨rfl, rfl⟩ | hy
    · show 1 ≤ id + 1 ∧ id + 1 ≤ id + 1; omega
    · have := h.ids j y hy; omega
  · have h1 := upd_len L k L'
    have h2 := p.length_eq
    have h3 := h.cnt
    simp at h2
    omega
  · by_cases e : j = k
    · subst e; rw [upd_same]; exact ho
    · rw [upd_ne _ _ e]; exact h.ok j
  · rcases mem j y hy with ⟨rfl, rfl⟩ | hy
    · exact ha
    · exact h.ats j y hy
/-- Ids are apart. -/
theorem TI.apart (h : TI L E T n id) {k : Bool} (hu : Uniq (L k)) {y : It} {R : List It} (p : (L k).Perm (y :: R)) : (∀ z ∈ R, z.f0 ≠ y.f0) ∧ ∀ j z, j ≠ k → z ∈ L j → z.f0 ≠ y.f0 := by
  have hy : y ∈ L k := p.mem_iff.2 (List.mem_cons_self ..)
  constructor
  · intro z hz e
    have hu2 := (uniq_iff _).1 (uniq_perm hu p.symm)
    rw [List.map_cons, List.nodup_cons] at hu2
    exact hu2.1 (List.mem_map.2 ⟨z, hz, e⟩)
  · intro j z hj hz e
    have h1 := h.t j z hz
    have h2 := h.t k y hy
    rw [e, h2] at h1
    simp at h1
    exact hj h1.1.symm
theorem TI.set (h : TI L E T n id) (k : Bool) (hu : Uniq (L k)) {y y' : It} {R L' : List It} (p : (L k).Perm (y :: R)) (q : L'.Perm (y' :: R)) (e0 : y'.f0 = y.f0) (ho : Ok L') (ha : 0 ≤ y'.f2 ∧ y'.f2 ≤ MT) :
    TI (upd L k L') E (putT T y.f0 (k, y'.f2, E k)) n id := by
  obtain ⟨ap1, ap2⟩ := h.apart hu p
  have hy : y ∈ L k := p.mem_iff.2 (List.mem_cons_self ..)
  have mem : ∀ j z, z ∈ upd L k L' j → (j = k ∧ z = y') ∨ (z ∈ L j ∧ z.f0 ≠ y.f0) := fun j z hz => by
    by_cases e : j = k
    · subst e
      rw [upd_same] at hz
      rcases List.mem_cons.1 (q.subset hz) with h | h
      · exact .inl ⟨rfl, h⟩
      · exact .inr ⟨p.mem_iff.2 (List.mem_cons_of_mem _ h), ap1 z h⟩
    · rw [upd_ne _ _ e] at hz; exact .inr ⟨hz, ap2 j z e hz⟩
  refine ⟨fun j z hz => ?_, fun j r hj => ?_, fun j z hz => ?_, ?_, fun j => ?_, fun j z hz => ?_, h.evs⟩
  · rcases mem j z hz with ⟨rfl, rfl⟩ | ⟨hz, hne⟩
    · unfold putT; rw [if_pos e0]
    · unfold putT; rw [if_neg hne]; exact h.t j z hz
  · unfold putT at hj
    split at hj
    · rename_i e
      exact ⟨k, y', by rw [upd_same]; exact q.mem_iff.2 (List.mem_cons_self ..), e0.trans e.symm⟩
    · rename_i hne
      obtain ⟨c, z, hz, e⟩ := h.src j r hj
      refine ⟨c, z, ?_, e⟩
      by_cases eq : c = k
      · subst eq
        rw [upd_same]
        rcases List.mem_cons.1 (p.subset hz) with h | h
        · exact absurd (e.symm.trans (by rw [h])) hne
        · exact q.mem_iff.2 (List.mem_cons_of_mem _ h)
      · rw [upd_ne _ _ eq]; exact hz
  · rcases mem j z hz with ⟨rfl, rfl⟩ | ⟨hz, hne⟩
    · rw [e0]; exact h.ids j y hy
    · exact h.ids j z hz
  · have h1 := upd_len L k L'
    have h2 := p.length_eq
    have h3 := q.length_eq
    have h4 := h.cnt
    simp at h2 h3
    omega
  · by_cases e : j = k
    · subst e; rw [upd_same]; exact ho
    · rw [upd_ne _ _ e]; exact h.ok j
  · rcases mem j z hz with ⟨rfl, rfl⟩ | ⟨hz, hne⟩
    · exact ha
    · exact h.ats j z hz
theorem TI.del (h : TI L E T n id) (k : Bool) (hu : Uniq (L k)) {y : It} {R L' : List It} (p : (L k).Perm (y :: R)) (q : L'.Perm R) (ho : Ok L') :
    TI (upd L k L') E (delT T y.f0) (n - 1) id := by
  obtain ⟨ap1, ap2⟩ := h.apart hu p
  have mem : ∀ j z, z ∈ upd L k L' j → (z ∈ L j ∧ z.f0 ≠ y.f0) := fun j z hz => by
    by_cases e : j = k
    · subst e
      rw [upd_same] at hz
      have hz := q.subset hz
      exact ⟨p.mem_iff.2 (List.mem_cons_of_mem _ hz), ap1 z hz⟩
    · rw [upd_ne _ _ e] at hz; exact ⟨hz, ap2 j z e hz⟩
  refine ⟨fun j z hz => ?_, fun j r hj => ?_, fun j z hz => h.ids j z (mem j z hz).1, ?_, fun j => ?_, fun j z hz => h.ats j z (mem j z hz).1, h.evs⟩
  · obtain ⟨hz, hne⟩ := mem j z hz
    unfold delT; rw [if_neg hne]; exact h.t j z hz
  · unfold delT at hj
    split at hj
    · cases hj
    · rename_i hne
      obtain ⟨c, z, hz, e⟩ := h.src j r hj
      refine ⟨c, z, ?_, e⟩
      by_cases eq : c = k
      · subst eq
        rw [upd_same]
        rcases List.mem_cons.1 (p.subset hz) with h | h
        · exact absurd (e.symm.trans (by rw [h])) hne
        · exact q.mem_iff.2 h
      · rw [upd_ne _ _ eq]; exact hz
  · have h1 := upd_len L k L'
    have h2 := p.length_eq
    have h3 := q.length_eq
    have h4 := h.cnt
    simp at h2
    omega
  · by_cases e : j = k
    · subst e; rw [upd_same]; exact ho
    · rw [upd_ne _ _ e]; exact h.ok j
end
theorem upd_perm {L M : Bool → List It} (h : ∀ k, (L k).Perm (M k)) (k : Bool) {a b : List It} (p : a.Perm b) : ∀ j, (upd L k a j).Perm (upd M k b j) := fun j => by
  by_cases e : j = k
  · subst e; rw [upd_same, upd_same]; exact p
  · rw [upd_ne _ _ e, upd_ne _ _ e]; exact h j
end Go.Proofs.Ytkcfhdnlmdndeaa
