/- Ranging over a map from whole numbers, told as a function: what is still to come. -/
import Derived.Test.YtkcfhdnlmdndeaaMapF
import Derived.Maps.RangeWalk
import Derived.Maps.Ext
namespace Go.Proofs.Ytkcfhdnlmdndeaa
open Go.RowKit Go.Maps
set_option linter.unusedVariables false
set_option linter.unusedSimpArgs false
set_option maxRecDepth 100000
/-- Block r goes through block m, a map of n entries that holds f; left: which are still to come, cnt: how many. -/
def MR (K : TypeId) (q : IntKind) (w : World) (m r n : Nat) (f : Int → Option Value) (left : Int → Bool) (cnt : Nat) : Prop :=
  ∃ (D : DataW Value) (lf : Lit → Bool), w.ranges Try.prog K rv m r n D lf cnt ∧ Maps.size D = n ∧ (∀ k, (Lit.int q k).wf = true → Maps.has D (.int q k) = (f k).isSome ∧ ∀ z, D.atKey (.int q k) (.held z) = .held ((f k).getD z)) ∧ ∀ k, (Lit.int q k).wf = true → lf (.int q k) = left k
section
variable {K e t : TypeId} {q : IntKind} {w w' : World} {m r n cnt : Nat} {f : Int → Option Value} {left : Int → Bool}
theorem MR.owns (h : MR K q w m r n f left cnt) : MF K q w m n f := by
  obtain ⟨D, lf, h1, h2, h3, h4⟩ := h; exact ⟨D, h1.owns, h2, h3⟩
theorem MR.left_eq (h : MR K q w m r n f left cnt) : w.rangeLeft m r = cnt := by
  obtain ⟨D, lf, h1, _⟩ := h; exact h1.left_eq
theorem MR.ltr (h : MR K q w m r n f left cnt) : r < w.heap.size := by
  obtain ⟨D, lf, h1, _⟩ := h; exact h1.lt
theorem MR.fr {S : Nat → Prop} (h : MR K q w m r n f left cnt) (k : Fr S w w') (hm : ¬ S m) (hr : ¬ S r) : MR K q w' m r n f left cnt := by
  have l2 := h.ltr
  have l1 := h.owns.lt
  obtain ⟨D, lf, ⟨es, clock, since, seen, c0, g1, g2, g3, g4, g5, g6⟩, h2⟩ := h
  exact ⟨D, lf, ⟨es, clock, since, seen, c0, (k.block m l1 hm).trans g1, g2, g3, g4, (k.block r l2 hr).trans g5, g6⟩, h2⟩
theorem fr_of_grown0 (h : w.grownBy w' none) : Fr (fun _ => False) w w' :=
  ⟨h.os, h.tape, h.output, h.size, fun k hk hn => h.block k hk (by simp)⟩
end
section
variable (w : World) {ops : Array Oper} {rest : List Oper} {o : Oper} {a : Act} {Q : Exit → Act → World → Prop}
theorem wpList_range_mf (hg : o.guard = none) (m : Operand) (t : TypeId) (hop : o.op = Op.range t m)
    (K e : TypeId) (q : IntKind) (hk : Try.prog.underlying K = some (.int q)) (ht : Try.prog.underlying t = some (.map K e)) (b n : Nat) (f : Int → Option Value)
    (hm : a.eval m = .map (some b)) (h : MF K q w b n f)
    (hK : ∀ w', MR K q w' b w.heap.size n f (fun k => (f k).isSome) n → Fr (fun _ => False) w w' → w'.heap.size = w.heap.size + 1 → wpList Try.prog ops Q rest (a.put o.dst (.pointer (some ⟨w.heap.size, 0, none⟩))) w') : wpList Try.prog ops Q (o :: rest) a w := by
  obtain ⟨D, h1, h2, h3⟩ := h
  refine wpList_range_own w hg m t hop K e (int_keyed hk) ht rv b n D hm h1 (fun w' hr hgr hs => hK w' ⟨D, _, ?_, h2, h3, fun k hw => (h3 k hw).1⟩ (fr_of_grown0 hgr) hs)
  rw [h2] at hr
  exact hr
theorem wpList_next_mr (hg : o.guard = none) (it : Operand) (hop : o.op = Op.next it false)
    (K : TypeId) (q : IntKind) (hk : Try.prog.underlying K = some (.int q)) (b r n cnt : Nat) (f : Int → Option Value) (left : Int → Bool) (hf : ∀ k v, f k = some v → True)
    (hit : a.eval it = .pointer (some ⟨r, 0, none⟩)) (h : MR K q w b r n f left cnt)
    (hDone : cnt = 0 → (∀ k, (Lit.int q k).wf = true → left k = false) → wpList Try.prog ops Q rest (a.put o.dst (.tuple #[.bool false])) w)
    (hMore : ∀ (k : Int) (v : Value) (w' : World) (cnt' : Nat), (Lit.int q k).wf = true → left k = true → f k = some v → MR K q w' b r n f (fun z => left z && !(z == k)) cnt' → cnt' < cnt → Fr (fun i => i = r) w w' → w'.heap.size = w.heap.size →
      (Instr.entry (.pointer (some ⟨r, 0, none⟩))).run Try.prog w' = .ok (.tuple #[.int q k, v]) w' → wpList Try.prog ops Q rest (a.put o.dst (.tuple #[.bool true, .int q k, v])) w') :
    wpList Try.prog ops Q (o :: rest) a w := by
  obtain ⟨D, lf, h1, h2, h3, h4⟩ := h
  refine wpList_next_ranges w hg it hop K (int_keyed hk) rv (Value.int q) id (fun key kl hkey => by obtain ⟨x, rfl, _⟩ := Maps.keyOf_int_inv hk hkey; exact ⟨x, rfl⟩) (fun v y _ => ⟨v, rfl⟩) b r n D lf cnt hit h1
    (fun h0 hl => hDone h0 (fun k hw => by rw [← h4 k hw]; exact hl _)) (fun x c kl y w' cnt' hkey hlk hv hat hrg hlt hgr hsz hen => ?_)
  obtain ⟨x', ex, rfl, hwx⟩ := Maps.keyOf_int_inv hk hkey
  cases ex
  have hy : y.1 = .held c := by unfold rv at hv; simp at hv; rw [← hv]
  have hfx : f x = some c := by
    have key : ∀ z, (f x).getD z = c := fun z => by
      have h5 := (h3 x hwx).2 z
      rw [hat, hy] at h5
      injection h5 with h5
      exact h5.symm
    cases hfx : f x with
    | some v => have := key v; rw [hfx] at this; simp at this; rw [this]
    | none =>
      have e1 := key (.int .i64 0)
      have e2 := key (.int .i64 1)
      rw [hfx] at e1 e2
      simp at e1 e2
      rw [← e1] at e2
      injection e2 with _ e3
      omega
  refine hMore x c w' cnt' hwx (by rw [← h4 x hwx]; exact hlk) hfx ⟨D, _, hrg, h2, h3, fun k hw => ?_⟩ hlt (fr_of_grown hgr) hsz hen
  have : Lit.sameKey (.int q k) (.int q x) = (k == x) := by
    by_cases e : k = x
    · subst e; rw [WideAt.sameKey_self (isKey_int q k)]; simp
    · have h6 : (k == x) = false := by simp [e]
      rw [h6]
      cases hs : Lit.sameKey (.int q k) (.int q x)
      · rfl
      · have := WideAt.sameKey_eq hs; injection this; omega
  simp only [h4 k hw, this]
end
end Go.Proofs.Ytkcfhdnlmdndeaa
