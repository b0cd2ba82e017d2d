/- A map from whole numbers, as a function: what a look-up, a store, a delete and len tell, for elements of any type. -/
import Derived.Test.YtkcfhdnlmdndeaaProg
import Derived.Test.YtkcfhdnlmdndeaaKit
import Derived.Maps.OwnOps
import Derived.Maps.OwnSet
import Derived.Maps.Views
import Derived.StillTailTactics
namespace Go.Proofs.Ytkcfhdnlmdndeaa
open Go.RowKit Go.Maps
set_option linter.unusedVariables false
set_option linter.unusedSimpArgs false

def rv (v : Value) : Option (DataW Value × List MemPlace) := some (.held v, [])
theorem rv_inv {v u : Value} {ps : List MemPlace} (h : rv v = some (.held u, ps)) : v = u := by
  unfold rv at h; simp at h; exact h.1

/-- Block m is a map of n entries, from whole numbers of kind q, that holds f. -/
def MF (K : TypeId) (q : IntKind) (w : World) (m n : Nat) (f : Int → Option Value) : Prop :=
  ∃ D : DataW Value, w.ownsMap Try.prog K rv m n D ∧ Maps.size D = n ∧ ∀ k, (Lit.int q k).wf = true → Maps.has D (.int q k) = (f k).isSome ∧ ∀ z, D.atKey (.int q k) (.held z) = .held ((f k).getD z)

section
variable {K e t : TypeId} {q : IntKind} {w w' : World} {m n : Nat} {f g : Int → Option Value}
theorem MF.lt (h : MF K q w m n f) : m < w.heap.size := by obtain ⟨D, h, _⟩ := h; exact h.lt
theorem MF.fr {S : Nat → Prop} (h : MF K q w m n f) (k : Fr S w w') (hs : ¬ S m) : MF K q w' m n f := by
  obtain ⟨D, ⟨es, clock, hb, F, h1, h2⟩, h3⟩ := h
  exact ⟨D, ⟨es, clock, (k.block m (Array.getElem?_eq_some_iff.1 hb).1 hs).trans hb, F, h1, h2⟩, h3⟩
theorem MF.drew (h : MF K q w m n f) : MF K q w.drew m n f := h
theorem MF.drewN (h : MF K q w m n f) (i : Nat) : MF K q (w.drewN i) m n f := h
theorem MF.congr (h : MF K q w m n f) (hfg : ∀ k, (Lit.int q k).wf = true → f k = g k) : MF K q w m n g := by
  obtain ⟨D, h1, h2, h3⟩ := h
  exact ⟨D, h1, h2, fun k hk => by rw [← hfg k hk]; exact h3 k hk⟩
theorem MF.size (h : MF K q w m n f) {n' : Nat} (e : n = n') : MF K q w m n' f := e ▸ h
theorem MF.made (w : World) {b : Nat} (hb : b = w.heap.size) : MF K q (w.alloc (.map #[] 0)) b 0 (fun _ => none) := by
  subst hb
  exact ⟨_, World.ownsMap_made w Try.prog K rv, rfl, fun k _ => ⟨rfl, fun _ => rfl⟩⟩
theorem isKey_int (q : IntKind) (k : Int) : WideAt.IsKeyLit (.int q k) := trivial
theorem MF.look (h : MF K q w m n f) (hk : Try.prog.underlying K = some (.int q)) (ht : Try.prog.underlying t = some (.map K e)) {z : Value} (hz : (zeroValue e).run Try.prog w = .ok z w) {k : Int} (hw : (Lit.int q k).wf = true) :
    (Instr.lookup t (.map (some m)) (.int q k) false).run Try.prog w = .ok ((f k).getD z) w := by
  obtain ⟨D, h1, h2, h3⟩ := h
  obtain ⟨v, ps, hr, hv⟩ := h1.lookup (int_keyed hk) ht hz (zd := .held z) (zp := []) rfl (keyOf_int_mk hk hw)
  rw [(h3 k hw).2 z] at hv
  rw [hr, rv_inv hv]
theorem MF.look_ok (h : MF K q w m n f) (hk : Try.prog.underlying K = some (.int q)) (ht : Try.prog.underlying t = some (.map K e)) {z : Value} (hz : (zeroValue e).run Try.prog w = .ok z w) {k : Int} (hw : (Lit.int q k).wf = true) :
    (Instr.lookup t (.map (some m)) (.int q k) true).run Try.prog w = .ok (.tuple #[(f k).getD z, .bool (f k).isSome]) w := by
  obtain ⟨D, h1, h2, h3⟩ := h
  obtain ⟨v, ps, hr, hv⟩ := h1.look_ok (int_keyed hk) ht hz (zd := .held z) (zp := []) rfl (keyOf_int_mk hk hw)
  rw [(h3 k hw).2 z] at hv
  rw [hr, rv_inv hv, (h3 k hw).1]
theorem MF.len (h : MF K q w m n f) (ht : Try.prog.underlying t = some (.map K e)) (ty : TypeId) : (Builtin.len_ #[t] ty #[.map (some m)]).run Try.prog w = .ok (.int .i64 n) w := by
  obtain ⟨D, h1, h2, h3⟩ := h
  rw [h1.len ht ty, h2]
def putF (f : Int → Option Value) (k : Int) (v : Value) : Int → Option Value := fun i => if i = k then some v else f i
def delF (f : Int → Option Value) (k : Int) : Int → Option Value := fun i => if i = k then none else f i
theorem fr_of_grown {b : Nat} (h : w.grownBy w' (some b)) : Fr (fun i => i = b) w w' :=
  ⟨h.os, h.tape, h.output, h.size, fun k hk hn => h.block k hk (fun e => hn (by simpa using e))⟩
theorem MF.store (h : MF K q w m n f) (hk : Try.prog.underlying K = some (.int q)) (ht : Try.prog.underlying t = some (.map K e)) (hn : n < maxLen) {k : Int} (hw : (Lit.int q k).wf = true) (v : Value) :
    ∃ w', (Instr.mapUpdate t (.map (some m)) (.int q k) v).run Try.prog w = .ok () w' ∧ MF K q w' m (if (f k).isSome = true then n else n + 1) (putF f k v) ∧ Fr (fun i => i = m) w w' := by
  obtain ⟨D, h1, h2, h3⟩ := h
  have T := h1.tidy (int_keyed hk)
  obtain ⟨w', hr, h4, h5⟩ := h1.update (int_keyed hk) ht hn (keyOf_int_mk hk hw) (val := v) (d := .held v) (ps := []) rfl
  have hs : Maps.size (D.put (.int q k) (.held v)) = if (f k).isSome = true then n else n + 1 := by
    rw [size_put T, (h3 k hw).1, h2]
  refine ⟨w', hr, ⟨D.put (.int q k) (.held v), ?_, hs, fun i hi => ?_⟩, fr_of_grown h5⟩
  · obtain ⟨es, clock, hb, F, h6, h7⟩ := h4
    refine ⟨es, clock, hb, F, ?_, h7⟩
    rw [h7, Maps.size_eq, length_read] at hs
    omega
  · by_cases e : i = k
    · subst e
      unfold putF
      rw [if_pos rfl]
      exact ⟨has_put_same T.isMap (isKey_int q i) _, fun z => atKey_put_same T.isMap (isKey_int q i) _ _⟩
    · unfold putF
      rw [if_neg e]
      have hne : Lit.int q i ≠ Lit.int q k := fun h => e (by injection h)
      exact ⟨by rw [has_put_other hne]; exact (h3 i hi).1, fun z => by rw [atKey_put_other hne]; exact (h3 i hi).2 z⟩
theorem MF.drop (h : MF K q w m n f) (hk : Try.prog.underlying K = some (.int q)) (ht : Try.prog.underlying t = some (.map K e)) {k : Int} (hw : (Lit.int q k).wf = true) (ty : TypeId) :
    ∃ w', (Builtin.delete_ #[t, K] ty #[.map (some m), .int q k]).run Try.prog w = .ok (.tuple #[]) w' ∧ MF K q w' m (if (f k).isSome = true then n - 1 else n) (delF f k) ∧ Fr (fun i => i = m) w w' := by
  obtain ⟨D, h1, h2, h3⟩ := h
  have T := h1.tidy (int_keyed hk)
  obtain ⟨w', hr, h4, h5⟩ := h1.drop (int_keyed hk) ht (keyOf_int_mk hk hw) ty
  have hs : Maps.size (D.del (.int q k)) = if (f k).isSome = true then n - 1 else n := by
    have := size_del T (k := .int q k)
    rw [(h3 k hw).1, h2] at this
    split at this <;> simp_all <;> omega
  refine ⟨w', hr, ⟨D.del (.int q k), ?_, hs, fun i hi => ?_⟩, fr_of_grown h5.grown⟩
  · obtain ⟨es, clock, hb, F, h6, h7⟩ := h4
    refine ⟨es, clock, hb, F, ?_, h7⟩
    rw [h7, Maps.size_eq, length_read] at hs
    omega
  · by_cases e : i = k
    · subst e
      unfold delF
      rw [if_pos rfl]
      exact ⟨has_del_same, fun z => atKey_del_same _⟩
    · unfold delF
      rw [if_neg e]
      have hne : Lit.int q i ≠ Lit.int q k := fun h => e (by injection h)
      exact ⟨by rw [has_del_other hne]; exact (h3 i hi).1, fun z => by rw [atKey_del_other hne]; exact (h3 i hi).2 z⟩
end

/-! ### at the operation -/
section
variable (w : World) {ops : Array Oper} {rest : List Oper} {o : Oper} {a : Act} {Q : Exit → Act → World → Prop}
theorem wpList_look_mf (hg : o.guard = none) (m x : Operand) (t : TypeId) (hop : o.op = Op.lookup t m x false)
    (K e : TypeId) (q : IntKind) (hk : Try.prog.underlying K = some (.int q)) (ht : Try.prog.underlying t = some (.map K e)) {z : Value} (hz : (zeroValue e).run Try.prog w = .ok z w) (b n : Nat) (f : Int → Option Value) (k : Int)
    (hm : a.eval m = .map (some b)) (h : MF K q w b n f) (hx : a.eval x = .int q k) (hw : (Lit.int q k).wf = true)
    (hK : wpList Try.prog ops Q rest (a.put o.dst ((f k).getD z)) w) : wpList Try.prog ops Q (o :: rest) a w := by
  refine wpList_plain hg fun K' hK' => ?_
  have hr := h.look hk ht hz hw
  unfold Oper.wp
  simp [execOp, hop, hm, hx, hr, Result.andThen]
  exact hK' _ _ hK
theorem wpList_look_ok_mf (hg : o.guard = none) (m x : Operand) (t : TypeId) (hop : o.op = Op.lookup t m x true)
    (K e : TypeId) (q : IntKind) (hk : Try.prog.underlying K = some (.int q)) (ht : Try.prog.underlying t = some (.map K e)) {z : Value} (hz : (zeroValue e).run Try.prog w = .ok z w) (b n : Nat) (f : Int → Option Value) (k : Int)
    (hm : a.eval m = .map (some b)) (h : MF K q w b n f) (hx : a.eval x = .int q k) (hw : (Lit.int q k).wf = true)
    (hK : wpList Try.prog ops Q rest (a.put o.dst (.tuple #[(f k).getD z, .bool (f k).isSome])) w) : wpList Try.prog ops Q (o :: rest) a w := by
  refine wpList_plain hg fun K' hK' => ?_
  have hr := h.look_ok hk ht hz hw
  unfold Oper.wp
  simp [execOp, hop, hm, hx, hr, Result.andThen]
  exact hK' _ _ hK
theorem wpList_store_mf (hg : o.guard = none) (m x v : Operand) (t : TypeId) (hop : o.op = Op.mapUpdate t m x v)
    (K e : TypeId) (q : IntKind) (hk : Try.prog.underlying K = some (.int q)) (ht : Try.prog.underlying t = some (.map K e)) (b n : Nat) (f : Int → Option Value) (k : Int) (val : Value)
    (hm : a.eval m = .map (some b)) (h : MF K q w b n f) (hn : n < maxLen) (hx : a.eval x = .int q k) (hv : a.eval v = val) (hw : (Lit.int q k).wf = true)
    (hK : ∀ w', MF K q w' b (if (f k).isSome = true then n else n + 1) (putF f k val) → Fr (fun i => i = b) w w' → wpList Try.prog ops Q rest (a.put o.dst undef) w') : wpList Try.prog ops Q (o :: rest) a w := by
  refine wpList_plain hg fun K' hK' => ?_
  obtain ⟨w', hr, h1, h2⟩ := h.store hk ht hn hw val
  unfold Oper.wp
  simp [execOp, hop, hm, hx, hv, hr, Result.andThen]
  exact hK' _ _ (hK w' h1 h2)
theorem wpList_delete_mf (hg : o.guard = none) (m x : Operand) (t K : TypeId) (hop : o.op = Op.call { callee := Callee.builtin Builtin.delete, args := #[m, x], argTypes := #[t, K] })
    (e : TypeId) (q : IntKind) (hk : Try.prog.underlying K = some (.int q)) (ht : Try.prog.underlying t = some (.map K e)) (b n : Nat) (f : Int → Option Value) (k : Int)
    (hm : a.eval m = .map (some b)) (h : MF K q w b n f) (hx : a.eval x = .int q k) (hw : (Lit.int q k).wf = true)
    (hK : ∀ w', MF K q w' b (if (f k).isSome = true then n - 1 else n) (delF f k) → Fr (fun i => i = b) w w' → wpList Try.prog ops Q rest (a.put o.dst (.tuple #[])) w') : wpList Try.prog ops Q (o :: rest) a w := by
  refine wpList_plain hg fun K' hK' => ?_
  obtain ⟨w', hr, h1, h2⟩ := h.drop hk ht hw o.type
  unfold Oper.wp
  simp [execOp, hop, resolve, invoke, builtin, hm, hx, hr, Result.andThen]
  exact hK' _ _ (hK w' h1 h2)
theorem wpList_len_mf (hg : o.guard = none) (m : Operand) (t : TypeId) (hop : o.op = Op.call { callee := Callee.builtin Builtin.len, args := #[m], argTypes := #[t] })
    (K e : TypeId) (q : IntKind) (ht : Try.prog.underlying t = some (.map K e)) (b n : Nat) (f : Int → Option Value) (hm : a.eval m = .map (some b)) (h : MF K q w b n f)
    (hK : wpList Try.prog ops Q rest (a.put o.dst (.int .i64 n)) w) : wpList Try.prog ops Q (o :: rest) a w := by
  refine wpList_plain hg fun K' hK' => ?_
  have hr := h.len ht o.type
  unfold Oper.wp
  simp [execOp, hop, resolve, invoke, builtin, hm, hr, Result.andThen]
  exact hK' _ _ hK
end
end Go.Proofs.Ytkcfhdnlmdndeaa
