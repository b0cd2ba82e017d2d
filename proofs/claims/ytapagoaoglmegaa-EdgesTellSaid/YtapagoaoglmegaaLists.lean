/- A slice that reads as a list of values (one cell each), wherever it begins in its block; append of such a slice. -/
import Derived.Test.YtapagoaoglmegaaKit
import Derived.Maps.AppendAt
import Derived.OwnWalk
namespace Go.Proofs.Ytapagoaoglmegaa
open Go.RowKit
set_option linter.unusedVariables false

/-- The slice v, over cells of type e, reads as the values l. -/
def Lst (w : World) (e : TypeId) (v : Value) (l : List Value) : Prop :=
  ∃ A cap, v = .slice A l.length cap ∧ l.length ≤ cap ∧ cap ≤ maxLen ∧
    (l = [] ∨ ∃ r off cs, A = some ⟨r, off, none⟩ ∧ Blk w r cs e ∧ ∀ i u, l[i]? = some u → cs[off + i]? = some u)
theorem Lst.nil (w : World) (e : TypeId) : Lst w e (.slice none 0 0) [] := ⟨none, 0, rfl, by simp, by simp, .inl rfl⟩
theorem Lst.fr {w w' : World} {e : TypeId} {v : Value} {l : List Value} {S : Nat → Prop} (h : Lst w e v l) (k : Fr S w w') (hS : ∀ r cs, S r → ¬ Blk w r cs e) : Lst w' e v l := by
  obtain ⟨A, cap, hv, hl, hm, h⟩ := h
  refine ⟨A, cap, hv, hl, hm, ?_⟩
  rcases h with h | ⟨r, off, cs, hA, hb, hc⟩
  · exact .inl h
  · exact .inr ⟨r, off, cs, hA, hb.fr k (fun hs => hS r cs hs hb), hc⟩
theorem Lst.drewN {w : World} {e : TypeId} {v : Value} {l : List Value} (h : Lst w e v l) (n : Nat) : Lst (w.drewN n) e v l := h
theorem Lst.drew {w : World} {e : TypeId} {v : Value} {l : List Value} (h : Lst w e v l) : Lst w.drew e v l := h
/-- An element's cell. -/
theorem Lst.get {w : World} {e : TypeId} {A : Option Addr} {len cap i : Nat} {l : List Value} {u : Value} (h : Lst w e (.slice A len cap) l) (hi : l[i]? = some u) :
    ∃ r off, A = some ⟨r, off, none⟩ ∧ w.cell? ⟨r, off + i, none⟩ = some u ∧ r < w.heap.size := by
  obtain ⟨A', cap', hv, _, _, h⟩ := h
  injection hv with h1 h2 h3
  subst h1
  rcases h with h | ⟨r, off, cs, hA, hb, hc⟩
  · subst h; simp at hi
  · exact ⟨r, off, hA, by rw [hb.cell]; exact hc i u hi, hb.lt⟩
theorem Lst.form {w : World} {e : TypeId} {v : Value} {l : List Value} (h : Lst w e v l) : ∃ A cap, v = .slice A l.length cap ∧ l.length ≤ cap ∧ cap ≤ maxLen := by
  obtain ⟨A, cap, hv, hl, hm, _⟩ := h
  exact ⟨A, cap, hv, hl, hm⟩
/-- What the call owns reads as a list. -/
theorem Lst.of_own {w : World} {base : Nat} {e : TypeId} {v : Value} {n : Nat} {l : List Value} (h : w.ownsRow base e 1 v n l) : Lst w e v l := by
  obtain ⟨hl, h⟩ := h
  rw [Nat.mul_one] at hl
  rcases h with ⟨rfl, h0⟩ | ⟨g, cap, cur, rfl, _, hh, hn, hm, hs, ht⟩
  · subst h0
    obtain rfl : l = [] := List.eq_nil_of_length_eq_zero hl
    exact Lst.nil w e
  · subst hl
    refine ⟨_, cap, rfl, hn, hm, .inr ⟨g, 0, cur, rfl, hh, fun i u hi => ?_⟩⟩
    rw [Nat.mul_one] at ht
    rw [← ht, List.getElem?_take] at hi
    split at hi
    · rw [Nat.zero_add, ← Array.getElem?_toList]; exact hi
    · cases hi
/-- The slice from k on. -/
theorem Lst.drop {w : World} {e : TypeId} {r off len cap k : Nat} {l : List Value} (h : Lst w e (.slice (some ⟨r, off, none⟩) len cap) l) (hk : k ≤ l.length) :
    Lst w e (.slice (some ⟨r, off + k, none⟩) (len - k) (cap - k)) (l.drop k) := by
  obtain ⟨A, cap', hv, hl, hm, h⟩ := h
  injection hv with h1 h2 h3
  subst h1 h2 h3
  refine ⟨some ⟨r, off + k, none⟩, cap - k, by simp, by simp; omega, by omega, ?_⟩
  rcases h with h | ⟨r', off', cs, hA, hb, hc⟩
  · exact .inl (by subst h; simp)
  · injection hA with hA
    injection hA with e1 e2
    subst e1 e2
    refine .inr ⟨r, off + k, cs, rfl, hb, fun i u hi => ?_⟩
    rw [List.getElem?_drop] at hi
    have := hc (k + i) u hi
    rwa [← Nat.add_assoc] at this
/-- A block of the call's own, just made, as a list. -/
theorem Lst.new (w : World) (e : TypeId) (l : List Value) (hl : l ≠ []) (hm : l.length ≤ maxLen) : Lst (w.alloc (.cells l.toArray e)) e (.slice (some ⟨w.heap.size, 0, none⟩) l.length l.length) l :=
  ⟨_, _, rfl, Nat.le_refl _, hm, .inr ⟨w.heap.size, 0, l.toArray, rfl, Blk.new _ _ _, fun i u hi => by simpa using hi⟩⟩

section
variable {P : Program} {ops : Array Oper} {rest : List Oper} {o : Oper} {a : Act} {Q : Exit → Act → World → Prop} {w : World}
theorem run_append_zero (t ty e : TypeId) (i : TypeInfo) (ht : P.underlying t = some (.slice e)) (hi : P.info? e = some i) (A B : Option Addr) (n c cc : Nat) (hn : n ≤ c) :
    (Builtin.append_ #[t, t] ty #[.slice A n c, .slice B 0 cc]).run P w = .ok (.slice A n c) w := by
  have hs : (sizeOf e).run P w = .ok i.size w := by simp [sizeOf, typeInfo, hi]
  have hu := run_underlying (P := P) (w := w) ht
  cases A <;> cases B <;> simp [Builtin.append_, hu, hs, Builtin.lenOf, Builtin.firstCells, loadCells, loadCellsFrom, storeCells, hn]
/-- append(v, src...) onto a row of the call's own, src a slice that reads as a list (nil and empty too). -/
theorem wpList_append_lst (hgd : o.guard = none) (s x : Operand) (t : TypeId)
    (ho : o.op = .call { callee := .builtin .append, args := #[s, x], argTypes := #[t, t] })
    (base : Nat) (e : TypeId) (z : Value) (bytes : Nat) (ht : P.underlying t = some (.slice e)) (hinfo : (P.info? e).map (fun i => (i.zero, i.size, i.bytes)) = some (some z, 1, bytes)) (hz : z.cells.size = 1)
    (v sv : Value) (xs news : List Value) (hs : a.eval s = v) (hx : a.eval x = sv) (hown : w.ownsRow base e 1 v xs.length xs) (hsrc : Lst w e sv news) (h1 : ∀ u ∈ news, u.oneCell' = true)
    (hlen : xs.length + news.length ≤ maxLen) (hbytes : (xs.length + news.length) * bytes ≤ 140737488355328) (hbase : base ≤ w.heap.size)
    (h : ∀ v' w', w'.ownsRow base e 1 v' (xs ++ news).length (xs ++ news) → w.grownBy w' v.ownBlock → (v'.ownBlock = v.ownBlock ∨ v'.ownBlock = some w.heap.size) → wpList P ops Q rest (a.put o.dst v') w') :
    wpList P ops Q (o :: rest) a w := by
  obtain ⟨i0, hi, hzz⟩ := Option.map_eq_some_iff.1 hinfo
  simp only [Prod.mk.injEq] at hzz
  obtain ⟨hz0, hz1, hz2⟩ := hzz
  by_cases hn : news = []
  · subst hn
    obtain ⟨B, cc, rfl, _, _⟩ := hsrc.form
    simp only [List.append_nil] at h
    refine wpList_plain hgd fun K hK => ?_
    have hv : ∃ A c, v = .slice A xs.length c ∧ xs.length ≤ c := by
      rcases hown.2 with ⟨rfl, h0⟩ | ⟨g, cap, cur, rfl, _, _, hc, _⟩
      · exact ⟨none, 0, by rw [h0], by omega⟩
      · exact ⟨_, cap, rfl, hc⟩
    obtain ⟨A, c, rfl, hc⟩ := hv
    unfold Oper.wp execOp
    simp only [ho, resolve, invoke, builtin, Sem.run_bind, Sem.run_pure, Result.andThen_ok, List.map_toArray, List.map_cons, List.map_nil, hs, hx]
    rw [show ([] : List Value).length = 0 from rfl, run_append_zero t o.type e i0 ht hi A B xs.length c cc hc]
    exact hK _ _ (h _ _ hown ⟨rfl, rfl, rfl, Nat.le_refl _, fun _ _ _ => rfl⟩ (.inl rfl))
  · obtain ⟨u, hu⟩ : ∃ u, news[0]? = some u := by
      cases news with
      | nil => exact absurd rfl hn
      | cons u l => exact ⟨u, rfl⟩
    obtain ⟨B, cc, rfl, _, _⟩ := hsrc.form
    obtain ⟨r, off, rfl, _, _⟩ := hsrc.get hu
    have hadd : ∀ k, (⟨r, off, none⟩ : Addr).add k = ⟨r, off + k, none⟩ := by intro k; unfold Addr.add; split <;> simp_all
    refine wpList_append_own_at (P := P) (w := w) hgd s x t ho base e i0 z 1 bytes ht hi hz0 hz1 hz2 hz (by decide) v xs.length xs hs hown ⟨r, off, none⟩ news.length cc news hx (by simp) ?_ h1 hlen hbytes hbase ?_
    · intro j u hj
      rw [hadd]
      obtain ⟨r', off', e1, e2, _⟩ := hsrc.get hj
      injection e1 with e1
      injection e1 with e3 e4
      subst e3 e4
      exact e2
    · intro v' w' h2 h3 _ h5
      exact h v' w' (by rw [List.length_append]; exact h2) h3 h5
end
theorem Fr.grown {S : Nat → Prop} {a w w' : World} {row : Option Nat} (h : Fr S a w) (g : w.grownBy w' row) (hr : ∀ k, row = some k → a.heap.size ≤ k ∨ S k) : Fr S a w' :=
  ⟨g.os.trans h.os, g.tape.trans h.tape, g.output.trans h.output, Nat.le_trans h.size g.size, fun k hk hn => (g.block k (Nat.lt_of_lt_of_le hk h.size) (fun e => by
    rcases hr k e.symm with h' | h'
    · omega
    · exact hn h')).trans (h.block k hk hn)⟩
end Go.Proofs.Ytapagoaoglmegaa
