/- What a row's arguments are to a walk: flat values (whole numbers and bools, structs and arrays of them) and slices of flat values. -/
import Derived.Test.YtkcfhdnlmdndeaaKit
import Derived.ProofKit
import Derived.OpenShut
import Derived.ShutString
import Derived.ChangeOld
import Derived.Below
import Derived.Deep.Slices
import Derived.WideKeyArr2
namespace Go.Proofs.Ytkcfhdnlmdndeaa
open Go.RowKit Go.ChangeShapes Go.WideShapes Go.ChangeAt
set_option linter.unusedVariables false

/-- A flat type's cells. -/
inductive Leaf where
  | i (k : IntKind)
  | b
  deriving DecidableEq
def Leaf.ok : Leaf → Value → Prop
  | .i k, v => ∃ n, v = .int k n ∧ (Lit.int k n).wf = true
  | .b, v => ∃ x, v = .bool x
def okAll : List Leaf → List Value → Prop
  | [], [] => True
  | l :: ls, v :: vs => l.ok v ∧ okAll ls vs
  | _, _ => False
theorem okAll.cons {l : Leaf} {ls : List Leaf} {c : List Value} (h : okAll (l :: ls) c) : ∃ v vs, c = v :: vs ∧ l.ok v ∧ okAll ls vs := by
  cases c with
  | nil => exact h.elim
  | cons v vs => exact ⟨v, vs, rfl, h.1, h.2⟩
theorem okAll.none {c : List Value} (h : okAll [] c) : c = [] := by
  cases c with
  | nil => rfl
  | cons v vs => exact h.elim
theorem okAll.length : ∀ {ls : List Leaf} {vs : List Value}, okAll ls vs → vs.length = ls.length
  | [], [], _ => rfl
  | _ :: _, _ :: _, h => by simp [okAll.length h.2]
theorem okAll.append : ∀ {a b : List Leaf} {u v : List Value}, okAll a u → okAll b v → okAll (a ++ b) (u ++ v)
  | [], _, [], _, _, h => h
  | _ :: _, _, _ :: _, _, h, k => ⟨h.1, okAll.append h.2 k⟩
def leaves (P : Program) : Nat → TypeId → Option (List Leaf)
  | 0, _ => none
  | n + 1, t => match P.underlying t with
    | some .bool => some [.b]
    | some (.int k) => some [.i k]
    | some (.struct fs) =>
      match fs.toList.foldl (fun acc f => match acc, leaves P n f.type with
        | some a, some ls => if f.offset = a.length ∧ P.cellsOf f.type = ls.length then some (a ++ ls) else none
        | _, _ => none) (some []) with
      | some r => if P.cellsOf t = r.length then some r else none
      | none => none
    | some (.array m e) =>
      match leaves P n e with
      | some ls => if P.cellsOf e = ls.length ∧ P.cellsOf t = m * ls.length then some (List.replicate m ls).flatten else none
      | none => none
    | _ => none

section
variable {P : Program} {w : World} {H : Type} {enc : TypeId × Value → H} {base : Nat} {spare : Nat → Bool} {held : Bool}

theorem fold_none (n : Nat) (l : List Field) : l.foldl (fun acc f => match acc, leaves P n f.type with
        | some a, some ls => if f.offset = a.length ∧ P.cellsOf f.type = ls.length then some (a ++ ls) else none
        | _, _ => none) none = none := by
  induction l with
  | nil => rfl
  | cons f l ih => simpa using ih

theorem leaves_ok : ∀ (n : Nat) (t : TypeId) (ls : List Leaf) (fuel : Nat) (cs : List Value) (x : DataW H × List MemPlace),
    leaves P n t = some ls → DataW.trod enc P w base spare held fuel t cs = some x → okAll ls cs := by
  intro n
  induction n with
  | zero => intro t ls fuel cs x h; simp [leaves] at h
  | succ n ih =>
    intro t ls fuel cs x h hx
    unfold leaves at h
    split at h
    · rename_i hu
      obtain rfl := Option.some.inj h
      cases fuel with
      | zero => simp [DataW.trod] at hx
      | succ fuel =>
        unfold DataW.trod at hx
        rw [hu] at hx
        split at hx <;> simp_all [okAll, Leaf.ok]
    · rename_i k hu
      obtain rfl := Option.some.inj h
      obtain ⟨a, e0, _, wa⟩ := DataW.trod_int hu hx
      subst e0
      exact ⟨⟨a, rfl, wa⟩, trivial⟩
    · rename_i fs hu
      obtain ⟨xs, m, rfl, _, hlen, hsz, hf⟩ := DataW.trod_struct hu hx
      split at h
      · rename_i r hr
        split at h
        · rename_i hc
          obtain rfl := Option.some.inj h
          have key : ∀ (l : List Field) (p : List Field) (a r : List Leaf), fs.toList = p ++ l → okAll a (cs.take a.length) → a.length ≤ cs.length →
              l.foldl (fun acc f => match acc, leaves P n f.type with
                | some a, some ls => if f.offset = a.length ∧ P.cellsOf f.type = ls.length then some (a ++ ls) else none
                | _, _ => none) (some a) = some r → okAll r (cs.take r.length) := by
            intro l
            induction l with
            | nil => intro p a r _ ha _ hr; simp only [List.foldl_nil, Option.some.injEq] at hr; subst hr; exact ha
            | cons f l ihl =>
              intro p a r hp ha hal hr
              rw [List.foldl_cons] at hr
              cases hlf : leaves P n f.type with
              | none => rw [hlf] at hr; simp only at hr; rw [fold_none] at hr; cases hr
              | some lf =>
                rw [hlf] at hr
                simp only at hr
                split at hr
                · rename_i hoc
                  have hi : fs[p.length]? = some f := by rw [← Array.getElem?_toList, hp]; simp
                  have hq := hf p.length f hi
                  have hil : p.length < fs.size := by have := (Array.getElem?_eq_some_iff.1 hi).1; exact this
                  rw [List.getElem?_eq_getElem (by omega : p.length < xs.length)] at hq
                  have ho := ih _ _ _ _ _ hlf hq
                  rw [hoc.1, hoc.2] at ho
                  have hll := ho.length
                  simp only [List.length_take, List.length_drop] at hll
                  have hb : okAll (a ++ lf) (cs.take (a ++ lf).length) := by
                    rw [List.length_append, List.take_add]
                    exact ha.append ho
                  exact ihl (p ++ [f]) (a ++ lf) r (by simpa using hp) hb (by rw [List.length_append]; omega) hr
                · rw [fold_none] at hr; cases hr
          have := key fs.toList [] [] r (by simp) trivial (by simp) hr
          rwa [List.take_of_length_le (by omega)] at this
        · cases h
      · cases h
    · rename_i m e hu
      split at h
      · rename_i le he
        split at h
        · rename_i hc
          obtain rfl := Option.some.inj h
          obtain ⟨xs, q, rfl, _, hlen, hxs, hf⟩ := DataW.trod_array hu hx
          have key : ∀ i, i ≤ m → okAll (List.replicate i le).flatten (cs.take (i * le.length)) := by
            intro i
            induction i with
            | zero => intro _; simp [okAll]
            | succ i ihi =>
              intro hi
              have hq := hf i (by omega)
              rw [List.getElem?_eq_getElem (by omega : i < xs.length)] at hq
              have ho := ih _ _ _ _ _ he hq
              rw [hc.1] at ho
              rw [List.replicate_succ', List.flatten_append, Nat.succ_mul, List.take_add]
              simpa using (ihi (by omega)).append ho
          have := key m (Nat.le_refl _)
          rwa [List.take_of_length_le (by omega)] at this
        · cases h
      · cases h
    · cases h

/-- An argument that is a struct or an array of flat values. -/
theorem open_flat {t : TypeId} {n : Nat} {ls : List Leaf} {v : Value} {d : DataW H} {p : List MemPlace} {r : Reach} {b0 : Nat} (hl : leaves P n t = some ls)
    (hagg : (match P.underlying t with | some (.struct _) => true | some (.array _ _) => true | _ => false) = true)
    (hv : Value.okWide P w r b0 t v) (h : DataW.Trod enc P w base spare held t v d p) : ∃ cs : List Value, v = .agg cs.toArray ∧ okAll ls cs := by
  obtain ⟨fuel, hf⟩ := h
  have hk := leaves_ok n t ls fuel _ _ hl hf
  have hx : ∃ cs : Array Value, v = .agg cs := by
    unfold Value.okWide at hv
    split at hagg
    · rename_i fs hu
      rw [hu] at hv
      obtain ⟨cs, h1, _⟩ := hv
      exact ⟨cs, h1⟩
    · rename_i m e hu
      rw [hu] at hv
      obtain ⟨cs, h1, _⟩ := hv
      exact ⟨cs, h1⟩
    · cases hagg
  obtain ⟨cs, rfl⟩ := hx
  exact ⟨cs.toList, by simp, by simpa [Value.cells] using hk⟩

/-- A slice of flat values: nil or empty, or a row of elements, each as its type asks. -/
def RdS (ls : List Leaf) (w : World) (A : Option Addr) (len cap : Nat) : Prop :=
  (len = 0 ∧ len ≤ cap ∧ cap ≤ maxLen) ∨ ∃ b off, A = some ⟨b, off, none⟩ ∧ len ≤ cap ∧ cap ≤ maxLen ∧ b < w.heap.size ∧ ∃ R : Nat → List Value, ∀ i, i < len → okAll ls (R i) ∧ ∀ j v, (R i)[j]? = some v → w.cell? ⟨b, off + i * ls.length + j, none⟩ = some v

theorem open_flats {t e : TypeId} {n : Nat} {ls : List Leaf} {A : Option Addr} {len cap : Nat} {d : DataW H} {p : List MemPlace} (ht : P.underlying t = some (.slice e)) (hl : leaves P n e = some ls)
    (hc : P.cellsOf e = ls.length) (hp : 0 < ls.length) (h : DataW.Trod enc P w base spare held t (.slice A len cap) d p) : RdS ls w A len cap := by
  obtain ⟨fuel, hf⟩ := h
  rcases Go.Deep.open_slice ht hf with ⟨hcs, _⟩ | ⟨a, l, c, m, q, D, Pl, hcs, _, hlc, hcm, hm, _, hx⟩
  · simp [Value.cells] at hcs
    obtain ⟨rfl, rfl, rfl⟩ := hcs
    exact .inl ⟨rfl, by simp, by simp⟩
  · simp [Value.cells] at hcs
    obtain ⟨rfl, rfl, rfl⟩ := hcs
    have hlm : len ≤ m := by rw [hm]; split <;> omega
    rcases Nat.eq_zero_or_pos len with h0 | h0
    · exact .inl ⟨h0, hlc, hcm⟩
    · have hR : ∀ i, ∃ cs : List Value, i < len → okAll ls cs ∧ ∀ j, j < ls.length → w.cell? (a.add (i * ls.length + j)) = cs[j]? := by
        intro i
        by_cases hi : i < len
        · obtain ⟨cs, h1, h2⟩ := hx i (by omega)
          have ho := leaves_ok n e ls _ _ _ hl h2
          obtain ⟨_, h4, h5⟩ := World.cells?_some h1
          rw [hc] at h4 h5
          refine ⟨cs, fun _ => ⟨ho, fun j hj => ?_⟩⟩
          have := h5 j hj
          rwa [show (a.add (i * ls.length)).add j = a.add (i * ls.length + j) from by
            unfold Addr.add; split <;> split <;> split <;> simp_all <;> omega] at this
        · exact ⟨[], fun h => absurd h hi⟩
      obtain ⟨R, hR⟩ := Classical.axiomOfChoice hR
      obtain ⟨b, off, spot⟩ := a
      have h00 := (hR 0 h0).2 0 hp
      have hlen0 := (hR 0 h0).1.length
      have hs : spot = none := by
        rw [List.getElem?_eq_getElem (by omega)] at h00
        cases spot with
        | none => rfl
        | some s => simp only [Nat.zero_mul, Nat.zero_add, Addr.add, World.cell?] at h00; simp at h00; split at h00 <;> simp_all
      subst hs
      have hadd : ∀ k, (⟨b, off, none⟩ : Addr).add k = ⟨b, off + k, none⟩ := by intro k; unfold Addr.add; split <;> simp_all
      refine .inr ⟨b, off, rfl, hlc, hcm, ?_, R, fun i hi => ⟨(hR i hi).1, fun j v hj => ?_⟩⟩
      · rw [hadd, List.getElem?_eq_getElem (by omega)] at h00
        exact World.block_lt_of_cell? w _ h00
      · have hjl := (List.getElem?_eq_some_iff.1 hj).1
        rw [(hR i hi).1.length] at hjl
        have := (hR i hi).2 j hjl
        rw [hadd] at this
        rw [← hj, ← this, Nat.add_assoc]
/-- An element of a slice of whole numbers. -/
theorem RdS.num {k : IntKind} {A : Option Addr} {len cap i : Nat} (h : RdS [.i k] w A len cap) (hi : i < len) :
    ∃ b off n, A = some ⟨b, off, none⟩ ∧ w.cell? ⟨b, off + i, none⟩ = some (.int k n) ∧ (Lit.int k n).wf = true ∧ b < w.heap.size := by
  rcases h with ⟨h, _⟩ | ⟨b, off, rfl, _, _, hb, R, hR⟩
  · omega
  · obtain ⟨ho, hc⟩ := hR i hi
    match hq : R i, ho with
    | [v], ho =>
      obtain ⟨n, rfl, hn⟩ := ho.1
      have := hc 0 (.int k n) (by rw [hq]; rfl)
      exact ⟨b, off, n, rfl, by simpa using this, hn, hb⟩
/-- An element of a slice of flat values: its cells. -/
theorem RdS.at {ls : List Leaf} {A : Option Addr} {len cap i : Nat} (h : RdS ls w A len cap) (hi : i < len) :
    ∃ b off vs, A = some ⟨b, off, none⟩ ∧ okAll ls vs ∧ (∀ j v, vs[j]? = some v → w.cell? ⟨b, off + i * ls.length + j, none⟩ = some v) ∧ b < w.heap.size := by
  rcases h with ⟨h, _⟩ | ⟨b, off, rfl, _, _, hb, R, hR⟩
  · omega
  · exact ⟨b, off, R i, rfl, (hR i hi).1, (hR i hi).2, hb⟩
theorem RdS.len_le {ls : List Leaf} {A : Option Addr} {len cap : Nat} (h : RdS ls w A len cap) : len ≤ 9223372036854775807 := by
  rcases h with ⟨h, _⟩ | ⟨_, _, _, h1, h2, _⟩ <;> (try unfold maxLen at *) <;> omega
end
end Go.Proofs.Ytkcfhdnlmdndeaa
