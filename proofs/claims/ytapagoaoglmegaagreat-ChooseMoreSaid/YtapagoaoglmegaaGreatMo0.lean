/- Texts of mine, joined by shake.py: Kit, Open, MapF. -/
import Derived.WalkKit
import Derived.WalkSpells
import Derived.WalkLawsBesides
import Derived.Handy
import Derived.Deep.QuietTactic
import Derived.BigQuiet
import Derived.ProofKit
import Derived.OpenShut
import Derived.ShutString
import Derived.ChangeOld
import Derived.Below
import Derived.Deep.Slices
import Derived.WideKeyArr2
import Derived.Test.YtapagoaoglmegaaGreatProg
import Derived.Maps.OwnOps
import Derived.Maps.OwnSet
import Derived.Maps.Views
import Derived.StillTailTactics
section
namespace Go.Proofs.YtapagoaoglmegaaGreat
open Go.RowKit
structure Fr (S : Nat → Prop) (w w' : World) : Prop where
  os : w'.os = w.os
  tape : w'.tape = w.tape
  output : w'.output = w.output
  size : w.heap.size ≤ w'.heap.size
  block : ∀ k, k < w.heap.size → ¬ S k → w'.heap[k]? = w.heap[k]?
theorem Fr.refl (S : Nat → Prop) (w : World) : Fr S w w := ⟨rfl, rfl, rfl, Nat.le_refl _, fun _ _ _ => rfl⟩
theorem Fr.trans {S T : Nat → Prop} {a b c : World} (h : Fr S a b) (k : Fr T b c) (hs : ∀ i, i < a.heap.size → T i → S i) : Fr S a c :=
  ⟨k.os.trans h.os, k.tape.trans h.tape, k.output.trans h.output, Nat.le_trans h.size k.size,
    fun i hi hn => (k.block i (Nat.lt_of_lt_of_le hi h.size) (fun ht => hn (hs i hi ht))).trans (h.block i hi hn)⟩
theorem Fr.mono {S T : Nat → Prop} {a b : World} (h : Fr S a b) (hs : ∀ i, i < a.heap.size → S i → T i) : Fr T a b :=
  ⟨h.os, h.tape, h.output, h.size, fun i hi hn => h.block i hi (fun hk => hn (hs i hi hk))⟩
theorem Fr.alloc {S : Nat → Prop} {a w : World} (h : Fr S a w) (o : Obj) : Fr S a (w.alloc o) :=
  ⟨h.os, h.tape, h.output, by have := h.size; simp; omega, fun i hi hn => by
    rw [Below.heap_alloc _ _ _ (Nat.lt_of_lt_of_le hi h.size)]; exact h.block i hi hn⟩
theorem Fr.drew {S : Nat → Prop} {a w : World} (h : Fr S a w) : Fr S a w.drew := ⟨h.os, h.tape, h.output, h.size, h.block⟩
theorem Fr.drewN {S : Nat → Prop} {a w : World} (h : Fr S a w) (n : Nat) : Fr S a (w.drewN n) := ⟨h.os, h.tape, h.output, h.size, h.block⟩
theorem Fr.setCell {S : Nat → Prop} {a w : World} (h : Fr S a w) (p : Addr) (v : Value) (hp : a.heap.size ≤ p.block ∨ S p.block) : Fr S a (w.setCell p v) :=
  ⟨h.os, h.tape, h.output, by have := h.size; simp [World.setCell]; omega, fun i hi hn => by
    rw [Below.heap_setCell _ _ _ _ (fun e => by subst e; exact hp.elim (fun hp => by omega) hn)]; exact h.block i hi hn⟩
theorem Fr.below {w w' : World} (h : Fr (fun _ => False) w w') : Below w.heap.size w w' := ⟨h.os, h.tape, h.output, h.size, fun k hk => h.block k hk (fun h => h)⟩
theorem Fr.of_below {B : Nat} {w w' : World} (h : Below B w w') (hB : w.heap.size ≤ B) (S : Nat → Prop) : Fr S w w' := ⟨h.os, h.tape, h.output, h.size, fun k hk _ => h.block k (by omega)⟩
theorem Fr.lt {S : Nat → Prop} {w w' : World} (h : Fr S w w') {b : Nat} (hb : b < w.heap.size) : b < w'.heap.size := Nat.lt_of_lt_of_le hb h.size
def Blk (w : World) (b : Nat) (cs : Array Value) (t : TypeId) : Prop := w.heap[b]? = some (.cells cs t (0, 0))
theorem Blk.lt {w : World} {b : Nat} {cs : Array Value} {t : TypeId} (h : Blk w b cs t) : b < w.heap.size := (Array.getElem?_eq_some_iff.1 h).1
theorem Blk.cell {w : World} {b : Nat} {cs : Array Value} {t : TypeId} (h : Blk w b cs t) (i : Nat) : w.cell? ⟨b, i, none⟩ = cs[i]? := by
  unfold Blk at h; simp [World.cell?, h]
theorem Blk.free {w : World} {b : Nat} {cs : Array Value} {t : TypeId} (h : Blk w b cs t) (i : Nat) : w.frozen? ⟨b, i, none⟩ = false := by
  unfold Blk at h; simp [World.frozen?, h]
theorem Blk.alloc {w : World} {b : Nat} {cs : Array Value} {t : TypeId} (h : Blk w b cs t) (o : Obj) : Blk (w.alloc o) b cs t := by
  unfold Blk; rw [Below.heap_alloc _ _ _ h.lt]; exact h
theorem Blk.new (w : World) (cs : Array Value) (t : TypeId) : Blk (w.alloc (.cells cs t)) w.heap.size cs t := by
  show (w.heap.push _)[w.heap.size]? = _; simp
theorem Blk.new' (w : World) (cs : Array Value) (t : TypeId) {b : Nat} (hb : b = w.heap.size) : Blk (w.alloc (.cells cs t)) b cs t := by
  subst hb; exact Blk.new w cs t
theorem Blk.drew {w : World} {b : Nat} {cs : Array Value} {t : TypeId} (h : Blk w b cs t) : Blk w.drew b cs t := h
theorem Blk.drewN {w : World} {b : Nat} {cs : Array Value} {t : TypeId} (h : Blk w b cs t) (n : Nat) : Blk (w.drewN n) b cs t := h
theorem Blk.set {w : World} {b : Nat} {cs cs' : Array Value} {t : TypeId} {i : Nat} {v : Value} (h : Blk w b cs t) (e : cs.setIfInBounds i v = cs') : Blk (w.setCell ⟨b, i, none⟩ v) b cs' t := by
  unfold Blk at h ⊢; simp only [World.setCell, Array.getElem?_modify, if_pos, h]; simp [e]
theorem Blk.other {w : World} {b : Nat} {cs : Array Value} {t : TypeId} {p : Addr} {v : Value} (h : Blk w b cs t) (hp : p.block ≠ b) : Blk (w.setCell p v) b cs t := by
  unfold Blk; rw [Below.heap_setCell _ _ _ _ (Ne.symm hp)]; exact h
theorem Blk.fr {w w' : World} {b : Nat} {cs : Array Value} {t : TypeId} {S : Nat → Prop} (h : Blk w b cs t) (f : Fr S w w') (hb : ¬ S b) : Blk w' b cs t :=
  (f.block b h.lt hb).trans h
theorem Blk.one {w : World} {b : Nat} {cs ds : Array Value} {t u : TypeId} (h : Blk w b cs t) (k : Blk w b ds u) : cs = ds ∧ t = u := by
  unfold Blk at h k; rw [h] at k; simpa using k
theorem lt8 {b n : Nat} (h : b < n) : b < n + 1 ∧ b < n+1+1 ∧ b < n+1+1+1 ∧ b < n+1+1+1+1 ∧ b < n+1+1+1+1+1 ∧ b < n+1+1+1+1+1+1 := by omega
theorem Fr.cell {S : Nat → Prop} {w w' : World} (h : Fr S w w') {a : Addr} (ha : a.block < w.heap.size) (hs : ¬ S a.block) : w'.cell? a = w.cell? a :=
  World.cell?_of_block (w := w) (h.block _ ha hs)
end Go.Proofs.YtapagoaoglmegaaGreat
namespace Go.Proofs.YtapagoaoglmegaaGreat
open Go.RowKit Go.ChangeShapes Go.WideShapes Go.ChangeAt
set_option linter.unusedVariables false
inductive Leaf where
  | i (k : IntKind)
  | b
  deriving DecidableEq
def Leaf.ok : Leaf → Value → Prop
  | .i k, v => ∃ n, v = .int k n ∧ (Lit.int k n).wf = true
  | .b, v => ∃ x, v = .bool x
def okAll : List Leaf → List Value → Prop
  | [], [] => True
  | l :: ls, v :: vs => l.ok v ∧ okAll ls vs
  | _, _ => False
theorem okAll.cons {l : Leaf} {ls : List Leaf} {c : List Value} (h : okAll (l :: ls) c) : ∃ v vs, c = v :: vs ∧ l.ok v ∧ okAll ls vs := by
  cases c with
  | nil => exact h.elim
  | cons v vs => exact ⟨v, vs, rfl, h.1, h.2⟩
theorem okAll.none {c : List Value} (h : okAll [] c) : c = [] := by
  cases c with
  | nil => rfl
  | cons v vs => exact h.elim
theorem okAll.length : ∀ {ls : List Leaf} {vs : List Value}, okAll ls vs → vs.length = ls.length
  | [], [], _ => rfl
  | _ :: _, _ :: _, h => by simp [okAll.length h.2]
theorem okAll.append : ∀ {a b : List Leaf} {u v : List Value}, okAll a u → okAll b v → okAll (a ++ b) (u ++ v)
  | [], _, [], _, _, h => h
  | _ :: _, _, _ :: _, _, h, k => ⟨h.1, okAll.append h.2 k⟩
def leaves (P : Program) : Nat → TypeId → Option (List Leaf)
  | 0, _ => none
  | n + 1, t => match P.underlying t with
    | some .bool => some [.b]
    | some (.int k) => some [.i k]
    | some (.struct fs) =>
      match fs.toList.foldl (fun acc f => match acc, leaves P n f.type with
        | some a, some ls => if f.offset = a.length ∧ P.cellsOf f.type = ls.length then some (a ++ ls) else none
        | _, _ => none) (some []) with
      | some r => if P.cellsOf t = r.length then some r else none
      | none => none
    | some (.array m e) =>
      match leaves P n e with
      | some ls => if P.cellsOf e = ls.length ∧ P.cellsOf t = m * ls.length then some (List.replicate m ls).flatten else none
      | none => none
    | _ => none
section
variable {P : Program} {w : World} {H : Type} {enc : TypeId × Value → H} {base : Nat} {spare : Nat → Bool} {held : Bool}
theorem fold_none (n : Nat) (l : List Field) : l.foldl (fun acc f => match acc, leaves P n f.type with
        | some a, some ls => if f.offset = a.length ∧ P.cellsOf f.type = ls.length then some (a ++ ls) else none
        | _, _ => none) none = none := by
  induction l with
  | nil => rfl
  | cons f l ih => simpa using ih
theorem leaves_ok : ∀ (n : Nat) (t : TypeId) (ls : List Leaf) (fuel : Nat) (cs : List Value) (x : DataW H × List MemPlace),
    leaves P n t = some ls → DataW.trod enc P w base spare held fuel t cs = some x → okAll ls cs := by
  intro n
  induction n with
  | zero => intro t ls fuel cs x h; simp [leaves] at h
  | succ n ih =>
    intro t ls fuel cs x h hx
    unfold leaves at h
    split at h
    · rename_i hu
      obtain rfl := Option.some.inj h
      cases fuel with
      | zero => simp [DataW.trod] at hx
      | succ fuel =>
        unfold DataW.trod at hx
        rw [hu] at hx
        split at hx <;> simp_all [okAll, Leaf.ok]
    · rename_i k hu
      obtain rfl := Option.some.inj h
      obtain ⟨a, e0, _, wa⟩ := DataW.trod_int hu hx
      subst e0
      exact ⟨⟨a, rfl, wa⟩, trivial⟩
    · rename_i fs hu
      obtain ⟨xs, m, rfl, _, hlen, hsz, hf⟩ := DataW.trod_struct hu hx
      split at h
      · rename_i r hr
        split at h
        · rename_i hc
          obtain rfl := Option.some.inj h
          have key : ∀ (l : List Field) (p : List Field) (a r : List Leaf), fs.toList = p ++ l → okAll a (cs.take a.length) → a.length ≤ cs.length →
              l.foldl (fun acc f => match acc, leaves P n f.type with
                | some a, some ls => if f.offset = a.length ∧ P.cellsOf f.type = ls.length then some (a ++ ls) else none
                | _, _ => none) (some a) = some r → okAll r (cs.take r.length) := by
            intro l
            induction l with
            | nil => intro p a r _ ha _ hr; simp only [List.foldl_nil, Option.some.injEq] at hr; subst hr; exact ha
            | cons f l ihl =>
              intro p a r hp ha hal hr
              rw [List.foldl_cons] at hr
              cases hlf : leaves P n f.type with
              | none => rw [hlf] at hr; simp only at hr; rw [fold_none] at hr; cases hr
              | some lf =>
                rw [hlf] at hr
                simp only at hr
                split at hr
                · rename_i hoc
                  have hi : fs[p.length]? = some f := by rw [← Array.getElem?_toList, hp]; simp
                  have hq := hf p.length f hi
                  have hil : p.length < fs.size := by have := (Array.getElem?_eq_some_iff.1 hi).1; exact this
                  rw [List.getElem?_eq_getElem (by omega : p.length < xs.length)] at hq
                  have ho := ih _ _ _ _ _ hlf hq
                  rw [hoc.1, hoc.2] at ho
                  have hll := ho.length
                  simp only [List.length_take, List.length_drop] at hll
                  have hb : okAll (a ++ lf) (cs.take (a ++ lf).length) := by
                    rw [List.length_append, List.take_add]
                    exact ha.append ho
                  exact ihl (p ++ [f]) (a ++ lf) r (by simpa using hp) hb (by rw [List.length_append]; omega) hr
                · rw [fold_none] at hr; cases hr
          have := key fs.toList [] [] r (by simp) trivial (by simp) hr
          rwa [List.take_of_length_le (by omega)] at this
        · cases h
      · cases h
    · rename_i m e hu
      split at h
      · rename_i le he
        split at h
        · rename_i hc
          obtain rfl := Option.some.inj h
          obtain ⟨xs, q, rfl, _, hlen, hxs, hf⟩ := DataW.trod_array hu hx
          have key : ∀ i, i ≤ m → okAll (List.replicate i le).flatten (cs.take (i * le.length)) := by
            intro i
            induction i with
            | zero => intro _; simp [okAll]
            | succ i ihi =>
              intro hi
              have hq := hf i (by omega)
              rw [List.getElem?_eq_getElem (by omega : i < xs.length)] at hq
              have ho := ih _ _ _ _ _ he hq
              rw [hc.1] at ho
              rw [List.replicate_succ', List.flatten_append, Nat.succ_mul, List.take_add]
              simpa using (ihi (by omega)).append ho
          have := key m (Nat.le_refl _)
          rwa [List.take_of_length_le (by omega)] at this
        · cases h
      · cases h
    · cases h
def RdS (ls : List Leaf) (w : World) (A : Option Addr) (len cap : Nat) : Prop :=
  (len = 0 ∧ len ≤ cap ∧ cap ≤ maxLen) ∨ ∃ b off, A = some ⟨b, off, none⟩ ∧ len ≤ cap ∧ cap ≤ maxLen ∧ b < w.heap.size ∧ ∃ R : Nat → List Value, ∀ i, i < len → okAll ls (R i) ∧ ∀ j v, (R i)[j]? = some v → w.cell? ⟨b, off + i * ls.length + j, none⟩ = some v
theorem open_flats {t e : TypeId} {n : Nat} {ls : List Leaf} {A : Option Addr} {len cap : Nat} {d : DataW H} {p : List MemPlace} (ht : P.underlying t = some (.slice e)) (hl : leaves P n e = some ls)
    (hc : P.cellsOf e = ls.length) (hp : 0 < ls.length) (h : DataW.Trod enc P w base spare held t (.slice A len cap) d p) : RdS ls w A len cap := by
  obtain ⟨fuel, hf⟩ := h
  rcases Go.Deep.open_slice ht hf with ⟨hcs, _⟩ | ⟨a, l, c, m, q, D, Pl, hcs, _, hlc, hcm, hm, _, hx⟩
  · simp [Value.cells] at hcs
    obtain ⟨rfl, rfl, rfl⟩ := hcs
    exact .inl ⟨rfl, by simp, by simp⟩
  · simp [Value.cells] at hcs
    obtain ⟨rfl, rfl, rfl⟩ := hcs
    have hlm : len ≤ m := by rw [hm]; split <;> omega
    rcases Nat.eq_zero_or_pos len with h0 | h0
    · exact .inl ⟨h0, hlc, hcm⟩
    · have hR : ∀ i, ∃ cs : List Value, i < len → okAll ls cs ∧ ∀ j, j < ls.length → w.cell? (a.add (i * ls.length + j)) = cs[j]? := by
        intro i
        by_cases hi : i < len
        · obtain ⟨cs, h1, h2⟩ := hx i (by omega)
          have ho := leaves_ok n e ls _ _ _ hl h2
          obtain ⟨_, h4, h5⟩ := World.cells?_some h1
          rw [hc] at h4 h5
          refine ⟨cs, fun _ => ⟨ho, fun j hj => ?_⟩⟩
          have := h5 j hj
          rwa [show (a.add (i * ls.length)).add j = a.add (i * ls.length + j) from by
            unfold Addr.add; split <;> split <;> split <;> simp_all <;> omega] at this
        · exact ⟨[], fun h => absurd h hi⟩
      obtain ⟨R, hR⟩ := Classical.axiomOfChoice hR
      obtain ⟨b, off, spot⟩ := a
      have h00 := (hR 0 h0).2 0 hp
      have hlen0 := (hR 0 h0).1.length
      have hs : spot = none := by
        rw [List.getElem?_eq_getElem (by omega)] at h00
        cases spot with
        | none => rfl
        | some s => simp only [Nat.zero_mul, Nat.zero_add, Addr.add, World.cell?] at h00; simp at h00; split at h00 <;> simp_all
      subst hs
      have hadd : ∀ k, (⟨b, off, none⟩ : Addr).add k = ⟨b, off + k, none⟩ := by intro k; unfold Addr.add; split <;> simp_all
      refine .inr ⟨b, off, rfl, hlc, hcm, ?_, R, fun i hi => ⟨(hR i hi).1, fun j v hj => ?_⟩⟩
      · rw [hadd, List.getElem?_eq_getElem (by omega)] at h00
        exact World.block_lt_of_cell? w _ h00
      · have hjl := (List.getElem?_eq_some_iff.1 hj).1
        rw [(hR i hi).1.length] at hjl
        have := (hR i hi).2 j hjl
        rw [hadd] at this
        rw [← hj, ← this, Nat.add_assoc]
theorem RdS.at {ls : List Leaf} {A : Option Addr} {len cap i : Nat} (h : RdS ls w A len cap) (hi : i < len) :
    ∃ b off vs, A = some ⟨b, off, none⟩ ∧ okAll ls vs ∧ (∀ j v, vs[j]? = some v → w.cell? ⟨b, off + i * ls.length + j, none⟩ = some v) ∧ b < w.heap.size := by
  rcases h with ⟨h, _⟩ | ⟨b, off, rfl, _, _, hb, R, hR⟩
  · omega
  · exact ⟨b, off, R i, rfl, (hR i hi).1, (hR i hi).2, hb⟩
theorem RdS.len_le {ls : List Leaf} {A : Option Addr} {len cap : Nat} (h : RdS ls w A len cap) : len ≤ 9223372036854775807 := by
  rcases h with ⟨h, _⟩ | ⟨_, _, _, h1, h2, _⟩ <;> (try unfold maxLen at *) <;> omega
end
end Go.Proofs.YtapagoaoglmegaaGreat
namespace Go.Proofs.YtapagoaoglmegaaGreat
open Go.RowKit Go.Maps
set_option linter.unusedVariables false
set_option linter.unusedSimpArgs false
def rv (v : Value) : Option (DataW Value × List MemPlace) := some (.held v, [])
theorem rv_inv {v u : Value} {ps : List MemPlace} (h : rv v = some (.held u, ps)) : v = u := by
  unfold rv at h; simp at h; exact h.1
def MF (K : TypeId) (q : IntKind) (w : World) (m n : Nat) (f : Int → Option Value) : Prop :=
  ∃ D : DataW Value, w.ownsMap Tryz.prog K rv m n D ∧ Maps.size D = n ∧ ∀ k, (Lit.int q k).wf = true → Maps.has D (.int q k) = (f k).isSome ∧ ∀ z, D.atKey (.int q k) (.held z) = .held ((f k).getD z)
section
variable {K e t : TypeId} {q : IntKind} {w w' : World} {m n : Nat} {f g : Int → Option Value}
theorem MF.lt (h : MF K q w m n f) : m < w.heap.size := by obtain ⟨D, h, _⟩ := h; exact h.lt
theorem MF.fr {S : Nat → Prop} (h : MF K q w m n f) (k : Fr S w w') (hs : ¬ S m) : MF K q w' m n f := by
  obtain ⟨D, ⟨es, clock, hb, F, h1, h2⟩, h3⟩ := h
  exact ⟨D, ⟨es, clock, (k.block m (Array.getElem?_eq_some_iff.1 hb).1 hs).trans hb, F, h1, h2⟩, h3⟩
theorem MF.drew (h : MF K q w m n f) : MF K q w.drew m n f := h
theorem MF.drewN (h : MF K q w m n f) (i : Nat) : MF K q (w.drewN i) m n f := h
theorem MF.congr (h : MF K q w m n f) (hfg : ∀ k, (Lit.int q k).wf = true → f k = g k) : MF K q w m n g := by
  obtain ⟨D, h1, h2, h3⟩ := h
  exact ⟨D, h1, h2, fun k hk => by rw [← hfg k hk]; exact h3 k hk⟩
theorem MF.size (h : MF K q w m n f) {n' : Nat} (e : n = n') : MF K q w m n' f := e ▸ h
theorem MF.made (w : World) {b : Nat} (hb : b = w.heap.size) : MF K q (w.alloc (.map #[] 0)) b 0 (fun _ => none) := by
  subst hb
  exact ⟨_, World.ownsMap_made w Tryz.prog K rv, rfl, fun k _ => ⟨rfl, fun _ => rfl⟩⟩
theorem isKey_int (q : IntKind) (k : Int) : WideAt.IsKeyLit (.int q k) := trivial
theorem MF.look (h : MF K q w m n f) (hk : Tryz.prog.underlying K = some (.int q)) (ht : Tryz.prog.underlying t = some (.map K e)) {z : Value} (hz : (zeroValue e).run Tryz.prog w = .ok z w) {k : Int} (hw : (Lit.int q k).wf = true) :
    (Instr.lookup t (.map (some m)) (.int q k) false).run Tryz.prog w = .ok ((f k).getD z) w := by
  obtain ⟨D, h1, h2, h3⟩ := h
  obtain ⟨v, ps, hr, hv⟩ := h1.lookup (int_keyed hk) ht hz (zd := .held z) (zp := []) rfl (keyOf_int_mk hk hw)
  rw [(h3 k hw).2 z] at hv
  rw [hr, rv_inv hv]
theorem MF.len (h : MF K q w m n f) (ht : Tryz.prog.underlying t = some (.map K e)) (ty : TypeId) : (Builtin.len_ #[t] ty #[.map (some m)]).run Tryz.prog w = .ok (.int .i64 n) w := by
  obtain ⟨D, h1, h2, h3⟩ := h
  rw [h1.len ht ty, h2]
def putF (f : Int → Option Value) (k : Int) (v : Value) : Int → Option Value := fun i => if i = k then some v else f i
def delF (f : Int → Option Value) (k : Int) : Int → Option Value := fun i => if i = k then none else f i
theorem fr_of_grown {b : Nat} (h : w.grownBy w' (some b)) : Fr (fun i => i = b) w w' :=
  ⟨h.os, h.tape, h.output, h.size, fun k hk hn => h.block k hk (fun e => hn (by simpa using e))⟩
theorem MF.store (h : MF K q w m n f) (hk : Tryz.prog.underlying K = some (.int q)) (ht : Tryz.prog.underlying t = some (.map K e)) (hn : n < maxLen) {k : Int} (hw : (Lit.int q k).wf = true) (v : Value) :
    ∃ w', (Instr.mapUpdate t (.map (some m)) (.int q k) v).run Tryz.prog w = .ok () w' ∧ MF K q w' m (if (f k).isSome = true then n else n + 1) (putF f k v) ∧ Fr (fun i => i = m) w w' := by
  obtain ⟨D, h1, h2, h3⟩ := h
  have T := h1.tidy (int_keyed hk)
  obtain ⟨w', hr, h4, h5⟩ := h1.update (int_keyed hk) ht hn (keyOf_int_mk hk hw) (val := v) (d := .held v) (ps := []) rfl
  have hs : Maps.size (D.put (.int q k) (.held v)) = if (f k).isSome = true then n else n + 1 := by
    rw [size_put T, (h3 k hw).1, h2]
  refine ⟨w', hr, ⟨D.put (.int q k) (.held v), ?_, hs, fun i hi => ?_⟩, fr_of_grown h5⟩
  · obtain ⟨es, clock, hb, F, h6, h7⟩ := h4
    refine ⟨es, clock, hb, F, ?_, h7⟩
    rw [h7, Maps.size_eq, length_read] at hs
    omega
  · by_cases e : i = k
    · subst e
      unfold putF
      rw [if_pos rfl]
      exact ⟨has_put_same T.isMap (isKey_int q i) _, fun z => atKey_put_same T.isMap (isKey_int q i) _ _⟩
    · unfold putF
      rw [if_neg e]
      have hne : Lit.int q i ≠ Lit.int q k := fun h => e (by injection h)
      exact ⟨by rw [has_put_other hne]; exact (h3 i hi).1, fun z => by rw [atKey_put_other hne]; exact (h3 i hi).2 z⟩
theorem MF.drop (h : MF K q w m n f) (hk : Tryz.prog.underlying K = some (.int q)) (ht : Tryz.prog.underlying t = some (.map K e)) {k : Int} (hw : (Lit.int q k).wf = true) (ty : TypeId) :
    ∃ w', (Builtin.delete_ #[t, K] ty #[.map (some m), .int q k]).run Tryz.prog w = .ok (.tuple #[]) w' ∧ MF K q w' m (if (f k).isSome = true then n - 1 else n) (delF f k) ∧ Fr (fun i => i = m) w w' := by
  obtain ⟨D, h1, h2, h3⟩ := h
  have T := h1.tidy (int_keyed hk)
  obtain ⟨w', hr, h4, h5⟩ := h1.drop (int_keyed hk) ht (keyOf_int_mk hk hw) ty
  have hs : Maps.size (D.del (.int q k)) = if (f k).isSome = true then n - 1 else n := by
    have := size_del T (k := .int q k)
    rw [(h3 k hw).1, h2] at this
    split at this <;> simp_all <;> omega
  refine ⟨w', hr, ⟨D.del (.int q k), ?_, hs, fun i hi => ?_⟩, fr_of_grown h5.grown⟩
  · obtain ⟨es, clock, hb, F, h6, h7⟩ := h4
    refine ⟨es, clock, hb, F, ?_, h7⟩
    rw [h7, Maps.size_eq, length_read] at hs
    omega
  · by_cases e : i = k
    · subst e
      unfold delF
      rw [if_pos rfl]
      exact ⟨has_del_same, fun z => atKey_del_same _⟩
    · unfold delF
      rw [if_neg e]
      have hne : Lit.int q i ≠ Lit.int q k := fun h => e (by injection h)
      exact ⟨by rw [has_del_other hne]; exact (h3 i hi).1, fun z => by rw [atKey_del_other hne]; exact (h3 i hi).2 z⟩
end
section
variable (w : World) {ops : Array Oper} {rest : List Oper} {o : Oper} {a : Act} {Q : Exit → Act → World → Prop}
theorem wpList_store_mf (hg : o.guard = none) (m x v : Operand) (t : TypeId) (hop : o.op = Op.mapUpdate t m x v)
    (K e : TypeId) (q : IntKind) (hk : Tryz.prog.underlying K = some (.int q)) (ht : Tryz.prog.underlying t = some (.map K e)) (b n : Nat) (f : Int → Option Value) (k : Int) (val : Value)
    (hm : a.eval m = .map (some b)) (h : MF K q w b n f) (hn : n < maxLen) (hx : a.eval x = .int q k) (hv : a.eval v = val) (hw : (Lit.int q k).wf = true)
    (hK : ∀ w', MF K q w' b (if (f k).isSome = true then n else n + 1) (putF f k val) → Fr (fun i => i = b) w w' → wpList Tryz.prog ops Q rest (a.put o.dst undef) w') : wpList Tryz.prog ops Q (o :: rest) a w := by
  refine wpList_plain hg fun K' hK' => ?_
  obtain ⟨w', hr, h1, h2⟩ := h.store hk ht hn hw val
  unfold Oper.wp
  simp [execOp, hop, hm, hx, hv, hr, Result.andThen]
  exact hK' _ _ (hK w' h1 h2)
end
end Go.Proofs.YtapagoaoglmegaaGreat
end
