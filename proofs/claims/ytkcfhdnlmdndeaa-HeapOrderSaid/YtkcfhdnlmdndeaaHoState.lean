/- The heap and the map of what should be in it, side by side. -/
import Derived.Test.YtkcfhdnlmdndeaaHoSort
import Derived.Test.YtkcfhdnlmdndeaaMapR
import Derived.Test.YtkcfhdnlmdndeaaHpAwake
namespace Go.Proofs.Ytkcfhdnlmdndeaa
open Go.RowKit Go.Proofs.YtkcfhdnlmdndeaaW.PrintWords Go.Proofs.YtkcfhdnlmdndeaaW.PrintLast Go.Proofs.YtkcfhdnlmdndeaaW.PrintMore PHp
set_option linter.unusedVariables false
set_option linter.unusedSimpArgs false
theorem zeroIt (w : World) : (zeroValue 24).run Try.prog w = .ok (vI ⟨0, 0, 0⟩) w := by kernel_rfl
/-- A heap of the items L; a map that holds M. -/
structure HT (n0 : Nat) (w : World) (b m : Nat) (v : Value) (L : List It) (ma : Nat) (M : List It) : Prop where
  hp : HP w b m v L 60
  mp : MF 22 .u64 w ma M.length (itF M)
  z : Fz n0 b m v
  zm : n0 ≤ ma
  dj : ¬ Ft b m v ma
section
variable {n0 : Nat} {w w' : World} {b m ma : Nat} {v v' : Value} {L M L' M' : List It}
theorem HT.fr0 (h : HT n0 w b m v L ma M) (k : Fr (fun _ => False) w w') : HT n0 w' b m v L ma M := ⟨h.hp.fr0 k, h.mp.fr k (fun h => h), h.z, h.zm, h.dj⟩
theorem HT.heap (h : HT n0 w b m v L ma M) (hn : n0 ≤ w.heap.size) (h' : HP w' b m v' L' 60) (hv : ∀ i, v'.ownBlock = some i → v.ownBlock = some i ∨ w.heap.size ≤ i) (k : Fr (Ft b m v) w w') : HT n0 w' b m v' L' ma M :=
  ⟨h', h.mp.fr k h.dj, h.z.next hv hn, h.zm, fun hi => by
    rcases hi with e | e | e
    · exact h.dj (.inl e)
    · exact h.dj (.inr (.inl e))
    · rcases hv _ e with e | e
      · exact h.dj (.inr (.inr e))
      · have := h.mp.lt; omega⟩
theorem HT.map (h : HT n0 w b m v L ma M) {n' : Nat} {f' : Int → Option Value} (k : Fr (fun i => i = ma) w w') (h' : MF 22 .u64 w' ma n' f') (hn : n' = M'.length) (hf : f' = itF M') : HT n0 w' b m v L ma M' :=
  ⟨h.hp.fr k (fun i hi e => h.dj (e ▸ hi)), by rw [← hn, ← hf]; exact h', h.z, h.zm, h.dj⟩
theorem HT.look (h : HT n0 w b m v L ma M) {id : Int} (hi : (Lit.int .u64 id).wf = true) : (Instr.lookup 84 (.map (some ma)) (.int .u64 id) false).run Try.prog w = .ok ((itF M id).getD (vI ⟨0, 0, 0⟩)) w :=
  h.mp.look Try.underlying22 Try.underlying84 (zeroIt _) hi
theorem HT.look_ok (h : HT n0 w b m v L ma M) {id : Int} (hi : (Lit.int .u64 id).wf = true) : (Instr.lookup 84 (.map (some ma)) (.int .u64 id) true).run Try.prog w = .ok (.tuple #[(itF M id).getD (vI ⟨0, 0, 0⟩), .bool (place M id).isSome]) w := by
  have := h.mp.look_ok Try.underlying22 Try.underlying84 (zeroIt _) hi
  rw [this, itF_some]
theorem HT.lts (h : HT n0 w b m v L ma M) : ∀ i, Ft b m v i ∨ i = ma → i < w.heap.size := fun i hi => hi.elim (h.hp.lt i) (fun e => e ▸ h.mp.lt)
theorem HT.sm (h : HT n0 w b m v L ma L) : L.length ≤ 60 := by have := h.hp.len; omega
end
/-- What a look-up of an id tells: an item. -/
theorem look_item (L : List It) (id : Int) : ∃ z : It, (itF L id).getD (vI ⟨0, 0, 0⟩) = vI z ∧ (∀ k, place L id = some k → z = nth L k) := by
  unfold itF
  cases h : place L id with
  | none => exact ⟨⟨0, 0, 0⟩, rfl, fun k e => by cases e⟩
  | some k => exact ⟨nth L k, rfl, fun j e => by cases e; rfl⟩
section
variable (w : World) {ops : Array Oper} {rest : List Oper} {o : Oper} {a : Act} {Q : Exit → Act → World → Prop}
theorem wpList_store_it (hg : o.guard = none) (m x v : Operand) (hop : o.op = Op.mapUpdate 84 m x v) (b : Nat) (M M' : List It) (k : Int) (y : It)
    (hm : a.eval m = .map (some b)) (h : MF 22 .u64 w b M.length (itF M)) (hn : M.length < maxLen) (hx : a.eval x = .int .u64 k) (hv : a.eval v = vI y) (hw : (Lit.int .u64 k).wf = true)
    (hM : (if (itF M k).isSome = true then M.length else M.length + 1) = M'.length) (hF : putF (itF M) k (vI y) = itF M')
    (hK : ∀ w', MF 22 .u64 w' b M'.length (itF M') → Fr (fun i => i = b) w w' → wpList Try.prog ops Q rest (a.put o.dst undef) w') : wpList Try.prog ops Q (o :: rest) a w :=
  wpList_store_mf w hg m x v 84 hop 22 24 .u64 Try.underlying22 Try.underlying84 b M.length (itF M) k (vI y) hm h hn hx hv hw (fun w' h1 h2 => hK w' (by rw [← hM, ← hF]; exact h1) h2)
theorem wpList_delete_it (hg : o.guard = none) (m x : Operand) (hop : o.op = Op.call { callee := Callee.builtin Builtin.delete, args := #[m, x], argTypes := #[84, 22] }) (b : Nat) (M M' : List It) (k : Int)
    (hm : a.eval m = .map (some b)) (h : MF 22 .u64 w b M.length (itF M)) (hx : a.eval x = .int .u64 k) (hw : (Lit.int .u64 k).wf = true)
    (hM : (if (itF M k).isSome = true then M.length - 1 else M.length) = M'.length) (hF : delF (itF M) k = itF M')
    (hK : ∀ w', MF 22 .u64 w' b M'.length (itF M') → Fr (fun i => i = b) w w' → wpList Try.prog ops Q rest (a.put o.dst (.tuple #[])) w') : wpList Try.prog ops Q (o :: rest) a w :=
  wpList_delete_mf w hg m x 84 22 hop 24 .u64 Try.underlying22 Try.underlying84 b M.length (itF M) k hm h hx hw (fun w' h1 h2 => hK w' (by rw [← hM, ← hF]; exact h1) h2)
end
theorem HT.same {n0 : Nat} {w w' : World} {b m ma : Nat} {v : Value} {L M M' : List It} (h : HT n0 w b m v L ma M) (k : Fr (fun i => i = ma) w w') (h' : MF 22 .u64 w' ma M'.length (itF M')) : HT n0 w' b m v L ma M' := h.map k h' rfl rfl
/-- What is kept below a place. -/
theorem Fr.ofB {B : Nat} {w w' : World} (h : Below B w w') : Fr (fun i => B ≤ i) w w' := ⟨h.os, h.tape, h.output, h.size, fun k hk hn => h.block k (by omega)⟩
theorem R_frI {w w' : World} {base : Nat} {v : Value} {xs : List It} {S : Nat → Prop} (h : Kd.R k24 24 w base (fun _ => True) v xs) (k : Fr S w w') (hS : ∀ i, base ≤ i → ¬ S i) : Kd.R k24 24 w' base (fun _ => True) v xs := by
  rcases Row.of_R h with ⟨rfl, rfl⟩ | ⟨g, cap, rfl, hg, hm, hr⟩
  · exact Kd.R_nil _ _ _ _ _
  · exact (hr.fr k (hS g hg)).to_R hg hm
/-- The first one to come is the first one in order. -/
theorem pop_head {A T : List It} {x : It} (p : A.Perm (x :: T)) (hs : (x :: T).Pairwise fun a b => ¬ itLt b a) (hu : Uniq A) (ho : Ok A) : popE A = 0 ∧ popX A = x ∧ (popL A).Perm T := by
  have h0 : A.length ≠ 0 := by have := p.length_eq; simp at this; omega
  have q := pop_perm hu h0
  have hz : nth A 0 = x := by
    by_cases e : nth A 0 = x
    · exact e
    · have hzm : nth A 0 ∈ x :: T := p.mem_iff.1 (nth_mem (by omega))
      have hzT : nth A 0 ∈ T := by
        rcases List.mem_cons.1 hzm with h | h
        · exact absurd h e
        · exact h
      have h1 : ¬ itLt (nth A 0) x := (List.pairwise_cons.1 hs).1 _ hzT
      have hxA : x ∈ nth A 0 :: popL A := q.mem_iff.2 (p.mem_iff.2 (List.mem_cons_self ..))
      rcases List.mem_cons.1 hxA with h | h
      · exact absurd h.symm e
      · exact absurd (pop_min hu ho h0 x h) h1
  refine ⟨if_neg h0, hz, ?_⟩
  have := q.trans p
  rw [hz] at this
  exact List.Perm.cons_inv this
theorem nodup_len : ∀ (Z L : List It), Z.Nodup → (∀ y ∈ Z, y ∈ L) → Z.length ≤ L.length
  | [], _, _, _ => Nat.zero_le _
  | z :: Z, L, hn, hs => by
    obtain ⟨l1, l2, e⟩ := List.append_of_mem (hs z (List.mem_cons_self ..))
    subst e
    obtain ⟨h1, h2⟩ := List.nodup_cons.1 hn
    have := nodup_len Z (l1 ++ l2) h2 (fun y hy => by
      have h3 := hs y (List.mem_cons_of_mem _ hy)
      rw [List.mem_append, List.mem_cons] at h3
      rw [List.mem_append]
      rcases h3 with h3 | h3 | h3
      · exact .inl h3
      · subst h3; exact absurd hy h1
      · exact .inr h3)
    simp at this ⊢; omega
theorem got_len {L Z : List It} {left : Int → Bool} (h : Got L Z left) : Z.length ≤ L.length :=
  nodup_len Z L ((List.pairwise_map.1 ((uniq_iff Z).1 h.1)).imp (fun h e => h (by rw [e]))) h.2.1
end Go.Proofs.Ytkcfhdnlmdndeaa
