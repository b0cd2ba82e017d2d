/- Timers: how they lie in memory (two heaps, a map, the last id and seq), and what a caller may know of them. -/
import Derived.Test.YtkcfhdnlmdndeaaHpPop
import Derived.Test.YtkcfhdnlmdndeaaHpMisc
import Derived.Test.YtkcfhdnlmdndeaaHpLaw
namespace Go.Proofs.Ytkcfhdnlmdndeaa
open Go.RowKit Go.Proofs.YtkcfhdnlmdndeaaW.PrintWords Go.Proofs.YtkcfhdnlmdndeaaW.PrintLast Go.Proofs.YtkcfhdnlmdndeaaW.PrintMore PHp
set_option linter.unusedVariables false
set_option linter.unusedSimpArgs false
set_option maxRecDepth 100000
def MT : Int := 4611686018427387904
/-- A timer's value: whether it is absolute, its instant, after how much again. -/
@[reducible] def tV (k : Bool) (a e : Int) : Value := .agg #[.bool k, .int .i64 a, .int .i64 e]
abbrev Tm := Int → Option (Bool × Int × Int)
def tmF (T : Tm) : Int → Option Value := fun i => (T i).map fun r => tV r.1 r.2.1 r.2.2
def putT (T : Tm) (i : Int) (r : Bool × Int × Int) : Tm := fun j => if j = i then some r else T j
def delT (T : Tm) (i : Int) : Tm := fun j => if j = i then none else T j
theorem tmF_put (T : Tm) (i : Int) (k : Bool) (a e : Int) : putF (tmF T) i (tV k a e) = tmF (putT T i (k, a, e)) := by
  funext j; unfold putF tmF putT; split <;> rfl
theorem tmF_del (T : Tm) (i : Int) : delF (tmF T) i = tmF (delT T i) := by
  funext j; unfold delF tmF delT; split <;> rfl
def upd {α : Type} (f : Bool → α) (k : Bool) (a : α) : Bool → α := fun j => if j = k then a else f j
theorem upd_same {α : Type} (f : Bool → α) (k : Bool) (a : α) : upd f k a k = a := by unfold upd; rw [if_pos rfl]
theorem upd_ne {α : Type} (f : Bool → α) {j k : Bool} (a : α) (h : j ≠ k) : upd f k a j = f j := by unfold upd; rw [if_neg h]
theorem upd_id {α : Type} (f : Bool → α) (k : Bool) : upd f k (f k) = f := by funext j; unfold upd; split; rename_i h; rw [h]; rfl
/-- What timers' calls may turn. -/
def FT (x tm : Nat) (b m : Bool → Nat) (v : Bool → Value) (i : Nat) : Prop := i = x ∨ i = tm ∨ ∃ k, Ft (b k) (m k) (v k) i
structure TR (w : World) (x : Nat) (b m : Bool → Nat) (v : Bool → Value) (L : Bool → List It) (tm n : Nat) (T : Tm) (id seq : Int) : Prop where
  blk : Blk w x #[.pointer (some ⟨b false, 0, none⟩), .pointer (some ⟨b true, 0, none⟩), .map (some tm), .int .u64 id, .int .u64 seq] 104
  hp : ∀ k, HP w (b k) (m k) (v k) (L k) 256
  mp : MF 22 .u64 w tm n (tmF T)
  apart : ∀ j k, j ≠ k → ∀ i, Ft (b j) (m j) (v j) i → ¬ Ft (b k) (m k) (v k) i
  nx : ∀ k, ¬ Ft (b k) (m k) (v k) x
  nt : ∀ k, ¬ Ft (b k) (m k) (v k) tm
section
variable {w w' : World} {x : Nat} {b m : Bool → Nat} {v : Bool → Value} {L : Bool → List It} {tm n n' : Nat} {T T' : Tm} {id seq id' seq' : Int}
theorem TR.xt (h : TR w x b m v L tm n T id seq) : tm ≠ x := h.mp.ne h.blk
theorem TR.lt (h : TR w x b m v L tm n T id seq) : ∀ i, FT x tm b m v i → i < w.heap.size := by
  rintro i (rfl | rfl | ⟨k, hk⟩)
  · exact h.blk.lt
  · exact h.mp.lt
  · exact (h.hp k).lt i hk
theorem TR.fr {S : Nat → Prop} (h : TR w x b m v L tm n T id seq) (f : Fr S w w') (hs : ∀ i, FT x tm b m v i → ¬ S i) : TR w' x b m v L tm n T id seq :=
  ⟨h.blk.fr f (hs x (.inl rfl)), fun k => (h.hp k).fr f (fun i hi => hs i (.inr (.inr ⟨k, hi⟩))), h.mp.fr f (hs tm (.inr (.inl rfl))), h.apart, h.nx, h.nt⟩
theorem TR.fr0 (h : TR w x b m v L tm n T id seq) (f : Fr (fun _ => False) w w') : TR w' x b m v L tm n T id seq := h.fr f (fun _ _ h => h)
/-- A heap's call. -/
theorem TR.heap (h : TR w x b m v L tm n T id seq) (k : Bool) {v' : Value} {L' : List It} (hp : HP w' (b k) (m k) v' L' 256) (f : Fr (Ft (b k) (m k) (v k)) w w')
    (hg : ∀ g, v'.ownBlock = some g → (v k).ownBlock = some g ∨ w.heap.size ≤ g) : TR w' x b m (upd v k v') (upd L k L') tm n T id seq := by
  have key : ∀ i, Ft (b k) (m k) v' i → Ft (b k) (m k) (v k) i ∨ w.heap.size ≤ i := by
    rintro i (rfl | rfl | e)
    · exact .inl (.inl rfl)
    · exact .inl (.inr (.inl rfl))
    · rcases hg i e with e | e
      · exact .inl (.inr (.inr e))
      · exact .inr e
  have hx := h.blk.lt
  have ht := h.mp.lt
  refine ⟨h.blk.fr f (h.nx k), fun j => ?_, h.mp.fr f (h.nt k), fun j l hjl i hj hl => ?_, fun j hj => ?_, fun j hj => ?_⟩
  · by_cases e : j = k
    · subst e; rw [upd_same, upd_same]; exact hp
    · rw [upd_ne _ _ e, upd_ne _ _ e]; exact (h.hp j).fr f (h.apart j k e)
  · by_cases e : j = k
    · subst e
      rw [upd_same] at hj
      rw [upd_ne _ _ (Ne.symm hjl)] at hl
      rcases key i hj with hj | hj
      · exact h.apart j l hjl i hj hl
      · have := (h.hp l).lt i hl; omega
    · rw [upd_ne _ _ e] at hj
      by_cases e2 : l = k
      · subst e2
        rw [upd_same] at hl
        rcases key i hl with hl | hl
        · exact h.apart j l hjl i hj hl
        · have := (h.hp j).lt i hj; omega
      · rw [upd_ne _ _ e2] at hl; exact h.apart j l hjl i hj hl
  · by_cases e : j = k
    · subst e
      rw [upd_same] at hj
      rcases key x hj with hj | hj
      · exact h.nx j hj
      · omega
    · rw [upd_ne _ _ e] at hj; exact h.nx j hj
  · by_cases e : j = k
    · subst e
      rw [upd_same] at hj
      rcases key tm hj with hj | hj
      · exact h.nt j hj
      · omega
    · rw [upd_ne _ _ e] at hj; exact h.nt j hj
theorem TR.map (h : TR w x b m v L tm n T id seq) (hm : MF 22 .u64 w' tm n' (tmF T')) (f : Fr (fun i => i = tm) w w') : TR w' x b m v L tm n' T' id seq :=
  ⟨h.blk.fr f (Ne.symm h.xt), fun k => (h.hp k).fr f (fun i hi e => h.nt k (e ▸ hi)), hm, h.apart, h.nx, h.nt⟩
theorem TR.cells (h : TR w x b m v L tm n T id seq) (hb : Blk w' x #[.pointer (some ⟨b false, 0, none⟩), .pointer (some ⟨b true, 0, none⟩), .map (some tm), .int .u64 id', .int .u64 seq'] 104) (f : Fr (fun i => i = x) w w') : TR w' x b m v L tm n T id' seq' :=
  ⟨hb, fun k => (h.hp k).fr f (fun i hi e => h.nx k (e ▸ hi)), h.mp.fr f h.xt, h.apart, h.nx, h.nt⟩
theorem TR.look (h : TR w x b m v L tm n T id seq) {i : Int} (hi : (Lit.int .u64 i).wf = true) {k : Bool} {a e : Int} (ht : T i = some (k, a, e)) :
    (Instr.lookup 101 (.map (some tm)) (.int .u64 i) false).run Try.prog w = .ok (tV k a e) w := by
  have := h.mp.look (z := tV false 0 0) Try.underlying22 Try.underlying101 (by kernel_rfl) hi
  rw [this]; unfold tmF; rw [ht]; rfl
theorem TR.look_ok (h : TR w x b m v L tm n T id seq) {i : Int} (hi : (Lit.int .u64 i).wf = true) {k : Bool} {a e : Int} (ht : T i = some (k, a, e)) :
    (Instr.lookup 101 (.map (some tm)) (.int .u64 i) true).run Try.prog w = .ok (.tuple #[tV k a e, .bool true]) w := by
  have := h.mp.look_ok (z := tV false 0 0) Try.underlying22 Try.underlying101 (by kernel_rfl) hi
  rw [this]; unfold tmF; rw [ht]; rfl
theorem TR.look_no (h : TR w x b m v L tm n T id seq) {i : Int} (hi : (Lit.int .u64 i).wf = true) (ht : T i = none) :
    (Instr.lookup 101 (.map (some tm)) (.int .u64 i) true).run Try.prog w = .ok (.tuple #[tV false 0 0, .bool false]) w := by
  have := h.mp.look_ok (z := tV false 0 0) Try.underlying22 Try.underlying101 (by kernel_rfl) hi
  rw [this]; unfold tmF; rw [ht]; rfl
end

/-- The timers T are those of the heaps L; those of a kind have one Every. -/
structure TI (L : Bool → List It) (E : Bool → Int) (T : Tm) (n : Nat) (id : Int) : Prop where
  t : ∀ k y, y ∈ L k → T y.f0 = some (k, y.f2, E k)
  src : ∀ j r, T j = some r → ∃ k, ∃ y ∈ L k, y.f0 = j
  ids : ∀ k y, y ∈ L k → 1 ≤ y.f0 ∧ y.f0 ≤ id
  cnt : n = (L false).length + (L true).length
  ok : ∀ k, Ok (L k)
  ats : ∀ k y, y ∈ L k → 0 ≤ y.f2 ∧ y.f2 ≤ MT
  evs : ∀ k, 0 ≤ E k ∧ E k ≤ MT
/-- Timers in block x: of each kind the items M (in some order), each with E; b: where its heaps are. -/
def TS (w : World) (x : Nat) (b : Bool → Nat) (F : Nat → Prop) (M : Bool → List It) (E : Bool → Int) (id seq : Int) : Prop :=
  ∃ m v L tm n T, TR w x b m v L tm n T id seq ∧ TI L E T n id ∧ (∀ k, (L k).Perm (M k)) ∧ (0 ≤ id ∧ id ≤ 1000000000) ∧ (0 ≤ seq ∧ seq ≤ 1000000000) ∧ ∀ i, F i ↔ FT x tm b m v i
section
variable {w w' : World} {x : Nat} {b : Bool → Nat} {F : Nat → Prop} {M N : Bool → List It} {E : Bool → Int} {id seq : Int}
theorem TS.lt (h : TS w x b F M E id seq) : ∀ i, F i → i < w.heap.size := by
  obtain ⟨m, v, L, tm, n, T, hr, _, _, _, _, hF⟩ := h
  exact fun i hi => hr.lt i ((hF i).1 hi)
theorem TS.fr {S : Nat → Prop} (h : TS w x b F M E id seq) (f : Fr S w w') (hs : ∀ i, F i → ¬ S i) : TS w' x b F M E id seq := by
  obtain ⟨m, v, L, tm, n, T, hr, h1, h2, h3, h4, hF⟩ := h
  exact ⟨m, v, L, tm, n, T, hr.fr f (fun i hi => hs i ((hF i).2 hi)), h1, h2, h3, h4, hF⟩
theorem TS.fr0 (h : TS w x b F M E id seq) (f : Fr (fun _ => False) w w') : TS w' x b F M E id seq := h.fr f (fun _ _ h => h)
theorem TS.perm (h : TS w x b F M E id seq) (p : ∀ k, (M k).Perm (N k)) : TS w x b F N E id seq := by
  obtain ⟨m, v, L, tm, n, T, hr, h1, h2, h3, h4, hF⟩ := h
  exact ⟨m, v, L, tm, n, T, hr, h1, fun k => (h2 k).trans (p k), h3, h4, hF⟩
/-- A kind that has no timers takes any Every. -/
theorem TS.every (h : TS w x b F M E id seq) {k : Bool} {e : Int} (h0 : M k = []) (he : 0 ≤ e ∧ e ≤ MT) : TS w x b F M (upd E k e) id seq := by
  obtain ⟨m, v, L, tm, n, T, hr, h1, h2, h3, h4, hF⟩ := h
  have hL : L k = [] := by have := h2 k; rw [h0] at this; exact this.eq_nil
  refine ⟨m, v, L, tm, n, T, hr, ⟨fun j y hy => ?_, h1.src, h1.ids, h1.cnt, h1.ok, h1.ats, fun j => ?_⟩, h2, h3, h4, hF⟩
  · by_cases e1 : j = k
    · subst e1; rw [hL] at hy; cases hy
    · rw [upd_ne _ _ e1]; exact h1.t j y hy
  · by_cases e1 : j = k
    · subst e1; rw [upd_same]; exact he
    · rw [upd_ne _ _ e1]; exact h1.evs j
theorem TS.seq_le (h : TS w x b F M E id seq) : (0 ≤ id ∧ id ≤ 1000000000) ∧ (0 ≤ seq ∧ seq ≤ 1000000000) := by
  obtain ⟨_, _, _, _, _, _, _, _, _, h3, h4, _⟩ := h
  exact ⟨h3, h4⟩
end
theorem wfU {i : Int} (h : 0 ≤ i ∧ i ≤ 18446744073709551615) : (Lit.int .u64 i).wf = true := by
  simp [Lit.wf, IntKind.min, IntKind.max, IntKind.bits, IntKind.signed]; omega
theorem wfI {i : Int} (h : 0 ≤ i ∧ i ≤ MT) : (Lit.int .i64 i).wf = true := by
  unfold MT at h; simp [Lit.wf, IntKind.min, IntKind.max, IntKind.bits, IntKind.signed]; omega
theorem Blk.c5 {w : World} {b : Nat} {x y z u v : Value} {t : TypeId} (h : Blk w b #[x, y, z, u, v] t) : w.cell? ⟨b, 0, none⟩ = some x ∧ w.cell? ⟨b, 1, none⟩ = some y ∧ w.cell? ⟨b, 2, none⟩ = some z ∧ w.cell? ⟨b, 3, none⟩ = some u ∧ w.cell? ⟨b, 4, none⟩ = some v :=
  ⟨h.cell 0, h.cell 1, h.cell 2, h.cell 3, h.cell 4⟩

theorem eqT (w : World) (m : Nat) : (binOp .eql 101 (.map (some m)) (.map none)).run Try.prog w = .ok (.bool false) w := by kernel_rfl
theorem tnone_at {w : World} {x : Nat} {c0 c1 c3 c4 : Value} {tm : Nat} (h : Blk w x #[c0, c1, .map (some tm), c3, c4] 104) :
    Calls Try.prog 52 #[.pointer (some ⟨x, 0, none⟩)] w fun e w' => e = .returned (.bool false) ∧ w = w' := by
  have b2 := h.cell 2
  have hm := eqT w tm
  simp at b2
  clear h
  go_enter Try.func52, Try.ntmps52
  go_wp2_with (simp only [hm])
  go_ret
  exact ⟨rfl, rfl⟩
theorem may_at {a : Int} (w : World) (h : 0 ≤ a ∧ a ≤ MT) :
    Calls Try.prog 53 #[.int .i64 a] w fun e w' => e = .returned (.bool true) ∧ w = w' := by
  obtain ⟨h0, h1⟩ := h
  unfold MT at h1
  have t1 : decide (a ≤ 4611686018427387904) = true := decide_eq_true h1
  go_enter Try.func53, Try.ntmps53
  go_wp2
  go_ret
  exact ⟨rfl, rfl⟩
theorem of_at {w : World} {x : Nat} {b : Bool → Nat} {c2 c3 c4 : Value} (k : Bool) (h : Blk w x #[.pointer (some ⟨b false, 0, none⟩), .pointer (some ⟨b true, 0, none⟩), c2, c3, c4] 104) :
    Calls Try.prog 54 #[.pointer (some ⟨x, 0, none⟩), .bool k] w fun e w' => e = .returned (.pointer (some ⟨b k, 0, none⟩)) ∧ w = w' := by
  have b0 := h.cell 0
  have b1 := h.cell 1
  simp at b0 b1
  clear h
  cases k
  · go_enter Try.func54, Try.ntmps54
    go_wp2
    go_ret
    exact ⟨rfl, rfl⟩
  · go_enter Try.func54, Try.ntmps54
    go_wp2
    go_ret
    exact ⟨rfl, rfl⟩
theorem tlen_at {w : World} {x : Nat} {b : Bool → Nat} {F : Nat → Prop} {M : Bool → List It} {E : Bool → Int} {id seq : Int} (h : TS w x b F M E id seq) :
    Calls Try.prog 38 #[.pointer (some ⟨x, 0, none⟩)] w fun e w' => e = .returned (.int .i64 (((M false).length + (M true).length : Nat) : Int)) ∧ w = w' := by
  obtain ⟨m, v, L, tm, n, T, hr, h1, h2, h3, h4, hF⟩ := h
  have e : (M false).length + (M true).length = n := by rw [h1.cnt, (h2 false).length_eq, (h2 true).length_eq]
  rw [e]
  have HB := hid hr.blk
  have hm := hr.mp
  have b2 := hr.blk.cell 2
  simp at b2
  clear hr h1 h2 h3 h4 hF e
  go_enter Try.func38, Try.ntmps38
  go_wp2_with fail
  refine (tnone_at HB.out).mono ?_
  rintro e w' ⟨rfl, rfl⟩
  go_wp2_with (at_len; refine wpList_len_mf _ rfl _ 101 rfl 22 69 .u64 Try.underlying101 tm n (tmF T) rfl hm ?_)
  go_ret
  exact ⟨rfl, rfl⟩
end Go.Proofs.Ytkcfhdnlmdndeaa
