/- Texts of mine, joined by shake.py: ClDel, ClClone, PClx7, PClx23, ClMin, ClDelete, ClDelF, PClx24, GClSpread, PClx25, ClWorst. -/
import Derived.Lib.SliceRun
import Derived.StillTailTactics
import Derived.Deep.RegionLaw
import Derived.Shelf.RegionOpenPlain
import Derived.Lib.Hide
import Derived.IntWalk
import Derived.Test.YtapagoaoglmegaaGreatKn0
section
namespace Go.Proofs.YtapagoaoglmegaaGreat
open Go.RowKit Go.Proofs.YtapagoaoglmegaaGreatW.PrintWords Go.Proofs.YtapagoaoglmegaaGreatW.PrintLast Go.Proofs.YtapagoaoglmegaaGreatW.PrintMore PCl
set_option linter.unusedVariables false
set_option linter.unusedSimpArgs false
set_option maxRecDepth 100000
theorem Blk.setCells (b : Nat) {t : TypeId} : ∀ (vs : List Value) (o : Nat) (w : World) (cs : Array Value), Blk w b cs t → ∃ cs', Blk (w.setCells b o vs) b cs' t ∧ cs'.size = cs.size ∧ ∀ j, j < o → cs'[j]? = cs[j]?
  | [], o, w, cs, h => ⟨cs, h, rfl, fun _ _ => rfl⟩
  | v :: vs, o, w, cs, h => by
    obtain ⟨cs', h1, h2, h3⟩ := Blk.setCells b vs (o + 1) (w.setCell ⟨b, o, none⟩ v) _ (h.set rfl)
    refine ⟨cs', h1, by simpa using h2, fun j hj => ?_⟩
    rw [h3 j (by omega), Array.getElem?_setIfInBounds, if_neg (by omega)]
theorem Fr.setCells (b : Nat) {S : Nat → Prop} {a : World} (hb : a.heap.size ≤ b ∨ S b) : ∀ (vs : List Value) (o : Nat) (w : World), Fr S a w → Fr S a (w.setCells b o vs)
  | [], o, w, h => h
  | v :: vs, o, w, h => Fr.setCells b hb vs (o + 1) _ (h.setCell ⟨b, o, none⟩ v hb)
theorem Row.setCells {w : World} {g cap : Nat} {L : List S27} (h : Row w g cap L) (n : Nat) (vs : List Value) : Row (w.setCells g (n * 5) vs) g cap (L.take n) := by
  obtain ⟨cur, hb, h1, h2, h3⟩ := h
  obtain ⟨cs', k1, k2, k3⟩ := Blk.setCells g vs (n * 5) w cur hb
  refine ⟨cs', k1, by omega, by simp; omega, fun i c hi j v hj => ?_⟩
  rw [List.getElem?_take] at hi
  have hj5 : j < 5 := by have := (List.getElem?_eq_some_iff.1 hj).1; simpa [encC] using this
  split at hi
  · rw [k3 _ (by omega)]; exact h3 i c hi j v hj
  · cases hi
theorem zero27 (w : World) : (zeroValue 27).run Tryz.prog w = .ok (.agg #[.int .i64 0, .int .i64 0, .int .i64 0, .int .i64 0, .int .i64 0]) w := by kernel_rfl
theorem clear27 {w : World} {g o n c cap : Nat} {L : List S27} (hR : Row w g cap L) (h : o + n ≤ cap) (ty : TypeId) :
    (Builtin.clear_ #[22] ty #[.slice (some ⟨g, o * 5, none⟩) n c]).run Tryz.prog w = .ok (.tuple #[]) (w.setCells g (o * 5) (List.replicate (n * 5) (.int .i64 0))) := by
  by_cases hn : n = 0
  · subst hn
    simp [Builtin.clear_, run_underlying Tryz.underlying22, World.setCells]
  have hzc : (Builtin.zeroCells (Value.agg #[.int .i64 0, .int .i64 0, .int .i64 0, .int .i64 0, .int .i64 0]).cells n).toList = List.replicate (n * 5) (.int .i64 0) := by
    have e : (Value.agg #[.int .i64 0, .int .i64 0, .int .i64 0, .int .i64 0, .int .i64 0]).cells = Array.replicate 5 (.int .i64 0) := by kernel_rfl
    rw [e]
    simp only [Builtin.zeroCells]
    apply List.ext_getElem
    · simp
    · intro i h1 h2
      simp [Nat.mod_lt]
  have hst := run_storeCells_cells (P := Tryz.prog) g (o * 5) (List.replicate (n * 5) (.int .i64 0)) 0 w (fun j hj => by
      obtain ⟨v, hv, _⟩ := hR.there (o := o * 5 + j) (by simp at hj; omega)
      rw [Nat.add_zero, hv]; rfl) (fun j hj => by
      obtain ⟨v, _, hv⟩ := hR.there (o := o * 5 + j) (by simp at hj; omega)
      rw [Nat.add_zero]; exact hv) (by intro v hv; rw [List.eq_of_mem_replicate hv]; rfl)
  simp only [Nat.add_zero] at hst
  obtain ⟨m, rfl⟩ : ∃ m, n = m + 1 := ⟨n - 1, by omega⟩
  simp [Builtin.clear_, run_underlying Tryz.underlying22, zero27, hzc, hst]
theorem meet_f (s h : S25) (k : Nat) (hk : 5 ≤ k) (hs : SpOk s) (hh : SpOk h) : ∃ x y z, span_Meet.f k s.f0 s.f1 s.f2 h.f0 h.f1 h.f2 = some (x, y, z, decide (Meets s h)) := by
  obtain ⟨k, rfl⟩ : ∃ m, k = m + 1 := ⟨k - 1, by omega⟩
  unfold span_Meet.f
  rw [spMay_f _ _ _ _ (by omega), spMay_f _ _ _ _ (by omega)]
  simp only [Option.bind_some, decide_eq_true hs, decide_eq_true hh, if_true, span_Meet.j0]
  by_cases e : s.f0 = h.f0
  · have e1 : (s.f0 != h.f0) = false := by simpa using e
    rw [e1, if_neg (by decide)]
    by_cases e2 : mx s.f1 h.f1 > mn s.f2 h.f2
    · rw [if_pos e2]
      have : ¬ Meets s h := fun m => by have := m.2.2.2; unfold mx mn at e2; omega
      exact ⟨0, 0, 0, by rw [decide_eq_false this]⟩
    · rw [if_neg e2]
      have : Meets s h := ⟨hs, hh, e, by unfold mx mn at e2; omega⟩
      exact ⟨_, _, _, by rw [decide_eq_true this]⟩
  · have e1 : (s.f0 != h.f0) = true := by simpa using e
    rw [e1, if_pos rfl]
    have : ¬ Meets s h := fun m => e m.2.2.1
    exact ⟨0, 0, 0, by rw [decide_eq_false this]⟩
theorem meet_at {s h : S25} (hs : SpOk s) (hh : SpOk h) : ∃ x y z, ∀ W : World, Calls Tryz.prog 18 #[.agg #[.int .i64 s.f0, .int .i64 s.f1, .int .i64 s.f2], .agg #[.int .i64 h.f0, .int .i64 h.f1, .int .i64 h.f2]] W fun e w' => e = .returned (.tuple #[.agg #[.int .i64 x, .int .i64 y, .int .i64 z], .bool (decide (Meets s h))]) ∧ Fr (fun _ => False) W w' := by
  obtain ⟨x, y, z, e⟩ := meet_f s h 5 (Nat.le_refl _) hs hh
  exact ⟨x, y, z, fun W => (span_Meet.calls 5 _ _ _ _ _ _ _ _ _ _ W e).mono fun _ _ q => ⟨q.1, Fr.of_below q.2 (Nat.le_refl _) _⟩⟩
def keepB (h : S25) (c : S27) : Bool := decide (Meets c.f1 h)
def At3 (w : World) (r o : Nat) (s : S25) : Prop :=
  w.cell? ⟨r, o, none⟩ = some (.int .i64 s.f0) ∧ w.cell? ⟨r, o + 1, none⟩ = some (.int .i64 s.f1) ∧ w.cell? ⟨r, o + 2, none⟩ = some (.int .i64 s.f2)
theorem At3.fr {w w' : World} {r o : Nat} {c : S25} {S : Nat → Prop} (h : At3 w r o c) (k : Fr S w w') (hs : ¬ S r) : At3 w' r o c := by
  have hb := World.block_lt_of_cell? w _ h.1
  exact ⟨(k.cell (a := ⟨r, o, none⟩) hb hs).trans h.1, (k.cell (a := ⟨r, o + 1, none⟩) hb hs).trans h.2.1, (k.cell (a := ⟨r, o + 2, none⟩) hb hs).trans h.2.2⟩
set_option maxHeartbeats 4000000 in
theorem del_at {w : World} {hB : Nat} {c : S27} {h : S25} (hc : SpOk c.f1) (hh : SpOk h) (h3 : At3 w hB 0 h) :
    Calls Tryz.prog 50 #[.agg #[.int .i64 c.f0, .int .i64 c.f1.f0, .int .i64 c.f1.f1, .int .i64 c.f1.f2, .int .i64 c.f2], .pointer (some ⟨hB, 0, none⟩)] w
      fun e w' => e = .returned (.bool (!keepB h c)) ∧ Fr (fun _ => False) w w' := by
  obtain ⟨x, y, z, hm⟩ := meet_at hc hh
  unfold keepB
  generalize decide (Meets c.f1 h) = b at hm ⊢
  have HM := hid hm
  clear hm
  obtain ⟨h0, h1, h2⟩ := h3
  have hl := World.block_lt_of_cell? w _ h0
  simp only [Nat.zero_add] at h0 h1 h2
  go_enter Tryz.func50, Tryz.ntmps50
  go_wp2_with fail
  refine (HM.out _).mono ?_
  rintro e w3 ⟨rfl, k3⟩
  have k4 : Fr (fun _ => False) w w3 := Fr.trans (by (repeat' (first | (with_reducible exact Fr.refl _ _) | (with_reducible assumption) | (with_reducible refine Fr.alloc ?_ _) | (with_reducible refine Fr.drew ?_) | (with_reducible refine Fr.drewN ?_ _) | (with_reducible refine Fr.setCell ?_ _ _ ?_) | (exact Or.inr rfl) | (left; simp; done) | (left; simp; omega) | (simp; done) | (simp; omega) | omega))) k3 (fun _ _ h => h)
  clear k3 HM h0 h1 h2
  go_wp2
  go_ret
  exact ⟨rfl, by (repeat' (first | (with_reducible exact Fr.refl _ _) | (with_reducible assumption) | (with_reducible refine Fr.alloc ?_ _) | (with_reducible refine Fr.drew ?_) | (with_reducible refine Fr.drewN ?_ _) | (with_reducible refine Fr.setCell ?_ _ _ ?_) | (exact Or.inr rfl) | (left; simp; done) | (left; simp; omega) | (simp; done) | (simp; omega) | omega))⟩
set_option maxHeartbeats 4000000 in
theorem idx_at {w : World} {g cap hB : Nat} {M : List S27} {h : S25} (hR : Row w g cap M) (hcm : cap ≤ maxLen) (hM : ∀ c ∈ M, SpOk c.f1) (hh : SpOk h) (h3 : At3 w hB 0 h) :
    Calls Tryz.prog 100 #[.slice (some ⟨g, 0, none⟩) M.length cap, .func (.func 50) #[] #[.pointer (some ⟨hB, 0, none⟩)]] w
      fun e w' => ((∃ i c, M[i]? = some c ∧ keepB h c = false ∧ (∀ j, j < i → ∀ d, M[j]? = some d → keepB h d = true) ∧ e = .returned (.int .i64 (i : Nat))) ∨ ((∀ d ∈ M, keepB h d = true) ∧ e = .returned (.int .i64 (-1)))) ∧ Fr (fun _ => False) w w' := by
  have hl : M.length ≤ 9223372036854775807 := by have := hR.len; unfold maxLen at hcm; omega
  have hhb := World.block_lt_of_cell? w _ h3.1
  have hgb := hR.lt
  have HR := hid hR
  have H3 := hid h3
  have HM := hid hM
  clear hR h3 hM
  go_enter Tryz.func100, Tryz.ntmps100
  go_wp2_with fail
  go_loopw [5, 8] (fun _ vi wr => ∃ i : Nat, i ≤ M.length ∧ vi = .int .i64 i ∧ Hid (∀ j, j < i → ∀ d, M[j]? = some d → keepB h d = true) ∧ Fr (fun _ => False) w wr) (fun _ vi _ => M.length - (intOf vi).toNat)
  case atStart => exact ⟨0, by omega, rfl, hid fun j hj => by omega, Fr.refl _ _⟩
  case round =>
    obtain ⟨i, hi, rfl, hk, hf⟩ := hrel
    by_cases hlt : i < M.length
    · obtain ⟨c, hc⟩ : ∃ c, M[i]? = some c := ⟨M[i], List.getElem?_eq_getElem hlt⟩
      obtain ⟨c1, c2, c3, c4, c5⟩ := (HR.out.fr hf (fun h => h)).at5 hc
      have hcok := HM.out c (List.mem_of_getElem? hc)
      have HA := hid (H3.out.fr hf (fun h => h))
      have HC := hid hc
      clear hc
      go_wp2_with fail
      refine (del_at hcok hh HA.out).mono ?_
      rintro e w3 ⟨rfl, k3⟩
      have k4 : Fr (fun _ => False) w w3 := hf.trans k3 (fun _ _ h => h)
      clear k3 c1 c2 c3 c4 c5 HA hf
      cases hq : keepB h c with
      | false =>
        have HQ := hid hq
        go_wp2_with fail
        go_ret
        exact ⟨.inl ⟨i, c, HC.out, HQ.out, hk.out, rfl⟩, by (repeat' (first | (with_reducible exact Fr.refl _ _) | (with_reducible assumption) | (with_reducible refine Fr.alloc ?_ _) | (with_reducible refine Fr.drew ?_) | (with_reducible refine Fr.drewN ?_ _) | (with_reducible refine Fr.setCell ?_ _ _ ?_) | (exact Or.inr rfl) | (left; simp; done) | (left; simp; omega) | (simp; done) | (simp; omega) | omega))⟩
      | true =>
        have HQ := hid hq
        go_wp2_with fail
        go_roundw
        case rel => exact ⟨i + 1, by omega, by go_num, hid fun j hj d hd => by
          by_cases e : j = i
          · subst e; rw [HC.out] at hd; cases hd; exact HQ.out
          · exact hk.out j (by omega) d hd, by (repeat' (first | (with_reducible exact Fr.refl _ _) | (with_reducible assumption) | (with_reducible refine Fr.alloc ?_ _) | (with_reducible refine Fr.drew ?_) | (with_reducible refine Fr.drewN ?_ _) | (with_reducible refine Fr.setCell ?_ _ _ ?_) | (exact Or.inr rfl) | (left; simp; done) | (left; simp; omega) | (simp; done) | (simp; omega) | omega))⟩
        case measure => simp [intOf]; omega
    · obtain rfl : M.length = i := by omega
      go_wp2_with fail
      go_ret
      refine ⟨.inr ⟨fun d hd => ?_, rfl⟩, by (repeat' (first | (with_reducible exact Fr.refl _ _) | (with_reducible assumption) | (with_reducible refine Fr.alloc ?_ _) | (with_reducible refine Fr.drew ?_) | (with_reducible refine Fr.drewN ?_ _) | (with_reducible refine Fr.setCell ?_ _ _ ?_) | (exact Or.inr rfl) | (left; simp; done) | (left; simp; omega) | (simp; done) | (simp; omega) | omega))⟩
      obtain ⟨j, hj⟩ := List.mem_iff_getElem?.1 hd
      exact hk.out j (List.getElem?_eq_some_iff.1 hj).1 d hj
theorem app27 {ops : Array Oper} {rest : List Oper} {o : Oper} {a : Act} {Q : Exit → Act → World → Prop} {w w1 : World} {v1 : Value} {ad : Addr} {cap : Nat} {l : List S27} (hgd : o.guard = none) (s x : Operand)
    (ho : o.op = .call { callee := .builtin .append, args := #[s, x], argTypes := #[22, 22] })
    (hs : a.eval s = v1) (hx : a.eval x = .slice (some ad) l.length cap) (ho1 : Kd.R k27 27 w1 w.heap.size (fun _ => True) v1 []) (hb1 : Below w.heap.size w w1) (hC : Kd.C k27 w (some ad) l.length l) (hl : l.length ≤ 1000000)
    (h : ∀ v2 w2, Kd.R k27 27 w2 w.heap.size (fun _ => True) v2 l → Below w.heap.size w w2 → wpList Tryz.prog ops Q rest (a.put o.dst v2) w2) : wpList Tryz.prog ops Q (o :: rest) a w1 := by
  refine Kd.R_append_rows k27 (Rr := k27.K w) (w0 := w) w.heap.size hgd s x 22 27 (.agg #[.int .i64 0, .int .i64 0, .int .i64 0, .int .i64 0, .int .i64 0]) 40 ho Tryz.underlying22 info27 rfl (by decide) (by omega) v1 [] l (some ad) l.length cap (fun _ => True) (fun _ => False) hs hx ho1 ?_ (fun _ _ h => (k27_open h) ▸ k27_mkM _ _ _ _) (fun _ h => h.elim) (fun _ _ => trivial) hb1 hb1.size (by simp; omega) ?_
  · exact Kd.C_below hC hb1
  · intro v2 w2 r b _ _
    exact h v2 w2 r b
set_option maxHeartbeats 8000000 in
theorem clone_at {w : World} {A : Option Addr} {cap : Nat} {l : List S27} (hC : Kd.C k27 w A l.length l) (hcap : l.length ≤ cap) (hs : l.length ≤ 1000000) :
    Calls Tryz.prog 16 #[.slice A l.length cap] w fun e w' => ∃ v0_ : Value, e = .returned v0_ ∧ Kd.R k27 27 w' w.heap.size (fun _ => True) v0_ l ∧ Below w.heap.size w w' := by
  have HC := hid hC
  have hnil := hC.2.2
  clear hC
  cases A with
  | none =>
    have h0 : l = [] := by
      rcases Nat.eq_zero_or_pos l.length with h | h
      · exact List.eq_nil_of_length_eq_zero h
      · obtain ⟨ad, e, _⟩ := hnil h; cases e
    subst h0
    have hq : ∀ c' : Nat, (binOp .eql 22 (.slice none 0 cap) (.slice none 0 c')).run Tryz.prog w = .ok (.bool true) w := fun c' => Lib.run_eql_slice_nil w _ _ none 0 cap 0 c' Tryz.underlying22
    clear hnil
    go_enter Tryz.func16, Tryz.ntmps16
    go_wp2_with (simp only [hq])
    go_ret
    exact ⟨_, rfl, Kd.R_nil _ _ _ _ _, Below.refl _ _⟩
  | some ad =>
    have hq : ∀ c' : Nat, (binOp .eql 22 (.slice (some ad) l.length cap) (.slice none 0 c')).run Tryz.prog w = .ok (.bool false) w := fun c' => Lib.run_eql_slice_nil w _ _ (some ad) l.length cap 0 c' Tryz.underlying22
    clear hnil
    have HB := hid (Below.refl w.heap.size w)
    go_enter Tryz.func16, Tryz.ntmps16
    go_wp2_with (first | (simp only [hq]) | ((with_reducible refine gate_dst (N := 5) rfl ?_); refine Kd.R_lit k27 w.heap.size 27 ?hg (N := 5) ?hd (xs := ([] : List S27)) (inner := []) (ok := fun _ => True) (okp := fun _ => True) ?hr ?hp (fun _ hk => hk) trivial HB.out (Nat.le_refl _) (by simp) ?_; (case hd => rfl); (case hg => rfl); (case hr => first | (go_simp; done) | (go_simp; rfl)); (case hp => exact Reps.none _ _); intro v1 w1 ho1 hb1 hg1 hn1) | ((with_reducible refine gate_builtin (b := .append) (xs := #[.tmp 5, .tmp 6]) rfl ?_); at_builtin; refine app27 rfl (.tmp 5) (.tmp 6) rfl rfl rfl ho1 hb1 HC.out hs ?_; intro v2 w2 ho2 hb2))
    go_ret
    exact ⟨_, rfl, ho2, hb2⟩
end Go.Proofs.YtapagoaoglmegaaGreat
namespace Go.Proofs.YtapagoaoglmegaaGreat.PCl
open Go.RowKit Go.Proofs.YtapagoaoglmegaaGreatW.PrintWords Go.Proofs.YtapagoaoglmegaaGreatW.PrintLast Go.Proofs.YtapagoaoglmegaaGreatW.PrintMore
attribute [local go_sem] max2_int min2_int max_two min_two max_three min_three max_four min_four
set_option linter.unusedVariables false
set_option linter.unusedSimpArgs false
def cmp_isNaN_int64.f (a0 : Int) : Option (Bool) := some (a0 != a0)
set_option maxHeartbeats 8000000 in
set_option maxRecDepth 100000 in
theorem cmp_isNaN_int64.calls (a0 : Int) (r : Bool) (w : World) (h : cmp_isNaN_int64.f a0 = some r) :
  Calls Tryz.prog 102 #[.int .i64 a0] w fun e w' => e = .returned (.bool r) ∧ Drawn0 w w' := by
 have H : (some (a0 != a0)) = some r := h
 clear h
 obtain rfl := Option.some.inj H
 go_enter Tryz.func102, Tryz.ntmps102
 go_wp2
 go_ret
 exact ⟨by first | rfl | (simp; done) | (simp [*]; done), by repeat (first | exact Drawn0.refl _ | apply Drawn0.step)⟩
def cmp_Compare_int64.f (a0 : Int) (a1 : Int) : Option (Int) := (cmp_isNaN_int64.f a0).bind fun t257 => ((cmp_isNaN_int64.f a1).bind fun t258 => (if t257 = true then (if t258 = true then (some 0) else (some (-1))) else (if t258 = true then (some 1) else (if a0 < a1 then (some (-1)) else (if a0 > a1 then (some 1) else (some 0))))))
set_option maxHeartbeats 8000000 in
set_option maxRecDepth 100000 in
theorem cmp_Compare_int64.calls (a0 : Int) (a1 : Int) (r : Int) (w : World) (h : cmp_Compare_int64.f a0 a1 = some r) :
  Calls Tryz.prog 54 #[.int .i64 a0, .int .i64 a1] w fun e w' => e = .returned (.int .i64 r) ∧ Drawn0 w w' := by
 have H : ((cmp_isNaN_int64.f a0).bind fun t257 => ((cmp_isNaN_int64.f a1).bind fun t258 => (if t257 = true then (if t258 = true then (some 0) else (some (-1))) else (if t258 = true then (some 1) else (if a0 < a1 then (some (-1)) else (if a0 > a1 then (some 1) else (some 0))))))) = some r := h
 clear h
 replace H := Option.bind_eq_some_iff.mp H
 obtain ⟨t257, A30, H⟩ := H
 replace H : ((cmp_isNaN_int64.f a1).bind fun t258 => (if t257 = true then (if t258 = true then (some 0) else (some (-1))) else (if t258 = true then (some 1) else (if a0 < a1 then (some (-1)) else (if a0 > a1 then (some 1) else (some 0)))))) = some r := H
 have A3 := Aside0.mk A30
 clear A30
 replace H := Option.bind_eq_some_iff.mp H
 obtain ⟨t258, A40, H⟩ := H
 replace H : (if t257 = true then (if t258 = true then (some 0) else (some (-1))) else (if t258 = true then (some 1) else (if a0 < a1 then (some (-1)) else (if a0 > a1 then (some 1) else (some 0))))) = some r := H
 have A4 := Aside0.mk A40
 clear A40
 by_cases c5 : t257 = true
 ·subst c5
  have H1 : (if t258 = true then (some 0) else (some (-1))) = some r := by rw [if_pos rfl] at H; exact H
  clear H
  have H := H1
  clear H1
  by_cases c6 : t258 = true
  ·subst c6
   have H1 : (some 0) = some r := by rw [if_pos rfl] at H; exact H
   clear H
   have H := H1
   clear H1
   obtain rfl := Option.some.inj H
   go_enter Tryz.func54, Tryz.ntmps54
   go_wp2_with (first | ((with_reducible refine gate_callee (f := 102) rfl ?_); refine goesL_ (some 8) rfl rfl Tryz.func102 (by kernel_rfl) rfl #[.int .i64 a0] rfl (by (try simp only [List.map_toArray, List.map_cons, List.map_nil]); first | done | rfl | (simp only [List.length_drop, List.length_take]; rfl)) ?_; (with_reducible refine (cmp_isNaN_int64.calls a0 true _ A3.out).mono ?_); rintro e w' ⟨rfl, ⟨nd, rfl⟩⟩; refine ⟨_, rfl, ?_⟩) | ((with_reducible refine gate_callee (f := 102) rfl ?_); refine goesL_ (some 10) rfl rfl Tryz.func102 (by kernel_rfl) rfl #[.int .i64 a1] rfl (by (try simp only [List.map_toArray, List.map_cons, List.map_nil]); first | done | rfl | (simp only [List.length_drop, List.length_take]; rfl)) ?_; (with_reducible refine (cmp_isNaN_int64.calls a1 true _ A4.out).mono ?_); rintro e w' ⟨rfl, ⟨nd, rfl⟩⟩; refine ⟨_, rfl, ?_⟩))
   go_ret
   exact ⟨by first | rfl | (simp; done) | (simp [*]; done), by repeat (first | exact Drawn0.refl _ | apply Drawn0.step)⟩
  ·replace c6 := Bool.eq_false_iff.mpr c6
   subst c6
   have H1 : (some (-1)) = some r := by rw [if_neg (show ¬ (false = true) by decide)] at H; exact H
   clear H
   have H := H1
   clear H1
   obtain rfl := Option.some.inj H
   go_enter Tryz.func54, Tryz.ntmps54
   go_wp2_with (first | ((with_reducible refine gate_callee (f := 102) rfl ?_); refine goesL_ (some 8) rfl rfl Tryz.func102 (by kernel_rfl) rfl #[.int .i64 a0] rfl (by (try simp only [List.map_toArray, List.map_cons, List.map_nil]); first | done | rfl | (simp only [List.length_drop, List.length_take]; rfl)) ?_; (with_reducible refine (cmp_isNaN_int64.calls a0 true _ A3.out).mono ?_); rintro e w' ⟨rfl, ⟨nd, rfl⟩⟩; refine ⟨_, rfl, ?_⟩) | ((with_reducible refine gate_callee (f := 102) rfl ?_); refine goesL_ (some 10) rfl rfl Tryz.func102 (by kernel_rfl) rfl #[.int .i64 a1] rfl (by (try simp only [List.map_toArray, List.map_cons, List.map_nil]); first | done | rfl | (simp only [List.length_drop, List.length_take]; rfl)) ?_; (with_reducible refine (cmp_isNaN_int64.calls a1 false _ A4.out).mono ?_); rintro e w' ⟨rfl, ⟨nd, rfl⟩⟩; refine ⟨_, rfl, ?_⟩))
   go_ret
   exact ⟨by first | rfl | (simp; done) | (simp [*]; done), by repeat (first | exact Drawn0.refl _ | apply Drawn0.step)⟩
 ·replace c5 := Bool.eq_false_iff.mpr c5
  subst c5
  have H1 : (if t258 = true then (some 1) else (if a0 < a1 then (some (-1)) else (if a0 > a1 then (some 1) else (some 0)))) = some r := by rw [if_neg (show ¬ (false = true) by decide)] at H; exact H
  clear H
  have H := H1
  clear H1
  by_cases c7 : t258 = true
  ·subst c7
   have H1 : (some 1) = some r := by rw [if_pos rfl] at H; exact H
   clear H
   have H := H1
   clear H1
   obtain rfl := Option.some.inj H
   go_enter Tryz.func54, Tryz.ntmps54
   go_wp2_with (first | ((with_reducible refine gate_callee (f := 102) rfl ?_); refine goesL_ (some 8) rfl rfl Tryz.func102 (by kernel_rfl) rfl #[.int .i64 a0] rfl (by (try simp only [List.map_toArray, List.map_cons, List.map_nil]); first | done | rfl | (simp only [List.length_drop, List.length_take]; rfl)) ?_; (with_reducible refine (cmp_isNaN_int64.calls a0 false _ A3.out).mono ?_); rintro e w' ⟨rfl, ⟨nd, rfl⟩⟩; refine ⟨_, rfl, ?_⟩) | ((with_reducible refine gate_callee (f := 102) rfl ?_); refine goesL_ (some 10) rfl rfl Tryz.func102 (by kernel_rfl) rfl #[.int .i64 a1] rfl (by (try simp only [List.map_toArray, List.map_cons, List.map_nil]); first | done | rfl | (simp only [List.length_drop, List.length_take]; rfl)) ?_; (with_reducible refine (cmp_isNaN_int64.calls a1 true _ A4.out).mono ?_); rintro e w' ⟨rfl, ⟨nd, rfl⟩⟩; refine ⟨_, rfl, ?_⟩))
   go_ret
   exact ⟨by first | rfl | (simp; done) | (simp [*]; done), by repeat (first | exact Drawn0.refl _ | apply Drawn0.step)⟩
  ·replace c7 := Bool.eq_false_iff.mpr c7
   subst c7
   have H1 : (if a0 < a1 then (some (-1)) else (if a0 > a1 then (some 1) else (some 0))) = some r := by rw [if_neg (show ¬ (false = true) by decide)] at H; exact H
   clear H
   have H := H1
   clear H1
   by_cases c8 : a0 < a1
   ·rw [if_pos c8] at H
    have c8b0 : decide (a0 < a1) = true := decide_eq_true c8
    clear c8
    obtain rfl := Option.some.inj H
    go_enter Tryz.func54, Tryz.ntmps54
    go_wp2_with (first | ((with_reducible refine gate_callee (f := 102) rfl ?_); refine goesL_ (some 8) rfl rfl Tryz.func102 (by kernel_rfl) rfl #[.int .i64 a0] rfl (by (try simp only [List.map_toArray, List.map_cons, List.map_nil]); first | done | rfl | (simp only [List.length_drop, List.length_take]; rfl)) ?_; (with_reducible refine (cmp_isNaN_int64.calls a0 false _ A3.out).mono ?_); rintro e w' ⟨rfl, ⟨nd, rfl⟩⟩; refine ⟨_, rfl, ?_⟩) | ((with_reducible refine gate_callee (f := 102) rfl ?_); refine goesL_ (some 10) rfl rfl Tryz.func102 (by kernel_rfl) rfl #[.int .i64 a1] rfl (by (try simp only [List.map_toArray, List.map_cons, List.map_nil]); first | done | rfl | (simp only [List.length_drop, List.length_take]; rfl)) ?_; (with_reducible refine (cmp_isNaN_int64.calls a1 false _ A4.out).mono ?_); rintro e w' ⟨rfl, ⟨nd, rfl⟩⟩; refine ⟨_, rfl, ?_⟩))
    go_ret
    exact ⟨by first | rfl | (simp; done) | (simp [*]; done), by repeat (first | exact Drawn0.refl _ | apply Drawn0.step)⟩
   ·rw [if_neg c8] at H
    have c8b0 : decide (a0 < a1) = false := decide_eq_false c8
    clear c8
    by_cases c9 : a0 > a1
    ·rw [if_pos c9] at H
     have c9b0 : decide (a1 < a0) = true := decide_eq_true c9
     clear c9
     obtain rfl := Option.some.inj H
     go_enter Tryz.func54, Tryz.ntmps54
     go_wp2_with (first | ((with_reducible refine gate_callee (f := 102) rfl ?_); refine goesL_ (some 8) rfl rfl Tryz.func102 (by kernel_rfl) rfl #[.int .i64 a0] rfl (by (try simp only [List.map_toArray, List.map_cons, List.map_nil]); first | done | rfl | (simp only [List.length_drop, List.length_take]; rfl)) ?_; (with_reducible refine (cmp_isNaN_int64.calls a0 false _ A3.out).mono ?_); rintro e w' ⟨rfl, ⟨nd, rfl⟩⟩; refine ⟨_, rfl, ?_⟩) | ((with_reducible refine gate_callee (f := 102) rfl ?_); refine goesL_ (some 10) rfl rfl Tryz.func102 (by kernel_rfl) rfl #[.int .i64 a1] rfl (by (try simp only [List.map_toArray, List.map_cons, List.map_nil]); first | done | rfl | (simp only [List.length_drop, List.length_take]; rfl)) ?_; (with_reducible refine (cmp_isNaN_int64.calls a1 false _ A4.out).mono ?_); rintro e w' ⟨rfl, ⟨nd, rfl⟩⟩; refine ⟨_, rfl, ?_⟩))
     go_ret
     exact ⟨by first | rfl | (simp; done) | (simp [*]; done), by repeat (first | exact Drawn0.refl _ | apply Drawn0.step)⟩
    ·rw [if_neg c9] at H
     have c9b0 : decide (a1 < a0) = false := decide_eq_false c9
     clear c9
     obtain rfl := Option.some.inj H
     go_enter Tryz.func54, Tryz.ntmps54
     go_wp2_with (first | ((with_reducible refine gate_callee (f := 102) rfl ?_); refine goesL_ (some 8) rfl rfl Tryz.func102 (by kernel_rfl) rfl #[.int .i64 a0] rfl (by (try simp only [List.map_toArray, List.map_cons, List.map_nil]); first | done | rfl | (simp only [List.length_drop, List.length_take]; rfl)) ?_; (with_reducible refine (cmp_isNaN_int64.calls a0 false _ A3.out).mono ?_); rintro e w' ⟨rfl, ⟨nd, rfl⟩⟩; refine ⟨_, rfl, ?_⟩) | ((with_reducible refine gate_callee (f := 102) rfl ?_); refine goesL_ (some 10) rfl rfl Tryz.func102 (by kernel_rfl) rfl #[.int .i64 a1] rfl (by (try simp only [List.map_toArray, List.map_cons, List.map_nil]); first | done | rfl | (simp only [List.length_drop, List.length_take]; rfl)) ?_; (with_reducible refine (cmp_isNaN_int64.calls a1 false _ A4.out).mono ?_); rintro e w' ⟨rfl, ⟨nd, rfl⟩⟩; refine ⟨_, rfl, ?_⟩))
     go_ret
     exact ⟨by first | rfl | (simp; done) | (simp [*]; done), by repeat (first | exact Drawn0.refl _ | apply Drawn0.step)⟩
end Go.Proofs.YtapagoaoglmegaaGreat.PCl
namespace Go.Proofs.YtapagoaoglmegaaGreat
open Go.RowKit Go.Proofs.YtapagoaoglmegaaGreatW.PrintWords Go.Proofs.YtapagoaoglmegaaGreatW.PrintLast Go.Proofs.YtapagoaoglmegaaGreatW.PrintMore PCl
set_option linter.unusedVariables false
set_option linter.unusedSimpArgs false
set_option maxRecDepth 100000
section
variable {P : Program} {ops : Array Oper} {Q : Exit → Act → World → Prop}
theorem goesv_ {oi : Oper} {N : Option Tmp} {a : Act} {w : World} {K : Act → World → Prop} {f : FuncId} {fn : Func} {xs : Array Operand} {ts : Array TypeId} (x : Operand) (hf : P.funcs[f]? = some fn) (hname : (fn.name == "runtime.NumGoroutine") = false) (hb : fn.body.isSome = true) (args : Array Value)
  (hw : Region.wanted oi (yielded ops a.tmps) = true) (hN : oi.dst = N) (hop : oi.op = .call { callee := .value x, args := xs, argTypes := ts }) (hx : a.eval x = .func (.func f) #[] #[]) (hargs : xs.map a.eval = args)
  (h : Calls P f args w fun e w' => ∃ v, e = .returned v ∧ K (a.put N v) w') : if Region.wanted oi (yielded ops a.tmps) = true then Oper.wp P oi a w K Q else K (a.put N undef) w := by
 refine call_ f args hw hN ?_ h
 have he := enters_ hf hname hb args w
 unfold execOp
 simp [hop, resolve, Deferred.ofValue, invoke, hargs, he, hx]
end
def cmpZ (a b : Int) : Int := if a < b then -1 else if a > b then 1 else 0
theorem cmpZ_lt (a b : Int) : cmpZ a b < 0 ↔ a < b := by
 unfold cmpZ
 by_cases h : a < b
 ·simp [h]
 ·by_cases h2 : a > b <;> simp [h, h2]
theorem cmpZ_f (a b : Int) : cmp_Compare_int64.f a b = some (cmpZ a b) := by
 unfold cmp_Compare_int64.f cmp_isNaN_int64.f cmpZ
 simp
 split
 ·rfl
 ·split <;> rfl
theorem cmp_at (a b : Int) (W : World) : Calls Tryz.prog 54 #[.int .i64 a, .int .i64 b] W fun e w' => e = .returned (.int .i64 (cmpZ a b)) ∧ Fr (fun _ => False) W w' :=
 (cmp_Compare_int64.calls a b _ W (cmpZ_f a b)).mono fun _ _ q => ⟨q.1, Fr.of_below q.2.below (Nat.le_refl _) _⟩
theorem jit_at (w : World) (c d : S27) :
  Calls Tryz.prog 53 #[.agg #[.int .i64 c.f0, .int .i64 c.f1.f0, .int .i64 c.f1.f1, .int .i64 c.f1.f2, .int .i64 c.f2], .agg #[.int .i64 d.f0, .int .i64 d.f1.f0, .int .i64 d.f1.f1, .int .i64 d.f1.f2, .int .i64 d.f2]] w
   fun e w' => e = .returned (.int .i64 (cmpZ c.f2 d.f2)) ∧ Fr (fun _ => False) w w' := by
 have HM := hid (cmp_at c.f2 d.f2)
 go_enter Tryz.func53, Tryz.ntmps53
 go_wp2_with fail
 refine (HM.out _).mono ?_
 rintro e w3 ⟨rfl, k3⟩
 have k4 : Fr (fun _ => False) w w3 := Fr.trans (by (repeat' (first | (with_reducible exact Fr.refl _ _) | (with_reducible assumption) | (with_reducible refine Fr.alloc ?_ _) | (with_reducible refine Fr.drew ?_) | (with_reducible refine Fr.drewN ?_ _) | (with_reducible refine Fr.setCell ?_ _ _ ?_) | (exact Or.inr rfl) | (left; simp; done) | (left; simp; omega) | (simp; done) | (simp; omega) | omega))) k3 (fun _ _ h => h)
 clear k3 HM
 go_wp2
 go_ret
 exact ⟨rfl, by (repeat' (first | (with_reducible exact Fr.refl _ _) | (with_reducible assumption) | (with_reducible refine Fr.alloc ?_ _) | (with_reducible refine Fr.drew ?_) | (with_reducible refine Fr.drewN ?_ _) | (with_reducible refine Fr.setCell ?_ _ _ ?_) | (exact Or.inr rfl) | (left; simp; done) | (left; simp; omega) | (simp; done) | (simp; omega) | omega))⟩
def MinS (W : World) (g i mB : Nat) (c d : S27) (w' : World) : Prop :=
 w'.cell? ⟨g, i * 5, none⟩ = some (.int .i64 c.f0) ∧ w'.cell? ⟨g, i * 5 + 1, none⟩ = some (.int .i64 c.f1.f0) ∧ w'.cell? ⟨g, i * 5 + 2, none⟩ = some (.int .i64 c.f1.f1) ∧ w'.cell? ⟨g, i * 5 + 3, none⟩ = some (.int .i64 c.f1.f2) ∧ w'.cell? ⟨g, i * 5 + 4, none⟩ = some (.int .i64 c.f2) ∧
 w'.cell? ⟨mB, 0, none⟩ = some (.int .i64 d.f0) ∧ w'.cell? ⟨mB, 1, none⟩ = some (.int .i64 d.f1.f0) ∧ w'.cell? ⟨mB, 2, none⟩ = some (.int .i64 d.f1.f1) ∧ w'.cell? ⟨mB, 3, none⟩ = some (.int .i64 d.f1.f2) ∧ w'.cell? ⟨mB, 4, none⟩ = some (.int .i64 d.f2) ∧ Fr (fun _ => False) W w'
theorem MinS.fr {W : World} {g i mB : Nat} {c d : S27} {w w' : World} (f : Fr (fun _ => False) w w') (h : MinS W g i mB c d w) : MinS W g i mB c d w' := by
 obtain ⟨a0, a1, a2, a3, a4, a5, a6, a7, a8, a9, hf⟩ := h
 have key : ∀ {g i : Nat} {v : Value}, w.cell? ⟨g, i, none⟩ = some v → w'.cell? ⟨g, i, none⟩ = some v := fun h => (f.cell (World.block_lt_of_cell? w _ h) (fun h => h)).trans h
 exact ⟨key a0, key a1, key a2, key a3, key a4, key a5, key a6, key a7, key a8, key a9, hf.trans f (fun _ _ h => h)⟩
set_option maxHeartbeats 8000000 in
theorem min_at {w : World} {g cap : Nat} {M : List S27} (hR : Row w g cap M) (hcm : cap ≤ maxLen) (hn : 0 < M.length) :
  Calls Tryz.prog 52 #[.slice (some ⟨g, 0, none⟩) M.length cap, .func (.func 53) #[] #[]] w
   fun e w' => (∃ m ∈ M, (∀ d ∈ M, m.f2 ≤ d.f2) ∧ e = .returned (.agg #[.int .i64 m.f0, .int .i64 m.f1.f0, .int .i64 m.f1.f1, .int .i64 m.f1.f2, .int .i64 m.f2])) ∧ Fr (fun _ => False) w w' := by
 have hl : M.length ≤ 9223372036854775807 := by have := hR.len; unfold maxLen at hcm; omega
 have hgb := hR.lt
 obtain ⟨c0, hc0⟩ : ∃ c, M[0]? = some c := ⟨M[0], List.getElem?_eq_getElem hn⟩
 obtain ⟨a1, a2, a3, a4, a5⟩ := hR.at5 hc0
 simp only [Nat.zero_mul, Nat.zero_add] at a1 a2 a3 a4 a5
 have H0 : Hid (c0 ∈ M.take 1 ∧ ∀ d ∈ M.take 1, c0.f2 ≤ d.f2) := by
  have e : M.take 1 = [c0] := by rw [take_snoc hc0]; rfl
  rw [e]
  exact hid ⟨by simp, fun d hd => by simp at hd; subst hd; exact Int.le_refl _⟩
 have HR := hid hR
 have b1 : decide ((M.length : Int) < 1) = false := decide_eq_false (by omega)
 clear hR hc0
 go_enter Tryz.func52, Tryz.ntmps52
 go_wp2_with fail
 generalize hW : World.alloc (World.alloc w _) _ = W
 have f0 : Fr (fun _ => False) w W := by subst hW; (repeat' (first | (with_reducible exact Fr.refl _ _) | (with_reducible assumption) | (with_reducible refine Fr.alloc ?_ _) | (with_reducible refine Fr.drew ?_) | (with_reducible refine Fr.drewN ?_ _) | (with_reducible refine Fr.setCell ?_ _ _ ?_) | (exact Or.inr rfl) | (left; simp; done) | (left; simp; omega) | (simp; done) | (simp; omega) | omega))
 have br : Blk W w.heap.size #[.int .i64 0, .int .i64 0, .int .i64 0, .int .i64 0, .int .i64 0] 27 := by subst hW; (repeat' (first | (with_reducible assumption) | (with_reducible apply Blk.drew) | (with_reducible apply Blk.drewN) | (with_reducible apply Blk.set) | (with_reducible apply Blk.other) | (exact Blk.new' _ _ _ (by first | rfl | (simp; done) | (simp; omega))) | (with_reducible apply Blk.alloc) | (with_reducible rfl) | (simp; done) | (simp; omega) | omega | rfl))
 have bm : Blk W (w.heap.size + 1) #[.int .i64 c0.f0, .int .i64 c0.f1.f0, .int .i64 c0.f1.f1, .int .i64 c0.f1.f2, .int .i64 c0.f2] 27 := by subst hW; (repeat' (first | (with_reducible assumption) | (with_reducible apply Blk.drew) | (with_reducible apply Blk.drewN) | (with_reducible apply Blk.set) | (with_reducible apply Blk.other) | (exact Blk.new' _ _ _ (by first | rfl | (simp; done) | (simp; omega))) | (with_reducible apply Blk.alloc) | (with_reducible rfl) | (simp; done) | (simp; omega) | omega | rfl))
 clear hW a1 a2 a3 a4 a5
 have HRW := hid (HR.out.fr f0 (fun h => h))
 obtain ⟨rB, hrB⟩ : ∃ b, b = w.heap.size := ⟨_, rfl⟩
 obtain ⟨mB, hmB⟩ : ∃ b, b = w.heap.size + 1 := ⟨_, rfl⟩
 rw [← hmB, ← hrB]
 rw [← hrB] at br
 rw [← hmB] at bm
 have n1 : rB ≠ mB := by omega
 have n2 : g ≠ mB := by omega
 have n3 : ¬ mB < w.heap.size ∧ ¬ rB < w.heap.size := by omega
 clear hrB hmB
 go_loopw [6] (fun vi wr => ∃ (i : Nat) (c : S27), i ≤ M.length ∧ vi = .int .i64 i ∧ Hid (c ∈ M.take i ∧ ∀ d ∈ M.take i, c.f2 ≤ d.f2) ∧ Blk wr mB #[.int .i64 c.f0, .int .i64 c.f1.f0, .int .i64 c.f1.f1, .int .i64 c.f1.f2, .int .i64 c.f2] 27 ∧ Fr (fun j => j = mB) W wr) (fun vi _ => M.length - (intOf vi).toNat)
 case atStart => exact ⟨1, c0, by omega, rfl, H0, bm, Fr.refl _ _⟩
 case round =>
  clear bm H0
  obtain ⟨i, c, hi, rfl, hc, bm, hf⟩ := hrel
  have br1 := br.fr hf n1
  have HR1 := hid (HRW.out.fr hf n2)
  by_cases hlt : i < M.length
  ·obtain ⟨d, hd⟩ : ∃ d, M[i]? = some d := ⟨M[i], List.getElem?_eq_getElem hlt⟩
   have ms0 : MinS wr g i mB d c wr := by
    obtain ⟨a1, a2, a3, a4, a5⟩ := HR1.out.at5 hd
    exact ⟨a1, a2, a3, a4, a5, (bm.cell 0).trans rfl, (bm.cell 1).trans rfl, (bm.cell 2).trans rfl, (bm.cell 3).trans rfl, (bm.cell 4).trans rfl, Fr.refl _ _⟩
   have ms := MinS.fr ((Fr.refl _ _).drew) ms0
   have ltb : decide ((i : Int) < (M.length : Int)) = true := decide_eq_true (by omega)
   have HD := hid hd
   have HJ := hid (@jit_at)
   clear hd ms0
   go_wp2_with fail
   refine start_ (n := 8) (S := fun w' => w'.cell? ⟨g, i * 5, none⟩ = some (.int .i64 d.f0) ∧ w'.cell? ⟨g, i * 5 + 1, none⟩ = some (.int .i64 d.f1.f0) ∧ w'.cell? ⟨g, i * 5 + 2, none⟩ = some (.int .i64 d.f1.f1) ∧ w'.cell? ⟨g, i * 5 + 3, none⟩ = some (.int .i64 d.f1.f2) ∧ w'.cell? ⟨g, i * 5 + 4, none⟩ = some (.int .i64 d.f2) ∧ w'.cell? ⟨mB, 0, none⟩ = some (.int .i64 c.f0) ∧ w'.cell? ⟨mB, 1, none⟩ = some (.int .i64 c.f1.f0) ∧ w'.cell? ⟨mB, 2, none⟩ = some (.int .i64 c.f1.f1) ∧ w'.cell? ⟨mB, 3, none⟩ = some (.int .i64 c.f1.f2) ∧ w'.cell? ⟨mB, 4, none⟩ = some (.int .i64 c.f2) ∧ Fr (fun _ => False) wr w') (ds := []) #[oN,oN,oN,oN,oN,oN,oN,oN] (by kernel_rfl) rfl rfl ⟨ms.1, ms.2.1, ms.2.2.1, ms.2.2.2.1, ms.2.2.2.2.1, ms.2.2.2.2.2.1, ms.2.2.2.2.2.2.1, ms.2.2.2.2.2.2.2.1, ms.2.2.2.2.2.2.2.2.1, ms.2.2.2.2.2.2.2.2.2.1, ms.2.2.2.2.2.2.2.2.2.2⟩ (fun hHeld => ?_)
   refine pure_ (i := 0) (N := some 20) (v := ?_) (a' := ?_) #[oY,oN,oN,oN,oN,oN,oN,oN] rfl rfl (by kernel_rfl) (fun _ _ _ h => h) (Or.inl ⟨by rfl, ?_⟩) ?_ ?_
   rotate_left
   ·intro w'
    go_simp
    with_reducible rfl
   rotate_left
   ·simp only [Act.put, List.setIfInBounds_toArray, List.set_cons_zero, List.set_cons_succ, i64_w, i32_w]
    rfl
   refine pure_ (i := 1) (N := some 21) (v := ?_) (a' := ?_) #[oY,oY,oN,oN,oN,oN,oN,oN] rfl rfl (by kernel_rfl) (fun _ _ _ h => h) (Or.inl ⟨by rfl, ?_⟩) ?_ ?_
   rotate_left
   ·intro w'
    go_simp
    with_reducible rfl
   rotate_left
   ·simp only [Act.put, List.setIfInBounds_toArray, List.set_cons_zero, List.set_cons_succ, i64_w, i32_w]
    rfl
   refine pure_ (i := 2) (N := some 22) (v := ?_) (a' := ?_) #[oY,oY,oY,oN,oN,oN,oN,oN] rfl rfl (by kernel_rfl) (fun _ _ _ h => h) (Or.inl ⟨by rfl, ?_⟩) ?_ ?_
   rotate_left
   ·intro w'
    go_simp
    with_reducible rfl
   rotate_left
   ·simp only [Act.put, List.setIfInBounds_toArray, List.set_cons_zero, List.set_cons_succ, i64_w, i32_w]
    rfl
   refine pure_ (i := 3) (N := some 23) (v := ?_) (a' := ?_) #[oY,oY,oY,oY,oN,oN,oN,oN] rfl rfl (by kernel_rfl) (fun _ _ _ h => h) (Or.inl ⟨by rfl, ?_⟩) ?_ ?_
   rotate_left
   ·intro w'
    go_simp
    with_reducible rfl
   rotate_left
   ·simp only [Act.put, List.setIfInBounds_toArray, List.set_cons_zero, List.set_cons_succ, i64_w, i32_w]
    rfl
   refine take_ (i := 4) (N := some 24) (v := ?_) (a' := ?_) #[oY,oY,oY,oY,oY,oN,oN,oN] rfl rfl (by kernel_rfl) (fun _ _ _ h => h) (Or.inl ⟨by rfl, ?_⟩) hHeld ?_ ?_
   rotate_left
   ·rintro w' ⟨s0, s1, s2, s3, s4, s5, s6, s7, s8, s9, s10⟩
    go_simp
    with_reducible rfl
   rotate_left
   ·simp only [Act.put, List.setIfInBounds_toArray, List.set_cons_zero, List.set_cons_succ, i64_w, i32_w]
    rfl
   refine take_ (i := 5) (N := some 25) (v := ?_) (a' := ?_) #[oY,oY,oY,oY,oY,oY,oN,oN] rfl rfl (by kernel_rfl) (fun _ _ _ h => h) (Or.inl ⟨by rfl, ?_⟩) hHeld ?_ ?_
   rotate_left
   ·rintro w' ⟨s0, s1, s2, s3, s4, s5, s6, s7, s8, s9, s10⟩
    go_simp
    with_reducible rfl
   rotate_left
   ·simp only [Act.put, List.setIfInBounds_toArray, List.set_cons_zero, List.set_cons_succ, i64_w, i32_w]
    rfl
   refine one_ (i := 6) (N := some 26) #[oY,oY,oY,oY,oY,oY,oY,oN] rfl rfl (by kernel_rfl) (by decide) (fun K hK => ?_)
   refine goesv_ (.tmp 20) Tryz.func53 (by kernel_rfl) rfl #[.agg #[.int .i64 d.f0, .int .i64 d.f1.f0, .int .i64 d.f1.f1, .int .i64 d.f1.f2, .int .i64 d.f2], .agg #[.int .i64 c.f0, .int .i64 c.f1.f0, .int .i64 c.f1.f1, .int .i64 c.f1.f2, .int .i64 c.f2]] (by rfl) rfl rfl rfl (by simp only [List.map_toArray, List.map_cons, List.map_nil]; rfl) ?_
   refine (HJ.out _ d c).mono ?_
   rintro e w3 ⟨rfl, k3⟩
   refine ⟨_, rfl, ?_⟩
   have ms3 := MinS.fr k3 hHeld
   refine hK.out _ _ ⟨ms3.1, ms3.2.1, ms3.2.2.1, ms3.2.2.2.1, ms3.2.2.2.2.1, ms3.2.2.2.2.2.1, ms3.2.2.2.2.2.2.1, ms3.2.2.2.2.2.2.2.1, ms3.2.2.2.2.2.2.2.2.1, ms3.2.2.2.2.2.2.2.2.2.1, ms3.2.2.2.2.2.2.2.2.2.2⟩ (fun hHeld => ?_)
   clear hK K
   refine norm_ (a' := ?_) ?_ ?_
   rotate_left
   ·show Act.put _ (some 26) _ = _
    simp only [Act.put, List.setIfInBounds_toArray, List.set_cons_zero, List.set_cons_succ, i64_w, i32_w]
    rfl
   refine pure_ (i := 7) (N := some 27) (v := ?_) (a' := ?_) #[oY,oY,oY,oY,oY,oY,oY,oY] rfl rfl (by kernel_rfl) (fun _ _ _ h => h) (Or.inl ⟨by rfl, ?_⟩) ?_ ?_
   rotate_left
   ·intro w'
    go_simp
    with_reducible rfl
   rotate_left
   ·simp only [Act.put, List.setIfInBounds_toArray, List.set_cons_zero, List.set_cons_succ, i64_w, i32_w]
    rfl
   refine done_ (by kernel_rfl) ?_
   have fE : Fr (fun _ => False) wr w3 := hHeld.2.2.2.2.2.2.2.2.2.2
   have bm3 := bm.fr fE (fun h => h)
   have HR3 := hid (HR1.out.fr fE (fun h => h))
   have f4 : Fr (fun j => j = mB) W w3 := hf.trans fE (fun _ _ h => h.elim)
   obtain ⟨x1, x2, x3, x4, x5, x6, x7, x8, x9, x10, _⟩ := hHeld
   by_cases hq : d.f2 < c.f2
   ·have bq : decide (cmpZ d.f2 c.f2 < 0) = true := decide_eq_true ((cmpZ_lt _ _).2 hq)
    have bq2 : cmpZ d.f2 c.f2 < 0 := (cmpZ_lt _ _).2 hq
    have HQ := hid hq
    have z1 := bm3.free 0
    have z2 := bm3.free 1
    have z3 := bm3.free 2
    have z4 := bm3.free 3
    have z5 := bm3.free 4
    clear hq ms ms3 k3 HJ
    go_wp2_with fail
    go_roundw
    case rel => exact ⟨i + 1, d, by omega, by go_num, hid ⟨by rw [take_snoc HD.out]; simp, fun x hx => by
     rw [take_snoc HD.out] at hx
     rcases List.mem_append.1 hx with h | h
     ·have := hc.out.2 x h; have := HQ.out; omega
     ·simp at h; subst h; exact Int.le_refl _⟩, by (repeat' (first | (with_reducible assumption) | (with_reducible apply Blk.drew) | (with_reducible apply Blk.drewN) | (with_reducible apply Blk.set) | (with_reducible apply Blk.other) | (exact Blk.new' _ _ _ (by first | rfl | (simp; done) | (simp; omega))) | (with_reducible apply Blk.alloc) | (with_reducible rfl) | (simp; done) | (simp; omega) | omega | rfl)), by (repeat' (first | (with_reducible exact Fr.refl _ _) | (with_reducible assumption) | (with_reducible refine Fr.alloc ?_ _) | (with_reducible refine Fr.drew ?_) | (with_reducible refine Fr.drewN ?_ _) | (with_reducible refine Fr.setCell ?_ _ _ ?_) | (exact Or.inr rfl) | (left; simp; done) | (left; simp; omega) | (simp; done) | (simp; omega) | omega))⟩
    case measure => simp [intOf]; omega
   ·have bq : decide (cmpZ d.f2 c.f2 < 0) = false := decide_eq_false (fun h => hq ((cmpZ_lt _ _).1 h))
    have bq2 : ¬ cmpZ d.f2 c.f2 < 0 := fun h => hq ((cmpZ_lt _ _).1 h)
    have HQ := hid hq
    clear hq ms ms3 k3 HJ
    go_wp2_with fail
    go_roundw
    case rel => exact ⟨i + 1, c, by omega, by go_num, hid ⟨by rw [take_snoc HD.out]; simp [hc.out.1], fun x hx => by
     rw [take_snoc HD.out] at hx
     rcases List.mem_append.1 hx with h | h
     ·exact hc.out.2 x h
     ·simp at h; subst h; have := HQ.out; omega⟩, bm3, f4⟩
    case measure => simp [intOf]; omega
  ·obtain rfl : M.length = i := by omega
   have ltb : decide ((M.length : Int) < (M.length : Int)) = false := decide_eq_false (by omega)
   have hc2 := hc.out
   rw [List.take_length] at hc2
   have HC2 := hid hc2
   clear hc2
   have v1 := bm.cell 0
   have v2 := bm.cell 1
   have v3 := bm.cell 2
   have v4 := bm.cell 3
   have v5 := bm.cell 4
   have z1 := br1.free 0
   have z2 := br1.free 1
   have z3 := br1.free 2
   have z4 := br1.free 3
   have z5 := br1.free 4
   have u1 := br1.cell 0
   have u2 := br1.cell 1
   have u3 := br1.cell 2
   have u4 := br1.cell 3
   have u5 := br1.cell 4
   simp at v1 v2 v3 v4 v5 u1 u2 u3 u4 u5
   have hrl := br1.lt
   have ff : Fr (fun _ => False) w wr := f0.trans hf (fun j hj hj2 => by omega)
   have bE : ∀ W', W' = (((((wr.setCell ⟨rB, 0, none⟩ (.int .i64 c.f0)).setCell ⟨rB, 1, none⟩ (.int .i64 c.f1.f0)).setCell ⟨rB, 2, none⟩ (.int .i64 c.f1.f1)).setCell ⟨rB, 3, none⟩ (.int .i64 c.f1.f2)).setCell ⟨rB, 4, none⟩ (.int .i64 c.f2)) → Blk W' rB #[.int .i64 c.f0, .int .i64 c.f1.f0, .int .i64 c.f1.f1, .int .i64 c.f1.f2, .int .i64 c.f2] 27 := by rintro _ rfl; (repeat' (first | (with_reducible assumption) | (with_reducible apply Blk.drew) | (with_reducible apply Blk.drewN) | (with_reducible apply Blk.set) | (with_reducible apply Blk.other) | (exact Blk.new' _ _ _ (by first | rfl | (simp; done) | (simp; omega))) | (with_reducible apply Blk.alloc) | (with_reducible rfl) | (simp; done) | (simp; omega) | omega | rfl))
   go_wp2_with fail
   have bX := bE _ rfl
   (try simp only [Exit.inBlock, Exit.then])
   refine bodyPost_ret (results_cell_row rfl _ _ rB 27 #[.int .i64 c.f0, .int .i64 c.f1.f0, .int .i64 c.f1.f1, .int .i64 c.f1.f2, .int .i64 c.f2] (0, 0) _ rfl bX Tryz.underlying27 rfl (by kernel_rfl)) rfl ?_
   exact ⟨⟨c, HC2.out.1, HC2.out.2, rfl⟩, by (repeat' (first | (with_reducible exact Fr.refl _ _) | (with_reducible assumption) | (with_reducible refine Fr.alloc ?_ _) | (with_reducible refine Fr.drew ?_) | (with_reducible refine Fr.drewN ?_ _) | (with_reducible refine Fr.setCell ?_ _ _ ?_) | (exact Or.inr rfl) | (left; simp; done) | (left; simp; omega) | (simp; done) | (simp; omega) | omega))⟩
def flatC (L : List S27) : List Value := L.flatMap encC
theorem flatC_len : ∀ L : List S27, (flatC L).length = L.length * 5
  | [] => rfl
  | c :: L => by
    have := flatC_len L
    unfold flatC at *
    rw [List.flatMap_cons, List.length_append, this, enc_len, List.length_cons]; omega
theorem flatC_get : ∀ (L : List S27) (i : Nat) (c : S27), L[i]? = some c → ∀ j v, (encC c)[j]? = some v → (flatC L)[i * 5 + j]? = some v
  | [], i, c, h, j, v, hj => by simp at h
  | d :: L, 0, c, h, j, v, hj => by
    simp at h; subst h
    have hj5 := (List.getElem?_eq_some_iff.1 hj).1
    unfold flatC
    rw [List.flatMap_cons, Nat.zero_mul, Nat.zero_add, List.getElem?_append_left hj5]; exact hj
  | d :: L, i + 1, c, h, j, v, hj => by
    have ih := flatC_get L i c (by simpa using h) j v hj
    unfold flatC at *
    rw [List.flatMap_cons, List.getElem?_append_right (by rw [enc_len]; omega), enc_len, show (i + 1) * 5 + j - 5 = i * 5 + j by omega]
    exact ih
theorem flatC_inv (L : List S27) (t : Nat) (u : Value) (h : (flatC L)[t]? = some u) : ∃ i c j, t = i * 5 + j ∧ L[i]? = some c ∧ (encC c)[j]? = some u := by
  have ht := (List.getElem?_eq_some_iff.1 h).1
  rw [flatC_len] at ht
  have hi : t / 5 < L.length := by omega
  obtain ⟨c, hc⟩ : ∃ c, L[t / 5]? = some c := ⟨L[t / 5], List.getElem?_eq_getElem hi⟩
  obtain ⟨v, hv⟩ : ∃ v, (encC c)[t % 5]? = some v := ⟨(encC c)[t % 5]'(by rw [enc_len]; omega), List.getElem?_eq_getElem _⟩
  have e : t = t / 5 * 5 + t % 5 := by omega
  refine ⟨t / 5, c, t % 5, e, hc, ?_⟩
  have := flatC_get L (t / 5) c hc (t % 5) v hv
  rw [← e, h] at this
  rw [hv, this]
theorem flatC_one (L : List S27) : ∀ u ∈ flatC L, u.oneCell' = true := by
  intro u hu
  unfold flatC at hu
  obtain ⟨c, _, hc⟩ := List.mem_flatMap.1 hu
  simp [encC] at hc
  rcases hc with rfl | rfl | rfl | rfl | rfl <;> rfl
theorem Blk.setCells2 (b : Nat) {t : TypeId} : ∀ (vs : List Value) (o : Nat) (w : World) (cs : Array Value), Blk w b cs t → ∃ cs', Blk (w.setCells b o vs) b cs' t ∧ cs'.size = cs.size ∧ (∀ j, j < o → cs'[j]? = cs[j]?) ∧ ∀ j v, vs[j]? = some v → o + j < cs.size → cs'[o + j]? = some v
  | [], o, w, cs, h => ⟨cs, h, rfl, fun _ _ => rfl, fun j v hj => by simp at hj⟩
  | v :: vs, o, w, cs, h => by
    obtain ⟨cs', h1, h2, h3, h4⟩ := Blk.setCells2 b vs (o + 1) (w.setCell ⟨b, o, none⟩ v) _ (h.set rfl)
    refine ⟨cs', h1, by simpa using h2, fun j hj => ?_, fun j u hj hs => ?_⟩
    · rw [h3 j (by omega), Array.getElem?_setIfInBounds, if_neg (by omega)]
    · cases j with
      | zero =>
        simp at hj; subst hj
        rw [Nat.add_zero, h3 o (by omega), Array.getElem?_setIfInBounds, if_pos rfl, if_pos (by omega)]
      | succ j =>
        have := h4 j u (by simpa using hj) (by simp; omega)
        rw [show o + (j + 1) = o + 1 + j by omega]; exact this
theorem Row.put {w : World} {g cap : Nat} {L : List S27} (h : Row w g cap L) (n : Nat) (hn : n ≤ L.length) (L2 : List S27) (h2 : n + L2.length ≤ cap) : Row (w.setCells g (n * 5) (flatC L2)) g cap (L.take n ++ L2) := by
  obtain ⟨cur, hb, k1, k2, k3⟩ := h
  obtain ⟨cs', q1, q2, q3, q4⟩ := Blk.setCells2 g (flatC L2) (n * 5) w cur hb
  have hlt : (L.take n).length = n := by simp; omega
  refine ⟨cs', q1, by omega, by rw [List.length_append]; omega, fun i c hi j v hj => ?_⟩
  have hj5 : j < 5 := by have := (List.getElem?_eq_some_iff.1 hj).1; simpa [encC] using this
  by_cases hin : i < n
  · rw [List.getElem?_append_left (by omega), List.getElem?_take_of_lt hin] at hi
    rw [q3 _ (by omega)]; exact k3 i c hi j v hj
  · rw [List.getElem?_append_right (by omega), hlt] at hi
    have hi2 := (List.getElem?_eq_some_iff.1 hi).1
    have := q4 ((i - n) * 5 + j) v (flatC_get L2 (i - n) c hi j v hj) (by omega)
    rw [show n * 5 + ((i - n) * 5 + j) = i * 5 + j by omega] at this
    exact this
theorem Row.cell {w : World} {g cap : Nat} {L : List S27} (h : Row w g cap L) {i : Nat} {c : S27} (hi : L[i]? = some c) {j : Nat} {v : Value} (hj : (encC c)[j]? = some v) : w.cell? ⟨g, i * 5 + j, none⟩ = some v := by
  obtain ⟨cur, hb, k1, k2, k3⟩ := h
  exact (hb.cell _).trans (k3 i c hi j v hj)
theorem erase_eq {α : Type} (M : List α) (k : Nat) : M.take k ++ M.drop (k + 1) = M.eraseIdx k := (List.eraseIdx_eq_take_drop_succ M k).symm
set_option maxHeartbeats 8000000 in
theorem delete_at {w : World} {g cap k : Nat} {M : List S27} (hR : Row w g cap M) (hcm : cap ≤ maxLen) (hk : k < M.length) :
    Calls Tryz.prog 56 #[.slice (some ⟨g, 0, none⟩) M.length cap, .int .i64 k, .int .i64 ((k : Int) + 1)] w
      fun e w' => e = .returned (.slice (some ⟨g, 0, none⟩) (M.eraseIdx k).length cap) ∧ Row w' g cap (M.eraseIdx k) ∧ Fr (fun i => i = g) w w' := by
  have hl : M.length ≤ 9223372036854775807 := by have := hR.len; unfold maxLen at hcm; omega
  have hlc := hR.len
  have hcm2 : cap ≤ 9223372036854775807 := by unfold maxLen at hcm; omega
  have hgb := hR.lt
  obtain ⟨j, hj⟩ : ∃ j, j = k + 1 := ⟨_, rfl⟩
  rw [show ((k : Int) + 1) = ((j : Nat) : Int) by omega]
  have hne : ((k : Int) == (j : Int)) = false := by rw [beq_eq_false_iff_ne]; omega
  obtain ⟨news, hnews⟩ : ∃ news, news = flatC (M.drop j) := ⟨_, rfl⟩
  have hlen : news.length = (M.length - j) * 5 := by rw [hnews, flatC_len, List.length_drop]
  obtain ⟨A, hA, hsrc⟩ : ∃ A : Addr, (if cap = j then some (⟨g, 0, none⟩ : Addr) else some ⟨g, j * 5, none⟩) = some A ∧ Hid (∀ t u, news[t]? = some u → w.drew.cell? (A.add t) = some u) := by
    by_cases h : cap = j
    · refine ⟨⟨g, 0, none⟩, by simp [h], hid fun t u hu => ?_⟩
      have h0 : news.length = 0 := by rw [hlen]; omega
      rw [List.length_eq_zero_iff.1 h0] at hu
      simp at hu
    · refine ⟨⟨g, j * 5, none⟩, by simp [h], hid fun t u hu => ?_⟩
      rw [hnews] at hu
      obtain ⟨i, c, q, rfl, hi, hq⟩ := flatC_inv _ _ _ hu
      rw [List.getElem?_drop] at hi
      rw [add_none, show j * 5 + (i * 5 + q) = (j + i) * 5 + q by omega]
      exact hR.cell hi hq
  have s1 : Hid (news.length = (M.length - j) * 5) := hid hlen
  have s2 : Hid (∀ u ∈ news, u.oneCell' = true) := by rw [hnews]; exact hid (flatC_one _)
  have s3 : Hid (∀ t, t < news.length → (w.drew.cell? ⟨g, 0 + k * 5 + t, none⟩).isSome = true ∧ w.drew.frozen? ⟨g, 0 + k * 5 + t, none⟩ = false) := hid (by
    intro t ht
    rw [hlen] at ht
    obtain ⟨v, h1, h2⟩ := hR.there (o := 0 + k * 5 + t) (by omega)
    exact ⟨by show (w.cell? _).isSome = true; rw [h1]; rfl, h2⟩)
  obtain ⟨W1, hW1⟩ : ∃ W1, W1 = w.drew.setCells g (0 + k * 5) news := ⟨_, rfl⟩
  have f1 : Fr (fun i => i = g) w W1 := by rw [hW1]; exact Fr.setCells (S := fun i => i = g) g (.inr rfl) _ _ _ (Fr.drew (Fr.refl _ _))
  have hR1 : Row W1 g cap (M.eraseIdx k) := by
    rw [hW1, ← erase_eq, hnews, Nat.zero_add, hj]
    exact Row.put hR.drew k (by omega) _ (by rw [List.length_drop]; omega)
  have hel : (M.eraseIdx k).length = k + (M.length - j) := by rw [← erase_eq, List.length_append, List.length_take, List.length_drop]; omega
  have hcl := clear27 (o := k + (M.length - j)) (n := M.length - (k + (M.length - j))) (c := cap - (k + (M.length - j))) hR1 (by omega)
  have HR1 := hid hR1
  have Hel := hid hel
  have hW : Hid (W1 = w.drew.setCells g (0 + k * 5) news) := hid hW1
  have hic : k ≤ cap := by omega
  have hjc : j ≤ cap := by omega
  have hjl : j ≤ M.length := by omega
  have hkj : k ≤ j := by omega
  obtain ⟨i0, hi0, hz1⟩ : ∃ i0, Tryz.prog.info? 27 = some i0 ∧ i0.size = 5 := by
    have h := info27
    obtain ⟨i0, h1, h2⟩ := Option.map_eq_some_iff.1 h
    simp only [Prod.mk.injEq] at h2
    exact ⟨i0, h1, h2.2.1⟩
  have mixed : Tryz.prog.follows Departure.mixedOrders = true := by kernel_rfl
  have Hj := hid hj
  have hkj2 : k < j := by omega
  clear hR hW1 hR1 hnews hlen hel hj
  go_enter Tryz.func56, Tryz.ntmps56
  go_wp2_with fail
  go_region_law_o (refine step_append_room rfl (.tmp 22) (.tmp 25) 22 rfl 27 i0 5 Tryz.underlying22 hi0 hz1 g 0 k cap (by simp [Act.eval, Act.put]) A (M.length - j) (cap - j) news (by simp [Act.eval, Act.put]) s1.out hsrc.out s2.out (by omega) s3.out ?_; rw [← hW.out])
  go_wp2
  go_ret
  rw [Hel.out]
  refine ⟨rfl, ?_, Fr.setCells (S := fun i => i = g) g (.inr rfl) _ _ _ f1⟩
  have h := HR1.out.setCells (k + (M.length - j)) (List.replicate ((M.length - (k + (M.length - j))) * 5) (Value.int IntKind.i64 0))
  rw [List.take_of_length_le (by rw [Hel.out]; exact Nat.le_refl _)] at h
  exact h
theorem Row.free {w : World} {g cap : Nat} {L : List S27} (h : Row w g cap L) (o : Nat) : w.frozen? ⟨g, o, none⟩ = false := by
  obtain ⟨cur, hb, _⟩ := h; exact hb.free o
structure DelI (keep : S27 → Bool) (M M' : List S27) (i j : Nat) : Prop where
  len : M'.length = M.length
  lt : i < j
  le : j ≤ M.length
  low : M'.take i = (M.take j).filter keep
  high : M'.drop j = M.drop j
theorem DelI.get {keep : S27 → Bool} {M M' : List S27} {i j : Nat} (h : DelI keep M M' i j) {c : S27} (hc : M[j]? = some c) : M'[j]? = some c := by
  have e := h.high
  have : (M'.drop j)[0]? = (M.drop j)[0]? := by rw [e]
  simp only [List.getElem?_drop, Nat.add_zero] at this
  rw [this, hc]
theorem DelI.skip {keep : S27 → Bool} {M M' : List S27} {i j : Nat} (h : DelI keep M M' i j) {c : S27} (hc : M[j]? = some c) (hk : keep c = false) : DelI keep M M' i (j + 1) := by
  have hj := (List.getElem?_eq_some_iff.1 hc).1
  refine ⟨h.len, by have := h.lt; omega, by omega, ?_, ?_⟩
  · rw [h.low, take_snoc hc, List.filter_append]
    simp [hk]
  · have e := h.high
    have e2 : (M'.drop j).drop 1 = (M.drop j).drop 1 := by rw [e]
    simpa using e2
theorem DelI.keeps {keep : S27 → Bool} {M M' : List S27} {i j : Nat} (h : DelI keep M M' i j) {c : S27} (hc : M[j]? = some c) (hk : keep c = true) : DelI keep M (M'.set i c) (i + 1) (j + 1) := by
  have hj := (List.getElem?_eq_some_iff.1 hc).1
  have h1 := h.lt
  have h2 := h.len
  refine ⟨by simpa using h2, by omega, by omega, ?_, ?_⟩
  · have e : (M'.set i c)[i]? = some c := by rw [List.getElem?_set, if_pos rfl, if_pos (by omega)]
    rw [take_snoc e, take_snoc hc, List.filter_append, ← h.low]
    congr 1
    · rw [List.take_set_of_le (Nat.le_refl _)]
    · simp [hk]
  · have e := h.high
    have e2 : (M'.drop j).drop 1 = (M.drop j).drop 1 := by rw [e]
    rw [List.drop_set_of_lt (by omega)]
    simpa using e2
theorem filter_all {α : Type} {p : α → Bool} {l : List α} (h : ∀ d ∈ l, p d = true) : l.filter p = l := by
  induction l with
  | nil => rfl
  | cons a r ih => rw [List.filter_cons, if_pos (h a List.mem_cons_self), ih (fun d hd => h d (List.mem_cons_of_mem _ hd))]
theorem DelI.start {keep : S27 → Bool} {M : List S27} {i : Nat} {c : S27} (hc : M[i]? = some c) (hk : keep c = false) (h : ∀ j, j < i → ∀ d, M[j]? = some d → keep d = true) : DelI keep M M i (i + 1) := by
  have hj := (List.getElem?_eq_some_iff.1 hc).1
  refine ⟨rfl, by omega, by omega, ?_, rfl⟩
  rw [take_snoc hc, List.filter_append]
  have : List.filter keep (M.take i) = M.take i := filter_all fun d hd => by
    obtain ⟨j, hj⟩ := List.mem_iff_getElem?.1 hd
    rw [List.getElem?_take] at hj
    split at hj
    · exact h j (by omega) d hj
    · cases hj
  rw [this]
  simp [hk]
set_option maxHeartbeats 4000000 in
theorem delF_at {w : World} {g cap hB : Nat} {M : List S27} {h : S25} (hR : Row w g cap M) (hcm : cap ≤ maxLen) (hM : ∀ c ∈ M, SpOk c.f1) (hh : SpOk h) (h3 : At3 w hB 0 h) (hne : hB ≠ g) :
    Calls Tryz.prog 49 #[.slice (some ⟨g, 0, none⟩) M.length cap, .func (.func 50) #[] #[.pointer (some ⟨hB, 0, none⟩)]] w
      fun e w' => e = .returned (.slice (some ⟨g, 0, none⟩) (M.filter (keepB h)).length cap) ∧ Row w' g cap (M.filter (keepB h)) ∧ Fr (fun i => i = g) w w' := by
  have hl : M.length ≤ 9223372036854775807 := by have := hR.len; unfold maxLen at hcm; omega
  have hlc := hR.len
  have hhb := World.block_lt_of_cell? w _ h3.1
  have hgb := hR.lt
  have HI := hid (@idx_at w g cap hB M h hR hcm hM hh h3)
  have HR := hid hR
  have H3 := hid h3
  have HM := hid hM
  clear hR h3 hM
  go_enter Tryz.func49, Tryz.ntmps49
  go_wp2_with fail
  refine HI.out.mono ?_
  rintro e w1 ⟨h0, k1⟩
  rcases h0 with ⟨i0, c0, hc0, hk0, hall, rfl⟩ | ⟨hall, rfl⟩
  · have hi0 := (List.getElem?_eq_some_iff.1 hc0).1
    have D0 := hid (DelI.start hc0 hk0 hall)
    have bne : ((i0 : Int) == -1) = false := by rw [beq_eq_false_iff_ne]; omega
    have HR1 := hid (HR.out.fr k1 (fun h => h))
    clear hc0 hk0 hall HI
    go_wp2_with fail
    go_loopw [5, 6, 7] (fun vi vj _ wr => ∃ (i j : Nat) (M' : List S27), vi = .int .i64 i ∧ vj = .int .i64 j ∧ Hid (DelI (keepB h) M M' i j) ∧ Row wr g cap M' ∧ Fr (fun i => i = g) w wr) (fun _ vj _ _ => M.length - (intOf vj).toNat)
    case atStart => exact ⟨i0, i0 + 1, M, rfl, by go_num, D0, HR1.out, Fr.mono k1 (fun _ _ h => h.elim)⟩
    case round =>
      clear D0 HR1
      obtain ⟨i, j, M', rfl, rfl, D, hRr, hf⟩ := hrel
      have hij := D.out.lt
      have hjl := D.out.le
      have hml := D.out.len
      have HRr := hid hRr
      clear hRr
      by_cases hlt : j < M.length
      · obtain ⟨c, hc⟩ : ∃ c, M[j]? = some c := ⟨M[j], List.getElem?_eq_getElem hlt⟩
        obtain ⟨d, hd⟩ : ∃ d, M'[i]? = some d := ⟨M'[i], List.getElem?_eq_getElem (by omega)⟩
        obtain ⟨c1, c2, c3, c4, c5⟩ := HRr.out.at5 (D.out.get hc)
        have hcok := HM.out c (List.mem_of_getElem? hc)
        have HA := hid (H3.out.fr hf hne)
        have HC := hid hc
        have HD := hid hd
        clear hc hd
        go_wp2_with fail
        generalize hW : World.alloc wr _ = W2
        have f2 : Fr (fun _ => False) wr W2 := by subst hW; (repeat' (first | (with_reducible exact Fr.refl _ _) | (with_reducible assumption) | (with_reducible refine Fr.alloc ?_ _) | (with_reducible refine Fr.drew ?_) | (with_reducible refine Fr.drewN ?_ _) | (with_reducible refine Fr.setCell ?_ _ _ ?_) | (exact Or.inr rfl) | (left; simp; done) | (left; simp; omega) | (simp; done) | (simp; omega) | omega))
        have bV : Blk W2 wr.heap.size #[.int .i64 c.f0, .int .i64 c.f1.f0, .int .i64 c.f1.f1, .int .i64 c.f1.f2, .int .i64 c.f2] 27 := by subst hW; (repeat' (first | (with_reducible assumption) | (with_reducible apply Blk.drew) | (with_reducible apply Blk.drewN) | (with_reducible apply Blk.set) | (with_reducible apply Blk.other) | (exact Blk.new' _ _ _ (by first | rfl | (simp; done) | (simp; omega))) | (with_reducible apply Blk.alloc) | (with_reducible rfl) | (simp; done) | (simp; omega) | omega | rfl))
        clear hW
        refine (del_at hcok hh (HA.out.fr f2 (fun h => h))).mono ?_
        rintro e w3 ⟨rfl, k3⟩
        have bV3 := bV.fr k3 (fun h => h)
        have HR3 := hid ((HRr.out.fr f2 (fun h => h)).fr k3 (fun h => h))
        have k4 : Fr (fun i => i = g) w w3 := (hf.trans f2 (fun _ _ h => h.elim)).trans k3 (fun _ _ h => h.elim)
        clear k3 c1 c2 c3 c4 c5 HA hf f2 bV
        cases hq : keepB h c with
        | false =>
          have HQ := hid hq
          clear hq
          go_wp2_with fail
          go_roundw
          case rel => exact ⟨i, j + 1, M', rfl, by go_num, hid (D.out.skip HC.out HQ.out), HR3.out, k4⟩
          case measure => simp [intOf]; omega
        | true =>
          have HQ := hid hq
          have hgs : g < w3.heap.size := HR3.out.lt
          have v0 := bV3.cell 0
          have v1 := bV3.cell 1
          have v2 := bV3.cell 2
          have v3 := bV3.cell 3
          have v4 := bV3.cell 4
          simp at v0 v1 v2 v3 v4
          obtain ⟨d1, d2, d3, d4, d5⟩ := HR3.out.at5 HD.out
          have q0 := HR3.out.free (i * 5)
          have q1 := HR3.out.free (i * 5 + 1)
          have q2 := HR3.out.free (i * 5 + 2)
          have q3 := HR3.out.free (i * 5 + 3)
          have q4 := HR3.out.free (i * 5 + 4)
          clear hq bV3
          go_wp2_with fail
          go_roundw
          case rel => exact ⟨i + 1, j + 1, M'.set i c, by go_num, by go_num, hid (D.out.keeps HC.out HQ.out), HR3.out.set5 (by omega) c, by (repeat' (first | (with_reducible exact Fr.refl _ _) | (with_reducible assumption) | (with_reducible refine Fr.alloc ?_ _) | (with_reducible refine Fr.drew ?_) | (with_reducible refine Fr.drewN ?_ _) | (with_reducible refine Fr.setCell ?_ _ _ ?_) | (exact Or.inr rfl) | (left; simp; done) | (left; simp; omega) | (simp; done) | (simp; omega) | omega))⟩
          case measure => simp [intOf]; omega
      · obtain rfl : j = M.length := by omega
        have hcl := clear27 (o := i) (n := M.length - i) (c := cap - i) HRr.out (by omega)
        go_wp2_with fail
        go_ret
        have e := D.out.low
        rw [List.take_length] at e
        have el : (M.filter (keepB h)).length = i := by rw [← e]; simp; omega
        rw [el]
        refine ⟨rfl, ?_, Fr.setCells (S := fun i => i = g) g (.inr rfl) _ _ _ hf⟩
        rw [← e]
        exact HRr.out.setCells i _
  · have e : M.filter (keepB h) = M := filter_all hall
    have E := hid e
    clear e hall HI
    have HR1 := hid (HR.out.fr k1 (fun h => h))
    go_wp2
    go_ret
    rw [E.out]
    exact ⟨rfl, HR1.out, Fr.mono k1 (fun _ _ h => h.elim)⟩
theorem idx_nil {w : World} (a : Option Addr) (cap : Nat) (fv : Value) :
    Calls Tryz.prog 100 #[.slice a 0 cap, fv] w fun e w' => e = .returned (.int .i64 (-1)) ∧ Fr (fun _ => False) w w' := by
  go_enter Tryz.func100, Tryz.ntmps100
  go_wp2_with fail
  go_loopw [5, 8] (fun _ vi wr => vi = .int .i64 0 ∧ Fr (fun _ => False) w wr) (fun _ vi _ => 0)
  case atStart => exact ⟨rfl, Fr.refl _ _⟩
  case round =>
    obtain ⟨rfl, hf⟩ := hrel
    go_wp2
    go_ret
    exact ⟨rfl, by (repeat' (first | (with_reducible exact Fr.refl _ _) | (with_reducible assumption) | (with_reducible refine Fr.alloc ?_ _) | (with_reducible refine Fr.drew ?_) | (with_reducible refine Fr.drewN ?_ _) | (with_reducible refine Fr.setCell ?_ _ _ ?_) | (exact Or.inr rfl) | (left; simp; done) | (left; simp; omega) | (simp; done) | (simp; omega) | omega))⟩
theorem delF_nil {w : World} (a : Option Addr) (cap : Nat) (fv : Value) :
    Calls Tryz.prog 49 #[.slice a 0 cap, fv] w fun e w' => e = .returned (.slice a 0 cap) ∧ Fr (fun _ => False) w w' := by
  go_enter Tryz.func49, Tryz.ntmps49
  go_wp2_with fail
  refine (idx_nil a cap fv).mono ?_
  rintro e w1 ⟨rfl, k1⟩
  go_wp2
  go_ret
  exact ⟨rfl, k1⟩
end Go.Proofs.YtapagoaoglmegaaGreat
namespace Go.Proofs.YtapagoaoglmegaaGreat.PCl
open Go.RowKit Go.Proofs.YtapagoaoglmegaaGreatW.PrintWords Go.Proofs.YtapagoaoglmegaaGreatW.PrintLast Go.Proofs.YtapagoaoglmegaaGreatW.PrintMore
attribute [local go_sem] max2_int min2_int max_two min_two max_three min_three max_four min_four
set_option linter.unusedVariables false
set_option linter.unusedSimpArgs false
def cmp_Or_int.l0 : Nat → Int → List Int → Int → Int → Option (Int)
 | 0, _, _, _, _ => none
 | k + 1, x3, x6, x7, x8 => if x8 < x7 then (if 0 ≤ x8 then (if x8 < (x6.length : Int) then (if (rd x6 x8) = x3 then (cmp_Or_int.l0 k x3 x6 x7 (wrap64 (x8 + 1))) else (some (rd x6 x8))) else (none)) else (none)) else (some x3)
def cmp_Or_int.f (k : Nat) (l0 : List Int) : Option (Int) := cmp_Or_int.l0 k 0 l0 (l0.length : Int) 0
theorem cmp_Or_int.mono_l : ∀ k, (∀ y0 y1 y2 y3, LeO (cmp_Or_int.l0 k y0 y1 y2 y3) (cmp_Or_int.l0 (k + 1) y0 y1 y2 y3))
 | 0 => fun _ _ _ _ r h => by simp [cmp_Or_int.l0] at h
 | k + 1 => by
  have ih0 := cmp_Or_int.mono_l k
  ·intro y0 y1 y2 y3
   unfold cmp_Or_int.l0
   repeat' first
   | (with_reducible exact ih0 _ _ _ _)
   | (with_reducible exact LeO.refl _)
   | (with_reducible exact LeO.none _)
   | (with_reducible refine LeO.ite ?_ ?_)
   | (with_reducible refine LeO.bind ?_ (fun _ => ?_))
   | exact ih0 _ _ _ _
   | exact LeO.none _
   | refine LeO.ite ?_ ?_
   | refine LeO.bind ?_ (fun _ => ?_)
theorem cmp_Or_int.mono : ∀ a0 k, LeO (cmp_Or_int.f k a0) (cmp_Or_int.f (k + 1) a0) := by
 intro a0 k
 have ih0 := cmp_Or_int.mono_l k
 unfold cmp_Or_int.f
 repeat' first
   | (with_reducible exact ih0 _ _ _ _)
   | (with_reducible exact LeO.refl _)
   | (with_reducible exact LeO.none _)
   | (with_reducible refine LeO.ite ?_ ?_)
   | (with_reducible refine LeO.bind ?_ (fun _ => ?_))
   | exact ih0 _ _ _ _
   | exact LeO.none _
   | refine LeO.ite ?_ ?_
   | refine LeO.bind ?_ (fun _ => ?_)
set_option maxHeartbeats 8000000 in
set_option maxRecDepth 100000 in
theorem cmp_Or_int.calls (k : Nat) (A0 : Option Addr) (c0 : Nat) (l0 : List Int) (r : Int) (w : World) (hr0 : Kd.C (Kd.int .i64) w A0 l0.length l0) (hc0 : l0.length ≤ c0) (h : cmp_Or_int.f k l0 = some r) :
  Calls Tryz.prog 96 #[.slice A0 l0.length c0] w fun e w' => e = .returned (.int .i64 r) ∧ Drawn0 w w' := by
 have HR0 := Aside0.mk hr0
 have HC0 := Aside0.mk hc0
 clear hr0 hc0
 have H : (cmp_Or_int.l0 k 0 l0 (l0.length : Int) 0) = some r := h
 clear h
 have H' := Aside0.mk H
 clear H
 go_enter Tryz.func96, Tryz.ntmps96
 go_wp2
 go_loopg [8] k (fun kq v8 w' => ∃ (x8_1 : Int), v8 = .int .i64 x8_1 ∧ Aside0 (cmp_Or_int.l0 kq 0 l0 (l0.length : Int) x8_1 = some r) ∧ Aside0 (kq ≤ k) ∧ Drawn0 w w')
 case atStart => exact ⟨(0), (by first | rfl | (simp; done) | (simp [*]; done)), H', ⟨Nat.le_refl _⟩, by repeat (first | exact Drawn0.refl _ | apply Drawn0.step)⟩
 case round =>
  clear H'
  obtain ⟨x8_1, rfl, HA, HK1, ⟨m1, rfl⟩⟩ := hrel
  cases gk with
  | zero => exact absurd HA.out (by simp [cmp_Or_int.l0])
  | succ k1 =>
   have H := HA.out
   clear HA
   simp only [cmp_Or_int.l0] at H
   by_cases c2 : x8_1 < (l0.length : Int)
   ·rw [if_pos c2] at H
    have c2b0 : decide (x8_1 < (l0.length : Int)) = true := decide_eq_true c2
    clear c2
    by_cases c3 : 0 ≤ x8_1
    ·rw [if_pos c3] at H
     have c3b0 : decide (0 ≤ x8_1) = true := decide_eq_true c3
     clear c3
     by_cases c4 : x8_1 < (l0.length : Int)
     ·rw [if_pos c4] at H
      have c4b0 : decide (x8_1 < (l0.length : Int)) = true := decide_eq_true c4
      clear c4
      by_cases c5 : (rd l0 x8_1) = 0
      ·rw [if_pos c5] at H
       have c5b0 : ((rd l0 x8_1) == 0) = true := beq_iff_eq.mpr c5
       have c5b1 : ((rd l0 x8_1) != 0) = false := bne_eq_false_iff_eq.mpr c5
       clear c5
       have H' := Aside0.mk H
       clear H
       have p259 : 0 ≤ (x8_1 : Int) := of_decide_eq_true (by first | (with_reducible assumption) | assumption)
       have q259 : x8_1 < (l0.length : Int) := of_decide_eq_true (by first | (with_reducible assumption) | assumption)
       obtain ⟨ad259, e259, hx259_0⟩ := Kd.at_int HR0.out x8_1 p259 q259
       cases e259
       replace p259 := eq_true p259
       replace q259 := eq_true q259
       go_wp2
       go_roundg k1
       case measure => have := HK1.out; omega
       case rel => exact ⟨(wrap64 (x8_1 + 1)), (by first | rfl | (simp; done) | (simp [*]; done)), H', ⟨by have := HK1.out; omega⟩, by repeat (first | exact Drawn0.refl _ | apply Drawn0.step)⟩
      ·rw [if_neg c5] at H
       have c5b0 : ((rd l0 x8_1) == 0) = false := beq_eq_false_iff_ne.mpr c5
       have c5b1 : ((rd l0 x8_1) != 0) = true := bne_iff_ne.mpr c5
       obtain rfl := Option.some.inj H
       have p259 : 0 ≤ (x8_1 : Int) := of_decide_eq_true (by first | (with_reducible assumption) | assumption)
       have q259 : x8_1 < (l0.length : Int) := of_decide_eq_true (by first | (with_reducible assumption) | assumption)
       obtain ⟨ad259, e259, hx259_0⟩ := Kd.at_int HR0.out x8_1 p259 q259
       cases e259
       replace p259 := eq_true p259
       replace q259 := eq_true q259
       go_wp2
       go_ret
       exact ⟨by first | rfl | (simp; done) | (simp [*]; done), by repeat (first | exact Drawn0.refl _ | apply Drawn0.step)⟩
     ·rw [if_neg c4] at H
      exact absurd H (by simp)
    ·rw [if_neg c3] at H
     exact absurd H (by simp)
   ·rw [if_neg c2] at H
    have c2b0 : decide (x8_1 < (l0.length : Int)) = false := decide_eq_false c2
    clear c2
    obtain rfl := Option.some.inj H
    go_wp2
    go_ret
    exact ⟨by first | rfl | (simp; done) | (simp [*]; done), by repeat (first | exact Drawn0.refl _ | apply Drawn0.step)⟩
def cmp_isNaN_int.f (a0 : Int) : Option (Bool) := some (a0 != a0)
set_option maxHeartbeats 8000000 in
set_option maxRecDepth 100000 in
theorem cmp_isNaN_int.calls (a0 : Int) (r : Bool) (w : World) (h : cmp_isNaN_int.f a0 = some r) :
  Calls Tryz.prog 117 #[.int .i64 a0] w fun e w' => e = .returned (.bool r) ∧ Drawn0 w w' := by
 have H : (some (a0 != a0)) = some r := h
 clear h
 obtain rfl := Option.some.inj H
 go_enter Tryz.func117, Tryz.ntmps117
 go_wp2
 go_ret
 exact ⟨by first | rfl | (simp; done) | (simp [*]; done), by repeat (first | exact Drawn0.refl _ | apply Drawn0.step)⟩
def cmp_Compare_int.f (a0 : Int) (a1 : Int) : Option (Int) := (cmp_isNaN_int.f a0).bind fun t260 => ((cmp_isNaN_int.f a1).bind fun t261 => (if t260 = true then (if t261 = true then (some 0) else (some (-1))) else (if t261 = true then (some 1) else (if a0 < a1 then (some (-1)) else (if a0 > a1 then (some 1) else (some 0))))))
set_option maxHeartbeats 8000000 in
set_option maxRecDepth 100000 in
theorem cmp_Compare_int.calls (a0 : Int) (a1 : Int) (r : Int) (w : World) (h : cmp_Compare_int.f a0 a1 = some r) :
  Calls Tryz.prog 101 #[.int .i64 a0, .int .i64 a1] w fun e w' => e = .returned (.int .i64 r) ∧ Drawn0 w w' := by
 have H : ((cmp_isNaN_int.f a0).bind fun t260 => ((cmp_isNaN_int.f a1).bind fun t261 => (if t260 = true then (if t261 = true then (some 0) else (some (-1))) else (if t261 = true then (some 1) else (if a0 < a1 then (some (-1)) else (if a0 > a1 then (some 1) else (some 0))))))) = some r := h
 clear h
 replace H := Option.bind_eq_some_iff.mp H
 obtain ⟨t260, A30, H⟩ := H
 replace H : ((cmp_isNaN_int.f a1).bind fun t261 => (if t260 = true then (if t261 = true then (some 0) else (some (-1))) else (if t261 = true then (some 1) else (if a0 < a1 then (some (-1)) else (if a0 > a1 then (some 1) else (some 0)))))) = some r := H
 have A3 := Aside0.mk A30
 clear A30
 replace H := Option.bind_eq_some_iff.mp H
 obtain ⟨t261, A40, H⟩ := H
 replace H : (if t260 = true then (if t261 = true then (some 0) else (some (-1))) else (if t261 = true then (some 1) else (if a0 < a1 then (some (-1)) else (if a0 > a1 then (some 1) else (some 0))))) = some r := H
 have A4 := Aside0.mk A40
 clear A40
 by_cases c5 : t260 = true
 ·subst c5
  have H1 : (if t261 = true then (some 0) else (some (-1))) = some r := by rw [if_pos rfl] at H; exact H
  clear H
  have H := H1
  clear H1
  by_cases c6 : t261 = true
  ·subst c6
   have H1 : (some 0) = some r := by rw [if_pos rfl] at H; exact H
   clear H
   have H := H1
   clear H1
   obtain rfl := Option.some.inj H
   go_enter Tryz.func101, Tryz.ntmps101
   go_wp2_with (first | ((with_reducible refine gate_callee (f := 117) rfl ?_); refine goesL_ (some 8) rfl rfl Tryz.func117 (by kernel_rfl) rfl #[.int .i64 a0] rfl (by (try simp only [List.map_toArray, List.map_cons, List.map_nil]); first | done | rfl | (simp only [List.length_drop, List.length_take]; rfl)) ?_; (with_reducible refine (cmp_isNaN_int.calls a0 true _ A3.out).mono ?_); rintro e w' ⟨rfl, ⟨nd, rfl⟩⟩; refine ⟨_, rfl, ?_⟩) | ((with_reducible refine gate_callee (f := 117) rfl ?_); refine goesL_ (some 10) rfl rfl Tryz.func117 (by kernel_rfl) rfl #[.int .i64 a1] rfl (by (try simp only [List.map_toArray, List.map_cons, List.map_nil]); first | done | rfl | (simp only [List.length_drop, List.length_take]; rfl)) ?_; (with_reducible refine (cmp_isNaN_int.calls a1 true _ A4.out).mono ?_); rintro e w' ⟨rfl, ⟨nd, rfl⟩⟩; refine ⟨_, rfl, ?_⟩))
   go_ret
   exact ⟨by first | rfl | (simp; done) | (simp [*]; done), by repeat (first | exact Drawn0.refl _ | apply Drawn0.step)⟩
  ·replace c6 := Bool.eq_false_iff.mpr c6
   subst c6
   have H1 : (some (-1)) = some r := by rw [if_neg (show ¬ (false = true) by decide)] at H; exact H
   clear H
   have H := H1
   clear H1
   obtain rfl := Option.some.inj H
   go_enter Tryz.func101, Tryz.ntmps101
   go_wp2_with (first | ((with_reducible refine gate_callee (f := 117) rfl ?_); refine goesL_ (some 8) rfl rfl Tryz.func117 (by kernel_rfl) rfl #[.int .i64 a0] rfl (by (try simp only [List.map_toArray, List.map_cons, List.map_nil]); first | done | rfl | (simp only [List.length_drop, List.length_take]; rfl)) ?_; (with_reducible refine (cmp_isNaN_int.calls a0 true _ A3.out).mono ?_); rintro e w' ⟨rfl, ⟨nd, rfl⟩⟩; refine ⟨_, rfl, ?_⟩) | ((with_reducible refine gate_callee (f := 117) rfl ?_); refine goesL_ (some 10) rfl rfl Tryz.func117 (by kernel_rfl) rfl #[.int .i64 a1] rfl (by (try simp only [List.map_toArray, List.map_cons, List.map_nil]); first | done | rfl | (simp only [List.length_drop, List.length_take]; rfl)) ?_; (with_reducible refine (cmp_isNaN_int.calls a1 false _ A4.out).mono ?_); rintro e w' ⟨rfl, ⟨nd, rfl⟩⟩; refine ⟨_, rfl, ?_⟩))
   go_ret
   exact ⟨by first | rfl | (simp; done) | (simp [*]; done), by repeat (first | exact Drawn0.refl _ | apply Drawn0.step)⟩
 ·replace c5 := Bool.eq_false_iff.mpr c5
  subst c5
  have H1 : (if t261 = true then (some 1) else (if a0 < a1 then (some (-1)) else (if a0 > a1 then (some 1) else (some 0)))) = some r := by rw [if_neg (show ¬ (false = true) by decide)] at H; exact H
  clear H
  have H := H1
  clear H1
  by_cases c7 : t261 = true
  ·subst c7
   have H1 : (some 1) = some r := by rw [if_pos rfl] at H; exact H
   clear H
   have H := H1
   clear H1
   obtain rfl := Option.some.inj H
   go_enter Tryz.func101, Tryz.ntmps101
   go_wp2_with (first | ((with_reducible refine gate_callee (f := 117) rfl ?_); refine goesL_ (some 8) rfl rfl Tryz.func117 (by kernel_rfl) rfl #[.int .i64 a0] rfl (by (try simp only [List.map_toArray, List.map_cons, List.map_nil]); first | done | rfl | (simp only [List.length_drop, List.length_take]; rfl)) ?_; (with_reducible refine (cmp_isNaN_int.calls a0 false _ A3.out).mono ?_); rintro e w' ⟨rfl, ⟨nd, rfl⟩⟩; refine ⟨_, rfl, ?_⟩) | ((with_reducible refine gate_callee (f := 117) rfl ?_); refine goesL_ (some 10) rfl rfl Tryz.func117 (by kernel_rfl) rfl #[.int .i64 a1] rfl (by (try simp only [List.map_toArray, List.map_cons, List.map_nil]); first | done | rfl | (simp only [List.length_drop, List.length_take]; rfl)) ?_; (with_reducible refine (cmp_isNaN_int.calls a1 true _ A4.out).mono ?_); rintro e w' ⟨rfl, ⟨nd, rfl⟩⟩; refine ⟨_, rfl, ?_⟩))
   go_ret
   exact ⟨by first | rfl | (simp; done) | (simp [*]; done), by repeat (first | exact Drawn0.refl _ | apply Drawn0.step)⟩
  ·replace c7 := Bool.eq_false_iff.mpr c7
   subst c7
   have H1 : (if a0 < a1 then (some (-1)) else (if a0 > a1 then (some 1) else (some 0))) = some r := by rw [if_neg (show ¬ (false = true) by decide)] at H; exact H
   clear H
   have H := H1
   clear H1
   by_cases c8 : a0 < a1
   ·rw [if_pos c8] at H
    have c8b0 : decide (a0 < a1) = true := decide_eq_true c8
    clear c8
    obtain rfl := Option.some.inj H
    go_enter Tryz.func101, Tryz.ntmps101
    go_wp2_with (first | ((with_reducible refine gate_callee (f := 117) rfl ?_); refine goesL_ (some 8) rfl rfl Tryz.func117 (by kernel_rfl) rfl #[.int .i64 a0] rfl (by (try simp only [List.map_toArray, List.map_cons, List.map_nil]); first | done | rfl | (simp only [List.length_drop, List.length_take]; rfl)) ?_; (with_reducible refine (cmp_isNaN_int.calls a0 false _ A3.out).mono ?_); rintro e w' ⟨rfl, ⟨nd, rfl⟩⟩; refine ⟨_, rfl, ?_⟩) | ((with_reducible refine gate_callee (f := 117) rfl ?_); refine goesL_ (some 10) rfl rfl Tryz.func117 (by kernel_rfl) rfl #[.int .i64 a1] rfl (by (try simp only [List.map_toArray, List.map_cons, List.map_nil]); first | done | rfl | (simp only [List.length_drop, List.length_take]; rfl)) ?_; (with_reducible refine (cmp_isNaN_int.calls a1 false _ A4.out).mono ?_); rintro e w' ⟨rfl, ⟨nd, rfl⟩⟩; refine ⟨_, rfl, ?_⟩))
    go_ret
    exact ⟨by first | rfl | (simp; done) | (simp [*]; done), by repeat (first | exact Drawn0.refl _ | apply Drawn0.step)⟩
   ·rw [if_neg c8] at H
    have c8b0 : decide (a0 < a1) = false := decide_eq_false c8
    clear c8
    by_cases c9 : a0 > a1
    ·rw [if_pos c9] at H
     have c9b0 : decide (a1 < a0) = true := decide_eq_true c9
     clear c9
     obtain rfl := Option.some.inj H
     go_enter Tryz.func101, Tryz.ntmps101
     go_wp2_with (first | ((with_reducible refine gate_callee (f := 117) rfl ?_); refine goesL_ (some 8) rfl rfl Tryz.func117 (by kernel_rfl) rfl #[.int .i64 a0] rfl (by (try simp only [List.map_toArray, List.map_cons, List.map_nil]); first | done | rfl | (simp only [List.length_drop, List.length_take]; rfl)) ?_; (with_reducible refine (cmp_isNaN_int.calls a0 false _ A3.out).mono ?_); rintro e w' ⟨rfl, ⟨nd, rfl⟩⟩; refine ⟨_, rfl, ?_⟩) | ((with_reducible refine gate_callee (f := 117) rfl ?_); refine goesL_ (some 10) rfl rfl Tryz.func117 (by kernel_rfl) rfl #[.int .i64 a1] rfl (by (try simp only [List.map_toArray, List.map_cons, List.map_nil]); first | done | rfl | (simp only [List.length_drop, List.length_take]; rfl)) ?_; (with_reducible refine (cmp_isNaN_int.calls a1 false _ A4.out).mono ?_); rintro e w' ⟨rfl, ⟨nd, rfl⟩⟩; refine ⟨_, rfl, ?_⟩))
     go_ret
     exact ⟨by first | rfl | (simp; done) | (simp [*]; done), by repeat (first | exact Drawn0.refl _ | apply Drawn0.step)⟩
    ·rw [if_neg c9] at H
     have c9b0 : decide (a1 < a0) = false := decide_eq_false c9
     clear c9
     obtain rfl := Option.some.inj H
     go_enter Tryz.func101, Tryz.ntmps101
     go_wp2_with (first | ((with_reducible refine gate_callee (f := 117) rfl ?_); refine goesL_ (some 8) rfl rfl Tryz.func117 (by kernel_rfl) rfl #[.int .i64 a0] rfl (by (try simp only [List.map_toArray, List.map_cons, List.map_nil]); first | done | rfl | (simp only [List.length_drop, List.length_take]; rfl)) ?_; (with_reducible refine (cmp_isNaN_int.calls a0 false _ A3.out).mono ?_); rintro e w' ⟨rfl, ⟨nd, rfl⟩⟩; refine ⟨_, rfl, ?_⟩) | ((with_reducible refine gate_callee (f := 117) rfl ?_); refine goesL_ (some 10) rfl rfl Tryz.func117 (by kernel_rfl) rfl #[.int .i64 a1] rfl (by (try simp only [List.map_toArray, List.map_cons, List.map_nil]); first | done | rfl | (simp only [List.length_drop, List.length_take]; rfl)) ?_; (with_reducible refine (cmp_isNaN_int.calls a1 false _ A4.out).mono ?_); rintro e w' ⟨rfl, ⟨nd, rfl⟩⟩; refine ⟨_, rfl, ?_⟩))
     go_ret
     exact ⟨by first | rfl | (simp; done) | (simp [*]; done), by repeat (first | exact Drawn0.refl _ | apply Drawn0.step)⟩
end Go.Proofs.YtapagoaoglmegaaGreat.PCl
namespace Go.Proofs.YtapagoaoglmegaaGreat
open Go.RowKit Go.Proofs.YtapagoaoglmegaaGreatW.PrintWords Go.Proofs.YtapagoaoglmegaaGreatW.PrintLast Go.Proofs.YtapagoaoglmegaaGreatW.PrintMore PCl
set_option linter.unusedVariables false
set_option linter.unusedSimpArgs false
set_option maxRecDepth 100000
theorem mid_at {s : S25} (h : SpOk s) (W : World) : Calls Tryz.prog 104 #[.agg #[.int .i64 s.f0, .int .i64 s.f1, .int .i64 s.f2]] W fun e w' => e = .returned (.int .i64 (midZ s)) ∧ Fr (fun _ => False) W w' :=
 (span_Mid.calls 4 _ _ _ _ W (mid_f _ _ _ 4 (Nat.le_refl _) h)).mono fun _ _ q => ⟨q.1, Fr.of_below q.2 (Nat.le_refl _) _⟩
theorem abs_at (a : Int) (h0 : -4611686018427387904 ≤ a) (h1 : a ≤ 4611686018427387904) (W : World) : Calls Tryz.prog 64 #[.int .i64 a] W fun e w' => e = .returned (.int .i64 (if a < 0 then -a else a)) ∧ Fr (fun _ => False) W w' := by
 have b1 : (a == -9223372036854775808) = false := by rw [beq_eq_false_iff_ne]; omega
 by_cases hn : a < 0
 ·have e : (if a < 0 then -a else a) = -a := if_pos hn
  rw [e]
  have b2 : decide (a < 0) = true := decide_eq_true hn
  clear e
  go_enter Tryz.func64, Tryz.ntmps64
  go_wp2
  go_ret
  exact ⟨rfl, Fr.refl _ _⟩
 ·have e : (if a < 0 then -a else a) = a := if_neg hn
  rw [e]
  have b2 : decide (a < 0) = false := decide_eq_false hn
  clear e
  go_enter Tryz.func64, Tryz.ntmps64
  go_wp2
  go_ret
  exact ⟨rfl, Fr.refl _ _⟩
theorem abs_is {a b : Int} (ha : Tm a) (hb : Tm b) (W : World) : Calls Tryz.prog 64 #[.int .i64 (a - b)] W fun e w' => e = .returned (.int .i64 (dist a b)) ∧ Fr (fun _ => False) W w' :=
 abs_at (a - b) (by unfold Tm MT at *; omega) (by unfold Tm MT at *; omega) W
def AddS (W : World) (B lB kB r o : Nat) (c d : S27) (n cap k : Nat) (A : Nat) (w' : World) : Prop :=
 w'.cell? ⟨B, 1, none⟩ = some (.int .i64 c.f1.f0) ∧ w'.cell? ⟨B, 2, none⟩ = some (.int .i64 c.f1.f1) ∧ w'.cell? ⟨B, 3, none⟩ = some (.int .i64 c.f1.f2) ∧
 w'.cell? ⟨lB, 0, none⟩ = some (.slice (some ⟨r, A, none⟩) n cap) ∧ w'.cell? ⟨kB, 0, none⟩ = some (.int .i64 k) ∧
 w'.cell? ⟨r, o + 1, none⟩ = some (.int .i64 d.f1.f0) ∧ w'.cell? ⟨r, o + 2, none⟩ = some (.int .i64 d.f1.f1) ∧ w'.cell? ⟨r, o + 3, none⟩ = some (.int .i64 d.f1.f2) ∧ Fr (fun _ => False) W w'
theorem AddS.fr {W : World} {B lB kB r o : Nat} {c d : S27} {n cap k A : Nat} {w w' : World} (f : Fr (fun _ => False) w w') (h : AddS W B lB kB r o c d n cap k A w) : AddS W B lB kB r o c d n cap k A w' := by
 obtain ⟨a0, a1, a2, a3, a4, a5, a6, a7, hf⟩ := h
 have key : ∀ {g i : Nat} {v : Value}, w.cell? ⟨g, i, none⟩ = some v → w'.cell? ⟨g, i, none⟩ = some v := fun h => (f.cell (World.block_lt_of_cell? w _ h) (fun h => h)).trans h
 exact ⟨key a0, key a1, key a2, key a3, key a4, key a5, key a6, key a7, hf.trans f (fun _ _ h => h)⟩
set_option maxHeartbeats 4000000 in
theorem add_at {w : World} {lB kB wB oB rB r off n cap k : Nat} {c d : S27} {x y o : Int} (hc : SpOk c.f1) (hd : SpOk d.f1) (hk : k < n)
  (cl : w.cell? ⟨lB, 0, none⟩ = some (.slice (some ⟨r, off, none⟩) n cap)) (ck : w.cell? ⟨kB, 0, none⟩ = some (.int .i64 k)) (h5 : At5 w r (off + k * 5) d)
  (bw : Blk w wB #[.int .i64 x] 2) (bo : Blk w oB #[.int .i64 o] 2) (br : Blk w rB #[.int .i64 y] 2) (hwo : wB ≠ oB) (hwr : wB ≠ rB) (hro : rB ≠ oB)
  (hx : 0 ≤ x) (hy : 0 ≤ y) (ho : 0 < o) (hx1 : x + dist (midZ c.f1) (midZ d.f1) / o ≤ 9223372036854775807) (hy1 : y + dist (midZ c.f1) (midZ d.f1) % o ≤ 9223372036854775807) (ho1 : o ≤ 9223372036854775807) :
  Calls Tryz.prog 103 #[.agg #[.int .i64 c.f0, .int .i64 c.f1.f0, .int .i64 c.f1.f1, .int .i64 c.f1.f2, .int .i64 c.f2], .pointer (some ⟨lB, 0, none⟩), .pointer (some ⟨kB, 0, none⟩), .pointer (some ⟨wB, 0, none⟩), .pointer (some ⟨oB, 0, none⟩), .pointer (some ⟨rB, 0, none⟩)] w
   fun e w' => e = .returned (.tuple #[]) ∧ Blk w' wB #[.int .i64 (x + dist (midZ c.f1) (midZ d.f1) / o)] 2 ∧ Blk w' rB #[.int .i64 (y + dist (midZ c.f1) (midZ d.f1) % o)] 2 ∧ Fr (fun i => i = wB ∨ i = rB) w w' := by
 have hta := (midZ_tm hc).1
 have htb := (midZ_tm hd).1
 obtain ⟨a, ha⟩ : ∃ a, a = midZ c.f1 := ⟨_, rfl⟩
 obtain ⟨b, hb⟩ : ∃ b, b = midZ d.f1 := ⟨_, rfl⟩
 have Ma : ∀ W, Calls Tryz.prog 104 #[.agg #[.int .i64 c.f1.f0, .int .i64 c.f1.f1, .int .i64 c.f1.f2]] W fun e w' => e = .returned (.int .i64 a) ∧ Fr (fun _ => False) W w' := fun W => by rw [ha]; exact mid_at hc W
 have Mb : ∀ W, Calls Tryz.prog 104 #[.agg #[.int .i64 d.f1.f0, .int .i64 d.f1.f1, .int .i64 d.f1.f2]] W fun e w' => e = .returned (.int .i64 b) ∧ Fr (fun _ => False) W w' := fun W => by rw [hb]; exact mid_at hd W
 rw [← ha] at hta hx1 hy1 ⊢
 rw [← hb] at htb hx1 hy1 ⊢
 clear ha hb hc hd
 have hD := dist_tm hta htb
 have Mc := abs_is hta htb
 obtain ⟨D, hDe⟩ : ∃ D, D = dist a b := ⟨_, rfl⟩
 rw [← hDe] at hD hx1 hy1 Mc ⊢
 have HMa := Lib.hid Ma
 have HMb := Lib.hid Mb
 have HMc := Lib.hid Mc
 clear hDe Ma Mb Mc
 obtain ⟨ta0, ta1⟩ : 0 ≤ a ∧ a ≤ 4611686018427387904 := hta
 obtain ⟨tb0, tb1⟩ : 0 ≤ b ∧ b ≤ 4611686018427387904 := htb
 obtain ⟨td0, td1⟩ : 0 ≤ D ∧ D ≤ 4611686018427387904 := hD
 have i0 : (0 : Int) ≤ (k : Int) := by omega
 have i1 : (k : Int) < (n : Int) := by omega
 go_enter Tryz.func103, Tryz.ntmps103
 go_wp2_with fail
 generalize hW : World.alloc w _ = W
 have f0 : Fr (fun _ => False) w W := by subst hW; (repeat' (first | (with_reducible exact Fr.refl _ _) | (with_reducible assumption) | (with_reducible refine Fr.alloc ?_ _) | (with_reducible refine Fr.drew ?_) | (with_reducible refine Fr.drewN ?_ _) | (with_reducible refine Fr.setCell ?_ _ _ ?_) | (exact Or.inr rfl) | (left; simp; done) | (left; simp; omega) | (simp; done) | (simp; omega) | omega))
 have bB : Blk W w.heap.size #[.int .i64 c.f0, .int .i64 c.f1.f0, .int .i64 c.f1.f1, .int .i64 c.f1.f2, .int .i64 c.f2] 27 := by subst hW; (repeat' (first | (with_reducible assumption) | (with_reducible apply Blk.drew) | (with_reducible apply Blk.drewN) | (with_reducible apply Blk.set) | (with_reducible apply Blk.other) | (exact Blk.new' _ _ _ (by first | rfl | (simp; done) | (simp; omega))) | (with_reducible apply Blk.alloc) | (with_reducible rfl) | (simp; done) | (simp; omega) | omega | rfl))
 clear hW
 have key : ∀ {g i : Nat} {v : Value}, w.cell? ⟨g, i, none⟩ = some v → W.cell? ⟨g, i, none⟩ = some v := fun h => (f0.cell (World.block_lt_of_cell? w _ h) (fun h => h)).trans h
 have bw0 := bw.fr f0 (fun h => h)
 have bo0 := bo.fr f0 (fun h => h)
 have br0 := br.fr f0 (fun h => h)
 have ms0 : AddS W w.heap.size lB kB r (off + k * 5) c d n cap k off W := ⟨bB.cell 1, bB.cell 2, bB.cell 3, key cl, key ck, key h5.2.1, key h5.2.2.1, key h5.2.2.2.1, Fr.refl _ _⟩
 have ms := AddS.fr ((Fr.refl _ _).drew) ms0
 generalize w.heap.size = B at *
 clear bB key cl ck h5 bw bo br ms0
 have es : IntKind.i64.wrap (a - b) = a - b := IntWalk.i64_in _ (by omega)
 refine start_ (n := 12) (S := fun w' => w'.cell? ⟨B, 1, none⟩ = some (.int .i64 c.f1.f0) ∧ w'.cell? ⟨B, 2, none⟩ = some (.int .i64 c.f1.f1) ∧ w'.cell? ⟨B, 3, none⟩ = some (.int .i64 c.f1.f2) ∧ w'.cell? ⟨lB, 0, none⟩ = some (.slice (some ⟨r, off, none⟩) n cap) ∧ w'.cell? ⟨kB, 0, none⟩ = some (.int .i64 k) ∧ w'.cell? ⟨r, off + k * 5 + 1, none⟩ = some (.int .i64 d.f1.f0) ∧ w'.cell? ⟨r, off + k * 5 + 2, none⟩ = some (.int .i64 d.f1.f1) ∧ w'.cell? ⟨r, off + k * 5 + 3, none⟩ = some (.int .i64 d.f1.f2) ∧ Fr (fun _ => False) W w') (ds := []) #[oN,oN,oN,oN,oN,oN,oN,oN,oN,oN,oN,oN] (by kernel_rfl) rfl rfl ⟨ms.1, ms.2.1, ms.2.2.1, ms.2.2.2.1, ms.2.2.2.2.1, ms.2.2.2.2.2.1, ms.2.2.2.2.2.2.1, ms.2.2.2.2.2.2.2.1, ms.2.2.2.2.2.2.2.2⟩ (fun hHeld => ?_)
 refine pure_ (i := 0) (N := some 8) (v := ?_) (a' := ?_) #[oY,oN,oN,oN,oN,oN,oN,oN,oN,oN,oN,oN] rfl rfl (by kernel_rfl) (fun _ _ _ h => h) (Or.inl ⟨by rfl, ?_⟩) ?_ ?_
 rotate_left
 ·intro w'
  go_simp
  with_reducible rfl
 rotate_left
 ·simp only [Act.put, List.setIfInBounds_toArray, List.set_cons_zero, List.set_cons_succ, i64_w, i32_w]
  rfl
 refine take_ (i := 1) (N := some 9) (v := ?_) (a' := ?_) #[oY,oY,oN,oN,oN,oN,oN,oN,oN,oN,oN,oN] rfl rfl (by kernel_rfl) (fun _ _ _ h => h) (Or.inl ⟨by rfl, ?_⟩) hHeld ?_ ?_
 rotate_left
 ·rintro w' ⟨s0, s1, s2, s3, s4, s5, s6, s7, s8⟩
  go_simp
  with_reducible rfl
 rotate_left
 ·simp only [Act.put, List.setIfInBounds_toArray, List.set_cons_zero, List.set_cons_succ, i64_w, i32_w]
  rfl
 refine take_ (i := 3) (N := some 11) (v := ?_) (a' := ?_) #[oY,oY,oN,oY,oN,oN,oN,oN,oN,oN,oN,oN] rfl rfl (by kernel_rfl) (fun _ _ _ h => h) (Or.inl ⟨by rfl, ?_⟩) hHeld ?_ ?_
 rotate_left
 ·rintro w' ⟨s0, s1, s2, s3, s4, s5, s6, s7, s8⟩
  go_simp
  with_reducible rfl
 rotate_left
 ·simp only [Act.put, List.setIfInBounds_toArray, List.set_cons_zero, List.set_cons_succ, i64_w, i32_w]
  rfl
 refine take_ (i := 4) (N := some 12) (v := ?_) (a' := ?_) #[oY,oY,oN,oY,oY,oN,oN,oN,oN,oN,oN,oN] rfl rfl (by kernel_rfl) (fun _ _ _ h => h) (Or.inl ⟨by rfl, ?_⟩) hHeld ?_ ?_
 rotate_left
 ·rintro w' ⟨s0, s1, s2, s3, s4, s5, s6, s7, s8⟩
  go_simp
  with_reducible rfl
 rotate_left
 ·simp only [Act.put, List.setIfInBounds_toArray, List.set_cons_zero, List.set_cons_succ, i64_w, i32_w]
  rfl
 refine pure_ (i := 5) (N := some 13) (v := ?_) (a' := ?_) #[oY,oY,oN,oY,oY,oY,oN,oN,oN,oN,oN,oN] rfl rfl (by kernel_rfl) (fun _ _ _ h => h) (Or.inl ⟨by rfl, ?_⟩) ?_ ?_
 rotate_left
 ·intro w'
  go_simp
  with_reducible rfl
 rotate_left
 ·simp only [Act.put, List.setIfInBounds_toArray, List.set_cons_zero, List.set_cons_succ, i64_w, i32_w]
  rfl
 refine pure_ (i := 6) (N := some 14) (v := ?_) (a' := ?_) #[oY,oY,oN,oY,oY,oY,oY,oN,oN,oN,oN,oN] rfl rfl (by kernel_rfl) (fun _ _ _ h => h) (Or.inl ⟨by rfl, ?_⟩) ?_ ?_
 rotate_left
 ·intro w'
  go_simp
  with_reducible rfl
 rotate_left
 ·simp only [Act.put, List.setIfInBounds_toArray, List.set_cons_zero, List.set_cons_succ, i64_w, i32_w]
  rfl
 refine take_ (i := 7) (N := some 15) (v := ?_) (a' := ?_) #[oY,oY,oN,oY,oY,oY,oY,oY,oN,oN,oN,oN] rfl rfl (by kernel_rfl) (fun _ _ _ h => h) (Or.inl ⟨by rfl, ?_⟩) hHeld ?_ ?_
 rotate_left
 ·rintro w' ⟨s0, s1, s2, s3, s4, s5, s6, s7, s8⟩
  go_simp
  with_reducible rfl
 rotate_left
 ·simp only [Act.put, List.setIfInBounds_toArray, List.set_cons_zero, List.set_cons_succ, i64_w, i32_w]
  rfl
 refine one_ (i := 2) (N := some 10) #[oY,oY,oY,oY,oY,oY,oY,oY,oN,oN,oN,oN] rfl rfl (by kernel_rfl) (by decide) (fun K hK => ?_)
 refine goes_ Tryz.func104 (by kernel_rfl) rfl #[.agg #[.int .i64 c.f1.f0, .int .i64 c.f1.f1, .int .i64 c.f1.f2]] (by rfl) rfl rfl (by simp only [List.map_toArray, List.map_cons, List.map_nil]; rfl) ?_
 refine (HMa.out _).mono ?_
 rintro e w3 ⟨rfl, k3⟩
 refine ⟨_, rfl, ?_⟩
 have ms3 := AddS.fr k3 hHeld
 refine hK.out _ _ ⟨ms3.1, ms3.2.1, ms3.2.2.1, ms3.2.2.2.1, ms3.2.2.2.2.1, ms3.2.2.2.2.2.1, ms3.2.2.2.2.2.2.1, ms3.2.2.2.2.2.2.2.1, ms3.2.2.2.2.2.2.2.2⟩ (fun hHeld => ?_)
 clear hK K
 refine norm_ (a' := ?_) ?_ ?_
 rotate_left
 ·show Act.put _ (some 10) _ = _
  simp only [Act.put, List.setIfInBounds_toArray, List.set_cons_zero, List.set_cons_succ, i64_w, i32_w]
  rfl
 refine one_ (i := 8) (N := some 16) #[oY,oY,oY,oY,oY,oY,oY,oY,oY,oN,oN,oN] rfl rfl (by kernel_rfl) (by decide) (fun K hK => ?_)
 refine goes_ Tryz.func104 (by kernel_rfl) rfl #[.agg #[.int .i64 d.f1.f0, .int .i64 d.f1.f1, .int .i64 d.f1.f2]] (by rfl) rfl rfl (by simp only [List.map_toArray, List.map_cons, List.map_nil]; rfl) ?_
 refine (HMb.out _).mono ?_
 rintro e w4 ⟨rfl, k4⟩
 refine ⟨_, rfl, ?_⟩
 have ms4 := AddS.fr k4 hHeld
 refine hK.out _ _ ⟨ms4.1, ms4.2.1, ms4.2.2.1, ms4.2.2.2.1, ms4.2.2.2.2.1, ms4.2.2.2.2.2.1, ms4.2.2.2.2.2.2.1, ms4.2.2.2.2.2.2.2.1, ms4.2.2.2.2.2.2.2.2⟩ (fun hHeld => ?_)
 clear hK K
 refine norm_ (a' := ?_) ?_ ?_
 rotate_left
 ·show Act.put _ (some 16) _ = _
  simp only [Act.put, List.setIfInBounds_toArray, List.set_cons_zero, List.set_cons_succ, i64_w, i32_w]
  rfl
 refine pure_ (i := 9) (N := some 17) (v := ?_) (a' := ?_) #[oY,oY,oY,oY,oY,oY,oY,oY,oY,oY,oN,oN] rfl rfl (by kernel_rfl) (fun _ _ _ h => h) (Or.inl ⟨by rfl, ?_⟩) ?_ ?_
 rotate_left
 ·intro w'
  go_simp
  with_reducible rfl
 rotate_left
 ·simp only [Act.put, List.setIfInBounds_toArray, List.set_cons_zero, List.set_cons_succ, i64_w, i32_w]
  rfl
 refine one_ (i := 10) (N := some 18) #[oY,oY,oY,oY,oY,oY,oY,oY,oY,oY,oY,oN] rfl rfl (by kernel_rfl) (by decide) (fun K hK => ?_)
 refine goes_ Tryz.func64 (by kernel_rfl) rfl #[.int .i64 (a - b)] (by rfl) rfl rfl (by simp only [List.map_toArray, List.map_cons, List.map_nil]; rfl) ?_
 refine (HMc.out _).mono ?_
 rintro e w5 ⟨rfl, k5⟩
 refine ⟨_, rfl, ?_⟩
 have ms5 := AddS.fr k5 hHeld
 refine hK.out _ _ ⟨ms5.1, ms5.2.1, ms5.2.2.1, ms5.2.2.2.1, ms5.2.2.2.2.1, ms5.2.2.2.2.2.1, ms5.2.2.2.2.2.2.1, ms5.2.2.2.2.2.2.2.1, ms5.2.2.2.2.2.2.2.2⟩ (fun hHeld => ?_)
 clear hK K
 refine norm_ (a' := ?_) ?_ ?_
 rotate_left
 ·show Act.put _ (some 18) _ = _
  simp only [Act.put, List.setIfInBounds_toArray, List.set_cons_zero, List.set_cons_succ, i64_w, i32_w]
  rfl
 refine pure_ (i := 11) (N := some 7) (v := ?_) (a' := ?_) #[oY,oY,oY,oY,oY,oY,oY,oY,oY,oY,oY,oY] rfl rfl (by kernel_rfl) (fun _ _ _ h => h) (Or.inl ⟨by rfl, ?_⟩) ?_ ?_
 rotate_left
 ·intro w'
  go_simp
  with_reducible rfl
 rotate_left
 ·simp only [Act.put, List.setIfInBounds_toArray, List.set_cons_zero, List.set_cons_succ, i64_w, i32_w]
  rfl
 refine done_ (by kernel_rfl) ?_
 have fE : Fr (fun _ => False) W w5 := hHeld.2.2.2.2.2.2.2.2
 clear hHeld ms ms3 ms4 ms5 k3 k4 k5 HMa HMb HMc
 have bw1 := bw0.fr fE (fun h => h)
 have bo1 := bo0.fr fE (fun h => h)
 have br1 := br0.fr fE (fun h => h)
 have cw := bw1.cell 0
 have co := bo1.cell 0
 have gw := bw1.free 0
 simp at cw co
 clear bw0 bo0 br0 es
 have q0 : 0 ≤ D / o := Int.ediv_nonneg td0 (by omega)
 have q1 : D / o ≤ D := Int.ediv_le_self _ td0
 have m0 : 0 ≤ D % o := Int.emod_nonneg _ (by omega)
 have m1 : D % o < o := Int.emod_lt_of_pos _ ho
 have z0 : (o == 0) = false := by rw [beq_eq_false_iff_ne]; omega
 have z1 : o ≠ 0 := by omega
 have e1 : D.tdiv o = D / o := Int.tdiv_eq_ediv_of_nonneg td0
 have e2 : IntKind.i64.wrap (D / o) = D / o := IntWalk.i64_in _ (by omega)
 have e3 : IntKind.i64.wrap (x + D / o) = x + D / o := IntWalk.i64_in _ (by omega)
 have e4 : D.tmod o = D % o := Int.tmod_eq_emod_of_nonneg td0
 have e5 : IntKind.i64.wrap (D % o) = D % o := IntWalk.i64_in _ (by omega)
 have e6 : IntKind.i64.wrap (y + D % o) = y + D % o := IntWalk.i64_in _ (by omega)
 go_wp2_with fail
 go_still_tail 5, (by kernel_rfl)
 change wpList _ _ _ _ _ (World.drew w5)
 go_wp2_with fail
 generalize hW : World.drew (World.setCell w5 _ _) = W6
 have bw2 : Blk W6 wB #[.int .i64 (x + D / o)] 2 := by subst hW; (repeat' (first | (with_reducible assumption) | (with_reducible apply Blk.drew) | (with_reducible apply Blk.drewN) | (with_reducible apply Blk.set) | (with_reducible apply Blk.other) | (exact Blk.new' _ _ _ (by first | rfl | (simp; done) | (simp; omega))) | (with_reducible apply Blk.alloc) | (with_reducible rfl) | (simp; done) | (simp; omega) | omega | rfl))
 have bo2 : Blk W6 oB #[.int .i64 o] 2 := by subst hW; exact (bo1.other hwo).drew
 have br2 : Blk W6 rB #[.int .i64 y] 2 := by subst hW; exact (br1.other hwr).drew
 have f2 : Fr (fun i => i = wB) w5 W6 := by subst hW; (repeat' (first | (with_reducible exact Fr.refl _ _) | (with_reducible assumption) | (with_reducible refine Fr.alloc ?_ _) | (with_reducible refine Fr.drew ?_) | (with_reducible refine Fr.drewN ?_ _) | (with_reducible refine Fr.setCell ?_ _ _ ?_) | (exact Or.inr rfl) | (left; simp; done) | (left; simp; omega) | (simp; done) | (simp; omega) | omega))
 clear hW cw co gw bw1 bo1 br1
 have cr := br2.cell 0
 have co := bo2.cell 0
 have gr := br2.free 0
 simp at cr co
 go_wp2_with fail
 go_still_tail 5, (by kernel_rfl)
 change wpList _ _ _ _ _ (World.drew W6)
 go_wp2_with fail
 generalize hW : World.drew (World.setCell W6 _ _) = W7
 have bw3 : Blk W7 wB #[.int .i64 (x + D / o)] 2 := by subst hW; exact (bw2.other (Ne.symm hwr)).drew
 have br3 : Blk W7 rB #[.int .i64 (y + D % o)] 2 := by subst hW; (repeat' (first | (with_reducible assumption) | (with_reducible apply Blk.drew) | (with_reducible apply Blk.drewN) | (with_reducible apply Blk.set) | (with_reducible apply Blk.other) | (exact Blk.new' _ _ _ (by first | rfl | (simp; done) | (simp; omega))) | (with_reducible apply Blk.alloc) | (with_reducible rfl) | (simp; done) | (simp; omega) | omega | rfl))
 have f3 : Fr (fun i => i = rB) W6 W7 := by subst hW; (repeat' (first | (with_reducible exact Fr.refl _ _) | (with_reducible assumption) | (with_reducible refine Fr.alloc ?_ _) | (with_reducible refine Fr.drew ?_) | (with_reducible refine Fr.drewN ?_ _) | (with_reducible refine Fr.setCell ?_ _ _ ?_) | (exact Or.inr rfl) | (left; simp; done) | (left; simp; omega) | (simp; done) | (simp; omega) | omega))
 clear hW cr co gr
 go_wp2
 go_returns
 have fa : Fr (fun i => i = wB ∨ i = rB) w w5 := (f0.trans fE (fun _ _ h => h)).mono (fun _ _ h => h.elim)
 exact ⟨rfl, bw3, br3, (fa.trans f2 (fun _ _ h => .inl h)).trans f3 (fun _ _ h => .inr h)⟩
theorem sum_zero_at (B : Int) (hB : 0 ≤ B) (l : List Int) (k : Nat) (hk : l[k]? = some 0) (h : ∀ d ∈ l, 0 ≤ d ∧ d ≤ B) : l.sum ≤ ((l.length : Int) - 1) * B := by
 obtain ⟨hkl, hk0⟩ := List.getElem?_eq_some_iff.1 hk
 have e : l = l.take k ++ 0 :: l.drop (k + 1) := by rw [← hk0, ← List.drop_eq_getElem_cons hkl, List.take_append_drop]
 have h1 := sum_le B hB (l.take k) (fun d hd => h d (List.mem_of_mem_take hd))
 have h2 := sum_le B hB (l.drop (k + 1)) (fun d hd => h d (List.mem_of_mem_drop hd))
 have e1 : l.sum = (l.take k).sum + (l.drop (k + 1)).sum := by
  conv => lhs; rw [e]
  rw [List.sum_append, List.sum_cons]; omega
 rw [e1]
 have e2 : ((l.length : Int) - 1) * B = ((l.take k).length : Int) * B + ((l.drop (k + 1)).length : Int) * B := by
  rw [← Int.add_mul]; congr 1; simp; omega
 rw [e2]; omega
theorem sumD_snoc (o : Int) (l : List Int) (d : Int) : sumD o (l ++ [d]) = sumD o l + d / o := by simp [sumD]
theorem sumR_snoc (o : Int) (l : List Int) (d : Int) : sumR o (l ++ [d]) = sumR o l + d % o := by simp [sumR]
theorem sumD_take {o : Int} (ho : 0 < o) {l : List Int} (h : ∀ d ∈ l, Tm d) (i : Nat) : 0 ≤ sumD o (l.take i) ∧ sumD o (l.take i) ≤ sumD o l := by
 have h1 := sumD_le o ho (l.take i) (fun d hd => h d (List.mem_of_mem_take hd))
 have h2 := sumD_le o ho (l.drop i) (fun d hd => h d (List.mem_of_mem_drop hd))
 have e : sumD o l = sumD o (l.take i) + sumD o (l.drop i) := by
  conv => lhs; rw [← List.take_append_drop i l]
  unfold sumD
  rw [List.map_append, List.sum_append]
 omega
theorem dist_self (a : Int) : dist a a = 0 := by unfold dist; simp
theorem dists_k {l : List S27} {k : Nat} (hk : k < l.length) : (dists l k)[k]? = some 0 := by
 unfold dists
 rw [List.getElem?_map, List.getElem?_eq_getElem hk]
 have : rd_T27 l (k : Int) = l[k] := rd_get (List.getElem?_eq_getElem hk)
 simp [this, dist_self]
theorem dists_len (l : List S27) (k : Nat) : (dists l k).length = l.length := by simp [dists]
theorem sumD_fits {l : List S27} (h : Fld l) {k : Nat} (hk : k < l.length) (hn : 2 ≤ l.length) : sumD ((l.length : Int) - 1) (dists l k) ≤ MT := by
 have ho : 0 < (l.length : Int) - 1 := by omega
 have ht := dists_tm h hk
 have h1 := sum_zero_at MT (by unfold MT; omega) (dists l k) k (dists_k hk) ht
 rw [dists_len] at h1
 have h2 := sum_parts ((l.length : Int) - 1) ho (dists l k)
 have h3 := sumR_le ((l.length : Int) - 1) ho (dists l k)
 have h4 : sumD ((l.length : Int) - 1) (dists l k) * ((l.length : Int) - 1) ≤ MT * ((l.length : Int) - 1) := by rw [Int.mul_comm MT]; omega
 exact Int.le_of_mul_le_mul_right h4 ho
theorem dists_get {l : List S27} {k i : Nat} {c d : S27} (hc : l[i]? = some c) (hd : l[k]? = some d) : (dists l k)[i]? = some (dist (midZ c.f1) (midZ d.f1)) := by
 unfold dists
 rw [List.getElem?_map, hc, rd_get hd]; rfl
set_option maxHeartbeats 4000000 in
theorem spread_at {w : World} {A : Option Addr} {cap k : Nat} {l : List S27} (hC : Kd.C k27 w A l.length l) (hcap : l.length ≤ cap) (hF : Fld l) (hk : k < l.length) :
  Calls Tryz.prog 55 #[.slice A l.length cap, .int .i64 k] w fun e w' => e = .returned (.int .i64 (spreadZ l k)) ∧ Fr (fun _ => False) w w' := by
 have hmx := hC.2.1
 obtain ⟨r, off, rfl, hr, hcell⟩ := C27_open hC (by omega)
 clear hC
 by_cases hn : l.length < 2
 ·have hz : spreadZ l k = 0 := if_pos hn
  rw [hz]
  have b1 : decide ((l.length : Int) < 2) = true := decide_eq_true (by omega)
  have b2 : decide (l.length < 2) = true := decide_eq_true hn
  clear hcell hz
  go_enter Tryz.func55, Tryz.ntmps55
  go_wp2
  go_ret
  exact ⟨rfl, by (repeat' (first | (with_reducible exact Fr.refl _ _) | (with_reducible assumption) | (with_reducible refine Fr.alloc ?_ _) | (with_reducible refine Fr.drew ?_) | (with_reducible refine Fr.drewN ?_ _) | (with_reducible refine Fr.setCell ?_ _ _ ?_) | (exact Or.inr rfl) | (left; simp; done) | (left; simp; omega) | (simp; done) | (simp; omega) | omega))⟩
 ·have b1 : decide ((l.length : Int) < 2) = false := decide_eq_false (by omega)
  have b2 : decide (l.length < 2) = false := decide_eq_false hn
  have hmf : ∀ (fn : Fn) (first cap : Array Value) (w : World), (Instr.makeFunc fn first cap).run Tryz.prog w = .ok (.func fn first cap) w := fun _ _ _ _ => rfl
  have ho : 0 < (l.length : Int) - 1 := by omega
  have hfit := sumD_fits hF hk (by omega)
  have htm := dists_tm hF hk
  have hzz : spreadZ l k = sumD ((l.length : Int) - 1) (dists l k) + sumR ((l.length : Int) - 1) (dists l k) / ((l.length : Int) - 1) := by
   unfold spreadZ; rw [if_neg hn, parts_div _ ho]
  have HZ := hid hzz
  have hl16 := hF.len
  obtain ⟨d, hd⟩ : ∃ d, l[k]? = some d := ⟨l[k], List.getElem?_eq_getElem hk⟩
  have hsd := hF.span d (List.mem_of_getElem? hd)
  have Hcell := hid hcell
  have HF := hid hF
  have Hd := hid hd
  have Htm := hid htm
  have ew : IntKind.i64.wrap ((l.length : Int) - 1) = (l.length : Int) - 1 := IntWalk.i64_in _ (by omega)
  clear hzz hcell hF hd htm
  obtain ⟨o, ho_⟩ : ∃ o, o = (l.length : Int) - 1 := ⟨_, rfl⟩
  rw [← ho_] at ho hfit HZ ew
  go_enter Tryz.func55, Tryz.ntmps55
  go_wp2_with fail
  generalize hW : World.alloc (World.alloc (World.alloc (World.alloc (World.alloc w _) _) _) _) _ = W
  have f0 : Fr (fun _ => False) w W := by subst hW; (repeat' (first | (with_reducible exact Fr.refl _ _) | (with_reducible assumption) | (with_reducible refine Fr.alloc ?_ _) | (with_reducible refine Fr.drew ?_) | (with_reducible refine Fr.drewN ?_ _) | (with_reducible refine Fr.setCell ?_ _ _ ?_) | (exact Or.inr rfl) | (left; simp; done) | (left; simp; omega) | (simp; done) | (simp; omega) | omega))
  have bl : Blk W w.heap.size #[.slice (some ⟨r, off, none⟩) l.length cap] 22 := by subst hW; (repeat' (first | (with_reducible assumption) | (with_reducible apply Blk.drew) | (with_reducible apply Blk.drewN) | (with_reducible apply Blk.set) | (with_reducible apply Blk.other) | (exact Blk.new' _ _ _ (by first | rfl | (simp; done) | (simp; omega))) | (with_reducible apply Blk.alloc) | (with_reducible rfl) | (simp; done) | (simp; omega) | omega | rfl))
  have bk : Blk W (w.heap.size + 1) #[.int .i64 k] 3 := by subst hW; (repeat' (first | (with_reducible assumption) | (with_reducible apply Blk.drew) | (with_reducible apply Blk.drewN) | (with_reducible apply Blk.set) | (with_reducible apply Blk.other) | (exact Blk.new' _ _ _ (by first | rfl | (simp; done) | (simp; omega))) | (with_reducible apply Blk.alloc) | (with_reducible rfl) | (simp; done) | (simp; omega) | omega | rfl))
  have bo : Blk W (w.heap.size + 1 + 1) #[.int .i64 o] 2 := by subst hW; rw [ho_]; (repeat' (first | (with_reducible assumption) | (with_reducible apply Blk.drew) | (with_reducible apply Blk.drewN) | (with_reducible apply Blk.set) | (with_reducible apply Blk.other) | (exact Blk.new' _ _ _ (by first | rfl | (simp; done) | (simp; omega))) | (with_reducible apply Blk.alloc) | (with_reducible rfl) | (simp; done) | (simp; omega) | omega | rfl))
  have bw : Blk W (w.heap.size + 1 + 1 + 1) #[.int .i64 0] 2 := by subst hW; (repeat' (first | (with_reducible assumption) | (with_reducible apply Blk.drew) | (with_reducible apply Blk.drewN) | (with_reducible apply Blk.set) | (with_reducible apply Blk.other) | (exact Blk.new' _ _ _ (by first | rfl | (simp; done) | (simp; omega))) | (with_reducible apply Blk.alloc) | (with_reducible rfl) | (simp; done) | (simp; omega) | omega | rfl))
  have br : Blk W (w.heap.size + 1 + 1 + 1 + 1) #[.int .i64 0] 2 := by subst hW; (repeat' (first | (with_reducible assumption) | (with_reducible apply Blk.drew) | (with_reducible apply Blk.drewN) | (with_reducible apply Blk.set) | (with_reducible apply Blk.other) | (exact Blk.new' _ _ _ (by first | rfl | (simp; done) | (simp; omega))) | (with_reducible apply Blk.alloc) | (with_reducible rfl) | (simp; done) | (simp; omega) | omega | rfl))
  clear hW
  obtain ⟨lB, hlB⟩ : ∃ b, b = w.heap.size := ⟨_, rfl⟩
  obtain ⟨kB, hkB⟩ : ∃ b, b = w.heap.size + 1 := ⟨_, rfl⟩
  obtain ⟨oB, hoB⟩ : ∃ b, b = w.heap.size + 1 + 1 := ⟨_, rfl⟩
  obtain ⟨wB, hwB⟩ : ∃ b, b = w.heap.size + 1 + 1 + 1 := ⟨_, rfl⟩
  obtain ⟨rB, hrB⟩ : ∃ b, b = w.heap.size + 1 + 1 + 1 + 1 := ⟨_, rfl⟩
  rw [← hrB, ← hwB, ← hoB, ← hkB, ← hlB]
  rw [← hlB] at bl
  rw [← hkB] at bk
  rw [← hoB] at bo
  rw [← hwB] at bw
  rw [← hrB] at br
  have n1 : wB ≠ oB := by omega
  have n2 : wB ≠ rB := by omega
  have n3 : rB ≠ oB := by omega
  have n4 : lB ≠ wB ∧ lB ≠ rB ∧ kB ≠ wB ∧ kB ≠ rB ∧ oB ≠ wB ∧ oB ≠ rB := by omega
  have n5 : ¬ wB < w.heap.size ∧ ¬ rB < w.heap.size := by omega
  have n6 : r ≠ wB ∧ r ≠ rB := by omega
  obtain ⟨n41, n42, n43, n44, n45, n46⟩ := n4
  clear hlB hkB hoB hwB hrB
  have ho16 : o ≤ 16 := by omega
  clear ho_
  have hr1 : r < W.heap.size := f0.lt hr
  have cl0 := bl.cell 0
  have cl1 := bk.cell 0
  simp at cl0 cl1
  go_loopw [20] (fun vi wr => ∃ i : Nat, i ≤ l.length ∧ vi = .int .i64 i ∧ Blk wr wB #[.int .i64 (sumD o ((dists l k).take i))] 2 ∧ Blk wr rB #[.int .i64 (sumR o ((dists l k).take i))] 2 ∧ Fr (fun j => j = wB ∨ j = rB) W wr) (fun vi _ => l.length - (intOf vi).toNat)
  case atStart => exact ⟨0, by omega, rfl, by simpa [sumD] using bw, by simpa [sumR] using br, Fr.refl _ _⟩
  case round =>
   clear bw br
   obtain ⟨i, hi, rfl, bw, br, hf⟩ := hrel
   have bo1 := bo.fr hf (by omega)
   have cl := (bl.fr hf (by omega)).cell 0
   have ck := (bk.fr hf (by omega)).cell 0
   simp at cl ck
   by_cases hlt : i < l.length
   ·obtain ⟨c, hc⟩ : ∃ c, l[i]? = some c := ⟨l[i], List.getElem?_eq_getElem hlt⟩
    obtain ⟨c1, c2, c3, c4, c5⟩ := ((Hcell.out i c hc).fr f0 (fun h => h)).fr hf (by omega)
    have hg := dists_get hc Hd.out
    have e1 : (dists l k).take (i + 1) = (dists l k).take i ++ [dist (midZ c.f1) (midZ d.f1)] := take_snoc hg
    have hx := sumD_take ho Htm.out i
    have hx1 := sumD_take ho Htm.out (i + 1)
    have hy := sumR_le o ho ((dists l k).take i)
    have hy1 := sumR_le o ho ((dists l k).take (i + 1))
    rw [e1, sumD_snoc] at hx1
    rw [e1, sumR_snoc] at hy1
    have e2 : sumD o ((dists l k).take (i + 1)) = sumD o ((dists l k).take i) + dist (midZ c.f1) (midZ d.f1) / o := by rw [e1, sumD_snoc]
    have e3 : sumR o ((dists l k).take (i + 1)) = sumR o ((dists l k).take i) + dist (midZ c.f1) (midZ d.f1) % o := by rw [e1, sumR_snoc]
    have E2 := hid e2
    have E3 := hid e3
    have hlen : ((List.take i (dists l k) ++ [dist (midZ c.f1) (midZ d.f1)]).length : Int) * o ≤ 16 * 16 := by
     have h1 : (List.take i (dists l k) ++ [dist (midZ c.f1) (midZ d.f1)]).length ≤ 16 := by simp; omega
     have h2 : o ≤ 16 := by omega
     have h3 : ((List.take i (dists l k) ++ [dist (midZ c.f1) (midZ d.f1)]).length : Int) ≤ 16 := by omega
     exact Int.mul_le_mul h3 h2 (by omega) (by omega)
    have HX : Hid (0 ≤ sumD o ((dists l k).take i) ∧ sumD o ((dists l k).take i) + dist (midZ c.f1) (midZ d.f1) / o ≤ 9223372036854775807) := hid ⟨hx.1, by unfold MT at hfit; omega⟩
    have HY : Hid (0 ≤ sumR o ((dists l k).take i) ∧ sumR o ((dists l k).take i) + dist (midZ c.f1) (midZ d.f1) % o ≤ 9223372036854775807) := hid ⟨hy.1, by omega⟩
    have hsc := HF.out.span c (List.mem_of_getElem? hc)
    have hh5 : Hid (At5 wr r (off + k * 5) d) := hid (((Hcell.out k d Hd.out).fr f0 (fun h => h)).fr hf (by omega))
    clear hx hx1 hy hy1 e1 e2 e3 hg hlen hc
    generalize sumD o ((dists l k).take i) = X at *
    generalize sumR o ((dists l k).take i) = Y at *
    go_wp2_with fail
    generalize hW : World.alloc wr _ = W2
    have f2 : Fr (fun _ => False) wr W2 := by subst hW; (repeat' (first | (with_reducible exact Fr.refl _ _) | (with_reducible assumption) | (with_reducible refine Fr.alloc ?_ _) | (with_reducible refine Fr.drew ?_) | (with_reducible refine Fr.drewN ?_ _) | (with_reducible refine Fr.setCell ?_ _ _ ?_) | (exact Or.inr rfl) | (left; simp; done) | (left; simp; omega) | (simp; done) | (simp; omega) | omega))
    clear hW
    have key : ∀ {g i : Nat} {v : Value}, wr.cell? ⟨g, i, none⟩ = some v → W2.cell? ⟨g, i, none⟩ = some v := fun h => (f2.cell (World.block_lt_of_cell? wr _ h) (fun h => h)).trans h
    refine (add_at (d := d) hsc hsd hk (key cl) (key ck) (hh5.out.fr f2 (fun h => h)) (bw.fr f2 (fun h => h)) (bo1.fr f2 (fun h => h)) (br.fr f2 (fun h => h)) n1 n2 n3 HX.out.1 HY.out.1 ho HX.out.2 HY.out.2 (by omega)).mono ?_
    rintro e w3 ⟨rfl, bw3, br3, f3⟩
    rw [← E2.out] at bw3
    rw [← E3.out] at br3
    have f4 : Fr (fun j => j = wB ∨ j = rB) W w3 := (hf.trans f2 (fun _ _ h => h.elim)).trans f3 (fun _ _ h => h)
    clear bw br bo1 cl ck key f2 f3 hf hh5 HX HY c1 c2 c3 c4 c5
    go_wp2_with fail
    go_roundw
    case rel => exact ⟨i + 1, by omega, by go_num, bw3, br3, f4⟩
    case measure => simp [intOf]; omega
   ·obtain rfl : l.length = i := by omega
    rw [List.take_of_length_le (by rw [dists_len]; omega)] at bw br
    have hD := sumD_take ho Htm.out l.length
    have hR := sumR_le o ho (dists l k)
    rw [List.take_of_length_le (by rw [dists_len]; omega)] at hD
    rw [dists_len] at hR
    have hR2 : (l.length : Int) * o ≤ 16 * 16 := Int.mul_le_mul (by omega) (by omega) (by omega) (by omega)
    generalize sumD o (dists l k) = X at *
    generalize sumR o (dists l k) = Y at *
    have ff : Fr (fun _ => False) w wr := f0.trans hf (fun j hj hj2 => by omega)
    have cw := bw.cell 0
    have cr := br.cell 0
    have co := bo1.cell 0
    simp at cw cr co
    have q0 : 0 ≤ Y / o := Int.ediv_nonneg hR.1 (by omega)
    have q1 : Y / o ≤ Y := Int.ediv_le_self _ hR.1
    have x1 : X ≤ 4611686018427387904 := by unfold MT at hfit; exact hfit
    have z0 : (o == 0) = false := by rw [beq_eq_false_iff_ne]; omega
    have z1 : o ≠ 0 := by omega
    have e1 : Y.tdiv o = Y / o := Int.tdiv_eq_ediv_of_nonneg hR.1
    have e2 : IntKind.i64.wrap (Y / o) = Y / o := IntWalk.i64_in _ (by omega)
    have e3 : IntKind.i64.wrap (X + Y / o) = X + Y / o := IntWalk.i64_in _ (by omega)
    have HZ2 := hid HZ.out
    have hY0 : 0 ≤ Y := hR.1
    have hX0 : 0 ≤ X := hD.1
    clear bw br bo1 hf hD hR hR2 hfit HZ hlt hi
    go_wp2_with fail
    refine start_ (n := 6) (S := fun w' => w'.cell? ⟨wB, 0, none⟩ = some (.int .i64 X) ∧ w'.cell? ⟨rB, 0, none⟩ = some (.int .i64 Y) ∧ w'.cell? ⟨oB, 0, none⟩ = some (.int .i64 o)) (ds := []) #[oN,oN,oN,oN,oN,oN] (by kernel_rfl) rfl rfl ⟨cw, cr, co⟩ (fun hHeld => ?_)
    refine take_ (i := 0) (N := some 28) (v := ?_) (a' := ?_) #[oY,oN,oN,oN,oN,oN] rfl rfl (by kernel_rfl) (fun _ _ _ h => h) (Or.inl ⟨by rfl, ?_⟩) hHeld ?_ ?_
    rotate_left
    ·rintro w' ⟨s0, s1, s2⟩
     go_simp
     with_reducible rfl
    rotate_left
    ·simp only [Act.put, List.setIfInBounds_toArray, List.set_cons_zero, List.set_cons_succ, i64_w, i32_w]
     rfl
    refine take_ (i := 1) (N := some 29) (v := ?_) (a' := ?_) #[oY,oY,oN,oN,oN,oN] rfl rfl (by kernel_rfl) (fun _ _ _ h => h) (Or.inl ⟨by rfl, ?_⟩) hHeld ?_ ?_
    rotate_left
    ·rintro w' ⟨s0, s1, s2⟩
     go_simp
     with_reducible rfl
    rotate_left
    ·simp only [Act.put, List.setIfInBounds_toArray, List.set_cons_zero, List.set_cons_succ, i64_w, i32_w]
     rfl
    refine take_ (i := 2) (N := some 30) (v := ?_) (a' := ?_) #[oY,oY,oY,oN,oN,oN] rfl rfl (by kernel_rfl) (fun _ _ _ h => h) (Or.inl ⟨by rfl, ?_⟩) hHeld ?_ ?_
    rotate_left
    ·rintro w' ⟨s0, s1, s2⟩
     go_simp
     with_reducible rfl
    rotate_left
    ·simp only [Act.put, List.setIfInBounds_toArray, List.set_cons_zero, List.set_cons_succ, i64_w, i32_w]
     rfl
    refine pure_ (i := 3) (N := some 31) (v := ?_) (a' := ?_) #[oY,oY,oY,oY,oN,oN] rfl rfl (by kernel_rfl) (fun _ _ _ h => h) (Or.inl ⟨by rfl, ?_⟩) ?_ ?_
    rotate_left
    ·intro w'
     go_simp
     with_reducible rfl
    rotate_left
    ·simp only [Act.put, List.setIfInBounds_toArray, List.set_cons_zero, List.set_cons_succ, i64_w, i32_w]
     rfl
    refine pure_ (i := 4) (N := some 32) (v := ?_) (a' := ?_) #[oY,oY,oY,oY,oY,oN] rfl rfl (by kernel_rfl) (fun _ _ _ h => h) (Or.inl ⟨by rfl, ?_⟩) ?_ ?_
    rotate_left
    ·intro w'
     go_simp
     with_reducible rfl
    rotate_left
    ·simp only [Act.put, List.setIfInBounds_toArray, List.set_cons_zero, List.set_cons_succ, i64_w, i32_w]
     rfl
    refine pure_ (i := 5) (N := some 4) (v := ?_) (a' := ?_) #[oY,oY,oY,oY,oY,oY] rfl rfl (by kernel_rfl) (fun _ _ _ h => h) (Or.inl ⟨by rfl, ?_⟩) ?_ ?_
    rotate_left
    ·intro w'
     go_simp
     with_reducible rfl
    rotate_left
    ·simp only [Act.put, List.setIfInBounds_toArray, List.set_cons_zero, List.set_cons_succ, i64_w, i32_w]
     rfl
    refine done_ (by kernel_rfl) ?_
    go_wp2
    go_ret
    exact ⟨by rw [HZ2.out]; rfl, ff.drew⟩
namespace PCl
def cluster_spread.f (l0 : List S27) (a1 : Int) : Option Int := if mayB l0 = true ∧ 0 ≤ a1 ∧ a1 < l0.length then some (spreadZ l0 a1.toNat) else none
theorem cluster_spread.calls (A0 : Option Addr) (c0 : Nat) (l0 : List S27) (a1 : Int) (r : Int) (w : World) (hr0 : Kd.C k27 w A0 l0.length l0) (hc0 : l0.length ≤ c0) (h : cluster_spread.f l0 a1 = some r) :
  Calls Tryz.prog 55 #[.slice A0 l0.length c0, .int .i64 a1] w fun e w' => e = .returned (.int .i64 r) ∧ Below w.heap.size w w' := by
 unfold cluster_spread.f at h
 split at h
 ·rename_i hw
  obtain rfl := Option.some.inj h
  obtain ⟨k, rfl⟩ := Int.eq_ofNat_of_zero_le hw.2.1
  rw [Int.toNat_natCast]
  exact (spread_at hr0 hc0 ((mayB_iff _).1 hw.1) (by omega)).mono fun _ _ q => ⟨q.1, q.2.below⟩
 ·cases h
end PCl
end Go.Proofs.YtapagoaoglmegaaGreat
namespace Go.Proofs.YtapagoaoglmegaaGreat.PCl
open Go.RowKit Go.Proofs.YtapagoaoglmegaaGreatW.PrintWords Go.Proofs.YtapagoaoglmegaaGreatW.PrintLast Go.Proofs.YtapagoaoglmegaaGreatW.PrintMore
attribute [local go_sem] max2_int min2_int max_two min_two max_three min_three max_four min_four
set_option linter.unusedVariables false
set_option linter.unusedSimpArgs false
def cluster_worst.l0 : Nat → List (S27) → Int → Int → Int → Option (Int)
 | 0, _, _, _, _ => none
 | k + 1, x0, x3, x6, x7 => if x7 < x6 then ((cluster_spread.f x0 x7).bind fun t262 => ((cluster_spread.f x0 x3).bind fun t263 => ((cmp_Compare_int64.f t262 t263).bind fun t264 => (if 0 ≤ x7 then (if x7 < (x0.length : Int) then (if 0 ≤ x3 then (if x3 < (x0.length : Int) then ((cmp_Compare_int.f ((rd_T27 x0 x7).f0) ((rd_T27 x0 x3).f0)).bind fun t267 => ((cmp_Or_int.f k (([t264, t267] : List Int))).bind fun t271 => (if t271 > 0 then (cluster_worst.l0 k x0 x7 x6 (wrap64 (x7 + 1))) else (cluster_worst.l0 k x0 x3 x6 (wrap64 (x7 + 1)))))) else (none)) else (none)) else (none)) else (none))))) else (some x3)
def cluster_worst.f (k : Nat) (l0 : List (S27)) : Option (Int) := cluster_worst.l0 k l0 0 (l0.length : Int) 0
theorem cluster_worst.mono_l : ∀ k, (∀ y0 y1 y2 y3, LeO (cluster_worst.l0 k y0 y1 y2 y3) (cluster_worst.l0 (k + 1) y0 y1 y2 y3))
 | 0 => fun _ _ _ _ r h => by simp [cluster_worst.l0] at h
 | k + 1 => by
  have ih0 := cluster_worst.mono_l k
  ·intro y0 y1 y2 y3
   unfold cluster_worst.l0
   repeat' first
   | (with_reducible exact ih0 _ _ _ _)
   | (with_reducible exact cmp_Or_int.mono _ _)
   | (with_reducible exact LeO.refl _)
   | (with_reducible exact LeO.none _)
   | (with_reducible refine LeO.ite ?_ ?_)
   | (with_reducible refine LeO.bind ?_ (fun _ => ?_))
   | exact ih0 _ _ _ _
   | exact cmp_Or_int.mono _ _
   | exact LeO.none _
   | refine LeO.ite ?_ ?_
   | refine LeO.bind ?_ (fun _ => ?_)
theorem cluster_worst.mono : ∀ a0 k, LeO (cluster_worst.f k a0) (cluster_worst.f (k + 1) a0) := by
 intro a0 k
 have ih0 := cluster_worst.mono_l k
 unfold cluster_worst.f
 repeat' first
   | (with_reducible exact ih0 _ _ _ _)
   | (with_reducible exact cmp_Or_int.mono _ _)
   | (with_reducible exact LeO.refl _)
   | (with_reducible exact LeO.none _)
   | (with_reducible refine LeO.ite ?_ ?_)
   | (with_reducible refine LeO.bind ?_ (fun _ => ?_))
   | exact ih0 _ _ _ _
   | exact cmp_Or_int.mono _ _
   | exact LeO.none _
   | refine LeO.ite ?_ ?_
   | refine LeO.bind ?_ (fun _ => ?_)
def cluster_worst.T5 : Bool × List (List Nat × List Nat) := (true, [([], []), ([], []), ([0, 1], [0, 1]), ([], []), ([], []), ([3, 4, 2], [3, 4]), ([2, 5, 5], [2, 5]), ([], []), ([], []), ([7, 8], [7, 8]), ([9], [9]), ([10], [10]), ([], []), ([], []), ([12, 13], [12, 13]), ([14], [14]), ([15], [15]), ([11, 16, 6], [11, 16]), ([6, 17], [6, 17]), ([18, 17], [18]), ([19], [19])])
def cluster_worst.B5 : List Nat := [0, 0, 3, 0, 0, 31, 63, 0, 0, 384, 896, 1920, 0, 0, 12288, 28672, 61440, 131071, 262143, 524287, 1048575]
theorem cluster_worst.tab5 : rtab .any (opsOf Tryz.f51 5) = cluster_worst.T5 := by kernel_rfl
theorem cluster_worst.bits5 : waitsOk cluster_worst.T5.2 cluster_worst.B5 = true := by kernel_rfl
set_option maxHeartbeats 8000000 in
set_option maxRecDepth 100000 in
theorem cluster_worst.calls (k : Nat) (A0 : Option Addr) (c0 : Nat) (l0 : List (S27)) (r : Int) (w : World) (hr0 : Kd.C k27 w A0 l0.length l0) (hc0 : l0.length ≤ c0) (h : cluster_worst.f k l0 = some r) :
  Calls Tryz.prog 51 #[.slice A0 l0.length c0] w fun e w' => e = .returned (.int .i64 r) ∧ Below w.heap.size w w' := by
 have HR0 := Aside0.mk hr0
 have HC0 := Aside0.mk hc0
 clear hr0 hc0
 have HB := Aside0.mk (Below.refl w.heap.size w)
 have H : (cluster_worst.l0 k l0 0 (l0.length : Int) 0) = some r := h
 clear h
 have H' := Aside0.mk H
 clear H
 go_enter Tryz.func51, Tryz.ntmps51
 go_wp2
 go_loopg [3, 7] k (fun kq v3 v7 w' => ∃ (x3_1 : Int) (x7_1 : Int), v3 = .int .i64 x3_1 ∧ v7 = .int .i64 x7_1 ∧ Aside0 (cluster_worst.l0 kq l0 x3_1 (l0.length : Int) x7_1 = some r) ∧ Aside0 (kq ≤ k) ∧ Aside0 (Below w.heap.size w w'))
 case atStart => exact ⟨(0), (0), (by first | rfl | (simp; done) | (simp [*]; done)), (by first | rfl | (simp; done) | (simp [*]; done)), H', ⟨Nat.le_refl _⟩, ⟨by repeat (first | (with_reducible first | exact HB.out | apply below_alloc | apply pw_below_drewN | apply below_drew1) | exact HB.out)⟩⟩
 case round =>
  clear H'
  obtain ⟨x3_1, x7_1, rfl, rfl, HA, HK1, HB⟩ := hrel
  cases gk with
  | zero => exact absurd HA.out (by simp [cluster_worst.l0])
  | succ k1 =>
   have H := HA.out
   clear HA
   simp only [cluster_worst.l0] at H
   by_cases c2 : x7_1 < (l0.length : Int)
   ·rw [if_pos c2] at H
    have c2b0 : decide (x7_1 < (l0.length : Int)) = true := decide_eq_true c2
    clear c2
    replace H := Option.bind_eq_some_iff.mp H
    obtain ⟨t262, A30, H⟩ := H
    replace H : ((cluster_spread.f l0 x3_1).bind fun t263 => ((cmp_Compare_int64.f t262 t263).bind fun t264 => (if 0 ≤ x7_1 then (if x7_1 < (l0.length : Int) then (if 0 ≤ x3_1 then (if x3_1 < (l0.length : Int) then ((cmp_Compare_int.f ((rd_T27 l0 x7_1).f0) ((rd_T27 l0 x3_1).f0)).bind fun t267 => ((cmp_Or_int.f k1 (([t264, t267] : List Int))).bind fun t271 => (if t271 > 0 then (cluster_worst.l0 k1 l0 x7_1 (l0.length : Int) (wrap64 (x7_1 + 1))) else (cluster_worst.l0 k1 l0 x3_1 (l0.length : Int) (wrap64 (x7_1 + 1)))))) else (none)) else (none)) else (none)) else (none)))) = some r := H
    have A3 := Aside0.mk A30
    clear A30
    replace H := Option.bind_eq_some_iff.mp H
    obtain ⟨t263, A40, H⟩ := H
    replace H : ((cmp_Compare_int64.f t262 t263).bind fun t264 => (if 0 ≤ x7_1 then (if x7_1 < (l0.length : Int) then (if 0 ≤ x3_1 then (if x3_1 < (l0.length : Int) then ((cmp_Compare_int.f ((rd_T27 l0 x7_1).f0) ((rd_T27 l0 x3_1).f0)).bind fun t267 => ((cmp_Or_int.f k1 (([t264, t267] : List Int))).bind fun t271 => (if t271 > 0 then (cluster_worst.l0 k1 l0 x7_1 (l0.length : Int) (wrap64 (x7_1 + 1))) else (cluster_worst.l0 k1 l0 x3_1 (l0.length : Int) (wrap64 (x7_1 + 1)))))) else (none)) else (none)) else (none)) else (none))) = some r := H
    have A4 := Aside0.mk A40
    clear A40
    replace H := Option.bind_eq_some_iff.mp H
    obtain ⟨t264, A50, H⟩ := H
    replace H : (if 0 ≤ x7_1 then (if x7_1 < (l0.length : Int) then (if 0 ≤ x3_1 then (if x3_1 < (l0.length : Int) then ((cmp_Compare_int.f ((rd_T27 l0 x7_1).f0) ((rd_T27 l0 x3_1).f0)).bind fun t267 => ((cmp_Or_int.f k1 (([t264, t267] : List Int))).bind fun t271 => (if t271 > 0 then (cluster_worst.l0 k1 l0 x7_1 (l0.length : Int) (wrap64 (x7_1 + 1))) else (cluster_worst.l0 k1 l0 x3_1 (l0.length : Int) (wrap64 (x7_1 + 1)))))) else (none)) else (none)) else (none)) else (none)) = some r := H
    have A5 := Aside0.mk A50
    clear A50
    by_cases c6 : 0 ≤ x7_1
    ·rw [if_pos c6] at H
     have c6b0 : decide (0 ≤ x7_1) = true := decide_eq_true c6
     clear c6
     by_cases c7 : x7_1 < (l0.length : Int)
     ·rw [if_pos c7] at H
      have c7b0 : decide (x7_1 < (l0.length : Int)) = true := decide_eq_true c7
      clear c7
      by_cases c8 : 0 ≤ x3_1
      ·rw [if_pos c8] at H
       have c8b0 : decide (0 ≤ x3_1) = true := decide_eq_true c8
       clear c8
       by_cases c9 : x3_1 < (l0.length : Int)
       ·rw [if_pos c9] at H
        have c9b0 : decide (x3_1 < (l0.length : Int)) = true := decide_eq_true c9
        clear c9
        replace H := Option.bind_eq_some_iff.mp H
        obtain ⟨t267, A100, H⟩ := H
        replace H : ((cmp_Or_int.f k1 (([t264, t267] : List Int))).bind fun t271 => (if t271 > 0 then (cluster_worst.l0 k1 l0 x7_1 (l0.length : Int) (wrap64 (x7_1 + 1))) else (cluster_worst.l0 k1 l0 x3_1 (l0.length : Int) (wrap64 (x7_1 + 1))))) = some r := H
        have A10 := Aside0.mk A100
        clear A100
        obtain ⟨y268, hy268⟩ : ∃ y_ : List Int, y_ = (([t264, t267] : List Int)) := ⟨_, rfl⟩
        replace H : ((cmp_Or_int.f k1 y268).bind fun t271 => (if t271 > 0 then (cluster_worst.l0 k1 l0 x7_1 (l0.length : Int) (wrap64 (x7_1 + 1))) else (cluster_worst.l0 k1 l0 x3_1 (l0.length : Int) (wrap64 (x7_1 + 1))))) = some r := by first | (rw [hy268]; with_reducible exact H) | (have H2_ := (Option.bind_some _ _).symm.trans H; rw [hy268]; with_reducible exact H2_) | (have H2_ := (Option.bind_some _ _).symm.trans H; with_reducible exact H2_) | with_reducible exact H | (rw [hy268]; exact H) | exact H
        have Ny268 := Aside0.mk hy268
        clear hy268
        replace H := Option.bind_eq_some_iff.mp H
        obtain ⟨t271, A110, H⟩ := H
        replace H : (if t271 > 0 then (cluster_worst.l0 k1 l0 x7_1 (l0.length : Int) (wrap64 (x7_1 + 1))) else (cluster_worst.l0 k1 l0 x3_1 (l0.length : Int) (wrap64 (x7_1 + 1)))) = some r := H
        have A11 := Aside0.mk A110
        clear A110
        by_cases c12 : t271 > 0
        ·rw [if_pos c12] at H
         have c12b0 : decide (0 < t271) = true := decide_eq_true c12
         clear c12
         have H' := Aside0.mk H
         clear H
         try go_wp2
         have n0_ := Aside0.mk (below_drew1 HB.out)
         clear HB
         have HB := n0_
         clear n0_
         have p265 : 0 ≤ (x7_1 : Int) := of_decide_eq_true (by first | (with_reducible assumption) | assumption)
         have q265 : x7_1 < (l0.length : Int) := of_decide_eq_true (by first | (with_reducible assumption) | assumption)
         obtain ⟨ad265, e265, hx265_0, hx265_1, hx265_2, hx265_3, hx265_4⟩ := at_T27 HR0.out x7_1 p265 q265
         have hw265_4 := hx265_4
         have hw265_3 := hx265_3
         have hw265_2 := hx265_2
         have hw265_1 := hx265_1
         have hw265_0 := hx265_0
         cases e265
         replace hx265_0 := (HB.out.cell (World.block_lt_of_cell? w _ hx265_0)).trans hx265_0
         replace hx265_1 := (HB.out.cell (World.block_lt_of_cell? w _ hx265_1)).trans hx265_1
         replace hx265_2 := (HB.out.cell (World.block_lt_of_cell? w _ hx265_2)).trans hx265_2
         replace hx265_3 := (HB.out.cell (World.block_lt_of_cell? w _ hx265_3)).trans hx265_3
         replace hx265_4 := (HB.out.cell (World.block_lt_of_cell? w _ hx265_4)).trans hx265_4
         replace p265 := eq_true p265
         replace q265 := eq_true q265
         have p266 : 0 ≤ (x3_1 : Int) := of_decide_eq_true (by first | (with_reducible assumption) | assumption)
         have q266 : x3_1 < (l0.length : Int) := of_decide_eq_true (by first | (with_reducible assumption) | assumption)
         obtain ⟨ad266, e266, hx266_0, hx266_1, hx266_2, hx266_3, hx266_4⟩ := at_T27 HR0.out x3_1 p266 q266
         have hw266_4 := hx266_4
         have hw266_3 := hx266_3
         have hw266_2 := hx266_2
         have hw266_1 := hx266_1
         have hw266_0 := hx266_0
         obtain rfl : ad265 = ad266 := (by injection e266)
         replace hx266_0 := (HB.out.cell (World.block_lt_of_cell? w _ hx266_0)).trans hx266_0
         replace hx266_1 := (HB.out.cell (World.block_lt_of_cell? w _ hx266_1)).trans hx266_1
         replace hx266_2 := (HB.out.cell (World.block_lt_of_cell? w _ hx266_2)).trans hx266_2
         replace hx266_3 := (HB.out.cell (World.block_lt_of_cell? w _ hx266_3)).trans hx266_3
         replace hx266_4 := (HB.out.cell (World.block_lt_of_cell? w _ hx266_4)).trans hx266_4
         replace p266 := eq_true p266
         replace q266 := eq_true q266
         refine start_ (n := 21) (S := fun w' => w'.cell? (ad265.add ((x7_1).toNat * 5)) = some (.int .i64 ((rd_T27 l0 x7_1).f0)) ∧ w'.cell? ⟨(ad265.add ((x7_1).toNat * 5)).block, (ad265.add ((x7_1).toNat * 5)).off + 1, none⟩ = some (.int .i64 ((rd_T27 l0 x7_1).f1.f0)) ∧ w'.cell? ⟨(ad265.add ((x7_1).toNat * 5)).block, (ad265.add ((x7_1).toNat * 5)).off + 2, none⟩ = some (.int .i64 ((rd_T27 l0 x7_1).f1.f1)) ∧ w'.cell? ⟨(ad265.add ((x7_1).toNat * 5)).block, (ad265.add ((x7_1).toNat * 5)).off + 3, none⟩ = some (.int .i64 ((rd_T27 l0 x7_1).f1.f2)) ∧ w'.cell? ⟨(ad265.add ((x7_1).toNat * 5)).block, (ad265.add ((x7_1).toNat * 5)).off + 4, none⟩ = some (.int .i64 ((rd_T27 l0 x7_1).f2)) ∧ w'.cell? (ad265.add ((x3_1).toNat * 5)) = some (.int .i64 ((rd_T27 l0 x3_1).f0)) ∧ w'.cell? ⟨(ad265.add ((x3_1).toNat * 5)).block, (ad265.add ((x3_1).toNat * 5)).off + 1, none⟩ = some (.int .i64 ((rd_T27 l0 x3_1).f1.f0)) ∧ w'.cell? ⟨(ad265.add ((x3_1).toNat * 5)).block, (ad265.add ((x3_1).toNat * 5)).off + 2, none⟩ = some (.int .i64 ((rd_T27 l0 x3_1).f1.f1)) ∧ w'.cell? ⟨(ad265.add ((x3_1).toNat * 5)).block, (ad265.add ((x3_1).toNat * 5)).off + 3, none⟩ = some (.int .i64 ((rd_T27 l0 x3_1).f1.f2)) ∧ w'.cell? ⟨(ad265.add ((x3_1).toNat * 5)).block, (ad265.add ((x3_1).toNat * 5)).off + 4, none⟩ = some (.int .i64 ((rd_T27 l0 x3_1).f2))) (ds := []) #[false, false, false, false, false, false, false, false, false, false, false, false, false, false, false, false, false, false, false, false, false] (by kernel_rfl) rfl rfl ⟨((HB.out.cell (World.block_lt_of_cell? w _ hw265_0)).trans hw265_0), ((HB.out.cell (World.block_lt_of_cell? w _ hw265_1)).trans hw265_1), ((HB.out.cell (World.block_lt_of_cell? w _ hw265_2)).trans hw265_2), ((HB.out.cell (World.block_lt_of_cell? w _ hw265_3)).trans hw265_3), ((HB.out.cell (World.block_lt_of_cell? w _ hw265_4)).trans hw265_4), ((HB.out.cell (World.block_lt_of_cell? w _ hw266_0)).trans hw266_0), ((HB.out.cell (World.block_lt_of_cell? w _ hw266_1)).trans hw266_1), ((HB.out.cell (World.block_lt_of_cell? w _ hw266_2)).trans hw266_2), ((HB.out.cell (World.block_lt_of_cell? w _ hw266_3)).trans hw266_3), ((HB.out.cell (World.block_lt_of_cell? w _ hw266_4)).trans hw266_4)⟩ (fun hHeld => ?_); refine with_tabW cluster_worst.tab5 cluster_worst.bits5 (fun HT_ HW_ => ?_)
         generalize wr.drew = w13 at HB hx265_0 hx265_1 hx265_2 hx265_3 hx265_4 hx266_0 hx266_1 hx266_2 hx266_3 hx266_4 hHeld ⊢
         refine pure_ (i := 0) (N := some 10) (v := ?_) (a' := ?_) #[true, false, false, false, false, false, false, false, false, false, false, false, false, false, false, false, false, false, false, false, false] rfl rfl (any_of HT_.out (by kernel_rfl)) (fun _ _ _ h => h) (Or.inl ⟨by rfl, ?_⟩) ?_ ?_
         rotate_left
         ·intro w'
          go_simp
          with_reducible rfl
         rotate_left
         ·simp only [Act.put, List.setIfInBounds_toArray, List.set_cons_zero, List.set_cons_succ, i64_w, i32_w]
          rfl
         refine pure_ (i := 1) (N := some 11) (v := ?_) (a' := ?_) #[true, true, false, false, false, false, false, false, false, false, false, false, false, false, false, false, false, false, false, false, false] rfl rfl (any_of HT_.out (by kernel_rfl)) (fun _ _ _ h => h) (Or.inl ⟨by rfl, ?_⟩) ?_ ?_
         rotate_left
         ·intro w'
          go_simp
          with_reducible rfl
         rotate_left
         ·simp only [Act.put, List.setIfInBounds_toArray, List.set_cons_zero, List.set_cons_succ, i64_w, i32_w]
          rfl
         refine pure_ (i := 3) (N := some 13) (v := ?_) (a' := ?_) #[true, true, false, true, false, false, false, false, false, false, false, false, false, false, false, false, false, false, false, false, false] rfl rfl (any_of HT_.out (by kernel_rfl)) (fun _ _ _ h => h) (Or.inl ⟨by rfl, ?_⟩) ?_ ?_
         rotate_left
         ·intro w'
          go_simp
          with_reducible rfl
         rotate_left
         ·simp only [Act.put, List.setIfInBounds_toArray, List.set_cons_zero, List.set_cons_succ, i64_w, i32_w]
          rfl
         refine pure_ (i := 4) (N := some 14) (v := ?_) (a' := ?_) #[true, true, false, true, true, false, false, false, false, false, false, false, false, false, false, false, false, false, false, false, false] rfl rfl (any_of HT_.out (by kernel_rfl)) (fun _ _ _ h => h) (Or.inl ⟨by rfl, ?_⟩) ?_ ?_
         rotate_left
         ·intro w'
          go_simp
          with_reducible rfl
         rotate_left
         ·simp only [Act.put, List.setIfInBounds_toArray, List.set_cons_zero, List.set_cons_succ, i64_w, i32_w]
          rfl
         refine pure_ (i := 7) (N := some 17) (v := ?_) (a' := ?_) #[true, true, false, true, true, false, false, true, false, false, false, false, false, false, false, false, false, false, false, false, false] rfl rfl (any_of HT_.out (by kernel_rfl)) (fun _ _ _ h => h) (Or.inl ⟨by rfl, ?_⟩) ?_ ?_
         rotate_left
         ·intro w'
          go_simp
          with_reducible rfl
         rotate_left
         ·simp only [Act.put, List.setIfInBounds_toArray, List.set_cons_zero, List.set_cons_succ, i64_w, i32_w]
          rfl
         refine pure_ (i := 8) (N := some 18) (v := ?_) (a' := ?_) #[true, true, false, true, true, false, false, true, true, false, false, false, false, false, false, false, false, false, false, false, false] rfl rfl (any_of HT_.out (by kernel_rfl)) (fun _ _ _ h => h) (Or.inl ⟨by rfl, ?_⟩) ?_ ?_
         rotate_left
         ·intro w'
          go_simp
          with_reducible rfl
         rotate_left
         ·simp only [Act.put, List.setIfInBounds_toArray, List.set_cons_zero, List.set_cons_succ, i64_w, i32_w]
          rfl
         refine pure_ (i := 9) (N := some 19) (v := ?_) (a' := ?_) #[true, true, false, true, true, false, false, true, true, true, false, false, false, false, false, false, false, false, false, false, false] rfl rfl (any_of HT_.out (by kernel_rfl)) (fun _ _ _ h => h) (Or.inl ⟨by rfl, ?_⟩) ?_ ?_
         rotate_left
         ·intro w'
          go_simp
          with_reducible rfl
         rotate_left
         ·simp only [Act.put, List.setIfInBounds_toArray, List.set_cons_zero, List.set_cons_succ, i64_w, i32_w]
          rfl
         refine pure_ (i := 10) (N := some 20) (v := ?_) (a' := ?_) #[true, true, false, true, true, false, false, true, true, true, true, false, false, false, false, false, false, false, false, false, false] rfl rfl (any_of HT_.out (by kernel_rfl)) (fun _ _ _ h => h) (Or.inl ⟨by rfl, ?_⟩) ?_ ?_
         rotate_left
         ·intro w'
          go_simp
          with_reducible rfl
         rotate_left
         ·simp only [Act.put, List.setIfInBounds_toArray, List.set_cons_zero, List.set_cons_succ, i64_w, i32_w]
          rfl
         refine pure_ (i := 12) (N := some 22) (v := ?_) (a' := ?_) #[true, true, false, true, true, false, false, true, true, true, true, false, true, false, false, false, false, false, false, false, false] rfl rfl (any_of HT_.out (by kernel_rfl)) (fun _ _ _ h => h) (Or.inl ⟨by rfl, ?_⟩) ?_ ?_
         rotate_left
         ·intro w'
          go_simp
          with_reducible rfl
         rotate_left
         ·simp only [Act.put, List.setIfInBounds_toArray, List.set_cons_zero, List.set_cons_succ, i64_w, i32_w]
          rfl
         refine pure_ (i := 13) (N := some 23) (v := ?_) (a' := ?_) #[true, true, false, true, true, false, false, true, true, true, true, false, true, true, false, false, false, false, false, false, false] rfl rfl (any_of HT_.out (by kernel_rfl)) (fun _ _ _ h => h) (Or.inl ⟨by rfl, ?_⟩) ?_ ?_
         rotate_left
         ·intro w'
          go_simp
          with_reducible rfl
         rotate_left
         ·simp only [Act.put, List.setIfInBounds_toArray, List.set_cons_zero, List.set_cons_succ, i64_w, i32_w]
          rfl
         refine pure_ (i := 14) (N := some 24) (v := ?_) (a' := ?_) #[true, true, false, true, true, false, false, true, true, true, true, false, true, true, true, false, false, false, false, false, false] rfl rfl (any_of HT_.out (by kernel_rfl)) (fun _ _ _ h => h) (Or.inl ⟨by rfl, ?_⟩) ?_ ?_
         rotate_left
         ·intro w'
          go_simp
          with_reducible rfl
         rotate_left
         ·simp only [Act.put, List.setIfInBounds_toArray, List.set_cons_zero, List.set_cons_succ, i64_w, i32_w]
          rfl
         refine pure_ (i := 15) (N := some 25) (v := ?_) (a' := ?_) #[true, true, false, true, true, false, false, true, true, true, true, false, true, true, true, true, false, false, false, false, false] rfl rfl (any_of HT_.out (by kernel_rfl)) (fun _ _ _ h => h) (Or.inl ⟨by rfl, ?_⟩) ?_ ?_
         rotate_left
         ·intro w'
          go_simp
          with_reducible rfl
         rotate_left
         ·simp only [Act.put, List.setIfInBounds_toArray, List.set_cons_zero, List.set_cons_succ, i64_w, i32_w]
          rfl
         refine take_ (i := 11) (N := some 21) (v := ?_) (a' := ?_) #[true, true, false, true, true, false, false, true, true, true, true, true, true, true, true, true, false, false, false, false, false] rfl rfl (take_ofW HT_.out HW_.out (by kernel_rfl)) (fun _ _ _ h => h) (Or.inl ⟨by rfl, ?_⟩) hHeld ?_ ?_
         rotate_left
         ·rintro w' ⟨s0, s1, s2, s3, s4, s5, s6, s7, s8, s9⟩
          go_simp
          with_reducible rfl
         rotate_left
         ·simp only [Act.put, List.setIfInBounds_toArray, List.set_cons_zero, List.set_cons_succ, i64_w, i32_w]
          rfl
         refine take_ (i := 16) (N := some 26) (v := ?_) (a' := ?_) #[true, true, false, true, true, false, false, true, true, true, true, true, true, true, true, true, true, false, false, false, false] rfl rfl (take_ofW HT_.out HW_.out (by kernel_rfl)) (fun _ _ _ h => h) (Or.inl ⟨by rfl, ?_⟩) hHeld ?_ ?_
         rotate_left
         ·rintro w' ⟨s0, s1, s2, s3, s4, s5, s6, s7, s8, s9⟩
          go_simp
          with_reducible rfl
         rotate_left
         ·simp only [Act.put, List.setIfInBounds_toArray, List.set_cons_zero, List.set_cons_succ, i64_w, i32_w]
          rfl
         refine one_ (i := 2) (N := some 12) #[true, true, true, true, true, false, false, true, true, true, true, true, true, true, true, true, true, false, false, false, false] rfl rfl (one_of HT_.out (by kernel_rfl)) (by decide) (fun K hK => ?_)
         refine goes_ Tryz.func55 (by kernel_rfl) rfl #[.slice (some ad265) l0.length c0, .int .i64 x7_1] (by rfl) rfl rfl (by (try simp only [List.map_toArray, List.map_cons, List.map_nil]); first | done | rfl | (simp only [List.length_drop, List.length_take]; rfl)) ?_
         with_reducible refine (cluster_spread.calls _ _ l0 x7_1 t262 _ ?side1 ?side2 A3.out).mono ?_
         (case side1 => repeat (first | exact (Kd.C_below HR0.out HB.out) | (with_reducible refine Kd.C_alloc ?_ _) | (with_reducible refine Kd.C_drewN ?_ _) | (with_reducible refine Kd.C_drew ?_)))
         (case side2 => exact HC0.out)
         rintro e w14 ⟨rfl, hb⟩
         refine ⟨_, rfl, ?_⟩
         have n0_ := Aside0.mk (below_step (by repeat (first | (with_reducible first | exact HB.out | apply below_alloc | apply pw_below_drewN | apply below_drew1) | exact HB.out)) hb)
         clear HB
         have HB := n0_
         clear n0_
         (try clear hb)
         (try clear hb2)
         (try clear hk)
         (try clear hi)
         refine hK.out _ _ ⟨((HB.out.cell (World.block_lt_of_cell? w _ hw265_0)).trans hw265_0), ((HB.out.cell (World.block_lt_of_cell? w _ hw265_1)).trans hw265_1), ((HB.out.cell (World.block_lt_of_cell? w _ hw265_2)).trans hw265_2), ((HB.out.cell (World.block_lt_of_cell? w _ hw265_3)).trans hw265_3), ((HB.out.cell (World.block_lt_of_cell? w _ hw265_4)).trans hw265_4), ((HB.out.cell (World.block_lt_of_cell? w _ hw266_0)).trans hw266_0), ((HB.out.cell (World.block_lt_of_cell? w _ hw266_1)).trans hw266_1), ((HB.out.cell (World.block_lt_of_cell? w _ hw266_2)).trans hw266_2), ((HB.out.cell (World.block_lt_of_cell? w _ hw266_3)).trans hw266_3), ((HB.out.cell (World.block_lt_of_cell? w _ hw266_4)).trans hw266_4)⟩ (fun hHeld => ?_)
         clear hK K
         refine norm_ (a' := ?_) ?_ ?_
         rotate_left
         ·show Act.put _ (some 12) _ = _
          simp only [Act.put, List.setIfInBounds_toArray, List.set_cons_zero, List.set_cons_succ, i64_w, i32_w]
          rfl
         refine one_ (i := 5) (N := some 15) #[true, true, true, true, true, true, false, true, true, true, true, true, true, true, true, true, true, false, false, false, false] rfl rfl (one_of HT_.out (by kernel_rfl)) (by decide) (fun K hK => ?_)
         refine goes_ Tryz.func55 (by kernel_rfl) rfl #[.slice (some ad265) l0.length c0, .int .i64 x3_1] (by rfl) rfl rfl (by (try simp only [List.map_toArray, List.map_cons, List.map_nil]); first | done | rfl | (simp only [List.length_drop, List.length_take]; rfl)) ?_
         with_reducible refine (cluster_spread.calls _ _ l0 x3_1 t263 _ ?side1 ?side2 A4.out).mono ?_
         (case side1 => repeat (first | exact (Kd.C_below HR0.out HB.out) | (with_reducible refine Kd.C_alloc ?_ _) | (with_reducible refine Kd.C_drewN ?_ _) | (with_reducible refine Kd.C_drew ?_)))
         (case side2 => exact HC0.out)
         rintro e w15 ⟨rfl, hb⟩
         refine ⟨_, rfl, ?_⟩
         have n0_ := Aside0.mk (below_step (by repeat (first | (with_reducible first | exact HB.out | apply below_alloc | apply pw_below_drewN | apply below_drew1) | exact HB.out)) hb)
         clear HB
         have HB := n0_
         clear n0_
         (try clear hb)
         (try clear hb2)
         (try clear hk)
         (try clear hi)
         refine hK.out _ _ ⟨((HB.out.cell (World.block_lt_of_cell? w _ hw265_0)).trans hw265_0), ((HB.out.cell (World.block_lt_of_cell? w _ hw265_1)).trans hw265_1), ((HB.out.cell (World.block_lt_of_cell? w _ hw265_2)).trans hw265_2), ((HB.out.cell (World.block_lt_of_cell? w _ hw265_3)).trans hw265_3), ((HB.out.cell (World.block_lt_of_cell? w _ hw265_4)).trans hw265_4), ((HB.out.cell (World.block_lt_of_cell? w _ hw266_0)).trans hw266_0), ((HB.out.cell (World.block_lt_of_cell? w _ hw266_1)).trans hw266_1), ((HB.out.cell (World.block_lt_of_cell? w _ hw266_2)).trans hw266_2), ((HB.out.cell (World.block_lt_of_cell? w _ hw266_3)).trans hw266_3), ((HB.out.cell (World.block_lt_of_cell? w _ hw266_4)).trans hw266_4)⟩ (fun hHeld => ?_)
         clear hK K
         refine norm_ (a' := ?_) ?_ ?_
         rotate_left
         ·show Act.put _ (some 15) _ = _
          simp only [Act.put, List.setIfInBounds_toArray, List.set_cons_zero, List.set_cons_succ, i64_w, i32_w]
          rfl
         refine one_ (i := 6) (N := some 16) #[true, true, true, true, true, true, true, true, true, true, true, true, true, true, true, true, true, false, false, false, false] rfl rfl (one_of HT_.out (by kernel_rfl)) (by decide) (fun K hK => ?_)
         refine goes_ Tryz.func54 (by kernel_rfl) rfl #[.int .i64 t262, .int .i64 t263] (by rfl) rfl rfl (by (try simp only [List.map_toArray, List.map_cons, List.map_nil]); first | done | rfl | (simp only [List.length_drop, List.length_take]; rfl)) ?_
         with_reducible refine (cmp_Compare_int64.calls t262 t263 t264 _ A5.out).mono ?_
         rintro e w' ⟨rfl, ⟨nd, rfl⟩⟩
         refine ⟨_, rfl, ?_⟩
         refine hK.out _ _ ⟨((HB.out.cell (World.block_lt_of_cell? w _ hw265_0)).trans hw265_0), ((HB.out.cell (World.block_lt_of_cell? w _ hw265_1)).trans hw265_1), ((HB.out.cell (World.block_lt_of_cell? w _ hw265_2)).trans hw265_2), ((HB.out.cell (World.block_lt_of_cell? w _ hw265_3)).trans hw265_3), ((HB.out.cell (World.block_lt_of_cell? w _ hw265_4)).trans hw265_4), ((HB.out.cell (World.block_lt_of_cell? w _ hw266_0)).trans hw266_0), ((HB.out.cell (World.block_lt_of_cell? w _ hw266_1)).trans hw266_1), ((HB.out.cell (World.block_lt_of_cell? w _ hw266_2)).trans hw266_2), ((HB.out.cell (World.block_lt_of_cell? w _ hw266_3)).trans hw266_3), ((HB.out.cell (World.block_lt_of_cell? w _ hw266_4)).trans hw266_4)⟩ (fun hHeld => ?_)
         clear hK K
         refine norm_ (a' := ?_) ?_ ?_
         rotate_left
         ·show Act.put _ (some 16) _ = _
          simp only [Act.put, List.setIfInBounds_toArray, List.set_cons_zero, List.set_cons_succ, i64_w, i32_w]
          rfl
         refine one_ (i := 17) (N := some 27) #[true, true, true, true, true, true, true, true, true, true, true, true, true, true, true, true, true, true, false, false, false] rfl rfl (one_of HT_.out (by kernel_rfl)) (by decide) (fun K hK => ?_)
         refine goes_ Tryz.func101 (by kernel_rfl) rfl #[.int .i64 ((rd_T27 l0 x7_1).f0), .int .i64 ((rd_T27 l0 x3_1).f0)] (by rfl) rfl rfl (by (try simp only [List.map_toArray, List.map_cons, List.map_nil]); first | done | rfl | (simp only [List.length_drop, List.length_take]; rfl)) ?_
         with_reducible refine (cmp_Compare_int.calls ((rd_T27 l0 x7_1).f0) ((rd_T27 l0 x3_1).f0) t267 _ A10.out).mono ?_
         rintro e w' ⟨rfl, ⟨nd, rfl⟩⟩
         refine ⟨_, rfl, ?_⟩
         refine hK.out _ _ ⟨((HB.out.cell (World.block_lt_of_cell? w _ hw265_0)).trans hw265_0), ((HB.out.cell (World.block_lt_of_cell? w _ hw265_1)).trans hw265_1), ((HB.out.cell (World.block_lt_of_cell? w _ hw265_2)).trans hw265_2), ((HB.out.cell (World.block_lt_of_cell? w _ hw265_3)).trans hw265_3), ((HB.out.cell (World.block_lt_of_cell? w _ hw265_4)).trans hw265_4), ((HB.out.cell (World.block_lt_of_cell? w _ hw266_0)).trans hw266_0), ((HB.out.cell (World.block_lt_of_cell? w _ hw266_1)).trans hw266_1), ((HB.out.cell (World.block_lt_of_cell? w _ hw266_2)).trans hw266_2), ((HB.out.cell (World.block_lt_of_cell? w _ hw266_3)).trans hw266_3), ((HB.out.cell (World.block_lt_of_cell? w _ hw266_4)).trans hw266_4)⟩ (fun hHeld => ?_)
         clear hK K
         refine norm_ (a' := ?_) ?_ ?_
         rotate_left
         ·show Act.put _ (some 27) _ = _
          simp only [Act.put, List.setIfInBounds_toArray, List.set_cons_zero, List.set_cons_succ, i64_w, i32_w]
          rfl
         refine one_ (i := 18) (N := some 28) #[true, true, true, true, true, true, true, true, true, true, true, true, true, true, true, true, true, true, true, false, false] rfl rfl (one_of HT_.out (by kernel_rfl)) (by decide) (fun K hK => ?_)
         refine Kd.R_lit_step (Kd.int .i64) _ 3 ?hg (N := 28) ?hd (xs := ([t264, t267] : List Int)) (inner := [.int .i64 t264, .int .i64 t267]) (ok := fun _ => True) (okp := fun _ => True) ?hr ?hp (fun _ hk => hk) trivial (Below.refl _ _) (Nat.le_refl _) (by simp) ?_; (case hd => rfl); (case hg => rfl); (case hr => first | (go_simp; done) | (go_simp; rfl)); (case hp => exact (Reps.one (show Kd.M (Kd.int .i64) _ _ _ t264 [.int .i64 t264] from rfl) (Reps.one (show Kd.M (Kd.int .i64) _ _ _ t267 [.int .i64 t267] from rfl) (Reps.none _ _))))
         intro v269 w16 ho17 hb hg_ hnew_
         clear hg_ hnew_
         (first | rw [← Ny268.out] at ho17 | (simp only [Int.reduceToNat] at ho17; rw [← Ny268.out] at ho17))
         have n0_ := Aside0.mk (Kd.R_lower ho17 (below_size (by repeat (first | (with_reducible first | exact HB.out | apply below_alloc | apply pw_below_drewN | apply below_drew1) | exact HB.out))))
         have n1_ := Aside0.mk (below_step (by repeat (first | (with_reducible first | exact HB.out | apply below_alloc | apply pw_below_drewN | apply below_drew1) | exact HB.out)) hb)
         clear HB
         have HO270 := n0_
         have HB := n1_
         clear n0_ n1_
         clear hb ho17
         obtain ⟨Ao18, co18, eo18⟩ := Kd.R_slice HO270.out
         (first | subst eo18 | (injection eo18 with f1_ f2_ f3_; have f4_ := f1_.symm; have f5_ := f3_.symm; clear f1_ f2_ f3_; subst f4_; subst f5_))
         refine hK.out _ _ ⟨((HB.out.cell (World.block_lt_of_cell? w _ hw265_0)).trans hw265_0), ((HB.out.cell (World.block_lt_of_cell? w _ hw265_1)).trans hw265_1), ((HB.out.cell (World.block_lt_of_cell? w _ hw265_2)).trans hw265_2), ((HB.out.cell (World.block_lt_of_cell? w _ hw265_3)).trans hw265_3), ((HB.out.cell (World.block_lt_of_cell? w _ hw265_4)).trans hw265_4), ((HB.out.cell (World.block_lt_of_cell? w _ hw266_0)).trans hw266_0), ((HB.out.cell (World.block_lt_of_cell? w _ hw266_1)).trans hw266_1), ((HB.out.cell (World.block_lt_of_cell? w _ hw266_2)).trans hw266_2), ((HB.out.cell (World.block_lt_of_cell? w _ hw266_3)).trans hw266_3), ((HB.out.cell (World.block_lt_of_cell? w _ hw266_4)).trans hw266_4)⟩ (fun hHeld => ?_)
         clear hK K
         refine norm_ (a' := ?_) ?_ ?_
         rotate_left
         ·show Act.put _ (some 28) _ = _
          simp only [Act.put, List.setIfInBounds_toArray, List.set_cons_zero, List.set_cons_succ, i64_w, i32_w]
          rfl
         refine one_ (i := 19) (N := some 29) #[true, true, true, true, true, true, true, true, true, true, true, true, true, true, true, true, true, true, true, true, false] rfl rfl (one_of HT_.out (by kernel_rfl)) (by decide) (fun K hK => ?_)
         refine goes_ Tryz.func96 (by kernel_rfl) rfl #[.slice Ao18 y268.length co18] (by rfl) rfl rfl (by (try simp only [List.map_toArray, List.map_cons, List.map_nil]); first | done | rfl | (simp only [List.length_drop, List.length_take]; rfl)) ?_
         with_reducible refine (cmp_Or_int.calls k1 _ _ y268 t271 _ ?side1 ?side2 A11.out).mono ?_
         (case side1 => repeat (first | exact (Kd.R_reads' HO270.out).2.2 | (with_reducible refine Kd.C_alloc ?_ _) | (with_reducible refine Kd.C_drewN ?_ _) | (with_reducible refine Kd.C_drew ?_)))
         (case side2 => exact (Kd.R_reads' HO270.out).2.1)
         rintro e w' ⟨rfl, ⟨nd, rfl⟩⟩
         refine ⟨_, rfl, ?_⟩
         refine hK.out _ _ ⟨((HB.out.cell (World.block_lt_of_cell? w _ hw265_0)).trans hw265_0), ((HB.out.cell (World.block_lt_of_cell? w _ hw265_1)).trans hw265_1), ((HB.out.cell (World.block_lt_of_cell? w _ hw265_2)).trans hw265_2), ((HB.out.cell (World.block_lt_of_cell? w _ hw265_3)).trans hw265_3), ((HB.out.cell (World.block_lt_of_cell? w _ hw265_4)).trans hw265_4), ((HB.out.cell (World.block_lt_of_cell? w _ hw266_0)).trans hw266_0), ((HB.out.cell (World.block_lt_of_cell? w _ hw266_1)).trans hw266_1), ((HB.out.cell (World.block_lt_of_cell? w _ hw266_2)).trans hw266_2), ((HB.out.cell (World.block_lt_of_cell? w _ hw266_3)).trans hw266_3), ((HB.out.cell (World.block_lt_of_cell? w _ hw266_4)).trans hw266_4)⟩ (fun hHeld => ?_)
         clear hK K
         refine norm_ (a' := ?_) ?_ ?_
         rotate_left
         ·show Act.put _ (some 29) _ = _
          simp only [Act.put, List.setIfInBounds_toArray, List.set_cons_zero, List.set_cons_succ, i64_w, i32_w]
          rfl
         refine pure_ (i := 20) (N := some 30) (v := ?_) (a' := ?_) #[true, true, true, true, true, true, true, true, true, true, true, true, true, true, true, true, true, true, true, true, true] rfl rfl (any_of HT_.out (by kernel_rfl)) (fun _ _ _ h => h) (Or.inl ⟨by rfl, ?_⟩) ?_ ?_
         rotate_left
         ·intro w'
          go_simp
          with_reducible rfl
         rotate_left
         ·simp only [Act.put, List.setIfInBounds_toArray, List.set_cons_zero, List.set_cons_succ, i64_w, i32_w]
          rfl
         refine done_ (done_of HT_.out (by kernel_rfl)) ?_
         try go_wp2
         go_roundg k1
         case measure => have := HK1.out; omega
         case rel => exact ⟨(x7_1), (wrap64 (x7_1 + 1)), (by first | rfl | (simp; done) | (simp [*]; done)), (by first | rfl | (simp; done) | (simp [*]; done)), H', ⟨by have := HK1.out; omega⟩, ⟨by repeat (first | (with_reducible first | exact HB.out | apply below_alloc | apply pw_below_drewN | apply below_drew1) | exact HB.out)⟩⟩
        ·rw [if_neg c12] at H
         have c12b0 : decide (0 < t271) = false := decide_eq_false c12
         clear c12
         have H' := Aside0.mk H
         clear H
         try go_wp2
         have n0_ := Aside0.mk (below_drew1 HB.out)
         clear HB
         have HB := n0_
         clear n0_
         have p265 : 0 ≤ (x7_1 : Int) := of_decide_eq_true (by first | (with_reducible assumption) | assumption)
         have q265 : x7_1 < (l0.length : Int) := of_decide_eq_true (by first | (with_reducible assumption) | assumption)
         obtain ⟨ad265, e265, hx265_0, hx265_1, hx265_2, hx265_3, hx265_4⟩ := at_T27 HR0.out x7_1 p265 q265
         have hw265_4 := hx265_4
         have hw265_3 := hx265_3
         have hw265_2 := hx265_2
         have hw265_1 := hx265_1
         have hw265_0 := hx265_0
         cases e265
         replace hx265_0 := (HB.out.cell (World.block_lt_of_cell? w _ hx265_0)).trans hx265_0
         replace hx265_1 := (HB.out.cell (World.block_lt_of_cell? w _ hx265_1)).trans hx265_1
         replace hx265_2 := (HB.out.cell (World.block_lt_of_cell? w _ hx265_2)).trans hx265_2
         replace hx265_3 := (HB.out.cell (World.block_lt_of_cell? w _ hx265_3)).trans hx265_3
         replace hx265_4 := (HB.out.cell (World.block_lt_of_cell? w _ hx265_4)).trans hx265_4
         replace p265 := eq_true p265
         replace q265 := eq_true q265
         have p266 : 0 ≤ (x3_1 : Int) := of_decide_eq_true (by first | (with_reducible assumption) | assumption)
         have q266 : x3_1 < (l0.length : Int) := of_decide_eq_true (by first | (with_reducible assumption) | assumption)
         obtain ⟨ad266, e266, hx266_0, hx266_1, hx266_2, hx266_3, hx266_4⟩ := at_T27 HR0.out x3_1 p266 q266
         have hw266_4 := hx266_4
         have hw266_3 := hx266_3
         have hw266_2 := hx266_2
         have hw266_1 := hx266_1
         have hw266_0 := hx266_0
         obtain rfl : ad265 = ad266 := (by injection e266)
         replace hx266_0 := (HB.out.cell (World.block_lt_of_cell? w _ hx266_0)).trans hx266_0
         replace hx266_1 := (HB.out.cell (World.block_lt_of_cell? w _ hx266_1)).trans hx266_1
         replace hx266_2 := (HB.out.cell (World.block_lt_of_cell? w _ hx266_2)).trans hx266_2
         replace hx266_3 := (HB.out.cell (World.block_lt_of_cell? w _ hx266_3)).trans hx266_3
         replace hx266_4 := (HB.out.cell (World.block_lt_of_cell? w _ hx266_4)).trans hx266_4
         replace p266 := eq_true p266
         replace q266 := eq_true q266
         refine start_ (n := 21) (S := fun w' => w'.cell? (ad265.add ((x7_1).toNat * 5)) = some (.int .i64 ((rd_T27 l0 x7_1).f0)) ∧ w'.cell? ⟨(ad265.add ((x7_1).toNat * 5)).block, (ad265.add ((x7_1).toNat * 5)).off + 1, none⟩ = some (.int .i64 ((rd_T27 l0 x7_1).f1.f0)) ∧ w'.cell? ⟨(ad265.add ((x7_1).toNat * 5)).block, (ad265.add ((x7_1).toNat * 5)).off + 2, none⟩ = some (.int .i64 ((rd_T27 l0 x7_1).f1.f1)) ∧ w'.cell? ⟨(ad265.add ((x7_1).toNat * 5)).block, (ad265.add ((x7_1).toNat * 5)).off + 3, none⟩ = some (.int .i64 ((rd_T27 l0 x7_1).f1.f2)) ∧ w'.cell? ⟨(ad265.add ((x7_1).toNat * 5)).block, (ad265.add ((x7_1).toNat * 5)).off + 4, none⟩ = some (.int .i64 ((rd_T27 l0 x7_1).f2)) ∧ w'.cell? (ad265.add ((x3_1).toNat * 5)) = some (.int .i64 ((rd_T27 l0 x3_1).f0)) ∧ w'.cell? ⟨(ad265.add ((x3_1).toNat * 5)).block, (ad265.add ((x3_1).toNat * 5)).off + 1, none⟩ = some (.int .i64 ((rd_T27 l0 x3_1).f1.f0)) ∧ w'.cell? ⟨(ad265.add ((x3_1).toNat * 5)).block, (ad265.add ((x3_1).toNat * 5)).off + 2, none⟩ = some (.int .i64 ((rd_T27 l0 x3_1).f1.f1)) ∧ w'.cell? ⟨(ad265.add ((x3_1).toNat * 5)).block, (ad265.add ((x3_1).toNat * 5)).off + 3, none⟩ = some (.int .i64 ((rd_T27 l0 x3_1).f1.f2)) ∧ w'.cell? ⟨(ad265.add ((x3_1).toNat * 5)).block, (ad265.add ((x3_1).toNat * 5)).off + 4, none⟩ = some (.int .i64 ((rd_T27 l0 x3_1).f2))) (ds := []) #[false, false, false, false, false, false, false, false, false, false, false, false, false, false, false, false, false, false, false, false, false] (by kernel_rfl) rfl rfl ⟨((HB.out.cell (World.block_lt_of_cell? w _ hw265_0)).trans hw265_0), ((HB.out.cell (World.block_lt_of_cell? w _ hw265_1)).trans hw265_1), ((HB.out.cell (World.block_lt_of_cell? w _ hw265_2)).trans hw265_2), ((HB.out.cell (World.block_lt_of_cell? w _ hw265_3)).trans hw265_3), ((HB.out.cell (World.block_lt_of_cell? w _ hw265_4)).trans hw265_4), ((HB.out.cell (World.block_lt_of_cell? w _ hw266_0)).trans hw266_0), ((HB.out.cell (World.block_lt_of_cell? w _ hw266_1)).trans hw266_1), ((HB.out.cell (World.block_lt_of_cell? w _ hw266_2)).trans hw266_2), ((HB.out.cell (World.block_lt_of_cell? w _ hw266_3)).trans hw266_3), ((HB.out.cell (World.block_lt_of_cell? w _ hw266_4)).trans hw266_4)⟩ (fun hHeld => ?_); refine with_tabW cluster_worst.tab5 cluster_worst.bits5 (fun HT_ HW_ => ?_)
         generalize wr.drew = w19 at HB hx265_0 hx265_1 hx265_2 hx265_3 hx265_4 hx266_0 hx266_1 hx266_2 hx266_3 hx266_4 hHeld ⊢
         refine pure_ (i := 0) (N := some 10) (v := ?_) (a' := ?_) #[true, false, false, false, false, false, false, false, false, false, false, false, false, false, false, false, false, false, false, false, false] rfl rfl (any_of HT_.out (by kernel_rfl)) (fun _ _ _ h => h) (Or.inl ⟨by rfl, ?_⟩) ?_ ?_
         rotate_left
         ·intro w'
          go_simp
          with_reducible rfl
         rotate_left
         ·simp only [Act.put, List.setIfInBounds_toArray, List.set_cons_zero, List.set_cons_succ, i64_w, i32_w]
          rfl
         refine pure_ (i := 1) (N := some 11) (v := ?_) (a' := ?_) #[true, true, false, false, false, false, false, false, false, false, false, false, false, false, false, false, false, false, false, false, false] rfl rfl (any_of HT_.out (by kernel_rfl)) (fun _ _ _ h => h) (Or.inl ⟨by rfl, ?_⟩) ?_ ?_
         rotate_left
         ·intro w'
          go_simp
          with_reducible rfl
         rotate_left
         ·simp only [Act.put, List.setIfInBounds_toArray, List.set_cons_zero, List.set_cons_succ, i64_w, i32_w]
          rfl
         refine pure_ (i := 3) (N := some 13) (v := ?_) (a' := ?_) #[true, true, false, true, false, false, false, false, false, false, false, false, false, false, false, false, false, false, false, false, false] rfl rfl (any_of HT_.out (by kernel_rfl)) (fun _ _ _ h => h) (Or.inl ⟨by rfl, ?_⟩) ?_ ?_
         rotate_left
         ·intro w'
          go_simp
          with_reducible rfl
         rotate_left
         ·simp only [Act.put, List.setIfInBounds_toArray, List.set_cons_zero, List.set_cons_succ, i64_w, i32_w]
          rfl
         refine pure_ (i := 4) (N := some 14) (v := ?_) (a' := ?_) #[true, true, false, true, true, false, false, false, false, false, false, false, false, false, false, false, false, false, false, false, false] rfl rfl (any_of HT_.out (by kernel_rfl)) (fun _ _ _ h => h) (Or.inl ⟨by rfl, ?_⟩) ?_ ?_
         rotate_left
         ·intro w'
          go_simp
          with_reducible rfl
         rotate_left
         ·simp only [Act.put, List.setIfInBounds_toArray, List.set_cons_zero, List.set_cons_succ, i64_w, i32_w]
          rfl
         refine pure_ (i := 7) (N := some 17) (v := ?_) (a' := ?_) #[true, true, false, true, true, false, false, true, false, false, false, false, false, false, false, false, false, false, false, false, false] rfl rfl (any_of HT_.out (by kernel_rfl)) (fun _ _ _ h => h) (Or.inl ⟨by rfl, ?_⟩) ?_ ?_
         rotate_left
         ·intro w'
          go_simp
          with_reducible rfl
         rotate_left
         ·simp only [Act.put, List.setIfInBounds_toArray, List.set_cons_zero, List.set_cons_succ, i64_w, i32_w]
          rfl
         refine pure_ (i := 8) (N := some 18) (v := ?_) (a' := ?_) #[true, true, false, true, true, false, false, true, true, false, false, false, false, false, false, false, false, false, false, false, false] rfl rfl (any_of HT_.out (by kernel_rfl)) (fun _ _ _ h => h) (Or.inl ⟨by rfl, ?_⟩) ?_ ?_
         rotate_left
         ·intro w'
          go_simp
          with_reducible rfl
         rotate_left
         ·simp only [Act.put, List.setIfInBounds_toArray, List.set_cons_zero, List.set_cons_succ, i64_w, i32_w]
          rfl
         refine pure_ (i := 9) (N := some 19) (v := ?_) (a' := ?_) #[true, true, false, true, true, false, false, true, true, true, false, false, false, false, false, false, false, false, false, false, false] rfl rfl (any_of HT_.out (by kernel_rfl)) (fun _ _ _ h => h) (Or.inl ⟨by rfl, ?_⟩) ?_ ?_
         rotate_left
         ·intro w'
          go_simp
          with_reducible rfl
         rotate_left
         ·simp only [Act.put, List.setIfInBounds_toArray, List.set_cons_zero, List.set_cons_succ, i64_w, i32_w]
          rfl
         refine pure_ (i := 10) (N := some 20) (v := ?_) (a' := ?_) #[true, true, false, true, true, false, false, true, true, true, true, false, false, false, false, false, false, false, false, false, false] rfl rfl (any_of HT_.out (by kernel_rfl)) (fun _ _ _ h => h) (Or.inl ⟨by rfl, ?_⟩) ?_ ?_
         rotate_left
         ·intro w'
          go_simp
          with_reducible rfl
         rotate_left
         ·simp only [Act.put, List.setIfInBounds_toArray, List.set_cons_zero, List.set_cons_succ, i64_w, i32_w]
          rfl
         refine pure_ (i := 12) (N := some 22) (v := ?_) (a' := ?_) #[true, true, false, true, true, false, false, true, true, true, true, false, true, false, false, false, false, false, false, false, false] rfl rfl (any_of HT_.out (by kernel_rfl)) (fun _ _ _ h => h) (Or.inl ⟨by rfl, ?_⟩) ?_ ?_
         rotate_left
         ·intro w'
          go_simp
          with_reducible rfl
         rotate_left
         ·simp only [Act.put, List.setIfInBounds_toArray, List.set_cons_zero, List.set_cons_succ, i64_w, i32_w]
          rfl
         refine pure_ (i := 13) (N := some 23) (v := ?_) (a' := ?_) #[true, true, false, true, true, false, false, true, true, true, true, false, true, true, false, false, false, false, false, false, false] rfl rfl (any_of HT_.out (by kernel_rfl)) (fun _ _ _ h => h) (Or.inl ⟨by rfl, ?_⟩) ?_ ?_
         rotate_left
         ·intro w'
          go_simp
          with_reducible rfl
         rotate_left
         ·simp only [Act.put, List.setIfInBounds_toArray, List.set_cons_zero, List.set_cons_succ, i64_w, i32_w]
          rfl
         refine pure_ (i := 14) (N := some 24) (v := ?_) (a' := ?_) #[true, true, false, true, true, false, false, true, true, true, true, false, true, true, true, false, false, false, false, false, false] rfl rfl (any_of HT_.out (by kernel_rfl)) (fun _ _ _ h => h) (Or.inl ⟨by rfl, ?_⟩) ?_ ?_
         rotate_left
         ·intro w'
          go_simp
          with_reducible rfl
         rotate_left
         ·simp only [Act.put, List.setIfInBounds_toArray, List.set_cons_zero, List.set_cons_succ, i64_w, i32_w]
          rfl
         refine pure_ (i := 15) (N := some 25) (v := ?_) (a' := ?_) #[true, true, false, true, true, false, false, true, true, true, true, false, true, true, true, true, false, false, false, false, false] rfl rfl (any_of HT_.out (by kernel_rfl)) (fun _ _ _ h => h) (Or.inl ⟨by rfl, ?_⟩) ?_ ?_
         rotate_left
         ·intro w'
          go_simp
          with_reducible rfl
         rotate_left
         ·simp only [Act.put, List.setIfInBounds_toArray, List.set_cons_zero, List.set_cons_succ, i64_w, i32_w]
          rfl
         refine take_ (i := 11) (N := some 21) (v := ?_) (a' := ?_) #[true, true, false, true, true, false, false, true, true, true, true, true, true, true, true, true, false, false, false, false, false] rfl rfl (take_ofW HT_.out HW_.out (by kernel_rfl)) (fun _ _ _ h => h) (Or.inl ⟨by rfl, ?_⟩) hHeld ?_ ?_
         rotate_left
         ·rintro w' ⟨s0, s1, s2, s3, s4, s5, s6, s7, s8, s9⟩
          go_simp
          with_reducible rfl
         rotate_left
         ·simp only [Act.put, List.setIfInBounds_toArray, List.set_cons_zero, List.set_cons_succ, i64_w, i32_w]
          rfl
         refine take_ (i := 16) (N := some 26) (v := ?_) (a' := ?_) #[true, true, false, true, true, false, false, true, true, true, true, true, true, true, true, true, true, false, false, false, false] rfl rfl (take_ofW HT_.out HW_.out (by kernel_rfl)) (fun _ _ _ h => h) (Or.inl ⟨by rfl, ?_⟩) hHeld ?_ ?_
         rotate_left
         ·rintro w' ⟨s0, s1, s2, s3, s4, s5, s6, s7, s8, s9⟩
          go_simp
          with_reducible rfl
         rotate_left
         ·simp only [Act.put, List.setIfInBounds_toArray, List.set_cons_zero, List.set_cons_succ, i64_w, i32_w]
          rfl
         refine one_ (i := 2) (N := some 12) #[true, true, true, true, true, false, false, true, true, true, true, true, true, true, true, true, true, false, false, false, false] rfl rfl (one_of HT_.out (by kernel_rfl)) (by decide) (fun K hK => ?_)
         refine goes_ Tryz.func55 (by kernel_rfl) rfl #[.slice (some ad265) l0.length c0, .int .i64 x7_1] (by rfl) rfl rfl (by (try simp only [List.map_toArray, List.map_cons, List.map_nil]); first | done | rfl | (simp only [List.length_drop, List.length_take]; rfl)) ?_
         with_reducible refine (cluster_spread.calls _ _ l0 x7_1 t262 _ ?side1 ?side2 A3.out).mono ?_
         (case side1 => repeat (first | exact (Kd.C_below HR0.out HB.out) | (with_reducible refine Kd.C_alloc ?_ _) | (with_reducible refine Kd.C_drewN ?_ _) | (with_reducible refine Kd.C_drew ?_)))
         (case side2 => exact HC0.out)
         rintro e w20 ⟨rfl, hb⟩
         refine ⟨_, rfl, ?_⟩
         have n0_ := Aside0.mk (below_step (by repeat (first | (with_reducible first | exact HB.out | apply below_alloc | apply pw_below_drewN | apply below_drew1) | exact HB.out)) hb)
         clear HB
         have HB := n0_
         clear n0_
         (try clear hb)
         (try clear hb2)
         (try clear hk)
         (try clear hi)
         refine hK.out _ _ ⟨((HB.out.cell (World.block_lt_of_cell? w _ hw265_0)).trans hw265_0), ((HB.out.cell (World.block_lt_of_cell? w _ hw265_1)).trans hw265_1), ((HB.out.cell (World.block_lt_of_cell? w _ hw265_2)).trans hw265_2), ((HB.out.cell (World.block_lt_of_cell? w _ hw265_3)).trans hw265_3), ((HB.out.cell (World.block_lt_of_cell? w _ hw265_4)).trans hw265_4), ((HB.out.cell (World.block_lt_of_cell? w _ hw266_0)).trans hw266_0), ((HB.out.cell (World.block_lt_of_cell? w _ hw266_1)).trans hw266_1), ((HB.out.cell (World.block_lt_of_cell? w _ hw266_2)).trans hw266_2), ((HB.out.cell (World.block_lt_of_cell? w _ hw266_3)).trans hw266_3), ((HB.out.cell (World.block_lt_of_cell? w _ hw266_4)).trans hw266_4)⟩ (fun hHeld => ?_)
         clear hK K
         refine norm_ (a' := ?_) ?_ ?_
         rotate_left
         ·show Act.put _ (some 12) _ = _
          simp only [Act.put, List.setIfInBounds_toArray, List.set_cons_zero, List.set_cons_succ, i64_w, i32_w]
          rfl
         refine one_ (i := 5) (N := some 15) #[true, true, true, true, true, true, false, true, true, true, true, true, true, true, true, true, true, false, false, false, false] rfl rfl (one_of HT_.out (by kernel_rfl)) (by decide) (fun K hK => ?_)
         refine goes_ Tryz.func55 (by kernel_rfl) rfl #[.slice (some ad265) l0.length c0, .int .i64 x3_1] (by rfl) rfl rfl (by (try simp only [List.map_toArray, List.map_cons, List.map_nil]); first | done | rfl | (simp only [List.length_drop, List.length_take]; rfl)) ?_
         with_reducible refine (cluster_spread.calls _ _ l0 x3_1 t263 _ ?side1 ?side2 A4.out).mono ?_
         (case side1 => repeat (first | exact (Kd.C_below HR0.out HB.out) | (with_reducible refine Kd.C_alloc ?_ _) | (with_reducible refine Kd.C_drewN ?_ _) | (with_reducible refine Kd.C_drew ?_)))
         (case side2 => exact HC0.out)
         rintro e w21 ⟨rfl, hb⟩
         refine ⟨_, rfl, ?_⟩
         have n0_ := Aside0.mk (below_step (by repeat (first | (with_reducible first | exact HB.out | apply below_alloc | apply pw_below_drewN | apply below_drew1) | exact HB.out)) hb)
         clear HB
         have HB := n0_
         clear n0_
         (try clear hb)
         (try clear hb2)
         (try clear hk)
         (try clear hi)
         refine hK.out _ _ ⟨((HB.out.cell (World.block_lt_of_cell? w _ hw265_0)).trans hw265_0), ((HB.out.cell (World.block_lt_of_cell? w _ hw265_1)).trans hw265_1), ((HB.out.cell (World.block_lt_of_cell? w _ hw265_2)).trans hw265_2), ((HB.out.cell (World.block_lt_of_cell? w _ hw265_3)).trans hw265_3), ((HB.out.cell (World.block_lt_of_cell? w _ hw265_4)).trans hw265_4), ((HB.out.cell (World.block_lt_of_cell? w _ hw266_0)).trans hw266_0), ((HB.out.cell (World.block_lt_of_cell? w _ hw266_1)).trans hw266_1), ((HB.out.cell (World.block_lt_of_cell? w _ hw266_2)).trans hw266_2), ((HB.out.cell (World.block_lt_of_cell? w _ hw266_3)).trans hw266_3), ((HB.out.cell (World.block_lt_of_cell? w _ hw266_4)).trans hw266_4)⟩ (fun hHeld => ?_)
         clear hK K
         refine norm_ (a' := ?_) ?_ ?_
         rotate_left
         ·show Act.put _ (some 15) _ = _
          simp only [Act.put, List.setIfInBounds_toArray, List.set_cons_zero, List.set_cons_succ, i64_w, i32_w]
          rfl
         refine one_ (i := 6) (N := some 16) #[true, true, true, true, true, true, true, true, true, true, true, true, true, true, true, true, true, false, false, false, false] rfl rfl (one_of HT_.out (by kernel_rfl)) (by decide) (fun K hK => ?_)
         refine goes_ Tryz.func54 (by kernel_rfl) rfl #[.int .i64 t262, .int .i64 t263] (by rfl) rfl rfl (by (try simp only [List.map_toArray, List.map_cons, List.map_nil]); first | done | rfl | (simp only [List.length_drop, List.length_take]; rfl)) ?_
         with_reducible refine (cmp_Compare_int64.calls t262 t263 t264 _ A5.out).mono ?_
         rintro e w' ⟨rfl, ⟨nd, rfl⟩⟩
         refine ⟨_, rfl, ?_⟩
         refine hK.out _ _ ⟨((HB.out.cell (World.block_lt_of_cell? w _ hw265_0)).trans hw265_0), ((HB.out.cell (World.block_lt_of_cell? w _ hw265_1)).trans hw265_1), ((HB.out.cell (World.block_lt_of_cell? w _ hw265_2)).trans hw265_2), ((HB.out.cell (World.block_lt_of_cell? w _ hw265_3)).trans hw265_3), ((HB.out.cell (World.block_lt_of_cell? w _ hw265_4)).trans hw265_4), ((HB.out.cell (World.block_lt_of_cell? w _ hw266_0)).trans hw266_0), ((HB.out.cell (World.block_lt_of_cell? w _ hw266_1)).trans hw266_1), ((HB.out.cell (World.block_lt_of_cell? w _ hw266_2)).trans hw266_2), ((HB.out.cell (World.block_lt_of_cell? w _ hw266_3)).trans hw266_3), ((HB.out.cell (World.block_lt_of_cell? w _ hw266_4)).trans hw266_4)⟩ (fun hHeld => ?_)
         clear hK K
         refine norm_ (a' := ?_) ?_ ?_
         rotate_left
         ·show Act.put _ (some 16) _ = _
          simp only [Act.put, List.setIfInBounds_toArray, List.set_cons_zero, List.set_cons_succ, i64_w, i32_w]
          rfl
         refine one_ (i := 17) (N := some 27) #[true, true, true, true, true, true, true, true, true, true, true, true, true, true, true, true, true, true, false, false, false] rfl rfl (one_of HT_.out (by kernel_rfl)) (by decide) (fun K hK => ?_)
         refine goes_ Tryz.func101 (by kernel_rfl) rfl #[.int .i64 ((rd_T27 l0 x7_1).f0), .int .i64 ((rd_T27 l0 x3_1).f0)] (by rfl) rfl rfl (by (try simp only [List.map_toArray, List.map_cons, List.map_nil]); first | done | rfl | (simp only [List.length_drop, List.length_take]; rfl)) ?_
         with_reducible refine (cmp_Compare_int.calls ((rd_T27 l0 x7_1).f0) ((rd_T27 l0 x3_1).f0) t267 _ A10.out).mono ?_
         rintro e w' ⟨rfl, ⟨nd, rfl⟩⟩
         refine ⟨_, rfl, ?_⟩
         refine hK.out _ _ ⟨((HB.out.cell (World.block_lt_of_cell? w _ hw265_0)).trans hw265_0), ((HB.out.cell (World.block_lt_of_cell? w _ hw265_1)).trans hw265_1), ((HB.out.cell (World.block_lt_of_cell? w _ hw265_2)).trans hw265_2), ((HB.out.cell (World.block_lt_of_cell? w _ hw265_3)).trans hw265_3), ((HB.out.cell (World.block_lt_of_cell? w _ hw265_4)).trans hw265_4), ((HB.out.cell (World.block_lt_of_cell? w _ hw266_0)).trans hw266_0), ((HB.out.cell (World.block_lt_of_cell? w _ hw266_1)).trans hw266_1), ((HB.out.cell (World.block_lt_of_cell? w _ hw266_2)).trans hw266_2), ((HB.out.cell (World.block_lt_of_cell? w _ hw266_3)).trans hw266_3), ((HB.out.cell (World.block_lt_of_cell? w _ hw266_4)).trans hw266_4)⟩ (fun hHeld => ?_)
         clear hK K
         refine norm_ (a' := ?_) ?_ ?_
         rotate_left
         ·show Act.put _ (some 27) _ = _
          simp only [Act.put, List.setIfInBounds_toArray, List.set_cons_zero, List.set_cons_succ, i64_w, i32_w]
          rfl
         refine one_ (i := 18) (N := some 28) #[true, true, true, true, true, true, true, true, true, true, true, true, true, true, true, true, true, true, true, false, false] rfl rfl (one_of HT_.out (by kernel_rfl)) (by decide) (fun K hK => ?_)
         refine Kd.R_lit_step (Kd.int .i64) _ 3 ?hg (N := 28) ?hd (xs := ([t264, t267] : List Int)) (inner := [.int .i64 t264, .int .i64 t267]) (ok := fun _ => True) (okp := fun _ => True) ?hr ?hp (fun _ hk => hk) trivial (Below.refl _ _) (Nat.le_refl _) (by simp) ?_; (case hd => rfl); (case hg => rfl); (case hr => first | (go_simp; done) | (go_simp; rfl)); (case hp => exact (Reps.one (show Kd.M (Kd.int .i64) _ _ _ t264 [.int .i64 t264] from rfl) (Reps.one (show Kd.M (Kd.int .i64) _ _ _ t267 [.int .i64 t267] from rfl) (Reps.none _ _))))
         intro v269 w22 ho23 hb hg_ hnew_
         clear hg_ hnew_
         (first | rw [← Ny268.out] at ho23 | (simp only [Int.reduceToNat] at ho23; rw [← Ny268.out] at ho23))
         have n0_ := Aside0.mk (Kd.R_lower ho23 (below_size (by repeat (first | (with_reducible first | exact HB.out | apply below_alloc | apply pw_below_drewN | apply below_drew1) | exact HB.out))))
         have n1_ := Aside0.mk (below_step (by repeat (first | (with_reducible first | exact HB.out | apply below_alloc | apply pw_below_drewN | apply below_drew1) | exact HB.out)) hb)
         clear HB
         have HO270 := n0_
         have HB := n1_
         clear n0_ n1_
         clear hb ho23
         obtain ⟨Ao24, co24, eo24⟩ := Kd.R_slice HO270.out
         (first | subst eo24 | (injection eo24 with f1_ f2_ f3_; have f4_ := f1_.symm; have f5_ := f3_.symm; clear f1_ f2_ f3_; subst f4_; subst f5_))
         refine hK.out _ _ ⟨((HB.out.cell (World.block_lt_of_cell? w _ hw265_0)).trans hw265_0), ((HB.out.cell (World.block_lt_of_cell? w _ hw265_1)).trans hw265_1), ((HB.out.cell (World.block_lt_of_cell? w _ hw265_2)).trans hw265_2), ((HB.out.cell (World.block_lt_of_cell? w _ hw265_3)).trans hw265_3), ((HB.out.cell (World.block_lt_of_cell? w _ hw265_4)).trans hw265_4), ((HB.out.cell (World.block_lt_of_cell? w _ hw266_0)).trans hw266_0), ((HB.out.cell (World.block_lt_of_cell? w _ hw266_1)).trans hw266_1), ((HB.out.cell (World.block_lt_of_cell? w _ hw266_2)).trans hw266_2), ((HB.out.cell (World.block_lt_of_cell? w _ hw266_3)).trans hw266_3), ((HB.out.cell (World.block_lt_of_cell? w _ hw266_4)).trans hw266_4)⟩ (fun hHeld => ?_)
         clear hK K
         refine norm_ (a' := ?_) ?_ ?_
         rotate_left
         ·show Act.put _ (some 28) _ = _
          simp only [Act.put, List.setIfInBounds_toArray, List.set_cons_zero, List.set_cons_succ, i64_w, i32_w]
          rfl
         refine one_ (i := 19) (N := some 29) #[true, true, true, true, true, true, true, true, true, true, true, true, true, true, true, true, true, true, true, true, false] rfl rfl (one_of HT_.out (by kernel_rfl)) (by decide) (fun K hK => ?_)
         refine goes_ Tryz.func96 (by kernel_rfl) rfl #[.slice Ao24 y268.length co24] (by rfl) rfl rfl (by (try simp only [List.map_toArray, List.map_cons, List.map_nil]); first | done | rfl | (simp only [List.length_drop, List.length_take]; rfl)) ?_
         with_reducible refine (cmp_Or_int.calls k1 _ _ y268 t271 _ ?side1 ?side2 A11.out).mono ?_
         (case side1 => repeat (first | exact (Kd.R_reads' HO270.out).2.2 | (with_reducible refine Kd.C_alloc ?_ _) | (with_reducible refine Kd.C_drewN ?_ _) | (with_reducible refine Kd.C_drew ?_)))
         (case side2 => exact (Kd.R_reads' HO270.out).2.1)
         rintro e w' ⟨rfl, ⟨nd, rfl⟩⟩
         refine ⟨_, rfl, ?_⟩
         refine hK.out _ _ ⟨((HB.out.cell (World.block_lt_of_cell? w _ hw265_0)).trans hw265_0), ((HB.out.cell (World.block_lt_of_cell? w _ hw265_1)).trans hw265_1), ((HB.out.cell (World.block_lt_of_cell? w _ hw265_2)).trans hw265_2), ((HB.out.cell (World.block_lt_of_cell? w _ hw265_3)).trans hw265_3), ((HB.out.cell (World.block_lt_of_cell? w _ hw265_4)).trans hw265_4), ((HB.out.cell (World.block_lt_of_cell? w _ hw266_0)).trans hw266_0), ((HB.out.cell (World.block_lt_of_cell? w _ hw266_1)).trans hw266_1), ((HB.out.cell (World.block_lt_of_cell? w _ hw266_2)).trans hw266_2), ((HB.out.cell (World.block_lt_of_cell? w _ hw266_3)).trans hw266_3), ((HB.out.cell (World.block_lt_of_cell? w _ hw266_4)).trans hw266_4)⟩ (fun hHeld => ?_)
         clear hK K
         refine norm_ (a' := ?_) ?_ ?_
         rotate_left
         ·show Act.put _ (some 29) _ = _
          simp only [Act.put, List.setIfInBounds_toArray, List.set_cons_zero, List.set_cons_succ, i64_w, i32_w]
          rfl
         refine pure_ (i := 20) (N := some 30) (v := ?_) (a' := ?_) #[true, true, true, true, true, true, true, true, true, true, true, true, true, true, true, true, true, true, true, true, true] rfl rfl (any_of HT_.out (by kernel_rfl)) (fun _ _ _ h => h) (Or.inl ⟨by rfl, ?_⟩) ?_ ?_
         rotate_left
         ·intro w'
          go_simp
          with_reducible rfl
         rotate_left
         ·simp only [Act.put, List.setIfInBounds_toArray, List.set_cons_zero, List.set_cons_succ, i64_w, i32_w]
          rfl
         refine done_ (done_of HT_.out (by kernel_rfl)) ?_
         try go_wp2
         go_roundg k1
         case measure => have := HK1.out; omega
         case rel => exact ⟨(x3_1), (wrap64 (x7_1 + 1)), (by first | rfl | (simp; done) | (simp [*]; done)), (by first | rfl | (simp; done) | (simp [*]; done)), H', ⟨by have := HK1.out; omega⟩, ⟨by repeat (first | (with_reducible first | exact HB.out | apply below_alloc | apply pw_below_drewN | apply below_drew1) | exact HB.out)⟩⟩
       ·rw [if_neg c9] at H
        exact absurd H (by simp)
      ·rw [if_neg c8] at H
       exact absurd H (by simp)
     ·rw [if_neg c7] at H
      exact absurd H (by simp)
    ·rw [if_neg c6] at H
     exact absurd H (by simp)
   ·rw [if_neg c2] at H
    have c2b0 : decide (x7_1 < (l0.length : Int)) = false := decide_eq_false c2
    clear c2
    obtain rfl := Option.some.inj H
    go_wp2
    go_ret
    exact ⟨by first | rfl | (simp [errW_none, errW_some] <;> rfl) | (simp [*, errW_none, errW_some] <;> rfl), by repeat (first | (with_reducible first | exact HB.out | apply below_alloc | apply pw_below_drewN | apply below_drew1) | exact HB.out)⟩
end Go.Proofs.YtapagoaoglmegaaGreat.PCl
namespace Go.Proofs.YtapagoaoglmegaaGreat
open Go.RowKit Go.Proofs.YtapagoaoglmegaaGreatW.PrintWords Go.Proofs.YtapagoaoglmegaaGreatW.PrintLast Go.Proofs.YtapagoaoglmegaaGreatW.PrintMore PCl
set_option linter.unusedVariables false
theorem cmp64_f (a b : Int) : cmp_Compare_int64.f a b = some (if a < b then -1 else if a > b then 1 else 0) := by
  unfold cmp_Compare_int64.f cmp_isNaN_int64.f
  simp
  split
  · rfl
  · split <;> rfl
theorem cmpI_f (a b : Int) : cmp_Compare_int.f a b = some (if a < b then -1 else if a > b then 1 else 0) := by
  unfold cmp_Compare_int.f cmp_isNaN_int.f
  simp
  split
  · rfl
  · split <;> rfl
theorem or2_f (a b : Int) (k : Nat) (hk : 3 ≤ k) : cmp_Or_int.f k [a, b] = some (if a = 0 then b else a) := by
  obtain ⟨k, rfl⟩ : ∃ m, k = m + 3 := ⟨k - 3, by omega⟩
  unfold cmp_Or_int.f
  have w1 : wrap64 (0 + 1) = 1 := by unfold wrap64; omega
  have w2 : wrap64 (1 + 1) = 2 := by unfold wrap64; omega
  have r0 : rd [a, b] 0 = a := rfl
  have r1 : rd [a, b] 1 = b := rfl
  simp only [cmp_Or_int.l0, List.length_cons, List.length_nil, r0]
  rw [if_pos (by decide), if_pos (by decide), if_pos (by decide)]
  by_cases h0 : a = 0
  · rw [if_pos h0, if_pos h0, w1, if_pos (by decide), if_pos (by decide), if_pos (by decide), r1]
    by_cases h1 : b = 0
    · rw [if_pos h1, w2, if_neg (by decide), h1]
    · rw [if_neg h1]
  · rw [if_neg h0, if_neg h0]
def Worse (l : List S27) (i j : Nat) : Prop := spreadZ l j < spreadZ l i ∨ (spreadZ l i = spreadZ l j ∧ (rd_T27 l (j : Int)).f0 < (rd_T27 l (i : Int)).f0)
instance (l : List S27) (i j : Nat) : Decidable (Worse l i j) := by unfold Worse; infer_instance
def worstTo (l : List S27) : Nat → Nat
  | 0 => 0
  | i + 1 => if Worse l i (worstTo l i) then i else worstTo l i
def worstZ (l : List S27) : Nat := worstTo l l.length
theorem worstTo_lt (l : List S27) (h : 0 < l.length) : ∀ i, i ≤ l.length → worstTo l i < l.length
  | 0, _ => h
  | i + 1, hi => by
    unfold worstTo; split
    · omega
    · exact worstTo_lt l h i (by omega)
theorem worstZ_lt {l : List S27} (h : 0 < l.length) : worstZ l < l.length := worstTo_lt l h _ (Nat.le_refl _)
theorem spread_f {l : List S27} (h : mayB l = true) {i : Nat} (hi : i < l.length) : cluster_spread.f l (i : Int) = some (spreadZ l i) := by
  unfold cluster_spread.f
  rw [if_pos ⟨h, by omega, by omega⟩, Int.toNat_natCast]
theorem worst_l0 {l : List S27} (h : mayB l = true) (hn : 0 < l.length) : ∀ (d i k : Nat), i ≤ l.length → l.length - i = d → d + 4 ≤ k → cluster_worst.l0 k l (worstTo l i : Int) (l.length : Int) (i : Int) = some (worstZ l : Int)
  | 0, i, k, hi, hd, hk => by
    obtain ⟨k, rfl⟩ : ∃ m, k = m + 1 := ⟨k - 1, by omega⟩
    obtain rfl : i = l.length := by omega
    simp only [cluster_worst.l0]
    rw [if_neg (by omega)]
    rfl
  | d + 1, i, k, hi, hd, hk => by
    obtain ⟨k, rfl⟩ : ∃ m, k = m + 1 := ⟨k - 1, by omega⟩
    have hil : i < l.length := by omega
    have hw := worstTo_lt l hn i hi
    have hl16 := ((mayB_iff l).1 h).len
    simp only [cluster_worst.l0]
    rw [if_pos (by omega), spread_f h hil, spread_f h hw]
    simp only [Option.bind_some]
    rw [cmp64_f]
    simp only [Option.bind_some]
    rw [if_pos (by omega), if_pos (by omega), if_pos (by omega), if_pos (by omega), cmpI_f]
    simp only [Option.bind_some]
    rw [or2_f _ _ k (by omega)]
    simp only [Option.bind_some]
    have e1 : wrap64 ((i : Int) + 1) = ((i + 1 : Nat) : Int) := by unfold wrap64; omega
    rw [e1]
    have ih := worst_l0 h hn d (i + 1) k (by omega) (by omega) (by omega)
    have key : ((if (if spreadZ l i < spreadZ l (worstTo l i) then (-1 : Int) else if spreadZ l i > spreadZ l (worstTo l i) then 1 else 0) = 0 then
        (if (rd_T27 l (i : Int)).f0 < (rd_T27 l (worstTo l i : Int)).f0 then (-1 : Int) else if (rd_T27 l (i : Int)).f0 > (rd_T27 l (worstTo l i : Int)).f0 then 1 else 0) else
        (if spreadZ l i < spreadZ l (worstTo l i) then (-1 : Int) else if spreadZ l i > spreadZ l (worstTo l i) then 1 else 0)) > 0) ↔ Worse l i (worstTo l i) := by
      unfold Worse
      generalize spreadZ l i = a
      generalize spreadZ l (worstTo l i) = b
      generalize (rd_T27 l (i : Int)).f0 = c
      generalize (rd_T27 l (worstTo l i : Int)).f0 = d
      by_cases h1 : a < b
      · simp [h1]; omega
      · by_cases h2 : a > b
        · simp [h1, h2]
        · have : a = b := by omega
          subst this
          by_cases h3 : c < d
          · simp [h3]; omega
          · by_cases h4 : c > d
            · simp [h3, h4]
            · simp [h3, h4]
    by_cases hc : Worse l i (worstTo l i)
    · rw [if_pos (key.2 hc)]
      have e2 : worstTo l (i + 1) = i := by rw [worstTo, if_pos hc]
      rw [e2] at ih
      exact ih
    · rw [if_neg (fun e => hc (key.1 e))]
      have e2 : worstTo l (i + 1) = worstTo l i := by rw [worstTo, if_neg hc]
      rw [e2] at ih
      exact ih
theorem worst_f {l : List S27} (h : mayB l = true) (hn : 0 < l.length) (k : Nat) (hk : l.length + 4 ≤ k) : cluster_worst.f k l = some (worstZ l : Int) := by
  have := worst_l0 h hn l.length 0 k (by omega) (by omega) hk
  unfold cluster_worst.f
  exact this
end Go.Proofs.YtapagoaoglmegaaGreat
end
