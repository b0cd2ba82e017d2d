/- Texts of mine, joined by shake.py: ClDel, ClClone, PClx7, PClx23, ClMin, ClDelete. -/
import Derived.Lib.SliceRun
import Derived.StillTailTactics
import Derived.Deep.RegionLaw
import Derived.Shelf.RegionOpenPlain
import Derived.Test.YtapagoaoglmegaaGreatMo2
import Derived.Test.YtapagoaoglmegaaGreatMo4
section
namespace Go.Proofs.YtapagoaoglmegaaGreat
open Go.RowKit Go.Proofs.YtapagoaoglmegaaGreatW.PrintWords Go.Proofs.YtapagoaoglmegaaGreatW.PrintLast Go.Proofs.YtapagoaoglmegaaGreatW.PrintMore PCl
set_option linter.unusedVariables false
set_option linter.unusedSimpArgs false
set_option maxRecDepth 100000
theorem Blk.setCells (b : Nat) {t : TypeId} : ∀ (vs : List Value) (o : Nat) (w : World) (cs : Array Value), Blk w b cs t → ∃ cs', Blk (w.setCells b o vs) b cs' t ∧ cs'.size = cs.size ∧ ∀ j, j < o → cs'[j]? = cs[j]?
  | [], o, w, cs, h => ⟨cs, h, rfl, fun _ _ => rfl⟩
  | v :: vs, o, w, cs, h => by
    obtain ⟨cs', h1, h2, h3⟩ := Blk.setCells b vs (o + 1) (w.setCell ⟨b, o, none⟩ v) _ (h.set rfl)
    refine ⟨cs', h1, by simpa using h2, fun j hj => ?_⟩
    rw [h3 j (by omega), Array.getElem?_setIfInBounds, if_neg (by omega)]
theorem Fr.setCells (b : Nat) {S : Nat → Prop} {a : World} (hb : a.heap.size ≤ b ∨ S b) : ∀ (vs : List Value) (o : Nat) (w : World), Fr S a w → Fr S a (w.setCells b o vs)
  | [], o, w, h => h
  | v :: vs, o, w, h => Fr.setCells b hb vs (o + 1) _ (h.setCell ⟨b, o, none⟩ v hb)
theorem Row.setCells {w : World} {g cap : Nat} {L : List S27} (h : Row w g cap L) (n : Nat) (vs : List Value) : Row (w.setCells g (n * 5) vs) g cap (L.take n) := by
  obtain ⟨cur, hb, h1, h2, h3⟩ := h
  obtain ⟨cs', k1, k2, k3⟩ := Blk.setCells g vs (n * 5) w cur hb
  refine ⟨cs', k1, by omega, by simp; omega, fun i c hi j v hj => ?_⟩
  rw [List.getElem?_take] at hi
  have hj5 : j < 5 := by have := (List.getElem?_eq_some_iff.1 hj).1; simpa [encC] using this
  split at hi
  · rw [k3 _ (by omega)]; exact h3 i c hi j v hj
  · cases hi
theorem zero27 (w : World) : (zeroValue 27).run Tryz.prog w = .ok (.agg #[.int .i64 0, .int .i64 0, .int .i64 0, .int .i64 0, .int .i64 0]) w := by kernel_rfl
theorem clear27 {w : World} {g o n c cap : Nat} {L : List S27} (hR : Row w g cap L) (h : o + n ≤ cap) (ty : TypeId) :
    (Builtin.clear_ #[22] ty #[.slice (some ⟨g, o * 5, none⟩) n c]).run Tryz.prog w = .ok (.tuple #[]) (w.setCells g (o * 5) (List.replicate (n * 5) (.int .i64 0))) := by
  by_cases hn : n = 0
  · subst hn
    simp [Builtin.clear_, run_underlying Tryz.underlying22, World.setCells]
  have hzc : (Builtin.zeroCells (Value.agg #[.int .i64 0, .int .i64 0, .int .i64 0, .int .i64 0, .int .i64 0]).cells n).toList = List.replicate (n * 5) (.int .i64 0) := by
    have e : (Value.agg #[.int .i64 0, .int .i64 0, .int .i64 0, .int .i64 0, .int .i64 0]).cells = Array.replicate 5 (.int .i64 0) := by kernel_rfl
    rw [e]
    simp only [Builtin.zeroCells]
    apply List.ext_getElem
    · simp
    · intro i h1 h2
      simp [Nat.mod_lt]
  have hst := run_storeCells_cells (P := Tryz.prog) g (o * 5) (List.replicate (n * 5) (.int .i64 0)) 0 w (fun j hj => by
      obtain ⟨v, hv, _⟩ := hR.there (o := o * 5 + j) (by simp at hj; omega)
      rw [Nat.add_zero, hv]; rfl) (fun j hj => by
      obtain ⟨v, _, hv⟩ := hR.there (o := o * 5 + j) (by simp at hj; omega)
      rw [Nat.add_zero]; exact hv) (by intro v hv; rw [List.eq_of_mem_replicate hv]; rfl)
  simp only [Nat.add_zero] at hst
  obtain ⟨m, rfl⟩ : ∃ m, n = m + 1 := ⟨n - 1, by omega⟩
  simp [Builtin.clear_, run_underlying Tryz.underlying22, zero27, hzc, hst]
theorem meet_f (s h : S25) (k : Nat) (hk : 5 ≤ k) (hs : SpOk s) (hh : SpOk h) : ∃ x y z, span_Meet.f k s.f0 s.f1 s.f2 h.f0 h.f1 h.f2 = some (x, y, z, decide (Meets s h)) := by
  obtain ⟨k, rfl⟩ : ∃ m, k = m + 1 := ⟨k - 1, by omega⟩
  unfold span_Meet.f
  rw [spMay_f _ _ _ _ (by omega), spMay_f _ _ _ _ (by omega)]
  simp only [Option.bind_some, decide_eq_true hs, decide_eq_true hh, if_true, span_Meet.j0]
  by_cases e : s.f0 = h.f0
  · have e1 : (s.f0 != h.f0) = false := by simpa using e
    rw [e1, if_neg (by decide)]
    by_cases e2 : mx s.f1 h.f1 > mn s.f2 h.f2
    · rw [if_pos e2]
      have : ¬ Meets s h := fun m => by have := m.2.2.2; unfold mx mn at e2; omega
      exact ⟨0, 0, 0, by rw [decide_eq_false this]⟩
    · rw [if_neg e2]
      have : Meets s h := ⟨hs, hh, e, by unfold mx mn at e2; omega⟩
      exact ⟨_, _, _, by rw [decide_eq_true this]⟩
  · have e1 : (s.f0 != h.f0) = true := by simpa using e
    rw [e1, if_pos rfl]
    have : ¬ Meets s h := fun m => e m.2.2.1
    exact ⟨0, 0, 0, by rw [decide_eq_false this]⟩
theorem meet_at {s h : S25} (hs : SpOk s) (hh : SpOk h) : ∃ x y z, ∀ W : World, Calls Tryz.prog 18 #[.agg #[.int .i64 s.f0, .int .i64 s.f1, .int .i64 s.f2], .agg #[.int .i64 h.f0, .int .i64 h.f1, .int .i64 h.f2]] W fun e w' => e = .returned (.tuple #[.agg #[.int .i64 x, .int .i64 y, .int .i64 z], .bool (decide (Meets s h))]) ∧ Fr (fun _ => False) W w' := by
  obtain ⟨x, y, z, e⟩ := meet_f s h 5 (Nat.le_refl _) hs hh
  exact ⟨x, y, z, fun W => (span_Meet.calls 5 _ _ _ _ _ _ _ _ _ _ W e).mono fun _ _ q => ⟨q.1, Fr.of_below q.2 (Nat.le_refl _) _⟩⟩
def keepB (h : S25) (c : S27) : Bool := decide (Meets c.f1 h)
def At3 (w : World) (r o : Nat) (s : S25) : Prop :=
  w.cell? ⟨r, o, none⟩ = some (.int .i64 s.f0) ∧ w.cell? ⟨r, o + 1, none⟩ = some (.int .i64 s.f1) ∧ w.cell? ⟨r, o + 2, none⟩ = some (.int .i64 s.f2)
theorem At3.fr {w w' : World} {r o : Nat} {c : S25} {S : Nat → Prop} (h : At3 w r o c) (k : Fr S w w') (hs : ¬ S r) : At3 w' r o c := by
  have hb := World.block_lt_of_cell? w _ h.1
  exact ⟨(k.cell (a := ⟨r, o, none⟩) hb hs).trans h.1, (k.cell (a := ⟨r, o + 1, none⟩) hb hs).trans h.2.1, (k.cell (a := ⟨r, o + 2, none⟩) hb hs).trans h.2.2⟩
set_option maxHeartbeats 4000000 in
theorem del_at {w : World} {hB : Nat} {c : S27} {h : S25} (hc : SpOk c.f1) (hh : SpOk h) (h3 : At3 w hB 0 h) :
    Calls Tryz.prog 50 #[.agg #[.int .i64 c.f0, .int .i64 c.f1.f0, .int .i64 c.f1.f1, .int .i64 c.f1.f2, .int .i64 c.f2], .pointer (some ⟨hB, 0, none⟩)] w
      fun e w' => e = .returned (.bool (!keepB h c)) ∧ Fr (fun _ => False) w w' := by
  obtain ⟨x, y, z, hm⟩ := meet_at hc hh
  unfold keepB
  generalize decide (Meets c.f1 h) = b at hm ⊢
  have HM := hid hm
  clear hm
  obtain ⟨h0, h1, h2⟩ := h3
  have hl := World.block_lt_of_cell? w _ h0
  simp only [Nat.zero_add] at h0 h1 h2
  go_enter Tryz.func50, Tryz.ntmps50
  go_wp2_with fail
  refine (HM.out _).mono ?_
  rintro e w3 ⟨rfl, k3⟩
  have k4 : Fr (fun _ => False) w w3 := Fr.trans (by (repeat' (first | (with_reducible exact Fr.refl _ _) | (with_reducible assumption) | (with_reducible refine Fr.alloc ?_ _) | (with_reducible refine Fr.drew ?_) | (with_reducible refine Fr.drewN ?_ _) | (with_reducible refine Fr.setCell ?_ _ _ ?_) | (exact Or.inr rfl) | (left; simp; done) | (left; simp; omega) | (simp; done) | (simp; omega) | omega))) k3 (fun _ _ h => h)
  clear k3 HM h0 h1 h2
  go_wp2
  go_ret
  exact ⟨rfl, by (repeat' (first | (with_reducible exact Fr.refl _ _) | (with_reducible assumption) | (with_reducible refine Fr.alloc ?_ _) | (with_reducible refine Fr.drew ?_) | (with_reducible refine Fr.drewN ?_ _) | (with_reducible refine Fr.setCell ?_ _ _ ?_) | (exact Or.inr rfl) | (left; simp; done) | (left; simp; omega) | (simp; done) | (simp; omega) | omega))⟩
set_option maxHeartbeats 4000000 in
theorem idx_at {w : World} {g cap hB : Nat} {M : List S27} {h : S25} (hR : Row w g cap M) (hcm : cap ≤ maxLen) (hM : ∀ c ∈ M, SpOk c.f1) (hh : SpOk h) (h3 : At3 w hB 0 h) :
    Calls Tryz.prog 100 #[.slice (some ⟨g, 0, none⟩) M.length cap, .func (.func 50) #[] #[.pointer (some ⟨hB, 0, none⟩)]] w
      fun e w' => ((∃ i c, M[i]? = some c ∧ keepB h c = false ∧ (∀ j, j < i → ∀ d, M[j]? = some d → keepB h d = true) ∧ e = .returned (.int .i64 (i : Nat))) ∨ ((∀ d ∈ M, keepB h d = true) ∧ e = .returned (.int .i64 (-1)))) ∧ Fr (fun _ => False) w w' := by
  have hl : M.length ≤ 9223372036854775807 := by have := hR.len; unfold maxLen at hcm; omega
  have hhb := World.block_lt_of_cell? w _ h3.1
  have hgb := hR.lt
  have HR := hid hR
  have H3 := hid h3
  have HM := hid hM
  clear hR h3 hM
  go_enter Tryz.func100, Tryz.ntmps100
  go_wp2_with fail
  go_loopw [5, 8] (fun _ vi wr => ∃ i : Nat, i ≤ M.length ∧ vi = .int .i64 i ∧ Hid (∀ j, j < i → ∀ d, M[j]? = some d → keepB h d = true) ∧ Fr (fun _ => False) w wr) (fun _ vi _ => M.length - (intOf vi).toNat)
  case atStart => exact ⟨0, by omega, rfl, hid fun j hj => by omega, Fr.refl _ _⟩
  case round =>
    obtain ⟨i, hi, rfl, hk, hf⟩ := hrel
    by_cases hlt : i < M.length
    · obtain ⟨c, hc⟩ : ∃ c, M[i]? = some c := ⟨M[i], List.getElem?_eq_getElem hlt⟩
      obtain ⟨c1, c2, c3, c4, c5⟩ := (HR.out.fr hf (fun h => h)).at5 hc
      have hcok := HM.out c (List.mem_of_getElem? hc)
      have HA := hid (H3.out.fr hf (fun h => h))
      have HC := hid hc
      clear hc
      go_wp2_with fail
      refine (del_at hcok hh HA.out).mono ?_
      rintro e w3 ⟨rfl, k3⟩
      have k4 : Fr (fun _ => False) w w3 := hf.trans k3 (fun _ _ h => h)
      clear k3 c1 c2 c3 c4 c5 HA hf
      cases hq : keepB h c with
      | false =>
        have HQ := hid hq
        go_wp2_with fail
        go_ret
        exact ⟨.inl ⟨i, c, HC.out, HQ.out, hk.out, rfl⟩, by (repeat' (first | (with_reducible exact Fr.refl _ _) | (with_reducible assumption) | (with_reducible refine Fr.alloc ?_ _) | (with_reducible refine Fr.drew ?_) | (with_reducible refine Fr.drewN ?_ _) | (with_reducible refine Fr.setCell ?_ _ _ ?_) | (exact Or.inr rfl) | (left; simp; done) | (left; simp; omega) | (simp; done) | (simp; omega) | omega))⟩
      | true =>
        have HQ := hid hq
        go_wp2_with fail
        go_roundw
        case rel => exact ⟨i + 1, by omega, by go_num, hid fun j hj d hd => by
          by_cases e : j = i
          · subst e; rw [HC.out] at hd; cases hd; exact HQ.out
          · exact hk.out j (by omega) d hd, by (repeat' (first | (with_reducible exact Fr.refl _ _) | (with_reducible assumption) | (with_reducible refine Fr.alloc ?_ _) | (with_reducible refine Fr.drew ?_) | (with_reducible refine Fr.drewN ?_ _) | (with_reducible refine Fr.setCell ?_ _ _ ?_) | (exact Or.inr rfl) | (left; simp; done) | (left; simp; omega) | (simp; done) | (simp; omega) | omega))⟩
        case measure => simp [intOf]; omega
    · obtain rfl : M.length = i := by omega
      go_wp2_with fail
      go_ret
      refine ⟨.inr ⟨fun d hd => ?_, rfl⟩, by (repeat' (first | (with_reducible exact Fr.refl _ _) | (with_reducible assumption) | (with_reducible refine Fr.alloc ?_ _) | (with_reducible refine Fr.drew ?_) | (with_reducible refine Fr.drewN ?_ _) | (with_reducible refine Fr.setCell ?_ _ _ ?_) | (exact Or.inr rfl) | (left; simp; done) | (left; simp; omega) | (simp; done) | (simp; omega) | omega))⟩
      obtain ⟨j, hj⟩ := List.mem_iff_getElem?.1 hd
      exact hk.out j (List.getElem?_eq_some_iff.1 hj).1 d hj
theorem app27 {ops : Array Oper} {rest : List Oper} {o : Oper} {a : Act} {Q : Exit → Act → World → Prop} {w w1 : World} {v1 : Value} {ad : Addr} {cap : Nat} {l : List S27} (hgd : o.guard = none) (s x : Operand)
    (ho : o.op = .call { callee := .builtin .append, args := #[s, x], argTypes := #[22, 22] })
    (hs : a.eval s = v1) (hx : a.eval x = .slice (some ad) l.length cap) (ho1 : Kd.R k27 27 w1 w.heap.size (fun _ => True) v1 []) (hb1 : Below w.heap.size w w1) (hC : Kd.C k27 w (some ad) l.length l) (hl : l.length ≤ 1000000)
    (h : ∀ v2 w2, Kd.R k27 27 w2 w.heap.size (fun _ => True) v2 l → Below w.heap.size w w2 → wpList Tryz.prog ops Q rest (a.put o.dst v2) w2) : wpList Tryz.prog ops Q (o :: rest) a w1 := by
  refine Kd.R_append_rows k27 (Rr := k27.K w) (w0 := w) w.heap.size hgd s x 22 27 (.agg #[.int .i64 0, .int .i64 0, .int .i64 0, .int .i64 0, .int .i64 0]) 40 ho Tryz.underlying22 info27 rfl (by decide) (by omega) v1 [] l (some ad) l.length cap (fun _ => True) (fun _ => False) hs hx ho1 ?_ (fun _ _ h => (k27_open h) ▸ k27_mkM _ _ _ _) (fun _ h => h.elim) (fun _ _ => trivial) hb1 hb1.size (by simp; omega) ?_
  · exact Kd.C_below hC hb1
  · intro v2 w2 r b _ _
    exact h v2 w2 r b
set_option maxHeartbeats 8000000 in
theorem clone_at {w : World} {A : Option Addr} {cap : Nat} {l : List S27} (hC : Kd.C k27 w A l.length l) (hcap : l.length ≤ cap) (hs : l.length ≤ 1000000) :
    Calls Tryz.prog 16 #[.slice A l.length cap] w fun e w' => ∃ v0_ : Value, e = .returned v0_ ∧ Kd.R k27 27 w' w.heap.size (fun _ => True) v0_ l ∧ Below w.heap.size w w' := by
  have HC := hid hC
  have hnil := hC.2.2
  clear hC
  cases A with
  | none =>
    have h0 : l = [] := by
      rcases Nat.eq_zero_or_pos l.length with h | h
      · exact List.eq_nil_of_length_eq_zero h
      · obtain ⟨ad, e, _⟩ := hnil h; cases e
    subst h0
    have hq : ∀ c' : Nat, (binOp .eql 22 (.slice none 0 cap) (.slice none 0 c')).run Tryz.prog w = .ok (.bool true) w := fun c' => Lib.run_eql_slice_nil w _ _ none 0 cap 0 c' Tryz.underlying22
    clear hnil
    go_enter Tryz.func16, Tryz.ntmps16
    go_wp2_with (simp only [hq])
    go_ret
    exact ⟨_, rfl, Kd.R_nil _ _ _ _ _, Below.refl _ _⟩
  | some ad =>
    have hq : ∀ c' : Nat, (binOp .eql 22 (.slice (some ad) l.length cap) (.slice none 0 c')).run Tryz.prog w = .ok (.bool false) w := fun c' => Lib.run_eql_slice_nil w _ _ (some ad) l.length cap 0 c' Tryz.underlying22
    clear hnil
    have HB := hid (Below.refl w.heap.size w)
    go_enter Tryz.func16, Tryz.ntmps16
    go_wp2_with (first | (simp only [hq]) | ((with_reducible refine gate_dst (N := 5) rfl ?_); refine Kd.R_lit k27 w.heap.size 27 ?hg (N := 5) ?hd (xs := ([] : List S27)) (inner := []) (ok := fun _ => True) (okp := fun _ => True) ?hr ?hp (fun _ hk => hk) trivial HB.out (Nat.le_refl _) (by simp) ?_; (case hd => rfl); (case hg => rfl); (case hr => first | (go_simp; done) | (go_simp; rfl)); (case hp => exact Reps.none _ _); intro v1 w1 ho1 hb1 hg1 hn1) | ((with_reducible refine gate_builtin (b := .append) (xs := #[.tmp 5, .tmp 6]) rfl ?_); at_builtin; refine app27 rfl (.tmp 5) (.tmp 6) rfl rfl rfl ho1 hb1 HC.out hs ?_; intro v2 w2 ho2 hb2))
    go_ret
    exact ⟨_, rfl, ho2, hb2⟩
end Go.Proofs.YtapagoaoglmegaaGreat
namespace Go.Proofs.YtapagoaoglmegaaGreat.PCl
open Go.RowKit Go.Proofs.YtapagoaoglmegaaGreatW.PrintWords Go.Proofs.YtapagoaoglmegaaGreatW.PrintLast Go.Proofs.YtapagoaoglmegaaGreatW.PrintMore
attribute [local go_sem] max2_int min2_int max_two min_two max_three min_three max_four min_four
set_option linter.unusedVariables false
set_option linter.unusedSimpArgs false
def cmp_isNaN_int64.f (a0 : Int) : Option (Bool) := some (a0 != a0)
set_option maxHeartbeats 8000000 in
set_option maxRecDepth 100000 in
theorem cmp_isNaN_int64.calls (a0 : Int) (r : Bool) (w : World) (h : cmp_isNaN_int64.f a0 = some r) :
  Calls Tryz.prog 102 #[.int .i64 a0] w fun e w' => e = .returned (.bool r) ∧ Drawn0 w w' := by
 have H : (some (a0 != a0)) = some r := h
 clear h
 obtain rfl := Option.some.inj H
 go_enter Tryz.func102, Tryz.ntmps102
 go_wp2
 go_ret
 exact ⟨by first | rfl | (simp; done) | (simp [*]; done), by repeat (first | exact Drawn0.refl _ | apply Drawn0.step)⟩
def cmp_Compare_int64.f (a0 : Int) (a1 : Int) : Option (Int) := (cmp_isNaN_int64.f a0).bind fun t257 => ((cmp_isNaN_int64.f a1).bind fun t258 => (if t257 = true then (if t258 = true then (some 0) else (some (-1))) else (if t258 = true then (some 1) else (if a0 < a1 then (some (-1)) else (if a0 > a1 then (some 1) else (some 0))))))
set_option maxHeartbeats 8000000 in
set_option maxRecDepth 100000 in
theorem cmp_Compare_int64.calls (a0 : Int) (a1 : Int) (r : Int) (w : World) (h : cmp_Compare_int64.f a0 a1 = some r) :
  Calls Tryz.prog 54 #[.int .i64 a0, .int .i64 a1] w fun e w' => e = .returned (.int .i64 r) ∧ Drawn0 w w' := by
 have H : ((cmp_isNaN_int64.f a0).bind fun t257 => ((cmp_isNaN_int64.f a1).bind fun t258 => (if t257 = true then (if t258 = true then (some 0) else (some (-1))) else (if t258 = true then (some 1) else (if a0 < a1 then (some (-1)) else (if a0 > a1 then (some 1) else (some 0))))))) = some r := h
 clear h
 replace H := Option.bind_eq_some_iff.mp H
 obtain ⟨t257, A30, H⟩ := H
 replace H : ((cmp_isNaN_int64.f a1).bind fun t258 => (if t257 = true then (if t258 = true then (some 0) else (some (-1))) else (if t258 = true then (some 1) else (if a0 < a1 then (some (-1)) else (if a0 > a1 then (some 1) else (some 0)))))) = some r := H
 have A3 := Aside0.mk A30
 clear A30
 replace H := Option.bind_eq_some_iff.mp H
 obtain ⟨t258, A40, H⟩ := H
 replace H : (if t257 = true then (if t258 = true then (some 0) else (some (-1))) else (if t258 = true then (some 1) else (if a0 < a1 then (some (-1)) else (if a0 > a1 then (some 1) else (some 0))))) = some r := H
 have A4 := Aside0.mk A40
 clear A40
 by_cases c5 : t257 = true
 ·subst c5
  have H1 : (if t258 = true then (some 0) else (some (-1))) = some r := by rw [if_pos rfl] at H; exact H
  clear H
  have H := H1
  clear H1
  by_cases c6 : t258 = true
  ·subst c6
   have H1 : (some 0) = some r := by rw [if_pos rfl] at H; exact H
   clear H
   have H := H1
   clear H1
   obtain rfl := Option.some.inj H
   go_enter Tryz.func54, Tryz.ntmps54
   go_wp2_with (first | ((with_reducible refine gate_callee (f := 102) rfl ?_); refine goesL_ (some 8) rfl rfl Tryz.func102 (by kernel_rfl) rfl #[.int .i64 a0] rfl (by (try simp only [List.map_toArray, List.map_cons, List.map_nil]); first | done | rfl | (simp only [List.length_drop, List.length_take]; rfl)) ?_; (with_reducible refine (cmp_isNaN_int64.calls a0 true _ A3.out).mono ?_); rintro e w' ⟨rfl, ⟨nd, rfl⟩⟩; refine ⟨_, rfl, ?_⟩) | ((with_reducible refine gate_callee (f := 102) rfl ?_); refine goesL_ (some 10) rfl rfl Tryz.func102 (by kernel_rfl) rfl #[.int .i64 a1] rfl (by (try simp only [List.map_toArray, List.map_cons, List.map_nil]); first | done | rfl | (simp only [List.length_drop, List.length_take]; rfl)) ?_; (with_reducible refine (cmp_isNaN_int64.calls a1 true _ A4.out).mono ?_); rintro e w' ⟨rfl, ⟨nd, rfl⟩⟩; refine ⟨_, rfl, ?_⟩))
   go_ret
   exact ⟨by first | rfl | (simp; done) | (simp [*]; done), by repeat (first | exact Drawn0.refl _ | apply Drawn0.step)⟩
  ·replace c6 := Bool.eq_false_iff.mpr c6
   subst c6
   have H1 : (some (-1)) = some r := by rw [if_neg (show ¬ (false = true) by decide)] at H; exact H
   clear H
   have H := H1
   clear H1
   obtain rfl := Option.some.inj H
   go_enter Tryz.func54, Tryz.ntmps54
   go_wp2_with (first | ((with_reducible refine gate_callee (f := 102) rfl ?_); refine goesL_ (some 8) rfl rfl Tryz.func102 (by kernel_rfl) rfl #[.int .i64 a0] rfl (by (try simp only [List.map_toArray, List.map_cons, List.map_nil]); first | done | rfl | (simp only [List.length_drop, List.length_take]; rfl)) ?_; (with_reducible refine (cmp_isNaN_int64.calls a0 true _ A3.out).mono ?_); rintro e w' ⟨rfl, ⟨nd, rfl⟩⟩; refine ⟨_, rfl, ?_⟩) | ((with_reducible refine gate_callee (f := 102) rfl ?_); refine goesL_ (some 10) rfl rfl Tryz.func102 (by kernel_rfl) rfl #[.int .i64 a1] rfl (by (try simp only [List.map_toArray, List.map_cons, List.map_nil]); first | done | rfl | (simp only [List.length_drop, List.length_take]; rfl)) ?_; (with_reducible refine (cmp_isNaN_int64.calls a1 false _ A4.out).mono ?_); rintro e w' ⟨rfl, ⟨nd, rfl⟩⟩; refine ⟨_, rfl, ?_⟩))
   go_ret
   exact ⟨by first | rfl | (simp; done) | (simp [*]; done), by repeat (first | exact Drawn0.refl _ | apply Drawn0.step)⟩
 ·replace c5 := Bool.eq_false_iff.mpr c5
  subst c5
  have H1 : (if t258 = true then (some 1) else (if a0 < a1 then (some (-1)) else (if a0 > a1 then (some 1) else (some 0)))) = some r := by rw [if_neg (show ¬ (false = true) by decide)] at H; exact H
  clear H
  have H := H1
  clear H1
  by_cases c7 : t258 = true
  ·subst c7
   have H1 : (some 1) = some r := by rw [if_pos rfl] at H; exact H
   clear H
   have H := H1
   clear H1
   obtain rfl := Option.some.inj H
   go_enter Tryz.func54, Tryz.ntmps54
   go_wp2_with (first | ((with_reducible refine gate_callee (f := 102) rfl ?_); refine goesL_ (some 8) rfl rfl Tryz.func102 (by kernel_rfl) rfl #[.int .i64 a0] rfl (by (try simp only [List.map_toArray, List.map_cons, List.map_nil]); first | done | rfl | (simp only [List.length_drop, List.length_take]; rfl)) ?_; (with_reducible refine (cmp_isNaN_int64.calls a0 false _ A3.out).mono ?_); rintro e w' ⟨rfl, ⟨nd, rfl⟩⟩; refine ⟨_, rfl, ?_⟩) | ((with_reducible refine gate_callee (f := 102) rfl ?_); refine goesL_ (some 10) rfl rfl Tryz.func102 (by kernel_rfl) rfl #[.int .i64 a1] rfl (by (try simp only [List.map_toArray, List.map_cons, List.map_nil]); first | done | rfl | (simp only [List.length_drop, List.length_take]; rfl)) ?_; (with_reducible refine (cmp_isNaN_int64.calls a1 true _ A4.out).mono ?_); rintro e w' ⟨rfl, ⟨nd, rfl⟩⟩; refine ⟨_, rfl, ?_⟩))
   go_ret
   exact ⟨by first | rfl | (simp; done) | (simp [*]; done), by repeat (first | exact Drawn0.refl _ | apply Drawn0.step)⟩
  ·replace c7 := Bool.eq_false_iff.mpr c7
   subst c7
   have H1 : (if a0 < a1 then (some (-1)) else (if a0 > a1 then (some 1) else (some 0))) = some r := by rw [if_neg (show ¬ (false = true) by decide)] at H; exact H
   clear H
   have H := H1
   clear H1
   by_cases c8 : a0 < a1
   ·rw [if_pos c8] at H
    have c8b0 : decide (a0 < a1) = true := decide_eq_true c8
    clear c8
    obtain rfl := Option.some.inj H
    go_enter Tryz.func54, Tryz.ntmps54
    go_wp2_with (first | ((with_reducible refine gate_callee (f := 102) rfl ?_); refine goesL_ (some 8) rfl rfl Tryz.func102 (by kernel_rfl) rfl #[.int .i64 a0] rfl (by (try simp only [List.map_toArray, List.map_cons, List.map_nil]); first | done | rfl | (simp only [List.length_drop, List.length_take]; rfl)) ?_; (with_reducible refine (cmp_isNaN_int64.calls a0 false _ A3.out).mono ?_); rintro e w' ⟨rfl, ⟨nd, rfl⟩⟩; refine ⟨_, rfl, ?_⟩) | ((with_reducible refine gate_callee (f := 102) rfl ?_); refine goesL_ (some 10) rfl rfl Tryz.func102 (by kernel_rfl) rfl #[.int .i64 a1] rfl (by (try simp only [List.map_toArray, List.map_cons, List.map_nil]); first | done | rfl | (simp only [List.length_drop, List.length_take]; rfl)) ?_; (with_reducible refine (cmp_isNaN_int64.calls a1 false _ A4.out).mono ?_); rintro e w' ⟨rfl, ⟨nd, rfl⟩⟩; refine ⟨_, rfl, ?_⟩))
    go_ret
    exact ⟨by first | rfl | (simp; done) | (simp [*]; done), by repeat (first | exact Drawn0.refl _ | apply Drawn0.step)⟩
   ·rw [if_neg c8] at H
    have c8b0 : decide (a0 < a1) = false := decide_eq_false c8
    clear c8
    by_cases c9 : a0 > a1
    ·rw [if_pos c9] at H
     have c9b0 : decide (a1 < a0) = true := decide_eq_true c9
     clear c9
     obtain rfl := Option.some.inj H
     go_enter Tryz.func54, Tryz.ntmps54
     go_wp2_with (first | ((with_reducible refine gate_callee (f := 102) rfl ?_); refine goesL_ (some 8) rfl rfl Tryz.func102 (by kernel_rfl) rfl #[.int .i64 a0] rfl (by (try simp only [List.map_toArray, List.map_cons, List.map_nil]); first | done | rfl | (simp only [List.length_drop, List.length_take]; rfl)) ?_; (with_reducible refine (cmp_isNaN_int64.calls a0 false _ A3.out).mono ?_); rintro e w' ⟨rfl, ⟨nd, rfl⟩⟩; refine ⟨_, rfl, ?_⟩) | ((with_reducible refine gate_callee (f := 102) rfl ?_); refine goesL_ (some 10) rfl rfl Tryz.func102 (by kernel_rfl) rfl #[.int .i64 a1] rfl (by (try simp only [List.map_toArray, List.map_cons, List.map_nil]); first | done | rfl | (simp only [List.length_drop, List.length_take]; rfl)) ?_; (with_reducible refine (cmp_isNaN_int64.calls a1 false _ A4.out).mono ?_); rintro e w' ⟨rfl, ⟨nd, rfl⟩⟩; refine ⟨_, rfl, ?_⟩))
     go_ret
     exact ⟨by first | rfl | (simp; done) | (simp [*]; done), by repeat (first | exact Drawn0.refl _ | apply Drawn0.step)⟩
    ·rw [if_neg c9] at H
     have c9b0 : decide (a1 < a0) = false := decide_eq_false c9
     clear c9
     obtain rfl := Option.some.inj H
     go_enter Tryz.func54, Tryz.ntmps54
     go_wp2_with (first | ((with_reducible refine gate_callee (f := 102) rfl ?_); refine goesL_ (some 8) rfl rfl Tryz.func102 (by kernel_rfl) rfl #[.int .i64 a0] rfl (by (try simp only [List.map_toArray, List.map_cons, List.map_nil]); first | done | rfl | (simp only [List.length_drop, List.length_take]; rfl)) ?_; (with_reducible refine (cmp_isNaN_int64.calls a0 false _ A3.out).mono ?_); rintro e w' ⟨rfl, ⟨nd, rfl⟩⟩; refine ⟨_, rfl, ?_⟩) | ((with_reducible refine gate_callee (f := 102) rfl ?_); refine goesL_ (some 10) rfl rfl Tryz.func102 (by kernel_rfl) rfl #[.int .i64 a1] rfl (by (try simp only [List.map_toArray, List.map_cons, List.map_nil]); first | done | rfl | (simp only [List.length_drop, List.length_take]; rfl)) ?_; (with_reducible refine (cmp_isNaN_int64.calls a1 false _ A4.out).mono ?_); rintro e w' ⟨rfl, ⟨nd, rfl⟩⟩; refine ⟨_, rfl, ?_⟩))
     go_ret
     exact ⟨by first | rfl | (simp; done) | (simp [*]; done), by repeat (first | exact Drawn0.refl _ | apply Drawn0.step)⟩
end Go.Proofs.YtapagoaoglmegaaGreat.PCl
namespace Go.Proofs.YtapagoaoglmegaaGreat
open Go.RowKit Go.Proofs.YtapagoaoglmegaaGreatW.PrintWords Go.Proofs.YtapagoaoglmegaaGreatW.PrintLast Go.Proofs.YtapagoaoglmegaaGreatW.PrintMore PCl
set_option linter.unusedVariables false
set_option linter.unusedSimpArgs false
set_option maxRecDepth 100000
section
variable {P : Program} {ops : Array Oper} {Q : Exit → Act → World → Prop}
theorem goesv_ {oi : Oper} {N : Option Tmp} {a : Act} {w : World} {K : Act → World → Prop} {f : FuncId} {fn : Func} {xs : Array Operand} {ts : Array TypeId} (x : Operand) (hf : P.funcs[f]? = some fn) (hname : (fn.name == "runtime.NumGoroutine") = false) (hb : fn.body.isSome = true) (args : Array Value)
  (hw : Region.wanted oi (yielded ops a.tmps) = true) (hN : oi.dst = N) (hop : oi.op = .call { callee := .value x, args := xs, argTypes := ts }) (hx : a.eval x = .func (.func f) #[] #[]) (hargs : xs.map a.eval = args)
  (h : Calls P f args w fun e w' => ∃ v, e = .returned v ∧ K (a.put N v) w') : if Region.wanted oi (yielded ops a.tmps) = true then Oper.wp P oi a w K Q else K (a.put N undef) w := by
 refine call_ f args hw hN ?_ h
 have he := enters_ hf hname hb args w
 unfold execOp
 simp [hop, resolve, Deferred.ofValue, invoke, hargs, he, hx]
end
def cmpZ (a b : Int) : Int := if a < b then -1 else if a > b then 1 else 0
theorem cmpZ_lt (a b : Int) : cmpZ a b < 0 ↔ a < b := by
 unfold cmpZ
 by_cases h : a < b
 ·simp [h]
 ·by_cases h2 : a > b <;> simp [h, h2]
theorem cmpZ_f (a b : Int) : cmp_Compare_int64.f a b = some (cmpZ a b) := by
 unfold cmp_Compare_int64.f cmp_isNaN_int64.f cmpZ
 simp
 split
 ·rfl
 ·split <;> rfl
theorem cmp_at (a b : Int) (W : World) : Calls Tryz.prog 54 #[.int .i64 a, .int .i64 b] W fun e w' => e = .returned (.int .i64 (cmpZ a b)) ∧ Fr (fun _ => False) W w' :=
 (cmp_Compare_int64.calls a b _ W (cmpZ_f a b)).mono fun _ _ q => ⟨q.1, Fr.of_below q.2.below (Nat.le_refl _) _⟩
theorem jit_at (w : World) (c d : S27) :
  Calls Tryz.prog 53 #[.agg #[.int .i64 c.f0, .int .i64 c.f1.f0, .int .i64 c.f1.f1, .int .i64 c.f1.f2, .int .i64 c.f2], .agg #[.int .i64 d.f0, .int .i64 d.f1.f0, .int .i64 d.f1.f1, .int .i64 d.f1.f2, .int .i64 d.f2]] w
   fun e w' => e = .returned (.int .i64 (cmpZ c.f2 d.f2)) ∧ Fr (fun _ => False) w w' := by
 have HM := hid (cmp_at c.f2 d.f2)
 go_enter Tryz.func53, Tryz.ntmps53
 go_wp2_with fail
 refine (HM.out _).mono ?_
 rintro e w3 ⟨rfl, k3⟩
 have k4 : Fr (fun _ => False) w w3 := Fr.trans (by (repeat' (first | (with_reducible exact Fr.refl _ _) | (with_reducible assumption) | (with_reducible refine Fr.alloc ?_ _) | (with_reducible refine Fr.drew ?_) | (with_reducible refine Fr.drewN ?_ _) | (with_reducible refine Fr.setCell ?_ _ _ ?_) | (exact Or.inr rfl) | (left; simp; done) | (left; simp; omega) | (simp; done) | (simp; omega) | omega))) k3 (fun _ _ h => h)
 clear k3 HM
 go_wp2
 go_ret
 exact ⟨rfl, by (repeat' (first | (with_reducible exact Fr.refl _ _) | (with_reducible assumption) | (with_reducible refine Fr.alloc ?_ _) | (with_reducible refine Fr.drew ?_) | (with_reducible refine Fr.drewN ?_ _) | (with_reducible refine Fr.setCell ?_ _ _ ?_) | (exact Or.inr rfl) | (left; simp; done) | (left; simp; omega) | (simp; done) | (simp; omega) | omega))⟩
def MinS (W : World) (g i mB : Nat) (c d : S27) (w' : World) : Prop :=
 w'.cell? ⟨g, i * 5, none⟩ = some (.int .i64 c.f0) ∧ w'.cell? ⟨g, i * 5 + 1, none⟩ = some (.int .i64 c.f1.f0) ∧ w'.cell? ⟨g, i * 5 + 2, none⟩ = some (.int .i64 c.f1.f1) ∧ w'.cell? ⟨g, i * 5 + 3, none⟩ = some (.int .i64 c.f1.f2) ∧ w'.cell? ⟨g, i * 5 + 4, none⟩ = some (.int .i64 c.f2) ∧
 w'.cell? ⟨mB, 0, none⟩ = some (.int .i64 d.f0) ∧ w'.cell? ⟨mB, 1, none⟩ = some (.int .i64 d.f1.f0) ∧ w'.cell? ⟨mB, 2, none⟩ = some (.int .i64 d.f1.f1) ∧ w'.cell? ⟨mB, 3, none⟩ = some (.int .i64 d.f1.f2) ∧ w'.cell? ⟨mB, 4, none⟩ = some (.int .i64 d.f2) ∧ Fr (fun _ => False) W w'
theorem MinS.fr {W : World} {g i mB : Nat} {c d : S27} {w w' : World} (f : Fr (fun _ => False) w w') (h : MinS W g i mB c d w) : MinS W g i mB c d w' := by
 obtain ⟨a0, a1, a2, a3, a4, a5, a6, a7, a8, a9, hf⟩ := h
 have key : ∀ {g i : Nat} {v : Value}, w.cell? ⟨g, i, none⟩ = some v → w'.cell? ⟨g, i, none⟩ = some v := fun h => (f.cell (World.block_lt_of_cell? w _ h) (fun h => h)).trans h
 exact ⟨key a0, key a1, key a2, key a3, key a4, key a5, key a6, key a7, key a8, key a9, hf.trans f (fun _ _ h => h)⟩
set_option maxHeartbeats 8000000 in
theorem min_at {w : World} {g cap : Nat} {M : List S27} (hR : Row w g cap M) (hcm : cap ≤ maxLen) (hn : 0 < M.length) :
  Calls Tryz.prog 52 #[.slice (some ⟨g, 0, none⟩) M.length cap, .func (.func 53) #[] #[]] w
   fun e w' => (∃ m ∈ M, (∀ d ∈ M, m.f2 ≤ d.f2) ∧ e = .returned (.agg #[.int .i64 m.f0, .int .i64 m.f1.f0, .int .i64 m.f1.f1, .int .i64 m.f1.f2, .int .i64 m.f2])) ∧ Fr (fun _ => False) w w' := by
 have hl : M.length ≤ 9223372036854775807 := by have := hR.len; unfold maxLen at hcm; omega
 have hgb := hR.lt
 obtain ⟨c0, hc0⟩ : ∃ c, M[0]? = some c := ⟨M[0], List.getElem?_eq_getElem hn⟩
 obtain ⟨a1, a2, a3, a4, a5⟩ := hR.at5 hc0
 simp only [Nat.zero_mul, Nat.zero_add] at a1 a2 a3 a4 a5
 have H0 : Hid (c0 ∈ M.take 1 ∧ ∀ d ∈ M.take 1, c0.f2 ≤ d.f2) := by
  have e : M.take 1 = [c0] := by rw [take_snoc hc0]; rfl
  rw [e]
  exact hid ⟨by simp, fun d hd => by simp at hd; subst hd; exact Int.le_refl _⟩
 have HR := hid hR
 have b1 : decide ((M.length : Int) < 1) = false := decide_eq_false (by omega)
 clear hR hc0
 go_enter Tryz.func52, Tryz.ntmps52
 go_wp2_with fail
 generalize hW : World.alloc (World.alloc w _) _ = W
 have f0 : Fr (fun _ => False) w W := by subst hW; (repeat' (first | (with_reducible exact Fr.refl _ _) | (with_reducible assumption) | (with_reducible refine Fr.alloc ?_ _) | (with_reducible refine Fr.drew ?_) | (with_reducible refine Fr.drewN ?_ _) | (with_reducible refine Fr.setCell ?_ _ _ ?_) | (exact Or.inr rfl) | (left; simp; done) | (left; simp; omega) | (simp; done) | (simp; omega) | omega))
 have br : Blk W w.heap.size #[.int .i64 0, .int .i64 0, .int .i64 0, .int .i64 0, .int .i64 0] 27 := by subst hW; (repeat' (first | (with_reducible assumption) | (with_reducible apply Blk.drew) | (with_reducible apply Blk.drewN) | (with_reducible apply Blk.set) | (with_reducible apply Blk.other) | (exact Blk.new' _ _ _ (by first | rfl | (simp; done) | (simp; omega))) | (with_reducible apply Blk.alloc) | (with_reducible rfl) | (simp; done) | (simp; omega) | omega | rfl))
 have bm : Blk W (w.heap.size + 1) #[.int .i64 c0.f0, .int .i64 c0.f1.f0, .int .i64 c0.f1.f1, .int .i64 c0.f1.f2, .int .i64 c0.f2] 27 := by subst hW; (repeat' (first | (with_reducible assumption) | (with_reducible apply Blk.drew) | (with_reducible apply Blk.drewN) | (with_reducible apply Blk.set) | (with_reducible apply Blk.other) | (exact Blk.new' _ _ _ (by first | rfl | (simp; done) | (simp; omega))) | (with_reducible apply Blk.alloc) | (with_reducible rfl) | (simp; done) | (simp; omega) | omega | rfl))
 clear hW a1 a2 a3 a4 a5
 have HRW := hid (HR.out.fr f0 (fun h => h))
 obtain ⟨rB, hrB⟩ : ∃ b, b = w.heap.size := ⟨_, rfl⟩
 obtain ⟨mB, hmB⟩ : ∃ b, b = w.heap.size + 1 := ⟨_, rfl⟩
 rw [← hmB, ← hrB]
 rw [← hrB] at br
 rw [← hmB] at bm
 have n1 : rB ≠ mB := by omega
 have n2 : g ≠ mB := by omega
 have n3 : ¬ mB < w.heap.size ∧ ¬ rB < w.heap.size := by omega
 clear hrB hmB
 go_loopw [6] (fun vi wr => ∃ (i : Nat) (c : S27), i ≤ M.length ∧ vi = .int .i64 i ∧ Hid (c ∈ M.take i ∧ ∀ d ∈ M.take i, c.f2 ≤ d.f2) ∧ Blk wr mB #[.int .i64 c.f0, .int .i64 c.f1.f0, .int .i64 c.f1.f1, .int .i64 c.f1.f2, .int .i64 c.f2] 27 ∧ Fr (fun j => j = mB) W wr) (fun vi _ => M.length - (intOf vi).toNat)
 case atStart => exact ⟨1, c0, by omega, rfl, H0, bm, Fr.refl _ _⟩
 case round =>
  clear bm H0
  obtain ⟨i, c, hi, rfl, hc, bm, hf⟩ := hrel
  have br1 := br.fr hf n1
  have HR1 := hid (HRW.out.fr hf n2)
  by_cases hlt : i < M.length
  ·obtain ⟨d, hd⟩ : ∃ d, M[i]? = some d := ⟨M[i], List.getElem?_eq_getElem hlt⟩
   have ms0 : MinS wr g i mB d c wr := by
    obtain ⟨a1, a2, a3, a4, a5⟩ := HR1.out.at5 hd
    exact ⟨a1, a2, a3, a4, a5, (bm.cell 0).trans rfl, (bm.cell 1).trans rfl, (bm.cell 2).trans rfl, (bm.cell 3).trans rfl, (bm.cell 4).trans rfl, Fr.refl _ _⟩
   have ms := MinS.fr ((Fr.refl _ _).drew) ms0
   have ltb : decide ((i : Int) < (M.length : Int)) = true := decide_eq_true (by omega)
   have HD := hid hd
   have HJ := hid (@jit_at)
   clear hd ms0
   go_wp2_with fail
   refine start_ (n := 8) (S := fun w' => w'.cell? ⟨g, i * 5, none⟩ = some (.int .i64 d.f0) ∧ w'.cell? ⟨g, i * 5 + 1, none⟩ = some (.int .i64 d.f1.f0) ∧ w'.cell? ⟨g, i * 5 + 2, none⟩ = some (.int .i64 d.f1.f1) ∧ w'.cell? ⟨g, i * 5 + 3, none⟩ = some (.int .i64 d.f1.f2) ∧ w'.cell? ⟨g, i * 5 + 4, none⟩ = some (.int .i64 d.f2) ∧ w'.cell? ⟨mB, 0, none⟩ = some (.int .i64 c.f0) ∧ w'.cell? ⟨mB, 1, none⟩ = some (.int .i64 c.f1.f0) ∧ w'.cell? ⟨mB, 2, none⟩ = some (.int .i64 c.f1.f1) ∧ w'.cell? ⟨mB, 3, none⟩ = some (.int .i64 c.f1.f2) ∧ w'.cell? ⟨mB, 4, none⟩ = some (.int .i64 c.f2) ∧ Fr (fun _ => False) wr w') (ds := []) #[oN,oN,oN,oN,oN,oN,oN,oN] (by kernel_rfl) rfl rfl ⟨ms.1, ms.2.1, ms.2.2.1, ms.2.2.2.1, ms.2.2.2.2.1, ms.2.2.2.2.2.1, ms.2.2.2.2.2.2.1, ms.2.2.2.2.2.2.2.1, ms.2.2.2.2.2.2.2.2.1, ms.2.2.2.2.2.2.2.2.2.1, ms.2.2.2.2.2.2.2.2.2.2⟩ (fun hHeld => ?_)
   refine pure_ (i := 0) (N := some 20) (v := ?_) (a' := ?_) #[oY,oN,oN,oN,oN,oN,oN,oN] rfl rfl (by kernel_rfl) (fun _ _ _ h => h) (Or.inl ⟨by rfl, ?_⟩) ?_ ?_
   rotate_left
   ·intro w'
    go_simp
    with_reducible rfl
   rotate_left
   ·simp only [Act.put, List.setIfInBounds_toArray, List.set_cons_zero, List.set_cons_succ, i64_w, i32_w]
    rfl
   refine pure_ (i := 1) (N := some 21) (v := ?_) (a' := ?_) #[oY,oY,oN,oN,oN,oN,oN,oN] rfl rfl (by kernel_rfl) (fun _ _ _ h => h) (Or.inl ⟨by rfl, ?_⟩) ?_ ?_
   rotate_left
   ·intro w'
    go_simp
    with_reducible rfl
   rotate_left
   ·simp only [Act.put, List.setIfInBounds_toArray, List.set_cons_zero, List.set_cons_succ, i64_w, i32_w]
    rfl
   refine pure_ (i := 2) (N := some 22) (v := ?_) (a' := ?_) #[oY,oY,oY,oN,oN,oN,oN,oN] rfl rfl (by kernel_rfl) (fun _ _ _ h => h) (Or.inl ⟨by rfl, ?_⟩) ?_ ?_
   rotate_left
   ·intro w'
    go_simp
    with_reducible rfl
   rotate_left
   ·simp only [Act.put, List.setIfInBounds_toArray, List.set_cons_zero, List.set_cons_succ, i64_w, i32_w]
    rfl
   refine pure_ (i := 3) (N := some 23) (v := ?_) (a' := ?_) #[oY,oY,oY,oY,oN,oN,oN,oN] rfl rfl (by kernel_rfl) (fun _ _ _ h => h) (Or.inl ⟨by rfl, ?_⟩) ?_ ?_
   rotate_left
   ·intro w'
    go_simp
    with_reducible rfl
   rotate_left
   ·simp only [Act.put, List.setIfInBounds_toArray, List.set_cons_zero, List.set_cons_succ, i64_w, i32_w]
    rfl
   refine take_ (i := 4) (N := some 24) (v := ?_) (a' := ?_) #[oY,oY,oY,oY,oY,oN,oN,oN] rfl rfl (by kernel_rfl) (fun _ _ _ h => h) (Or.inl ⟨by rfl, ?_⟩) hHeld ?_ ?_
   rotate_left
   ·rintro w' ⟨s0, s1, s2, s3, s4, s5, s6, s7, s8, s9, s10⟩
    go_simp
    with_reducible rfl
   rotate_left
   ·simp only [Act.put, List.setIfInBounds_toArray, List.set_cons_zero, List.set_cons_succ, i64_w, i32_w]
    rfl
   refine take_ (i := 5) (N := some 25) (v := ?_) (a' := ?_) #[oY,oY,oY,oY,oY,oY,oN,oN] rfl rfl (by kernel_rfl) (fun _ _ _ h => h) (Or.inl ⟨by rfl, ?_⟩) hHeld ?_ ?_
   rotate_left
   ·rintro w' ⟨s0, s1, s2, s3, s4, s5, s6, s7, s8, s9, s10⟩
    go_simp
    with_reducible rfl
   rotate_left
   ·simp only [Act.put, List.setIfInBounds_toArray, List.set_cons_zero, List.set_cons_succ, i64_w, i32_w]
    rfl
   refine one_ (i := 6) (N := some 26) #[oY,oY,oY,oY,oY,oY,oY,oN] rfl rfl (by kernel_rfl) (by decide) (fun K hK => ?_)
   refine goesv_ (.tmp 20) Tryz.func53 (by kernel_rfl) rfl #[.agg #[.int .i64 d.f0, .int .i64 d.f1.f0, .int .i64 d.f1.f1, .int .i64 d.f1.f2, .int .i64 d.f2], .agg #[.int .i64 c.f0, .int .i64 c.f1.f0, .int .i64 c.f1.f1, .int .i64 c.f1.f2, .int .i64 c.f2]] (by rfl) rfl rfl rfl (by simp only [List.map_toArray, List.map_cons, List.map_nil]; rfl) ?_
   refine (HJ.out _ d c).mono ?_
   rintro e w3 ⟨rfl, k3⟩
   refine ⟨_, rfl, ?_⟩
   have ms3 := MinS.fr k3 hHeld
   refine hK.out _ _ ⟨ms3.1, ms3.2.1, ms3.2.2.1, ms3.2.2.2.1, ms3.2.2.2.2.1, ms3.2.2.2.2.2.1, ms3.2.2.2.2.2.2.1, ms3.2.2.2.2.2.2.2.1, ms3.2.2.2.2.2.2.2.2.1, ms3.2.2.2.2.2.2.2.2.2.1, ms3.2.2.2.2.2.2.2.2.2.2⟩ (fun hHeld => ?_)
   clear hK K
   refine norm_ (a' := ?_) ?_ ?_
   rotate_left
   ·show Act.put _ (some 26) _ = _
    simp only [Act.put, List.setIfInBounds_toArray, List.set_cons_zero, List.set_cons_succ, i64_w, i32_w]
    rfl
   refine pure_ (i := 7) (N := some 27) (v := ?_) (a' := ?_) #[oY,oY,oY,oY,oY,oY,oY,oY] rfl rfl (by kernel_rfl) (fun _ _ _ h => h) (Or.inl ⟨by rfl, ?_⟩) ?_ ?_
   rotate_left
   ·intro w'
    go_simp
    with_reducible rfl
   rotate_left
   ·simp only [Act.put, List.setIfInBounds_toArray, List.set_cons_zero, List.set_cons_succ, i64_w, i32_w]
    rfl
   refine done_ (by kernel_rfl) ?_
   have fE : Fr (fun _ => False) wr w3 := hHeld.2.2.2.2.2.2.2.2.2.2
   have bm3 := bm.fr fE (fun h => h)
   have HR3 := hid (HR1.out.fr fE (fun h => h))
   have f4 : Fr (fun j => j = mB) W w3 := hf.trans fE (fun _ _ h => h.elim)
   obtain ⟨x1, x2, x3, x4, x5, x6, x7, x8, x9, x10, _⟩ := hHeld
   by_cases hq : d.f2 < c.f2
   ·have bq : decide (cmpZ d.f2 c.f2 < 0) = true := decide_eq_true ((cmpZ_lt _ _).2 hq)
    have bq2 : cmpZ d.f2 c.f2 < 0 := (cmpZ_lt _ _).2 hq
    have HQ := hid hq
    have z1 := bm3.free 0
    have z2 := bm3.free 1
    have z3 := bm3.free 2
    have z4 := bm3.free 3
    have z5 := bm3.free 4
    clear hq ms ms3 k3 HJ
    go_wp2_with fail
    go_roundw
    case rel => exact ⟨i + 1, d, by omega, by go_num, hid ⟨by rw [take_snoc HD.out]; simp, fun x hx => by
     rw [take_snoc HD.out] at hx
     rcases List.mem_append.1 hx with h | h
     ·have := hc.out.2 x h; have := HQ.out; omega
     ·simp at h; subst h; exact Int.le_refl _⟩, by (repeat' (first | (with_reducible assumption) | (with_reducible apply Blk.drew) | (with_reducible apply Blk.drewN) | (with_reducible apply Blk.set) | (with_reducible apply Blk.other) | (exact Blk.new' _ _ _ (by first | rfl | (simp; done) | (simp; omega))) | (with_reducible apply Blk.alloc) | (with_reducible rfl) | (simp; done) | (simp; omega) | omega | rfl)), by (repeat' (first | (with_reducible exact Fr.refl _ _) | (with_reducible assumption) | (with_reducible refine Fr.alloc ?_ _) | (with_reducible refine Fr.drew ?_) | (with_reducible refine Fr.drewN ?_ _) | (with_reducible refine Fr.setCell ?_ _ _ ?_) | (exact Or.inr rfl) | (left; simp; done) | (left; simp; omega) | (simp; done) | (simp; omega) | omega))⟩
    case measure => simp [intOf]; omega
   ·have bq : decide (cmpZ d.f2 c.f2 < 0) = false := decide_eq_false (fun h => hq ((cmpZ_lt _ _).1 h))
    have bq2 : ¬ cmpZ d.f2 c.f2 < 0 := fun h => hq ((cmpZ_lt _ _).1 h)
    have HQ := hid hq
    clear hq ms ms3 k3 HJ
    go_wp2_with fail
    go_roundw
    case rel => exact ⟨i + 1, c, by omega, by go_num, hid ⟨by rw [take_snoc HD.out]; simp [hc.out.1], fun x hx => by
     rw [take_snoc HD.out] at hx
     rcases List.mem_append.1 hx with h | h
     ·exact hc.out.2 x h
     ·simp at h; subst h; have := HQ.out; omega⟩, bm3, f4⟩
    case measure => simp [intOf]; omega
  ·obtain rfl : M.length = i := by omega
   have ltb : decide ((M.length : Int) < (M.length : Int)) = false := decide_eq_false (by omega)
   have hc2 := hc.out
   rw [List.take_length] at hc2
   have HC2 := hid hc2
   clear hc2
   have v1 := bm.cell 0
   have v2 := bm.cell 1
   have v3 := bm.cell 2
   have v4 := bm.cell 3
   have v5 := bm.cell 4
   have z1 := br1.free 0
   have z2 := br1.free 1
   have z3 := br1.free 2
   have z4 := br1.free 3
   have z5 := br1.free 4
   have u1 := br1.cell 0
   have u2 := br1.cell 1
   have u3 := br1.cell 2
   have u4 := br1.cell 3
   have u5 := br1.cell 4
   simp at v1 v2 v3 v4 v5 u1 u2 u3 u4 u5
   have hrl := br1.lt
   have ff : Fr (fun _ => False) w wr := f0.trans hf (fun j hj hj2 => by omega)
   have bE : ∀ W', W' = (((((wr.setCell ⟨rB, 0, none⟩ (.int .i64 c.f0)).setCell ⟨rB, 1, none⟩ (.int .i64 c.f1.f0)).setCell ⟨rB, 2, none⟩ (.int .i64 c.f1.f1)).setCell ⟨rB, 3, none⟩ (.int .i64 c.f1.f2)).setCell ⟨rB, 4, none⟩ (.int .i64 c.f2)) → Blk W' rB #[.int .i64 c.f0, .int .i64 c.f1.f0, .int .i64 c.f1.f1, .int .i64 c.f1.f2, .int .i64 c.f2] 27 := by rintro _ rfl; (repeat' (first | (with_reducible assumption) | (with_reducible apply Blk.drew) | (with_reducible apply Blk.drewN) | (with_reducible apply Blk.set) | (with_reducible apply Blk.other) | (exact Blk.new' _ _ _ (by first | rfl | (simp; done) | (simp; omega))) | (with_reducible apply Blk.alloc) | (with_reducible rfl) | (simp; done) | (simp; omega) | omega | rfl))
   go_wp2_with fail
   have bX := bE _ rfl
   (try simp only [Exit.inBlock, Exit.then])
   refine bodyPost_ret (results_cell_row rfl _ _ rB 27 #[.int .i64 c.f0, .int .i64 c.f1.f0, .int .i64 c.f1.f1, .int .i64 c.f1.f2, .int .i64 c.f2] (0, 0) _ rfl bX Tryz.underlying27 rfl (by kernel_rfl)) rfl ?_
   exact ⟨⟨c, HC2.out.1, HC2.out.2, rfl⟩, by (repeat' (first | (with_reducible exact Fr.refl _ _) | (with_reducible assumption) | (with_reducible refine Fr.alloc ?_ _) | (with_reducible refine Fr.drew ?_) | (with_reducible refine Fr.drewN ?_ _) | (with_reducible refine Fr.setCell ?_ _ _ ?_) | (exact Or.inr rfl) | (left; simp; done) | (left; simp; omega) | (simp; done) | (simp; omega) | omega))⟩
def flatC (L : List S27) : List Value := L.flatMap encC
theorem flatC_len : ∀ L : List S27, (flatC L).length = L.length * 5
  | [] => rfl
  | c :: L => by
    have := flatC_len L
    unfold flatC at *
    rw [List.flatMap_cons, List.length_append, this, enc_len, List.length_cons]; omega
theorem flatC_get : ∀ (L : List S27) (i : Nat) (c : S27), L[i]? = some c → ∀ j v, (encC c)[j]? = some v → (flatC L)[i * 5 + j]? = some v
  | [], i, c, h, j, v, hj => by simp at h
  | d :: L, 0, c, h, j, v, hj => by
    simp at h; subst h
    have hj5 := (List.getElem?_eq_some_iff.1 hj).1
    unfold flatC
    rw [List.flatMap_cons, Nat.zero_mul, Nat.zero_add, List.getElem?_append_left hj5]; exact hj
  | d :: L, i + 1, c, h, j, v, hj => by
    have ih := flatC_get L i c (by simpa using h) j v hj
    unfold flatC at *
    rw [List.flatMap_cons, List.getElem?_append_right (by rw [enc_len]; omega), enc_len, show (i + 1) * 5 + j - 5 = i * 5 + j by omega]
    exact ih
theorem flatC_inv (L : List S27) (t : Nat) (u : Value) (h : (flatC L)[t]? = some u) : ∃ i c j, t = i * 5 + j ∧ L[i]? = some c ∧ (encC c)[j]? = some u := by
  have ht := (List.getElem?_eq_some_iff.1 h).1
  rw [flatC_len] at ht
  have hi : t / 5 < L.length := by omega
  obtain ⟨c, hc⟩ : ∃ c, L[t / 5]? = some c := ⟨L[t / 5], List.getElem?_eq_getElem hi⟩
  obtain ⟨v, hv⟩ : ∃ v, (encC c)[t % 5]? = some v := ⟨(encC c)[t % 5]'(by rw [enc_len]; omega), List.getElem?_eq_getElem _⟩
  have e : t = t / 5 * 5 + t % 5 := by omega
  refine ⟨t / 5, c, t % 5, e, hc, ?_⟩
  have := flatC_get L (t / 5) c hc (t % 5) v hv
  rw [← e, h] at this
  rw [hv, this]
theorem flatC_one (L : List S27) : ∀ u ∈ flatC L, u.oneCell' = true := by
  intro u hu
  unfold flatC at hu
  obtain ⟨c, _, hc⟩ := List.mem_flatMap.1 hu
  simp [encC] at hc
  rcases hc with rfl | rfl | rfl | rfl | rfl <;> rfl
theorem Blk.setCells2 (b : Nat) {t : TypeId} : ∀ (vs : List Value) (o : Nat) (w : World) (cs : Array Value), Blk w b cs t → ∃ cs', Blk (w.setCells b o vs) b cs' t ∧ cs'.size = cs.size ∧ (∀ j, j < o → cs'[j]? = cs[j]?) ∧ ∀ j v, vs[j]? = some v → o + j < cs.size → cs'[o + j]? = some v
  | [], o, w, cs, h => ⟨cs, h, rfl, fun _ _ => rfl, fun j v hj => by simp at hj⟩
  | v :: vs, o, w, cs, h => by
    obtain ⟨cs', h1, h2, h3, h4⟩ := Blk.setCells2 b vs (o + 1) (w.setCell ⟨b, o, none⟩ v) _ (h.set rfl)
    refine ⟨cs', h1, by simpa using h2, fun j hj => ?_, fun j u hj hs => ?_⟩
    · rw [h3 j (by omega), Array.getElem?_setIfInBounds, if_neg (by omega)]
    · cases j with
      | zero =>
        simp at hj; subst hj
        rw [Nat.add_zero, h3 o (by omega), Array.getElem?_setIfInBounds, if_pos rfl, if_pos (by omega)]
      | succ j =>
        have := h4 j u (by simpa using hj) (by simp; omega)
        rw [show o + (j + 1) = o + 1 + j by omega]; exact this
theorem Row.put {w : World} {g cap : Nat} {L : List S27} (h : Row w g cap L) (n : Nat) (hn : n ≤ L.length) (L2 : List S27) (h2 : n + L2.length ≤ cap) : Row (w.setCells g (n * 5) (flatC L2)) g cap (L.take n ++ L2) := by
  obtain ⟨cur, hb, k1, k2, k3⟩ := h
  obtain ⟨cs', q1, q2, q3, q4⟩ := Blk.setCells2 g (flatC L2) (n * 5) w cur hb
  have hlt : (L.take n).length = n := by simp; omega
  refine ⟨cs', q1, by omega, by rw [List.length_append]; omega, fun i c hi j v hj => ?_⟩
  have hj5 : j < 5 := by have := (List.getElem?_eq_some_iff.1 hj).1; simpa [encC] using this
  by_cases hin : i < n
  · rw [List.getElem?_append_left (by omega), List.getElem?_take_of_lt hin] at hi
    rw [q3 _ (by omega)]; exact k3 i c hi j v hj
  · rw [List.getElem?_append_right (by omega), hlt] at hi
    have hi2 := (List.getElem?_eq_some_iff.1 hi).1
    have := q4 ((i - n) * 5 + j) v (flatC_get L2 (i - n) c hi j v hj) (by omega)
    rw [show n * 5 + ((i - n) * 5 + j) = i * 5 + j by omega] at this
    exact this
theorem Row.cell {w : World} {g cap : Nat} {L : List S27} (h : Row w g cap L) {i : Nat} {c : S27} (hi : L[i]? = some c) {j : Nat} {v : Value} (hj : (encC c)[j]? = some v) : w.cell? ⟨g, i * 5 + j, none⟩ = some v := by
  obtain ⟨cur, hb, k1, k2, k3⟩ := h
  exact (hb.cell _).trans (k3 i c hi j v hj)
theorem erase_eq {α : Type} (M : List α) (k : Nat) : M.take k ++ M.drop (k + 1) = M.eraseIdx k := (List.eraseIdx_eq_take_drop_succ M k).symm
set_option maxHeartbeats 8000000 in
theorem delete_at {w : World} {g cap k : Nat} {M : List S27} (hR : Row w g cap M) (hcm : cap ≤ maxLen) (hk : k < M.length) :
    Calls Tryz.prog 56 #[.slice (some ⟨g, 0, none⟩) M.length cap, .int .i64 k, .int .i64 ((k : Int) + 1)] w
      fun e w' => e = .returned (.slice (some ⟨g, 0, none⟩) (M.eraseIdx k).length cap) ∧ Row w' g cap (M.eraseIdx k) ∧ Fr (fun i => i = g) w w' := by
  have hl : M.length ≤ 9223372036854775807 := by have := hR.len; unfold maxLen at hcm; omega
  have hlc := hR.len
  have hcm2 : cap ≤ 9223372036854775807 := by unfold maxLen at hcm; omega
  have hgb := hR.lt
  obtain ⟨j, hj⟩ : ∃ j, j = k + 1 := ⟨_, rfl⟩
  rw [show ((k : Int) + 1) = ((j : Nat) : Int) by omega]
  have hne : ((k : Int) == (j : Int)) = false := by rw [beq_eq_false_iff_ne]; omega
  obtain ⟨news, hnews⟩ : ∃ news, news = flatC (M.drop j) := ⟨_, rfl⟩
  have hlen : news.length = (M.length - j) * 5 := by rw [hnews, flatC_len, List.length_drop]
  obtain ⟨A, hA, hsrc⟩ : ∃ A : Addr, (if cap = j then some (⟨g, 0, none⟩ : Addr) else some ⟨g, j * 5, none⟩) = some A ∧ Hid (∀ t u, news[t]? = some u → w.drew.cell? (A.add t) = some u) := by
    by_cases h : cap = j
    · refine ⟨⟨g, 0, none⟩, by simp [h], hid fun t u hu => ?_⟩
      have h0 : news.length = 0 := by rw [hlen]; omega
      rw [List.length_eq_zero_iff.1 h0] at hu
      simp at hu
    · refine ⟨⟨g, j * 5, none⟩, by simp [h], hid fun t u hu => ?_⟩
      rw [hnews] at hu
      obtain ⟨i, c, q, rfl, hi, hq⟩ := flatC_inv _ _ _ hu
      rw [List.getElem?_drop] at hi
      rw [add_none, show j * 5 + (i * 5 + q) = (j + i) * 5 + q by omega]
      exact hR.cell hi hq
  have s1 : Hid (news.length = (M.length - j) * 5) := hid hlen
  have s2 : Hid (∀ u ∈ news, u.oneCell' = true) := by rw [hnews]; exact hid (flatC_one _)
  have s3 : Hid (∀ t, t < news.length → (w.drew.cell? ⟨g, 0 + k * 5 + t, none⟩).isSome = true ∧ w.drew.frozen? ⟨g, 0 + k * 5 + t, none⟩ = false) := hid (by
    intro t ht
    rw [hlen] at ht
    obtain ⟨v, h1, h2⟩ := hR.there (o := 0 + k * 5 + t) (by omega)
    exact ⟨by show (w.cell? _).isSome = true; rw [h1]; rfl, h2⟩)
  obtain ⟨W1, hW1⟩ : ∃ W1, W1 = w.drew.setCells g (0 + k * 5) news := ⟨_, rfl⟩
  have f1 : Fr (fun i => i = g) w W1 := by rw [hW1]; exact Fr.setCells (S := fun i => i = g) g (.inr rfl) _ _ _ (Fr.drew (Fr.refl _ _))
  have hR1 : Row W1 g cap (M.eraseIdx k) := by
    rw [hW1, ← erase_eq, hnews, Nat.zero_add, hj]
    exact Row.put hR.drew k (by omega) _ (by rw [List.length_drop]; omega)
  have hel : (M.eraseIdx k).length = k + (M.length - j) := by rw [← erase_eq, List.length_append, List.length_take, List.length_drop]; omega
  have hcl := clear27 (o := k + (M.length - j)) (n := M.length - (k + (M.length - j))) (c := cap - (k + (M.length - j))) hR1 (by omega)
  have HR1 := hid hR1
  have Hel := hid hel
  have hW : Hid (W1 = w.drew.setCells g (0 + k * 5) news) := hid hW1
  have hic : k ≤ cap := by omega
  have hjc : j ≤ cap := by omega
  have hjl : j ≤ M.length := by omega
  have hkj : k ≤ j := by omega
  obtain ⟨i0, hi0, hz1⟩ : ∃ i0, Tryz.prog.info? 27 = some i0 ∧ i0.size = 5 := by
    have h := info27
    obtain ⟨i0, h1, h2⟩ := Option.map_eq_some_iff.1 h
    simp only [Prod.mk.injEq] at h2
    exact ⟨i0, h1, h2.2.1⟩
  have mixed : Tryz.prog.follows Departure.mixedOrders = true := by kernel_rfl
  have Hj := hid hj
  have hkj2 : k < j := by omega
  clear hR hW1 hR1 hnews hlen hel hj
  go_enter Tryz.func56, Tryz.ntmps56
  go_wp2_with fail
  go_region_law_o (refine step_append_room rfl (.tmp 22) (.tmp 25) 22 rfl 27 i0 5 Tryz.underlying22 hi0 hz1 g 0 k cap (by simp [Act.eval, Act.put]) A (M.length - j) (cap - j) news (by simp [Act.eval, Act.put]) s1.out hsrc.out s2.out (by omega) s3.out ?_; rw [← hW.out])
  go_wp2
  go_ret
  rw [Hel.out]
  refine ⟨rfl, ?_, Fr.setCells (S := fun i => i = g) g (.inr rfl) _ _ _ f1⟩
  have h := HR1.out.setCells (k + (M.length - j)) (List.replicate ((M.length - (k + (M.length - j))) * 5) (Value.int IntKind.i64 0))
  rw [List.take_of_length_le (by rw [Hel.out]; exact Nat.le_refl _)] at h
  exact h
end Go.Proofs.YtapagoaoglmegaaGreat
end
