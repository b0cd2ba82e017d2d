/- Which candidates stay: the closure, slices.IndexFunc, slices.DeleteFunc. -/
import Derived.Test.YtapagoaoglmegaaClRow
import Derived.Test.YtapagoaoglmegaaPClx21
import Derived.Lib.SliceRun
import Derived.StillTailTactics
namespace Go.Proofs.Ytapagoaoglmegaa
open Go.RowKit Go.Proofs.YtapagoaoglmegaaW.PrintWords Go.Proofs.YtapagoaoglmegaaW.PrintLast Go.Proofs.YtapagoaoglmegaaW.PrintMore PCl
set_option linter.unusedVariables false
set_option linter.unusedSimpArgs false
set_option maxRecDepth 100000

theorem Blk.setCells (b : Nat) {t : TypeId} : ∀ (vs : List Value) (o : Nat) (w : World) (cs : Array Value), Blk w b cs t → ∃ cs', Blk (w.setCells b o vs) b cs' t ∧ cs'.size = cs.size ∧ ∀ j, j < o → cs'[j]? = cs[j]?
  | [], o, w, cs, h => ⟨cs, h, rfl, fun _ _ => rfl⟩
  | v :: vs, o, w, cs, h => by
    obtain ⟨cs', h1, h2, h3⟩ := Blk.setCells b vs (o + 1) (w.setCell ⟨b, o, none⟩ v) _ (h.set rfl)
    refine ⟨cs', h1, by simpa using h2, fun j hj => ?_⟩
    rw [h3 j (by omega), Array.getElem?_setIfInBounds, if_neg (by omega)]
theorem Fr.setCells (b : Nat) {S : Nat → Prop} {a : World} (hb : a.heap.size ≤ b ∨ S b) : ∀ (vs : List Value) (o : Nat) (w : World), Fr S a w → Fr S a (w.setCells b o vs)
  | [], o, w, h => h
  | v :: vs, o, w, h => Fr.setCells b hb vs (o + 1) _ (h.setCell ⟨b, o, none⟩ v hb)
theorem Row.setCells {w : World} {g cap : Nat} {L : List S27} (h : Row w g cap L) (n : Nat) (vs : List Value) : Row (w.setCells g (n * 5) vs) g cap (L.take n) := by
  obtain ⟨cur, hb, h1, h2, h3⟩ := h
  obtain ⟨cs', k1, k2, k3⟩ := Blk.setCells g vs (n * 5) w cur hb
  refine ⟨cs', k1, by omega, by simp; omega, fun i c hi j v hj => ?_⟩
  rw [List.getElem?_take] at hi
  have hj5 : j < 5 := by have := (List.getElem?_eq_some_iff.1 hj).1; simpa [encC] using this
  split at hi
  · rw [k3 _ (by omega)]; exact h3 i c hi j v hj
  · cases hi
theorem zero27 (w : World) : (zeroValue 27).run Try.prog w = .ok (.agg #[.int .i64 0, .int .i64 0, .int .i64 0, .int .i64 0, .int .i64 0]) w := by kernel_rfl
theorem clear27 {w : World} {g o n c cap : Nat} {L : List S27} (hR : Row w g cap L) (h : o + n ≤ cap) (ty : TypeId) :
    (Builtin.clear_ #[22] ty #[.slice (some ⟨g, o * 5, none⟩) n c]).run Try.prog w = .ok (.tuple #[]) (w.setCells g (o * 5) (List.replicate (n * 5) (.int .i64 0))) := by
  by_cases hn : n = 0
  · subst hn
    simp [Builtin.clear_, run_underlying Try.underlying22, World.setCells]
  have hzc : (Builtin.zeroCells (Value.agg #[.int .i64 0, .int .i64 0, .int .i64 0, .int .i64 0, .int .i64 0]).cells n).toList = List.replicate (n * 5) (.int .i64 0) := by
    have e : (Value.agg #[.int .i64 0, .int .i64 0, .int .i64 0, .int .i64 0, .int .i64 0]).cells = Array.replicate 5 (.int .i64 0) := by kernel_rfl
    rw [e]
    simp only [Builtin.zeroCells]
    apply List.ext_getElem
    · simp
    · intro i h1 h2
      simp [Nat.mod_lt]
  have hst := run_storeCells_cells (P := Try.prog) g (o * 5) (List.replicate (n * 5) (.int .i64 0)) 0 w (fun j hj => by
      obtain ⟨v, hv, _⟩ := hR.there (o := o * 5 + j) (by simp at hj; omega)
      rw [Nat.add_zero, hv]; rfl) (fun j hj => by
      obtain ⟨v, _, hv⟩ := hR.there (o := o * 5 + j) (by simp at hj; omega)
      rw [Nat.add_zero]; exact hv) (by intro v hv; rw [List.eq_of_mem_replicate hv]; rfl)
  simp only [Nat.add_zero] at hst
  obtain ⟨m, rfl⟩ : ∃ m, n = m + 1 := ⟨n - 1, by omega⟩
  simp [Builtin.clear_, run_underlying Try.underlying22, zero27, hzc, hst]

theorem meet_f (s h : S24) (k : Nat) (hk : 5 ≤ k) (hs : SpOk s) (hh : SpOk h) : ∃ x y z, span_Meet.f k s.f0 s.f1 s.f2 h.f0 h.f1 h.f2 = some (x, y, z, decide (Meets s h)) := by
  obtain ⟨k, rfl⟩ : ∃ m, k = m + 1 := ⟨k - 1, by omega⟩
  unfold span_Meet.f
  rw [spMay_f _ _ _ _ (by omega), spMay_f _ _ _ _ (by omega)]
  simp only [Option.bind_some, decide_eq_true hs, decide_eq_true hh, if_true, span_Meet.j0]
  by_cases e : s.f0 = h.f0
  · have e1 : (s.f0 != h.f0) = false := by simpa using e
    rw [e1, if_neg (by decide)]
    by_cases e2 : mx s.f1 h.f1 > mn s.f2 h.f2
    · rw [if_pos e2]
      have : ¬ Meets s h := fun m => by have := m.2.2.2; unfold mx mn at e2; omega
      exact ⟨0, 0, 0, by rw [decide_eq_false this]⟩
    · rw [if_neg e2]
      have : Meets s h := ⟨hs, hh, e, by unfold mx mn at e2; omega⟩
      exact ⟨_, _, _, by rw [decide_eq_true this]⟩
  · have e1 : (s.f0 != h.f0) = true := by simpa using e
    rw [e1, if_pos rfl]
    have : ¬ Meets s h := fun m => e m.2.2.1
    exact ⟨0, 0, 0, by rw [decide_eq_false this]⟩
theorem meet_at {s h : S24} (hs : SpOk s) (hh : SpOk h) : ∃ x y z, ∀ W : World, Calls Try.prog 29 #[.agg #[.int .i64 s.f0, .int .i64 s.f1, .int .i64 s.f2], .agg #[.int .i64 h.f0, .int .i64 h.f1, .int .i64 h.f2]] W fun e w' => e = .returned (.tuple #[.agg #[.int .i64 x, .int .i64 y, .int .i64 z], .bool (decide (Meets s h))]) ∧ Fr (fun _ => False) W w' := by
  obtain ⟨x, y, z, e⟩ := meet_f s h 5 (Nat.le_refl _) hs hh
  exact ⟨x, y, z, fun W => (span_Meet.calls 5 _ _ _ _ _ _ _ _ _ _ W e).mono fun _ _ q => ⟨q.1, Fr.of_below q.2 (Nat.le_refl _) _⟩⟩

def keepB (h : S24) (c : S27) : Bool := decide (Meets c.f1 h)
/-- The three cells of a span. -/
def At3 (w : World) (r o : Nat) (s : S24) : Prop :=
  w.cell? ⟨r, o, none⟩ = some (.int .i64 s.f0) ∧ w.cell? ⟨r, o + 1, none⟩ = some (.int .i64 s.f1) ∧ w.cell? ⟨r, o + 2, none⟩ = some (.int .i64 s.f2)
theorem At3.fr {w w' : World} {r o : Nat} {c : S24} {S : Nat → Prop} (h : At3 w r o c) (k : Fr S w w') (hs : ¬ S r) : At3 w' r o c := by
  have hb := World.block_lt_of_cell? w _ h.1
  exact ⟨(k.cell (a := ⟨r, o, none⟩) hb hs).trans h.1, (k.cell (a := ⟨r, o + 1, none⟩) hb hs).trans h.2.1, (k.cell (a := ⟨r, o + 2, none⟩) hb hs).trans h.2.2⟩
set_option maxHeartbeats 4000000 in
theorem del_at {w : World} {hB : Nat} {c : S27} {h : S24} (hc : SpOk c.f1) (hh : SpOk h) (h3 : At3 w hB 0 h) :
    Calls Try.prog 50 #[.agg #[.int .i64 c.f0, .int .i64 c.f1.f0, .int .i64 c.f1.f1, .int .i64 c.f1.f2, .int .i64 c.f2], .pointer (some ⟨hB, 0, none⟩)] w
      fun e w' => e = .returned (.bool (!keepB h c)) ∧ Fr (fun _ => False) w w' := by
  obtain ⟨x, y, z, hm⟩ := meet_at hc hh
  unfold keepB
  generalize decide (Meets c.f1 h) = b at hm ⊢
  have HM := hid hm
  clear hm
  obtain ⟨h0, h1, h2⟩ := h3
  have hl := World.block_lt_of_cell? w _ h0
  simp only [Nat.zero_add] at h0 h1 h2
  go_enter Try.func50, Try.ntmps50
  go_wp2_with fail
  refine (HM.out _).mono ?_
  rintro e w3 ⟨rfl, k3⟩
  have k4 : Fr (fun _ => False) w w3 := Fr.trans (by (repeat' (first | (with_reducible exact Fr.refl _ _) | (with_reducible assumption) | (with_reducible refine Fr.alloc ?_ _) | (with_reducible refine Fr.drew ?_) | (with_reducible refine Fr.drewN ?_ _) | (with_reducible refine Fr.setCell ?_ _ _ ?_) | (exact Or.inr rfl) | (left; simp; done) | (left; simp; omega) | (simp; done) | (simp; omega) | omega))) k3 (fun _ _ h => h)
  clear k3 HM h0 h1 h2
  go_wp2
  go_ret
  exact ⟨rfl, by (repeat' (first | (with_reducible exact Fr.refl _ _) | (with_reducible assumption) | (with_reducible refine Fr.alloc ?_ _) | (with_reducible refine Fr.drew ?_) | (with_reducible refine Fr.drewN ?_ _) | (with_reducible refine Fr.setCell ?_ _ _ ?_) | (exact Or.inr rfl) | (left; simp; done) | (left; simp; omega) | (simp; done) | (simp; omega) | omega))⟩

set_option maxHeartbeats 4000000 in
theorem idx_at {w : World} {g cap hB : Nat} {M : List S27} {h : S24} (hR : Row w g cap M) (hcm : cap ≤ maxLen) (hM : ∀ c ∈ M, SpOk c.f1) (hh : SpOk h) (h3 : At3 w hB 0 h) :
    Calls Try.prog 80 #[.slice (some ⟨g, 0, none⟩) M.length cap, .func (.func 50) #[] #[.pointer (some ⟨hB, 0, none⟩)]] w
      fun e w' => ((∃ i c, M[i]? = some c ∧ keepB h c = false ∧ (∀ j, j < i → ∀ d, M[j]? = some d → keepB h d = true) ∧ e = .returned (.int .i64 (i : Nat))) ∨ ((∀ d ∈ M, keepB h d = true) ∧ e = .returned (.int .i64 (-1)))) ∧ Fr (fun _ => False) w w' := by
  have hl : M.length ≤ 9223372036854775807 := by have := hR.len; unfold maxLen at hcm; omega
  have hhb := World.block_lt_of_cell? w _ h3.1
  have hgb := hR.lt
  have HR := hid hR
  have H3 := hid h3
  have HM := hid hM
  clear hR h3 hM
  go_enter Try.func80, Try.ntmps80
  go_wp2_with fail
  go_loopw [5, 8] (fun _ vi wr => ∃ i : Nat, i ≤ M.length ∧ vi = .int .i64 i ∧ Hid (∀ j, j < i → ∀ d, M[j]? = some d → keepB h d = true) ∧ Fr (fun _ => False) w wr) (fun _ vi _ => M.length - (intOf vi).toNat)
  case atStart => exact ⟨0, by omega, rfl, hid fun j hj => by omega, Fr.refl _ _⟩
  case round =>
    obtain ⟨i, hi, rfl, hk, hf⟩ := hrel
    by_cases hlt : i < M.length
    · obtain ⟨c, hc⟩ : ∃ c, M[i]? = some c := ⟨M[i], List.getElem?_eq_getElem hlt⟩
      obtain ⟨c1, c2, c3, c4, c5⟩ := (HR.out.fr hf (fun h => h)).at5 hc
      have hcok := HM.out c (List.mem_of_getElem? hc)
      have HA := hid (H3.out.fr hf (fun h => h))
      have HC := hid hc
      clear hc
      go_wp2_with fail
      refine (del_at hcok hh HA.out).mono ?_
      rintro e w3 ⟨rfl, k3⟩
      have k4 : Fr (fun _ => False) w w3 := hf.trans k3 (fun _ _ h => h)
      clear k3 c1 c2 c3 c4 c5 HA hf
      cases hq : keepB h c with
      | false =>
        have HQ := hid hq
        go_wp2_with fail
        go_ret
        exact ⟨.inl ⟨i, c, HC.out, HQ.out, hk.out, rfl⟩, by (repeat' (first | (with_reducible exact Fr.refl _ _) | (with_reducible assumption) | (with_reducible refine Fr.alloc ?_ _) | (with_reducible refine Fr.drew ?_) | (with_reducible refine Fr.drewN ?_ _) | (with_reducible refine Fr.setCell ?_ _ _ ?_) | (exact Or.inr rfl) | (left; simp; done) | (left; simp; omega) | (simp; done) | (simp; omega) | omega))⟩
      | true =>
        have HQ := hid hq
        go_wp2_with fail
        go_roundw
        case rel => exact ⟨i + 1, by omega, by go_num, hid fun j hj d hd => by
          by_cases e : j = i
          · subst e; rw [HC.out] at hd; cases hd; exact HQ.out
          · exact hk.out j (by omega) d hd, by (repeat' (first | (with_reducible exact Fr.refl _ _) | (with_reducible assumption) | (with_reducible refine Fr.alloc ?_ _) | (with_reducible refine Fr.drew ?_) | (with_reducible refine Fr.drewN ?_ _) | (with_reducible refine Fr.setCell ?_ _ _ ?_) | (exact Or.inr rfl) | (left; simp; done) | (left; simp; omega) | (simp; done) | (simp; omega) | omega))⟩
        case measure => simp [intOf]; omega
    · obtain rfl : M.length = i := by omega
      go_wp2_with fail
      go_ret
      refine ⟨.inr ⟨fun d hd => ?_, rfl⟩, by (repeat' (first | (with_reducible exact Fr.refl _ _) | (with_reducible assumption) | (with_reducible refine Fr.alloc ?_ _) | (with_reducible refine Fr.drew ?_) | (with_reducible refine Fr.drewN ?_ _) | (with_reducible refine Fr.setCell ?_ _ _ ?_) | (exact Or.inr rfl) | (left; simp; done) | (left; simp; omega) | (simp; done) | (simp; omega) | omega))⟩
      obtain ⟨j, hj⟩ := List.mem_iff_getElem?.1 hd
      exact hk.out j (List.getElem?_eq_some_iff.1 hj).1 d hj
end Go.Proofs.Ytapagoaoglmegaa
