/- slices.MinFunc over candidates, by jitter. -/
import Derived.Test.YtapagoaoglmegaaClDel
import Derived.Test.YtapagoaoglmegaaPClx4
namespace Go.Proofs.Ytapagoaoglmegaa
open Go.RowKit Go.Proofs.YtapagoaoglmegaaW.PrintWords Go.Proofs.YtapagoaoglmegaaW.PrintLast Go.Proofs.YtapagoaoglmegaaW.PrintMore PCl
set_option linter.unusedVariables false
set_option linter.unusedSimpArgs false
set_option maxRecDepth 100000

section
variable {P : Program} {ops : Array Oper} {Q : Exit → Act → World → Prop}
/-- A call of a function value that captures nothing. -/
theorem goesv_ {oi : Oper} {N : Option Tmp} {a : Act} {w : World} {K : Act → World → Prop} {f : FuncId} {fn : Func} {xs : Array Operand} {ts : Array TypeId} (x : Operand) (hf : P.funcs[f]? = some fn) (hname : (fn.name == "runtime.NumGoroutine") = false) (hb : fn.body.isSome = true) (args : Array Value)
  (hw : Region.wanted oi (yielded ops a.tmps) = true) (hN : oi.dst = N) (hop : oi.op = .call { callee := .value x, args := xs, argTypes := ts }) (hx : a.eval x = .func (.func f) #[] #[]) (hargs : xs.map a.eval = args)
  (h : Calls P f args w fun e w' => ∃ v, e = .returned v ∧ K (a.put N v) w') : if Region.wanted oi (yielded ops a.tmps) = true then Oper.wp P oi a w K Q else K (a.put N undef) w := by
 refine call_ f args hw hN ?_ h
 have he := enters_ hf hname hb args w
 unfold execOp
 simp [hop, resolve, Deferred.ofValue, invoke, hargs, he, hx]
end
def cmpZ (a b : Int) : Int := if a < b then -1 else if a > b then 1 else 0
theorem cmpZ_lt (a b : Int) : cmpZ a b < 0 ↔ a < b := by
 unfold cmpZ
 by_cases h : a < b
 ·simp [h]
 ·by_cases h2 : a > b <;> simp [h, h2]
theorem cmpZ_f (a b : Int) : cmp_Compare_int64.f a b = some (cmpZ a b) := by
 unfold cmp_Compare_int64.f cmp_isNaN_int64.f cmpZ
 simp
 split
 ·rfl
 ·split <;> rfl
theorem cmp_at (a b : Int) (W : World) : Calls Try.prog 54 #[.int .i64 a, .int .i64 b] W fun e w' => e = .returned (.int .i64 (cmpZ a b)) ∧ Fr (fun _ => False) W w' :=
 (cmp_Compare_int64.calls a b _ W (cmpZ_f a b)).mono fun _ _ q => ⟨q.1, Fr.of_below q.2.below (Nat.le_refl _) _⟩
theorem jit_at (w : World) (c d : S27) :
  Calls Try.prog 53 #[.agg #[.int .i64 c.f0, .int .i64 c.f1.f0, .int .i64 c.f1.f1, .int .i64 c.f1.f2, .int .i64 c.f2], .agg #[.int .i64 d.f0, .int .i64 d.f1.f0, .int .i64 d.f1.f1, .int .i64 d.f1.f2, .int .i64 d.f2]] w
   fun e w' => e = .returned (.int .i64 (cmpZ c.f2 d.f2)) ∧ Fr (fun _ => False) w w' := by
 have HM := hid (cmp_at c.f2 d.f2)
 go_enter Try.func53, Try.ntmps53
 go_wp2_with fail
 refine (HM.out _).mono ?_
 rintro e w3 ⟨rfl, k3⟩
 have k4 : Fr (fun _ => False) w w3 := Fr.trans (by (repeat' (first | (with_reducible exact Fr.refl _ _) | (with_reducible assumption) | (with_reducible refine Fr.alloc ?_ _) | (with_reducible refine Fr.drew ?_) | (with_reducible refine Fr.drewN ?_ _) | (with_reducible refine Fr.setCell ?_ _ _ ?_) | (exact Or.inr rfl) | (left; simp; done) | (left; simp; omega) | (simp; done) | (simp; omega) | omega))) k3 (fun _ _ h => h)
 clear k3 HM
 go_wp2
 go_ret
 exact ⟨rfl, by (repeat' (first | (with_reducible exact Fr.refl _ _) | (with_reducible assumption) | (with_reducible refine Fr.alloc ?_ _) | (with_reducible refine Fr.drew ?_) | (with_reducible refine Fr.drewN ?_ _) | (with_reducible refine Fr.setCell ?_ _ _ ?_) | (exact Or.inr rfl) | (left; simp; done) | (left; simp; omega) | (simp; done) | (simp; omega) | omega))⟩
def MinS (W : World) (g i mB : Nat) (c d : S27) (w' : World) : Prop :=
 w'.cell? ⟨g, i * 5, none⟩ = some (.int .i64 c.f0) ∧ w'.cell? ⟨g, i * 5 + 1, none⟩ = some (.int .i64 c.f1.f0) ∧ w'.cell? ⟨g, i * 5 + 2, none⟩ = some (.int .i64 c.f1.f1) ∧ w'.cell? ⟨g, i * 5 + 3, none⟩ = some (.int .i64 c.f1.f2) ∧ w'.cell? ⟨g, i * 5 + 4, none⟩ = some (.int .i64 c.f2) ∧
 w'.cell? ⟨mB, 0, none⟩ = some (.int .i64 d.f0) ∧ w'.cell? ⟨mB, 1, none⟩ = some (.int .i64 d.f1.f0) ∧ w'.cell? ⟨mB, 2, none⟩ = some (.int .i64 d.f1.f1) ∧ w'.cell? ⟨mB, 3, none⟩ = some (.int .i64 d.f1.f2) ∧ w'.cell? ⟨mB, 4, none⟩ = some (.int .i64 d.f2) ∧ Fr (fun _ => False) W w'
theorem MinS.fr {W : World} {g i mB : Nat} {c d : S27} {w w' : World} (f : Fr (fun _ => False) w w') (h : MinS W g i mB c d w) : MinS W g i mB c d w' := by
 obtain ⟨a0, a1, a2, a3, a4, a5, a6, a7, a8, a9, hf⟩ := h
 have key : ∀ {g i : Nat} {v : Value}, w.cell? ⟨g, i, none⟩ = some v → w'.cell? ⟨g, i, none⟩ = some v := fun h => (f.cell (World.block_lt_of_cell? w _ h) (fun h => h)).trans h
 exact ⟨key a0, key a1, key a2, key a3, key a4, key a5, key a6, key a7, key a8, key a9, hf.trans f (fun _ _ h => h)⟩
set_option maxHeartbeats 8000000 in
theorem min_at {w : World} {g cap : Nat} {M : List S27} (hR : Row w g cap M) (hcm : cap ≤ maxLen) (hn : 0 < M.length) :
  Calls Try.prog 52 #[.slice (some ⟨g, 0, none⟩) M.length cap, .func (.func 53) #[] #[]] w
   fun e w' => (∃ m ∈ M, (∀ d ∈ M, m.f2 ≤ d.f2) ∧ e = .returned (.agg #[.int .i64 m.f0, .int .i64 m.f1.f0, .int .i64 m.f1.f1, .int .i64 m.f1.f2, .int .i64 m.f2])) ∧ Fr (fun _ => False) w w' := by
 have hl : M.length ≤ 9223372036854775807 := by have := hR.len; unfold maxLen at hcm; omega
 have hgb := hR.lt
 obtain ⟨c0, hc0⟩ : ∃ c, M[0]? = some c := ⟨M[0], List.getElem?_eq_getElem hn⟩
 obtain ⟨a1, a2, a3, a4, a5⟩ := hR.at5 hc0
 simp only [Nat.zero_mul, Nat.zero_add] at a1 a2 a3 a4 a5
 have H0 : Hid (c0 ∈ M.take 1 ∧ ∀ d ∈ M.take 1, c0.f2 ≤ d.f2) := by
  have e : M.take 1 = [c0] := by rw [take_snoc hc0]; rfl
  rw [e]
  exact hid ⟨by simp, fun d hd => by simp at hd; subst hd; exact Int.le_refl _⟩
 have HR := hid hR
 have b1 : decide ((M.length : Int) < 1) = false := decide_eq_false (by omega)
 clear hR hc0
 go_enter Try.func52, Try.ntmps52
 go_wp2_with fail
 generalize hW : World.alloc (World.alloc w _) _ = W
 have f0 : Fr (fun _ => False) w W := by subst hW; (repeat' (first | (with_reducible exact Fr.refl _ _) | (with_reducible assumption) | (with_reducible refine Fr.alloc ?_ _) | (with_reducible refine Fr.drew ?_) | (with_reducible refine Fr.drewN ?_ _) | (with_reducible refine Fr.setCell ?_ _ _ ?_) | (exact Or.inr rfl) | (left; simp; done) | (left; simp; omega) | (simp; done) | (simp; omega) | omega))
 have br : Blk W w.heap.size #[.int .i64 0, .int .i64 0, .int .i64 0, .int .i64 0, .int .i64 0] 27 := by subst hW; (repeat' (first | (with_reducible assumption) | (with_reducible apply Blk.drew) | (with_reducible apply Blk.drewN) | (with_reducible apply Blk.set) | (with_reducible apply Blk.other) | (exact Blk.new' _ _ _ (by first | rfl | (simp; done) | (simp; omega))) | (with_reducible apply Blk.alloc) | (with_reducible rfl) | (simp; done) | (simp; omega) | omega | rfl))
 have bm : Blk W (w.heap.size + 1) #[.int .i64 c0.f0, .int .i64 c0.f1.f0, .int .i64 c0.f1.f1, .int .i64 c0.f1.f2, .int .i64 c0.f2] 27 := by subst hW; (repeat' (first | (with_reducible assumption) | (with_reducible apply Blk.drew) | (with_reducible apply Blk.drewN) | (with_reducible apply Blk.set) | (with_reducible apply Blk.other) | (exact Blk.new' _ _ _ (by first | rfl | (simp; done) | (simp; omega))) | (with_reducible apply Blk.alloc) | (with_reducible rfl) | (simp; done) | (simp; omega) | omega | rfl))
 clear hW a1 a2 a3 a4 a5
 have HRW := hid (HR.out.fr f0 (fun h => h))
 obtain ⟨rB, hrB⟩ : ∃ b, b = w.heap.size := ⟨_, rfl⟩
 obtain ⟨mB, hmB⟩ : ∃ b, b = w.heap.size + 1 := ⟨_, rfl⟩
 rw [← hmB, ← hrB]
 rw [← hrB] at br
 rw [← hmB] at bm
 have n1 : rB ≠ mB := by omega
 have n2 : g ≠ mB := by omega
 have n3 : ¬ mB < w.heap.size ∧ ¬ rB < w.heap.size := by omega
 clear hrB hmB
 go_loopw [6] (fun vi wr => ∃ (i : Nat) (c : S27), i ≤ M.length ∧ vi = .int .i64 i ∧ Hid (c ∈ M.take i ∧ ∀ d ∈ M.take i, c.f2 ≤ d.f2) ∧ Blk wr mB #[.int .i64 c.f0, .int .i64 c.f1.f0, .int .i64 c.f1.f1, .int .i64 c.f1.f2, .int .i64 c.f2] 27 ∧ Fr (fun j => j = mB) W wr) (fun vi _ => M.length - (intOf vi).toNat)
 case atStart => exact ⟨1, c0, by omega, rfl, H0, bm, Fr.refl _ _⟩
 case round =>
  clear bm H0
  obtain ⟨i, c, hi, rfl, hc, bm, hf⟩ := hrel
  have br1 := br.fr hf n1
  have HR1 := hid (HRW.out.fr hf n2)
  by_cases hlt : i < M.length
  ·obtain ⟨d, hd⟩ : ∃ d, M[i]? = some d := ⟨M[i], List.getElem?_eq_getElem hlt⟩
   have ms0 : MinS wr g i mB d c wr := by
    obtain ⟨a1, a2, a3, a4, a5⟩ := HR1.out.at5 hd
    exact ⟨a1, a2, a3, a4, a5, (bm.cell 0).trans rfl, (bm.cell 1).trans rfl, (bm.cell 2).trans rfl, (bm.cell 3).trans rfl, (bm.cell 4).trans rfl, Fr.refl _ _⟩
   have ms := MinS.fr ((Fr.refl _ _).drew) ms0
   have ltb : decide ((i : Int) < (M.length : Int)) = true := decide_eq_true (by omega)
   have HD := hid hd
   have HJ := hid (@jit_at)
   clear hd ms0
   go_wp2_with fail
   refine start_ (n := 8) (S := fun w' => w'.cell? ⟨g, i * 5, none⟩ = some (.int .i64 d.f0) ∧ w'.cell? ⟨g, i * 5 + 1, none⟩ = some (.int .i64 d.f1.f0) ∧ w'.cell? ⟨g, i * 5 + 2, none⟩ = some (.int .i64 d.f1.f1) ∧ w'.cell? ⟨g, i * 5 + 3, none⟩ = some (.int .i64 d.f1.f2) ∧ w'.cell? ⟨g, i * 5 + 4, none⟩ = some (.int .i64 d.f2) ∧ w'.cell? ⟨mB, 0, none⟩ = some (.int .i64 c.f0) ∧ w'.cell? ⟨mB, 1, none⟩ = some (.int .i64 c.f1.f0) ∧ w'.cell? ⟨mB, 2, none⟩ = some (.int .i64 c.f1.f1) ∧ w'.cell? ⟨mB, 3, none⟩ = some (.int .i64 c.f1.f2) ∧ w'.cell? ⟨mB, 4, none⟩ = some (.int .i64 c.f2) ∧ Fr (fun _ => False) wr w') (ds := []) #[oN,oN,oN,oN,oN,oN,oN,oN] (by kernel_rfl) rfl rfl ⟨ms.1, ms.2.1, ms.2.2.1, ms.2.2.2.1, ms.2.2.2.2.1, ms.2.2.2.2.2.1, ms.2.2.2.2.2.2.1, ms.2.2.2.2.2.2.2.1, ms.2.2.2.2.2.2.2.2.1, ms.2.2.2.2.2.2.2.2.2.1, ms.2.2.2.2.2.2.2.2.2.2⟩ (fun hHeld => ?_)
   refine pure_ (i := 0) (N := some 20) (v := ?_) (a' := ?_) #[oY,oN,oN,oN,oN,oN,oN,oN] rfl rfl (by kernel_rfl) (fun _ _ _ h => h) (Or.inl ⟨by rfl, ?_⟩) ?_ ?_
   rotate_left
   ·intro w'
    go_simp
    with_reducible rfl
   rotate_left
   ·simp only [Act.put, List.setIfInBounds_toArray, List.set_cons_zero, List.set_cons_succ, i64_w, i32_w]
    rfl
   refine pure_ (i := 1) (N := some 21) (v := ?_) (a' := ?_) #[oY,oY,oN,oN,oN,oN,oN,oN] rfl rfl (by kernel_rfl) (fun _ _ _ h => h) (Or.inl ⟨by rfl, ?_⟩) ?_ ?_
   rotate_left
   ·intro w'
    go_simp
    with_reducible rfl
   rotate_left
   ·simp only [Act.put, List.setIfInBounds_toArray, List.set_cons_zero, List.set_cons_succ, i64_w, i32_w]
    rfl
   refine pure_ (i := 2) (N := some 22) (v := ?_) (a' := ?_) #[oY,oY,oY,oN,oN,oN,oN,oN] rfl rfl (by kernel_rfl) (fun _ _ _ h => h) (Or.inl ⟨by rfl, ?_⟩) ?_ ?_
   rotate_left
   ·intro w'
    go_simp
    with_reducible rfl
   rotate_left
   ·simp only [Act.put, List.setIfInBounds_toArray, List.set_cons_zero, List.set_cons_succ, i64_w, i32_w]
    rfl
   refine pure_ (i := 3) (N := some 23) (v := ?_) (a' := ?_) #[oY,oY,oY,oY,oN,oN,oN,oN] rfl rfl (by kernel_rfl) (fun _ _ _ h => h) (Or.inl ⟨by rfl, ?_⟩) ?_ ?_
   rotate_left
   ·intro w'
    go_simp
    with_reducible rfl
   rotate_left
   ·simp only [Act.put, List.setIfInBounds_toArray, List.set_cons_zero, List.set_cons_succ, i64_w, i32_w]
    rfl
   refine take_ (i := 4) (N := some 24) (v := ?_) (a' := ?_) #[oY,oY,oY,oY,oY,oN,oN,oN] rfl rfl (by kernel_rfl) (fun _ _ _ h => h) (Or.inl ⟨by rfl, ?_⟩) hHeld ?_ ?_
   rotate_left
   ·rintro w' ⟨s0, s1, s2, s3, s4, s5, s6, s7, s8, s9, s10⟩
    go_simp
    with_reducible rfl
   rotate_left
   ·simp only [Act.put, List.setIfInBounds_toArray, List.set_cons_zero, List.set_cons_succ, i64_w, i32_w]
    rfl
   refine take_ (i := 5) (N := some 25) (v := ?_) (a' := ?_) #[oY,oY,oY,oY,oY,oY,oN,oN] rfl rfl (by kernel_rfl) (fun _ _ _ h => h) (Or.inl ⟨by rfl, ?_⟩) hHeld ?_ ?_
   rotate_left
   ·rintro w' ⟨s0, s1, s2, s3, s4, s5, s6, s7, s8, s9, s10⟩
    go_simp
    with_reducible rfl
   rotate_left
   ·simp only [Act.put, List.setIfInBounds_toArray, List.set_cons_zero, List.set_cons_succ, i64_w, i32_w]
    rfl
   refine one_ (i := 6) (N := some 26) #[oY,oY,oY,oY,oY,oY,oY,oN] rfl rfl (by kernel_rfl) (by decide) (fun K hK => ?_)
   refine goesv_ (.tmp 20) Try.func53 (by kernel_rfl) rfl #[.agg #[.int .i64 d.f0, .int .i64 d.f1.f0, .int .i64 d.f1.f1, .int .i64 d.f1.f2, .int .i64 d.f2], .agg #[.int .i64 c.f0, .int .i64 c.f1.f0, .int .i64 c.f1.f1, .int .i64 c.f1.f2, .int .i64 c.f2]] (by rfl) rfl rfl rfl (by simp only [List.map_toArray, List.map_cons, List.map_nil]; rfl) ?_
   refine (HJ.out _ d c).mono ?_
   rintro e w3 ⟨rfl, k3⟩
   refine ⟨_, rfl, ?_⟩
   have ms3 := MinS.fr k3 hHeld
   refine hK.out _ _ ⟨ms3.1, ms3.2.1, ms3.2.2.1, ms3.2.2.2.1, ms3.2.2.2.2.1, ms3.2.2.2.2.2.1, ms3.2.2.2.2.2.2.1, ms3.2.2.2.2.2.2.2.1, ms3.2.2.2.2.2.2.2.2.1, ms3.2.2.2.2.2.2.2.2.2.1, ms3.2.2.2.2.2.2.2.2.2.2⟩ (fun hHeld => ?_)
   clear hK K
   refine norm_ (a' := ?_) ?_ ?_
   rotate_left
   ·show Act.put _ (some 26) _ = _
    simp only [Act.put, List.setIfInBounds_toArray, List.set_cons_zero, List.set_cons_succ, i64_w, i32_w]
    rfl
   refine pure_ (i := 7) (N := some 27) (v := ?_) (a' := ?_) #[oY,oY,oY,oY,oY,oY,oY,oY] rfl rfl (by kernel_rfl) (fun _ _ _ h => h) (Or.inl ⟨by rfl, ?_⟩) ?_ ?_
   rotate_left
   ·intro w'
    go_simp
    with_reducible rfl
   rotate_left
   ·simp only [Act.put, List.setIfInBounds_toArray, List.set_cons_zero, List.set_cons_succ, i64_w, i32_w]
    rfl
   refine done_ (by kernel_rfl) ?_
   have fE : Fr (fun _ => False) wr w3 := hHeld.2.2.2.2.2.2.2.2.2.2
   have bm3 := bm.fr fE (fun h => h)
   have HR3 := hid (HR1.out.fr fE (fun h => h))
   have f4 : Fr (fun j => j = mB) W w3 := hf.trans fE (fun _ _ h => h.elim)
   obtain ⟨x1, x2, x3, x4, x5, x6, x7, x8, x9, x10, _⟩ := hHeld
   by_cases hq : d.f2 < c.f2
   ·have bq : decide (cmpZ d.f2 c.f2 < 0) = true := decide_eq_true ((cmpZ_lt _ _).2 hq)
    have bq2 : cmpZ d.f2 c.f2 < 0 := (cmpZ_lt _ _).2 hq
    have HQ := hid hq
    have z1 := bm3.free 0
    have z2 := bm3.free 1
    have z3 := bm3.free 2
    have z4 := bm3.free 3
    have z5 := bm3.free 4
    clear hq ms ms3 k3 HJ
    go_wp2_with fail
    go_roundw
    case rel => exact ⟨i + 1, d, by omega, by go_num, hid ⟨by rw [take_snoc HD.out]; simp, fun x hx => by
     rw [take_snoc HD.out] at hx
     rcases List.mem_append.1 hx with h | h
     ·have := hc.out.2 x h; have := HQ.out; omega
     ·simp at h; subst h; exact Int.le_refl _⟩, by (repeat' (first | (with_reducible assumption) | (with_reducible apply Blk.drew) | (with_reducible apply Blk.drewN) | (with_reducible apply Blk.set) | (with_reducible apply Blk.other) | (exact Blk.new' _ _ _ (by first | rfl | (simp; done) | (simp; omega))) | (with_reducible apply Blk.alloc) | (with_reducible rfl) | (simp; done) | (simp; omega) | omega | rfl)), by (repeat' (first | (with_reducible exact Fr.refl _ _) | (with_reducible assumption) | (with_reducible refine Fr.alloc ?_ _) | (with_reducible refine Fr.drew ?_) | (with_reducible refine Fr.drewN ?_ _) | (with_reducible refine Fr.setCell ?_ _ _ ?_) | (exact Or.inr rfl) | (left; simp; done) | (left; simp; omega) | (simp; done) | (simp; omega) | omega))⟩
    case measure => simp [intOf]; omega
   ·have bq : decide (cmpZ d.f2 c.f2 < 0) = false := decide_eq_false (fun h => hq ((cmpZ_lt _ _).1 h))
    have bq2 : ¬ cmpZ d.f2 c.f2 < 0 := fun h => hq ((cmpZ_lt _ _).1 h)
    have HQ := hid hq
    clear hq ms ms3 k3 HJ
    go_wp2_with fail
    go_roundw
    case rel => exact ⟨i + 1, c, by omega, by go_num, hid ⟨by rw [take_snoc HD.out]; simp [hc.out.1], fun x hx => by
     rw [take_snoc HD.out] at hx
     rcases List.mem_append.1 hx with h | h
     ·exact hc.out.2 x h
     ·simp at h; subst h; have := HQ.out; omega⟩, bm3, f4⟩
    case measure => simp [intOf]; omega
  ·obtain rfl : M.length = i := by omega
   have ltb : decide ((M.length : Int) < (M.length : Int)) = false := decide_eq_false (by omega)
   have hc2 := hc.out
   rw [List.take_length] at hc2
   have HC2 := hid hc2
   clear hc2
   have v1 := bm.cell 0
   have v2 := bm.cell 1
   have v3 := bm.cell 2
   have v4 := bm.cell 3
   have v5 := bm.cell 4
   have z1 := br1.free 0
   have z2 := br1.free 1
   have z3 := br1.free 2
   have z4 := br1.free 3
   have z5 := br1.free 4
   have u1 := br1.cell 0
   have u2 := br1.cell 1
   have u3 := br1.cell 2
   have u4 := br1.cell 3
   have u5 := br1.cell 4
   simp at v1 v2 v3 v4 v5 u1 u2 u3 u4 u5
   have hrl := br1.lt
   have ff : Fr (fun _ => False) w wr := f0.trans hf (fun j hj hj2 => by omega)
   have bE : ∀ W', W' = (((((wr.setCell ⟨rB, 0, none⟩ (.int .i64 c.f0)).setCell ⟨rB, 1, none⟩ (.int .i64 c.f1.f0)).setCell ⟨rB, 2, none⟩ (.int .i64 c.f1.f1)).setCell ⟨rB, 3, none⟩ (.int .i64 c.f1.f2)).setCell ⟨rB, 4, none⟩ (.int .i64 c.f2)) → Blk W' rB #[.int .i64 c.f0, .int .i64 c.f1.f0, .int .i64 c.f1.f1, .int .i64 c.f1.f2, .int .i64 c.f2] 27 := by rintro _ rfl; (repeat' (first | (with_reducible assumption) | (with_reducible apply Blk.drew) | (with_reducible apply Blk.drewN) | (with_reducible apply Blk.set) | (with_reducible apply Blk.other) | (exact Blk.new' _ _ _ (by first | rfl | (simp; done) | (simp; omega))) | (with_reducible apply Blk.alloc) | (with_reducible rfl) | (simp; done) | (simp; omega) | omega | rfl))
   go_wp2_with fail
   have bX := bE _ rfl
   (try simp only [Exit.inBlock, Exit.then])
   refine bodyPost_ret (results_cell_row rfl _ _ rB 27 #[.int .i64 c.f0, .int .i64 c.f1.f0, .int .i64 c.f1.f1, .int .i64 c.f1.f2, .int .i64 c.f2] (0, 0) _ rfl bX Try.underlying27 rfl (by kernel_rfl)) rfl ?_
   exact ⟨⟨c, HC2.out.1, HC2.out.2, rfl⟩, by (repeat' (first | (with_reducible exact Fr.refl _ _) | (with_reducible assumption) | (with_reducible refine Fr.alloc ?_ _) | (with_reducible refine Fr.drew ?_) | (with_reducible refine Fr.drewN ?_ _) | (with_reducible refine Fr.setCell ?_ _ _ ?_) | (exact Or.inr rfl) | (left; simp; done) | (left; simp; omega) | (simp; done) | (simp; omega) | omega))⟩
end Go.Proofs.Ytapagoaoglmegaa
