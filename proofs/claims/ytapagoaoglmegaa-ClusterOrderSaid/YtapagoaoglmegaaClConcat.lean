/- slices.Reverse, slices.Grow and slices.Concat over candidates. -/
import Derived.Test.YtapagoaoglmegaaClDelF
import Derived.Test.YtapagoaoglmegaaWZeros
namespace Go.Proofs.Ytapagoaoglmegaa
open Go.RowKit Go.Proofs.YtapagoaoglmegaaW.PrintWords Go.Proofs.YtapagoaoglmegaaW.PrintLast Go.Proofs.YtapagoaoglmegaaW.PrintMore PCl
set_option linter.unusedVariables false
set_option linter.unusedSimpArgs false
set_option maxRecDepth 100000
/-- A row whose first i and last i are turned. -/
structure RevI (L M : List S27) (i : Nat) : Prop where
 len : M.length = L.length
 le : 2 * i ≤ L.length
 out : ∀ k, k < i ∨ L.length ≤ k + i → k < L.length → M[k]? = L[L.length - 1 - k]?
 inn : ∀ k, i ≤ k → k + i < L.length → M[k]? = L[k]?
theorem RevI.start (L : List S27) : RevI L L 0 := ⟨rfl, by omega, fun k h1 h2 => by omega, fun _ _ _ => rfl⟩
theorem RevI.step {L M : List S27} {i j : Nat} (h : RevI L M i) (hj : j + i + 1 = L.length) (hij : i < j) {x y : S27} (hx : M[i]? = some x) (hy : M[j]? = some y) : RevI L ((M.set i y).set j x) (i + 1) := by
 have hl := h.len
 have ex : L[i]? = some x := by rw [← h.inn i (by omega) (by omega)]; exact hx
 have ey : L[j]? = some y := by rw [← h.inn j (by omega) (by omega)]; exact hy
 refine ⟨by simpa using hl, by omega, fun k h1 h2 => ?_, fun k h1 h2 => ?_⟩
 ·rw [List.getElem?_set, List.getElem?_set]
  by_cases e1 : j = k
  ·subst e1
   rw [if_pos rfl, if_pos (by simp; omega), show L.length - 1 - j = i by omega, ex]
  ·rw [if_neg e1]
   by_cases e2 : i = k
   ·subst e2
    rw [if_pos rfl, if_pos (by omega), show L.length - 1 - i = j by omega, ey]
   ·rw [if_neg e2]
    exact h.out k (by omega) h2
 ·rw [List.getElem?_set, List.getElem?_set, if_neg (by omega), if_neg (by omega)]
  exact h.inn k (by omega) (by omega)
theorem RevI.done {L M : List S27} {i : Nat} (h : RevI L M i) (hi : L.length ≤ 2 * i + 1) : M = L.reverse := by
 apply List.ext_getElem?
 intro k
 have hl := h.len
 by_cases hk : k < L.length
 ·rw [List.getElem?_reverse hk]
  by_cases hm : k < i ∨ L.length ≤ k + i
  ·exact h.out k hm hk
  ·rw [h.inn k (by omega) (by omega)]
   congr 1; omega
 ·rw [List.getElem?_eq_none (by omega), List.getElem?_eq_none (by simp; omega)]
set_option maxHeartbeats 8000000 in
theorem reverse_at {w : World} {g cap c : Nat} {L : List S27} (hR : Row w g cap L) (hl : L.length ≤ 1000) :
  Calls Try.prog 33 #[.slice (some ⟨g, 0, none⟩) L.length c] w fun e w' => e = .returned (.tuple #[]) ∧ Row w' g cap L.reverse ∧ Fr (fun i => i = g) w w' := by
 have HR := hid hR
 clear hR
 go_enter Try.func33, Try.ntmps33
 go_wp2_with fail
 go_loopw [2, 3] (fun v2 v3 wr => ∃ (i : Nat) (jz : Int) (M : List S27), v2 = .int .i64 (i : Int) ∧ v3 = .int .i64 jz ∧ jz = (L.length : Int) - 1 - i ∧ Hid (RevI L M i) ∧ Row wr g cap M ∧ Fr (fun i => i = g) w wr) (fun v2 _ _ => L.length - (intOf v2).toNat)
 case atStart => exact ⟨0, _, L, rfl, rfl, by first | rfl | omega | (go_num; done) | (simp; done), hid (RevI.start L), HR.out, Fr.refl _ _⟩
 case round =>
  clear HR
  obtain ⟨i, jz, M, rfl, rfl, hjz, HI, hr, hf⟩ := hrel
  have HRr := hid hr
  have hil := HI.out.le
  have hml := HI.out.len
  by_cases hlt : 2 * i + 1 < L.length
  ·obtain ⟨j, hj⟩ : ∃ j : Nat, j + i + 1 = L.length := ⟨L.length - 1 - i, by omega⟩
   obtain rfl : jz = (j : Int) := by omega
   obtain ⟨x, hx⟩ : ∃ x, M[i]? = some x := ⟨_, List.getElem?_eq_getElem (by omega)⟩
   obtain ⟨y, hy⟩ : ∃ y, M[j]? = some y := ⟨_, List.getElem?_eq_getElem (by omega)⟩
   have hgs : g < wr.heap.size := hr.lt
   have t1 : (i : Int) < (j : Int) := by omega
   have t2 : (i : Int) < (L.length : Int) := by omega
   have t3 : (j : Int) < (L.length : Int) := by omega
   have HX := hid hx
   have HY := hid hy
   clear hr hjz
   obtain ⟨d1, d2, d3, d4, d5⟩ := HRr.out.at5 hx
   obtain ⟨e1, e2, e3, e4, e5⟩ := HRr.out.at5 hy
   have q0 := HRr.out.free (i * 5)
   have q1 := HRr.out.free (i * 5 + 1)
   have q2 := HRr.out.free (i * 5 + 2)
   have q3 := HRr.out.free (i * 5 + 3)
   have q4 := HRr.out.free (i * 5 + 4)
   clear hx hy
   go_wp2_with fail
   have msd : wr.drew.cell? ⟨g, j * 5, none⟩ = some (.int .i64 y.f0) ∧ wr.drew.cell? ⟨g, j * 5 + 1, none⟩ = some (.int .i64 y.f1.f0) ∧ wr.drew.cell? ⟨g, j * 5 + 2, none⟩ = some (.int .i64 y.f1.f1) ∧ wr.drew.cell? ⟨g, j * 5 + 3, none⟩ = some (.int .i64 y.f1.f2) ∧ wr.drew.cell? ⟨g, j * 5 + 4, none⟩ = some (.int .i64 y.f2) := ⟨e1, e2, e3, e4, e5⟩
   refine start_ (n := 16) (S := fun w' => w'.cell? ⟨g, j * 5, none⟩ = some (.int .i64 y.f0) ∧ w'.cell? ⟨g, j * 5 + 1, none⟩ = some (.int .i64 y.f1.f0) ∧ w'.cell? ⟨g, j * 5 + 2, none⟩ = some (.int .i64 y.f1.f1) ∧ w'.cell? ⟨g, j * 5 + 3, none⟩ = some (.int .i64 y.f1.f2) ∧ w'.cell? ⟨g, j * 5 + 4, none⟩ = some (.int .i64 y.f2)) (ds := [15]) #[oN,oN,oN,oN,oN,oN,oN,oN,oN,oN,oN,oN,oN,oN,oN,oN] (by kernel_rfl) rfl rfl ⟨msd.1, msd.2.1, msd.2.2.1, msd.2.2.2.1, msd.2.2.2.2⟩ (fun hHeld => ?_)
   refine pure_ (i := 0) (N := some 14) (v := ?_) (a' := ?_) #[oY,oN,oN,oN,oN,oN,oN,oN,oN,oN,oN,oN,oN,oN,oN,oN] rfl rfl (by kernel_rfl) (fun _ _ _ h => h) (Or.inl ⟨by rfl, ?_⟩) ?_ ?_
   rotate_left
   ·intro w'
    go_simp
    with_reducible rfl
   rotate_left
   ·simp only [Act.put, List.setIfInBounds_toArray, List.set_cons_zero, List.set_cons_succ, i64_w, i32_w]
    rfl
   refine pure_ (i := 1) (N := some 15) (v := ?_) (a' := ?_) #[oY,oY,oN,oN,oN,oN,oN,oN,oN,oN,oN,oN,oN,oN,oN,oN] rfl rfl (by kernel_rfl) (fun _ _ _ h => h) (Or.inl ⟨by rfl, ?_⟩) ?_ ?_
   rotate_left
   ·intro w'
    go_simp
    with_reducible rfl
   rotate_left
   ·simp only [Act.put, List.setIfInBounds_toArray, List.set_cons_zero, List.set_cons_succ, i64_w, i32_w]
    rfl
   refine pure_ (i := 2) (N := some 16) (v := ?_) (a' := ?_) #[oY,oY,oY,oN,oN,oN,oN,oN,oN,oN,oN,oN,oN,oN,oN,oN] rfl rfl (by kernel_rfl) (fun _ _ _ h => h) (Or.inl ⟨by rfl, ?_⟩) ?_ ?_
   rotate_left
   ·intro w'
    go_simp
    with_reducible rfl
   rotate_left
   ·simp only [Act.put, List.setIfInBounds_toArray, List.set_cons_zero, List.set_cons_succ, i64_w, i32_w]
    rfl
   refine pure_ (i := 3) (N := some 17) (v := ?_) (a' := ?_) #[oY,oY,oY,oY,oN,oN,oN,oN,oN,oN,oN,oN,oN,oN,oN,oN] rfl rfl (by kernel_rfl) (fun _ _ _ h => h) (Or.inl ⟨by rfl, ?_⟩) ?_ ?_
   rotate_left
   ·intro w'
    go_simp
    with_reducible rfl
   rotate_left
   ·simp only [Act.put, List.setIfInBounds_toArray, List.set_cons_zero, List.set_cons_succ, i64_w, i32_w]
    rfl
   refine pure_ (i := 4) (N := some 18) (v := ?_) (a' := ?_) #[oY,oY,oY,oY,oY,oN,oN,oN,oN,oN,oN,oN,oN,oN,oN,oN] rfl rfl (by kernel_rfl) (fun _ _ _ h => h) (Or.inl ⟨by rfl, ?_⟩) ?_ ?_
   rotate_left
   ·intro w'
    go_simp
    with_reducible rfl
   rotate_left
   ·simp only [Act.put, List.setIfInBounds_toArray, List.set_cons_zero, List.set_cons_succ, i64_w, i32_w]
    rfl
   refine pure_ (i := 5) (N := some 19) (v := ?_) (a' := ?_) #[oY,oY,oY,oY,oY,oY,oN,oN,oN,oN,oN,oN,oN,oN,oN,oN] rfl rfl (by kernel_rfl) (fun _ _ _ h => h) (Or.inl ⟨by rfl, ?_⟩) ?_ ?_
   rotate_left
   ·intro w'
    go_simp
    with_reducible rfl
   rotate_left
   ·simp only [Act.put, List.setIfInBounds_toArray, List.set_cons_zero, List.set_cons_succ, i64_w, i32_w]
    rfl
   refine pure_ (i := 6) (N := some 20) (v := ?_) (a' := ?_) #[oY,oY,oY,oY,oY,oY,oY,oN,oN,oN,oN,oN,oN,oN,oN,oN] rfl rfl (by kernel_rfl) (fun _ _ _ h => h) (Or.inl ⟨by rfl, ?_⟩) ?_ ?_
   rotate_left
   ·intro w'
    go_simp
    with_reducible rfl
   rotate_left
   ·simp only [Act.put, List.setIfInBounds_toArray, List.set_cons_zero, List.set_cons_succ, i64_w, i32_w]
    rfl
   refine pure_ (i := 8) (N := some 22) (v := ?_) (a' := ?_) #[oY,oY,oY,oY,oY,oY,oY,oN,oY,oN,oN,oN,oN,oN,oN,oN] rfl rfl (by kernel_rfl) (fun _ _ _ h => h) (Or.inl ⟨by rfl, ?_⟩) ?_ ?_
   rotate_left
   ·intro w'
    go_simp
    with_reducible rfl
   rotate_left
   ·simp only [Act.put, List.setIfInBounds_toArray, List.set_cons_zero, List.set_cons_succ, i64_w, i32_w]
    rfl
   refine pure_ (i := 9) (N := some 23) (v := ?_) (a' := ?_) #[oY,oY,oY,oY,oY,oY,oY,oN,oY,oY,oN,oN,oN,oN,oN,oN] rfl rfl (by kernel_rfl) (fun _ _ _ h => h) (Or.inl ⟨by rfl, ?_⟩) ?_ ?_
   rotate_left
   ·intro w'
    go_simp
    with_reducible rfl
   rotate_left
   ·simp only [Act.put, List.setIfInBounds_toArray, List.set_cons_zero, List.set_cons_succ, i64_w, i32_w]
    rfl
   refine pure_ (i := 10) (N := some 24) (v := ?_) (a' := ?_) #[oY,oY,oY,oY,oY,oY,oY,oN,oY,oY,oY,oN,oN,oN,oN,oN] rfl rfl (by kernel_rfl) (fun _ _ _ h => h) (Or.inl ⟨by rfl, ?_⟩) ?_ ?_
   rotate_left
   ·intro w'
    go_simp
    with_reducible rfl
   rotate_left
   ·simp only [Act.put, List.setIfInBounds_toArray, List.set_cons_zero, List.set_cons_succ, i64_w, i32_w]
    rfl
   refine take_ (i := 7) (N := some 21) (v := ?_) (a' := ?_) #[oY,oY,oY,oY,oY,oY,oY,oY,oY,oY,oY,oN,oN,oN,oN,oN] rfl rfl (by kernel_rfl) (fun _ _ _ h => h) (Or.inl ⟨by rfl, ?_⟩) hHeld ?_ ?_
   rotate_left
   ·rintro w' ⟨s0, s1, s2, s3, s4⟩
    go_simp
    with_reducible rfl
   rotate_left
   ·simp only [Act.put, List.setIfInBounds_toArray, List.set_cons_zero, List.set_cons_succ, i64_w, i32_w]
    rfl
   refine one_ (i := 11) (N := some 25) #[oY,oY,oY,oY,oY,oY,oY,oY,oY,oY,oY,oY,oN,oN,oN,oN] rfl rfl (by kernel_rfl) (by decide) (fun K hK => ?_)
   refine value_ (w1 := ?_) (v := ?_) (by rfl) rfl ?_ ?_
   rotate_left 2
   ·go_simp
    constructor
    ·rfl
    ·rfl
   refine hK.out _ _ ⟨msd.1, msd.2.1, msd.2.2.1, msd.2.2.2.1, msd.2.2.2.2⟩ (fun hHeld => ?_)
   clear hK K
   refine norm_ (a' := ?_) ?_ ?_
   rotate_left
   ·show Act.put _ (some 25) _ = _
    simp only [Act.put, List.setIfInBounds_toArray, List.set_cons_zero, List.set_cons_succ, i64_w, i32_w]
    rfl
   refine pure_ (i := 12) (N := some 26) (v := ?_) (a' := ?_) #[oY,oY,oY,oY,oY,oY,oY,oY,oY,oY,oY,oY,oY,oN,oN,oN] rfl rfl (by kernel_rfl) (fun _ _ _ h => h) (Or.inl ⟨by rfl, ?_⟩) ?_ ?_
   rotate_left
   ·intro w'
    go_simp
    with_reducible rfl
   rotate_left
   ·simp only [Act.put, List.setIfInBounds_toArray, List.set_cons_zero, List.set_cons_succ, i64_w, i32_w]
    rfl
   refine one_ (i := 13) (N := none) #[oY,oY,oY,oY,oY,oY,oY,oY,oY,oY,oY,oY,oY,oY,oN,oN] rfl rfl (by kernel_rfl) (by decide) (fun K hK => ?_)
   refine skip_ (w1 := ?_) (by rfl) rfl ?_ ?_
   rotate_left
   ·go_simp
    rfl
   generalize hW5 : World.drew _ = W5
   have r5 : Row W5 g cap (M.set i y) := by subst hW5; exact (HRr.out.set5 (by omega) y).drew
   obtain ⟨s1, s2, s3, s4, s5⟩ := r5.at5 (i := j) (c := y) (by rw [List.getElem?_set, if_neg (by omega)]; exact HY.out)
   have p0 := r5.free (j * 5)
   have p1 := r5.free (j * 5 + 1)
   have p2 := r5.free (j * 5 + 2)
   have p3 := r5.free (j * 5 + 3)
   have p4 := r5.free (j * 5 + 4)
   have hgs5 := r5.lt
   have f5 : Fr (fun i => i = g) wr W5 := by subst hW5; (repeat' (first | (with_reducible exact Fr.refl _ _) | (with_reducible assumption) | (with_reducible refine Fr.alloc ?_ _) | (with_reducible refine Fr.drew ?_) | (with_reducible refine Fr.drewN ?_ _) | (with_reducible refine Fr.setCell ?_ _ _ ?_) | (exact Or.inr rfl) | (left; simp; done) | (left; simp; omega) | (simp; done) | (simp; omega) | omega))
   have R5 := hid r5
   clear hW5 r5
   have ms5 : W5.cell? ⟨g, j * 5, none⟩ = some (.int .i64 y.f0) ∧ W5.cell? ⟨g, j * 5 + 1, none⟩ = some (.int .i64 y.f1.f0) ∧ W5.cell? ⟨g, j * 5 + 2, none⟩ = some (.int .i64 y.f1.f1) ∧ W5.cell? ⟨g, j * 5 + 3, none⟩ = some (.int .i64 y.f1.f2) ∧ W5.cell? ⟨g, j * 5 + 4, none⟩ = some (.int .i64 y.f2) := ⟨s1, s2, s3, s4, s5⟩
   refine hK.out _ _ ⟨ms5.1, ms5.2.1, ms5.2.2.1, ms5.2.2.2.1, ms5.2.2.2.2⟩ (fun hHeld => ?_)
   clear hK K
   refine pure_ (i := 14) (N := some 27) (v := ?_) (a' := ?_) #[oY,oY,oY,oY,oY,oY,oY,oY,oY,oY,oY,oY,oY,oY,oY,oN] rfl rfl (by kernel_rfl) (fun _ _ _ h => h) (Or.inl ⟨by rfl, ?_⟩) ?_ ?_
   rotate_left
   ·intro w'
    go_simp
    with_reducible rfl
   rotate_left
   ·simp only [Act.put, List.setIfInBounds_toArray, List.set_cons_zero, List.set_cons_succ, i64_w, i32_w]
    rfl
   refine last_ (i := 15) (N := none) #[oY,oY,oY,oY,oY,oY,oY,oY,oY,oY,oY,oY,oY,oY,oY,oY] rfl rfl (by kernel_rfl) (by decide) (fun K hK => ?_)
   refine skip_ (w1 := ?_) (by rfl) rfl ?_ ?_
   rotate_left
   ·go_simp
    rfl
   refine hK.out _ _ ?_
   clear hK K
   refine done_ (by kernel_rfl) ?_
   clear hHeld ms5 msd s1 s2 s3 s4 s5 p0 p1 p2 p3 p4 d1 d2 d3 d4 d5 e1 e2 e3 e4 e5 q0 q1 q2 q3 q4
   generalize hW6 : World.setCell _ _ _ = W6
   have r6 : Row W6 g cap ((M.set i y).set j x) := by subst hW6; exact (R5.out.drew.set5 (by simp; omega) x)
   have f6 : Fr (fun i => i = g) W5 W6 := by subst hW6; (repeat' (first | (with_reducible exact Fr.refl _ _) | (with_reducible assumption) | (with_reducible refine Fr.alloc ?_ _) | (with_reducible refine Fr.drew ?_) | (with_reducible refine Fr.drewN ?_ _) | (with_reducible refine Fr.setCell ?_ _ _ ?_) | (exact Or.inr rfl) | (left; simp; done) | (left; simp; omega) | (simp; done) | (simp; omega) | omega))
   clear hW6
   go_wp2_with fail
   go_roundw
   case rel => exact ⟨i + 1, (j : Int) - 1, _, by go_num, by go_num, by go_num, hid (HI.out.step hj (by omega) HX.out HY.out), r6, (hf.trans f5 (fun _ _ h => h)).trans f6 (fun _ _ h => h)⟩
   case measure => simp [intOf]; omega
  ·have e := HI.out.done (by omega)
   subst e
   have t1 : ¬ (i : Int) < jz := by omega
   have t1' : decide ((i : Int) < jz) = false := decide_eq_false t1
   clear hjz hr HI
   go_wp2_with fail
   go_returns
   exact ⟨rfl, HRr.out, hf⟩
/-- append of a row that is read to a row of the call's own. -/
theorem appR {ops : Array Oper} {rest : List Oper} {o : Oper} {a : Act} {Q : Exit → Act → World → Prop} {w w1 : World} {v1 : Value} {A : Option Addr} {cap : Nat} {xs l : List S27} (hgd : o.guard = none) (s x : Operand)
  (ho : o.op = .call { callee := .builtin .append, args := #[s, x], argTypes := #[22, 22] })
  (hs : a.eval s = v1) (hx : a.eval x = .slice A l.length cap) (ho1 : Kd.R k27 27 w1 w.heap.size (fun _ => True) v1 xs) (hb1 : Below w.heap.size w w1) (hC : Kd.C k27 w A l.length l) (hl : xs.length + l.length ≤ 1000000)
  (h : ∀ v2 w2, Kd.R k27 27 w2 w.heap.size (fun _ => True) v2 (xs ++ l) → Below w.heap.size w w2 → wpList Try.prog ops Q rest (a.put o.dst v2) w2) : wpList Try.prog ops Q (o :: rest) a w1 := by
 refine Kd.R_append_rows k27 (Rr := k27.K w) (w0 := w) w.heap.size hgd s x 22 27 (.agg #[.int .i64 0, .int .i64 0, .int .i64 0, .int .i64 0, .int .i64 0]) 40 ho Try.underlying22 info27 rfl (by decide) (by omega) v1 xs l A l.length cap (fun _ => True) (fun _ => False) hs hx ho1 ?_ (fun _ _ h => (k27_open h) ▸ k27_mkM _ _ _ _) (fun _ h => h.elim) (fun _ _ => trivial) hb1 hb1.size (by omega) ?_
 ·exact Kd.C_below hC hb1
 ·intro v2 w2 r b _ _
  exact h v2 w2 r b
set_option maxHeartbeats 4000000 in
theorem grow_at {w : World} {n : Nat} (h0 : 0 < n) (hn : n ≤ 1000) :
  Calls Try.prog 66 #[.slice none 0 0, .int .i64 (n : Int)] w fun e w' => ∃ g cap, e = .returned (.slice (some ⟨g, 0, none⟩) 0 cap) ∧ w.heap.size ≤ g ∧ cap ≤ maxLen ∧ Row w' g cap [] ∧ Fr (fun _ => False) w w' := by
 have t1 : decide ((n : Int) < 0) = false := decide_eq_false (by omega)
 have t2 : decide ((n : Int) > 0) = true := decide_eq_true (by omega)
 have HB := hid (Below.refl w.heap.size w)
 go_enter Try.func66, Try.ntmps66
 go_wp2_with (at_builtin; refine Kd.R_append_zeros k27 (w0 := w) w.heap.size rfl _ _ 22 3 27 (.agg #[.int .i64 0, .int .i64 0, .int .i64 0, .int .i64 0, .int .i64 0]) 40 rfl Try.underlying22 Try.underlying3 info27 rfl (by decide) (by omega) _ [] z27 (n : Int) (fun _ => True) rfl rfl (k27_mkM _ _ _ z27) (fun _ _ => trivial) (Kd.R_nil _ _ _ _ _) (by omega) HB.out (Nat.le_refl _) (by simp; omega) ?_)
 intro v1 w1 r1 b1 _ _
 rcases Row.of_R r1 with ⟨_, e⟩ | ⟨g, cap, rfl, hg, hm, hr⟩
 ·have := congrArg List.length e
  simp at this
  omega
 ·have hlen := hr.len
  rw [List.length_replicate] at hlen
  have hr0 : Row w1 g cap [] := hr.take 0
  simp only [List.length_replicate]
  clear r1 hr
  go_wp2
  go_ret
  exact ⟨g, cap, rfl, hg, hm, hr0, Fr.of_below b1 (Nat.le_refl _) _⟩
theorem R_C {w : World} {base : Nat} {ok : Nat → Prop} {v : Value} {xs : List S27} (h : Kd.R k27 27 w base ok v xs) :
  ∃ A c, v = .slice A xs.length c ∧ xs.length ≤ c ∧ ∀ W, Fr (fun _ => False) w W → Kd.C k27 W A xs.length xs := by
 rcases Row.of_R h with ⟨rfl, rfl⟩ | ⟨g, cap, rfl, hg, hm, hr⟩
 ·exact ⟨none, 0, rfl, Nat.le_refl _, fun W k => ⟨rfl, by simp, fun h => absurd h (by simp)⟩⟩
 ·exact ⟨_, cap, rfl, hr.len, fun W k => (hr.fr k (fun h => h)).toC hm⟩
theorem row_R {w : World} {base : Nat} {v : Value} {xs : List S27} (h : Kd.R k27 27 w base (fun _ => True) v xs) (h0 : 0 < xs.length) : ∃ g cap, v = .slice (some ⟨g, 0, none⟩) xs.length cap ∧ base ≤ g ∧ cap ≤ maxLen ∧ Row w g cap xs := by
 rcases Row.of_R h with ⟨_, rfl⟩ | h
 ·simp at h0
 ·exact h
set_option maxHeartbeats 4000000 in
theorem concat_at {w : World} {b c0 c1 c2 : Nat} {A1 A2 : Option Addr} {L1 L2 : List S27} (hb : Blk w b #[.slice A1 L1.length c1, .slice A2 L2.length c2] 22) (h1 : Kd.C k27 w A1 L1.length L1) (h2 : Kd.C k27 w A2 L2.length L2) (h0 : 0 < L1.length) (hn : L1.length + L2.length ≤ 1000) :
  Calls Try.prog 32 #[.slice (some ⟨b, 0, none⟩) 2 c0] w fun e w' => ∃ g cap, e = .returned (.slice (some ⟨g, 0, none⟩) (L1 ++ L2).length cap) ∧ w.heap.size ≤ g ∧ cap ≤ maxLen ∧ Row w' g cap (L1 ++ L2) ∧ Fr (fun _ => False) w w' := by
 have H1 := hid h1
 have H2 := hid h2
 have hbl := hb.lt
 have b0 : w.cell? ⟨b, 0, none⟩ = some (.slice A1 L1.length c1) := hb.cell 0
 have b1 : w.cell? ⟨b, 1, none⟩ = some (.slice A2 L2.length c2) := hb.cell 1
 have HBl := hid hb
 clear h1 h2 hb
 go_enter Try.func32, Try.ntmps32
 go_wp2_with fail
 go_loopw [3, 11] (fun v3 v11 wr => ∃ (i s : Nat), i ≤ 2 ∧ (i = 0 ∧ s = 0 ∨ i = 1 ∧ s = L1.length ∨ i = 2 ∧ s = L1.length + L2.length) ∧ v3 = .int .i64 (s : Int) ∧ v11 = .int .i64 (i : Int) ∧ wr = w) (fun _ v11 _ => 2 - (intOf v11).toNat)
 case atStart => exact ⟨0, 0, by omega, .inl ⟨rfl, rfl⟩, rfl, rfl, rfl⟩
 case round =>
  obtain ⟨i, s, hi, hcs, rfl, rfl, rfl⟩ := hrel
  obtain ⟨w, rfl⟩ : ∃ w : World, w = wr := ⟨_, rfl⟩
  rcases hcs with ⟨rfl, rfl⟩ | ⟨rfl, rfl⟩ | ⟨rfl, rfl⟩
  ·have t1 : decide ((L1.length : Int) < 0) = false := decide_eq_false (by omega)
   go_wp2_with fail
   go_roundw
   case rel => exact ⟨1, L1.length, by omega, by simp, by go_num, by first | rfl | trivial, by first | rfl | trivial⟩
   case measure => simp [intOf]
  ·have t1 : decide ((L1.length : Int) + (L2.length : Int) < 0) = false := decide_eq_false (by omega)
   go_wp2_with fail
   go_roundw
   case rel => exact ⟨2, L1.length + L2.length, by omega, by simp, by go_num, by first | rfl | trivial, by first | rfl | trivial⟩
   case measure => simp [intOf]
  ·have HG := hid (grow_at (w := w) (n := L1.length + L2.length) (by omega) hn)
   go_wp2_with fail
   refine HG.out.mono ?_
   rintro e w1 ⟨g, cap, rfl, hg, hm, hr, k1⟩
   clear HG
   have HR0 := hid (hr.to_R hg hm)
   have bl1 := HBl.out.fr k1 (fun h => h)
   have hbl1 := bl1.lt
   have p0 : w1.cell? ⟨b, 0, none⟩ = some (.slice A1 L1.length c1) := bl1.cell 0
   have p1 : w1.cell? ⟨b, 1, none⟩ = some (.slice A2 L2.length c2) := bl1.cell 1
   have K1 := hid k1
   clear hr hi
   go_wp2_with fail
   go_loopw [6, 27] (fun v6 v27 wr => ∃ (i : Nat) (X : List S27), (i = 0 ∧ X = [] ∨ i = 1 ∧ X = L1 ∨ i = 2 ∧ X = L1 ++ L2) ∧ (∃ g cap, v6 = .slice (some ⟨g, 0, none⟩) X.length cap) ∧ Hid (Kd.R k27 27 wr w.heap.size (fun _ => True) v6 X) ∧ v27 = .int .i64 (i : Int) ∧ Below w.heap.size w wr) (fun _ v27 _ => 2 - (intOf v27).toNat)
   case atStart => exact ⟨0, [], .inl ⟨rfl, rfl⟩, ⟨g, cap, rfl⟩, HR0, rfl, K1.out.below⟩
   case round =>
    clear p0 p1 bl1 hbl1 hg hm HR0 K1
    obtain ⟨i, X, hcs, ⟨g, cap, rfl⟩, HX, rfl, hf⟩ := hrel
    have hfr : Fr (fun _ => False) w wr := Fr.of_below hf (Nat.le_refl _) _
    have bl1 := HBl.out.fr hfr (fun h => h)
    have hbl1 := bl1.lt
    have p0 : wr.cell? ⟨b, 0, none⟩ = some (.slice A1 L1.length c1) := bl1.cell 0
    have p1 : wr.cell? ⟨b, 1, none⟩ = some (.slice A2 L2.length c2) := bl1.cell 1
    have HF := hid hf
    clear bl1
    rcases hcs with ⟨rfl, rfl⟩ | ⟨rfl, rfl⟩ | ⟨rfl, rfl⟩
    ·go_wp2_with (at_builtin; refine appR rfl _ _ rfl rfl rfl HX.out HF.out H1.out (by simp; omega) ?_)
     intro v2 w2 r2 b2
     obtain ⟨g2, cap2, rfl, _, _, _⟩ := row_R r2 h0
     clear p0 p1 hbl1
     go_wp2_with fail
     go_roundw
     case rel => exact ⟨1, L1, by simp, ⟨g2, cap2, rfl⟩, hid r2, rfl, b2⟩
     case measure => simp [intOf]
    ·obtain ⟨L1, rfl⟩ : ∃ L1, L1 = X := ⟨_, rfl⟩
     go_wp2_with (at_builtin; refine appR rfl _ _ rfl rfl rfl HX.out HF.out H2.out (by omega) ?_)
     intro v2 w2 r2 b2
     obtain ⟨g2, cap2, rfl, _, _, _⟩ := row_R r2 (by simp; omega)
     clear p0 p1 hbl1
     go_wp2_with fail
     go_roundw
     case rel => exact ⟨2, L1 ++ L2, by simp, ⟨g2, cap2, rfl⟩, hid r2, rfl, b2⟩
     case measure => simp [intOf]
    ·obtain ⟨g2, cap2, e2, h3, h4, h5⟩ := row_R HX.out (by simp; omega)
     clear p0 p1 hbl1
     injection e2 with e3 e4 e5
     injection e3 with e3
     injection e3 with e3
     subst e3 e5
     go_wp2_with fail
     go_ret
     exact ⟨g, cap, rfl, h3, h4, h5, hfr⟩
end Go.Proofs.Ytapagoaoglmegaa
