/- Timers: one timer fires, or none. -/
import Derived.Test.YtkcfhdnlmdndeaaTmSet
import Derived.Deep.DeepCutAuto
namespace Go.Proofs.Ytkcfhdnlmdndeaa
open Go.RowKit Go.Proofs.YtkcfhdnlmdndeaaW.PrintWords Go.Proofs.YtkcfhdnlmdndeaaW.PrintLast Go.Proofs.YtkcfhdnlmdndeaaW.PrintMore PHp
set_option linter.unusedVariables false
set_option linter.unusedSimpArgs false
set_option maxRecDepth 100000
/-- What is told of a timer that fires: id, kind, instant, Every, how late, how many missed. -/
abbrev Fd := Int × Bool × Int × Int × Int × Int
def enc6 (f : Fd) : List Value := [.int .u64 f.1, .bool f.2.1, .int .i64 f.2.2.1, .int .i64 f.2.2.2.1, .int .i64 f.2.2.2.2.1, .int .i64 f.2.2.2.2.2]
@[reducible] def vF (f : Fd) : Value := .agg #[.int .u64 f.1, .bool f.2.1, .int .i64 f.2.2.1, .int .i64 f.2.2.2.1, .int .i64 f.2.2.2.2.1, .int .i64 f.2.2.2.2.2]
def mss (e now : Int) (y : It) : Int := if 0 < e then (now - y.f2) / e else 0
def fd (k : Bool) (e now : Int) (y : It) : Fd := (y.f0, k, y.f2, e, now - y.f2, mss e now y)
/-- When it fires again. -/
def nxt (e now : Int) (y : It) : List It := if e = 0 ∨ MT - (y.f2 + mss e now y * e) < e then [] else [⟨y.f0, y.f1, y.f2 + (mss e now y + 1) * e⟩]
theorem Blk.c6 {w : World} {b : Nat} {x y z u v q : Value} {t : TypeId} (h : Blk w b #[x, y, z, u, v, q] t) : w.cell? ⟨b, 0, none⟩ = some x ∧ w.cell? ⟨b, 1, none⟩ = some y ∧ w.cell? ⟨b, 2, none⟩ = some z ∧ w.cell? ⟨b, 3, none⟩ = some u ∧ w.cell? ⟨b, 4, none⟩ = some v ∧ w.cell? ⟨b, 5, none⟩ = some q :=
 ⟨h.cell 0, h.cell 1, h.cell 2, h.cell 3, h.cell 4, h.cell 5⟩
theorem Blk.q6 {w : World} {b : Nat} {cs : Array Value} {t : TypeId} (h : Blk w b cs t) : w.frozen? ⟨b, 0, none⟩ = false ∧ w.frozen? ⟨b, 1, none⟩ = false ∧ w.frozen? ⟨b, 2, none⟩ = false ∧ w.frozen? ⟨b, 3, none⟩ = false ∧ w.frozen? ⟨b, 4, none⟩ = false ∧ w.frozen? ⟨b, 5, none⟩ = false :=
 ⟨h.free 0, h.free 1, h.free 2, h.free 3, h.free 4, h.free 5⟩
theorem first_is {L R : List It} {y : It} (hu : Uniq L) (ho : Ok L) (p : L.Perm (y :: R)) (hmin : ∀ z ∈ R, itLt y z) : nth L 0 = y ∧ decide (0 < L.length) = true := by
 obtain ⟨j, h1, h2, h3⟩ := place_of_perm hu p
 have h0 : 0 < L.length := by omega
 refine ⟨?_, decide_eq_true h0⟩
 rcases List.mem_cons.1 (p.subset (nth_mem h0)) with h | h
 ·exact h
 ·have := ok_min ho j h3
  rw [h2] at this
  exact absurd (hmin _ h) this
def vF0 : Value := .agg #[.int .u64 0, .bool false, .int .i64 0, .int .i64 0, .int .i64 0, .int .i64 0]
section
variable {w : World} {x : Nat} {b : Bool → Nat} {F : Nat → Prop} {M : Bool → List It} {E : Bool → Int} {id seq : Int}
set_option maxHeartbeats 4000000 in
theorem fire_no (h : TS w x b F M E id seq) (k : Bool) {now : Int} (hno : ∀ y ∈ M k, now < y.f2) :
  Calls Try.prog 55 #[.pointer (some ⟨x, 0, none⟩), .pointer (some ⟨b k, 0, none⟩), .int .i64 now] w fun r w' => r = .returned (.tuple #[vF0, .bool false]) ∧ Fr (fun _ => False) w w' := by
 obtain ⟨m, v, L, tm, n, T, hr, ti, hp, _, _, hF⟩ := h
 unfold vF0
 obtain ⟨⟨i, s, ya⟩, hc⟩ : ∃ c, c = nth (L k) 0 := ⟨_, rfl⟩
 have hmin := fun W (f : Fr (fun _ => False) w W) => min_hp ((hr.fr0 f).hp k)
 rw [← hc] at hmin
 have HMIN := hid hmin
 by_cases h0 : 0 < (L k).length
 ·have t1 : now < ya := by
   have := hno _ ((hp k).subset (nth_mem h0))
   rw [← hc] at this
   exact this
  have HD := hid (decide_eq_true h0)
  clear hr ti hp hF hno hc hmin h0
  go_enter Try.func55, Try.ntmps55
  go_wp2_with fail
  generalize hW : World.alloc w _ = W
  have f0 : Fr (fun _ => False) w W := by subst hW; (repeat' (first | (with_reducible exact Fr.refl _ _) | (with_reducible assumption) | (with_reducible refine Fr.alloc ?_ _) | (with_reducible refine Fr.drew ?_) | (with_reducible refine Fr.drewN ?_ _) | (with_reducible refine Fr.setCell ?_ _ _ ?_) | (exact Or.inr rfl) | (left; simp; done) | (left; simp; omega) | (simp; done) | (simp; omega) | omega))
  have bR : Blk W w.heap.size #[.int .u64 0, .bool false, .int .i64 0, .int .i64 0, .int .i64 0, .int .i64 0] 77 := by subst hW; (repeat' (first | (with_reducible assumption) | (with_reducible apply Blk.drew) | (with_reducible apply Blk.drewN) | (with_reducible apply Blk.set) | (with_reducible apply Blk.other) | (exact Blk.new' _ _ _ (by first | rfl | (simp; done) | (simp; omega))) | (with_reducible apply Blk.alloc) | (with_reducible rfl) | (simp; done) | (simp; omega) | omega | rfl))
  clear hW
  refine (HMIN.out W f0).mono ?_
  rw [HD.out]
  rintro e' w1 ⟨rfl, k1⟩
  go_upto_region 3 with fail
  generalize hW : World.alloc w1 _ = W2
  have f2 : Fr (fun _ => False) w1 W2 := by subst hW; (repeat' (first | (with_reducible exact Fr.refl _ _) | (with_reducible assumption) | (with_reducible refine Fr.alloc ?_ _) | (with_reducible refine Fr.drew ?_) | (with_reducible refine Fr.drewN ?_ _) | (with_reducible refine Fr.setCell ?_ _ _ ?_) | (exact Or.inr rfl) | (left; simp; done) | (left; simp; omega) | (simp; done) | (simp; omega) | omega))
  have bR2 := (bR.fr k1 (fun h => h)).fr f2 (fun h => h)
  clear hW
  obtain ⟨r0, r1, r2, r3, r4, r5⟩ := bR2.c6
  obtain ⟨q0, q1, q2, q3, q4, q5⟩ := bR2.q6
  have hl := bR2.lt
  have ff := (f0.trans k1 (fun _ _ h => h)).trans f2 (fun _ _ h => h)
  go_wp2_with fail
  generalize hW : World.setCell _ _ _ = W3
  have b3 : Blk W3 w.heap.size #[.int .u64 0, .bool false, .int .i64 0, .int .i64 0, .int .i64 0, .int .i64 0] 77 := by subst hW; exact ((((((bR2.set rfl).set rfl).set rfl).set rfl).set rfl).set rfl)
  have f3 : Fr (fun _ => False) w W3 := by subst hW; (repeat' (first | (with_reducible exact Fr.refl _ _) | (with_reducible assumption) | (with_reducible refine Fr.alloc ?_ _) | (with_reducible refine Fr.drew ?_) | (with_reducible refine Fr.drewN ?_ _) | (with_reducible refine Fr.setCell ?_ _ _ ?_) | (exact Or.inr rfl) | (left; simp; done) | (left; simp; omega) | (simp; done) | (simp; omega) | omega))
  refine bodyPost_ret (results_ct rfl _ _ _ 77 _ (0, 0) _ rfl b3 Try.underlying77 rfl (by kernel_rfl)) rfl ?_
  exact ⟨rfl, f3⟩
 ·have HD := hid (decide_eq_false h0)
  clear hr ti hp hF hno hc hmin h0
  go_enter Try.func55, Try.ntmps55
  go_wp2_with fail
  generalize hW : World.alloc w _ = W
  have f0 : Fr (fun _ => False) w W := by subst hW; (repeat' (first | (with_reducible exact Fr.refl _ _) | (with_reducible assumption) | (with_reducible refine Fr.alloc ?_ _) | (with_reducible refine Fr.drew ?_) | (with_reducible refine Fr.drewN ?_ _) | (with_reducible refine Fr.setCell ?_ _ _ ?_) | (exact Or.inr rfl) | (left; simp; done) | (left; simp; omega) | (simp; done) | (simp; omega) | omega))
  have bR : Blk W w.heap.size #[.int .u64 0, .bool false, .int .i64 0, .int .i64 0, .int .i64 0, .int .i64 0] 77 := by subst hW; (repeat' (first | (with_reducible assumption) | (with_reducible apply Blk.drew) | (with_reducible apply Blk.drewN) | (with_reducible apply Blk.set) | (with_reducible apply Blk.other) | (exact Blk.new' _ _ _ (by first | rfl | (simp; done) | (simp; omega))) | (with_reducible apply Blk.alloc) | (with_reducible rfl) | (simp; done) | (simp; omega) | omega | rfl))
  clear hW
  refine (HMIN.out W f0).mono ?_
  rw [HD.out]
  rintro e' w1 ⟨rfl, k1⟩
  go_upto_region 3 with fail
  generalize hW : World.alloc w1 _ = W2
  have f2 : Fr (fun _ => False) w1 W2 := by subst hW; (repeat' (first | (with_reducible exact Fr.refl _ _) | (with_reducible assumption) | (with_reducible refine Fr.alloc ?_ _) | (with_reducible refine Fr.drew ?_) | (with_reducible refine Fr.drewN ?_ _) | (with_reducible refine Fr.setCell ?_ _ _ ?_) | (exact Or.inr rfl) | (left; simp; done) | (left; simp; omega) | (simp; done) | (simp; omega) | omega))
  have bR2 := (bR.fr k1 (fun h => h)).fr f2 (fun h => h)
  clear hW
  obtain ⟨r0, r1, r2, r3, r4, r5⟩ := bR2.c6
  obtain ⟨q0, q1, q2, q3, q4, q5⟩ := bR2.q6
  have hl := bR2.lt
  have ff := (f0.trans k1 (fun _ _ h => h)).trans f2 (fun _ _ h => h)
  go_wp2_with fail
  generalize hW : World.setCell _ _ _ = W3
  have b3 : Blk W3 w.heap.size #[.int .u64 0, .bool false, .int .i64 0, .int .i64 0, .int .i64 0, .int .i64 0] 77 := by subst hW; exact ((((((bR2.set rfl).set rfl).set rfl).set rfl).set rfl).set rfl)
  have f3 : Fr (fun _ => False) w W3 := by subst hW; (repeat' (first | (with_reducible exact Fr.refl _ _) | (with_reducible assumption) | (with_reducible refine Fr.alloc ?_ _) | (with_reducible refine Fr.drew ?_) | (with_reducible refine Fr.drewN ?_ _) | (with_reducible refine Fr.setCell ?_ _ _ ?_) | (exact Or.inr rfl) | (left; simp; done) | (left; simp; omega) | (simp; done) | (simp; omega) | omega))
  refine bodyPost_ret (results_ct rfl _ _ _ 77 _ (0, 0) _ rfl b3 Try.underlying77 rfl (by kernel_rfl)) rfl ?_
  exact ⟨rfl, f3⟩
/-- What the look-up reads. -/
def LkT (W : World) (x tm b : Nat) (i : Int) (r : Value) (w' : World) : Prop :=
 w'.cell? ⟨x, 2, none⟩ = some (.map (some tm)) ∧ w'.cell? ⟨b, 0, none⟩ = some (.int .u64 i) ∧ (Instr.lookup 101 (.map (some tm)) (.int .u64 i) false).run Try.prog w' = .ok r w' ∧ Fr (fun _ => False) W w'
theorem mss_pos {e now i s a : Int} (h : 0 < e) : mss e now ⟨i, s, a⟩ = (now - a) / e := by unfold mss; rw [if_pos h]
theorem nxt_none {e now i s a q : Int} (hm : mss e now ⟨i, s, a⟩ = q) (h : 4611686018427387904 - (a + q * e) < e) : nxt e now ⟨i, s, a⟩ = [] := by
 unfold nxt; rw [hm]; exact if_pos (Or.inr h)
theorem nxt_some {e now i s a q : Int} (hm : mss e now ⟨i, s, a⟩ = q) (h : ¬ 4611686018427387904 - (a + q * e) < e) (he : 0 < e) : nxt e now ⟨i, s, a⟩ = [⟨i, s, a + (q + 1) * e⟩] := by
 unfold nxt; rw [hm]; exact if_neg (by show ¬ (e = 0 ∨ 4611686018427387904 - (a + q * e) < e); omega)
set_option maxHeartbeats 8000000 in
theorem fire_yes (h : TS w x b F M E id seq) (k : Bool) {now : Int} {y : It} {R : List It} (p : (M k).Perm (y :: R)) (hmin : ∀ z ∈ R, itLt y z) (hy : y.f2 ≤ now) (hnow : now ≤ MT) :
  Calls Try.prog 55 #[.pointer (some ⟨x, 0, none⟩), .pointer (some ⟨b k, 0, none⟩), .int .i64 now] w fun r w' => r = .returned (.tuple #[vF (fd k (E k) now y), .bool true]) ∧
   ∃ F', TS w' x b F' (upd M k (nxt (E k) now y ++ R)) E id seq ∧ Fr F w w' ∧ ∀ i, F' i → F i ∨ w.heap.size ≤ i := by
 have H := hid h
 obtain ⟨m, v, L, tm, n, T, hr, ti, hp, ⟨hi0, hi1⟩, ⟨hs0, hs1⟩, hF⟩ := h
 have pL := (hp k).trans p
 obtain ⟨hfst, hlen⟩ := first_is (hr.hp k).uniq (ti.ok k) pL hmin
 have hyk : y ∈ L k := pL.mem_iff.2 (List.mem_cons_self ..)
 have hT := ti.t k y hyk
 have hidy := ti.ids k y hyk
 have hat := ti.ats k y hyk
 have hev := ti.evs k
 have hok := (hr.hp k).ok y hyk
 have hmin0 := fun W (f : Fr (fun _ => False) w W) => min_hp ((hr.fr0 f).hp k)
 rw [hfst, hlen] at hmin0
 obtain ⟨i, s, ya⟩ := y
 simp only at hT hidy hat hy
 obtain ⟨ek, hek⟩ : ∃ ek, ek = E k := ⟨_, rfl⟩
 rw [← hek] at hT hev ⊢
 obtain ⟨ha0, ha1⟩ := hat
 obtain ⟨he0, he1⟩ := hev
 have wid := wfU (i := i) (by omega)
 have HMIN := hid hmin0
 have HT := hid hT
 have HR := hid hr
 have HTI := hid ti
 have HP_ := hid hp
 have HF := hid hF
 have HEK := hid hek
 have HPL := hid pL
 have HPM := hid p
 have HOK := hid hok
 have WID := hid wid
 unfold MT at hnow he1 ha1
 clear hr ti hp hF hmin hyk hT hidy hok hmin0 hfst hlen hek pL p wid
 unfold vF fd
 go_enter Try.func55, Try.ntmps55
 go_wp2_with fail
 generalize hW : World.alloc w _ = W
 have f0 : Fr (fun _ => False) w W := by subst hW; (repeat' (first | (with_reducible exact Fr.refl _ _) | (with_reducible assumption) | (with_reducible refine Fr.alloc ?_ _) | (with_reducible refine Fr.drew ?_) | (with_reducible refine Fr.drewN ?_ _) | (with_reducible refine Fr.setCell ?_ _ _ ?_) | (exact Or.inr rfl) | (left; simp; done) | (left; simp; omega) | (simp; done) | (simp; omega) | omega))
 have bR : Blk W w.heap.size #[.int .u64 0, .bool false, .int .i64 0, .int .i64 0, .int .i64 0, .int .i64 0] 77 := by subst hW; (repeat' (first | (with_reducible assumption) | (with_reducible apply Blk.drew) | (with_reducible apply Blk.drewN) | (with_reducible apply Blk.set) | (with_reducible apply Blk.other) | (exact Blk.new' _ _ _ (by first | rfl | (simp; done) | (simp; omega))) | (with_reducible apply Blk.alloc) | (with_reducible rfl) | (simp; done) | (simp; omega) | omega | rfl))
 clear hW
 refine (HMIN.out W f0).mono ?_
 rintro e' w1 ⟨rfl, k1⟩
 have f1 := f0.trans k1 (fun _ _ h => h)
 have hsz1 := f1.size
 have hgt : ¬ now < ya := by omega
 go_upto_region 4 with fail
 generalize hW : World.alloc w1 _ = W2
 have f12 : Fr (fun _ => False) w1 W2 := by subst hW; (repeat' (first | (with_reducible exact Fr.refl _ _) | (with_reducible assumption) | (with_reducible refine Fr.alloc ?_ _) | (with_reducible refine Fr.drew ?_) | (with_reducible refine Fr.drewN ?_ _) | (with_reducible refine Fr.setCell ?_ _ _ ?_) | (exact Or.inr rfl) | (left; simp; done) | (left; simp; omega) | (simp; done) | (simp; omega) | omega))
 have f2 := f1.trans f12 (fun _ _ h => h)
 have bR2 := (bR.fr k1 (fun h => h)).fr f12 (fun h => h)
 have bY : Blk W2 w1.heap.size #[.int .u64 i, .int .u64 s, .int .i64 ya] 24 := by subst hW; (repeat' (first | (with_reducible assumption) | (with_reducible apply Blk.drew) | (with_reducible apply Blk.drewN) | (with_reducible apply Blk.set) | (with_reducible apply Blk.other) | (exact Blk.new' _ _ _ (by first | rfl | (simp; done) | (simp; omega))) | (with_reducible apply Blk.alloc) | (with_reducible rfl) | (simp; done) | (simp; omega) | omega | rfl))
 have o1 : w.heap.size < w1.heap.size := (bR.fr k1 (fun h => h)).lt
 have o2 : w1.heap.size < W2.heap.size := bY.lt
 clear hW bR k1 f0 f12
 have nx : x < w.heap.size := HR.out.blk.lt
 have mk : ∀ w3, Fr (fun _ => False) W2 w3 → LkT W2 x tm w1.heap.size i (tV k ya ek) w3 := fun w3 f =>
  ⟨((HR.out.fr0 f2).fr0 f).blk.cell 2, (bY.fr f (fun h => h)).cell 0, ((HR.out.fr0 f2).fr0 f).look WID.out HT.out, f⟩
 have msd := mk _ (Fr.drew (Fr.refl _ _))
 have MK := hid mk
 clear mk
 refine start_ (n := 9) (S := fun w' => w'.cell? ⟨x, 2, none⟩ = some (.map (some tm)) ∧ w'.cell? ⟨w1.heap.size, 0, none⟩ = some (.int .u64 i) ∧ (Instr.lookup 101 (.map (some tm)) (.int .u64 i) false).run Try.prog w' = .ok (tV k ya ek) w' ∧ Fr (fun _ => False) W2 w') (ds := []) #[oN,oN,oN,oN,oN,oN,oN,oN,oN] (by kernel_rfl) rfl rfl ⟨msd.1, msd.2.1, msd.2.2.1, msd.2.2.2⟩ (fun hHeld => ?_)
 refine pure_ (i := 0) (N := some 26) (v := ?_) (a' := ?_) #[oY,oN,oN,oN,oN,oN,oN,oN,oN] rfl rfl (by kernel_rfl) (fun _ _ _ h => h) (Or.inl ⟨by rfl, ?_⟩) ?_ ?_
 rotate_left
 ·intro w'
  go_simp
  with_reducible rfl
 rotate_left
 ·simp only [Act.put, List.setIfInBounds_toArray, List.set_cons_zero, List.set_cons_succ, i64_w, i32_w]
  rfl
 refine pure_ (i := 1) (N := some 27) (v := ?_) (a' := ?_) #[oY,oY,oN,oN,oN,oN,oN,oN,oN] rfl rfl (by kernel_rfl) (fun _ _ _ h => h) (Or.inl ⟨by rfl, ?_⟩) ?_ ?_
 rotate_left
 ·intro w'
  go_simp
  with_reducible rfl
 rotate_left
 ·simp only [Act.put, List.setIfInBounds_toArray, List.set_cons_zero, List.set_cons_succ, i64_w, i32_w]
  rfl
 refine pure_ (i := 2) (N := some 28) (v := ?_) (a' := ?_) #[oY,oY,oY,oN,oN,oN,oN,oN,oN] rfl rfl (by kernel_rfl) (fun _ _ _ h => h) (Or.inl ⟨by rfl, ?_⟩) ?_ ?_
 rotate_left
 ·intro w'
  go_simp
  with_reducible rfl
 rotate_left
 ·simp only [Act.put, List.setIfInBounds_toArray, List.set_cons_zero, List.set_cons_succ, i64_w, i32_w]
  rfl
 refine pure_ (i := 4) (N := some 30) (v := ?_) (a' := ?_) #[oY,oY,oY,oN,oY,oN,oN,oN,oN] rfl rfl (by kernel_rfl) (fun _ _ _ h => h) (Or.inl ⟨by rfl, ?_⟩) ?_ ?_
 rotate_left
 ·intro w'
  go_simp
  with_reducible rfl
 rotate_left
 ·simp only [Act.put, List.setIfInBounds_toArray, List.set_cons_zero, List.set_cons_succ, i64_w, i32_w]
  rfl
 refine take_ (i := 3) (N := some 29) (v := ?_) (a' := ?_) #[oY,oY,oY,oY,oY,oN,oN,oN,oN] rfl rfl (by kernel_rfl) (fun _ _ _ h => h) (Or.inl ⟨by rfl, ?_⟩) hHeld ?_ ?_
 rotate_left
 ·rintro w' ⟨s0, s1, s2, s3⟩
  go_simp
  with_reducible rfl
 rotate_left
 ·simp only [Act.put, List.setIfInBounds_toArray, List.set_cons_zero, List.set_cons_succ, i64_w, i32_w]
  rfl
 refine take_ (i := 5) (N := some 31) (v := ?_) (a' := ?_) #[oY,oY,oY,oY,oY,oY,oN,oN,oN] rfl rfl (by kernel_rfl) (fun _ _ _ h => h) (Or.inl ⟨by rfl, ?_⟩) hHeld ?_ ?_
 rotate_left
 ·rintro w' ⟨s0, s1, s2, s3⟩
  go_simp
  with_reducible rfl
 rotate_left
 ·simp only [Act.put, List.setIfInBounds_toArray, List.set_cons_zero, List.set_cons_succ, i64_w, i32_w]
  rfl
 refine take_ (i := 6) (N := some 32) (v := ?_) (a' := ?_) #[oY,oY,oY,oY,oY,oY,oY,oN,oN] rfl rfl (by kernel_rfl) (fun _ _ _ h => h) (Or.inl ⟨by rfl, ?_⟩) hHeld ?_ ?_
 rotate_left
 ·rintro w' ⟨s0, s1, s2, s3⟩
  go_simp
  with_reducible rfl
 rotate_left
 ·simp only [Act.put, List.setIfInBounds_toArray, List.set_cons_zero, List.set_cons_succ, i64_w, i32_w]
  rfl
 refine one_ (i := 7) (N := some 10) #[oY,oY,oY,oY,oY,oY,oY,oY,oN] rfl rfl (by kernel_rfl) (by decide) (fun K hK => ?_)
 refine value_ (w1 := ?_) (v := ?_) (by rfl) rfl ?_ ?_
 rotate_left 2
 ·go_simp
  constructor
  ·rfl
  ·rfl
 generalize hW : World.drew (World.alloc W2 _) = w3
 have bT : Blk w3 W2.heap.size #[.bool false, .int .i64 0, .int .i64 0] 69 := by subst hW; (repeat' (first | (with_reducible assumption) | (with_reducible apply Blk.drew) | (with_reducible apply Blk.drewN) | (with_reducible apply Blk.set) | (with_reducible apply Blk.other) | (exact Blk.new' _ _ _ (by first | rfl | (simp; done) | (simp; omega))) | (with_reducible apply Blk.alloc) | (with_reducible rfl) | (simp; done) | (simp; omega) | omega | rfl))
 have f23 : Fr (fun _ => False) W2 w3 := by subst hW; (repeat' (first | (with_reducible exact Fr.refl _ _) | (with_reducible assumption) | (with_reducible refine Fr.alloc ?_ _) | (with_reducible refine Fr.drew ?_) | (with_reducible refine Fr.drewN ?_ _) | (with_reducible refine Fr.setCell ?_ _ _ ?_) | (exact Or.inr rfl) | (left; simp; done) | (left; simp; omega) | (simp; done) | (simp; omega) | omega))
 have ms3 := MK.out _ f23
 clear hW
 refine hK.out _ _ ⟨ms3.1, ms3.2.1, ms3.2.2.1, ms3.2.2.2⟩ (fun hHeld => ?_)
 clear hK K
 refine norm_ (a' := ?_) ?_ ?_
 rotate_left
 ·show Act.put _ (some 10) _ = _
  simp only [Act.put, List.setIfInBounds_toArray, List.set_cons_zero, List.set_cons_succ, i64_w, i32_w]
  rfl
 refine one_ (i := 8) (N := none) #[oY,oY,oY,oY,oY,oY,oY,oY,oY] rfl rfl (by kernel_rfl) (by decide) (fun K hK => ?_)
 obtain ⟨e0, e1, e2, e3, e4, e5⟩ := bT.c3
 refine skip_ (w1 := ?_) (by rfl) rfl ?_ ?_
 rotate_left
 ·go_simp
  rfl
 generalize hW : World.setCell (World.setCell (World.setCell w3 _ _) _ _) _ _ = w4
 have f24 : Fr (fun _ => False) W2 w4 := by subst hW; (repeat' (first | (with_reducible exact Fr.refl _ _) | (with_reducible assumption) | (with_reducible refine Fr.alloc ?_ _) | (with_reducible refine Fr.drew ?_) | (with_reducible refine Fr.drewN ?_ _) | (with_reducible refine Fr.setCell ?_ _ _ ?_) | (exact Or.inr rfl) | (left; simp; done) | (left; simp; omega) | (simp; done) | (simp; omega) | omega))
 have bT4 : Blk w4 W2.heap.size #[.bool k, .int .i64 ya, .int .i64 ek] 69 := by subst hW; exact bT.set3 _ _ _
 have ms4 := MK.out _ f24
 clear hW e0 e1 e2 e3 e4 e5
 refine hK.out _ _ ⟨ms4.1, ms4.2.1, ms4.2.2.1, ms4.2.2.2⟩ (fun hHeld => ?_)
 clear hK K
 refine done_ (by kernel_rfl) ?_
 clear hHeld ms3 ms4 msd MK bT
 have f4 := f2.trans f24 (fun _ _ h => h)
 have bY4 := bY.fr f24 (fun h => h)
 have bR4 := bR2.fr f24 (fun h => h)
 clear bY bR2 f23
 obtain ⟨y0, y1, y2, _⟩ := bY4.c3
 obtain ⟨t0, t1, t2, _⟩ := bT4.c3
 have ly4 := bY4.lt
 have lt4 := bT4.lt
 go_upto_region 6 with fail
 generalize hW : World.alloc w4 _ = W5
 have f45 : Fr (fun _ => False) w4 W5 := by subst hW; (repeat' (first | (with_reducible exact Fr.refl _ _) | (with_reducible assumption) | (with_reducible refine Fr.alloc ?_ _) | (with_reducible refine Fr.drew ?_) | (with_reducible refine Fr.drewN ?_ _) | (with_reducible refine Fr.setCell ?_ _ _ ?_) | (exact Or.inr rfl) | (left; simp; done) | (left; simp; omega) | (simp; done) | (simp; omega) | omega))
 have bF5 : Blk W5 w4.heap.size #[.int .u64 i, .bool k, .int .i64 ya, .int .i64 ek, .int .i64 (now - ya), .int .i64 0] 77 := by subst hW; (repeat' (first | (with_reducible assumption) | (with_reducible apply Blk.drew) | (with_reducible apply Blk.drewN) | (with_reducible apply Blk.set) | (with_reducible apply Blk.other) | (exact Blk.new' _ _ _ (by first | rfl | (simp; done) | (simp; omega))) | (with_reducible apply Blk.alloc) | (with_reducible rfl) | (simp; done) | (simp; omega) | omega | rfl))
 have hs45 : W5.heap.size = w4.heap.size + 1 := by subst hW; simp
 clear hW y0 y1 y2 t0 t1 t2
 have f5 := f4.trans f45 (fun _ _ h => h)
 have bY5 := bY4.fr f45 (fun h => h)
 have bT5 := bT4.fr f45 (fun h => h)
 have bR5 := bR4.fr f45 (fun h => h)
 have hsz4 := f4.size
 have hlt := H.out.lt
 have HLT := hid hlt
 clear bY4 bT4 bR4 f45 hlt
 obtain ⟨y0, y1, y2, qy0, qy1, qy2⟩ := bY5.c3
 obtain ⟨t0, t1, t2, qt0, qt1, qt2⟩ := bT5.c3
 obtain ⟨p0, p1, p2, p3, p4, p5⟩ := bF5.c6
 have qf5 := bF5.free 5
 have lF5 := bF5.lt
 have HE0 := hid he0
 by_cases hz : ek = 0
 ·subst hz
  go_wp2_with fail
  refine (cancel_at (H.out.fr0 f5) k HPM.out).mono ?_
  rintro r w6 ⟨rfl, F', ts6, f6, hF6⟩
  have bF6 := bF5.fr f6 (fun e => by have := HLT.out _ e; omega)
  have bR6 := bR5.fr f6 (fun e => by have := HLT.out _ e; omega)
  clear y0 y1 y2 t0 t1 t2 qy0 qy1 qy2 qt0 qt1 qt2 p0 p1 p2 p3 p4 p5 qf5 bY5 bT5 bF5 bR5
  obtain ⟨p0, p1, p2, p3, p4, p5⟩ := bF6.c6
  obtain ⟨r0, r1, r2, r3, r4, r5⟩ := bR6.c6
  obtain ⟨q0, q1, q2, q3, q4, q5⟩ := bR6.q6
  have lR6 := bR6.lt
  have lF6 := bF6.lt
  go_wp2_with fail
  generalize hW : World.setCell _ _ _ = W7
  have b7 : Blk W7 w.heap.size #[.int .u64 i, .bool k, .int .i64 ya, .int .i64 0, .int .i64 (now - ya), .int .i64 0] 77 := by subst hW; exact ((((((bR6.set rfl).set rfl).set rfl).set rfl).set rfl).set rfl)
  have f67 : Fr (fun i => i = w.heap.size) w6 W7 := by subst hW; (repeat' (first | (with_reducible exact Fr.refl _ _) | (with_reducible assumption) | (with_reducible refine Fr.alloc ?_ _) | (with_reducible refine Fr.drew ?_) | (with_reducible refine Fr.drewN ?_ _) | (with_reducible refine Fr.setCell ?_ _ _ ?_) | (exact Or.inr rfl) | (left; simp; done) | (left; simp; omega) | (simp; done) | (simp; omega) | omega))
  refine bodyPost_ret (results_ct rfl _ _ _ 77 _ (0, 0) _ rfl b7 Try.underlying77 rfl (by kernel_rfl)) rfl ?_
  refine ⟨rfl, F', ?_, ?_, ?_⟩
  ·have e : nxt 0 now ⟨i, s, ya⟩ = [] := by unfold nxt; rw [if_pos (Or.inl rfl)]
   rw [e, List.nil_append]
   refine ts6.fr f67 (fun j hj e => ?_)
   have e : j = w.heap.size := e
   rcases hF6 j hj with h | h
   ·have := HLT.out _ h; omega
   ·omega
  ·exact ((f5.mono (T := F) (fun _ _ h => h.elim)).trans f6 (fun _ _ h => h)).trans f67 (fun j hj e => by have e : j = w.heap.size := e; omega)
  ·intro j hj
   rcases hF6 j hj with h | h
   ·exact .inl h
   ·exact .inr (by omega)
 ·have hpos : 0 < ek := by have := HE0.out; omega
  have hz' : (ek == 0) = false := by rw [beq_eq_false_iff_ne]; exact hz
  have g0 : 0 ≤ now - ya := by omega
  have g1 : now - ya ≤ 4611686018427387904 := by omega
  clear hz
  go_upto_region 8 with fail
  have q0 : 0 ≤ (now - ya) / ek := Int.ediv_nonneg g0 (by omega)
  have q1 : (now - ya) / ek * ek ≤ now - ya := Int.ediv_mul_le _ (by omega)
  have q2 : 0 ≤ (now - ya) / ek * ek := Int.mul_nonneg q0 (by omega)
  have q3 : (now - ya) / ek ≤ now - ya := by
   have h1 : (now - ya) / ek * 1 ≤ (now - ya) / ek * ek := Int.mul_le_mul_of_nonneg_left (by omega) q0
   omega
  have HMS := hid (mss_pos (e := ek) (now := now) (i := i) (s := s) (a := ya) hpos)
  generalize hW : World.setCell W5 _ _ = W6
  generalize hq : (now - ya) / ek = q at *
  have bF6 : Blk W6 w4.heap.size #[.int .u64 i, .bool k, .int .i64 ya, .int .i64 ek, .int .i64 (now - ya), .int .i64 q] 77 := by subst hW; exact bF5.set rfl
  have f56 : Fr (fun j => j = w4.heap.size) W5 W6 := by subst hW; (repeat' (first | (with_reducible exact Fr.refl _ _) | (with_reducible assumption) | (with_reducible refine Fr.alloc ?_ _) | (with_reducible refine Fr.drew ?_) | (with_reducible refine Fr.drewN ?_ _) | (with_reducible refine Fr.setCell ?_ _ _ ?_) | (exact Or.inr rfl) | (left; simp; done) | (left; simp; omega) | (simp; done) | (simp; omega) | omega))
  have f6 : Fr (fun _ => False) w W6 := f5.trans f56 (fun j hj e => by have e : j = w4.heap.size := e; omega)
  have bY6 := bY5.fr f56 (fun e => by have := bY5.lt; omega)
  have bT6 := bT5.fr f56 (fun e => by omega)
  have bR6 := bR5.fr f56 (fun e => by omega)
  have hs56 := f56.size
  clear hW hq y0 y1 y2 qy0 qy1 qy2 t0 t1 t2 qt0 qt1 qt2 p0 p1 p2 p3 p4 p5 qf5 bF5 bY5 bT5 bR5 f56
  obtain ⟨y0, y1, y2, qy0, qy1, qy2⟩ := bY6.c3
  obtain ⟨t0, t1, t2, qt0, qt1, qt2⟩ := bT6.c3
  obtain ⟨p0, p1, p2, p3, p4, p5⟩ := bF6.c6
  by_cases hc : 4611686018427387904 - (ya + q * ek) < ek
  ·go_wp2_with fail
   refine (cancel_at (H.out.fr0 f6) k HPM.out).mono ?_
   rintro r w7 ⟨rfl, F', ts7, f7, hF7⟩
   have bF7 := bF6.fr f7 (fun e => by have := HLT.out _ e; omega)
   have bR7 := bR6.fr f7 (fun e => by have := HLT.out _ e; omega)
   clear y0 y1 y2 t0 t1 t2 qy0 qy1 qy2 qt0 qt1 qt2 p0 p1 p2 p3 p4 p5 bY6 bT6 bF6 bR6
   obtain ⟨p0, p1, p2, p3, p4, p5⟩ := bF7.c6
   obtain ⟨r0, r1, r2, r3, r4, r5⟩ := bR7.c6
   obtain ⟨d0, d1, d2, d3, d4, d5⟩ := bR7.q6
   have lR7 := bR7.lt
   have lF7 := bF7.lt
   go_wp2_with fail
   generalize hW : World.setCell _ _ _ = W8
   have b8 : Blk W8 w.heap.size #[.int .u64 i, .bool k, .int .i64 ya, .int .i64 ek, .int .i64 (now - ya), .int .i64 q] 77 := by subst hW; exact ((((((bR7.set rfl).set rfl).set rfl).set rfl).set rfl).set rfl)
   have f78 : Fr (fun i => i = w.heap.size) w7 W8 := by subst hW; (repeat' (first | (with_reducible exact Fr.refl _ _) | (with_reducible assumption) | (with_reducible refine Fr.alloc ?_ _) | (with_reducible refine Fr.drew ?_) | (with_reducible refine Fr.drewN ?_ _) | (with_reducible refine Fr.setCell ?_ _ _ ?_) | (exact Or.inr rfl) | (left; simp; done) | (left; simp; omega) | (simp; done) | (simp; omega) | omega))
   refine bodyPost_ret (results_ct rfl _ _ _ 77 _ (0, 0) _ rfl b8 Try.underlying77 rfl (by kernel_rfl)) rfl ?_
   refine ⟨by rw [HMS.out]; rfl, F', ?_, ?_, ?_⟩
   ·have e : nxt ek now ⟨i, s, ya⟩ = [] := nxt_none HMS.out hc
    rw [e, List.nil_append]
    refine ts7.fr f78 (fun j hj e => ?_)
    have e : j = w.heap.size := e
    rcases hF7 j hj with h | h
    ·have := HLT.out _ h; omega
    ·omega
   ·exact ((f6.mono (T := F) (fun _ _ h => h.elim)).trans f7 (fun _ _ h => h)).trans f78 (fun j hj e => by have e : j = w.heap.size := e; omega)
   ·intro j hj
    rcases hF7 j hj with h | h
    ·exact .inl h
    ·exact .inr (by omega)
  ·have hm : (q + 1) * ek = q * ek + ek := by rw [Int.add_mul, Int.one_mul]
   have u0 : 0 ≤ (q + 1) * ek := by omega
   have u1 : (q + 1) * ek ≤ 4611686018427387904 - ya := by omega
   clear hm
   go_upto_region 12 with fail
   generalize hW : World.setCell W6 _ _ = W7
   generalize hnn : ya + (q + 1) * ek = na at *
   have HNN := hid hnn
   have na0 : 0 ≤ na ∧ na ≤ MT := by unfold MT; omega
   have bT7 : Blk W7 W2.heap.size #[.bool k, .int .i64 na, .int .i64 ek] 69 := by subst hW; exact bT6.set rfl
   have f67 : Fr (fun j => j = W2.heap.size) W6 W7 := by subst hW; (repeat' (first | (with_reducible exact Fr.refl _ _) | (with_reducible assumption) | (with_reducible refine Fr.alloc ?_ _) | (with_reducible refine Fr.drew ?_) | (with_reducible refine Fr.drewN ?_ _) | (with_reducible refine Fr.setCell ?_ _ _ ?_) | (exact Or.inr rfl) | (left; simp; done) | (left; simp; omega) | (simp; done) | (simp; omega) | omega))
   have f7 : Fr (fun _ => False) w W7 := f6.trans f67 (fun j hj e => by have e : j = W2.heap.size := e; have := f2.size; omega)
   have hs67 := f67.size
   have bY7 := bY6.fr f67 (fun e => by omega)
   have bF7 := bF6.fr f67 (fun e => by omega)
   have bR7 := bR6.fr f67 (fun e => by omega)
   clear hW hnn f67 y0 y1 y2 t0 t1 t2 qy0 qy1 qy2 qt0 qt1 qt2 p0 p1 p2 p3 p4 p5 bY6 bT6 bF6 bR6
   have hr7 := HR.out.fr0 f7
   have c2 := hr7.blk.cell 2
   have hx7 := hr7.blk.lt
   simp at c2
   obtain ⟨y0, y1, y2, qy0, qy1, qy2⟩ := bY7.c3
   obtain ⟨t0, t1, t2, _⟩ := bT7.c3
   have lY7 := bY7.lt
   have lT7 := bT7.lt
   have hm7 : MF 22 .u64 W7.drew tm n (tmF T) := hr7.mp.drew
   have hl0 := (hr7.hp false).len
   have hl1 := (hr7.hp true).len
   have hct := HTI.out.cnt
   have hnm : n < maxLen := by unfold maxLen; omega
   have tlt := hr7.mp.lt
   have tlt0 := HR.out.mp.lt
   have hTi : (tmF T i).isSome = true := by unfold tmF; rw [HT.out]; rfl
   have HTS := hid hTi
   have HR7 := hid hr7
   clear hTi hr7 hl0 hl1 hct
   go_still_tail 7, (by kernel_rfl)
   change wpList _ _ _ _ _ (World.drew W7)
   go_wp2_with (at_mapUpdate; refine wpList_store_mf _ rfl _ _ _ 101 rfl 22 69 .u64 Try.underlying22 Try.underlying101 tm n (tmF T) i (tV k na ek) rfl hm7 hnm rfl rfl WID.out ?_; intro w8 hm8 f8; rw [HTS.out, tmF_put] at hm8; have hr8 := (HR7.out.fr0 (Fr.drew (Fr.refl _ _))).map (n' := n) hm8 f8; have bY8 := (bY7.fr (S := fun _ => False) (Fr.drew (Fr.refl _ _)) (fun h => h)).fr f8 (fun e => by omega); have bT8 := (bT7.fr (S := fun _ => False) (Fr.drew (Fr.refl _ _)) (fun h => h)).fr f8 (fun e => by omega); have bF8 := (bF7.fr (S := fun _ => False) (Fr.drew (Fr.refl _ _)) (fun h => h)).fr f8 (fun e => by omega); have bR8 := (bR7.fr (S := fun _ => False) (Fr.drew (Fr.refl _ _)) (fun h => h)).fr f8 (fun e => by omega); clear hm7 hm8 y0 y1 y2 t0 t1 t2 qy0 qy1 qy2 bY7 bT7 bF7 bR7 c2; obtain ⟨y0, y1, y2, qy0, qy1, qy2⟩ := bY8.c3; have t1 := bT8.cell 1; have lY8 := bY8.lt; have lT8 := bT8.lt; simp at t1; have HR8 := hid hr8; clear hr8)
   generalize hW : World.setCell w8 _ _ = W9
   have f89 : Fr (fun j => j = w1.heap.size) w8 W9 := by subst hW; (repeat' (first | (with_reducible exact Fr.refl _ _) | (with_reducible assumption) | (with_reducible refine Fr.alloc ?_ _) | (with_reducible refine Fr.drew ?_) | (with_reducible refine Fr.drewN ?_ _) | (with_reducible refine Fr.setCell ?_ _ _ ?_) | (exact Or.inr rfl) | (left; simp; done) | (left; simp; omega) | (simp; done) | (simp; omega) | omega))
   have hr9 := HR8.out.fr f89 (fun j hj e => by have := HR.out.lt j hj; have e : j = w1.heap.size := e; omega)
   have bF9 := bF8.fr f89 (fun e => by omega)
   have bR9 := bR8.fr f89 (fun e => by omega)
   have hITn : ItOk ⟨i, s, na⟩ := ⟨HOK.out.1, HOK.out.2.1, wfI na0⟩
   have hs78 := f8.size
   have hs89 := f89.size
   have f9 : Fr F w W9 := ((((f7.mono (T := F) (fun _ _ h => h.elim)).drew).trans f8 (fun j _ e => (HF.out j).2 (.inr (.inl e)))).trans f89 (fun j hj e => by have e : j = w1.heap.size := e; omega))
   clear hW y0 y1 y2 t1 qy0 qy1 qy2 bF8 bR8 bT8 HR8
   refine (set_at (hr9.hp k) hITn).mono ?_
   rintro r w10 ⟨rfl, v', hp10, hg10, f10⟩
   have nFt : ∀ j, w.heap.size ≤ j → ¬ Ft (b k) (m k) (v k) j := fun j hj e => by have := HR.out.lt j (.inr (.inr ⟨k, e⟩)); omega
   have hr10 := hr9.heap k hp10 f10 hg10
   have bF10 := bF9.fr f10 (nFt _ (by omega))
   have bR10 := bR9.fr f10 (nFt _ (by omega))
   have hs910 := f10.size
   have HR10 := hid hr10
   have HR9 := hid hr9
   clear bF9 bR9 hr10 hr9 hITn
   obtain ⟨p0, p1, p2, p3, p4, p5⟩ := bF10.c6
   obtain ⟨r0, r1, r2, r3, r4, r5⟩ := bR10.c6
   obtain ⟨d0, d1, d2, d3, d4, d5⟩ := bR10.q6
   have lR10 := bR10.lt
   have lF10 := bF10.lt
   go_wp2_with fail
   generalize hW : World.setCell _ _ _ = W11
   have b11 : Blk W11 w.heap.size #[.int .u64 i, .bool k, .int .i64 ya, .int .i64 ek, .int .i64 (now - ya), .int .i64 q] 77 := by subst hW; exact ((((((bR10.set rfl).set rfl).set rfl).set rfl).set rfl).set rfl)
   have f1011 : Fr (fun i => i = w.heap.size) w10 W11 := by subst hW; (repeat' (first | (with_reducible exact Fr.refl _ _) | (with_reducible assumption) | (with_reducible refine Fr.alloc ?_ _) | (with_reducible refine Fr.drew ?_) | (with_reducible refine Fr.drewN ?_ _) | (with_reducible refine Fr.setCell ?_ _ _ ?_) | (exact Or.inr rfl) | (left; simp; done) | (left; simp; omega) | (simp; done) | (simp; omega) | omega))
   refine bodyPost_ret (results_ct rfl _ _ _ 77 _ (0, 0) _ rfl b11 Try.underlying77 rfl (by kernel_rfl)) rfl ?_
   obtain ⟨sp, sE⟩ := setL_perm (x := ⟨i, s, na⟩) (HR.out.hp k).uniq HPL.out rfl
   have hti := HTI.out.set k (HR.out.hp k).uniq HPL.out (y' := ⟨i, s, na⟩) sp rfl (ok_setL (HTI.out.ok k)) na0
   rw [← HEK.out] at hti
   have hsz : w.heap.size ≤ W9.heap.size := f9.size
   refine ⟨by rw [HMS.out]; rfl, FT x tm b m (upd v k v'), ⟨m, _, _, tm, n, _, HR10.out.fr f1011 (fun j hj e => ?_), hti, upd_perm HP_.out k ?_, ⟨by omega, by omega⟩, ⟨by omega, by omega⟩, fun i => Iff.rfl⟩, ?_, fun j hj => ?_⟩
   ·have e : j = w.heap.size := e
    rcases FT.upd hg10 hj with h | h
    ·have := HR.out.lt j h; omega
    ·omega
   ·rw [nxt_some HMS.out (by omega) hpos, HNN.out]; exact sp
   ·exact (f9.trans f10 (fun j _ e => (HF.out j).2 (.inr (.inr ⟨k, e⟩)))).trans f1011 (fun j hj e => by have e : j = w.heap.size := e; omega)
   ·rcases FT.upd hg10 hj with h | h
    ·exact .inl ((HF.out j).2 h)
    ·exact .inr (by omega)
end
end Go.Proofs.Ytkcfhdnlmdndeaa
