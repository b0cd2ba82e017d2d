/- The document's heap: an item goes up. -/
import Derived.Test.YtkcfhdnlmdndeaaRfMem
import Derived.Test.YtkcfhdnlmdndeaaHpSettle
import Derived.Deep.DeepCutAuto
namespace Go.Proofs.Ytkcfhdnlmdndeaa
open Go.RowKit Go.Proofs.YtkcfhdnlmdndeaaW.PrintWords Go.Proofs.YtkcfhdnlmdndeaaW.PrintLast Go.Proofs.YtkcfhdnlmdndeaaW.PrintMore PHp
set_option linter.unusedVariables false
set_option linter.unusedSimpArgs false
set_option maxRecDepth 100000
theorem Rh.swap {w w' : World} {g r cap : Nat} {l l' : List It} {size : Int} (h : Rh w g r cap l size) (hr : Row 50 w' r cap l') (hb : Blk w' g #[.slice (some ⟨r, 0, none⟩) l.length cap, .int .i64 size] 61) (hl : l'.length = l.length) : Rh w' g r cap l' size :=
 ⟨by rw [hl]; exact hb, hr, h.cap, h.gr⟩
set_option maxHeartbeats 4000000 in
theorem rup_at {w : World} {g r cap k : Nat} {L : List It} {size : Int} (h : Rh w g r cap L size) (hk : k < L.length) (hs : L.length < 1000000000) :
  Calls Try.prog 49 #[.pointer (some ⟨g, 0, none⟩), .int .i64 (k : Int)] w fun e w' => e = .returned (.bool (decide ((up k L k).2 ≠ k))) ∧ Rh w' g r cap (up k L k).1 size ∧ Fr (fun j => j = r) w w' := by
 obtain ⟨n, hn⟩ : ∃ n, n = L.length := ⟨_, rfl⟩
 have HNL := hid hn
 rw [← hn] at hk hs
 have H := hid h
 obtain ⟨ret, hret⟩ : ∃ b, b = decide ((up k L k).2 ≠ k) := ⟨_, rfl⟩
 rw [← hret]
 have HRET := hid hret
 clear h hn hret
 go_enter Try.func49, Try.ntmps49
 go_wp2_with fail
 go_loopw [1, 5] (fun vk vd wr => ∃ (l : List It) (j : Nat), j ≤ k ∧ vk = .int .i64 j ∧ vd = .bool (decide (j ≠ k)) ∧ Hid (Rh wr g r cap l size ∧ l.length = n ∧ up k L k = up j l j) ∧ Fr (fun i => i = r) w wr) (fun vk _ _ => (intOf vk).toNat)
 case atStart => exact ⟨L, k, Nat.le_refl _, rfl, by simp, hid ⟨H.out, HNL.out.symm, rfl⟩, Fr.refl _ _⟩
 case round =>
  obtain ⟨l, j, hjk, rfl, rfl, hh, hf⟩ := hrel
  by_cases hj : 0 < j
  ·obtain ⟨j1, hj1⟩ : ∃ j1, j = j1 + 1 := ⟨j - 1, by omega⟩
   obtain ⟨p, hp⟩ : ∃ p, p = (j - 1) / 4 := ⟨_, rfl⟩
   have hp2 : p = j1 / 4 := by omega
   have HP := hid hp
   have hjn : j < n := by omega
   have hpn : p < n := by omega
   have hs1 : j1 < 1000000000 := by omega
   obtain ⟨hR, hln, hup⟩ := hh.out
   have hjl : j < l.length := by omega
   have hpl : p < l.length := by omega
   have a0 : (0 : Int) < (j : Int) := by omega
   have a1 : (j : Int) < (n : Int) := by omega
   have a2 : (p : Int) < (n : Int) := by omega
   have HPK : Hid (p < j) := hid (by omega)
   have e0 : Int.tdiv (j1 : Int) 4 = (p : Int) := tdiv4 hp2
   have e2 : (j1 : Int) / 4 = (p : Int) := ediv4 hp2
   have e3 : IntKind.i64.wrap (p : Int) = (p : Int) := wrapN (by omega)
   have e4 : wrap64 (p : Int) = (p : Int) := wrapN' (by omega)
   have e5 : wrap64 ((j : Int) - 1) = (j1 : Int) := wrapP hj1 hs1
   have e1 : IntKind.i64.wrap ((j : Int) - 1) = (j1 : Int) := (i64_w _).trans e5
   have msd := (hR.reads hjl hpl).fr (Fr.drew (Fr.refl _ _))
   rw [hln] at msd
   obtain ⟨av, hav⟩ : ∃ av, av = ahead (nth l j) (nth l p) := ⟨_, rfl⟩
   have HA : Hid (∀ W', Calls Try.prog 63 #[vI (nth l j), vI (nth l p)] W' fun e w' => e = .returned (.bool av) ∧ Fr (fun _ => False) W' w') := hid (fun W' => by rw [hav]; exact rahead_at _ _ _)
   have HAV := hid hav
   have HX := hid (rfl : nth l j = nth l j)
   obtain ⟨x, hx⟩ : ∃ x, x = nth l j := ⟨_, rfl⟩
   obtain ⟨y, hy⟩ : ∃ y, y = nth l p := ⟨_, rfl⟩
   rw [← hx, ← hy] at msd HA
   have HXX := hid hx
   have HYY := hid hy
   have HJL := hid hjl
   have HPLL := hid hpl
   have HJ1 := hid hj1
   have hlr := hR.row.lt
   have hlg := hR.blk.lt
   clear hp hp2 hj1 hav hx hy HX hR hln hup hjl hpl
   go_wp2_with fail
   refine start_ (n := 16) (S := fun w' => w'.cell? ⟨g, 0, none⟩ = some (.slice (some ⟨r, 0, none⟩) n cap) ∧ w'.cell? ⟨r, j * 3, none⟩ = some (.int .u64 x.f0) ∧ w'.cell? ⟨r, j * 3 + 1, none⟩ = some (.int .u64 x.f1) ∧ w'.cell? ⟨r, j * 3 + 2, none⟩ = some (.int .i64 x.f2) ∧ w'.cell? ⟨r, p * 3, none⟩ = some (.int .u64 y.f0) ∧ w'.cell? ⟨r, p * 3 + 1, none⟩ = some (.int .u64 y.f1) ∧ w'.cell? ⟨r, p * 3 + 2, none⟩ = some (.int .i64 y.f2) ∧ Fr (fun _ => False) wr w') (ds := []) #[oN,oN,oN,oN,oN,oN,oN,oN,oN,oN,oN,oN,oN,oN,oN,oN] (by kernel_rfl) rfl rfl ⟨msd.1, msd.2.1, msd.2.2.1, msd.2.2.2.1, msd.2.2.2.2.1, msd.2.2.2.2.2.1, msd.2.2.2.2.2.2.1, msd.2.2.2.2.2.2.2⟩ (fun hHeld => ?_)
   refine pure_ (i := 0) (N := some 13) (v := ?_) (a' := ?_) #[oY,oN,oN,oN,oN,oN,oN,oN,oN,oN,oN,oN,oN,oN,oN,oN] rfl rfl (by kernel_rfl) (fun _ _ _ h => h) (Or.inl ⟨by rfl, ?_⟩) ?_ ?_
   rotate_left
   ·intro w'
    go_simp
    with_reducible rfl
   rotate_left
   ·simp only [Act.put, List.setIfInBounds_toArray, List.set_cons_zero, List.set_cons_succ, i64_w, i32_w]
    rfl
   refine pure_ (i := 1) (N := some 14) (v := ?_) (a' := ?_) #[oY,oY,oN,oN,oN,oN,oN,oN,oN,oN,oN,oN,oN,oN,oN,oN] rfl rfl (by kernel_rfl) (fun _ _ _ h => h) (Or.inl ⟨by rfl, ?_⟩) ?_ ?_
   rotate_left
   ·intro w'
    go_simp
    with_reducible rfl
   rotate_left
   ·simp only [Act.put, List.setIfInBounds_toArray, List.set_cons_zero, List.set_cons_succ, i64_w, i32_w]
    rfl
   refine pure_ (i := 2) (N := some 15) (v := ?_) (a' := ?_) #[oY,oY,oY,oN,oN,oN,oN,oN,oN,oN,oN,oN,oN,oN,oN,oN] rfl rfl (by kernel_rfl) (fun _ _ _ h => h) (Or.inl ⟨by rfl, ?_⟩) ?_ ?_
   rotate_left
   ·intro w'
    go_simp
    with_reducible rfl
   rotate_left
   ·simp only [Act.put, List.setIfInBounds_toArray, List.set_cons_zero, List.set_cons_succ, i64_w, i32_w]
    rfl
   refine pure_ (i := 4) (N := some 17) (v := ?_) (a' := ?_) #[oY,oY,oY,oN,oY,oN,oN,oN,oN,oN,oN,oN,oN,oN,oN,oN] rfl rfl (by kernel_rfl) (fun _ _ _ h => h) (Or.inl ⟨by rfl, ?_⟩) ?_ ?_
   rotate_left
   ·intro w'
    go_simp
    with_reducible rfl
   rotate_left
   ·simp only [Act.put, List.setIfInBounds_toArray, List.set_cons_zero, List.set_cons_succ, i64_w, i32_w]
    rfl
   refine pure_ (i := 7) (N := some 20) (v := ?_) (a' := ?_) #[oY,oY,oY,oN,oY,oN,oN,oY,oN,oN,oN,oN,oN,oN,oN,oN] rfl rfl (by kernel_rfl) (fun _ _ _ h => h) (Or.inl ⟨by rfl, ?_⟩) ?_ ?_
   rotate_left
   ·intro w'
    go_simp
    with_reducible rfl
   rotate_left
   ·simp only [Act.put, List.setIfInBounds_toArray, List.set_cons_zero, List.set_cons_succ, i64_w, i32_w]
    rfl
   refine pure_ (i := 8) (N := some 21) (v := ?_) (a' := ?_) #[oY,oY,oY,oN,oY,oN,oN,oY,oY,oN,oN,oN,oN,oN,oN,oN] rfl rfl (by kernel_rfl) (fun _ _ _ h => h) (Or.inl ⟨by rfl, ?_⟩) ?_ ?_
   rotate_left
   ·intro w'
    go_simp
    with_reducible rfl
   rotate_left
   ·simp only [Act.put, List.setIfInBounds_toArray, List.set_cons_zero, List.set_cons_succ, i64_w, i32_w]
    rfl
   refine pure_ (i := 9) (N := some 22) (v := ?_) (a' := ?_) #[oY,oY,oY,oN,oY,oN,oN,oY,oY,oY,oN,oN,oN,oN,oN,oN] rfl rfl (by kernel_rfl) (fun _ _ _ h => h) (Or.inl ⟨by rfl, ?_⟩) ?_ ?_
   rotate_left
   ·intro w'
    go_simp
    with_reducible rfl
   rotate_left
   ·simp only [Act.put, List.setIfInBounds_toArray, List.set_cons_zero, List.set_cons_succ, i64_w, i32_w]
    rfl
   refine pure_ (i := 11) (N := some 24) (v := ?_) (a' := ?_) #[oY,oY,oY,oN,oY,oN,oN,oY,oY,oY,oN,oY,oN,oN,oN,oN] rfl rfl (by kernel_rfl) (fun _ _ _ h => h) (Or.inl ⟨by rfl, ?_⟩) ?_ ?_
   rotate_left
   ·intro w'
    go_simp
    with_reducible rfl
   rotate_left
   ·simp only [Act.put, List.setIfInBounds_toArray, List.set_cons_zero, List.set_cons_succ, i64_w, i32_w]
    rfl
   refine take_ (i := 3) (N := some 16) (v := ?_) (a' := ?_) #[oY,oY,oY,oY,oY,oN,oN,oY,oY,oY,oN,oY,oN,oN,oN,oN] rfl rfl (by kernel_rfl) (fun _ _ _ h => h) (Or.inl ⟨by rfl, ?_⟩) hHeld ?_ ?_
   rotate_left
   ·rintro w' ⟨s0, s1, s2, s3, s4, s5, s6, s7⟩
    go_simp
    with_reducible rfl
   rotate_left
   ·simp only [Act.put, List.setIfInBounds_toArray, List.set_cons_zero, List.set_cons_succ, i64_w, i32_w]
    rfl
   refine pure_ (i := 5) (N := some 18) (v := ?_) (a' := ?_) #[oY,oY,oY,oY,oY,oY,oN,oY,oY,oY,oN,oY,oN,oN,oN,oN] rfl rfl (by kernel_rfl) (fun _ _ _ h => h) (Or.inl ⟨by rfl, ?_⟩) ?_ ?_
   rotate_left
   ·intro w'
    go_simp
    with_reducible rfl
   rotate_left
   ·simp only [Act.put, List.setIfInBounds_toArray, List.set_cons_zero, List.set_cons_succ, i64_w, i32_w]
    rfl
   refine take_ (i := 6) (N := some 19) (v := ?_) (a' := ?_) #[oY,oY,oY,oY,oY,oY,oY,oY,oY,oY,oN,oY,oN,oN,oN,oN] rfl rfl (by kernel_rfl) (fun _ _ _ h => h) (Or.inl ⟨by rfl, ?_⟩) hHeld ?_ ?_
   rotate_left
   ·rintro w' ⟨s0, s1, s2, s3, s4, s5, s6, s7⟩
    go_simp
    with_reducible rfl
   rotate_left
   ·simp only [Act.put, List.setIfInBounds_toArray, List.set_cons_zero, List.set_cons_succ, i64_w, i32_w]
    rfl
   refine take_ (i := 10) (N := some 23) (v := ?_) (a' := ?_) #[oY,oY,oY,oY,oY,oY,oY,oY,oY,oY,oY,oY,oN,oN,oN,oN] rfl rfl (by kernel_rfl) (fun _ _ _ h => h) (Or.inl ⟨by rfl, ?_⟩) hHeld ?_ ?_
   rotate_left
   ·rintro w' ⟨s0, s1, s2, s3, s4, s5, s6, s7⟩
    go_simp
    with_reducible rfl
   rotate_left
   ·simp only [Act.put, List.setIfInBounds_toArray, List.set_cons_zero, List.set_cons_succ, i64_w, i32_w]
    rfl
   refine pure_ (i := 12) (N := some 25) (v := ?_) (a' := ?_) #[oY,oY,oY,oY,oY,oY,oY,oY,oY,oY,oY,oY,oY,oN,oN,oN] rfl rfl (by kernel_rfl) (fun _ _ _ h => h) (Or.inl ⟨by rfl, ?_⟩) ?_ ?_
   rotate_left
   ·intro w'
    go_simp
    with_reducible rfl
   rotate_left
   ·simp only [Act.put, List.setIfInBounds_toArray, List.set_cons_zero, List.set_cons_succ, i64_w, i32_w]
    rfl
   refine take_ (i := 13) (N := some 26) (v := ?_) (a' := ?_) #[oY,oY,oY,oY,oY,oY,oY,oY,oY,oY,oY,oY,oY,oY,oN,oN] rfl rfl (by kernel_rfl) (fun _ _ _ h => h) (Or.inl ⟨by rfl, ?_⟩) hHeld ?_ ?_
   rotate_left
   ·rintro w' ⟨s0, s1, s2, s3, s4, s5, s6, s7⟩
    go_simp
    with_reducible rfl
   rotate_left
   ·simp only [Act.put, List.setIfInBounds_toArray, List.set_cons_zero, List.set_cons_succ, i64_w, i32_w]
    rfl
   refine one_ (i := 14) (N := some 27) #[oY,oY,oY,oY,oY,oY,oY,oY,oY,oY,oY,oY,oY,oY,oY,oN] rfl rfl (by kernel_rfl) (by decide) (fun K hK => ?_)
   refine goes_ Try.func63 (by kernel_rfl) rfl #[vI x, vI y] (by rfl) rfl rfl (by simp only [List.map_toArray, List.map_cons, List.map_nil]; rfl) ?_
   refine (HA.out _).mono ?_
   rintro e w3 ⟨rfl, k3⟩
   refine ⟨_, rfl, ?_⟩
   have ms3 := RuS.fr k3 hHeld
   refine hK.out _ _ ⟨ms3.1, ms3.2.1, ms3.2.2.1, ms3.2.2.2.1, ms3.2.2.2.2.1, ms3.2.2.2.2.2.1, ms3.2.2.2.2.2.2.1, ms3.2.2.2.2.2.2.2⟩ (fun hHeld => ?_)
   clear hK K
   refine norm_ (a' := ?_) ?_ ?_
   rotate_left
   ·show Act.put _ (some 27) _ = _
    simp only [Act.put, List.setIfInBounds_toArray, List.set_cons_zero, List.set_cons_succ, i64_w, i32_w]
    rfl
   refine pure_ (i := 15) (N := some 28) (v := ?_) (a' := ?_) #[oY,oY,oY,oY,oY,oY,oY,oY,oY,oY,oY,oY,oY,oY,oY,oY] rfl rfl (by kernel_rfl) (fun _ _ _ h => h) (Or.inl ⟨by rfl, ?_⟩) ?_ ?_
   rotate_left
   ·intro w'
    go_simp
    with_reducible rfl
   rotate_left
   ·simp only [Act.put, List.setIfInBounds_toArray, List.set_cons_zero, List.set_cons_succ, i64_w, i32_w]
    rfl
   refine done_ (by kernel_rfl) ?_
   have f3 := hHeld.2.2.2.2.2.2.2
   clear hHeld msd k3
   cases av with
   | true =>
    obtain ⟨c0, x0, x1, x2, y0, y1, y2, _⟩ := ms3
    clear e0 e1 e2 e3 e4 e5
    have hlr3 := f3.lt hlr
    have hlg3 := f3.lt hlg
    go_upto_region 7 with fail
    generalize hW : World.alloc w3 _ = W4
    have f4 : Fr (fun _ => False) w3 W4 := by subst hW; (repeat' (first | (with_reducible exact Fr.refl _ _) | (with_reducible assumption) | (with_reducible refine Fr.alloc ?_ _) | (with_reducible refine Fr.drew ?_) | (with_reducible refine Fr.drewN ?_ _) | (with_reducible refine Fr.setCell ?_ _ _ ?_) | (exact Or.inr rfl) | (left; simp; done) | (left; simp; omega) | (simp; done) | (simp; omega) | omega))
    have bX : Blk W4 w3.heap.size #[.int .u64 x.f0, .int .u64 x.f1, .int .i64 x.f2] 50 := by subst hW; (repeat' (first | (with_reducible assumption) | (with_reducible apply Blk.drew) | (with_reducible apply Blk.drewN) | (with_reducible apply Blk.set) | (with_reducible apply Blk.other) | (exact Blk.new' _ _ _ (by first | rfl | (simp; done) | (simp; omega))) | (with_reducible apply Blk.alloc) | (with_reducible rfl) | (simp; done) | (simp; omega) | omega | rfl))
    clear hW c0 x0 x1 x2 y0 y1 y2
    obtain ⟨hR, hln, hup⟩ := hh.out
    have R4 := (hR.fr0 f3).fr0 f4
    have hb4 := R4.blk
    rw [hln] at hb4
    have c0 := hb4.cell 0
    have hg4 := hb4.lt
    have hr4 := R4.row.lt
    simp at c0
    obtain ⟨x0, x1, x2⟩ := R4.row.at3 (nth_some HJL.out)
    obtain ⟨y0, y1, y2⟩ := R4.row.at3 (nth_some HPLL.out)
    rw [← HXX.out] at x0 x1 x2
    rw [← HYY.out] at y0 y1 y2
    have q0 := R4.row.free (j * 3)
    have q1 := R4.row.free (j * 3 + 1)
    have q2 := R4.row.free (j * 3 + 2)
    have HR4 := hid R4
    have HLN := hid hln
    have HUP := hid hup
    have gne := R4.gr
    have nr : r ≠ w3.heap.size := by omega
    clear hR hln hup R4
    go_still_tail 13, (by kernel_rfl)
    change wpList _ _ _ _ _ (World.drew W4)
    go_wp2_with fail
    generalize hW : World.drew (World.setCell _ _ _) = W5
    have r5 : Row 50 W5 r cap (l.set j y) := by subst hW; exact (HR4.out.row.set3 HJL.out y).drew
    have f5 : Fr (fun i => i = r) W4 W5 := by subst hW; (repeat' (first | (with_reducible exact Fr.refl _ _) | (with_reducible assumption) | (with_reducible refine Fr.alloc ?_ _) | (with_reducible refine Fr.drew ?_) | (with_reducible refine Fr.drewN ?_ _) | (with_reducible refine Fr.setCell ?_ _ _ ?_) | (exact Or.inr rfl) | (left; simp; done) | (left; simp; omega) | (simp; done) | (simp; omega) | omega))
    clear hW x0 x1 x2 y0 y1 y2 q0 q1 q2 c0
    have hb5 := hb4.fr f5 (Ne.symm gne)
    have bX5 := bX.fr f5 (Ne.symm nr)
    have hpl5 : p < (l.set j y).length := by rw [List.length_set]; exact HPLL.out
    obtain ⟨x0, x1, x2⟩ := r5.at3 (nth_some hpl5)
    generalize nth (l.set j y) p = z at x0 x1 x2
    have q0 := r5.free (p * 3)
    have q1 := r5.free (p * 3 + 1)
    have q2 := r5.free (p * 3 + 2)
    have c0 := hb5.cell 0
    simp at c0
    obtain ⟨t0, t1, t2, _⟩ := bX5.c3
    have lb5 := hb5.lt
    have lr5 := r5.lt
    have lx5 := bX5.lt
    have HP5 := hid hpl5
    have HR5 := hid r5
    clear hpl5 r5
    go_wp2_with fail
    go_still_tail 7, (by kernel_rfl)
    change wpList _ _ _ _ _ (World.drew W5)
    go_wp2_with fail
    generalize hW : World.drew (World.setCell _ _ _) = W6
    have r6 : Row 50 W6 r cap ((l.set j y).set p x) := by subst hW; exact (HR5.out.set3 HP5.out x).drew
    have f6 : Fr (fun i => i = r) W5 W6 := by subst hW; (repeat' (first | (with_reducible exact Fr.refl _ _) | (with_reducible assumption) | (with_reducible refine Fr.alloc ?_ _) | (with_reducible refine Fr.drew ?_) | (with_reducible refine Fr.drewN ?_ _) | (with_reducible refine Fr.setCell ?_ _ _ ?_) | (exact Or.inr rfl) | (left; simp; done) | (left; simp; omega) | (simp; done) | (simp; omega) | omega))
    clear hW x0 x1 x2 q0 q1 q2 c0 t0 t1 t2
    have es : (l.set j y).set p x = swp l j p := by unfold swp; rw [HXX.out, HYY.out]
    have HH6 : Hid (Rh W6 g r cap (swp l j p) size ∧ (swp l j p).length = n ∧ up k L k = up p (swp l j p) p) := hid ⟨HR4.out.swap (es ▸ r6) (by rw [HLN.out]; exact hb5.fr f6 (Ne.symm gne)) (swp_length ..), by rw [swp_length]; exact HLN.out, by rw [HUP.out, HP.out]; exact up_go hj (by rw [← HP.out]; exact HAV.out.symm)⟩
    have hfin : Fr (fun i => i = r) w W6 := (((hf.trans f3 (fun _ _ h => h.elim)).trans f4 (fun _ _ h => h.elim)).trans f5 (fun _ _ h => h)).trans f6 (fun _ _ h => h)
    have hdec : decide (p ≠ k) = true := decide_eq_true (by have := HPK.out; omega)
    have HDEC := hid hdec
    have hpk : p ≤ k := by have := HPK.out; omega
    clear es r6 hdec hb5 bX5 hb4 bX
    go_wp2
    go_roundw
    case rel => exact ⟨swp l j p, p, hpk, rfl, by rw [HDEC.out], HH6, hfin⟩
    case measure => simp [intOf]; have := HPK.out; omega
   | false =>
    clear ms3
    go_wp2
    go_ret
    have hst : up k L k = (l, j) := by rw [hh.out.2.2]; exact up_stop (fun e => by have h1 := HAV.out; rw [HP.out, e.2] at h1; cases h1)
    have HST := hid hst
    refine ⟨by rw [HRET.out, HST.out]; first | done | rfl, by rw [HST.out]; exact hh.out.1.fr0 f3, hf.trans f3 (fun _ _ h => h.elim)⟩
  ·obtain rfl : j = 0 := by omega
   clear hj
   go_wp2
   go_ret
   have hst : up k L k = (l, 0) := by rw [hh.out.2.2]; rfl
   have HST := hid hst
   exact ⟨by rw [HRET.out, HST.out]; first | done | rfl, by rw [HST.out]; exact hh.out.1, hf⟩
end Go.Proofs.Ytkcfhdnlmdndeaa
