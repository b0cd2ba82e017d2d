/- The document's heap: Remove. -/
import Derived.Test.YtkcfhdnlmdndeaaRfSet
namespace Go.Proofs.Ytkcfhdnlmdndeaa
open Go.RowKit Go.Proofs.YtkcfhdnlmdndeaaW.PrintWords Go.Proofs.YtkcfhdnlmdndeaaW.PrintLast Go.Proofs.YtkcfhdnlmdndeaaW.PrintMore PHp
set_option linter.unusedVariables false
set_option linter.unusedSimpArgs false
set_option maxRecDepth 100000
set_option maxHeartbeats 2000000 in
theorem rrem_no {w : World} {g : Nat} {v : Value} {L : List It} {size : Int} {id : Int} (h : RH w g v L size) (hpl : place L id = none) :
    Calls Try.prog 26 #[.pointer (some ⟨g, 0, none⟩), .int .u64 id] w fun e w' => e = .returned (.tuple #[vI ⟨0, 0, 0⟩, .int .i64 6]) ∧ Fr (fun _ => False) w w' := by
  have H := hid h
  have HI := hid (plI_none hpl)
  clear h hpl
  go_enter Try.func26, Try.ntmps26
  go_wp2_with fail
  generalize hW : World.alloc w _ = W
  have f0 : Fr (fun _ => False) w W := by subst hW; (repeat' (first | (with_reducible exact Fr.refl _ _) | (with_reducible assumption) | (with_reducible refine Fr.alloc ?_ _) | (with_reducible refine Fr.drew ?_) | (with_reducible refine Fr.drewN ?_ _) | (with_reducible refine Fr.setCell ?_ _ _ ?_) | (exact Or.inr rfl) | (left; simp; done) | (left; simp; omega) | (simp; done) | (simp; omega) | omega))
  have bR : Blk W w.heap.size #[.int .u64 0, .int .u64 0, .int .i64 0] 50 := by subst hW; (repeat' (first | (with_reducible assumption) | (with_reducible apply Blk.drew) | (with_reducible apply Blk.drewN) | (with_reducible apply Blk.set) | (with_reducible apply Blk.other) | (exact Blk.new' _ _ _ (by first | rfl | (simp; done) | (simp; omega))) | (with_reducible apply Blk.alloc) | (with_reducible rfl) | (simp; done) | (simp; omega) | omega | rfl))
  clear hW
  have h1 := H.out.fr0 f0
  refine (rplace_at h1.blk h1.its).mono ?_
  rintro e w1 ⟨rfl, rfl⟩
  rw [HI.out]
  obtain ⟨r0, r1, r2, q0, q1, q2⟩ := bR.c3
  go_wp2_with fail
  generalize hW : World.setCell (World.setCell _ _ _) _ _ = W9
  have b3 : Blk W9 w.heap.size #[.int .u64 0, .int .u64 0, .int .i64 0] 50 := by subst hW; exact bR.set3 _ _ _
  have f9 : Fr (fun _ => False) w W9 := by subst hW; (repeat' (first | (with_reducible exact Fr.refl _ _) | (with_reducible assumption) | (with_reducible refine Fr.alloc ?_ _) | (with_reducible refine Fr.drew ?_) | (with_reducible refine Fr.drewN ?_ _) | (with_reducible refine Fr.setCell ?_ _ _ ?_) | (exact Or.inr rfl) | (left; simp; done) | (left; simp; omega) | (simp; done) | (simp; omega) | omega))
  refine bodyPost_ret (results_ct rfl _ _ _ 50 _ (0, 0) _ rfl b3 Try.underlying50 rfl (by kernel_rfl)) rfl ?_
  exact ⟨rfl, f9⟩
set_option maxHeartbeats 4000000 in
theorem rrem_ok {w : World} {g r cap : Nat} {L : List It} {size : Int} {id : Int} {k : Nat} (h : Rh w g r cap L size) (hl : L.length ≤ 1048576) (hpl : place L id = some k) {M : List It} (hM : M = if k < L.length - 1 then settle (cutOut L k) k else cutOut L k) :
    Calls Try.prog 26 #[.pointer (some ⟨g, 0, none⟩), .int .u64 id] w fun e w' => e = .returned (.tuple #[vI (nth L k), .int .i64 0]) ∧
      Rh w' g r cap M size ∧ Fr (fun i => i = g ∨ i = r) w w' := by
  have H := hid h
  have HM := hid hM
  have HI := hid (plI_some hpl)
  obtain ⟨hk, _, _⟩ := place_some hpl
  obtain ⟨x, hx⟩ : ∃ x, x = nth L k := ⟨_, rfl⟩
  have hxk : L[k]? = some x := by rw [hx]; exact nth_some hk
  rw [← hx]
  obtain ⟨y, hy⟩ : ∃ y, y = nth L (L.length - 1) := ⟨_, rfl⟩
  have hyk : L[L.length - 1]? = some y := by rw [hy]; exact nth_some (by omega)
  obtain ⟨n, hn⟩ : ∃ n, n = L.length := ⟨_, rfl⟩
  obtain ⟨q, hq⟩ : ∃ q, n = q + 1 := ⟨n - 1, by omega⟩
  have HY := hid hy
  have HXK := hid hxk
  have HYK := hid hyk
  have HN := hid hn
  have HQ := hid hq
  have a0 : ¬ (k : Int) < 0 := by omega
  have hkn : k < n := by omega
  have hqn : q < n := by omega
  have hkq : k ≤ q := by omega
  have a1 : (k : Int) < (n : Int) := by omega
  have a2 : (q : Int) < (n : Int) := by omega
  have hq9 : q < 1048576 := by omega
  have e1' : wrap64 ((n : Int) - 1) = (q : Int) := wrapP hq (by omega)
  have e1 := (i64_w _).trans e1'
  clear h hM hx hy hxk hyk hn hq hpl hk hl
  go_enter Try.func26, Try.ntmps26
  go_wp2_with fail
  generalize hW : World.alloc w _ = W
  have f0 : Fr (fun _ => False) w W := by subst hW; (repeat' (first | (with_reducible exact Fr.refl _ _) | (with_reducible assumption) | (with_reducible refine Fr.alloc ?_ _) | (with_reducible refine Fr.drew ?_) | (with_reducible refine Fr.drewN ?_ _) | (with_reducible refine Fr.setCell ?_ _ _ ?_) | (exact Or.inr rfl) | (left; simp; done) | (left; simp; omega) | (simp; done) | (simp; omega) | omega))
  have bR : Blk W w.heap.size #[.int .u64 0, .int .u64 0, .int .i64 0] 50 := by subst hW; (repeat' (first | (with_reducible assumption) | (with_reducible apply Blk.drew) | (with_reducible apply Blk.drewN) | (with_reducible apply Blk.set) | (with_reducible apply Blk.other) | (exact Blk.new' _ _ _ (by first | rfl | (simp; done) | (simp; omega))) | (with_reducible apply Blk.alloc) | (with_reducible rfl) | (simp; done) | (simp; omega) | omega | rfl))
  clear hW
  have h1 := H.out.fr0 f0
  refine (rplace_at h1.blk h1.its).mono ?_
  rintro e w1 ⟨rfl, rfl⟩
  rw [HI.out]
  have b0 := h1.blk.cell 0
  simp at b0
  rw [← HN.out] at b0
  obtain ⟨d0, d1, d2⟩ := h1.row.at3 HXK.out
  have yk : L[q]? = some y := by have := HYK.out; rwa [← HN.out, HQ.out] at this
  obtain ⟨d3, d4, d5⟩ := h1.row.at3 yk
  have hbl := h1.blk.lt
  have hrl := h1.row.lt
  have hb8 := lt8 hbl
  have hr8 := lt8 hrl
  have qb0 := h1.blk.free 0
  have hqc : q ≤ cap := by have := h1.row.len; have := HN.out; omega
  have hqc' : (q : Int) ≤ (cap : Int) := by omega
  have HYK2 := hid yk
  clear yk
  by_cases hkl : k < q
  · have t1 : decide (k < q) = true := decide_eq_true hkl
    have t1' : decide ((k : Int) < (q : Int)) = true := decide_eq_true (by omega)
    go_wp2_with (at_builtin; fail)
    generalize hW : World.alloc (World.alloc (World.setCell W _ _) _) _ = w4
    have f4 : Fr (fun i => i = g) W w4 := by subst hW; (repeat' (first | (with_reducible exact Fr.refl _ _) | (with_reducible assumption) | (with_reducible refine Fr.alloc ?_ _) | (with_reducible refine Fr.drew ?_) | (with_reducible refine Fr.drewN ?_ _) | (with_reducible refine Fr.setCell ?_ _ _ ?_) | (exact Or.inr rfl) | (left; simp; done) | (left; simp; omega) | (simp; done) | (simp; omega) | omega))
    have bb4 : Blk w4 g #[.slice (some ⟨r, 0, none⟩) q cap, .int .i64 size] 61 := by subst hW; exact ((h1.blk.set rfl).alloc _).alloc _
    have bX4 : Blk w4 W.heap.size #[.int .u64 x.f0, .int .u64 x.f1, .int .i64 x.f2] 50 := by subst hW; exact (Blk.new' _ _ _ (by simp)).alloc _
    have bE4 : Blk w4 (W.heap.size + 1) #[.int .u64 y.f0, .int .u64 y.f1, .int .i64 y.f2] 50 := by subst hW; exact Blk.new' _ _ _ (by simp)
    clear hW
    have hr4 : Row 50 w4 r cap (L.take q) := (h1.row.fr f4 h1.gr).take q
    have bR4 := bR.fr f4 (fun e => by have := H.out.blk.lt; omega)
    have F4 : Fr (fun i => i = g ∨ i = r) w w4 := (f0.mono (T := fun i => i = g ∨ i = r) (fun _ _ h => h.elim)).trans f4 (fun _ _ e => .inl e)
    have hlq : (L.take q).length = q := by rw [List.length_take, ← HN.out]; omega
    have hW1 := bR.lt
    have hgl := H.out.blk.lt
    have hrw := H.out.row.lt
    have ngr := H.out.gr
    have hcap := H.out.cap
    clear d0 d1 d2 d3 d4 d5 b0 h1 bR hb8 hr8 qb0 f4 f0 hbl hrl
    have hMs : M = settle (cutOut L k) k := by rw [HM.out, ← HN.out, HQ.out]; exact if_pos (by omega)
    have hcl : (L.take q).set k y = cutOut L k := by unfold cutOut; rw [← HN.out, HQ.out, if_pos (by omega), HY.out, ← HN.out, HQ.out]; rfl
    obtain ⟨C, hC⟩ : ∃ C, C = cutOut L k := ⟨_, rfl⟩
    rw [← hC] at hMs hcl
    have hlC : C.length = q := by rw [hC, cutOut_length, ← HN.out, HQ.out]; rfl
    have hkt : k < (L.take q).length := by rw [hlq]; exact hkl
    obtain ⟨d0, d1, d2⟩ := hr4.at3 (nth_some hkt)
    generalize nth (L.take q) k = z at d0 d1 d2
    have c0 := bb4.cell 0
    obtain ⟨y0, y1, y2, _⟩ := bE4.c3
    simp at c0
    have u0 := hr4.free (k * 3)
    have u1 := hr4.free (k * 3 + 1)
    have u2 := hr4.free (k * 3 + 2)
    have l4 := hr4.lt
    have l5 := bE4.lt
    have l6 := bb4.lt
    have HMS := hid hMs
    have HCL := hid hcl
    have HLC := hid hlC
    have HKT := hid hkt
    clear hMs hcl hC hlC hkt
    go_still_tail 7, (by kernel_rfl)
    change wpList _ _ _ _ _ (World.drew w4)
    go_wp2_with fail
    generalize hW : World.drew (World.setCell _ _ _) = w5
    have r5 : Row 50 w5 r cap C := by rw [← HCL.out]; subst hW; exact (hr4.set3 HKT.out y).drew
    have f5 : Fr (fun i => i = r) w4 w5 := by subst hW; (repeat' (first | (with_reducible exact Fr.refl _ _) | (with_reducible assumption) | (with_reducible refine Fr.alloc ?_ _) | (with_reducible refine Fr.drew ?_) | (with_reducible refine Fr.drewN ?_ _) | (with_reducible refine Fr.setCell ?_ _ _ ?_) | (exact Or.inr rfl) | (left; simp; done) | (left; simp; omega) | (simp; done) | (simp; omega) | omega))
    clear hW d0 d1 d2 c0 y0 y1 y2 u0 u1 u2 l4 l5 l6 hr4
    have bb5 := bb4.fr f5 (Ne.symm ngr)
    rw [← HLC.out] at bb5
    have bX5 := bX4.fr f5 (by omega)
    have bR5 := bR4.fr f5 (by omega)
    have HR5 : Hid (Rh w5 g r cap C size) := hid ⟨bb5, r5, hcap, ngr⟩
    have F5 := F4.trans f5 (fun _ _ e => .inr e)
    clear bb4 bb5 r5 bX4 bR4 bE4 f5 F4
    refine (rup_at HR5.out (by rw [HLC.out]; exact hkl) (by rw [HLC.out]; omega)).mono ?_
    rintro e w6 ⟨rfl, h6, f6⟩
    have bX6 := bX5.fr f6 (by omega)
    have bR6 := bR5.fr f6 (by omega)
    have F6 := F5.trans f6 (fun _ _ e => .inr e)
    clear bX5 bR5 f6 F5
    by_cases hu : (up k C k).2 = k
    · have hd : decide ((up k C k).2 ≠ k) = false := by simp [hu]
      rw [hd]
      rw [up_samk hu] at h6
      have HNS := hid (HMS.out.trans (settle_down hu))
      clear hd hu
      go_wp2_with fail
      refine (rdown_at h6 (by rw [HLC.out]; exact hkl) (by rw [HLC.out]; omega)).mono ?_
      rintro e W8 ⟨rfl, h8, f8⟩
      rw [← HNS.out] at h8
      have bX8 := bX6.fr f8 (by omega)
      have bR8 := bR6.fr f8 (by omega)
      have F8 := F6.trans f8 (fun _ _ e => .inr e)
      clear bX6 bR6 f8 F6
      obtain ⟨x0, x1, x2, _⟩ := bX8.c3
      obtain ⟨r0, r1, r2, q0, q1, q2⟩ := bR8.c3
      go_wp2_with fail
      generalize hW : World.setCell (World.setCell _ _ _) _ _ = W9
      have b3 : Blk W9 w.heap.size #[.int .u64 x.f0, .int .u64 x.f1, .int .i64 x.f2] 50 := by subst hW; exact bR8.set3 _ _ _
      have f9 : Fr (fun i => i = w.heap.size) W8 W9 := by subst hW; (repeat' (first | (with_reducible exact Fr.refl _ _) | (with_reducible assumption) | (with_reducible refine Fr.alloc ?_ _) | (with_reducible refine Fr.drew ?_) | (with_reducible refine Fr.drewN ?_ _) | (with_reducible refine Fr.setCell ?_ _ _ ?_) | (exact Or.inr rfl) | (left; simp; done) | (left; simp; omega) | (simp; done) | (simp; omega) | omega))
      clear hW
      refine bodyPost_ret (results_ct rfl _ _ _ 50 _ (0, 0) _ rfl b3 Try.underlying50 rfl (by kernel_rfl)) rfl ?_
      exact ⟨rfl, (h8).fr f9 (by omega) (by omega), (F8).trans f9 (fun i hi e => by omega)⟩
    · have hd : decide ((up k C k).2 ≠ k) = true := by simp [hu]
      rw [hd]
      rw [← settle_up hu, ← HMS.out] at h6
      clear hd hu
      obtain ⟨x0, x1, x2, _⟩ := bX6.c3
      obtain ⟨r0, r1, r2, q0, q1, q2⟩ := bR6.c3
      go_wp2_with fail
      generalize hW : World.setCell (World.setCell _ _ _) _ _ = W9
      have b3 : Blk W9 w.heap.size #[.int .u64 x.f0, .int .u64 x.f1, .int .i64 x.f2] 50 := by subst hW; exact bR6.set3 _ _ _
      have f9 : Fr (fun i => i = w.heap.size) w6 W9 := by subst hW; (repeat' (first | (with_reducible exact Fr.refl _ _) | (with_reducible assumption) | (with_reducible refine Fr.alloc ?_ _) | (with_reducible refine Fr.drew ?_) | (with_reducible refine Fr.drewN ?_ _) | (with_reducible refine Fr.setCell ?_ _ _ ?_) | (exact Or.inr rfl) | (left; simp; done) | (left; simp; omega) | (simp; done) | (simp; omega) | omega))
      clear hW
      refine bodyPost_ret (results_ct rfl _ _ _ 50 _ (0, 0) _ rfl b3 Try.underlying50 rfl (by kernel_rfl)) rfl ?_
      exact ⟨rfl, (h6).fr f9 (by omega) (by omega), (F6).trans f9 (fun i hi e => by omega)⟩
  · have t1 : decide (k < q) = false := decide_eq_false hkl
    have t1' : decide ((k : Int) < (q : Int)) = false := decide_eq_false (by omega)
    go_upto_region 12 with (at_builtin; fail)
    generalize hW : World.alloc (World.alloc (World.setCell W _ _) _) _ = w4
    have f4 : Fr (fun i => i = g) W w4 := by subst hW; (repeat' (first | (with_reducible exact Fr.refl _ _) | (with_reducible assumption) | (with_reducible refine Fr.alloc ?_ _) | (with_reducible refine Fr.drew ?_) | (with_reducible refine Fr.drewN ?_ _) | (with_reducible refine Fr.setCell ?_ _ _ ?_) | (exact Or.inr rfl) | (left; simp; done) | (left; simp; omega) | (simp; done) | (simp; omega) | omega))
    have bb4 : Blk w4 g #[.slice (some ⟨r, 0, none⟩) q cap, .int .i64 size] 61 := by subst hW; exact ((h1.blk.set rfl).alloc _).alloc _
    have bX4 : Blk w4 W.heap.size #[.int .u64 x.f0, .int .u64 x.f1, .int .i64 x.f2] 50 := by subst hW; exact (Blk.new' _ _ _ (by simp)).alloc _
    have bE4 : Blk w4 (W.heap.size + 1) #[.int .u64 y.f0, .int .u64 y.f1, .int .i64 y.f2] 50 := by subst hW; exact Blk.new' _ _ _ (by simp)
    clear hW
    have hr4 : Row 50 w4 r cap (L.take q) := (h1.row.fr f4 h1.gr).take q
    have bR4 := bR.fr f4 (fun e => by have := H.out.blk.lt; omega)
    have F4 : Fr (fun i => i = g ∨ i = r) w w4 := (f0.mono (T := fun i => i = g ∨ i = r) (fun _ _ h => h.elim)).trans f4 (fun _ _ e => .inl e)
    have hlq : (L.take q).length = q := by rw [List.length_take, ← HN.out]; omega
    have hW1 := bR.lt
    have hgl := H.out.blk.lt
    have hrw := H.out.row.lt
    have ngr := H.out.gr
    have hcap := H.out.cap
    clear d0 d1 d2 d3 d4 d5 b0 h1 bR hb8 hr8 qb0 f4 f0 hbl hrl
    have hMs : M = L.take q := by rw [HM.out, ← HN.out, HQ.out, if_neg (by omega)]; unfold cutOut; rw [← HN.out, HQ.out, if_neg (by omega)]; rfl
    have HH : Hid (Rh w4 g r cap M size) := hid ⟨by rw [hMs, hlq]; exact bb4, by rw [hMs]; exact hr4, hcap, ngr⟩
    clear hMs bb4 hr4 bE4
    obtain ⟨x0, x1, x2, _⟩ := bX4.c3
    obtain ⟨r0, r1, r2, q0, q1, q2⟩ := bR4.c3
    go_wp2_with fail
    generalize hW : World.setCell (World.setCell _ _ _) _ _ = W9
    have b3 : Blk W9 w.heap.size #[.int .u64 x.f0, .int .u64 x.f1, .int .i64 x.f2] 50 := by subst hW; exact bR4.set3 _ _ _
    have f9 : Fr (fun i => i = w.heap.size) w4 W9 := by subst hW; (repeat' (first | (with_reducible exact Fr.refl _ _) | (with_reducible assumption) | (with_reducible refine Fr.alloc ?_ _) | (with_reducible refine Fr.drew ?_) | (with_reducible refine Fr.drewN ?_ _) | (with_reducible refine Fr.setCell ?_ _ _ ?_) | (exact Or.inr rfl) | (left; simp; done) | (left; simp; omega) | (simp; done) | (simp; omega) | omega))
    clear hW
    refine bodyPost_ret (results_ct rfl _ _ _ 50 _ (0, 0) _ rfl b3 Try.underlying50 rfl (by kernel_rfl)) rfl ?_
    exact ⟨rfl, (HH.out).fr f9 (by omega) (by omega), (F4).trans f9 (fun i hi e => by omega)⟩
/-- Remove, whatever it answers. -/
theorem rrem_at {w : World} {g : Nat} {v : Value} {L : List It} {size : Int} {id : Int} (h : RH w g v L size) :
    Calls Try.prog 26 #[.pointer (some ⟨g, 0, none⟩), .int .u64 id] w fun e w' => e = .returned (.tuple #[vI (remX L id), .int .i64 (remE L id)]) ∧
      ∃ v', RH w' g v' (remL L id) size ∧ (∀ i, v'.ownBlock = some i → v.ownBlock = some i ∨ w.heap.size ≤ i) ∧ Fr (Rt g v) w w' := by
  cases hpl : place L id with
  | none =>
    refine (rrem_no h hpl).mono ?_
    rintro e w' ⟨rfl, f⟩
    have e1 : remX L id = ⟨0, 0, 0⟩ := by unfold remX; rw [hpl]
    have e2 : remE L id = 6 := by unfold remE; rw [hpl]; rfl
    have e3 : remL L id = L := by unfold remL; rw [hpl]
    rw [e1, e2, e3]
    exact ⟨rfl, v, h.fr0 f, fun g e => .inl e, f.mono (fun _ _ h => h.elim)⟩
  | some k =>
    have hk := place_perm_some hpl
    rcases h.form with ⟨_, hnil⟩ | ⟨r, cap, hv, hp⟩
    · rw [hnil] at hk; simp at hk
    have e1 : remX L id = nth L k := by unfold remX; rw [hpl]
    have e2 : remE L id = 0 := by unfold remE; rw [hpl]; rfl
    have e3 : remL L id = (if k < L.length - 1 then settle (cutOut L k) k else cutOut L k) := by unfold remL; rw [hpl]
    rw [e1, e2]
    refine (rrem_ok hp h.small hpl e3).mono ?_
    rintro e w' ⟨rfl, h9, f9⟩
    have hl := h.len
    have hln : (remL L id).length = L.length - 1 := by rw [e3]; split <;> simp [settle_length, cutOut_length]
    refine ⟨rfl, _, RH.of h9 (by rw [hln]; omega) h.sz, fun i e => .inl (by rw [hv]; exact e), f9.mono (fun i hi e => ?_)⟩
    rcases e with e | e
    · exact .inl e
    · exact .inr (by rw [hv, e]; rfl)
end Go.Proofs.Ytkcfhdnlmdndeaa
