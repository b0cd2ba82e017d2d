/- The document's heap: Pop and New. -/
import Derived.Test.YtkcfhdnlmdndeaaRfRem
namespace Go.Proofs.Ytkcfhdnlmdndeaa
open Go.RowKit Go.Proofs.YtkcfhdnlmdndeaaW.PrintWords Go.Proofs.YtkcfhdnlmdndeaaW.PrintLast Go.Proofs.YtkcfhdnlmdndeaaW.PrintMore PHp
set_option linter.unusedVariables false
set_option linter.unusedSimpArgs false
set_option maxRecDepth 100000
theorem place_zero {L : List It} (h : 0 < L.length) : place L (nth L 0).f0 = some 0 := by
  unfold place
  rw [List.findIdx?_eq_some_iff_getElem]
  refine ⟨h, ?_, fun j hj => absurd hj (Nat.not_lt_zero _)⟩
  have := nth_of (List.getElem?_eq_getElem h)
  rw [← this]; simp
set_option maxHeartbeats 2000000 in
theorem rpop_at {w : World} {g : Nat} {v : Value} {L : List It} {size : Int} (h : RH w g v L size) :
    Calls Try.prog 27 #[.pointer (some ⟨g, 0, none⟩)] w fun e w' => e = .returned (.tuple #[vI (popX L), .int .i64 (popE L)]) ∧
      ∃ v', RH w' g v' (popL L) size ∧ (∀ i, v'.ownBlock = some i → v.ownBlock = some i ∨ w.heap.size ≤ i) ∧ Fr (Rt g v) w w' := by
  by_cases h0 : L.length = 0
  · have e1 : popX L = ⟨0, 0, 0⟩ := by have := List.eq_nil_of_length_eq_zero h0; subst this; rfl
    have e2 : popE L = 6 := if_pos h0
    have e3 : popL L = L := if_pos h0
    rw [e1, e2, e3]
    clear e1 e2 e3
    have hlen : ∃ c a, v = .slice a 0 c := by
      rcases h.form with ⟨rfl, _⟩ | ⟨g, cap, rfl, _⟩
      · exact ⟨0, none, rfl⟩
      · exact ⟨cap, _, by rw [h0]⟩
    obtain ⟨c, a, hv⟩ := hlen
    have H := hid h
    have HV := hid hv
    clear h hv h0
    go_enter Try.func27, Try.ntmps27
    have b0 := H.out.blk.cell 0
    rw [HV.out] at b0
    simp at b0
    have hgl := H.out.blk.lt
    have hg8 := lt8 hgl
    go_upto_region 2 with fail
    generalize hW : World.alloc w _ = W
    have f0 : Fr (fun _ => False) w W := by subst hW; (repeat' (first | (with_reducible exact Fr.refl _ _) | (with_reducible assumption) | (with_reducible refine Fr.alloc ?_ _) | (with_reducible refine Fr.drew ?_) | (with_reducible refine Fr.drewN ?_ _) | (with_reducible refine Fr.setCell ?_ _ _ ?_) | (exact Or.inr rfl) | (left; simp; done) | (left; simp; omega) | (simp; done) | (simp; omega) | omega))
    have bR : Blk W w.heap.size #[.int .u64 0, .int .u64 0, .int .i64 0] 50 := by subst hW; (repeat' (first | (with_reducible assumption) | (with_reducible apply Blk.drew) | (with_reducible apply Blk.drewN) | (with_reducible apply Blk.set) | (with_reducible apply Blk.other) | (exact Blk.new' _ _ _ (by first | rfl | (simp; done) | (simp; omega))) | (with_reducible apply Blk.alloc) | (with_reducible rfl) | (simp; done) | (simp; omega) | omega | rfl))
    clear hW b0
    obtain ⟨r0, r1, r2, q0, q1, q2⟩ := bR.c3
    go_wp2_with fail
    generalize hW : World.setCell (World.setCell _ _ _) _ _ = W9
    have b3 : Blk W9 w.heap.size #[.int .u64 0, .int .u64 0, .int .i64 0] 50 := by subst hW; exact bR.set3 _ _ _
    have f9 : Fr (fun _ => False) w W9 := by subst hW; (repeat' (first | (with_reducible exact Fr.refl _ _) | (with_reducible assumption) | (with_reducible refine Fr.alloc ?_ _) | (with_reducible refine Fr.drew ?_) | (with_reducible refine Fr.drewN ?_ _) | (with_reducible refine Fr.setCell ?_ _ _ ?_) | (exact Or.inr rfl) | (left; simp; done) | (left; simp; omega) | (simp; done) | (simp; omega) | omega))
    refine bodyPost_ret (results_ct rfl _ _ _ 50 _ (0, 0) _ rfl b3 Try.underlying50 rfl (by kernel_rfl)) rfl ?_
    exact ⟨rfl, v, H.out.fr0 f9, fun g e => .inl e, f9.mono (fun _ _ h => h.elim)⟩
  · have hp0 : place L (nth L 0).f0 = some 0 := place_zero (by omega)
    have e1 : remX L (nth L 0).f0 = popX L := by unfold remX popX; rw [hp0]
    have e2 : popE L = 0 := if_neg h0
    have e3 : popL L = remL L (nth L 0).f0 := if_neg h0
    have e4 : remE L (nth L 0).f0 = 0 := by unfold remE; rw [hp0]; rfl
    rw [e2, e3, ← e1]
    rcases h.form with ⟨_, hnil⟩ | ⟨r, cap, hv, hp⟩
    · rw [hnil] at h0; exact absurd rfl h0
    have H := hid h
    have hk := nth_some (l := L) (i := 0) (by omega)
    have hL : L.length ≤ 9223372036854775807 := by have := h.small; omega
    have z1 : (0 : Int) < (L.length : Int) := by omega
    have z2 : ((L.length : Int) == 0) = false := by rw [beq_eq_false_iff_ne]; omega
    obtain ⟨x, hx⟩ : ∃ x, x = nth L 0 := ⟨_, rfl⟩
    rw [← hx] at hk e4 ⊢
    have HP0 := hid hp
    have HV := hid hv
    have HR : Hid (∀ W, RH W g v L size → Calls Try.prog 26 #[.pointer (some ⟨g, 0, none⟩), .int .u64 x.f0] W fun e w' => e = .returned (.tuple #[vI (remX L x.f0), .int .i64 0]) ∧
      ∃ v', RH w' g v' (remL L x.f0) size ∧ (∀ g, v'.ownBlock = some g → v.ownBlock = some g ∨ W.heap.size ≤ g) ∧ Fr (Rt g v) W w') := hid (fun W hW => by have := rrem_at (id := x.f0) hW; rw [e4] at this; exact this)
    clear h hv hp e1 e2 e3 e4 hp0 hx
    go_enter Try.func27, Try.ntmps27
    have b0 := HP0.out.blk.cell 0
    obtain ⟨d0, d1, d2⟩ := HP0.out.row.at3 hk
    simp at b0 d0
    have hgl := HP0.out.blk.lt
    have hg8 := lt8 hgl
    have hrl := HP0.out.row.lt
    have hr8 := lt8 hrl
    go_wp2_with fail
    generalize hW : World.alloc w _ = W
    have f0 : Fr (fun _ => False) w W := by subst hW; (repeat' (first | (with_reducible exact Fr.refl _ _) | (with_reducible assumption) | (with_reducible refine Fr.alloc ?_ _) | (with_reducible refine Fr.drew ?_) | (with_reducible refine Fr.drewN ?_ _) | (with_reducible refine Fr.setCell ?_ _ _ ?_) | (exact Or.inr rfl) | (left; simp; done) | (left; simp; omega) | (simp; done) | (simp; omega) | omega))
    have bR : Blk W w.heap.size #[.int .u64 0, .int .u64 0, .int .i64 0] 50 := by subst hW; (repeat' (first | (with_reducible assumption) | (with_reducible apply Blk.drew) | (with_reducible apply Blk.drewN) | (with_reducible apply Blk.set) | (with_reducible apply Blk.other) | (exact Blk.new' _ _ _ (by first | rfl | (simp; done) | (simp; omega))) | (with_reducible apply Blk.alloc) | (with_reducible rfl) | (simp; done) | (simp; omega) | omega | rfl))
    clear hW b0 d0 d1 d2
    refine (HR.out _ (H.out.fr0 f0)).mono ?_
    rintro e w2 ⟨rfl, v', h2, hv2, f2⟩
    have bR2 := bR.fr f2 (fun e => by have := H.out.lt _ e; omega)
    obtain ⟨r0, r1, r2, q0, q1, q2⟩ := bR2.c3
    go_wp2_with fail
    generalize hW : World.setCell (World.setCell _ _ _) _ _ = W9
    have b3 : Blk W9 w.heap.size #[.int .u64 (remX L x.f0).f0, .int .u64 (remX L x.f0).f1, .int .i64 (remX L x.f0).f2] 50 := by subst hW; exact bR2.set3 _ _ _
    have f9 : Fr (fun i => i = w.heap.size) w2 W9 := by subst hW; (repeat' (first | (with_reducible exact Fr.refl _ _) | (with_reducible assumption) | (with_reducible refine Fr.alloc ?_ _) | (with_reducible refine Fr.drew ?_) | (with_reducible refine Fr.drewN ?_ _) | (with_reducible refine Fr.setCell ?_ _ _ ?_) | (exact Or.inr rfl) | (left; simp; done) | (left; simp; omega) | (simp; done) | (simp; omega) | omega))
    refine bodyPost_ret (results_ct rfl _ _ _ 50 _ (0, 0) _ rfl b3 Try.underlying50 rfl (by kernel_rfl)) rfl ?_
    have F2 := (f0.mono (T := Rt g v) (fun _ _ h => h.elim)).trans f2 (fun _ _ h => h)
    refine ⟨rfl, v', h2.fr f9 (fun i hi e => ?_), fun i e => ?_, F2.trans f9 (fun i hi e => by omega)⟩
    · subst e
      rcases hi with e | e
      · have := H.out.blk.lt; omega
      · rcases hv2 _ e with e | e
        · have := (H.out.row.lt _ e).2; omega
        · have := bR.lt; omega
    · rcases hv2 i e with e | e
      · exact .inl e
      · exact .inr (Nat.le_trans f0.size e)
theorem rnew_at {w : World} {size : Int} (h1 : 1 ≤ size) (h2 : size ≤ 1048576) :
    Calls Try.prog 23 #[.int .i64 size] w fun e w' => e = .returned (.tuple #[.pointer (some ⟨w.heap.size, 0, none⟩), .int .i64 0]) ∧ RH w' w.heap.size (.slice none 0 0) [] size ∧ Fr (fun _ => False) w w' := by
  have t1 : decide (size < 1) = false := decide_eq_false (by omega)
  have t2 : decide (1048576 < size) = false := decide_eq_false (by omega)
  go_enter Try.func23, Try.ntmps23
  go_wp2_with fail
  go_returns
  have hb1 : Blk (w.alloc (.cells #[.slice none 0 0, .int .i64 size] 61)) w.heap.size #[.slice none 0 0, .int .i64 size] 61 := by (repeat' (first | (with_reducible assumption) | (with_reducible apply Blk.drew) | (with_reducible apply Blk.drewN) | (with_reducible apply Blk.set) | (with_reducible apply Blk.other) | (exact Blk.new' _ _ _ (by first | rfl | (simp; done) | (simp; omega))) | (with_reducible apply Blk.alloc) | (with_reducible rfl) | (simp; done) | (simp; omega) | omega | rfl))
  have f1 : Fr (fun _ => False) w (w.alloc (.cells #[.slice none 0 0, .int .i64 size] 61)) := by (repeat' (first | (with_reducible exact Fr.refl _ _) | (with_reducible assumption) | (with_reducible refine Fr.alloc ?_ _) | (with_reducible refine Fr.drew ?_) | (with_reducible refine Fr.drewN ?_ _) | (with_reducible refine Fr.setCell ?_ _ _ ?_) | (exact Or.inr rfl) | (left; simp; done) | (left; simp; omega) | (simp; done) | (simp; omega) | omega))
  refine ⟨rfl, ⟨hb1, World.ownsRow_nil _ _ _ _, ?_, h2⟩, f1⟩
  show ((0 : Nat) : Int) ≤ size; omega
theorem rnew_no {w : World} {size : Int} (h : ¬ (1 ≤ size ∧ size ≤ 1048576)) :
    Calls Try.prog 23 #[.int .i64 size] w fun e w' => e = .returned (.tuple #[.pointer none, .int .i64 1]) ∧ Fr (fun _ => False) w w' := by
  by_cases h1 : size < 1
  · go_enter Try.func23, Try.ntmps23
    go_wp2
    go_returns
    exact ⟨rfl, by (repeat' (first | (with_reducible exact Fr.refl _ _) | (with_reducible assumption) | (with_reducible refine Fr.alloc ?_ _) | (with_reducible refine Fr.drew ?_) | (with_reducible refine Fr.drewN ?_ _) | (with_reducible refine Fr.setCell ?_ _ _ ?_) | (exact Or.inr rfl) | (left; simp; done) | (left; simp; omega) | (simp; done) | (simp; omega) | omega))⟩
  · have h2 : 1048576 < size := by omega
    have t1 : decide (size < 1) = false := decide_eq_false (by omega)
    have t2 : decide (1048576 < size) = true := decide_eq_true (by omega)
    clear h h1 h2
    go_enter Try.func23, Try.ntmps23
    go_wp2
    go_returns
    exact ⟨rfl, by (repeat' (first | (with_reducible exact Fr.refl _ _) | (with_reducible assumption) | (with_reducible refine Fr.alloc ?_ _) | (with_reducible refine Fr.drew ?_) | (with_reducible refine Fr.drewN ?_ _) | (with_reducible refine Fr.setCell ?_ _ _ ?_) | (exact Or.inr rfl) | (left; simp; done) | (left; simp; omega) | (simp; done) | (simp; omega) | omega))⟩
end Go.Proofs.Ytkcfhdnlmdndeaa
