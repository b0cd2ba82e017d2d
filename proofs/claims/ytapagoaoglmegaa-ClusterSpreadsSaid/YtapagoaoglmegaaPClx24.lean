/- Lean functions and the walks that show the Go code comes to them, written by a program for this claim. -/
import Derived.Test.YtapagoaoglmegaaPClx0
import Derived.Test.YtapagoaoglmegaaPClx17
import Derived.Test.YtapagoaoglmegaaPClx18
import Derived.Test.YtapagoaoglmegaaPClx21
import Derived.Test.YtapagoaoglmegaaPClx23
namespace Go.Proofs.Ytapagoaoglmegaa.PCl
open Go.RowKit Go.Proofs.YtapagoaoglmegaaW.PrintWords Go.Proofs.YtapagoaoglmegaaW.PrintLast Go.Proofs.YtapagoaoglmegaaW.PrintMore
attribute [local go_sem] max2_int min2_int max_two min_two max_three min_three max_four min_four   -- for this text's walks alone
set_option linter.unusedVariables false
set_option linter.unusedSimpArgs false

/-! ### ephemerislaw23_ClusterSpreads: function 5 -/
mutual
def ephemerislaw23_ClusterSpreads.l0 : Nat → List (S27) → Int → List (S27) → Int → Int → Option (Bool)
 | 0, _, _, _, _, _ => none
 | k + 1, x3, x4, x26, x27, x28 => if x28 < x27 then (if 0 ≤ x28 then (if x28 < (x26.length : Int) then (ephemerislaw23_ClusterSpreads.l1 k x3 x4 x28 0 x26 x27 x28 x3 (x3.length : Int) 0 ((rd_T27 x26 x28).f0) ((rd_T27 x26 x28).f1.f0) ((rd_T27 x26 x28).f1.f1) ((rd_T27 x26 x28).f1.f2) ((rd_T27 x26 x28).f2)) else (none)) else (none)) else (if (x3.length : Int) = 2 then ((cluster_Spread.f x3 0).bind fun t472 => ((cluster_Spread.f x3 1).bind fun t473 => (if t472 = t473 then ((ephemerislaw23_awake.f k).bind fun t474 => (some t474)) else (some false)))) else ((ephemerislaw23_awake.f k).bind fun t475 => (some t475)))
def ephemerislaw23_ClusterSpreads.l1 : Nat → List (S27) → Int → Int → Int → List (S27) → Int → Int → List (S27) → Int → Int → Int → Int → Int → Int → Int → Option (Bool)
 | 0, _, _, _, _, _, _, _, _, _, _, _, _, _, _, _ => none
 | k + 1, x3, x4, x6, x8, x26, x27, x28, x33, x34, x35, x465000, x465001, x465002, x465003, x465004 => if x35 < x34 then (if 0 ≤ x35 then (if x35 < (x33.length : Int) then ((span_Mid.f k ((rd_T27 x33 x35).f1.f0) ((rd_T27 x33 x35).f1.f1) ((rd_T27 x33 x35).f1.f2)).bind fun t467 => ((span_Mid.f k x465001 x465002 x465003).bind fun t468 => (ephemerislaw23_ClusterSpreads.l1 k x3 x4 x6 (wrap64 (x8 + (mx (wrap64 (t467 - t468)) (wrap64 (-(wrap64 (t467 - t468))))))) x26 x27 x28 x33 x34 (wrap64 (x35 + 1)) x465000 x465001 x465002 x465003 x465004))) else (none)) else (none)) else ((cluster_Spread.f x3 x6).bind fun t469 => (if (wrap64 (t469 * (mx (wrap64 ((x3.length : Int) - 1)) 1))) > x8 then (some false) else (if (wrap64 (x8 - (wrap64 (t469 * (mx (wrap64 ((x3.length : Int) - 1)) 1))))) ≥ (mx (wrap64 ((x3.length : Int) - 1)) 1) then (some false) else ((cluster_Spread.f x3 x4).bind fun t470 => (if t469 > t470 then (some false) else ((cluster_Spread.f x3 x4).bind fun t471 => (if t469 = t471 then (if x6 > x4 then (some false) else (ephemerislaw23_ClusterSpreads.l0 k x3 x4 x26 x27 (wrap64 (x28 + 1)))) else (ephemerislaw23_ClusterSpreads.l0 k x3 x4 x26 x27 (wrap64 (x28 + 1))))))))))
end
def ephemerislaw23_ClusterSpreads.f (k : Nat) (l0 : List (S102)) : Option (Bool) := (ephemerislaw23_field.f k l0).bind fun t458 => ((cluster_Worst.f k t458).bind fun bt461 => (if (bt461.2 != (decide ((t458.length : Int) > 0))) = true then (some false) else (ephemerislaw23_ClusterSpreads.l0 k t458 bt461.1 t458 (t458.length : Int) 0)))
theorem ephemerislaw23_ClusterSpreads.mono_l : ∀ k, (∀ y0 y1 y2 y3 y4, LeO (ephemerislaw23_ClusterSpreads.l0 k y0 y1 y2 y3 y4) (ephemerislaw23_ClusterSpreads.l0 (k + 1) y0 y1 y2 y3 y4)) ∧ (∀ y0 y1 y2 y3 y4 y5 y6 y7 y8 y9 y10 y11 y12 y13 y14, LeO (ephemerislaw23_ClusterSpreads.l1 k y0 y1 y2 y3 y4 y5 y6 y7 y8 y9 y10 y11 y12 y13 y14) (ephemerislaw23_ClusterSpreads.l1 (k + 1) y0 y1 y2 y3 y4 y5 y6 y7 y8 y9 y10 y11 y12 y13 y14))
 | 0 => ⟨fun _ _ _ _ _ r h => by simp [ephemerislaw23_ClusterSpreads.l0] at h, fun _ _ _ _ _ _ _ _ _ _ _ _ _ _ _ r h => by simp [ephemerislaw23_ClusterSpreads.l1] at h⟩
 | k + 1 => by
  obtain ⟨ih0, ih1⟩ := ephemerislaw23_ClusterSpreads.mono_l k
  refine ⟨?_, ?_⟩
  ·intro y0 y1 y2 y3 y4
   unfold ephemerislaw23_ClusterSpreads.l0
   repeat' first
   | (with_reducible exact ih0 _ _ _ _ _)
   | (with_reducible exact ih1 _ _ _ _ _ _ _ _ _ _ _ _ _ _ _)
   | (with_reducible exact cluster_Worst.mono _ _)
   | (with_reducible exact ephemerislaw23_awake.mono _)
   | (with_reducible exact ephemerislaw23_field.mono _ _)
   | (with_reducible exact span_Mid.mono _ _ _ _)
   | (with_reducible exact LeO.refl _)
   | (with_reducible exact LeO.none _)
   | (with_reducible refine LeO.ite ?_ ?_)
   | (with_reducible refine LeO.bind ?_ (fun _ => ?_))
   | exact ih0 _ _ _ _ _
   | exact ih1 _ _ _ _ _ _ _ _ _ _ _ _ _ _ _
   | exact cluster_Worst.mono _ _
   | exact ephemerislaw23_awake.mono _
   | exact ephemerislaw23_field.mono _ _
   | exact span_Mid.mono _ _ _ _
   | exact LeO.none _
   | refine LeO.ite ?_ ?_
   | refine LeO.bind ?_ (fun _ => ?_)
  ·intro y0 y1 y2 y3 y4 y5 y6 y7 y8 y9 y10 y11 y12 y13 y14
   unfold ephemerislaw23_ClusterSpreads.l1
   repeat' first
   | (with_reducible exact ih0 _ _ _ _ _)
   | (with_reducible exact ih1 _ _ _ _ _ _ _ _ _ _ _ _ _ _ _)
   | (with_reducible exact cluster_Worst.mono _ _)
   | (with_reducible exact ephemerislaw23_awake.mono _)
   | (with_reducible exact ephemerislaw23_field.mono _ _)
   | (with_reducible exact span_Mid.mono _ _ _ _)
   | (with_reducible exact LeO.refl _)
   | (with_reducible exact LeO.none _)
   | (with_reducible refine LeO.ite ?_ ?_)
   | (with_reducible refine LeO.bind ?_ (fun _ => ?_))
   | exact ih0 _ _ _ _ _
   | exact ih1 _ _ _ _ _ _ _ _ _ _ _ _ _ _ _
   | exact cluster_Worst.mono _ _
   | exact ephemerislaw23_awake.mono _
   | exact ephemerislaw23_field.mono _ _
   | exact span_Mid.mono _ _ _ _
   | exact LeO.none _
   | refine LeO.ite ?_ ?_
   | refine LeO.bind ?_ (fun _ => ?_)
theorem ephemerislaw23_ClusterSpreads.mono : ∀ a0 k, LeO (ephemerislaw23_ClusterSpreads.f k a0) (ephemerislaw23_ClusterSpreads.f (k + 1) a0) := by
 intro a0 k
 obtain ⟨ih0, ih1⟩ := ephemerislaw23_ClusterSpreads.mono_l k
 unfold ephemerislaw23_ClusterSpreads.f
 repeat' first
   | (with_reducible exact ih0 _ _ _ _ _)
   | (with_reducible exact ih1 _ _ _ _ _ _ _ _ _ _ _ _ _ _ _)
   | (with_reducible exact cluster_Worst.mono _ _)
   | (with_reducible exact ephemerislaw23_awake.mono _)
   | (with_reducible exact ephemerislaw23_field.mono _ _)
   | (with_reducible exact span_Mid.mono _ _ _ _)
   | (with_reducible exact LeO.refl _)
   | (with_reducible exact LeO.none _)
   | (with_reducible refine LeO.ite ?_ ?_)
   | (with_reducible refine LeO.bind ?_ (fun _ => ?_))
   | exact ih0 _ _ _ _ _
   | exact ih1 _ _ _ _ _ _ _ _ _ _ _ _ _ _ _
   | exact cluster_Worst.mono _ _
   | exact ephemerislaw23_awake.mono _
   | exact ephemerislaw23_field.mono _ _
   | exact span_Mid.mono _ _ _ _
   | exact LeO.none _
   | refine LeO.ite ?_ ?_
   | refine LeO.bind ?_ (fun _ => ?_)
def ephemerislaw23_ClusterSpreads.T12 : Bool × List (List Nat × List Nat) := (true, [([], []), ([0], [0]), ([1], [1]), ([], []), ([3], [3]), ([4, 2], [4]), ([2, 5], [2, 5]), ([6, 5, 0, 1, 2, 3, 4, 5, 6], [6])])
def ephemerislaw23_ClusterSpreads.B12 : List Nat := [0, 1, 3, 0, 8, 31, 63, 127]
theorem ephemerislaw23_ClusterSpreads.tab12 : rtab .any (opsOf Try.f5 12) = ephemerislaw23_ClusterSpreads.T12 := by kernel_rfl
theorem ephemerislaw23_ClusterSpreads.bits12 : waitsOk ephemerislaw23_ClusterSpreads.T12.2 ephemerislaw23_ClusterSpreads.B12 = true := by kernel_rfl
set_option maxHeartbeats 8000000 in
set_option maxRecDepth 100000 in
theorem ephemerislaw23_ClusterSpreads.calls (k : Nat) (A0 : Option Addr) (c0 : Nat) (l0 : List (S102)) (r : Bool) (w : World) (hr0 : Kd.C k102 w A0 l0.length l0) (hc0 : l0.length ≤ c0) (h : ephemerislaw23_ClusterSpreads.f k l0 = some r) :
  Calls Try.prog 5 #[.slice A0 l0.length c0] w fun e w' => e = .returned (.bool r) ∧ Below w.heap.size w w' := by
 have hu27 := Try.underlying27
 have hu24 := Try.underlying24
 have HR0 := Aside0.mk hr0
 have HC0 := Aside0.mk hc0
 clear hr0 hc0
 have HB := Aside0.mk (Below.refl w.heap.size w)
 have H : ((ephemerislaw23_field.f k l0).bind fun t458 => ((cluster_Worst.f k t458).bind fun bt461 => (if (bt461.2 != (decide ((t458.length : Int) > 0))) = true then (some false) else (ephemerislaw23_ClusterSpreads.l0 k t458 bt461.1 t458 (t458.length : Int) 0)))) = some r := h
 clear h
 replace H := Option.bind_eq_some_iff.mp H
 obtain ⟨t458, A20, H⟩ := H
 replace H : ((cluster_Worst.f k t458).bind fun bt461 => (if (bt461.2 != (decide ((t458.length : Int) > 0))) = true then (some false) else (ephemerislaw23_ClusterSpreads.l0 k t458 bt461.1 t458 (t458.length : Int) 0))) = some r := H
 have A2 := Aside0.mk A20
 clear A20
 replace H := Option.bind_eq_some_iff.mp H
 obtain ⟨⟨t461, t462⟩, A30, H⟩ := H
 replace H : (if (t462 != (decide ((t458.length : Int) > 0))) = true then (some false) else (ephemerislaw23_ClusterSpreads.l0 k t458 t461 t458 (t458.length : Int) 0)) = some r := H
 have A3 := Aside0.mk A30
 clear A30
 by_cases c4 : (t462 != (decide ((t458.length : Int) > 0))) = true
 ·rw [if_pos c4] at H
  have c4b0 : (t462 != (decide ((t458.length : Int) > 0))) = true := c4
  have c4n : (!(t462 == decide (0 < t458.length))) = true := by rw [← (decide_eq_decide.2 (by omega) : decide ((t458.length : Int) > 0) = decide (0 < t458.length))]; exact c4b0
  (try (have c4b1 : decide (t462 = (decide ((t458.length : Int) > 0))) = false := by simpa using c4))
  (try (have c4b2 : (t462 == (decide ((t458.length : Int) > 0))) = false := by simpa using c4))
  (try (have c4b3 : ¬ (t462 = (decide ((t458.length : Int) > 0))) := by simpa using c4))
  clear c4
  obtain rfl := Option.some.inj H
  go_enter Try.func5, Try.ntmps5
  go_wp2_with (first | ((with_reducible refine gate_callee (f := 28) rfl ?_); refine goesL_ (some 15) rfl rfl Try.func28 (by kernel_rfl) rfl #[.slice A0 l0.length c0] rfl (by (try simp only [List.map_toArray, List.map_cons, List.map_nil]); first | done | rfl | (simp only [List.length_drop, List.length_take]; rfl)) ?_; (with_reducible refine (ephemerislaw23_field.calls k _ _ l0 t458 _ ?side1 ?side2 A2.out).mono ?_); (case side1 => repeat (first | exact HR0.out | (with_reducible refine Kd.C_alloc ?_ _) | (with_reducible refine Kd.C_drewN ?_ _) | (with_reducible refine Kd.C_drew ?_))); (case side2 => exact HC0.out); rintro e w5 ⟨v459, rfl, ho0, hb⟩; refine ⟨_, rfl, ?_⟩; have n0_ := Aside0.mk (Kd.R_lower ho0 (below_size (by repeat (first | (with_reducible first | exact HB.out | apply below_alloc | apply pw_below_drewN | apply below_drew1) | exact HB.out)))); have n1_ := Aside0.mk (below_step (by repeat (first | (with_reducible first | exact HB.out | apply below_alloc | apply pw_below_drewN | apply below_drew1) | exact HB.out)) hb); clear HB; have HO460 := n0_; have HB := n1_; clear n0_ n1_; (try clear hb); (try clear hb2); (try clear hk); (try clear hi); (try clear ho0); obtain ⟨Ao6, co6, eo6⟩ := Kd.R_slice HO460.out; subst eo6) | ((with_reducible refine gate_callee (f := 19) rfl ?_); refine goesL_ (some 18) rfl rfl Try.func19 (by kernel_rfl) rfl #[.slice Ao6 t458.length co6] rfl (by (try simp only [List.map_toArray, List.map_cons, List.map_nil]); first | done | rfl | (simp only [List.length_drop, List.length_take]; rfl)) ?_; (with_reducible refine (cluster_Worst.calls k _ _ t458 t461 t462 _ ?side1 ?side2 A3.out).mono ?_); (case side1 => repeat (first | exact (Kd.R_reads' HO460.out).2.2 | (with_reducible refine Kd.C_alloc ?_ _) | (with_reducible refine Kd.C_drewN ?_ _) | (with_reducible refine Kd.C_drew ?_))); (case side2 => exact (Kd.R_reads' HO460.out).2.1); rintro e w7 ⟨rfl, hb⟩; refine ⟨_, rfl, ?_⟩; have n0_ := Aside0.mk (Kd.R_below (by (with_reducible repeat (first | apply Kd.R_alloc | apply Kd.R_drewN | apply Kd.R_drew)); exact HO460.out) hb); have n1_ := Aside0.mk (below_step (by repeat (first | (with_reducible first | exact HB.out | apply below_alloc | apply pw_below_drewN | apply below_drew1) | exact HB.out)) hb); clear HO460; clear HB; have HO460 := n0_; have HB := n1_; clear n0_ n1_; (try clear hb); (try clear hb2); (try clear hk); (try clear hi)))
  go_ret
  exact ⟨by first | rfl | (simp [errW_none, errW_some] <;> rfl) | (simp [*, errW_none, errW_some] <;> rfl), by repeat (first | (with_reducible first | exact HB.out | apply below_alloc | apply pw_below_drewN | apply below_drew1) | exact HB.out)⟩
 ·rw [if_neg c4] at H
  have c4b0 : (t462 != (decide ((t458.length : Int) > 0))) = false := by simpa using c4
  have c4n : (!(t462 == decide (0 < t458.length))) = false := by rw [← (decide_eq_decide.2 (by omega) : decide ((t458.length : Int) > 0) = decide (0 < t458.length))]; exact c4b0
  (try (have c4b1 : decide (t462 = (decide ((t458.length : Int) > 0))) = true := by simpa using c4))
  (try (have c4b2 : (t462 == (decide ((t458.length : Int) > 0))) = true := by simpa using c4))
  clear c4
  have H' := Aside0.mk H
  clear H
  go_enter Try.func5, Try.ntmps5
  go_wp2_with (first | ((with_reducible refine gate_callee (f := 28) rfl ?_); refine goesL_ (some 15) rfl rfl Try.func28 (by kernel_rfl) rfl #[.slice A0 l0.length c0] rfl (by (try simp only [List.map_toArray, List.map_cons, List.map_nil]); first | done | rfl | (simp only [List.length_drop, List.length_take]; rfl)) ?_; (with_reducible refine (ephemerislaw23_field.calls k _ _ l0 t458 _ ?side1 ?side2 A2.out).mono ?_); (case side1 => repeat (first | exact HR0.out | (with_reducible refine Kd.C_alloc ?_ _) | (with_reducible refine Kd.C_drewN ?_ _) | (with_reducible refine Kd.C_drew ?_))); (case side2 => exact HC0.out); rintro e w8 ⟨v459, rfl, ho0, hb⟩; refine ⟨_, rfl, ?_⟩; have n0_ := Aside0.mk (Kd.R_lower ho0 (below_size (by repeat (first | (with_reducible first | exact HB.out | apply below_alloc | apply pw_below_drewN | apply below_drew1) | exact HB.out)))); have n1_ := Aside0.mk (below_step (by repeat (first | (with_reducible first | exact HB.out | apply below_alloc | apply pw_below_drewN | apply below_drew1) | exact HB.out)) hb); clear HB; have HO460 := n0_; have HB := n1_; clear n0_ n1_; (try clear hb); (try clear hb2); (try clear hk); (try clear hi); (try clear ho0); obtain ⟨Ao9, co9, eo9⟩ := Kd.R_slice HO460.out; subst eo9) | ((with_reducible refine gate_callee (f := 19) rfl ?_); refine goesL_ (some 18) rfl rfl Try.func19 (by kernel_rfl) rfl #[.slice Ao9 t458.length co9] rfl (by (try simp only [List.map_toArray, List.map_cons, List.map_nil]); first | done | rfl | (simp only [List.length_drop, List.length_take]; rfl)) ?_; (with_reducible refine (cluster_Worst.calls k _ _ t458 t461 t462 _ ?side1 ?side2 A3.out).mono ?_); (case side1 => repeat (first | exact (Kd.R_reads' HO460.out).2.2 | (with_reducible refine Kd.C_alloc ?_ _) | (with_reducible refine Kd.C_drewN ?_ _) | (with_reducible refine Kd.C_drew ?_))); (case side2 => exact (Kd.R_reads' HO460.out).2.1); rintro e w10 ⟨rfl, hb⟩; refine ⟨_, rfl, ?_⟩; have n0_ := Aside0.mk (Kd.R_below (by (with_reducible repeat (first | apply Kd.R_alloc | apply Kd.R_drewN | apply Kd.R_drew)); exact HO460.out) hb); have n1_ := Aside0.mk (below_step (by repeat (first | (with_reducible first | exact HB.out | apply below_alloc | apply pw_below_drewN | apply below_drew1) | exact HB.out)) hb); clear HO460; clear HB; have HO460 := n0_; have HB := n1_; clear n0_ n1_; (try clear hb); (try clear hb2); (try clear hk); (try clear hi)))
  go_loopg [28] k (fun kq v28 w' => ∃ (x28_1 : Int), v28 = .int .i64 x28_1 ∧ Aside0 (ephemerislaw23_ClusterSpreads.l0 kq t458 t461 t458 (t458.length : Int) x28_1 = some r) ∧ Aside0 (kq ≤ k) ∧ Aside0 (Kd.R k27 27 w' w.heap.size (fun _ => True) (.slice Ao9 t458.length co9) t458) ∧ Aside0 (Kd.R k27 27 w' w.heap.size (fun _ => True) (.slice Ao9 t458.length co9) t458) ∧ Aside0 (Below w.heap.size w w'))
  case atStart => exact ⟨(0), (by first | rfl | (simp; done) | (simp [*]; done)), H', ⟨Nat.le_refl _⟩, ⟨by (with_reducible repeat (first | apply Kd.R_alloc | apply Kd.R_drewN | apply Kd.R_drew)); exact HO460.out⟩, ⟨by (with_reducible repeat (first | apply Kd.R_alloc | apply Kd.R_drewN | apply Kd.R_drew)); exact HO460.out⟩, ⟨by repeat (first | (with_reducible first | exact HB.out | apply below_alloc | apply pw_below_drewN | apply below_drew1) | exact HB.out)⟩⟩
  case round =>
   clear H'
   try clear c1
   try clear c2
   try clear p2
   try clear c4
   try clear c4b0
   try clear c4b1
   try clear c4b2
   try clear c5
   obtain ⟨x28_1, rfl, HA, HK1, HO_3, HO_26, HB⟩ := hrel
   cases gk with
   | zero => exact absurd HA.out (by simp [ephemerislaw23_ClusterSpreads.l0])
   | succ k1 =>
    have H := HA.out
    clear HA
    simp only [ephemerislaw23_ClusterSpreads.l0] at H
    by_cases c11 : x28_1 < (t458.length : Int)
    ·rw [if_pos c11] at H
     have c11b0 : decide (x28_1 < (t458.length : Int)) = true := decide_eq_true c11
     clear c11
     by_cases c12 : 0 ≤ x28_1
     ·rw [if_pos c12] at H
      have c12b0 : decide (0 ≤ x28_1) = true := decide_eq_true c12
      clear c12
      by_cases c13 : x28_1 < (t458.length : Int)
      ·rw [if_pos c13] at H
       have c13b0 : decide (x28_1 < (t458.length : Int)) = true := decide_eq_true c13
       clear c13
       have H' := Aside0.mk H
       clear H
       have p463 : 0 ≤ (x28_1 : Int) := of_decide_eq_true (by first | (with_reducible assumption) | assumption)
       have q463 : x28_1 < (t458.length : Int) := of_decide_eq_true (by first | (with_reducible assumption) | assumption)
       obtain ⟨ad463, e463, hx463_0, hx463_1, hx463_2, hx463_3, hx463_4⟩ := at_T27 (Kd.R_reads' HO_26.out).2.2 x28_1 p463 q463
       cases e463
       replace p463 := eq_true p463
       replace q463 := eq_true q463
       go_wp2_with (first | ((with_reducible refine gate_dst (N := 7) rfl ?_); refine box_event ?hg (N := 7) ?hd (cs := #[.int .i64 0, .int .i64 0, .int .i64 0, .int .i64 0, .int .i64 0]) (t := 27) ?hr ?_; (case hd => rfl); (case hg => rfl); (case hr => first | (go_simp; done) | (go_simp; rfl)); intro gb464 hg w14 hbox hb; have n0_ := Aside0.mk (Kd.R_below (Kd.R_elderB (by (with_reducible repeat (first | apply Kd.R_alloc | apply Kd.R_drewN | apply Kd.R_drew)); exact HO_3.out) gb464 (Nat.le_of_eq hg.symm)) hb); have n1_ := Aside0.mk (Kd.R_below (Kd.R_elderB (by (with_reducible repeat (first | apply Kd.R_alloc | apply Kd.R_drewN | apply Kd.R_drew)); exact HO_26.out) gb464 (Nat.le_of_eq hg.symm)) hb); have n2_ := Aside0.mk (below_step (by repeat (first | (with_reducible first | exact HB.out | apply below_alloc | apply pw_below_drewN | apply below_drew1) | exact HB.out)) hb); have n3_ := Aside0.mk (hbox); have n4_ := Aside0.mk ((by rw [hg]; exact (below_size (by repeat (first | (with_reducible first | exact HB.out | apply below_alloc | apply pw_below_drewN | apply below_drew1) | exact HB.out))) : w.heap.size ≤ gb464)); have n5_ := Aside0.mk ((by rw [hg]; exact (below_size (by repeat (first | (with_reducible first | exact HB.out | apply below_alloc | apply pw_below_drewN | apply below_drew1) | exact HB.out))) : w.heap.size ≤ gb464)); clear HO_3; clear HO_26; clear HB; have HO_3 := n0_; have HO_26 := n1_; have HB := n2_; have BK464 := n3_; have GW464 := n4_; have GE464 := n5_; clear n0_ n1_ n2_ n3_ n4_ n5_; clear hb hbox hg; have hcz15_0 : w14.cell? ⟨gb464, 0, none⟩ = some (.int .i64 0) := (blk_cell BK464.out 0).trans rfl; have hcz15_1 : w14.cell? ⟨gb464, 1, none⟩ = some (.int .i64 0) := (blk_cell BK464.out 1).trans rfl; have hcz15_2 : w14.cell? ⟨gb464, 2, none⟩ = some (.int .i64 0) := (blk_cell BK464.out 2).trans rfl; have hcz15_3 : w14.cell? ⟨gb464, 3, none⟩ = some (.int .i64 0) := (blk_cell BK464.out 3).trans rfl; have hcz15_4 : w14.cell? ⟨gb464, 4, none⟩ = some (.int .i64 0) := (blk_cell BK464.out 4).trans rfl; have hfz15_0 := blk_frozen BK464.out 0; have hfz15_1 := blk_frozen BK464.out 1; have hfz15_2 := blk_frozen BK464.out 2; have hfz15_3 := blk_frozen BK464.out 3; have hfz15_4 := blk_frozen BK464.out 4))
       go_loopg [8, 35] k1 (fun kq v8 v35 w' => ∃ (x8_2 : Int) (x35_2 : Int), v8 = .int .i64 x8_2 ∧ v35 = .int .i64 x35_2 ∧ Aside0 (ephemerislaw23_ClusterSpreads.l1 kq t458 t461 x28_1 x8_2 t458 (t458.length : Int) x28_1 t458 (t458.length : Int) x35_2 ((rd_T27 t458 x28_1).f0) ((rd_T27 t458 x28_1).f1.f0) ((rd_T27 t458 x28_1).f1.f1) ((rd_T27 t458 x28_1).f1.f2) ((rd_T27 t458 x28_1).f2) = some r) ∧ Aside0 (kq ≤ k1) ∧ Aside0 (Kd.R k27 27 w' w.heap.size (fun k_ => k_ ≠ gb464) (.slice (some ad463) t458.length co9) t458) ∧ Aside0 (Kd.R k27 27 w' w.heap.size (fun k_ => k_ ≠ gb464) (.slice (some ad463) t458.length co9) t458) ∧ Aside0 (Kd.R k27 27 w' w.heap.size (fun k_ => k_ ≠ gb464) (.slice (some ad463) t458.length co9) t458) ∧ Aside0 (w'.heap[gb464]? = some (.cells #[.int .i64 ((rd_T27 t458 x28_1).f0), .int .i64 ((rd_T27 t458 x28_1).f1.f0), .int .i64 ((rd_T27 t458 x28_1).f1.f1), .int .i64 ((rd_T27 t458 x28_1).f1.f2), .int .i64 ((rd_T27 t458 x28_1).f2)] 27 (0, 0))) ∧ Aside0 (Below w.heap.size w w'))
       case atStart => exact ⟨(0), (0), (by first | rfl | (simp; done) | (simp [*]; done)), (by first | rfl | (simp; done) | (simp [*]; done)), H', ⟨Nat.le_refl _⟩, ⟨by (with_reducible repeat (first | apply Kd.R_alloc | apply Kd.R_drewN | apply Kd.R_drew)); exact Kd.R_mono (Kd.R_far (p := ⟨gb464, 4, none⟩) (Kd.R_far (p := ⟨gb464, 3, none⟩) (Kd.R_far (p := ⟨gb464, 2, none⟩) (Kd.R_far (p := ⟨gb464, 1, none⟩) (Kd.R_far (p := ⟨gb464, 0, none⟩) (Kd.R_mono HO_3.out (fun k_ hk => (⟨hk, hk.2⟩ : _ ∧ k_ ≠ gb464))) (fun _ hk => hk.2) (.int .i64 ((rd_T27 t458 x28_1).f0))) (fun _ hk => hk.2) (.int .i64 ((rd_T27 t458 x28_1).f1.f0))) (fun _ hk => hk.2) (.int .i64 ((rd_T27 t458 x28_1).f1.f1))) (fun _ hk => hk.2) (.int .i64 ((rd_T27 t458 x28_1).f1.f2))) (fun _ hk => hk.2) (.int .i64 ((rd_T27 t458 x28_1).f2))) (fun _ hk => hk.1.2)⟩, ⟨by (with_reducible repeat (first | apply Kd.R_alloc | apply Kd.R_drewN | apply Kd.R_drew)); exact Kd.R_mono (Kd.R_far (p := ⟨gb464, 4, none⟩) (Kd.R_far (p := ⟨gb464, 3, none⟩) (Kd.R_far (p := ⟨gb464, 2, none⟩) (Kd.R_far (p := ⟨gb464, 1, none⟩) (Kd.R_far (p := ⟨gb464, 0, none⟩) (Kd.R_mono HO_26.out (fun k_ hk => (⟨hk, hk.2⟩ : _ ∧ k_ ≠ gb464))) (fun _ hk => hk.2) (.int .i64 ((rd_T27 t458 x28_1).f0))) (fun _ hk => hk.2) (.int .i64 ((rd_T27 t458 x28_1).f1.f0))) (fun _ hk => hk.2) (.int .i64 ((rd_T27 t458 x28_1).f1.f1))) (fun _ hk => hk.2) (.int .i64 ((rd_T27 t458 x28_1).f1.f2))) (fun _ hk => hk.2) (.int .i64 ((rd_T27 t458 x28_1).f2))) (fun _ hk => hk.1.2)⟩, ⟨by (with_reducible repeat (first | apply Kd.R_alloc | apply Kd.R_drewN | apply Kd.R_drew)); exact Kd.R_mono (Kd.R_far (p := ⟨gb464, 4, none⟩) (Kd.R_far (p := ⟨gb464, 3, none⟩) (Kd.R_far (p := ⟨gb464, 2, none⟩) (Kd.R_far (p := ⟨gb464, 1, none⟩) (Kd.R_far (p := ⟨gb464, 0, none⟩) (Kd.R_mono HO_3.out (fun k_ hk => (⟨hk, hk.2⟩ : _ ∧ k_ ≠ gb464))) (fun _ hk => hk.2) (.int .i64 ((rd_T27 t458 x28_1).f0))) (fun _ hk => hk.2) (.int .i64 ((rd_T27 t458 x28_1).f1.f0))) (fun _ hk => hk.2) (.int .i64 ((rd_T27 t458 x28_1).f1.f1))) (fun _ hk => hk.2) (.int .i64 ((rd_T27 t458 x28_1).f1.f2))) (fun _ hk => hk.2) (.int .i64 ((rd_T27 t458 x28_1).f2))) (fun _ hk => hk.1.2)⟩, ⟨by (with_reducible repeat (first | refine blk_drewN ?_ _ | refine blk_drew ?_ | refine blk_alloc ?_ _)); refine blk_put (cs := #[.int .i64 ((rd_T27 t458 x28_1).f0), .int .i64 ((rd_T27 t458 x28_1).f1.f0), .int .i64 ((rd_T27 t458 x28_1).f1.f1), .int .i64 ((rd_T27 t458 x28_1).f1.f2), .int .i64 0]) ?_ 4 _ rfl; (with_reducible repeat (first | refine blk_drewN ?_ _ | refine blk_drew ?_ | refine blk_alloc ?_ _)); refine blk_put (cs := #[.int .i64 ((rd_T27 t458 x28_1).f0), .int .i64 ((rd_T27 t458 x28_1).f1.f0), .int .i64 ((rd_T27 t458 x28_1).f1.f1), .int .i64 0, .int .i64 0]) ?_ 3 _ rfl; (with_reducible repeat (first | refine blk_drewN ?_ _ | refine blk_drew ?_ | refine blk_alloc ?_ _)); refine blk_put (cs := #[.int .i64 ((rd_T27 t458 x28_1).f0), .int .i64 ((rd_T27 t458 x28_1).f1.f0), .int .i64 0, .int .i64 0, .int .i64 0]) ?_ 2 _ rfl; (with_reducible repeat (first | refine blk_drewN ?_ _ | refine blk_drew ?_ | refine blk_alloc ?_ _)); refine blk_put (cs := #[.int .i64 ((rd_T27 t458 x28_1).f0), .int .i64 0, .int .i64 0, .int .i64 0, .int .i64 0]) ?_ 1 _ rfl; (with_reducible repeat (first | refine blk_drewN ?_ _ | refine blk_drew ?_ | refine blk_alloc ?_ _)); refine blk_put (cs := #[.int .i64 0, .int .i64 0, .int .i64 0, .int .i64 0, .int .i64 0]) ?_ 0 _ rfl; (with_reducible repeat (first | refine blk_drewN ?_ _ | refine blk_drew ?_ | refine blk_alloc ?_ _)); exact BK464.out⟩, ⟨by repeat (first | (with_reducible first | exact HB.out | apply below_alloc | apply pw_below_drewN | apply below_drew1 | refine below_set ?_ GE464.out) | exact HB.out)⟩⟩
       case round =>
        clear H'
        try clear c1
        try clear c2
        try clear p2
        try clear c4
        try clear c4b0
        try clear c4b1
        try clear c4b2
        try clear p4
        try clear q4
        try clear hx4
        try clear c5
        try clear c11
        try clear c11b0
        try clear c12
        try clear c12b0
        try clear c13
        try clear c13b0
        try clear hcz15_0
        try clear hcz15_1
        try clear hcz15_2
        try clear hcz15_3
        try clear hcz15_4
        try clear hfz15_0
        try clear hfz15_1
        try clear hfz15_2
        try clear hfz15_3
        try clear hfz15_4
        try clear hx463_0
        try clear hx463_1
        try clear hx463_2
        try clear hx463_3
        try clear hx463_4
        try clear p2
        try clear p463
        try clear q463
        obtain ⟨x8_2, x35_2, rfl, rfl, HA, HK2, HO_3, HO_26, HO_33, BK464, HB⟩ := hrel
        cases gk with
        | zero => exact absurd HA.out (by simp [ephemerislaw23_ClusterSpreads.l1])
        | succ k2 =>
         have H := HA.out
         clear HA
         simp only [ephemerislaw23_ClusterSpreads.l1] at H
         by_cases c16 : x35_2 < (t458.length : Int)
         ·rw [if_pos c16] at H
          have c16b0 : decide (x35_2 < (t458.length : Int)) = true := decide_eq_true c16
          clear c16
          by_cases c17 : 0 ≤ x35_2
          ·rw [if_pos c17] at H
           have c17b0 : decide (0 ≤ x35_2) = true := decide_eq_true c17
           clear c17
           by_cases c18 : x35_2 < (t458.length : Int)
           ·rw [if_pos c18] at H
            have c18b0 : decide (x35_2 < (t458.length : Int)) = true := decide_eq_true c18
            clear c18
            replace H := Option.bind_eq_some_iff.mp H
            obtain ⟨t467, A190, H⟩ := H
            replace H : ((span_Mid.f k2 ((rd_T27 t458 x28_1).f1.f0) ((rd_T27 t458 x28_1).f1.f1) ((rd_T27 t458 x28_1).f1.f2)).bind fun t468 => (ephemerislaw23_ClusterSpreads.l1 k2 t458 t461 x28_1 (wrap64 (x8_2 + (mx (wrap64 (t467 - t468)) (wrap64 (-(wrap64 (t467 - t468))))))) t458 (t458.length : Int) x28_1 t458 (t458.length : Int) (wrap64 (x35_2 + 1)) ((rd_T27 t458 x28_1).f0) ((rd_T27 t458 x28_1).f1.f0) ((rd_T27 t458 x28_1).f1.f1) ((rd_T27 t458 x28_1).f1.f2) ((rd_T27 t458 x28_1).f2))) = some r := H
            have A19 := Aside0.mk A190
            clear A190
            replace H := Option.bind_eq_some_iff.mp H
            obtain ⟨t468, A200, H⟩ := H
            replace H : (ephemerislaw23_ClusterSpreads.l1 k2 t458 t461 x28_1 (wrap64 (x8_2 + (mx (wrap64 (t467 - t468)) (wrap64 (-(wrap64 (t467 - t468))))))) t458 (t458.length : Int) x28_1 t458 (t458.length : Int) (wrap64 (x35_2 + 1)) ((rd_T27 t458 x28_1).f0) ((rd_T27 t458 x28_1).f1.f0) ((rd_T27 t458 x28_1).f1.f1) ((rd_T27 t458 x28_1).f1.f2) ((rd_T27 t458 x28_1).f2)) = some r := H
            have A20 := Aside0.mk A200
            clear A200
            obtain ⟨ji21, hji21⟩ : ∃ j_ : Int, (mx (wrap64 (t467 - t468)) (wrap64 (-(wrap64 (t467 - t468))))) = j_ := ⟨_, rfl⟩
            replace H : (ephemerislaw23_ClusterSpreads.l1 k2 t458 t461 x28_1 (wrap64 (x8_2 + (ji21))) t458 (t458.length : Int) x28_1 t458 (t458.length : Int) (wrap64 (x35_2 + 1)) ((rd_T27 t458 x28_1).f0) ((rd_T27 t458 x28_1).f1.f0) ((rd_T27 t458 x28_1).f1.f1) ((rd_T27 t458 x28_1).f1.f2) ((rd_T27 t458 x28_1).f2)) = some r := by first | (rw [hji21] at H; exact H) | (simp only [hji21] at H ⊢; exact H)
            (try rw [hji21] at A19)
            (try rw [hji21] at A20)
            have hji21_ : (if (wrap64 (t467 - t468)) < (wrap64 (-(wrap64 (t467 - t468)))) then (wrap64 (-(wrap64 (t467 - t468)))) else (wrap64 (t467 - t468))) = ji21 := hji21
            have H' := Aside0.mk H
            clear H
            have p465 : 0 ≤ (x35_2 : Int) := of_decide_eq_true (by first | (with_reducible assumption) | assumption)
            have q465 : x35_2 < (t458.length : Int) := of_decide_eq_true (by first | (with_reducible assumption) | assumption)
            obtain ⟨ad465, e465, hx465_0, hx465_1, hx465_2, hx465_3, hx465_4⟩ := at_T27 (Kd.R_reads' HO_33.out).2.2 x35_2 p465 q465
            obtain rfl : ad463 = ad465 := (by injection e465)
            replace p465 := eq_true p465
            replace q465 := eq_true q465
            try go_wp2_with (first | ((with_reducible refine gate_dst (N := 10) rfl ?_); refine box_event ?hg (N := 10) ?hd (cs := #[.int .i64 0, .int .i64 0, .int .i64 0, .int .i64 0, .int .i64 0]) (t := 27) ?hr ?_; (case hd => rfl); (case hg => rfl); (case hr => first | (go_simp; done) | (go_simp; rfl)); intro gb466 hg w22 hbox hb; have n0_ := Aside0.mk (Kd.R_below (Kd.R_elderB (by (with_reducible repeat (first | apply Kd.R_alloc | apply Kd.R_drewN | apply Kd.R_drew)); exact HO_3.out) gb466 (Nat.le_of_eq hg.symm)) hb); have n1_ := Aside0.mk (Kd.R_below (Kd.R_elderB (by (with_reducible repeat (first | apply Kd.R_alloc | apply Kd.R_drewN | apply Kd.R_drew)); exact HO_26.out) gb466 (Nat.le_of_eq hg.symm)) hb); have n2_ := Aside0.mk (Kd.R_below (Kd.R_elderB (by (with_reducible repeat (first | apply Kd.R_alloc | apply Kd.R_drewN | apply Kd.R_drew)); exact HO_33.out) gb466 (Nat.le_of_eq hg.symm)) hb); have n3_ := Aside0.mk (blk_below (g := gb464) (o := .cells #[.int .i64 ((rd_T27 t458 x28_1).f0), .int .i64 ((rd_T27 t458 x28_1).f1.f0), .int .i64 ((rd_T27 t458 x28_1).f1.f1), .int .i64 ((rd_T27 t458 x28_1).f1.f2), .int .i64 ((rd_T27 t458 x28_1).f2)] 27 (0, 0)) (by (with_reducible repeat (first | refine blk_drewN ?_ _ | refine blk_drew ?_ | refine blk_alloc ?_ _)); exact BK464.out) hb); have n4_ := Aside0.mk (below_step (by repeat (first | (with_reducible first | exact HB.out | apply below_alloc | apply pw_below_drewN | apply below_drew1 | refine below_set ?_ GE464.out) | exact HB.out)) hb); have n5_ := Aside0.mk (hbox); have n6_ := Aside0.mk ((by rw [hg]; exact (below_size (by repeat (first | (with_reducible first | exact HB.out | apply below_alloc | apply pw_below_drewN | apply below_drew1 | refine below_set ?_ GE464.out) | exact HB.out))) : w.heap.size ≤ gb466)); have n7_ := Aside0.mk ((by rw [hg]; exact (below_size (by repeat (first | (with_reducible first | exact HB.out | apply below_alloc | apply pw_below_drewN | apply below_drew1 | refine below_set ?_ GE464.out) | exact HB.out))) : w.heap.size ≤ gb466)); have n8_ := Aside0.mk ((by rw [hg]; exact Nat.ne_of_lt (blk_lt (g := gb464) (o := .cells #[.int .i64 ((rd_T27 t458 x28_1).f0), .int .i64 ((rd_T27 t458 x28_1).f1.f0), .int .i64 ((rd_T27 t458 x28_1).f1.f1), .int .i64 ((rd_T27 t458 x28_1).f1.f2), .int .i64 ((rd_T27 t458 x28_1).f2)] 27 (0, 0)) (by (with_reducible repeat (first | refine blk_drewN ?_ _ | refine blk_drew ?_ | refine blk_alloc ?_ _)); exact BK464.out)) : gb464 ≠ gb466)); have n9_ := Aside0.mk ((by rw [hg]; exact Nat.ne_of_gt (blk_lt (g := gb464) (o := .cells #[.int .i64 ((rd_T27 t458 x28_1).f0), .int .i64 ((rd_T27 t458 x28_1).f1.f0), .int .i64 ((rd_T27 t458 x28_1).f1.f1), .int .i64 ((rd_T27 t458 x28_1).f1.f2), .int .i64 ((rd_T27 t458 x28_1).f2)] 27 (0, 0)) (by (with_reducible repeat (first | refine blk_drewN ?_ _ | refine blk_drew ?_ | refine blk_alloc ?_ _)); exact BK464.out)) : gb466 ≠ gb464)); clear HO_3; clear HO_26; clear HO_33; clear BK464; clear HB; have HO_3 := n0_; have HO_26 := n1_; have HO_33 := n2_; have BK464 := n3_; have HB := n4_; have BK466 := n5_; have GW466 := n6_; have GE466 := n7_; have NB464_466 := n8_; have NB466_464 := n9_; clear n0_ n1_ n2_ n3_ n4_ n5_ n6_ n7_ n8_ n9_; clear hb hbox hg; have hnb23 := NB466_464.out; have hnc23 := NB464_466.out; have hcz24_0 : w22.cell? ⟨gb466, 0, none⟩ = some (.int .i64 0) := (blk_cell BK466.out 0).trans rfl; have hcz24_1 : w22.cell? ⟨gb466, 1, none⟩ = some (.int .i64 0) := (blk_cell BK466.out 1).trans rfl; have hcz24_2 : w22.cell? ⟨gb466, 2, none⟩ = some (.int .i64 0) := (blk_cell BK466.out 2).trans rfl; have hcz24_3 : w22.cell? ⟨gb466, 3, none⟩ = some (.int .i64 0) := (blk_cell BK466.out 3).trans rfl; have hcz24_4 : w22.cell? ⟨gb466, 4, none⟩ = some (.int .i64 0) := (blk_cell BK466.out 4).trans rfl; have hfz24_0 := blk_frozen BK466.out 0; have hfz24_1 := blk_frozen BK466.out 1; have hfz24_2 := blk_frozen BK466.out 2; have hfz24_3 := blk_frozen BK466.out 3; have hfz24_4 := blk_frozen BK466.out 4))
            have n0_ : Aside0 (Kd.R k27 27 (((((w22.setCell ⟨gb466, 0, none⟩ (.int .i64 ((rd_T27 t458 x35_2).f0))).setCell ⟨gb466, 1, none⟩ (.int .i64 ((rd_T27 t458 x35_2).f1.f0))).setCell ⟨gb466, 2, none⟩ (.int .i64 ((rd_T27 t458 x35_2).f1.f1))).setCell ⟨gb466, 3, none⟩ (.int .i64 ((rd_T27 t458 x35_2).f1.f2))).setCell ⟨gb466, 4, none⟩ (.int .i64 ((rd_T27 t458 x35_2).f2))) w.heap.size (fun k_ => k_ ≠ gb464 ∧ k_ ≠ gb466) (.slice (some ad463) t458.length co9) t458) := ⟨by (with_reducible repeat (first | apply Kd.R_alloc | apply Kd.R_drewN | apply Kd.R_drew)); exact Kd.R_mono (Kd.R_far (p := ⟨gb466, 4, none⟩) (Kd.R_far (p := ⟨gb466, 3, none⟩) (Kd.R_far (p := ⟨gb466, 2, none⟩) (Kd.R_far (p := ⟨gb466, 1, none⟩) (Kd.R_far (p := ⟨gb466, 0, none⟩) (Kd.R_mono HO_3.out (fun k_ hk => (⟨hk, hk.2⟩ : _ ∧ k_ ≠ gb466))) (fun _ hk => hk.2) (.int .i64 ((rd_T27 t458 x35_2).f0))) (fun _ hk => hk.2) (.int .i64 ((rd_T27 t458 x35_2).f1.f0))) (fun _ hk => hk.2) (.int .i64 ((rd_T27 t458 x35_2).f1.f1))) (fun _ hk => hk.2) (.int .i64 ((rd_T27 t458 x35_2).f1.f2))) (fun _ hk => hk.2) (.int .i64 ((rd_T27 t458 x35_2).f2))) (fun _ hk => ⟨hk.1.1, hk.1.2⟩)⟩
            have n1_ : Aside0 (Kd.R k27 27 (((((w22.setCell ⟨gb466, 0, none⟩ (.int .i64 ((rd_T27 t458 x35_2).f0))).setCell ⟨gb466, 1, none⟩ (.int .i64 ((rd_T27 t458 x35_2).f1.f0))).setCell ⟨gb466, 2, none⟩ (.int .i64 ((rd_T27 t458 x35_2).f1.f1))).setCell ⟨gb466, 3, none⟩ (.int .i64 ((rd_T27 t458 x35_2).f1.f2))).setCell ⟨gb466, 4, none⟩ (.int .i64 ((rd_T27 t458 x35_2).f2))) w.heap.size (fun k_ => k_ ≠ gb464 ∧ k_ ≠ gb466) (.slice (some ad463) t458.length co9) t458) := ⟨by (with_reducible repeat (first | apply Kd.R_alloc | apply Kd.R_drewN | apply Kd.R_drew)); exact Kd.R_mono (Kd.R_far (p := ⟨gb466, 4, none⟩) (Kd.R_far (p := ⟨gb466, 3, none⟩) (Kd.R_far (p := ⟨gb466, 2, none⟩) (Kd.R_far (p := ⟨gb466, 1, none⟩) (Kd.R_far (p := ⟨gb466, 0, none⟩) (Kd.R_mono HO_26.out (fun k_ hk => (⟨hk, hk.2⟩ : _ ∧ k_ ≠ gb466))) (fun _ hk => hk.2) (.int .i64 ((rd_T27 t458 x35_2).f0))) (fun _ hk => hk.2) (.int .i64 ((rd_T27 t458 x35_2).f1.f0))) (fun _ hk => hk.2) (.int .i64 ((rd_T27 t458 x35_2).f1.f1))) (fun _ hk => hk.2) (.int .i64 ((rd_T27 t458 x35_2).f1.f2))) (fun _ hk => hk.2) (.int .i64 ((rd_T27 t458 x35_2).f2))) (fun _ hk => ⟨hk.1.1, hk.1.2⟩)⟩
            have n2_ : Aside0 (Kd.R k27 27 (((((w22.setCell ⟨gb466, 0, none⟩ (.int .i64 ((rd_T27 t458 x35_2).f0))).setCell ⟨gb466, 1, none⟩ (.int .i64 ((rd_T27 t458 x35_2).f1.f0))).setCell ⟨gb466, 2, none⟩ (.int .i64 ((rd_T27 t458 x35_2).f1.f1))).setCell ⟨gb466, 3, none⟩ (.int .i64 ((rd_T27 t458 x35_2).f1.f2))).setCell ⟨gb466, 4, none⟩ (.int .i64 ((rd_T27 t458 x35_2).f2))) w.heap.size (fun k_ => k_ ≠ gb464 ∧ k_ ≠ gb466) (.slice (some ad463) t458.length co9) t458) := ⟨by (with_reducible repeat (first | apply Kd.R_alloc | apply Kd.R_drewN | apply Kd.R_drew)); exact Kd.R_mono (Kd.R_far (p := ⟨gb466, 4, none⟩) (Kd.R_far (p := ⟨gb466, 3, none⟩) (Kd.R_far (p := ⟨gb466, 2, none⟩) (Kd.R_far (p := ⟨gb466, 1, none⟩) (Kd.R_far (p := ⟨gb466, 0, none⟩) (Kd.R_mono HO_33.out (fun k_ hk => (⟨hk, hk.2⟩ : _ ∧ k_ ≠ gb466))) (fun _ hk => hk.2) (.int .i64 ((rd_T27 t458 x35_2).f0))) (fun _ hk => hk.2) (.int .i64 ((rd_T27 t458 x35_2).f1.f0))) (fun _ hk => hk.2) (.int .i64 ((rd_T27 t458 x35_2).f1.f1))) (fun _ hk => hk.2) (.int .i64 ((rd_T27 t458 x35_2).f1.f2))) (fun _ hk => hk.2) (.int .i64 ((rd_T27 t458 x35_2).f2))) (fun _ hk => ⟨hk.1.1, hk.1.2⟩)⟩
            have n3_ : Aside0 ((((((w22.setCell ⟨gb466, 0, none⟩ (.int .i64 ((rd_T27 t458 x35_2).f0))).setCell ⟨gb466, 1, none⟩ (.int .i64 ((rd_T27 t458 x35_2).f1.f0))).setCell ⟨gb466, 2, none⟩ (.int .i64 ((rd_T27 t458 x35_2).f1.f1))).setCell ⟨gb466, 3, none⟩ (.int .i64 ((rd_T27 t458 x35_2).f1.f2))).setCell ⟨gb466, 4, none⟩ (.int .i64 ((rd_T27 t458 x35_2).f2))).heap[gb464]? = some (.cells #[.int .i64 ((rd_T27 t458 x28_1).f0), .int .i64 ((rd_T27 t458 x28_1).f1.f0), .int .i64 ((rd_T27 t458 x28_1).f1.f1), .int .i64 ((rd_T27 t458 x28_1).f1.f2), .int .i64 ((rd_T27 t458 x28_1).f2)] 27 (0, 0))) := ⟨by (with_reducible repeat (first | refine blk_drewN ?_ _ | refine blk_drew ?_ | refine blk_alloc ?_ _)); refine blk_far ?_ NB464_466.out _; (with_reducible repeat (first | refine blk_drewN ?_ _ | refine blk_drew ?_ | refine blk_alloc ?_ _)); refine blk_far ?_ NB464_466.out _; (with_reducible repeat (first | refine blk_drewN ?_ _ | refine blk_drew ?_ | refine blk_alloc ?_ _)); refine blk_far ?_ NB464_466.out _; (with_reducible repeat (first | refine blk_drewN ?_ _ | refine blk_drew ?_ | refine blk_alloc ?_ _)); refine blk_far ?_ NB464_466.out _; (with_reducible repeat (first | refine blk_drewN ?_ _ | refine blk_drew ?_ | refine blk_alloc ?_ _)); refine blk_far ?_ NB464_466.out _; (with_reducible repeat (first | refine blk_drewN ?_ _ | refine blk_drew ?_ | refine blk_alloc ?_ _)); exact BK464.out⟩
            have n4_ : Aside0 ((((((w22.setCell ⟨gb466, 0, none⟩ (.int .i64 ((rd_T27 t458 x35_2).f0))).setCell ⟨gb466, 1, none⟩ (.int .i64 ((rd_T27 t458 x35_2).f1.f0))).setCell ⟨gb466, 2, none⟩ (.int .i64 ((rd_T27 t458 x35_2).f1.f1))).setCell ⟨gb466, 3, none⟩ (.int .i64 ((rd_T27 t458 x35_2).f1.f2))).setCell ⟨gb466, 4, none⟩ (.int .i64 ((rd_T27 t458 x35_2).f2))).heap[gb466]? = some (.cells #[.int .i64 ((rd_T27 t458 x35_2).f0), .int .i64 ((rd_T27 t458 x35_2).f1.f0), .int .i64 ((rd_T27 t458 x35_2).f1.f1), .int .i64 ((rd_T27 t458 x35_2).f1.f2), .int .i64 ((rd_T27 t458 x35_2).f2)] 27 (0, 0))) := ⟨by (with_reducible repeat (first | refine blk_drewN ?_ _ | refine blk_drew ?_ | refine blk_alloc ?_ _)); refine blk_put (cs := #[.int .i64 ((rd_T27 t458 x35_2).f0), .int .i64 ((rd_T27 t458 x35_2).f1.f0), .int .i64 ((rd_T27 t458 x35_2).f1.f1), .int .i64 ((rd_T27 t458 x35_2).f1.f2), .int .i64 0]) ?_ 4 _ rfl; (with_reducible repeat (first | refine blk_drewN ?_ _ | refine blk_drew ?_ | refine blk_alloc ?_ _)); refine blk_put (cs := #[.int .i64 ((rd_T27 t458 x35_2).f0), .int .i64 ((rd_T27 t458 x35_2).f1.f0), .int .i64 ((rd_T27 t458 x35_2).f1.f1), .int .i64 0, .int .i64 0]) ?_ 3 _ rfl; (with_reducible repeat (first | refine blk_drewN ?_ _ | refine blk_drew ?_ | refine blk_alloc ?_ _)); refine blk_put (cs := #[.int .i64 ((rd_T27 t458 x35_2).f0), .int .i64 ((rd_T27 t458 x35_2).f1.f0), .int .i64 0, .int .i64 0, .int .i64 0]) ?_ 2 _ rfl; (with_reducible repeat (first | refine blk_drewN ?_ _ | refine blk_drew ?_ | refine blk_alloc ?_ _)); refine blk_put (cs := #[.int .i64 ((rd_T27 t458 x35_2).f0), .int .i64 0, .int .i64 0, .int .i64 0, .int .i64 0]) ?_ 1 _ rfl; (with_reducible repeat (first | refine blk_drewN ?_ _ | refine blk_drew ?_ | refine blk_alloc ?_ _)); refine blk_put (cs := #[.int .i64 0, .int .i64 0, .int .i64 0, .int .i64 0, .int .i64 0]) ?_ 0 _ rfl; (with_reducible repeat (first | refine blk_drewN ?_ _ | refine blk_drew ?_ | refine blk_alloc ?_ _)); exact BK466.out⟩
            have n5_ : Aside0 (Below w.heap.size w (((((w22.setCell ⟨gb466, 0, none⟩ (.int .i64 ((rd_T27 t458 x35_2).f0))).setCell ⟨gb466, 1, none⟩ (.int .i64 ((rd_T27 t458 x35_2).f1.f0))).setCell ⟨gb466, 2, none⟩ (.int .i64 ((rd_T27 t458 x35_2).f1.f1))).setCell ⟨gb466, 3, none⟩ (.int .i64 ((rd_T27 t458 x35_2).f1.f2))).setCell ⟨gb466, 4, none⟩ (.int .i64 ((rd_T27 t458 x35_2).f2)))) := ⟨by repeat (first | (with_reducible first | exact HB.out | apply below_alloc | apply pw_below_drewN | apply below_drew1 | refine below_set ?_ GE464.out | refine below_set ?_ GE466.out) | exact HB.out)⟩
            (try clear HO_3)
            (try clear HO_26)
            (try clear HO_33)
            (try clear BK464)
            (try clear BK466)
            (try clear HB)
            generalize (((((w22.setCell ⟨gb466, 0, none⟩ (.int .i64 ((rd_T27 t458 x35_2).f0))).setCell ⟨gb466, 1, none⟩ (.int .i64 ((rd_T27 t458 x35_2).f1.f0))).setCell ⟨gb466, 2, none⟩ (.int .i64 ((rd_T27 t458 x35_2).f1.f1))).setCell ⟨gb466, 3, none⟩ (.int .i64 ((rd_T27 t458 x35_2).f1.f2))).setCell ⟨gb466, 4, none⟩ (.int .i64 ((rd_T27 t458 x35_2).f2))) = w25 at n0_ n1_ n2_ n3_ n4_ n5_ ⊢
            have HO_3 := n0_
            have HO_26 := n1_
            have HO_33 := n2_
            have BK464 := n3_
            have BK466 := n4_
            have HB := n5_
            clear n0_ n1_ n2_ n3_ n4_ n5_
            have n0_ := Aside0.mk (Kd.R_drew HO_3.out)
            have n1_ := Aside0.mk (Kd.R_drew HO_26.out)
            have n2_ := Aside0.mk (Kd.R_drew HO_33.out)
            have n3_ := Aside0.mk (blk_drew BK464.out)
            have n4_ := Aside0.mk (blk_drew BK466.out)
            have n5_ := Aside0.mk (below_drew1 HB.out)
            clear HO_3
            clear HO_26
            clear HO_33
            clear BK464
            clear BK466
            clear HB
            have HO_3 := n0_
            have HO_26 := n1_
            have HO_33 := n2_
            have BK464 := n3_
            have BK466 := n4_
            have HB := n5_
            clear n0_ n1_ n2_ n3_ n4_ n5_
            refine start_ (n := 8) (S := fun w' => w'.cell? ⟨gb466, 0, none⟩ = some (.int .i64 ((rd_T27 t458 x35_2).f0)) ∧ w'.cell? ⟨gb466, 1, none⟩ = some (.int .i64 ((rd_T27 t458 x35_2).f1.f0)) ∧ w'.cell? ⟨gb466, 2, none⟩ = some (.int .i64 ((rd_T27 t458 x35_2).f1.f1)) ∧ w'.cell? ⟨gb466, 3, none⟩ = some (.int .i64 ((rd_T27 t458 x35_2).f1.f2)) ∧ w'.cell? ⟨gb466, 4, none⟩ = some (.int .i64 ((rd_T27 t458 x35_2).f2)) ∧ w'.cell? ⟨gb464, 0, none⟩ = some (.int .i64 ((rd_T27 t458 x28_1).f0)) ∧ w'.cell? ⟨gb464, 1, none⟩ = some (.int .i64 ((rd_T27 t458 x28_1).f1.f0)) ∧ w'.cell? ⟨gb464, 2, none⟩ = some (.int .i64 ((rd_T27 t458 x28_1).f1.f1)) ∧ w'.cell? ⟨gb464, 3, none⟩ = some (.int .i64 ((rd_T27 t458 x28_1).f1.f2)) ∧ w'.cell? ⟨gb464, 4, none⟩ = some (.int .i64 ((rd_T27 t458 x28_1).f2))) (ds := []) #[false, false, false, false, false, false, false, false] (by kernel_rfl) rfl rfl ⟨(blk_cell BK466.out 0).trans rfl, (blk_cell BK466.out 1).trans rfl, (blk_cell BK466.out 2).trans rfl, (blk_cell BK466.out 3).trans rfl, (blk_cell BK466.out 4).trans rfl, (blk_cell BK464.out 0).trans rfl, (blk_cell BK464.out 1).trans rfl, (blk_cell BK464.out 2).trans rfl, (blk_cell BK464.out 3).trans rfl, (blk_cell BK464.out 4).trans rfl⟩ (fun hHeld => ?_); refine with_tabW ephemerislaw23_ClusterSpreads.tab12 ephemerislaw23_ClusterSpreads.bits12 (fun HT_ HW_ => ?_)
            generalize w25.drew = w26 at HO_3 HO_26 HO_33 BK464 BK466 HB hHeld ⊢
            refine pure_ (i := 0) (N := some 39) (v := ?_) (a' := ?_) #[true, false, false, false, false, false, false, false] rfl rfl (any_of HT_.out (by kernel_rfl)) (fun _ _ _ h => h) (Or.inl ⟨by rfl, ?_⟩) ?_ ?_
            rotate_left
            ·intro w'
             go_simp
             with_reducible rfl
            rotate_left
            ·simp only [Act.put, List.setIfInBounds_toArray, List.set_cons_zero, List.set_cons_succ, i64_w, i32_w]
             rfl
            refine pure_ (i := 3) (N := some 42) (v := ?_) (a' := ?_) #[true, false, false, true, false, false, false, false] rfl rfl (any_of HT_.out (by kernel_rfl)) (fun _ _ _ h => h) (Or.inl ⟨by rfl, ?_⟩) ?_ ?_
            rotate_left
            ·intro w'
             go_simp
             with_reducible rfl
            rotate_left
            ·simp only [Act.put, List.setIfInBounds_toArray, List.set_cons_zero, List.set_cons_succ, i64_w, i32_w]
             rfl
            refine take_ (i := 1) (N := some 40) (v := ?_) (a' := ?_) #[true, true, false, true, false, false, false, false] rfl rfl (take_ofW HT_.out HW_.out (by kernel_rfl)) (fun _ _ _ h => h) (Or.inl ⟨by rfl, ?_⟩) hHeld ?_ ?_
            rotate_left
            ·rintro w' ⟨s0, s1, s2, s3, s4, s5, s6, s7, s8, s9⟩
             go_simp
             with_reducible rfl
            rotate_left
            ·simp only [Act.put, List.setIfInBounds_toArray, List.set_cons_zero, List.set_cons_succ, i64_w, i32_w]
             rfl
            refine take_ (i := 4) (N := some 43) (v := ?_) (a' := ?_) #[true, true, false, true, true, false, false, false] rfl rfl (take_ofW HT_.out HW_.out (by kernel_rfl)) (fun _ _ _ h => h) (Or.inl ⟨by rfl, ?_⟩) hHeld ?_ ?_
            rotate_left
            ·rintro w' ⟨s0, s1, s2, s3, s4, s5, s6, s7, s8, s9⟩
             go_simp
             with_reducible rfl
            rotate_left
            ·simp only [Act.put, List.setIfInBounds_toArray, List.set_cons_zero, List.set_cons_succ, i64_w, i32_w]
             rfl
            refine one_ (i := 2) (N := some 41) #[true, true, true, true, true, false, false, false] rfl rfl (one_of HT_.out (by kernel_rfl)) (by decide) (fun K hK => ?_)
            refine goes_ Try.func30 (by kernel_rfl) rfl #[.agg #[.int .i64 ((rd_T27 t458 x35_2).f1.f0), .int .i64 ((rd_T27 t458 x35_2).f1.f1), .int .i64 ((rd_T27 t458 x35_2).f1.f2)]] (by rfl) rfl rfl (by (try simp only [List.map_toArray, List.map_cons, List.map_nil]); first | done | rfl | (simp only [List.length_drop, List.length_take]; rfl)) ?_
            with_reducible refine (span_Mid.calls k2 ((rd_T27 t458 x35_2).f1.f0) ((rd_T27 t458 x35_2).f1.f1) ((rd_T27 t458 x35_2).f1.f2) t467 _ A19.out).mono ?_
            rintro e w27 ⟨rfl, hb⟩
            refine ⟨_, rfl, ?_⟩
            have n0_ := Aside0.mk (Kd.R_below (by (with_reducible repeat (first | apply Kd.R_alloc | apply Kd.R_drewN | apply Kd.R_drew)); exact HO_3.out) hb)
            have n1_ := Aside0.mk (Kd.R_below (by (with_reducible repeat (first | apply Kd.R_alloc | apply Kd.R_drewN | apply Kd.R_drew)); exact HO_26.out) hb)
            have n2_ := Aside0.mk (Kd.R_below (by (with_reducible repeat (first | apply Kd.R_alloc | apply Kd.R_drewN | apply Kd.R_drew)); exact HO_33.out) hb)
            have n3_ := Aside0.mk (blk_below (g := gb464) (o := .cells #[.int .i64 ((rd_T27 t458 x28_1).f0), .int .i64 ((rd_T27 t458 x28_1).f1.f0), .int .i64 ((rd_T27 t458 x28_1).f1.f1), .int .i64 ((rd_T27 t458 x28_1).f1.f2), .int .i64 ((rd_T27 t458 x28_1).f2)] 27 (0, 0)) (by (with_reducible repeat (first | refine blk_drewN ?_ _ | refine blk_drew ?_ | refine blk_alloc ?_ _)); exact BK464.out) hb)
            have n4_ := Aside0.mk (blk_below (g := gb466) (o := .cells #[.int .i64 ((rd_T27 t458 x35_2).f0), .int .i64 ((rd_T27 t458 x35_2).f1.f0), .int .i64 ((rd_T27 t458 x35_2).f1.f1), .int .i64 ((rd_T27 t458 x35_2).f1.f2), .int .i64 ((rd_T27 t458 x35_2).f2)] 27 (0, 0)) (by (with_reducible repeat (first | refine blk_drewN ?_ _ | refine blk_drew ?_ | refine blk_alloc ?_ _)); exact BK466.out) hb)
            have n5_ := Aside0.mk (below_step (by repeat (first | (with_reducible first | exact HB.out | apply below_alloc | apply pw_below_drewN | apply below_drew1 | refine below_set ?_ GE464.out | refine below_set ?_ GE466.out) | exact HB.out)) hb)
            clear HO_3
            clear HO_26
            clear HO_33
            clear BK464
            clear BK466
            clear HB
            have HO_3 := n0_
            have HO_26 := n1_
            have HO_33 := n2_
            have BK464 := n3_
            have BK466 := n4_
            have HB := n5_
            clear n0_ n1_ n2_ n3_ n4_ n5_
            (try clear hb)
            (try clear hb2)
            (try clear hk)
            (try clear hi)
            refine hK.out _ _ ⟨(blk_cell BK466.out 0).trans rfl, (blk_cell BK466.out 1).trans rfl, (blk_cell BK466.out 2).trans rfl, (blk_cell BK466.out 3).trans rfl, (blk_cell BK466.out 4).trans rfl, (blk_cell BK464.out 0).trans rfl, (blk_cell BK464.out 1).trans rfl, (blk_cell BK464.out 2).trans rfl, (blk_cell BK464.out 3).trans rfl, (blk_cell BK464.out 4).trans rfl⟩ (fun hHeld => ?_)
            clear hK K
            refine norm_ (a' := ?_) ?_ ?_
            rotate_left
            ·show Act.put _ (some 41) _ = _
             simp only [Act.put, List.setIfInBounds_toArray, List.set_cons_zero, List.set_cons_succ, i64_w, i32_w]
             rfl
            refine one_ (i := 5) (N := some 44) #[true, true, true, true, true, true, false, false] rfl rfl (one_of HT_.out (by kernel_rfl)) (by decide) (fun K hK => ?_)
            refine goes_ Try.func30 (by kernel_rfl) rfl #[.agg #[.int .i64 ((rd_T27 t458 x28_1).f1.f0), .int .i64 ((rd_T27 t458 x28_1).f1.f1), .int .i64 ((rd_T27 t458 x28_1).f1.f2)]] (by rfl) rfl rfl (by (try simp only [List.map_toArray, List.map_cons, List.map_nil]); first | done | rfl | (simp only [List.length_drop, List.length_take]; rfl)) ?_
            with_reducible refine (span_Mid.calls k2 ((rd_T27 t458 x28_1).f1.f0) ((rd_T27 t458 x28_1).f1.f1) ((rd_T27 t458 x28_1).f1.f2) t468 _ A20.out).mono ?_
            rintro e w28 ⟨rfl, hb⟩
            refine ⟨_, rfl, ?_⟩
            have n0_ := Aside0.mk (Kd.R_below (by (with_reducible repeat (first | apply Kd.R_alloc | apply Kd.R_drewN | apply Kd.R_drew)); exact HO_3.out) hb)
            have n1_ := Aside0.mk (Kd.R_below (by (with_reducible repeat (first | apply Kd.R_alloc | apply Kd.R_drewN | apply Kd.R_drew)); exact HO_26.out) hb)
            have n2_ := Aside0.mk (Kd.R_below (by (with_reducible repeat (first | apply Kd.R_alloc | apply Kd.R_drewN | apply Kd.R_drew)); exact HO_33.out) hb)
            have n3_ := Aside0.mk (blk_below (g := gb464) (o := .cells #[.int .i64 ((rd_T27 t458 x28_1).f0), .int .i64 ((rd_T27 t458 x28_1).f1.f0), .int .i64 ((rd_T27 t458 x28_1).f1.f1), .int .i64 ((rd_T27 t458 x28_1).f1.f2), .int .i64 ((rd_T27 t458 x28_1).f2)] 27 (0, 0)) (by (with_reducible repeat (first | refine blk_drewN ?_ _ | refine blk_drew ?_ | refine blk_alloc ?_ _)); exact BK464.out) hb)
            have n4_ := Aside0.mk (blk_below (g := gb466) (o := .cells #[.int .i64 ((rd_T27 t458 x35_2).f0), .int .i64 ((rd_T27 t458 x35_2).f1.f0), .int .i64 ((rd_T27 t458 x35_2).f1.f1), .int .i64 ((rd_T27 t458 x35_2).f1.f2), .int .i64 ((rd_T27 t458 x35_2).f2)] 27 (0, 0)) (by (with_reducible repeat (first | refine blk_drewN ?_ _ | refine blk_drew ?_ | refine blk_alloc ?_ _)); exact BK466.out) hb)
            have n5_ := Aside0.mk (below_step (by repeat (first | (with_reducible first | exact HB.out | apply below_alloc | apply pw_below_drewN | apply below_drew1 | refine below_set ?_ GE464.out | refine below_set ?_ GE466.out) | exact HB.out)) hb)
            clear HO_3
            clear HO_26
            clear HO_33
            clear BK464
            clear BK466
            clear HB
            have HO_3 := n0_
            have HO_26 := n1_
            have HO_33 := n2_
            have BK464 := n3_
            have BK466 := n4_
            have HB := n5_
            clear n0_ n1_ n2_ n3_ n4_ n5_
            (try clear hb)
            (try clear hb2)
            (try clear hk)
            (try clear hi)
            refine hK.out _ _ ⟨(blk_cell BK466.out 0).trans rfl, (blk_cell BK466.out 1).trans rfl, (blk_cell BK466.out 2).trans rfl, (blk_cell BK466.out 3).trans rfl, (blk_cell BK466.out 4).trans rfl, (blk_cell BK464.out 0).trans rfl, (blk_cell BK464.out 1).trans rfl, (blk_cell BK464.out 2).trans rfl, (blk_cell BK464.out 3).trans rfl, (blk_cell BK464.out 4).trans rfl⟩ (fun hHeld => ?_)
            clear hK K
            refine norm_ (a' := ?_) ?_ ?_
            rotate_left
            ·show Act.put _ (some 44) _ = _
             simp only [Act.put, List.setIfInBounds_toArray, List.set_cons_zero, List.set_cons_succ, i64_w, i32_w]
             rfl
            refine pure_ (i := 6) (N := some 45) (v := ?_) (a' := ?_) #[true, true, true, true, true, true, true, false] rfl rfl (any_of HT_.out (by kernel_rfl)) (fun _ _ _ h => h) (Or.inl ⟨by rfl, ?_⟩) ?_ ?_
            rotate_left
            ·intro w'
             go_simp
             with_reducible rfl
            rotate_left
            ·simp only [Act.put, List.setIfInBounds_toArray, List.set_cons_zero, List.set_cons_succ, i64_w, i32_w]
             rfl
            refine pure_ (i := 7) (N := some 11) (v := ?_) (a' := ?_) #[true, true, true, true, true, true, true, true] rfl rfl (any_of HT_.out (by kernel_rfl)) (fun _ _ _ h => h) (Or.inl ⟨by rfl, ?_⟩) ?_ ?_
            rotate_left
            ·intro w'
             go_simp
             with_reducible rfl
            rotate_left
            ·simp only [Act.put, List.setIfInBounds_toArray, List.set_cons_zero, List.set_cons_succ, i64_w, i32_w]
             rfl
            refine done_ (done_of HT_.out (by kernel_rfl)) ?_
            try go_wp2
            go_roundg k2
            case measure => have := HK1.out; have := HK2.out; omega
            case rel => exact ⟨(wrap64 (x8_2 + (ji21))), (wrap64 (x35_2 + 1)), (by first | rfl | (simp; done) | (simp only [← hji21] <;> (first | rfl | simp)) | (simp [*]; done)), (by first | rfl | (simp; done) | (simp [*]; done)), H', ⟨by have := HK1.out; have := HK2.out; omega⟩, ⟨by (with_reducible repeat (first | apply Kd.R_alloc | apply Kd.R_drewN | apply Kd.R_drew)); exact Kd.R_mono HO_3.out (fun _ hk => hk.1)⟩, ⟨by (with_reducible repeat (first | apply Kd.R_alloc | apply Kd.R_drewN | apply Kd.R_drew)); exact Kd.R_mono HO_26.out (fun _ hk => hk.1)⟩, ⟨by (with_reducible repeat (first | apply Kd.R_alloc | apply Kd.R_drewN | apply Kd.R_drew)); exact Kd.R_mono HO_33.out (fun _ hk => hk.1)⟩, ⟨by (with_reducible repeat (first | refine blk_drewN ?_ _ | refine blk_drew ?_ | refine blk_alloc ?_ _)); exact BK464.out⟩, ⟨by repeat (first | (with_reducible first | exact HB.out | apply below_alloc | apply pw_below_drewN | apply below_drew1 | refine below_set ?_ GE464.out | refine below_set ?_ GE466.out) | exact HB.out)⟩⟩
           ·rw [if_neg c18] at H
            exact absurd H (by simp)
          ·rw [if_neg c17] at H
           exact absurd H (by simp)
         ·rw [if_neg c16] at H
          have c16b0 : decide (x35_2 < (t458.length : Int)) = false := decide_eq_false c16
          clear c16
          obtain ⟨ji29, hji29⟩ : ∃ j_ : Int, (mx (wrap64 ((t458.length : Int) - 1)) 1) = j_ := ⟨_, rfl⟩
          replace H : ((cluster_Spread.f t458 x28_1).bind fun t469 => (if (wrap64 (t469 * (ji29))) > x8_2 then (some false) else (if (wrap64 (x8_2 - (wrap64 (t469 * (ji29))))) ≥ (ji29) then (some false) else ((cluster_Spread.f t458 t461).bind fun t470 => (if t469 > t470 then (some false) else ((cluster_Spread.f t458 t461).bind fun t471 => (if t469 = t471 then (if x28_1 > t461 then (some false) else (ephemerislaw23_ClusterSpreads.l0 k2 t458 t461 t458 (t458.length : Int) (wrap64 (x28_1 + 1)))) else (ephemerislaw23_ClusterSpreads.l0 k2 t458 t461 t458 (t458.length : Int) (wrap64 (x28_1 + 1)))))))))) = some r := by first | (rw [hji29] at H; exact H) | (simp only [hji29] at H ⊢; exact H)
          have hji29_ : (if (wrap64 ((t458.length : Int) - 1)) < 1 then 1 else (wrap64 ((t458.length : Int) - 1))) = ji29 := hji29
          replace H := Option.bind_eq_some_iff.mp H
          obtain ⟨t469, A300, H⟩ := H
          replace H : (if (wrap64 (t469 * (ji29))) > x8_2 then (some false) else (if (wrap64 (x8_2 - (wrap64 (t469 * (ji29))))) ≥ (ji29) then (some false) else ((cluster_Spread.f t458 t461).bind fun t470 => (if t469 > t470 then (some false) else ((cluster_Spread.f t458 t461).bind fun t471 => (if t469 = t471 then (if x28_1 > t461 then (some false) else (ephemerislaw23_ClusterSpreads.l0 k2 t458 t461 t458 (t458.length : Int) (wrap64 (x28_1 + 1)))) else (ephemerislaw23_ClusterSpreads.l0 k2 t458 t461 t458 (t458.length : Int) (wrap64 (x28_1 + 1))))))))) = some r := H
          have A30 := Aside0.mk A300
          clear A300
          by_cases c31 : (wrap64 (t469 * (ji29))) > x8_2
          ·rw [if_pos c31] at H
           have c31b0 : decide (x8_2 < (wrap64 (t469 * (ji29)))) = true := decide_eq_true c31
           clear c31
           obtain rfl := Option.some.inj H
           go_wp2_with (first | ((with_reducible refine gate_callee (f := 22) rfl ?_); refine goesL_ (some 59) rfl rfl Try.func22 (by kernel_rfl) rfl #[.slice (some ad463) t458.length co9, .int .i64 x28_1] rfl (by (try simp only [List.map_toArray, List.map_cons, List.map_nil]); first | done | rfl | (simp only [List.length_drop, List.length_take]; rfl)) ?_; (with_reducible refine (cluster_Spread.calls _ _ t458 x28_1 t469 _ ?side1 ?side2 A30.out).mono ?_); (case side1 => repeat (first | exact (Kd.R_reads' HO_3.out).2.2 | (with_reducible refine Kd.C_alloc ?_ _) | (with_reducible refine Kd.C_drewN ?_ _) | (with_reducible refine Kd.C_drew ?_))); (case side2 => exact (Kd.R_reads' HO_3.out).2.1); rintro e w32 ⟨rfl, hb⟩; refine ⟨_, rfl, ?_⟩; have n0_ := Aside0.mk (Kd.R_below (by (with_reducible repeat (first | apply Kd.R_alloc | apply Kd.R_drewN | apply Kd.R_drew)); exact HO_3.out) hb); have n1_ := Aside0.mk (Kd.R_below (by (with_reducible repeat (first | apply Kd.R_alloc | apply Kd.R_drewN | apply Kd.R_drew)); exact HO_26.out) hb); have n2_ := Aside0.mk (Kd.R_below (by (with_reducible repeat (first | apply Kd.R_alloc | apply Kd.R_drewN | apply Kd.R_drew)); exact HO_33.out) hb); have n3_ := Aside0.mk (blk_below (g := gb464) (o := .cells #[.int .i64 ((rd_T27 t458 x28_1).f0), .int .i64 ((rd_T27 t458 x28_1).f1.f0), .int .i64 ((rd_T27 t458 x28_1).f1.f1), .int .i64 ((rd_T27 t458 x28_1).f1.f2), .int .i64 ((rd_T27 t458 x28_1).f2)] 27 (0, 0)) (by (with_reducible repeat (first | refine blk_drewN ?_ _ | refine blk_drew ?_ | refine blk_alloc ?_ _)); exact BK464.out) hb); have n4_ := Aside0.mk (below_step (by repeat (first | (with_reducible first | exact HB.out | apply below_alloc | apply pw_below_drewN | apply below_drew1 | refine below_set ?_ GE464.out) | exact HB.out)) hb); clear HO_3; clear HO_26; clear HO_33; clear BK464; clear HB; have HO_3 := n0_; have HO_26 := n1_; have HO_33 := n2_; have BK464 := n3_; have HB := n4_; clear n0_ n1_ n2_ n3_ n4_; (try clear hb); (try clear hb2); (try clear hk); (try clear hi)))
           go_ret
           exact ⟨by first | rfl | (simp [errW_none, errW_some] <;> rfl) | (simp only [← hji29]; first | rfl | (simp [errW_none, errW_some] <;> rfl)) | (simp [*, errW_none, errW_some] <;> rfl), by repeat (first | (with_reducible first | exact HB.out | apply below_alloc | apply pw_below_drewN | apply below_drew1 | refine below_set ?_ GE464.out) | exact HB.out)⟩
          ·rw [if_neg c31] at H
           have c31b0 : decide (x8_2 < (wrap64 (t469 * (ji29)))) = false := decide_eq_false c31
           clear c31
           by_cases c33 : (wrap64 (x8_2 - (wrap64 (t469 * (ji29))))) ≥ (ji29)
           ·rw [if_pos c33] at H
            have c33b0 : decide ((ji29) ≤ (wrap64 (x8_2 - (wrap64 (t469 * (ji29)))))) = true := decide_eq_true c33
            clear c33
            obtain rfl := Option.some.inj H
            go_wp2_with (first | ((with_reducible refine gate_callee (f := 22) rfl ?_); refine goesL_ (some 59) rfl rfl Try.func22 (by kernel_rfl) rfl #[.slice (some ad463) t458.length co9, .int .i64 x28_1] rfl (by (try simp only [List.map_toArray, List.map_cons, List.map_nil]); first | done | rfl | (simp only [List.length_drop, List.length_take]; rfl)) ?_; (with_reducible refine (cluster_Spread.calls _ _ t458 x28_1 t469 _ ?side1 ?side2 A30.out).mono ?_); (case side1 => repeat (first | exact (Kd.R_reads' HO_3.out).2.2 | (with_reducible refine Kd.C_alloc ?_ _) | (with_reducible refine Kd.C_drewN ?_ _) | (with_reducible refine Kd.C_drew ?_))); (case side2 => exact (Kd.R_reads' HO_3.out).2.1); rintro e w34 ⟨rfl, hb⟩; refine ⟨_, rfl, ?_⟩; have n0_ := Aside0.mk (Kd.R_below (by (with_reducible repeat (first | apply Kd.R_alloc | apply Kd.R_drewN | apply Kd.R_drew)); exact HO_3.out) hb); have n1_ := Aside0.mk (Kd.R_below (by (with_reducible repeat (first | apply Kd.R_alloc | apply Kd.R_drewN | apply Kd.R_drew)); exact HO_26.out) hb); have n2_ := Aside0.mk (Kd.R_below (by (with_reducible repeat (first | apply Kd.R_alloc | apply Kd.R_drewN | apply Kd.R_drew)); exact HO_33.out) hb); have n3_ := Aside0.mk (blk_below (g := gb464) (o := .cells #[.int .i64 ((rd_T27 t458 x28_1).f0), .int .i64 ((rd_T27 t458 x28_1).f1.f0), .int .i64 ((rd_T27 t458 x28_1).f1.f1), .int .i64 ((rd_T27 t458 x28_1).f1.f2), .int .i64 ((rd_T27 t458 x28_1).f2)] 27 (0, 0)) (by (with_reducible repeat (first | refine blk_drewN ?_ _ | refine blk_drew ?_ | refine blk_alloc ?_ _)); exact BK464.out) hb); have n4_ := Aside0.mk (below_step (by repeat (first | (with_reducible first | exact HB.out | apply below_alloc | apply pw_below_drewN | apply below_drew1 | refine below_set ?_ GE464.out) | exact HB.out)) hb); clear HO_3; clear HO_26; clear HO_33; clear BK464; clear HB; have HO_3 := n0_; have HO_26 := n1_; have HO_33 := n2_; have BK464 := n3_; have HB := n4_; clear n0_ n1_ n2_ n3_ n4_; (try clear hb); (try clear hb2); (try clear hk); (try clear hi)))
            go_ret
            exact ⟨by first | rfl | (simp [errW_none, errW_some] <;> rfl) | (simp only [← hji29]; first | rfl | (simp [errW_none, errW_some] <;> rfl)) | (simp [*, errW_none, errW_some] <;> rfl), by repeat (first | (with_reducible first | exact HB.out | apply below_alloc | apply pw_below_drewN | apply below_drew1 | refine below_set ?_ GE464.out) | exact HB.out)⟩
           ·rw [if_neg c33] at H
            have c33b0 : decide ((ji29) ≤ (wrap64 (x8_2 - (wrap64 (t469 * (ji29)))))) = false := decide_eq_false c33
            clear c33
            replace H := Option.bind_eq_some_iff.mp H
            obtain ⟨t470, A350, H⟩ := H
            replace H : (if t469 > t470 then (some false) else ((cluster_Spread.f t458 t461).bind fun t471 => (if t469 = t471 then (if x28_1 > t461 then (some false) else (ephemerislaw23_ClusterSpreads.l0 k2 t458 t461 t458 (t458.length : Int) (wrap64 (x28_1 + 1)))) else (ephemerislaw23_ClusterSpreads.l0 k2 t458 t461 t458 (t458.length : Int) (wrap64 (x28_1 + 1)))))) = some r := H
            have A35 := Aside0.mk A350
            clear A350
            by_cases c36 : t469 > t470
            ·rw [if_pos c36] at H
             have c36b0 : decide (t470 < t469) = true := decide_eq_true c36
             clear c36
             obtain rfl := Option.some.inj H
             go_wp2_with (first | ((with_reducible refine gate_callee (f := 22) rfl ?_); refine goesL_ (some 59) rfl rfl Try.func22 (by kernel_rfl) rfl #[.slice (some ad463) t458.length co9, .int .i64 x28_1] rfl (by (try simp only [List.map_toArray, List.map_cons, List.map_nil]); first | done | rfl | (simp only [List.length_drop, List.length_take]; rfl)) ?_; (with_reducible refine (cluster_Spread.calls _ _ t458 x28_1 t469 _ ?side1 ?side2 A30.out).mono ?_); (case side1 => repeat (first | exact (Kd.R_reads' HO_3.out).2.2 | (with_reducible refine Kd.C_alloc ?_ _) | (with_reducible refine Kd.C_drewN ?_ _) | (with_reducible refine Kd.C_drew ?_))); (case side2 => exact (Kd.R_reads' HO_3.out).2.1); rintro e w37 ⟨rfl, hb⟩; refine ⟨_, rfl, ?_⟩; have n0_ := Aside0.mk (Kd.R_below (by (with_reducible repeat (first | apply Kd.R_alloc | apply Kd.R_drewN | apply Kd.R_drew)); exact HO_3.out) hb); have n1_ := Aside0.mk (Kd.R_below (by (with_reducible repeat (first | apply Kd.R_alloc | apply Kd.R_drewN | apply Kd.R_drew)); exact HO_26.out) hb); have n2_ := Aside0.mk (Kd.R_below (by (with_reducible repeat (first | apply Kd.R_alloc | apply Kd.R_drewN | apply Kd.R_drew)); exact HO_33.out) hb); have n3_ := Aside0.mk (blk_below (g := gb464) (o := .cells #[.int .i64 ((rd_T27 t458 x28_1).f0), .int .i64 ((rd_T27 t458 x28_1).f1.f0), .int .i64 ((rd_T27 t458 x28_1).f1.f1), .int .i64 ((rd_T27 t458 x28_1).f1.f2), .int .i64 ((rd_T27 t458 x28_1).f2)] 27 (0, 0)) (by (with_reducible repeat (first | refine blk_drewN ?_ _ | refine blk_drew ?_ | refine blk_alloc ?_ _)); exact BK464.out) hb); have n4_ := Aside0.mk (below_step (by repeat (first | (with_reducible first | exact HB.out | apply below_alloc | apply pw_below_drewN | apply below_drew1 | refine below_set ?_ GE464.out) | exact HB.out)) hb); clear HO_3; clear HO_26; clear HO_33; clear BK464; clear HB; have HO_3 := n0_; have HO_26 := n1_; have HO_33 := n2_; have BK464 := n3_; have HB := n4_; clear n0_ n1_ n2_ n3_ n4_; (try clear hb); (try clear hb2); (try clear hk); (try clear hi)) | (go_at_call 22; (with_reducible refine (cluster_Spread.calls _ _ t458 t461 t470 _ ?side1 ?side2 A35.out).mono ?_); (case side1 => repeat (first | exact (Kd.R_reads' HO_3.out).2.2 | (with_reducible refine Kd.C_alloc ?_ _) | (with_reducible refine Kd.C_drewN ?_ _) | (with_reducible refine Kd.C_drew ?_))); (case side2 => exact (Kd.R_reads' HO_3.out).2.1); rintro e w38 ⟨rfl, hb⟩; have n0_ := Aside0.mk (Kd.R_below (by (with_reducible repeat (first | apply Kd.R_alloc | apply Kd.R_drewN | apply Kd.R_drew)); exact HO_3.out) hb); have n1_ := Aside0.mk (Kd.R_below (by (with_reducible repeat (first | apply Kd.R_alloc | apply Kd.R_drewN | apply Kd.R_drew)); exact HO_26.out) hb); have n2_ := Aside0.mk (Kd.R_below (by (with_reducible repeat (first | apply Kd.R_alloc | apply Kd.R_drewN | apply Kd.R_drew)); exact HO_33.out) hb); have n3_ := Aside0.mk (blk_below (g := gb464) (o := .cells #[.int .i64 ((rd_T27 t458 x28_1).f0), .int .i64 ((rd_T27 t458 x28_1).f1.f0), .int .i64 ((rd_T27 t458 x28_1).f1.f1), .int .i64 ((rd_T27 t458 x28_1).f1.f2), .int .i64 ((rd_T27 t458 x28_1).f2)] 27 (0, 0)) (by (with_reducible repeat (first | refine blk_drewN ?_ _ | refine blk_drew ?_ | refine blk_alloc ?_ _)); exact BK464.out) hb); have n4_ := Aside0.mk (below_step (by repeat (first | (with_reducible first | exact HB.out | apply below_alloc | apply pw_below_drewN | apply below_drew1 | refine below_set ?_ GE464.out) | exact HB.out)) hb); clear HO_3; clear HO_26; clear HO_33; clear BK464; clear HB; have HO_3 := n0_; have HO_26 := n1_; have HO_33 := n2_; have BK464 := n3_; have HB := n4_; clear n0_ n1_ n2_ n3_ n4_; (try clear hb); (try clear hb2); (try clear hk); (try clear hi)))
             go_ret
             exact ⟨by first | rfl | (simp [errW_none, errW_some] <;> rfl) | (simp only [← hji29]; first | rfl | (simp [errW_none, errW_some] <;> rfl)) | (simp [*, errW_none, errW_some] <;> rfl), by repeat (first | (with_reducible first | exact HB.out | apply below_alloc | apply pw_below_drewN | apply below_drew1 | refine below_set ?_ GE464.out) | exact HB.out)⟩
            ·rw [if_neg c36] at H
             have c36b0 : decide (t470 < t469) = false := decide_eq_false c36
             clear c36
             replace H := Option.bind_eq_some_iff.mp H
             obtain ⟨t471, A390, H⟩ := H
             replace H : (if t469 = t471 then (if x28_1 > t461 then (some false) else (ephemerislaw23_ClusterSpreads.l0 k2 t458 t461 t458 (t458.length : Int) (wrap64 (x28_1 + 1)))) else (ephemerislaw23_ClusterSpreads.l0 k2 t458 t461 t458 (t458.length : Int) (wrap64 (x28_1 + 1)))) = some r := H
             have A39 := Aside0.mk A390
             clear A390
             by_cases c40 : t469 = t471
             ·rw [if_pos c40] at H
              have c40b0 : (t469 == t471) = true := beq_iff_eq.mpr c40
              have c40n : (t469 == t470) = true := by rw [Option.some.inj (A35.out.symm.trans A39.out)]; exact c40b0
              have c40b1 : (t469 != t471) = false := bne_eq_false_iff_eq.mpr c40
              clear c40
              by_cases c41 : x28_1 > t461
              ·rw [if_pos c41] at H
               have c41b0 : decide (t461 < x28_1) = true := decide_eq_true c41
               clear c41
               obtain rfl := Option.some.inj H
               go_wp2_with (first | ((with_reducible refine gate_callee (f := 22) rfl ?_); refine goesL_ (some 59) rfl rfl Try.func22 (by kernel_rfl) rfl #[.slice (some ad463) t458.length co9, .int .i64 x28_1] rfl (by (try simp only [List.map_toArray, List.map_cons, List.map_nil]); first | done | rfl | (simp only [List.length_drop, List.length_take]; rfl)) ?_; (with_reducible refine (cluster_Spread.calls _ _ t458 x28_1 t469 _ ?side1 ?side2 A30.out).mono ?_); (case side1 => repeat (first | exact (Kd.R_reads' HO_3.out).2.2 | (with_reducible refine Kd.C_alloc ?_ _) | (with_reducible refine Kd.C_drewN ?_ _) | (with_reducible refine Kd.C_drew ?_))); (case side2 => exact (Kd.R_reads' HO_3.out).2.1); rintro e w42 ⟨rfl, hb⟩; refine ⟨_, rfl, ?_⟩; have n0_ := Aside0.mk (Kd.R_below (by (with_reducible repeat (first | apply Kd.R_alloc | apply Kd.R_drewN | apply Kd.R_drew)); exact HO_3.out) hb); have n1_ := Aside0.mk (Kd.R_below (by (with_reducible repeat (first | apply Kd.R_alloc | apply Kd.R_drewN | apply Kd.R_drew)); exact HO_26.out) hb); have n2_ := Aside0.mk (Kd.R_below (by (with_reducible repeat (first | apply Kd.R_alloc | apply Kd.R_drewN | apply Kd.R_drew)); exact HO_33.out) hb); have n3_ := Aside0.mk (blk_below (g := gb464) (o := .cells #[.int .i64 ((rd_T27 t458 x28_1).f0), .int .i64 ((rd_T27 t458 x28_1).f1.f0), .int .i64 ((rd_T27 t458 x28_1).f1.f1), .int .i64 ((rd_T27 t458 x28_1).f1.f2), .int .i64 ((rd_T27 t458 x28_1).f2)] 27 (0, 0)) (by (with_reducible repeat (first | refine blk_drewN ?_ _ | refine blk_drew ?_ | refine blk_alloc ?_ _)); exact BK464.out) hb); have n4_ := Aside0.mk (below_step (by repeat (first | (with_reducible first | exact HB.out | apply below_alloc | apply pw_below_drewN | apply below_drew1 | refine below_set ?_ GE464.out) | exact HB.out)) hb); clear HO_3; clear HO_26; clear HO_33; clear BK464; clear HB; have HO_3 := n0_; have HO_26 := n1_; have HO_33 := n2_; have BK464 := n3_; have HB := n4_; clear n0_ n1_ n2_ n3_ n4_; (try clear hb); (try clear hb2); (try clear hk); (try clear hi)) | (go_at_call 22; (with_reducible refine (cluster_Spread.calls _ _ t458 t461 t470 _ ?side1 ?side2 A35.out).mono ?_); (case side1 => repeat (first | exact (Kd.R_reads' HO_3.out).2.2 | (with_reducible refine Kd.C_alloc ?_ _) | (with_reducible refine Kd.C_drewN ?_ _) | (with_reducible refine Kd.C_drew ?_))); (case side2 => exact (Kd.R_reads' HO_3.out).2.1); rintro e w43 ⟨rfl, hb⟩; have n0_ := Aside0.mk (Kd.R_below (by (with_reducible repeat (first | apply Kd.R_alloc | apply Kd.R_drewN | apply Kd.R_drew)); exact HO_3.out) hb); have n1_ := Aside0.mk (Kd.R_below (by (with_reducible repeat (first | apply Kd.R_alloc | apply Kd.R_drewN | apply Kd.R_drew)); exact HO_26.out) hb); have n2_ := Aside0.mk (Kd.R_below (by (with_reducible repeat (first | apply Kd.R_alloc | apply Kd.R_drewN | apply Kd.R_drew)); exact HO_33.out) hb); have n3_ := Aside0.mk (blk_below (g := gb464) (o := .cells #[.int .i64 ((rd_T27 t458 x28_1).f0), .int .i64 ((rd_T27 t458 x28_1).f1.f0), .int .i64 ((rd_T27 t458 x28_1).f1.f1), .int .i64 ((rd_T27 t458 x28_1).f1.f2), .int .i64 ((rd_T27 t458 x28_1).f2)] 27 (0, 0)) (by (with_reducible repeat (first | refine blk_drewN ?_ _ | refine blk_drew ?_ | refine blk_alloc ?_ _)); exact BK464.out) hb); have n4_ := Aside0.mk (below_step (by repeat (first | (with_reducible first | exact HB.out | apply below_alloc | apply pw_below_drewN | apply below_drew1 | refine below_set ?_ GE464.out) | exact HB.out)) hb); clear HO_3; clear HO_26; clear HO_33; clear BK464; clear HB; have HO_3 := n0_; have HO_26 := n1_; have HO_33 := n2_; have BK464 := n3_; have HB := n4_; clear n0_ n1_ n2_ n3_ n4_; (try clear hb); (try clear hb2); (try clear hk); (try clear hi)) | (go_at_call 22; (with_reducible refine (cluster_Spread.calls _ _ t458 t461 t471 _ ?side1 ?side2 A39.out).mono ?_); (case side1 => repeat (first | exact (Kd.R_reads' HO_3.out).2.2 | (with_reducible refine Kd.C_alloc ?_ _) | (with_reducible refine Kd.C_drewN ?_ _) | (with_reducible refine Kd.C_drew ?_))); (case side2 => exact (Kd.R_reads' HO_3.out).2.1); rintro e w44 ⟨rfl, hb⟩; have n0_ := Aside0.mk (Kd.R_below (by (with_reducible repeat (first | apply Kd.R_alloc | apply Kd.R_drewN | apply Kd.R_drew)); exact HO_3.out) hb); have n1_ := Aside0.mk (Kd.R_below (by (with_reducible repeat (first | apply Kd.R_alloc | apply Kd.R_drewN | apply Kd.R_drew)); exact HO_26.out) hb); have n2_ := Aside0.mk (Kd.R_below (by (with_reducible repeat (first | apply Kd.R_alloc | apply Kd.R_drewN | apply Kd.R_drew)); exact HO_33.out) hb); have n3_ := Aside0.mk (blk_below (g := gb464) (o := .cells #[.int .i64 ((rd_T27 t458 x28_1).f0), .int .i64 ((rd_T27 t458 x28_1).f1.f0), .int .i64 ((rd_T27 t458 x28_1).f1.f1), .int .i64 ((rd_T27 t458 x28_1).f1.f2), .int .i64 ((rd_T27 t458 x28_1).f2)] 27 (0, 0)) (by (with_reducible repeat (first | refine blk_drewN ?_ _ | refine blk_drew ?_ | refine blk_alloc ?_ _)); exact BK464.out) hb); have n4_ := Aside0.mk (below_step (by repeat (first | (with_reducible first | exact HB.out | apply below_alloc | apply pw_below_drewN | apply below_drew1 | refine below_set ?_ GE464.out) | exact HB.out)) hb); clear HO_3; clear HO_26; clear HO_33; clear BK464; clear HB; have HO_3 := n0_; have HO_26 := n1_; have HO_33 := n2_; have BK464 := n3_; have HB := n4_; clear n0_ n1_ n2_ n3_ n4_; (try clear hb); (try clear hb2); (try clear hk); (try clear hi)))
               go_ret
               exact ⟨by first | rfl | (simp [errW_none, errW_some] <;> rfl) | (simp only [← hji29]; first | rfl | (simp [errW_none, errW_some] <;> rfl)) | (simp [*, errW_none, errW_some] <;> rfl), by repeat (first | (with_reducible first | exact HB.out | apply below_alloc | apply pw_below_drewN | apply below_drew1 | refine below_set ?_ GE464.out) | exact HB.out)⟩
              ·rw [if_neg c41] at H
               have c41b0 : decide (t461 < x28_1) = false := decide_eq_false c41
               clear c41
               have H' := Aside0.mk H
               clear H
               go_wp2_with (first | ((with_reducible refine gate_callee (f := 22) rfl ?_); refine goesL_ (some 59) rfl rfl Try.func22 (by kernel_rfl) rfl #[.slice (some ad463) t458.length co9, .int .i64 x28_1] rfl (by (try simp only [List.map_toArray, List.map_cons, List.map_nil]); first | done | rfl | (simp only [List.length_drop, List.length_take]; rfl)) ?_; (with_reducible refine (cluster_Spread.calls _ _ t458 x28_1 t469 _ ?side1 ?side2 A30.out).mono ?_); (case side1 => repeat (first | exact (Kd.R_reads' HO_3.out).2.2 | (with_reducible refine Kd.C_alloc ?_ _) | (with_reducible refine Kd.C_drewN ?_ _) | (with_reducible refine Kd.C_drew ?_))); (case side2 => exact (Kd.R_reads' HO_3.out).2.1); rintro e w45 ⟨rfl, hb⟩; refine ⟨_, rfl, ?_⟩; have n0_ := Aside0.mk (Kd.R_below (by (with_reducible repeat (first | apply Kd.R_alloc | apply Kd.R_drewN | apply Kd.R_drew)); exact HO_3.out) hb); have n1_ := Aside0.mk (Kd.R_below (by (with_reducible repeat (first | apply Kd.R_alloc | apply Kd.R_drewN | apply Kd.R_drew)); exact HO_26.out) hb); have n2_ := Aside0.mk (Kd.R_below (by (with_reducible repeat (first | apply Kd.R_alloc | apply Kd.R_drewN | apply Kd.R_drew)); exact HO_33.out) hb); have n3_ := Aside0.mk (blk_below (g := gb464) (o := .cells #[.int .i64 ((rd_T27 t458 x28_1).f0), .int .i64 ((rd_T27 t458 x28_1).f1.f0), .int .i64 ((rd_T27 t458 x28_1).f1.f1), .int .i64 ((rd_T27 t458 x28_1).f1.f2), .int .i64 ((rd_T27 t458 x28_1).f2)] 27 (0, 0)) (by (with_reducible repeat (first | refine blk_drewN ?_ _ | refine blk_drew ?_ | refine blk_alloc ?_ _)); exact BK464.out) hb); have n4_ := Aside0.mk (below_step (by repeat (first | (with_reducible first | exact HB.out | apply below_alloc | apply pw_below_drewN | apply below_drew1 | refine below_set ?_ GE464.out) | exact HB.out)) hb); clear HO_3; clear HO_26; clear HO_33; clear BK464; clear HB; have HO_3 := n0_; have HO_26 := n1_; have HO_33 := n2_; have BK464 := n3_; have HB := n4_; clear n0_ n1_ n2_ n3_ n4_; (try clear hb); (try clear hb2); (try clear hk); (try clear hi)) | (go_at_call 22; (with_reducible refine (cluster_Spread.calls _ _ t458 t461 t470 _ ?side1 ?side2 A35.out).mono ?_); (case side1 => repeat (first | exact (Kd.R_reads' HO_3.out).2.2 | (with_reducible refine Kd.C_alloc ?_ _) | (with_reducible refine Kd.C_drewN ?_ _) | (with_reducible refine Kd.C_drew ?_))); (case side2 => exact (Kd.R_reads' HO_3.out).2.1); rintro e w46 ⟨rfl, hb⟩; have n0_ := Aside0.mk (Kd.R_below (by (with_reducible repeat (first | apply Kd.R_alloc | apply Kd.R_drewN | apply Kd.R_drew)); exact HO_3.out) hb); have n1_ := Aside0.mk (Kd.R_below (by (with_reducible repeat (first | apply Kd.R_alloc | apply Kd.R_drewN | apply Kd.R_drew)); exact HO_26.out) hb); have n2_ := Aside0.mk (Kd.R_below (by (with_reducible repeat (first | apply Kd.R_alloc | apply Kd.R_drewN | apply Kd.R_drew)); exact HO_33.out) hb); have n3_ := Aside0.mk (blk_below (g := gb464) (o := .cells #[.int .i64 ((rd_T27 t458 x28_1).f0), .int .i64 ((rd_T27 t458 x28_1).f1.f0), .int .i64 ((rd_T27 t458 x28_1).f1.f1), .int .i64 ((rd_T27 t458 x28_1).f1.f2), .int .i64 ((rd_T27 t458 x28_1).f2)] 27 (0, 0)) (by (with_reducible repeat (first | refine blk_drewN ?_ _ | refine blk_drew ?_ | refine blk_alloc ?_ _)); exact BK464.out) hb); have n4_ := Aside0.mk (below_step (by repeat (first | (with_reducible first | exact HB.out | apply below_alloc | apply pw_below_drewN | apply below_drew1 | refine below_set ?_ GE464.out) | exact HB.out)) hb); clear HO_3; clear HO_26; clear HO_33; clear BK464; clear HB; have HO_3 := n0_; have HO_26 := n1_; have HO_33 := n2_; have BK464 := n3_; have HB := n4_; clear n0_ n1_ n2_ n3_ n4_; (try clear hb); (try clear hb2); (try clear hk); (try clear hi)) | (go_at_call 22; (with_reducible refine (cluster_Spread.calls _ _ t458 t461 t471 _ ?side1 ?side2 A39.out).mono ?_); (case side1 => repeat (first | exact (Kd.R_reads' HO_3.out).2.2 | (with_reducible refine Kd.C_alloc ?_ _) | (with_reducible refine Kd.C_drewN ?_ _) | (with_reducible refine Kd.C_drew ?_))); (case side2 => exact (Kd.R_reads' HO_3.out).2.1); rintro e w47 ⟨rfl, hb⟩; have n0_ := Aside0.mk (Kd.R_below (by (with_reducible repeat (first | apply Kd.R_alloc | apply Kd.R_drewN | apply Kd.R_drew)); exact HO_3.out) hb); have n1_ := Aside0.mk (Kd.R_below (by (with_reducible repeat (first | apply Kd.R_alloc | apply Kd.R_drewN | apply Kd.R_drew)); exact HO_26.out) hb); have n2_ := Aside0.mk (Kd.R_below (by (with_reducible repeat (first | apply Kd.R_alloc | apply Kd.R_drewN | apply Kd.R_drew)); exact HO_33.out) hb); have n3_ := Aside0.mk (blk_below (g := gb464) (o := .cells #[.int .i64 ((rd_T27 t458 x28_1).f0), .int .i64 ((rd_T27 t458 x28_1).f1.f0), .int .i64 ((rd_T27 t458 x28_1).f1.f1), .int .i64 ((rd_T27 t458 x28_1).f1.f2), .int .i64 ((rd_T27 t458 x28_1).f2)] 27 (0, 0)) (by (with_reducible repeat (first | refine blk_drewN ?_ _ | refine blk_drew ?_ | refine blk_alloc ?_ _)); exact BK464.out) hb); have n4_ := Aside0.mk (below_step (by repeat (first | (with_reducible first | exact HB.out | apply below_alloc | apply pw_below_drewN | apply below_drew1 | refine below_set ?_ GE464.out) | exact HB.out)) hb); clear HO_3; clear HO_26; clear HO_33; clear BK464; clear HB; have HO_3 := n0_; have HO_26 := n1_; have HO_33 := n2_; have BK464 := n3_; have HB := n4_; clear n0_ n1_ n2_ n3_ n4_; (try clear hb); (try clear hb2); (try clear hk); (try clear hi)))
               go_roundg k2
               case measure => have := HK1.out; have := HK2.out; omega
               case rel => exact ⟨(wrap64 (x28_1 + 1)), (by first | rfl | (simp; done) | (simp [*]; done)), H', ⟨by have := HK1.out; have := HK2.out; omega⟩, ⟨by (with_reducible repeat (first | apply Kd.R_alloc | apply Kd.R_drewN | apply Kd.R_drew)); exact Kd.R_mono HO_3.out (fun _ hk => trivial)⟩, ⟨by (with_reducible repeat (first | apply Kd.R_alloc | apply Kd.R_drewN | apply Kd.R_drew)); exact Kd.R_mono HO_26.out (fun _ hk => trivial)⟩, ⟨by repeat (first | (with_reducible first | exact HB.out | apply below_alloc | apply pw_below_drewN | apply below_drew1 | refine below_set ?_ GE464.out) | exact HB.out)⟩⟩
             ·rw [if_neg c40] at H
              have c40b0 : (t469 == t471) = false := beq_eq_false_iff_ne.mpr c40
              have c40n : (t469 == t470) = false := by rw [Option.some.inj (A35.out.symm.trans A39.out)]; exact c40b0
              have c40b1 : (t469 != t471) = true := bne_iff_ne.mpr c40
              have H' := Aside0.mk H
              clear H
              go_wp2_with (first | ((with_reducible refine gate_callee (f := 22) rfl ?_); refine goesL_ (some 59) rfl rfl Try.func22 (by kernel_rfl) rfl #[.slice (some ad463) t458.length co9, .int .i64 x28_1] rfl (by (try simp only [List.map_toArray, List.map_cons, List.map_nil]); first | done | rfl | (simp only [List.length_drop, List.length_take]; rfl)) ?_; (with_reducible refine (cluster_Spread.calls _ _ t458 x28_1 t469 _ ?side1 ?side2 A30.out).mono ?_); (case side1 => repeat (first | exact (Kd.R_reads' HO_3.out).2.2 | (with_reducible refine Kd.C_alloc ?_ _) | (with_reducible refine Kd.C_drewN ?_ _) | (with_reducible refine Kd.C_drew ?_))); (case side2 => exact (Kd.R_reads' HO_3.out).2.1); rintro e w48 ⟨rfl, hb⟩; refine ⟨_, rfl, ?_⟩; have n0_ := Aside0.mk (Kd.R_below (by (with_reducible repeat (first | apply Kd.R_alloc | apply Kd.R_drewN | apply Kd.R_drew)); exact HO_3.out) hb); have n1_ := Aside0.mk (Kd.R_below (by (with_reducible repeat (first | apply Kd.R_alloc | apply Kd.R_drewN | apply Kd.R_drew)); exact HO_26.out) hb); have n2_ := Aside0.mk (Kd.R_below (by (with_reducible repeat (first | apply Kd.R_alloc | apply Kd.R_drewN | apply Kd.R_drew)); exact HO_33.out) hb); have n3_ := Aside0.mk (blk_below (g := gb464) (o := .cells #[.int .i64 ((rd_T27 t458 x28_1).f0), .int .i64 ((rd_T27 t458 x28_1).f1.f0), .int .i64 ((rd_T27 t458 x28_1).f1.f1), .int .i64 ((rd_T27 t458 x28_1).f1.f2), .int .i64 ((rd_T27 t458 x28_1).f2)] 27 (0, 0)) (by (with_reducible repeat (first | refine blk_drewN ?_ _ | refine blk_drew ?_ | refine blk_alloc ?_ _)); exact BK464.out) hb); have n4_ := Aside0.mk (below_step (by repeat (first | (with_reducible first | exact HB.out | apply below_alloc | apply pw_below_drewN | apply below_drew1 | refine below_set ?_ GE464.out) | exact HB.out)) hb); clear HO_3; clear HO_26; clear HO_33; clear BK464; clear HB; have HO_3 := n0_; have HO_26 := n1_; have HO_33 := n2_; have BK464 := n3_; have HB := n4_; clear n0_ n1_ n2_ n3_ n4_; (try clear hb); (try clear hb2); (try clear hk); (try clear hi)) | (go_at_call 22; (with_reducible refine (cluster_Spread.calls _ _ t458 t461 t470 _ ?side1 ?side2 A35.out).mono ?_); (case side1 => repeat (first | exact (Kd.R_reads' HO_3.out).2.2 | (with_reducible refine Kd.C_alloc ?_ _) | (with_reducible refine Kd.C_drewN ?_ _) | (with_reducible refine Kd.C_drew ?_))); (case side2 => exact (Kd.R_reads' HO_3.out).2.1); rintro e w49 ⟨rfl, hb⟩; have n0_ := Aside0.mk (Kd.R_below (by (with_reducible repeat (first | apply Kd.R_alloc | apply Kd.R_drewN | apply Kd.R_drew)); exact HO_3.out) hb); have n1_ := Aside0.mk (Kd.R_below (by (with_reducible repeat (first | apply Kd.R_alloc | apply Kd.R_drewN | apply Kd.R_drew)); exact HO_26.out) hb); have n2_ := Aside0.mk (Kd.R_below (by (with_reducible repeat (first | apply Kd.R_alloc | apply Kd.R_drewN | apply Kd.R_drew)); exact HO_33.out) hb); have n3_ := Aside0.mk (blk_below (g := gb464) (o := .cells #[.int .i64 ((rd_T27 t458 x28_1).f0), .int .i64 ((rd_T27 t458 x28_1).f1.f0), .int .i64 ((rd_T27 t458 x28_1).f1.f1), .int .i64 ((rd_T27 t458 x28_1).f1.f2), .int .i64 ((rd_T27 t458 x28_1).f2)] 27 (0, 0)) (by (with_reducible repeat (first | refine blk_drewN ?_ _ | refine blk_drew ?_ | refine blk_alloc ?_ _)); exact BK464.out) hb); have n4_ := Aside0.mk (below_step (by repeat (first | (with_reducible first | exact HB.out | apply below_alloc | apply pw_below_drewN | apply below_drew1 | refine below_set ?_ GE464.out) | exact HB.out)) hb); clear HO_3; clear HO_26; clear HO_33; clear BK464; clear HB; have HO_3 := n0_; have HO_26 := n1_; have HO_33 := n2_; have BK464 := n3_; have HB := n4_; clear n0_ n1_ n2_ n3_ n4_; (try clear hb); (try clear hb2); (try clear hk); (try clear hi)) | (go_at_call 22; (with_reducible refine (cluster_Spread.calls _ _ t458 t461 t471 _ ?side1 ?side2 A39.out).mono ?_); (case side1 => repeat (first | exact (Kd.R_reads' HO_3.out).2.2 | (with_reducible refine Kd.C_alloc ?_ _) | (with_reducible refine Kd.C_drewN ?_ _) | (with_reducible refine Kd.C_drew ?_))); (case side2 => exact (Kd.R_reads' HO_3.out).2.1); rintro e w50 ⟨rfl, hb⟩; have n0_ := Aside0.mk (Kd.R_below (by (with_reducible repeat (first | apply Kd.R_alloc | apply Kd.R_drewN | apply Kd.R_drew)); exact HO_3.out) hb); have n1_ := Aside0.mk (Kd.R_below (by (with_reducible repeat (first | apply Kd.R_alloc | apply Kd.R_drewN | apply Kd.R_drew)); exact HO_26.out) hb); have n2_ := Aside0.mk (Kd.R_below (by (with_reducible repeat (first | apply Kd.R_alloc | apply Kd.R_drewN | apply Kd.R_drew)); exact HO_33.out) hb); have n3_ := Aside0.mk (blk_below (g := gb464) (o := .cells #[.int .i64 ((rd_T27 t458 x28_1).f0), .int .i64 ((rd_T27 t458 x28_1).f1.f0), .int .i64 ((rd_T27 t458 x28_1).f1.f1), .int .i64 ((rd_T27 t458 x28_1).f1.f2), .int .i64 ((rd_T27 t458 x28_1).f2)] 27 (0, 0)) (by (with_reducible repeat (first | refine blk_drewN ?_ _ | refine blk_drew ?_ | refine blk_alloc ?_ _)); exact BK464.out) hb); have n4_ := Aside0.mk (below_step (by repeat (first | (with_reducible first | exact HB.out | apply below_alloc | apply pw_below_drewN | apply below_drew1 | refine below_set ?_ GE464.out) | exact HB.out)) hb); clear HO_3; clear HO_26; clear HO_33; clear BK464; clear HB; have HO_3 := n0_; have HO_26 := n1_; have HO_33 := n2_; have BK464 := n3_; have HB := n4_; clear n0_ n1_ n2_ n3_ n4_; (try clear hb); (try clear hb2); (try clear hk); (try clear hi)))
              go_roundg k2
              case measure => have := HK1.out; have := HK2.out; omega
              case rel => exact ⟨(wrap64 (x28_1 + 1)), (by first | rfl | (simp; done) | (simp [*]; done)), H', ⟨by have := HK1.out; have := HK2.out; omega⟩, ⟨by (with_reducible repeat (first | apply Kd.R_alloc | apply Kd.R_drewN | apply Kd.R_drew)); exact Kd.R_mono HO_3.out (fun _ hk => trivial)⟩, ⟨by (with_reducible repeat (first | apply Kd.R_alloc | apply Kd.R_drewN | apply Kd.R_drew)); exact Kd.R_mono HO_26.out (fun _ hk => trivial)⟩, ⟨by repeat (first | (with_reducible first | exact HB.out | apply below_alloc | apply pw_below_drewN | apply below_drew1 | refine below_set ?_ GE464.out) | exact HB.out)⟩⟩
      ·rw [if_neg c13] at H
       exact absurd H (by simp)
     ·rw [if_neg c12] at H
      exact absurd H (by simp)
    ·rw [if_neg c11] at H
     have c11b0 : decide (x28_1 < (t458.length : Int)) = false := decide_eq_false c11
     clear c11
     by_cases c51 : (t458.length : Int) = 2
     ·rw [if_pos c51] at H
      have c51b0 : ((t458.length : Int) == 2) = true := beq_iff_eq.mpr c51
      have c51b1 : ((t458.length : Int) != 2) = false := bne_eq_false_iff_eq.mpr c51
      clear c51
      replace H := Option.bind_eq_some_iff.mp H
      obtain ⟨t472, A520, H⟩ := H
      replace H : ((cluster_Spread.f t458 1).bind fun t473 => (if t472 = t473 then ((ephemerislaw23_awake.f k1).bind fun t474 => (some t474)) else (some false))) = some r := H
      have A52 := Aside0.mk A520
      clear A520
      replace H := Option.bind_eq_some_iff.mp H
      obtain ⟨t473, A530, H⟩ := H
      replace H : (if t472 = t473 then ((ephemerislaw23_awake.f k1).bind fun t474 => (some t474)) else (some false)) = some r := H
      have A53 := Aside0.mk A530
      clear A530
      by_cases c54 : t472 = t473
      ·rw [if_pos c54] at H
       have c54b0 : (t472 == t473) = true := beq_iff_eq.mpr c54
       have c54b1 : (t472 != t473) = false := bne_eq_false_iff_eq.mpr c54
       clear c54
       replace H := Option.bind_eq_some_iff.mp H
       obtain ⟨t474, A550, H⟩ := H
       replace H : (some t474) = some r := H
       have A55 := Aside0.mk A550
       clear A550
       obtain rfl := Option.some.inj H
       go_wp2_with (first | (go_at_call 22; (with_reducible refine (cluster_Spread.calls _ _ t458 0 t472 _ ?side1 ?side2 A52.out).mono ?_); (case side1 => repeat (first | exact (Kd.R_reads' HO_3.out).2.2 | (with_reducible refine Kd.C_alloc ?_ _) | (with_reducible refine Kd.C_drewN ?_ _) | (with_reducible refine Kd.C_drew ?_))); (case side2 => exact (Kd.R_reads' HO_3.out).2.1); rintro e w56 ⟨rfl, hb⟩; have n0_ := Aside0.mk (Kd.R_below (by (with_reducible repeat (first | apply Kd.R_alloc | apply Kd.R_drewN | apply Kd.R_drew)); exact HO_3.out) hb); have n1_ := Aside0.mk (Kd.R_below (by (with_reducible repeat (first | apply Kd.R_alloc | apply Kd.R_drewN | apply Kd.R_drew)); exact HO_26.out) hb); have n2_ := Aside0.mk (below_step (by repeat (first | (with_reducible first | exact HB.out | apply below_alloc | apply pw_below_drewN | apply below_drew1) | exact HB.out)) hb); clear HO_3; clear HO_26; clear HB; have HO_3 := n0_; have HO_26 := n1_; have HB := n2_; clear n0_ n1_ n2_; (try clear hb); (try clear hb2); (try clear hk); (try clear hi)) | (go_at_call 22; (with_reducible refine (cluster_Spread.calls _ _ t458 1 t473 _ ?side1 ?side2 A53.out).mono ?_); (case side1 => repeat (first | exact (Kd.R_reads' HO_3.out).2.2 | (with_reducible refine Kd.C_alloc ?_ _) | (with_reducible refine Kd.C_drewN ?_ _) | (with_reducible refine Kd.C_drew ?_))); (case side2 => exact (Kd.R_reads' HO_3.out).2.1); rintro e w57 ⟨rfl, hb⟩; have n0_ := Aside0.mk (Kd.R_below (by (with_reducible repeat (first | apply Kd.R_alloc | apply Kd.R_drewN | apply Kd.R_drew)); exact HO_3.out) hb); have n1_ := Aside0.mk (Kd.R_below (by (with_reducible repeat (first | apply Kd.R_alloc | apply Kd.R_drewN | apply Kd.R_drew)); exact HO_26.out) hb); have n2_ := Aside0.mk (below_step (by repeat (first | (with_reducible first | exact HB.out | apply below_alloc | apply pw_below_drewN | apply below_drew1) | exact HB.out)) hb); clear HO_3; clear HO_26; clear HB; have HO_3 := n0_; have HO_26 := n1_; have HB := n2_; clear n0_ n1_ n2_; (try clear hb); (try clear hb2); (try clear hk); (try clear hi)) | ((with_reducible refine gate_callee (f := 26) rfl ?_); refine goesL_ (some 104) rfl rfl Try.func26 (by kernel_rfl) rfl #[] rfl (by (try simp only [List.map_toArray, List.map_cons, List.map_nil]); first | done | rfl | (simp only [List.length_drop, List.length_take]; rfl)) ?_; (with_reducible refine (ephemerislaw23_awake.calls k1  t474 _ A55.out).mono ?_); rintro e w58 ⟨rfl, hb⟩; refine ⟨_, rfl, ?_⟩; have n0_ := Aside0.mk (Kd.R_below (by (with_reducible repeat (first | apply Kd.R_alloc | apply Kd.R_drewN | apply Kd.R_drew)); exact HO_3.out) hb); have n1_ := Aside0.mk (Kd.R_below (by (with_reducible repeat (first | apply Kd.R_alloc | apply Kd.R_drewN | apply Kd.R_drew)); exact HO_26.out) hb); have n2_ := Aside0.mk (below_step (by repeat (first | (with_reducible first | exact HB.out | apply below_alloc | apply pw_below_drewN | apply below_drew1) | exact HB.out)) hb); clear HO_3; clear HO_26; clear HB; have HO_3 := n0_; have HO_26 := n1_; have HB := n2_; clear n0_ n1_ n2_; (try clear hb); (try clear hb2); (try clear hk); (try clear hi)))
       go_ret
       exact ⟨by first | rfl | (simp [errW_none, errW_some] <;> rfl) | (simp [*, errW_none, errW_some] <;> rfl), by repeat (first | (with_reducible first | exact HB.out | apply below_alloc | apply pw_below_drewN | apply below_drew1) | exact HB.out)⟩
      ·rw [if_neg c54] at H
       have c54b0 : (t472 == t473) = false := beq_eq_false_iff_ne.mpr c54
       have c54b1 : (t472 != t473) = true := bne_iff_ne.mpr c54
       obtain rfl := Option.some.inj H
       go_wp2_with (first | (go_at_call 22; (with_reducible refine (cluster_Spread.calls _ _ t458 0 t472 _ ?side1 ?side2 A52.out).mono ?_); (case side1 => repeat (first | exact (Kd.R_reads' HO_3.out).2.2 | (with_reducible refine Kd.C_alloc ?_ _) | (with_reducible refine Kd.C_drewN ?_ _) | (with_reducible refine Kd.C_drew ?_))); (case side2 => exact (Kd.R_reads' HO_3.out).2.1); rintro e w59 ⟨rfl, hb⟩; have n0_ := Aside0.mk (Kd.R_below (by (with_reducible repeat (first | apply Kd.R_alloc | apply Kd.R_drewN | apply Kd.R_drew)); exact HO_3.out) hb); have n1_ := Aside0.mk (Kd.R_below (by (with_reducible repeat (first | apply Kd.R_alloc | apply Kd.R_drewN | apply Kd.R_drew)); exact HO_26.out) hb); have n2_ := Aside0.mk (below_step (by repeat (first | (with_reducible first | exact HB.out | apply below_alloc | apply pw_below_drewN | apply below_drew1) | exact HB.out)) hb); clear HO_3; clear HO_26; clear HB; have HO_3 := n0_; have HO_26 := n1_; have HB := n2_; clear n0_ n1_ n2_; (try clear hb); (try clear hb2); (try clear hk); (try clear hi)) | (go_at_call 22; (with_reducible refine (cluster_Spread.calls _ _ t458 1 t473 _ ?side1 ?side2 A53.out).mono ?_); (case side1 => repeat (first | exact (Kd.R_reads' HO_3.out).2.2 | (with_reducible refine Kd.C_alloc ?_ _) | (with_reducible refine Kd.C_drewN ?_ _) | (with_reducible refine Kd.C_drew ?_))); (case side2 => exact (Kd.R_reads' HO_3.out).2.1); rintro e w60 ⟨rfl, hb⟩; have n0_ := Aside0.mk (Kd.R_below (by (with_reducible repeat (first | apply Kd.R_alloc | apply Kd.R_drewN | apply Kd.R_drew)); exact HO_3.out) hb); have n1_ := Aside0.mk (Kd.R_below (by (with_reducible repeat (first | apply Kd.R_alloc | apply Kd.R_drewN | apply Kd.R_drew)); exact HO_26.out) hb); have n2_ := Aside0.mk (below_step (by repeat (first | (with_reducible first | exact HB.out | apply below_alloc | apply pw_below_drewN | apply below_drew1) | exact HB.out)) hb); clear HO_3; clear HO_26; clear HB; have HO_3 := n0_; have HO_26 := n1_; have HB := n2_; clear n0_ n1_ n2_; (try clear hb); (try clear hb2); (try clear hk); (try clear hi)))
       go_ret
       exact ⟨by first | rfl | (simp [errW_none, errW_some] <;> rfl) | (simp [*, errW_none, errW_some] <;> rfl), by repeat (first | (with_reducible first | exact HB.out | apply below_alloc | apply pw_below_drewN | apply below_drew1) | exact HB.out)⟩
     ·rw [if_neg c51] at H
      have c51b0 : ((t458.length : Int) == 2) = false := beq_eq_false_iff_ne.mpr c51
      have c51b1 : ((t458.length : Int) != 2) = true := bne_iff_ne.mpr c51
      replace H := Option.bind_eq_some_iff.mp H
      obtain ⟨t475, A610, H⟩ := H
      replace H : (some t475) = some r := H
      have A61 := Aside0.mk A610
      clear A610
      obtain rfl := Option.some.inj H
      go_wp2_with (first | ((with_reducible refine gate_callee (f := 26) rfl ?_); refine goesL_ (some 104) rfl rfl Try.func26 (by kernel_rfl) rfl #[] rfl (by (try simp only [List.map_toArray, List.map_cons, List.map_nil]); first | done | rfl | (simp only [List.length_drop, List.length_take]; rfl)) ?_; (with_reducible refine (ephemerislaw23_awake.calls k1  t475 _ A61.out).mono ?_); rintro e w62 ⟨rfl, hb⟩; refine ⟨_, rfl, ?_⟩; have n0_ := Aside0.mk (Kd.R_below (by (with_reducible repeat (first | apply Kd.R_alloc | apply Kd.R_drewN | apply Kd.R_drew)); exact HO_3.out) hb); have n1_ := Aside0.mk (Kd.R_below (by (with_reducible repeat (first | apply Kd.R_alloc | apply Kd.R_drewN | apply Kd.R_drew)); exact HO_26.out) hb); have n2_ := Aside0.mk (below_step (by repeat (first | (with_reducible first | exact HB.out | apply below_alloc | apply pw_below_drewN | apply below_drew1) | exact HB.out)) hb); clear HO_3; clear HO_26; clear HB; have HO_3 := n0_; have HO_26 := n1_; have HB := n2_; clear n0_ n1_ n2_; (try clear hb); (try clear hb2); (try clear hk); (try clear hi)))
      go_ret
      exact ⟨by first | rfl | (simp [errW_none, errW_some] <;> rfl) | (simp [*, errW_none, errW_some] <;> rfl), by repeat (first | (with_reducible first | exact HB.out | apply below_alloc | apply pw_below_drewN | apply below_drew1) | exact HB.out)⟩

end Go.Proofs.Ytapagoaoglmegaa.PCl
