/- Lean functions and the walks that show the Go code comes to them, written by a program for this claim. -/
import Derived.Test.YtapagoaoglmegaaPClx0
import Derived.Test.YtapagoaoglmegaaPClx17
import Derived.Test.YtapagoaoglmegaaPClx18
import Derived.Test.YtapagoaoglmegaaPClx21
import Derived.Test.YtapagoaoglmegaaClClone
import Derived.Test.YtapagoaoglmegaaGClPrune2
namespace Go.Proofs.Ytapagoaoglmegaa.PCl
open Go.RowKit Go.Proofs.YtapagoaoglmegaaW.PrintWords Go.Proofs.YtapagoaoglmegaaW.PrintLast Go.Proofs.YtapagoaoglmegaaW.PrintMore
attribute [local go_sem] max2_int min2_int max_two min_two max_three min_three max_four min_four   -- for this text's walks alone
set_option linter.unusedVariables false
set_option linter.unusedSimpArgs false

/-! ### ephemerislaw23_ClusterCalm: function 6 -/
mutual
def ephemerislaw23_ClusterCalm.l0 : Nat → List (S27) → List (S27) → List (S27) → Int → Int → Int → Int → Int → Option (Bool)
 | 0, _, _, _, _, _, _, _, _ => none
 | k + 1, x3, x5, x6, x25, x26, x480000, x480001, x480002 => if x26 < x25 then (if 0 ≤ x26 then (if x26 < (x5.length : Int) then (if x26 < (x6.length : Int) then (ephemerislaw23_ClusterCalm.l0 k x3 (x5.set (x26 : Int).toNat (⟨(rd_T27 x5 x26).f0, (⟨(rd_T27 x5 x26).f1.f0, (rd_T27 x5 x26).f1.f1, (rd_T27 x5 x26).f1.f2⟩ : S24), 1099511627776⟩ : S27)) (x6.set (x26 : Int).toNat (⟨(rd_T27 x6 x26).f0, (⟨(rd_T27 x6 x26).f1.f0, (rd_T27 x6 x26).f1.f1, (rd_T27 x6 x26).f1.f2⟩ : S24), 0⟩ : S27)) x25 (wrap64 (x26 + 1)) x480000 x480001 x480002) else (none)) else (none)) else (none)) else ((cluster_Prune.f x5 x480000 x480001 x480002).bind fun bt489 => ((cluster_Prune.f x6 x480000 x480001 x480002).bind fun bt493 => (if bt489.2 = 0 then (if bt493.2 = 0 then (ephemerislaw23_ClusterCalm.j1 k x3 bt493.1 ((bt489.1.length : Int) != (x3.length : Int))) else (ephemerislaw23_ClusterCalm.j1 k x3 bt493.1 true)) else (ephemerislaw23_ClusterCalm.j1 k x3 bt493.1 true))))
def ephemerislaw23_ClusterCalm.j1 : Nat → List (S27) → List (S27) → Bool → Option (Bool)
 | 0, _, _, _ => none
 | k + 1, x3, x10, x62 => if x62 = true then (some false) else (if (x10.length : Int) > 3 then (ephemerislaw23_ClusterCalm.l1 k x3 x10 (x10.length : Int) 0) else ((ephemerislaw23_awake.f k).bind fun t499 => (if t499 = true then (some (decide ((x10.length : Int) ≥ (mn (x3.length : Int) 3)))) else (some false))))
def ephemerislaw23_ClusterCalm.l1 : Nat → List (S27) → List (S27) → Int → Int → Option (Bool)
 | 0, _, _, _, _ => none
 | k + 1, x3, x10, x67, x68 => if x68 < x67 then ((cluster_Spread.f x10 x68).bind fun t497 => (if t497 = 0 then (ephemerislaw23_ClusterCalm.l1 k x3 x10 x67 (wrap64 (x68 + 1))) else (some false))) else ((ephemerislaw23_awake.f k).bind fun t498 => (if t498 = true then (some (decide ((x10.length : Int) ≥ (mn (x3.length : Int) 3)))) else (some false)))
end
def ephemerislaw23_ClusterCalm.f (k : Nat) (l0 : List (S102)) : Option (Bool) := (ephemerislaw23_field.f k l0).bind fun t476 => (if (t476.length : Int) = 0 then ((ephemerislaw23_awake.f k).bind fun t480 => (some t480)) else ((cluster_Cand_15.f t476).bind fun t481 => ((cluster_Cand_15.f t476).bind fun t484 => (ephemerislaw23_ClusterCalm.l0 k t476 t481 t484 (t476.length : Int) 0 9 0 1099511627776))))
theorem ephemerislaw23_ClusterCalm.mono_l : ∀ k, (∀ y0 y1 y2 y3 y4 y5 y6 y7, LeO (ephemerislaw23_ClusterCalm.l0 k y0 y1 y2 y3 y4 y5 y6 y7) (ephemerislaw23_ClusterCalm.l0 (k + 1) y0 y1 y2 y3 y4 y5 y6 y7)) ∧ (∀ y0 y1 y2, LeO (ephemerislaw23_ClusterCalm.j1 k y0 y1 y2) (ephemerislaw23_ClusterCalm.j1 (k + 1) y0 y1 y2)) ∧ (∀ y0 y1 y2 y3, LeO (ephemerislaw23_ClusterCalm.l1 k y0 y1 y2 y3) (ephemerislaw23_ClusterCalm.l1 (k + 1) y0 y1 y2 y3))
 | 0 => ⟨fun _ _ _ _ _ _ _ _ r h => by simp [ephemerislaw23_ClusterCalm.l0] at h, fun _ _ _ r h => by simp [ephemerislaw23_ClusterCalm.j1] at h, fun _ _ _ _ r h => by simp [ephemerislaw23_ClusterCalm.l1] at h⟩
 | k + 1 => by
  obtain ⟨ih0, ih1, ih2⟩ := ephemerislaw23_ClusterCalm.mono_l k
  refine ⟨?_, ?_, ?_⟩
  ·intro y0 y1 y2 y3 y4 y5 y6 y7
   unfold ephemerislaw23_ClusterCalm.l0
   repeat' first
   | (with_reducible exact ih0 _ _ _ _ _ _ _ _)
   | (with_reducible exact ih1 _ _ _)
   | (with_reducible exact ih2 _ _ _ _)
   | (with_reducible exact ephemerislaw23_awake.mono _)
   | (with_reducible exact ephemerislaw23_field.mono _ _)
   | (with_reducible exact LeO.refl _)
   | (with_reducible exact LeO.none _)
   | (with_reducible refine LeO.ite ?_ ?_)
   | (with_reducible refine LeO.bind ?_ (fun _ => ?_))
   | exact ih0 _ _ _ _ _ _ _ _
   | exact ih1 _ _ _
   | exact ih2 _ _ _ _
   | exact ephemerislaw23_awake.mono _
   | exact ephemerislaw23_field.mono _ _
   | exact LeO.none _
   | refine LeO.ite ?_ ?_
   | refine LeO.bind ?_ (fun _ => ?_)
  ·intro y0 y1 y2
   unfold ephemerislaw23_ClusterCalm.j1
   repeat' first
   | (with_reducible exact ih0 _ _ _ _ _ _ _ _)
   | (with_reducible exact ih1 _ _ _)
   | (with_reducible exact ih2 _ _ _ _)
   | (with_reducible exact ephemerislaw23_awake.mono _)
   | (with_reducible exact ephemerislaw23_field.mono _ _)
   | (with_reducible exact LeO.refl _)
   | (with_reducible exact LeO.none _)
   | (with_reducible refine LeO.ite ?_ ?_)
   | (with_reducible refine LeO.bind ?_ (fun _ => ?_))
   | exact ih0 _ _ _ _ _ _ _ _
   | exact ih1 _ _ _
   | exact ih2 _ _ _ _
   | exact ephemerislaw23_awake.mono _
   | exact ephemerislaw23_field.mono _ _
   | exact LeO.none _
   | refine LeO.ite ?_ ?_
   | refine LeO.bind ?_ (fun _ => ?_)
  ·intro y0 y1 y2 y3
   unfold ephemerislaw23_ClusterCalm.l1
   repeat' first
   | (with_reducible exact ih0 _ _ _ _ _ _ _ _)
   | (with_reducible exact ih1 _ _ _)
   | (with_reducible exact ih2 _ _ _ _)
   | (with_reducible exact ephemerislaw23_awake.mono _)
   | (with_reducible exact ephemerislaw23_field.mono _ _)
   | (with_reducible exact LeO.refl _)
   | (with_reducible exact LeO.none _)
   | (with_reducible refine LeO.ite ?_ ?_)
   | (with_reducible refine LeO.bind ?_ (fun _ => ?_))
   | exact ih0 _ _ _ _ _ _ _ _
   | exact ih1 _ _ _
   | exact ih2 _ _ _ _
   | exact ephemerislaw23_awake.mono _
   | exact ephemerislaw23_field.mono _ _
   | exact LeO.none _
   | refine LeO.ite ?_ ?_
   | refine LeO.bind ?_ (fun _ => ?_)
theorem ephemerislaw23_ClusterCalm.mono : ∀ a0 k, LeO (ephemerislaw23_ClusterCalm.f k a0) (ephemerislaw23_ClusterCalm.f (k + 1) a0) := by
 intro a0 k
 obtain ⟨ih0, ih1, ih2⟩ := ephemerislaw23_ClusterCalm.mono_l k
 unfold ephemerislaw23_ClusterCalm.f
 repeat' first
   | (with_reducible exact ih0 _ _ _ _ _ _ _ _)
   | (with_reducible exact ih1 _ _ _)
   | (with_reducible exact ih2 _ _ _ _)
   | (with_reducible exact ephemerislaw23_awake.mono _)
   | (with_reducible exact ephemerislaw23_field.mono _ _)
   | (with_reducible exact LeO.refl _)
   | (with_reducible exact LeO.none _)
   | (with_reducible refine LeO.ite ?_ ?_)
   | (with_reducible refine LeO.bind ?_ (fun _ => ?_))
   | exact ih0 _ _ _ _ _ _ _ _
   | exact ih1 _ _ _
   | exact ih2 _ _ _ _
   | exact ephemerislaw23_awake.mono _
   | exact ephemerislaw23_field.mono _ _
   | exact LeO.none _
   | refine LeO.ite ?_ ?_
   | refine LeO.bind ?_ (fun _ => ?_)
set_option maxHeartbeats 8000000 in
set_option maxRecDepth 100000 in
theorem ephemerislaw23_ClusterCalm.calls (k : Nat) (A0 : Option Addr) (c0 : Nat) (l0 : List (S102)) (r : Bool) (w : World) (hr0 : Kd.C k102 w A0 l0.length l0) (hc0 : l0.length ≤ c0) (h : ephemerislaw23_ClusterCalm.f k l0 = some r) :
  Calls Try.prog 6 #[.slice A0 l0.length c0] w fun e w' => e = .returned (.bool r) ∧ Below w.heap.size w w' := by
 have hu24 := Try.underlying24
 have HR0 := Aside0.mk hr0
 have HC0 := Aside0.mk hc0
 clear hr0 hc0
 have HB := Aside0.mk (Below.refl w.heap.size w)
 have H : ((ephemerislaw23_field.f k l0).bind fun t476 => (if (t476.length : Int) = 0 then ((ephemerislaw23_awake.f k).bind fun t480 => (some t480)) else ((cluster_Cand_15.f t476).bind fun t481 => ((cluster_Cand_15.f t476).bind fun t484 => (ephemerislaw23_ClusterCalm.l0 k t476 t481 t484 (t476.length : Int) 0 9 0 1099511627776))))) = some r := h
 clear h
 replace H := Option.bind_eq_some_iff.mp H
 obtain ⟨t476, A20, H⟩ := H
 replace H : (if (t476.length : Int) = 0 then ((ephemerislaw23_awake.f k).bind fun t480 => (some t480)) else ((cluster_Cand_15.f t476).bind fun t481 => ((cluster_Cand_15.f t476).bind fun t484 => (ephemerislaw23_ClusterCalm.l0 k t476 t481 t484 (t476.length : Int) 0 9 0 1099511627776)))) = some r := H
 have A2 := Aside0.mk A20
 clear A20
 by_cases c3 : (t476.length : Int) = 0
 ·rw [if_pos c3] at H
  have c3b0 : ((t476.length : Int) == 0) = true := beq_iff_eq.mpr c3
  have c3b1 : ((t476.length : Int) != 0) = false := bne_eq_false_iff_eq.mpr c3
  clear c3
  replace H := Option.bind_eq_some_iff.mp H
  obtain ⟨t480, A40, H⟩ := H
  replace H : (some t480) = some r := H
  have A4 := Aside0.mk A40
  clear A40
  obtain rfl := Option.some.inj H
  go_enter Try.func6, Try.ntmps6
  go_wp2_with (first | ((with_reducible refine gate_callee (f := 28) rfl ?_); refine goesL_ (some 14) rfl rfl Try.func28 (by kernel_rfl) rfl #[.slice A0 l0.length c0] rfl (by (try simp only [List.map_toArray, List.map_cons, List.map_nil]); first | done | rfl | (simp only [List.length_drop, List.length_take]; rfl)) ?_; (with_reducible refine (ephemerislaw23_field.calls k _ _ l0 t476 _ ?side1 ?side2 A2.out).mono ?_); (case side1 => repeat (first | exact HR0.out | (with_reducible refine Kd.C_alloc ?_ _) | (with_reducible refine Kd.C_drewN ?_ _) | (with_reducible refine Kd.C_drew ?_))); (case side2 => exact HC0.out); rintro e w5 ⟨v477, rfl, ho0, hb⟩; refine ⟨_, rfl, ?_⟩; have n0_ := Aside0.mk (Kd.R_lower ho0 (below_size (by repeat (first | (with_reducible first | exact HB.out | apply below_alloc | apply pw_below_drewN | apply below_drew1) | exact HB.out)))); have n1_ := Aside0.mk (below_step (by repeat (first | (with_reducible first | exact HB.out | apply below_alloc | apply pw_below_drewN | apply below_drew1) | exact HB.out)) hb); clear HB; have HO478 := n0_; have HB := n1_; clear n0_ n1_; (try clear hb); (try clear hb2); (try clear hk); (try clear hi); (try clear ho0)) | ((with_reducible refine gate_dst (N := 4) rfl ?_); (try (refine gate_guard (by rfl) ?_; dsimp only)); refine box_event ?hg (N := 4) ?hd (cs := #[.int .i64 0, .int .i64 0, .int .i64 0]) (t := 24) ?hr ?_; (case hd => rfl); (case hg => rfl); (case hr => first | (go_simp; done) | (go_simp; rfl)); intro gb479 hg w6 hbox hb; have n0_ := Aside0.mk (Kd.R_below (by (with_reducible repeat (first | apply Kd.R_alloc | apply Kd.R_drewN | apply Kd.R_drew)); exact HO478.out) hb); have n1_ := Aside0.mk (below_step (by repeat (first | (with_reducible first | exact HB.out | apply below_alloc | apply pw_below_drewN | apply below_drew1) | exact HB.out)) hb); have n2_ := Aside0.mk (hbox); have n3_ := Aside0.mk ((by rw [hg]; exact (below_size (by repeat (first | (with_reducible first | exact HB.out | apply below_alloc | apply pw_below_drewN | apply below_drew1) | exact HB.out))) : w.heap.size ≤ gb479)); have n4_ := Aside0.mk ((by rw [hg]; exact (below_size (by repeat (first | (with_reducible first | exact HB.out | apply below_alloc | apply pw_below_drewN | apply below_drew1) | exact HB.out))) : w.heap.size ≤ gb479)); clear HO478; clear HB; have HO478 := n0_; have HB := n1_; have BK479 := n2_; have GW479 := n3_; have GE479 := n4_; clear n0_ n1_ n2_ n3_ n4_; clear hb hbox hg; have hcz7_0 : w6.cell? ⟨gb479, 0, none⟩ = some (.int .i64 0) := (blk_cell BK479.out 0).trans rfl; have hcz7_1 : w6.cell? ⟨gb479, 1, none⟩ = some (.int .i64 0) := (blk_cell BK479.out 1).trans rfl; have hcz7_2 : w6.cell? ⟨gb479, 2, none⟩ = some (.int .i64 0) := (blk_cell BK479.out 2).trans rfl; have hfz7_0 := blk_frozen BK479.out 0; have hfz7_1 := blk_frozen BK479.out 1; have hfz7_2 := blk_frozen BK479.out 2; obtain ⟨Ao8, co8, eo8⟩ := Kd.R_slice HO478.out; subst eo8) | ((with_reducible refine gate_callee (f := 26) rfl ?_); refine goesL_ (some 19) rfl rfl Try.func26 (by kernel_rfl) rfl #[] rfl (by (try simp only [List.map_toArray, List.map_cons, List.map_nil]); first | done | rfl | (simp only [List.length_drop, List.length_take]; rfl)) ?_; (with_reducible refine (ephemerislaw23_awake.calls k  t480 _ A4.out).mono ?_); rintro e w9 ⟨rfl, hb⟩; refine ⟨_, rfl, ?_⟩; have n0_ := Aside0.mk (Kd.R_below (by (with_reducible repeat (first | apply Kd.R_alloc | apply Kd.R_drewN | apply Kd.R_drew)); exact (Kd.R_mono (Kd.R_far (p := ⟨gb479, 2, none⟩) (Kd.R_far (p := ⟨gb479, 1, none⟩) (Kd.R_far (p := ⟨gb479, 0, none⟩) (Kd.R_types HO478.out BK479.out (by decide)) (fun _ hk => hk.2) (.int .i64 9)) (fun _ hk => hk.2) (.int .i64 0)) (fun _ hk => hk.2) (.int .i64 1099511627776)) (fun _ h_ => h_.1))) hb); have n1_ := Aside0.mk (blk_below (g := gb479) (o := .cells #[.int .i64 9, .int .i64 0, .int .i64 1099511627776] 24 (0, 0)) (by (with_reducible repeat (first | refine blk_drewN ?_ _ | refine blk_drew ?_ | refine blk_alloc ?_ _)); refine blk_put (cs := #[.int .i64 9, .int .i64 0, .int .i64 0]) ?_ 2 _ rfl; (with_reducible repeat (first | refine blk_drewN ?_ _ | refine blk_drew ?_ | refine blk_alloc ?_ _)); refine blk_put (cs := #[.int .i64 9, .int .i64 0, .int .i64 0]) ?_ 1 _ rfl; (with_reducible repeat (first | refine blk_drewN ?_ _ | refine blk_drew ?_ | refine blk_alloc ?_ _)); refine blk_put (cs := #[.int .i64 0, .int .i64 0, .int .i64 0]) ?_ 0 _ rfl; (with_reducible repeat (first | refine blk_drewN ?_ _ | refine blk_drew ?_ | refine blk_alloc ?_ _)); exact BK479.out) hb); have n2_ := Aside0.mk (below_step (by repeat (first | (with_reducible first | exact HB.out | apply below_alloc | apply pw_below_drewN | apply below_drew1 | refine below_set ?_ GE479.out) | exact HB.out)) hb); clear HO478; clear BK479; clear HB; have HO478 := n0_; have BK479 := n1_; have HB := n2_; clear n0_ n1_ n2_; (try clear hb); (try clear hb2); (try clear hk); (try clear hi)))
  go_ret
  exact ⟨by first | rfl | (simp [errW_none, errW_some] <;> rfl) | (simp [*, errW_none, errW_some] <;> rfl), by repeat (first | (with_reducible first | exact HB.out | apply below_alloc | apply pw_below_drewN | apply below_drew1 | refine below_set ?_ GE479.out) | exact HB.out)⟩
 ·rw [if_neg c3] at H
  have c3b0 : ((t476.length : Int) == 0) = false := beq_eq_false_iff_ne.mpr c3
  have c3b1 : ((t476.length : Int) != 0) = true := bne_iff_ne.mpr c3
  have c3b2 : ¬ (t476 = []) := fun h_ => c3 (by rw [h_]; rfl)
  replace H := Option.bind_eq_some_iff.mp H
  obtain ⟨t481, A100, H⟩ := H
  replace H : ((cluster_Cand_15.f t476).bind fun t484 => (ephemerislaw23_ClusterCalm.l0 k t476 t481 t484 (t476.length : Int) 0 9 0 1099511627776)) = some r := H
  have A10 := Aside0.mk A100
  clear A100
  replace H := Option.bind_eq_some_iff.mp H
  obtain ⟨t484, A110, H⟩ := H
  replace H : (ephemerislaw23_ClusterCalm.l0 k t476 t481 t484 (t476.length : Int) 0 9 0 1099511627776) = some r := H
  have A11 := Aside0.mk A110
  clear A110
  have H' := Aside0.mk H
  clear H
  go_enter Try.func6, Try.ntmps6
  go_wp2_with (first | ((with_reducible refine gate_callee (f := 28) rfl ?_); refine goesL_ (some 14) rfl rfl Try.func28 (by kernel_rfl) rfl #[.slice A0 l0.length c0] rfl (by (try simp only [List.map_toArray, List.map_cons, List.map_nil]); first | done | rfl | (simp only [List.length_drop, List.length_take]; rfl)) ?_; (with_reducible refine (ephemerislaw23_field.calls k _ _ l0 t476 _ ?side1 ?side2 A2.out).mono ?_); (case side1 => repeat (first | exact HR0.out | (with_reducible refine Kd.C_alloc ?_ _) | (with_reducible refine Kd.C_drewN ?_ _) | (with_reducible refine Kd.C_drew ?_))); (case side2 => exact HC0.out); rintro e w12 ⟨v477, rfl, ho0, hb⟩; refine ⟨_, rfl, ?_⟩; have n0_ := Aside0.mk (Kd.R_lower ho0 (below_size (by repeat (first | (with_reducible first | exact HB.out | apply below_alloc | apply pw_below_drewN | apply below_drew1) | exact HB.out)))); have n1_ := Aside0.mk (below_step (by repeat (first | (with_reducible first | exact HB.out | apply below_alloc | apply pw_below_drewN | apply below_drew1) | exact HB.out)) hb); clear HB; have HO478 := n0_; have HB := n1_; clear n0_ n1_; (try clear hb); (try clear hb2); (try clear hk); (try clear hi); (try clear ho0)) | ((with_reducible refine gate_dst (N := 4) rfl ?_); (try (refine gate_guard (by rfl) ?_; dsimp only)); refine box_event ?hg (N := 4) ?hd (cs := #[.int .i64 0, .int .i64 0, .int .i64 0]) (t := 24) ?hr ?_; (case hd => rfl); (case hg => rfl); (case hr => first | (go_simp; done) | (go_simp; rfl)); intro gb479 hg w13 hbox hb; have n0_ := Aside0.mk (Kd.R_below (by (with_reducible repeat (first | apply Kd.R_alloc | apply Kd.R_drewN | apply Kd.R_drew)); exact HO478.out) hb); have n1_ := Aside0.mk (below_step (by repeat (first | (with_reducible first | exact HB.out | apply below_alloc | apply pw_below_drewN | apply below_drew1) | exact HB.out)) hb); have n2_ := Aside0.mk (hbox); have n3_ := Aside0.mk ((by rw [hg]; exact (below_size (by repeat (first | (with_reducible first | exact HB.out | apply below_alloc | apply pw_below_drewN | apply below_drew1) | exact HB.out))) : w.heap.size ≤ gb479)); have n4_ := Aside0.mk ((by rw [hg]; exact (below_size (by repeat (first | (with_reducible first | exact HB.out | apply below_alloc | apply pw_below_drewN | apply below_drew1) | exact HB.out))) : w.heap.size ≤ gb479)); clear HO478; clear HB; have HO478 := n0_; have HB := n1_; have BK479 := n2_; have GW479 := n3_; have GE479 := n4_; clear n0_ n1_ n2_ n3_ n4_; clear hb hbox hg; have hcz14_0 : w13.cell? ⟨gb479, 0, none⟩ = some (.int .i64 0) := (blk_cell BK479.out 0).trans rfl; have hcz14_1 : w13.cell? ⟨gb479, 1, none⟩ = some (.int .i64 0) := (blk_cell BK479.out 1).trans rfl; have hcz14_2 : w13.cell? ⟨gb479, 2, none⟩ = some (.int .i64 0) := (blk_cell BK479.out 2).trans rfl; have hfz14_0 := blk_frozen BK479.out 0; have hfz14_1 := blk_frozen BK479.out 1; have hfz14_2 := blk_frozen BK479.out 2; obtain ⟨Ao15, co15, eo15⟩ := Kd.R_slice HO478.out; subst eo15) | ((with_reducible refine gate_callee (f := 15) rfl ?_); refine goesL_ (some 21) rfl rfl Try.func15 (by kernel_rfl) rfl #[.slice Ao15 t476.length co15] rfl (by (try simp only [List.map_toArray, List.map_cons, List.map_nil]); first | done | rfl | (simp only [List.length_drop, List.length_take]; rfl)) ?_; (with_reducible refine (cluster_Cand_15.calls _ _ t476 t481 _ ?side1 ?side2 A10.out).mono ?_); (case side1 => refine (Kd.R_reads' (e := 27) (base := w.heap.size) (ok := fun k_ => True) (n := t476.length) (c := co15) ?_).2.2; exact (by (with_reducible repeat (first | apply Kd.R_alloc | apply Kd.R_drewN | apply Kd.R_drew)); exact (Kd.R_mono (Kd.R_far (p := ⟨gb479, 2, none⟩) (Kd.R_far (p := ⟨gb479, 1, none⟩) (Kd.R_far (p := ⟨gb479, 0, none⟩) (Kd.R_types HO478.out BK479.out (by decide)) (fun _ hk => hk.2) (.int .i64 9)) (fun _ hk => hk.2) (.int .i64 0)) (fun _ hk => hk.2) (.int .i64 1099511627776)) (fun _ h_ => h_.1)))); (case side2 => exact (Kd.R_reads' HO478.out).2.1); rintro e w16 ⟨v482, rfl, ho0, hb⟩; refine ⟨_, rfl, ?_⟩; have n0_ := Aside0.mk (Kd.R_elder' (by (with_reducible repeat (first | apply Kd.R_alloc | apply Kd.R_drewN | apply Kd.R_drew)); exact (Kd.R_mono (Kd.R_far (p := ⟨gb479, 2, none⟩) (Kd.R_far (p := ⟨gb479, 1, none⟩) (Kd.R_far (p := ⟨gb479, 0, none⟩) (Kd.R_types HO478.out BK479.out (by decide)) (fun _ hk => hk.2) (.int .i64 9)) (fun _ hk => hk.2) (.int .i64 0)) (fun _ hk => hk.2) (.int .i64 1099511627776)) (fun _ h_ => h_.1))) (Kd.R_base ho0) hb); have n1_ := Aside0.mk (Kd.R_lower (Kd.R_new' ho0 (Kd.R_lt (by (with_reducible repeat (first | apply Kd.R_alloc | apply Kd.R_drewN | apply Kd.R_drew)); exact (Kd.R_mono (Kd.R_far (p := ⟨gb479, 2, none⟩) (Kd.R_far (p := ⟨gb479, 1, none⟩) (Kd.R_far (p := ⟨gb479, 0, none⟩) (Kd.R_types HO478.out BK479.out (by decide)) (fun _ hk => hk.2) (.int .i64 9)) (fun _ hk => hk.2) (.int .i64 0)) (fun _ hk => hk.2) (.int .i64 1099511627776)) (fun _ h_ => h_.1))))) (below_size (by repeat (first | (with_reducible first | exact HB.out | apply below_alloc | apply pw_below_drewN | apply below_drew1 | refine below_set ?_ GE479.out) | exact HB.out)))); have n2_ := Aside0.mk (blk_below (g := gb479) (o := .cells #[.int .i64 9, .int .i64 0, .int .i64 1099511627776] 24 (0, 0)) (by (with_reducible repeat (first | refine blk_drewN ?_ _ | refine blk_drew ?_ | refine blk_alloc ?_ _)); refine blk_put (cs := #[.int .i64 9, .int .i64 0, .int .i64 0]) ?_ 2 _ rfl; (with_reducible repeat (first | refine blk_drewN ?_ _ | refine blk_drew ?_ | refine blk_alloc ?_ _)); refine blk_put (cs := #[.int .i64 9, .int .i64 0, .int .i64 0]) ?_ 1 _ rfl; (with_reducible repeat (first | refine blk_drewN ?_ _ | refine blk_drew ?_ | refine blk_alloc ?_ _)); refine blk_put (cs := #[.int .i64 0, .int .i64 0, .int .i64 0]) ?_ 0 _ rfl; (with_reducible repeat (first | refine blk_drewN ?_ _ | refine blk_drew ?_ | refine blk_alloc ?_ _)); exact BK479.out) hb); have n3_ := Aside0.mk (below_step (by repeat (first | (with_reducible first | exact HB.out | apply below_alloc | apply pw_below_drewN | apply below_drew1 | refine below_set ?_ GE479.out) | exact HB.out)) hb); clear HO478; clear BK479; clear HB; have HO478 := n0_; have HO483 := n1_; have BK479 := n2_; have HB := n3_; clear n0_ n1_ n2_ n3_; (try clear hb); (try clear hb2); (try clear hk); (try clear hi); (try clear ho0)) | ((with_reducible refine gate_callee (f := 15) rfl ?_); refine goesL_ (some 23) rfl rfl Try.func15 (by kernel_rfl) rfl #[.slice Ao15 t476.length co15] rfl (by (try simp only [List.map_toArray, List.map_cons, List.map_nil]); first | done | rfl | (simp only [List.length_drop, List.length_take]; rfl)) ?_; (with_reducible refine (cluster_Cand_15.calls _ _ t476 t484 _ ?side1 ?side2 A11.out).mono ?_); (case side1 => repeat (first | exact (Kd.R_reads' HO478.out).2.2 | (with_reducible refine Kd.C_alloc ?_ _) | (with_reducible refine Kd.C_drewN ?_ _) | (with_reducible refine Kd.C_drew ?_))); (case side2 => exact (Kd.R_reads' HO478.out).2.1); rintro e w17 ⟨v485, rfl, ho0, hb⟩; refine ⟨_, rfl, ?_⟩; have n0_ := Aside0.mk (Kd.R_elder' (by (with_reducible repeat (first | apply Kd.R_alloc | apply Kd.R_drewN | apply Kd.R_drew)); exact HO478.out) (Kd.R_base ho0) hb); have n1_ := Aside0.mk (Kd.R_elder' (by (with_reducible repeat (first | apply Kd.R_alloc | apply Kd.R_drewN | apply Kd.R_drew)); exact HO483.out) (Kd.R_base ho0) hb); have n2_ := Aside0.mk (Kd.R_lower (Kd.R_new' (Kd.R_new' ho0 (Kd.R_lt (by (with_reducible repeat (first | apply Kd.R_alloc | apply Kd.R_drewN | apply Kd.R_drew)); exact HO478.out))) (Kd.R_lt (by (with_reducible repeat (first | apply Kd.R_alloc | apply Kd.R_drewN | apply Kd.R_drew)); exact HO483.out))) (below_size (by repeat (first | (with_reducible first | exact HB.out | apply below_alloc | apply pw_below_drewN | apply below_drew1 | refine below_set ?_ GE479.out) | exact HB.out)))); have n3_ := Aside0.mk (blk_below (g := gb479) (o := .cells #[.int .i64 9, .int .i64 0, .int .i64 1099511627776] 24 (0, 0)) (by (with_reducible repeat (first | refine blk_drewN ?_ _ | refine blk_drew ?_ | refine blk_alloc ?_ _)); exact BK479.out) hb); have n4_ := Aside0.mk (below_step (by repeat (first | (with_reducible first | exact HB.out | apply below_alloc | apply pw_below_drewN | apply below_drew1 | refine below_set ?_ GE479.out) | exact HB.out)) hb); clear HO478; clear HO483; clear BK479; clear HB; have HO478 := n0_; have HO483 := n1_; have HO486 := n2_; have BK479 := n3_; have HB := n4_; clear n0_ n1_ n2_ n3_ n4_; (try clear hb); (try clear hb2); (try clear hk); (try clear hi); (try clear ho0)))
  go_loopg [26] k (fun kq v26 w' => ∃ (x5_1 : List (S27)) (x6_1 : List (S27)) (x26_1 : Int), v26 = .int .i64 x26_1 ∧ Aside0 (ephemerislaw23_ClusterCalm.l0 kq t476 x5_1 x6_1 (t476.length : Int) x26_1 9 0 1099511627776 = some r) ∧ Aside0 (kq ≤ k) ∧ Aside0 (Kd.R k27 27 w' w.heap.size (fun k_ => some k_ ≠ (v482 : Value).ownBlock ∧ some k_ ≠ (v485 : Value).ownBlock) (.slice Ao15 t476.length co15) t476) ∧ Aside0 (Kd.R k27 27 w' w.heap.size (fun k_ => some k_ ≠ ((.slice Ao15 t476.length co15) : Value).ownBlock ∧ some k_ ≠ (v485 : Value).ownBlock) v482 x5_1) ∧ Aside0 (Kd.R k27 27 w' w.heap.size (fun k_ => some k_ ≠ ((.slice Ao15 t476.length co15) : Value).ownBlock ∧ some k_ ≠ (v482 : Value).ownBlock) v485 x6_1) ∧ Aside0 (w'.heap[gb479]? = some (.cells #[.int .i64 9, .int .i64 0, .int .i64 1099511627776] 24 (0, 0))) ∧ Aside0 (Below w.heap.size w w'))
  case atStart => exact ⟨(t481), (t484), (0), (by first | rfl | (simp; done) | (simp [*]; done)), H', ⟨Nat.le_refl _⟩, ⟨by (with_reducible repeat (first | apply Kd.R_alloc | apply Kd.R_drewN | apply Kd.R_drew)); exact Kd.R_mono HO478.out (fun _ hk => ⟨hk.1.2, hk.2⟩)⟩, ⟨by (with_reducible repeat (first | apply Kd.R_alloc | apply Kd.R_drewN | apply Kd.R_drew)); exact Kd.R_mono HO483.out (fun _ hk => ⟨hk.1.2, hk.2⟩)⟩, ⟨by (with_reducible repeat (first | apply Kd.R_alloc | apply Kd.R_drewN | apply Kd.R_drew)); exact Kd.R_mono HO486.out (fun _ hk => ⟨hk.1.2, hk.2⟩)⟩, ⟨by (with_reducible repeat (first | refine blk_drewN ?_ _ | refine blk_drew ?_ | refine blk_alloc ?_ _)); exact BK479.out⟩, ⟨by repeat (first | (with_reducible first | exact HB.out | apply below_alloc | apply pw_below_drewN | apply below_drew1 | refine below_set ?_ GE479.out) | exact HB.out)⟩⟩
  case round =>
   clear H'
   try clear c1
   try clear c2
   try clear p2
   try clear c3
   try clear c3b0
   try clear c3b1
   try clear c3b2
   try clear c6
   try clear c15
   try clear hcz14_0
   try clear hcz14_1
   try clear hcz14_2
   try clear hcz7_0
   try clear hcz7_1
   try clear hcz7_2
   try clear hfz14_0
   try clear hfz14_1
   try clear hfz14_2
   try clear hfz7_0
   try clear hfz7_1
   try clear hfz7_2
   obtain ⟨x5_1, x6_1, x26_1, rfl, HA, HK1, HO_3, HO_5, HO_6, BK479, HB⟩ := hrel
   cases gk with
   | zero => exact absurd HA.out (by simp [ephemerislaw23_ClusterCalm.l0])
   | succ k1 =>
    have H := HA.out
    clear HA
    simp only [ephemerislaw23_ClusterCalm.l0] at H
    by_cases c18 : x26_1 < (t476.length : Int)
    ·rw [if_pos c18] at H
     have c18b0 : decide (x26_1 < (t476.length : Int)) = true := decide_eq_true c18
     clear c18
     by_cases c19 : 0 ≤ x26_1
     ·rw [if_pos c19] at H
      have c19b0 : decide (0 ≤ x26_1) = true := decide_eq_true c19
      clear c19
      by_cases c20 : x26_1 < (x5_1.length : Int)
      ·rw [if_pos c20] at H
       have c20b0 : decide (x26_1 < (x5_1.length : Int)) = true := decide_eq_true c20
       clear c20
       obtain ⟨y487, hy487⟩ : ∃ y_ : List (S27), y_ = (x5_1.set (x26_1 : Int).toNat (⟨(rd_T27 x5_1 x26_1).f0, (⟨(rd_T27 x5_1 x26_1).f1.f0, (rd_T27 x5_1 x26_1).f1.f1, (rd_T27 x5_1 x26_1).f1.f2⟩ : S24), 1099511627776⟩ : S27)) := ⟨_, rfl⟩
       replace H : (if x26_1 < (x6_1.length : Int) then (ephemerislaw23_ClusterCalm.l0 k1 t476 y487 (x6_1.set (x26_1 : Int).toNat (⟨(rd_T27 x6_1 x26_1).f0, (⟨(rd_T27 x6_1 x26_1).f1.f0, (rd_T27 x6_1 x26_1).f1.f1, (rd_T27 x6_1 x26_1).f1.f2⟩ : S24), 0⟩ : S27)) (t476.length : Int) (wrap64 (x26_1 + 1)) 9 0 1099511627776) else (none)) = some r := by first | (rw [hy487]; with_reducible exact H) | (have H2_ := (Option.bind_some _ _).symm.trans H; rw [hy487]; with_reducible exact H2_) | (have H2_ := (Option.bind_some _ _).symm.trans H; with_reducible exact H2_) | with_reducible exact H | (rw [hy487]; exact H) | exact H
       have Ny487 := Aside0.mk hy487
       clear hy487
       by_cases c22 : x26_1 < (x6_1.length : Int)
       ·rw [if_pos c22] at H
        have c22b0 : decide (x26_1 < (x6_1.length : Int)) = true := decide_eq_true c22
        clear c22
        obtain ⟨y488, hy488⟩ : ∃ y_ : List (S27), y_ = (x6_1.set (x26_1 : Int).toNat (⟨(rd_T27 x6_1 x26_1).f0, (⟨(rd_T27 x6_1 x26_1).f1.f0, (rd_T27 x6_1 x26_1).f1.f1, (rd_T27 x6_1 x26_1).f1.f2⟩ : S24), 0⟩ : S27)) := ⟨_, rfl⟩
        replace H : (ephemerislaw23_ClusterCalm.l0 k1 t476 y487 y488 (t476.length : Int) (wrap64 (x26_1 + 1)) 9 0 1099511627776) = some r := by first | (rw [hy488]; with_reducible exact H) | (have H2_ := (Option.bind_some _ _).symm.trans H; rw [hy488]; with_reducible exact H2_) | (have H2_ := (Option.bind_some _ _).symm.trans H; with_reducible exact H2_) | with_reducible exact H | (rw [hy488]; exact H) | exact H
        have Ny488 := Aside0.mk hy488
        clear hy488
        have H' := Aside0.mk H
        clear H
        have p21 : 0 ≤ (x26_1 : Int) := of_decide_eq_true (by first | (with_reducible assumption) | assumption)
        have q21 : (x26_1 : Int) < ((x5_1.length : Int) : Int) := of_decide_eq_true (by first | (with_reducible assumption) | assumption)
        obtain ⟨go21, co21, eo21, gb21, gl21, cl21, HG21⟩ := Kd.R_form HO_5.out (by omega)
        (first | cases eo21 | (injection eo21 with ea_ en_ ec_; (first | subst ea_ | (injection ea_ with ea_; subst ea_)); subst ec_; clear en_))
        have GB21 := Aside0.mk gb21
        have GG21 := Aside0.mk HG21
        clear gb21 gl21 HG21
        obtain ⟨ce21, hcl21, hM21, hcc21, hfr21⟩ := Kd.R_elem HO_5.out z27 (x26_1 : Int) p21 q21
        obtain rfl := k27_openM hM21
        have hx21_0 : wr.cell? ⟨go21, (x26_1 : Int).toNat * 5, none⟩ = some (.int .i64 ((rd_T27 x5_1 x26_1).f0)) := hcc21 0 _ rfl
        have hx21_1 : wr.cell? ⟨go21, (x26_1 : Int).toNat * 5 + 1, none⟩ = some (.int .i64 ((rd_T27 x5_1 x26_1).f1.f0)) := hcc21 1 _ rfl
        have hx21_2 : wr.cell? ⟨go21, (x26_1 : Int).toNat * 5 + 2, none⟩ = some (.int .i64 ((rd_T27 x5_1 x26_1).f1.f1)) := hcc21 2 _ rfl
        have hx21_3 : wr.cell? ⟨go21, (x26_1 : Int).toNat * 5 + 3, none⟩ = some (.int .i64 ((rd_T27 x5_1 x26_1).f1.f2)) := hcc21 3 _ rfl
        have hx21_4 : wr.cell? ⟨go21, (x26_1 : Int).toNat * 5 + 4, none⟩ = some (.int .i64 ((rd_T27 x5_1 x26_1).f2)) := hcc21 4 _ rfl
        have hf21_0 : wr.frozen? ⟨go21, (x26_1 : Int).toNat * 5, none⟩ = false := hfr21 0
        have hf21_1 : wr.frozen? ⟨go21, (x26_1 : Int).toNat * 5 + 1, none⟩ = false := hfr21 1
        have hf21_2 : wr.frozen? ⟨go21, (x26_1 : Int).toNat * 5 + 2, none⟩ = false := hfr21 2
        have hf21_3 : wr.frozen? ⟨go21, (x26_1 : Int).toNat * 5 + 3, none⟩ = false := hfr21 3
        have hf21_4 : wr.frozen? ⟨go21, (x26_1 : Int).toNat * 5 + 4, none⟩ = false := hfr21 4
        clear hcl21 hcc21 hfr21 hM21
        replace p21 := eq_true p21
        replace q21 := eq_true q21
        have HX24 := Aside0.mk (show Kd.R k27 27 wr w.heap.size (fun k_ => some k_ ≠ (.slice Ao15 t476.length co15 : Value).ownBlock ∧ some k_ ≠ (v485 : Value).ownBlock) (.slice (some ⟨go21, 0, none⟩) x5_1.length co21) x5_1 from (by (with_reducible repeat (first | apply Kd.R_alloc | apply Kd.R_drewN | apply Kd.R_drew)); exact HO_5.out))
        obtain ⟨ce24, hcl24, hM24, hcc24, hfr24⟩ := Kd.R_elem HX24.out z27 (x26_1 : Int) (of_decide_eq_true (by first | (with_reducible assumption) | assumption)) (by have h_ : (x26_1 : Int) < ((x5_1.length : Int) : Int) := of_decide_eq_true (by first | (with_reducible assumption) | assumption); first | exact h_ | (have e_ := (Kd.R_reads' HO_5.out).1; omega) | simpa using h_)
        obtain rfl := k27_openM hM24
        have HP24 := Kd.R_seg HX24.out (x26_1 : Int) (of_decide_eq_true (by first | (with_reducible assumption) | assumption)) (by have h_ : (x26_1 : Int) < ((x5_1.length : Int) : Int) := of_decide_eq_true (by first | (with_reducible assumption) | assumption); first | exact h_ | (have e_ := (Kd.R_reads' HO_5.out).1; omega) | simpa using h_) (seg := [.int .i64 1099511627776]) (j := 4) hcl24 hcc24 (show 5 ≤ 5 from by decide) (x' := (⟨(rd_T27 x5_1 x26_1).f0, (⟨(rd_T27 x5_1 x26_1).f1.f0, (rd_T27 x5_1 x26_1).f1.f1, (rd_T27 x5_1 x26_1).f1.f2⟩ : S24), 1099511627776⟩ : S27)) (k27_mkM _ _ _ (⟨(rd_T27 x5_1 x26_1).f0, (⟨(rd_T27 x5_1 x26_1).f1.f0, (rd_T27 x5_1 x26_1).f1.f1, (rd_T27 x5_1 x26_1).f1.f2⟩ : S24), 1099511627776⟩ : S27) ) (fun _ hk => hk)
        have hx24_4 := hcc24 4 _ rfl
        (try simp only [show (k27).sz = 5 from rfl, Nat.mul_one, Nat.add_zero] at hx24_4)
        have hf24_4 := hfr24 4
        (try simp only [show (k27).sz = 5 from rfl, Nat.mul_one, Nat.add_zero] at hf24_4)
        clear hcl24 hcc24 hfr24 hM24
        go_wp2_with (first | ((with_reducible refine gate_store (t := 2) (p := 34) rfl ?_); refine store_event (t := 2) (p := 34) (v := ?vo_w25) (w1 := (wr.setCell ⟨go21, (x26_1 : Int).toNat * 5 + 4, none⟩ (.int .i64 1099511627776))) ?hg ?ho ?hn ?hr ?_; (case ho => rfl); (case hg => rfl); (case hn => rfl); (case hr => first | (go_simp; done) | (go_simp; rfl)); intro w25 hw; have hg : wr.grownBy w25 (some go21) := (by rw [hw]; exact HP24.2); have hp_ : Kd.R k27 27 w25 w.heap.size (fun k_ => some k_ ≠ (.slice Ao15 t476.length co15 : Value).ownBlock ∧ some k_ ≠ (v485 : Value).ownBlock) (.slice (some ⟨go21, 0, none⟩) x5_1.length co21) y487 := (by rw [hw, Ny487.out]; exact HP24.1); clear HP24; have n0_ := Aside0.mk (Kd.R_after (v := (.slice (some ⟨go21, 0, none⟩) x5_1.length co21)) (v1 := (.slice (some ⟨go21, 0, none⟩) x5_1.length co21)) (ok := (fun k_ => some k_ ≠ (v485 : Value).ownBlock)) (by (with_reducible repeat (first | apply Kd.R_alloc | apply Kd.R_drewN | apply Kd.R_drew)); exact Kd.R_mono HO_3.out (fun _ hk => ⟨hk.2, hk.1⟩)) hg (.inl rfl)); have n1_ := Aside0.mk (hp_); have n2_ := Aside0.mk (Kd.R_after (v := (.slice (some ⟨go21, 0, none⟩) x5_1.length co21)) (v1 := (.slice (some ⟨go21, 0, none⟩) x5_1.length co21)) (ok := (fun k_ => some k_ ≠ (.slice Ao15 t476.length co15 : Value).ownBlock)) (by (with_reducible repeat (first | apply Kd.R_alloc | apply Kd.R_drewN | apply Kd.R_drew)); exact HO_6.out) hg (.inl rfl)); have n3_ := Aside0.mk (blk_grown (g := gb479) (o := .cells #[.int .i64 9, .int .i64 0, .int .i64 1099511627776] 24 (0, 0)) (by (with_reducible repeat (first | refine blk_drewN ?_ _ | refine blk_drew ?_ | refine blk_alloc ?_ _)); exact BK479.out) hg (Kd.R_ne HO_5.out BK479.out (by decide))); have n4_ := Aside0.mk ((by rw [hw]; exact below_set (HB.out) GB21.out : Below w.heap.size w w25)); clear HO_3; clear HO_5; clear HO_6; clear BK479; clear HB; have HO_3 := n0_; have HO_5 := n1_; have HO_6 := n2_; have BK479 := n3_; have HB := n4_; clear n0_ n1_ n2_ n3_ n4_; clear hg hw hp_; have p23 : 0 ≤ (x26_1 : Int) := of_decide_eq_true (by first | (with_reducible assumption) | assumption); have q23 : (x26_1 : Int) < ((x6_1.length : Int) : Int) := of_decide_eq_true (by first | (with_reducible assumption) | assumption); obtain ⟨go23, co23, eo23, gb23, gl23, cl23, HG23⟩ := Kd.R_form HO_6.out (by omega); (first | cases eo23 | (injection eo23 with ea_ en_ ec_; (first | subst ea_ | (injection ea_ with ea_; subst ea_)); subst ec_; clear en_)); have GB23 := Aside0.mk gb23; have GG23 := Aside0.mk HG23; clear gb23 gl23 HG23; obtain ⟨ce23, hcl23, hM23, hcc23, hfr23⟩ := Kd.R_elem HO_6.out z27 (x26_1 : Int) p23 q23; obtain rfl := k27_openM hM23; have hx23_0 : w25.cell? ⟨go23, (x26_1 : Int).toNat * 5, none⟩ = some (.int .i64 ((rd_T27 x6_1 x26_1).f0)) := hcc23 0 _ rfl; have hx23_1 : w25.cell? ⟨go23, (x26_1 : Int).toNat * 5 + 1, none⟩ = some (.int .i64 ((rd_T27 x6_1 x26_1).f1.f0)) := hcc23 1 _ rfl; have hx23_2 : w25.cell? ⟨go23, (x26_1 : Int).toNat * 5 + 2, none⟩ = some (.int .i64 ((rd_T27 x6_1 x26_1).f1.f1)) := hcc23 2 _ rfl; have hx23_3 : w25.cell? ⟨go23, (x26_1 : Int).toNat * 5 + 3, none⟩ = some (.int .i64 ((rd_T27 x6_1 x26_1).f1.f2)) := hcc23 3 _ rfl; have hx23_4 : w25.cell? ⟨go23, (x26_1 : Int).toNat * 5 + 4, none⟩ = some (.int .i64 ((rd_T27 x6_1 x26_1).f2)) := hcc23 4 _ rfl; have hf23_0 : w25.frozen? ⟨go23, (x26_1 : Int).toNat * 5, none⟩ = false := hfr23 0; have hf23_1 : w25.frozen? ⟨go23, (x26_1 : Int).toNat * 5 + 1, none⟩ = false := hfr23 1; have hf23_2 : w25.frozen? ⟨go23, (x26_1 : Int).toNat * 5 + 2, none⟩ = false := hfr23 2; have hf23_3 : w25.frozen? ⟨go23, (x26_1 : Int).toNat * 5 + 3, none⟩ = false := hfr23 3; have hf23_4 : w25.frozen? ⟨go23, (x26_1 : Int).toNat * 5 + 4, none⟩ = false := hfr23 4; clear hcl23 hcc23 hfr23 hM23; replace p23 := eq_true p23; replace q23 := eq_true q23; have HX26 := Aside0.mk (show Kd.R k27 27 w25 w.heap.size (fun k_ => some k_ ≠ (.slice Ao15 t476.length co15 : Value).ownBlock ∧ some k_ ≠ (.slice (some ⟨go21, 0, none⟩) x5_1.length co21 : Value).ownBlock) (.slice (some ⟨go23, 0, none⟩) x6_1.length co23) x6_1 from (by (with_reducible repeat (first | apply Kd.R_alloc | apply Kd.R_drewN | apply Kd.R_drew)); exact HO_6.out)); obtain ⟨ce26, hcl26, hM26, hcc26, hfr26⟩ := Kd.R_elem HX26.out z27 (x26_1 : Int) (of_decide_eq_true (by first | (with_reducible assumption) | assumption)) (by have h_ : (x26_1 : Int) < ((x6_1.length : Int) : Int) := of_decide_eq_true (by first | (with_reducible assumption) | assumption); first | exact h_ | (have e_ := (Kd.R_reads' HO_6.out).1; omega) | simpa using h_); obtain rfl := k27_openM hM26; have HP26 := Kd.R_seg HX26.out (x26_1 : Int) (of_decide_eq_true (by first | (with_reducible assumption) | assumption)) (by have h_ : (x26_1 : Int) < ((x6_1.length : Int) : Int) := of_decide_eq_true (by first | (with_reducible assumption) | assumption); first | exact h_ | (have e_ := (Kd.R_reads' HO_6.out).1; omega) | simpa using h_) (seg := [.int .i64 0]) (j := 4) hcl26 hcc26 (show 5 ≤ 5 from by decide) (x' := (⟨(rd_T27 x6_1 x26_1).f0, (⟨(rd_T27 x6_1 x26_1).f1.f0, (rd_T27 x6_1 x26_1).f1.f1, (rd_T27 x6_1 x26_1).f1.f2⟩ : S24), 0⟩ : S27)) (k27_mkM _ _ _ (⟨(rd_T27 x6_1 x26_1).f0, (⟨(rd_T27 x6_1 x26_1).f1.f0, (rd_T27 x6_1 x26_1).f1.f1, (rd_T27 x6_1 x26_1).f1.f2⟩ : S24), 0⟩ : S27) ) (fun _ hk => hk); have hx26_4 := hcc26 4 _ rfl; (try simp only [show (k27).sz = 5 from rfl, Nat.mul_one, Nat.add_zero] at hx26_4); have hf26_4 := hfr26 4; (try simp only [show (k27).sz = 5 from rfl, Nat.mul_one, Nat.add_zero] at hf26_4); clear hcl26 hcc26 hfr26 hM26) | ((with_reducible refine gate_store (t := 2) (p := 36) rfl ?_); refine store_event (t := 2) (p := 36) (v := ?vo_w27) (w1 := (w25.setCell ⟨go23, (x26_1 : Int).toNat * 5 + 4, none⟩ (.int .i64 0))) ?hg ?ho ?hn ?hr ?_; (case ho => rfl); (case hg => rfl); (case hn => rfl); (case hr => first | (go_simp; done) | (go_simp; rfl)); intro w27 hw; have hg : w25.grownBy w27 (some go23) := (by rw [hw]; exact HP26.2); have hp_ : Kd.R k27 27 w27 w.heap.size (fun k_ => some k_ ≠ (.slice Ao15 t476.length co15 : Value).ownBlock ∧ some k_ ≠ (.slice (some ⟨go21, 0, none⟩) x5_1.length co21 : Value).ownBlock) (.slice (some ⟨go23, 0, none⟩) x6_1.length co23) y488 := (by rw [hw, Ny488.out]; exact HP26.1); clear HP26; have n0_ := Aside0.mk (Kd.R_after (v := (.slice (some ⟨go23, 0, none⟩) x6_1.length co23)) (v1 := (.slice (some ⟨go23, 0, none⟩) x6_1.length co23)) (ok := (fun k_ => some k_ ≠ (.slice (some ⟨go21, 0, none⟩) x5_1.length co21 : Value).ownBlock)) (by (with_reducible repeat (first | apply Kd.R_alloc | apply Kd.R_drewN | apply Kd.R_drew)); exact Kd.R_mono HO_3.out (fun _ hk => ⟨hk.2, hk.1⟩)) hg (.inl rfl)); have n1_ := Aside0.mk (Kd.R_after (v := (.slice (some ⟨go23, 0, none⟩) x6_1.length co23)) (v1 := (.slice (some ⟨go23, 0, none⟩) x6_1.length co23)) (ok := (fun k_ => some k_ ≠ (.slice Ao15 t476.length co15 : Value).ownBlock)) (by (with_reducible repeat (first | apply Kd.R_alloc | apply Kd.R_drewN | apply Kd.R_drew)); exact HO_5.out) hg (.inl rfl)); have n2_ := Aside0.mk (hp_); have n3_ := Aside0.mk (blk_grown (g := gb479) (o := .cells #[.int .i64 9, .int .i64 0, .int .i64 1099511627776] 24 (0, 0)) (by (with_reducible repeat (first | refine blk_drewN ?_ _ | refine blk_drew ?_ | refine blk_alloc ?_ _)); exact BK479.out) hg (Kd.R_ne HO_6.out BK479.out (by decide))); have n4_ := Aside0.mk ((by rw [hw]; exact below_set (HB.out) GB23.out : Below w.heap.size w w27)); clear HO_3; clear HO_5; clear HO_6; clear BK479; clear HB; have HO_3 := n0_; have HO_5 := n1_; have HO_6 := n2_; have BK479 := n3_; have HB := n4_; clear n0_ n1_ n2_ n3_ n4_; clear hg hw hp_))
        go_roundg k1
        case measure => have := HK1.out; omega
        case rel => exact ⟨(y487), (y488), (wrap64 (x26_1 + 1)), (by first | rfl | (simp; done) | (simp [*]; done)), H', ⟨by have := HK1.out; omega⟩, ⟨by (with_reducible repeat (first | apply Kd.R_alloc | apply Kd.R_drewN | apply Kd.R_drew)); exact HO_3.out⟩, ⟨by (with_reducible repeat (first | apply Kd.R_alloc | apply Kd.R_drewN | apply Kd.R_drew)); exact HO_5.out⟩, ⟨by (with_reducible repeat (first | apply Kd.R_alloc | apply Kd.R_drewN | apply Kd.R_drew)); exact HO_6.out⟩, ⟨by (with_reducible repeat (first | refine blk_drewN ?_ _ | refine blk_drew ?_ | refine blk_alloc ?_ _)); exact BK479.out⟩, ⟨by repeat (first | (with_reducible first | exact HB.out | apply below_alloc | apply pw_below_drewN | apply below_drew1 | refine below_set ?_ GE479.out) | exact HB.out)⟩⟩
       ·rw [if_neg c22] at H
        exact absurd H (by simp)
      ·rw [if_neg c20] at H
       exact absurd H (by simp)
     ·rw [if_neg c19] at H
      exact absurd H (by simp)
    ·rw [if_neg c18] at H
     have c18b0 : decide (x26_1 < (t476.length : Int)) = false := decide_eq_false c18
     clear c18
     replace H := Option.bind_eq_some_iff.mp H
     obtain ⟨⟨t489, t492⟩, A280, H⟩ := H
     replace H : ((cluster_Prune.f x6_1 9 0 1099511627776).bind fun bt493 => (if t492 = 0 then (if bt493.2 = 0 then (ephemerislaw23_ClusterCalm.j1 k1 t476 bt493.1 ((t489.length : Int) != (t476.length : Int))) else (ephemerislaw23_ClusterCalm.j1 k1 t476 bt493.1 true)) else (ephemerislaw23_ClusterCalm.j1 k1 t476 bt493.1 true))) = some r := H
     have A28 := Aside0.mk A280
     clear A280
     replace H := Option.bind_eq_some_iff.mp H
     obtain ⟨⟨t493, t496⟩, A290, H⟩ := H
     replace H : (if t492 = 0 then (if t496 = 0 then (ephemerislaw23_ClusterCalm.j1 k1 t476 t493 ((t489.length : Int) != (t476.length : Int))) else (ephemerislaw23_ClusterCalm.j1 k1 t476 t493 true)) else (ephemerislaw23_ClusterCalm.j1 k1 t476 t493 true)) = some r := H
     have A29 := Aside0.mk A290
     clear A290
     have HC30 := Aside0.mk H
     clear H
     have hcz31_0 : wr.cell? ⟨gb479, 0, none⟩ = some (.int .i64 9) := (blk_cell BK479.out 0).trans rfl
     have hcz31_1 : wr.cell? ⟨gb479, 1, none⟩ = some (.int .i64 0) := (blk_cell BK479.out 1).trans rfl
     have hcz31_2 : wr.cell? ⟨gb479, 2, none⟩ = some (.int .i64 1099511627776) := (blk_cell BK479.out 2).trans rfl
     have hfz31_0 := blk_frozen BK479.out 0
     have hfz31_1 := blk_frozen BK479.out 1
     have hfz31_2 := blk_frozen BK479.out 2
     obtain ⟨Ao32, co32, eo32⟩ := Kd.R_slice HO_5.out
     subst eo32
     go_upto_region 13 with (first | ((with_reducible refine gate_callee (f := 16) rfl ?_); refine goesL_ (some 41) rfl rfl Try.func16 (by kernel_rfl) rfl #[.slice Ao32 x5_1.length co32, .agg #[.int .i64 9, .int .i64 0, .int .i64 1099511627776]] rfl (by (try simp only [List.map_toArray, List.map_cons, List.map_nil]); first | done | rfl | (simp only [List.length_drop, List.length_take]; rfl)) ?_; (with_reducible refine (cluster_Prune.calls _ _ x5_1 9 0 1099511627776 t489 t492 _ ?side1 ?side2 A28.out).mono ?_); (case side1 => repeat (first | exact (Kd.R_reads' HO_5.out).2.2 | (with_reducible refine Kd.C_alloc ?_ _) | (with_reducible refine Kd.C_drewN ?_ _) | (with_reducible refine Kd.C_drew ?_))); (case side2 => exact (Kd.R_reads' HO_5.out).2.1); rintro e w33 ⟨v490, rfl, ho0, hb⟩; refine ⟨_, rfl, ?_⟩; have n0_ := Aside0.mk (Kd.R_elder' (by (with_reducible repeat (first | apply Kd.R_alloc | apply Kd.R_drewN | apply Kd.R_drew)); exact HO_3.out) (Kd.R_base ho0) hb); have n1_ := Aside0.mk (Kd.R_elder' (by (with_reducible repeat (first | apply Kd.R_alloc | apply Kd.R_drewN | apply Kd.R_drew)); exact HO_5.out) (Kd.R_base ho0) hb); have n2_ := Aside0.mk (Kd.R_elder' (by (with_reducible repeat (first | apply Kd.R_alloc | apply Kd.R_drewN | apply Kd.R_drew)); exact HO_6.out) (Kd.R_base ho0) hb); have n3_ := Aside0.mk (Kd.R_lower (Kd.R_new' (Kd.R_new' (Kd.R_new' ho0 (Kd.R_lt (by (with_reducible repeat (first | apply Kd.R_alloc | apply Kd.R_drewN | apply Kd.R_drew)); exact HO_3.out))) (Kd.R_lt (by (with_reducible repeat (first | apply Kd.R_alloc | apply Kd.R_drewN | apply Kd.R_drew)); exact HO_5.out))) (Kd.R_lt (by (with_reducible repeat (first | apply Kd.R_alloc | apply Kd.R_drewN | apply Kd.R_drew)); exact HO_6.out))) (below_size (by repeat (first | (with_reducible first | exact HB.out | apply below_alloc | apply pw_below_drewN | apply below_drew1 | refine below_set ?_ GE479.out) | exact HB.out)))); have n4_ := Aside0.mk (blk_below (g := gb479) (o := .cells #[.int .i64 9, .int .i64 0, .int .i64 1099511627776] 24 (0, 0)) (by (with_reducible repeat (first | refine blk_drewN ?_ _ | refine blk_drew ?_ | refine blk_alloc ?_ _)); exact BK479.out) hb); have n5_ := Aside0.mk (below_step (by repeat (first | (with_reducible first | exact HB.out | apply below_alloc | apply pw_below_drewN | apply below_drew1 | refine below_set ?_ GE479.out) | exact HB.out)) hb); clear HO_3; clear HO_5; clear HO_6; clear BK479; clear HB; have HO_3 := n0_; have HO_5 := n1_; have HO_6 := n2_; have HO491 := n3_; have BK479 := n4_; have HB := n5_; clear n0_ n1_ n2_ n3_ n4_ n5_; (try clear hb); (try clear hb2); (try clear hk); (try clear hi); (try clear ho0); have hcz34_0 : w33.cell? ⟨gb479, 0, none⟩ = some (.int .i64 9) := (blk_cell BK479.out 0).trans rfl; have hcz34_1 : w33.cell? ⟨gb479, 1, none⟩ = some (.int .i64 0) := (blk_cell BK479.out 1).trans rfl; have hcz34_2 : w33.cell? ⟨gb479, 2, none⟩ = some (.int .i64 1099511627776) := (blk_cell BK479.out 2).trans rfl; have hfz34_0 := blk_frozen BK479.out 0; have hfz34_1 := blk_frozen BK479.out 1; have hfz34_2 := blk_frozen BK479.out 2; obtain ⟨Ao35, co35, eo35⟩ := Kd.R_slice HO_6.out; subst eo35) | ((with_reducible refine gate_callee (f := 16) rfl ?_); refine goesL_ (some 47) rfl rfl Try.func16 (by kernel_rfl) rfl #[.slice Ao35 x6_1.length co35, .agg #[.int .i64 9, .int .i64 0, .int .i64 1099511627776]] rfl (by (try simp only [List.map_toArray, List.map_cons, List.map_nil]); first | done | rfl | (simp only [List.length_drop, List.length_take]; rfl)) ?_; (with_reducible refine (cluster_Prune.calls _ _ x6_1 9 0 1099511627776 t493 t496 _ ?side1 ?side2 A29.out).mono ?_); (case side1 => repeat (first | exact (Kd.R_reads' HO_6.out).2.2 | (with_reducible refine Kd.C_alloc ?_ _) | (with_reducible refine Kd.C_drewN ?_ _) | (with_reducible refine Kd.C_drew ?_))); (case side2 => exact (Kd.R_reads' HO_6.out).2.1); rintro e w36 ⟨v494, rfl, ho0, hb⟩; refine ⟨_, rfl, ?_⟩; have n0_ := Aside0.mk (Kd.R_elder' (by (with_reducible repeat (first | apply Kd.R_alloc | apply Kd.R_drewN | apply Kd.R_drew)); exact HO_3.out) (Kd.R_base ho0) hb); have n1_ := Aside0.mk (Kd.R_elder' (by (with_reducible repeat (first | apply Kd.R_alloc | apply Kd.R_drewN | apply Kd.R_drew)); exact HO_5.out) (Kd.R_base ho0) hb); have n2_ := Aside0.mk (Kd.R_elder' (by (with_reducible repeat (first | apply Kd.R_alloc | apply Kd.R_drewN | apply Kd.R_drew)); exact HO_6.out) (Kd.R_base ho0) hb); have n3_ := Aside0.mk (Kd.R_elder' (by (with_reducible repeat (first | apply Kd.R_alloc | apply Kd.R_drewN | apply Kd.R_drew)); exact HO491.out) (Kd.R_base ho0) hb); have n4_ := Aside0.mk (Kd.R_lower (Kd.R_new' (Kd.R_new' (Kd.R_new' (Kd.R_new' ho0 (Kd.R_lt (by (with_reducible repeat (first | apply Kd.R_alloc | apply Kd.R_drewN | apply Kd.R_drew)); exact HO_3.out))) (Kd.R_lt (by (with_reducible repeat (first | apply Kd.R_alloc | apply Kd.R_drewN | apply Kd.R_drew)); exact HO_5.out))) (Kd.R_lt (by (with_reducible repeat (first | apply Kd.R_alloc | apply Kd.R_drewN | apply Kd.R_drew)); exact HO_6.out))) (Kd.R_lt (by (with_reducible repeat (first | apply Kd.R_alloc | apply Kd.R_drewN | apply Kd.R_drew)); exact HO491.out))) (below_size (by repeat (first | (with_reducible first | exact HB.out | apply below_alloc | apply pw_below_drewN | apply below_drew1 | refine below_set ?_ GE479.out) | exact HB.out)))); have n5_ := Aside0.mk (blk_below (g := gb479) (o := .cells #[.int .i64 9, .int .i64 0, .int .i64 1099511627776] 24 (0, 0)) (by (with_reducible repeat (first | refine blk_drewN ?_ _ | refine blk_drew ?_ | refine blk_alloc ?_ _)); exact BK479.out) hb); have n6_ := Aside0.mk (below_step (by repeat (first | (with_reducible first | exact HB.out | apply below_alloc | apply pw_below_drewN | apply below_drew1 | refine below_set ?_ GE479.out) | exact HB.out)) hb); clear HO_3; clear HO_5; clear HO_6; clear HO491; clear BK479; clear HB; have HO_3 := n0_; have HO_5 := n1_; have HO_6 := n2_; have HO491 := n3_; have HO495 := n4_; have BK479 := n5_; have HB := n6_; clear n0_ n1_ n2_ n3_ n4_ n5_ n6_; (try clear hb); (try clear hb2); (try clear hk); (try clear hi); (try clear ho0)))
     (try simp only [Act.put, List.setIfInBounds_toArray, List.set_cons_zero, List.set_cons_succ])
     go_cut [62] (fun v62 wc => ∃ (kq : Nat) (x62_29 : Bool), v62 = .bool x62_29 ∧ Aside0 (ephemerislaw23_ClusterCalm.j1 kq t476 t493 x62_29 = some r) ∧ Aside0 (kq ≤ k1) ∧ Aside0 (Kd.R k27 27 wc w.heap.size (fun k_ => some k_ ≠ (v494 : Value).ownBlock) (.slice Ao15 t476.length co15) t476) ∧ Aside0 (Kd.R k27 27 wc w.heap.size (fun k_ => some k_ ≠ ((.slice Ao15 t476.length co15) : Value).ownBlock) v494 t493) ∧ Aside0 (wc.heap[gb479]? = some (.cells #[.int .i64 9, .int .i64 0, .int .i64 1099511627776] 24 (0, 0))) ∧ Aside0 (Below w.heap.size w wc))
     case first =>
      have H := HC30.out
      clear HC30
      by_cases c37 : t492 = 0
      ·rw [if_pos c37] at H
       have c37b0 : (t492 == 0) = true := beq_iff_eq.mpr c37
       have c37b1 : (t492 != 0) = false := bne_eq_false_iff_eq.mpr c37
       clear c37
       (first | rw [c37b0] | (simp only [i64_w, i32_w]; rw [c37b0]) | skip)
       by_cases c38 : t496 = 0
       ·rw [if_pos c38] at H
        have c38b0 : (t496 == 0) = true := beq_iff_eq.mpr c38
        have c38b1 : (t496 != 0) = false := bne_eq_false_iff_eq.mpr c38
        clear c38
        have H' := Aside0.mk H
        clear H
        obtain ⟨Ao39, co39, eo39⟩ := Kd.R_slice HO491.out
        subst eo39
        go_wp2
        go_meet
        case rel => exact ⟨_, (((t489.length : Int) != (t476.length : Int))), (by first | rfl | (simp; done) | (simp [*]; done)), H', ⟨by have := HK1.out; first | omega | exact Nat.le_refl _⟩, ⟨by (with_reducible repeat (first | apply Kd.R_alloc | apply Kd.R_drewN | apply Kd.R_drew)); exact Kd.R_mono HO_3.out (fun _ hk => hk.2)⟩, ⟨by (with_reducible repeat (first | apply Kd.R_alloc | apply Kd.R_drewN | apply Kd.R_drew)); exact Kd.R_mono HO495.out (fun _ hk => hk.1.1.1.2)⟩, ⟨by (with_reducible repeat (first | refine blk_drewN ?_ _ | refine blk_drew ?_ | refine blk_alloc ?_ _)); exact BK479.out⟩, ⟨by repeat (first | (with_reducible first | exact HB.out | apply below_alloc | apply pw_below_drewN | apply below_drew1 | refine below_set ?_ GE479.out) | exact HB.out)⟩⟩
       ·rw [if_neg c38] at H
        have c38b0 : (t496 == 0) = false := beq_eq_false_iff_ne.mpr c38
        have c38b1 : (t496 != 0) = true := bne_iff_ne.mpr c38
        have H' := Aside0.mk H
        clear H
        go_wp2
        go_meet
        case rel => exact ⟨_, (true), (by first | rfl | (simp; done) | (simp [*]; done)), H', ⟨by have := HK1.out; first | omega | exact Nat.le_refl _⟩, ⟨by (with_reducible repeat (first | apply Kd.R_alloc | apply Kd.R_drewN | apply Kd.R_drew)); exact Kd.R_mono HO_3.out (fun _ hk => hk.2)⟩, ⟨by (with_reducible repeat (first | apply Kd.R_alloc | apply Kd.R_drewN | apply Kd.R_drew)); exact Kd.R_mono HO495.out (fun _ hk => hk.1.1.1.2)⟩, ⟨by (with_reducible repeat (first | refine blk_drewN ?_ _ | refine blk_drew ?_ | refine blk_alloc ?_ _)); exact BK479.out⟩, ⟨by repeat (first | (with_reducible first | exact HB.out | apply below_alloc | apply pw_below_drewN | apply below_drew1 | refine below_set ?_ GE479.out) | exact HB.out)⟩⟩
      ·rw [if_neg c37] at H
       have c37b0 : (t492 == 0) = false := beq_eq_false_iff_ne.mpr c37
       have c37b1 : (t492 != 0) = true := bne_iff_ne.mpr c37
       (first | rw [c37b0] | (simp only [i64_w, i32_w]; rw [c37b0]) | skip)
       have H' := Aside0.mk H
       clear H
       go_wp2
       go_meet
       case rel => exact ⟨_, (true), (by first | rfl | (simp; done) | (simp [*]; done)), H', ⟨by have := HK1.out; first | omega | exact Nat.le_refl _⟩, ⟨by (with_reducible repeat (first | apply Kd.R_alloc | apply Kd.R_drewN | apply Kd.R_drew)); exact Kd.R_mono HO_3.out (fun _ hk => hk.2)⟩, ⟨by (with_reducible repeat (first | apply Kd.R_alloc | apply Kd.R_drewN | apply Kd.R_drew)); exact Kd.R_mono HO495.out (fun _ hk => hk.1.1.1.2)⟩, ⟨by (with_reducible repeat (first | refine blk_drewN ?_ _ | refine blk_drew ?_ | refine blk_alloc ?_ _)); exact BK479.out⟩, ⟨by repeat (first | (with_reducible first | exact HB.out | apply below_alloc | apply pw_below_drewN | apply below_drew1 | refine below_set ?_ GE479.out) | exact HB.out)⟩⟩
     case rest =>
      clear HC30
      try clear c1
      try clear c2
      try clear p2
      try clear q2
      try clear hx2
      try clear hf2
      try clear c3
      try clear c3b0
      try clear c3b1
      try clear c3b2
      try clear c6
      try clear p6
      try clear c15
      try clear c16
      try clear c18
      try clear c18b0
      try clear c19
      try clear c19b0
      try clear c20
      try clear c20b0
      try clear c21
      try clear p21
      try clear q21
      try clear hx21
      try clear hf21
      try clear c22
      try clear c22b0
      try clear c23
      try clear p23
      try clear q23
      try clear hx23
      try clear hf23
      try clear c24
      try clear hx24
      try clear hf24
      try clear c26
      try clear hx26
      try clear hf26
      try clear c28
      try clear c37
      try clear c37b0
      try clear c37b1
      try clear c38
      try clear c38b0
      try clear c38b1
      try clear hcz14_0
      try clear hcz14_1
      try clear hcz14_2
      try clear hcz31_0
      try clear hcz31_1
      try clear hcz31_2
      try clear hcz34_0
      try clear hcz34_1
      try clear hcz34_2
      try clear hcz7_0
      try clear hcz7_1
      try clear hcz7_2
      try clear hfz14_0
      try clear hfz14_1
      try clear hfz14_2
      try clear hfz31_0
      try clear hfz31_1
      try clear hfz31_2
      try clear hfz34_0
      try clear hfz34_1
      try clear hfz34_2
      try clear hfz7_0
      try clear hfz7_1
      try clear hfz7_2
      try clear hx21_0
      try clear hx21_1
      try clear hx21_2
      try clear hx21_3
      try clear hx21_4
      try clear hx23_0
      try clear hx23_1
      try clear hx23_2
      try clear hx23_3
      try clear hx23_4
      try clear hx24_4
      try clear hx26_4
      try clear p2
      try clear p21
      try clear p23
      try clear q21
      try clear q23
      obtain ⟨kq, x62_29, rfl, HA, HJ29, HO_3, HO_10, BK479, HB⟩ := hcut
      cases kq with
      | zero => exact absurd HA.out (by simp [ephemerislaw23_ClusterCalm.j1])
      | succ kj29 =>
       have H := HA.out
       clear HA
       simp only [ephemerislaw23_ClusterCalm.j1] at H
       by_cases c40 : x62_29 = true
       ·subst c40
        have H1 : (some false) = some r := by rw [if_pos rfl] at H; exact H
        clear H
        have H := H1
        clear H1
        obtain rfl := Option.some.inj H
        go_wp2
        go_ret
        exact ⟨by first | rfl | (simp [errW_none, errW_some] <;> rfl) | (simp [*, errW_none, errW_some] <;> rfl), by repeat (first | (with_reducible first | exact HB.out | apply below_alloc | apply pw_below_drewN | apply below_drew1 | refine below_set ?_ GE479.out) | exact HB.out)⟩
       ·replace c40 := Bool.eq_false_iff.mpr c40
        subst c40
        have H1 : (if (t493.length : Int) > 3 then (ephemerislaw23_ClusterCalm.l1 kj29 t476 t493 (t493.length : Int) 0) else ((ephemerislaw23_awake.f kj29).bind fun t499 => (if t499 = true then (some (decide ((t493.length : Int) ≥ (mn (t476.length : Int) 3)))) else (some false)))) = some r := by rw [if_neg (show ¬ (false = true) by decide)] at H; exact H
        clear H
        have H := H1
        clear H1
        by_cases c41 : (t493.length : Int) > 3
        ·rw [if_pos c41] at H
         have c41b0 : decide (3 < (t493.length : Int)) = true := decide_eq_true c41
         have c41b1 : decide (3 < t493.length) = true := decide_eq_true (by omega)
         clear c41
         have H' := Aside0.mk H
         clear H
         obtain ⟨Ao42, co42, eo42⟩ := Kd.R_slice HO_10.out
         subst eo42
         go_wp2
         go_loopg [68] kj29 (fun kq v68 w' => ∃ (x68_3 : Int), v68 = .int .i64 x68_3 ∧ Aside0 (ephemerislaw23_ClusterCalm.l1 kq t476 t493 (t493.length : Int) x68_3 = some r) ∧ Aside0 (kq ≤ kj29) ∧ Aside0 (Kd.R k27 27 w' w.heap.size (fun k_ => some k_ ≠ ((.slice Ao42 t493.length co42) : Value).ownBlock) (.slice Ao15 t476.length co15) t476) ∧ Aside0 (Kd.R k27 27 w' w.heap.size (fun k_ => some k_ ≠ ((.slice Ao15 t476.length co15) : Value).ownBlock) (.slice Ao42 t493.length co42) t493) ∧ Aside0 (w'.heap[gb479]? = some (.cells #[.int .i64 9, .int .i64 0, .int .i64 1099511627776] 24 (0, 0))) ∧ Aside0 (Below w.heap.size w w'))
         case atStart => exact ⟨(0), (by first | rfl | (simp; done) | (simp [*]; done)), H', ⟨Nat.le_refl _⟩, ⟨by (with_reducible repeat (first | apply Kd.R_alloc | apply Kd.R_drewN | apply Kd.R_drew)); exact HO_3.out⟩, ⟨by (with_reducible repeat (first | apply Kd.R_alloc | apply Kd.R_drewN | apply Kd.R_drew)); exact HO_10.out⟩, ⟨by (with_reducible repeat (first | refine blk_drewN ?_ _ | refine blk_drew ?_ | refine blk_alloc ?_ _)); exact BK479.out⟩, ⟨by repeat (first | (with_reducible first | exact HB.out | apply below_alloc | apply pw_below_drewN | apply below_drew1 | refine below_set ?_ GE479.out) | exact HB.out)⟩⟩
         case round =>
          clear H'
          try clear c1
          try clear c2
          try clear p2
          try clear q2
          try clear hx2
          try clear hf2
          try clear c3
          try clear c3b0
          try clear c3b1
          try clear c3b2
          try clear c4
          try clear c6
          try clear p6
          try clear c15
          try clear c16
          try clear c18
          try clear c18b0
          try clear c19
          try clear c19b0
          try clear c20
          try clear c20b0
          try clear c21
          try clear p21
          try clear q21
          try clear hx21
          try clear hf21
          try clear c22
          try clear c22b0
          try clear c23
          try clear p23
          try clear q23
          try clear hx23
          try clear hf23
          try clear c24
          try clear hx24
          try clear hf24
          try clear c26
          try clear hx26
          try clear hf26
          try clear c28
          try clear c37
          try clear c37b0
          try clear c37b1
          try clear c38
          try clear c38b0
          try clear c38b1
          try clear c40
          try clear c41
          try clear c41b0
          try clear c41b1
          try clear hcz14_0
          try clear hcz14_1
          try clear hcz14_2
          try clear hcz31_0
          try clear hcz31_1
          try clear hcz31_2
          try clear hcz34_0
          try clear hcz34_1
          try clear hcz34_2
          try clear hcz7_0
          try clear hcz7_1
          try clear hcz7_2
          try clear hfz14_0
          try clear hfz14_1
          try clear hfz14_2
          try clear hfz31_0
          try clear hfz31_1
          try clear hfz31_2
          try clear hfz34_0
          try clear hfz34_1
          try clear hfz34_2
          try clear hfz7_0
          try clear hfz7_1
          try clear hfz7_2
          try clear hx21_0
          try clear hx21_1
          try clear hx21_2
          try clear hx21_3
          try clear hx21_4
          try clear hx23_0
          try clear hx23_1
          try clear hx23_2
          try clear hx23_3
          try clear hx23_4
          try clear hx24_4
          try clear hx26_4
          try clear p2
          try clear p21
          try clear p23
          try clear p6
          try clear q2
          try clear q21
          try clear q23
          obtain ⟨x68_3, rfl, HA, HK3, HO_3, HO_10, BK479, HB⟩ := hrel
          cases gk with
          | zero => exact absurd HA.out (by simp [ephemerislaw23_ClusterCalm.l1])
          | succ k3 =>
           have H := HA.out
           clear HA
           simp only [ephemerislaw23_ClusterCalm.l1] at H
           by_cases c43 : x68_3 < (t493.length : Int)
           ·rw [if_pos c43] at H
            have c43b0 : decide (x68_3 < (t493.length : Int)) = true := decide_eq_true c43
            clear c43
            replace H := Option.bind_eq_some_iff.mp H
            obtain ⟨t497, A440, H⟩ := H
            replace H : (if t497 = 0 then (ephemerislaw23_ClusterCalm.l1 k3 t476 t493 (t493.length : Int) (wrap64 (x68_3 + 1))) else (some false)) = some r := H
            have A44 := Aside0.mk A440
            clear A440
            by_cases c45 : t497 = 0
            ·rw [if_pos c45] at H
             have c45b0 : (t497 == 0) = true := beq_iff_eq.mpr c45
             have c45b1 : (t497 != 0) = false := bne_eq_false_iff_eq.mpr c45
             clear c45
             have H' := Aside0.mk H
             clear H
             go_wp2_with (first | ((with_reducible refine gate_callee (f := 22) rfl ?_); refine goesL_ (some 73) rfl rfl Try.func22 (by kernel_rfl) rfl #[.slice Ao42 t493.length co42, .int .i64 x68_3] rfl (by (try simp only [List.map_toArray, List.map_cons, List.map_nil]); first | done | rfl | (simp only [List.length_drop, List.length_take]; rfl)) ?_; (with_reducible refine (cluster_Spread.calls _ _ t493 x68_3 t497 _ ?side1 ?side2 A44.out).mono ?_); (case side1 => repeat (first | exact (Kd.R_reads' HO_10.out).2.2 | (with_reducible refine Kd.C_alloc ?_ _) | (with_reducible refine Kd.C_drewN ?_ _) | (with_reducible refine Kd.C_drew ?_))); (case side2 => exact (Kd.R_reads' HO_10.out).2.1); rintro e w46 ⟨rfl, hb⟩; refine ⟨_, rfl, ?_⟩; have n0_ := Aside0.mk (Kd.R_below (by (with_reducible repeat (first | apply Kd.R_alloc | apply Kd.R_drewN | apply Kd.R_drew)); exact HO_3.out) hb); have n1_ := Aside0.mk (Kd.R_below (by (with_reducible repeat (first | apply Kd.R_alloc | apply Kd.R_drewN | apply Kd.R_drew)); exact HO_10.out) hb); have n2_ := Aside0.mk (blk_below (g := gb479) (o := .cells #[.int .i64 9, .int .i64 0, .int .i64 1099511627776] 24 (0, 0)) (by (with_reducible repeat (first | refine blk_drewN ?_ _ | refine blk_drew ?_ | refine blk_alloc ?_ _)); exact BK479.out) hb); have n3_ := Aside0.mk (below_step (by repeat (first | (with_reducible first | exact HB.out | apply below_alloc | apply pw_below_drewN | apply below_drew1 | refine below_set ?_ GE479.out) | exact HB.out)) hb); clear HO_3; clear HO_10; clear BK479; clear HB; have HO_3 := n0_; have HO_10 := n1_; have BK479 := n2_; have HB := n3_; clear n0_ n1_ n2_ n3_; (try clear hb); (try clear hb2); (try clear hk); (try clear hi)))
             go_roundg k3
             case measure => have := HK1.out; have := HJ29.out; have := HK3.out; omega
             case rel => exact ⟨(wrap64 (x68_3 + 1)), (by first | rfl | (simp; done) | (simp [*]; done)), H', ⟨by have := HK1.out; have := HJ29.out; have := HK3.out; omega⟩, ⟨by (with_reducible repeat (first | apply Kd.R_alloc | apply Kd.R_drewN | apply Kd.R_drew)); exact HO_3.out⟩, ⟨by (with_reducible repeat (first | apply Kd.R_alloc | apply Kd.R_drewN | apply Kd.R_drew)); exact HO_10.out⟩, ⟨by (with_reducible repeat (first | refine blk_drewN ?_ _ | refine blk_drew ?_ | refine blk_alloc ?_ _)); exact BK479.out⟩, ⟨by repeat (first | (with_reducible first | exact HB.out | apply below_alloc | apply pw_below_drewN | apply below_drew1 | refine below_set ?_ GE479.out) | exact HB.out)⟩⟩
            ·rw [if_neg c45] at H
             have c45b0 : (t497 == 0) = false := beq_eq_false_iff_ne.mpr c45
             have c45b1 : (t497 != 0) = true := bne_iff_ne.mpr c45
             obtain rfl := Option.some.inj H
             go_wp2_with (first | ((with_reducible refine gate_callee (f := 22) rfl ?_); refine goesL_ (some 73) rfl rfl Try.func22 (by kernel_rfl) rfl #[.slice Ao42 t493.length co42, .int .i64 x68_3] rfl (by (try simp only [List.map_toArray, List.map_cons, List.map_nil]); first | done | rfl | (simp only [List.length_drop, List.length_take]; rfl)) ?_; (with_reducible refine (cluster_Spread.calls _ _ t493 x68_3 t497 _ ?side1 ?side2 A44.out).mono ?_); (case side1 => repeat (first | exact (Kd.R_reads' HO_10.out).2.2 | (with_reducible refine Kd.C_alloc ?_ _) | (with_reducible refine Kd.C_drewN ?_ _) | (with_reducible refine Kd.C_drew ?_))); (case side2 => exact (Kd.R_reads' HO_10.out).2.1); rintro e w47 ⟨rfl, hb⟩; refine ⟨_, rfl, ?_⟩; have n0_ := Aside0.mk (Kd.R_below (by (with_reducible repeat (first | apply Kd.R_alloc | apply Kd.R_drewN | apply Kd.R_drew)); exact HO_3.out) hb); have n1_ := Aside0.mk (Kd.R_below (by (with_reducible repeat (first | apply Kd.R_alloc | apply Kd.R_drewN | apply Kd.R_drew)); exact HO_10.out) hb); have n2_ := Aside0.mk (blk_below (g := gb479) (o := .cells #[.int .i64 9, .int .i64 0, .int .i64 1099511627776] 24 (0, 0)) (by (with_reducible repeat (first | refine blk_drewN ?_ _ | refine blk_drew ?_ | refine blk_alloc ?_ _)); exact BK479.out) hb); have n3_ := Aside0.mk (below_step (by repeat (first | (with_reducible first | exact HB.out | apply below_alloc | apply pw_below_drewN | apply below_drew1 | refine below_set ?_ GE479.out) | exact HB.out)) hb); clear HO_3; clear HO_10; clear BK479; clear HB; have HO_3 := n0_; have HO_10 := n1_; have BK479 := n2_; have HB := n3_; clear n0_ n1_ n2_ n3_; (try clear hb); (try clear hb2); (try clear hk); (try clear hi)))
             go_ret
             exact ⟨by first | rfl | (simp [errW_none, errW_some] <;> rfl) | (simp [*, errW_none, errW_some] <;> rfl), by repeat (first | (with_reducible first | exact HB.out | apply below_alloc | apply pw_below_drewN | apply below_drew1 | refine below_set ?_ GE479.out) | exact HB.out)⟩
           ·rw [if_neg c43] at H
            have c43b0 : decide (x68_3 < (t493.length : Int)) = false := decide_eq_false c43
            clear c43
            replace H := Option.bind_eq_some_iff.mp H
            obtain ⟨t498, A480, H⟩ := H
            replace H : (if t498 = true then (some (decide ((t493.length : Int) ≥ (mn (t476.length : Int) 3)))) else (some false)) = some r := H
            have A48 := Aside0.mk A480
            clear A480
            by_cases c49 : t498 = true
            ·subst c49
             have H1 : (some (decide ((t493.length : Int) ≥ (mn (t476.length : Int) 3)))) = some r := by rw [if_pos rfl] at H; exact H
             clear H
             have H := H1
             clear H1
             obtain ⟨ji50, hji50⟩ : ∃ j_ : Int, (mn (t476.length : Int) 3) = j_ := ⟨_, rfl⟩
             replace H : (some (decide ((t493.length : Int) ≥ (ji50)))) = some r := by first | (rw [hji50] at H; exact H) | (simp only [hji50] at H ⊢; exact H)
             (try rw [hji50] at A48)
             have hji50_ : (if 3 < (t476.length : Int) then 3 else (t476.length : Int)) = ji50 := hji50
             obtain rfl := Option.some.inj H
             go_wp2_with (first | ((with_reducible refine gate_callee (f := 26) rfl ?_); refine goesL_ (some 76) rfl rfl Try.func26 (by kernel_rfl) rfl #[] rfl (by (try simp only [List.map_toArray, List.map_cons, List.map_nil]); first | done | rfl | (simp only [List.length_drop, List.length_take]; rfl)) ?_; (with_reducible refine (ephemerislaw23_awake.calls k3  true _ A48.out).mono ?_); rintro e w51 ⟨rfl, hb⟩; refine ⟨_, rfl, ?_⟩; have n0_ := Aside0.mk (Kd.R_below (by (with_reducible repeat (first | apply Kd.R_alloc | apply Kd.R_drewN | apply Kd.R_drew)); exact HO_3.out) hb); have n1_ := Aside0.mk (Kd.R_below (by (with_reducible repeat (first | apply Kd.R_alloc | apply Kd.R_drewN | apply Kd.R_drew)); exact HO_10.out) hb); have n2_ := Aside0.mk (blk_below (g := gb479) (o := .cells #[.int .i64 9, .int .i64 0, .int .i64 1099511627776] 24 (0, 0)) (by (with_reducible repeat (first | refine blk_drewN ?_ _ | refine blk_drew ?_ | refine blk_alloc ?_ _)); exact BK479.out) hb); have n3_ := Aside0.mk (below_step (by repeat (first | (with_reducible first | exact HB.out | apply below_alloc | apply pw_below_drewN | apply below_drew1 | refine below_set ?_ GE479.out) | exact HB.out)) hb); clear HO_3; clear HO_10; clear BK479; clear HB; have HO_3 := n0_; have HO_10 := n1_; have BK479 := n2_; have HB := n3_; clear n0_ n1_ n2_ n3_; (try clear hb); (try clear hb2); (try clear hk); (try clear hi)))
             go_ret
             exact ⟨by first | rfl | (simp [errW_none, errW_some] <;> rfl) | (simp only [← hji50]; first | rfl | (simp [errW_none, errW_some] <;> rfl)) | (simp [*, errW_none, errW_some] <;> rfl), by repeat (first | (with_reducible first | exact HB.out | apply below_alloc | apply pw_below_drewN | apply below_drew1 | refine below_set ?_ GE479.out) | exact HB.out)⟩
            ·replace c49 := Bool.eq_false_iff.mpr c49
             subst c49
             have H1 : (some false) = some r := by rw [if_neg (show ¬ (false = true) by decide)] at H; exact H
             clear H
             have H := H1
             clear H1
             obtain rfl := Option.some.inj H
             go_wp2_with (first | ((with_reducible refine gate_callee (f := 26) rfl ?_); refine goesL_ (some 76) rfl rfl Try.func26 (by kernel_rfl) rfl #[] rfl (by (try simp only [List.map_toArray, List.map_cons, List.map_nil]); first | done | rfl | (simp only [List.length_drop, List.length_take]; rfl)) ?_; (with_reducible refine (ephemerislaw23_awake.calls k3  false _ A48.out).mono ?_); rintro e w52 ⟨rfl, hb⟩; refine ⟨_, rfl, ?_⟩; have n0_ := Aside0.mk (Kd.R_below (by (with_reducible repeat (first | apply Kd.R_alloc | apply Kd.R_drewN | apply Kd.R_drew)); exact HO_3.out) hb); have n1_ := Aside0.mk (Kd.R_below (by (with_reducible repeat (first | apply Kd.R_alloc | apply Kd.R_drewN | apply Kd.R_drew)); exact HO_10.out) hb); have n2_ := Aside0.mk (blk_below (g := gb479) (o := .cells #[.int .i64 9, .int .i64 0, .int .i64 1099511627776] 24 (0, 0)) (by (with_reducible repeat (first | refine blk_drewN ?_ _ | refine blk_drew ?_ | refine blk_alloc ?_ _)); exact BK479.out) hb); have n3_ := Aside0.mk (below_step (by repeat (first | (with_reducible first | exact HB.out | apply below_alloc | apply pw_below_drewN | apply below_drew1 | refine below_set ?_ GE479.out) | exact HB.out)) hb); clear HO_3; clear HO_10; clear BK479; clear HB; have HO_3 := n0_; have HO_10 := n1_; have BK479 := n2_; have HB := n3_; clear n0_ n1_ n2_ n3_; (try clear hb); (try clear hb2); (try clear hk); (try clear hi)))
             go_ret
             exact ⟨by first | rfl | (simp [errW_none, errW_some] <;> rfl) | (simp [*, errW_none, errW_some] <;> rfl), by repeat (first | (with_reducible first | exact HB.out | apply below_alloc | apply pw_below_drewN | apply below_drew1 | refine below_set ?_ GE479.out) | exact HB.out)⟩
        ·rw [if_neg c41] at H
         have c41b0 : decide (3 < (t493.length : Int)) = false := decide_eq_false c41
         have c41b1 : decide (3 < t493.length) = false := decide_eq_false (by omega)
         clear c41
         replace H := Option.bind_eq_some_iff.mp H
         obtain ⟨t499, A530, H⟩ := H
         replace H : (if t499 = true then (some (decide ((t493.length : Int) ≥ (mn (t476.length : Int) 3)))) else (some false)) = some r := H
         have A53 := Aside0.mk A530
         clear A530
         by_cases c54 : t499 = true
         ·subst c54
          have H1 : (some (decide ((t493.length : Int) ≥ (mn (t476.length : Int) 3)))) = some r := by rw [if_pos rfl] at H; exact H
          clear H
          have H := H1
          clear H1
          obtain ⟨ji55, hji55⟩ : ∃ j_ : Int, (mn (t476.length : Int) 3) = j_ := ⟨_, rfl⟩
          replace H : (some (decide ((t493.length : Int) ≥ (ji55)))) = some r := by first | (rw [hji55] at H; exact H) | (simp only [hji55] at H ⊢; exact H)
          (try rw [hji55] at A53)
          have hji55_ : (if 3 < (t476.length : Int) then 3 else (t476.length : Int)) = ji55 := hji55
          obtain rfl := Option.some.inj H
          obtain ⟨Ao56, co56, eo56⟩ := Kd.R_slice HO_10.out
          subst eo56
          go_wp2_with (first | ((with_reducible refine gate_callee (f := 26) rfl ?_); refine goesL_ (some 76) rfl rfl Try.func26 (by kernel_rfl) rfl #[] rfl (by (try simp only [List.map_toArray, List.map_cons, List.map_nil]); first | done | rfl | (simp only [List.length_drop, List.length_take]; rfl)) ?_; (with_reducible refine (ephemerislaw23_awake.calls kj29  true _ A53.out).mono ?_); rintro e w57 ⟨rfl, hb⟩; refine ⟨_, rfl, ?_⟩; have n0_ := Aside0.mk (Kd.R_below (by (with_reducible repeat (first | apply Kd.R_alloc | apply Kd.R_drewN | apply Kd.R_drew)); exact HO_3.out) hb); have n1_ := Aside0.mk (Kd.R_below (by (with_reducible repeat (first | apply Kd.R_alloc | apply Kd.R_drewN | apply Kd.R_drew)); exact HO_10.out) hb); have n2_ := Aside0.mk (blk_below (g := gb479) (o := .cells #[.int .i64 9, .int .i64 0, .int .i64 1099511627776] 24 (0, 0)) (by (with_reducible repeat (first | refine blk_drewN ?_ _ | refine blk_drew ?_ | refine blk_alloc ?_ _)); exact BK479.out) hb); have n3_ := Aside0.mk (below_step (by repeat (first | (with_reducible first | exact HB.out | apply below_alloc | apply pw_below_drewN | apply below_drew1 | refine below_set ?_ GE479.out) | exact HB.out)) hb); clear HO_3; clear HO_10; clear BK479; clear HB; have HO_3 := n0_; have HO_10 := n1_; have BK479 := n2_; have HB := n3_; clear n0_ n1_ n2_ n3_; (try clear hb); (try clear hb2); (try clear hk); (try clear hi)))
          go_ret
          exact ⟨by first | rfl | (simp [errW_none, errW_some] <;> rfl) | (simp only [← hji55]; first | rfl | (simp [errW_none, errW_some] <;> rfl)) | (simp [*, errW_none, errW_some] <;> rfl), by repeat (first | (with_reducible first | exact HB.out | apply below_alloc | apply pw_below_drewN | apply below_drew1 | refine below_set ?_ GE479.out) | exact HB.out)⟩
         ·replace c54 := Bool.eq_false_iff.mpr c54
          subst c54
          have H1 : (some false) = some r := by rw [if_neg (show ¬ (false = true) by decide)] at H; exact H
          clear H
          have H := H1
          clear H1
          obtain rfl := Option.some.inj H
          obtain ⟨Ao58, co58, eo58⟩ := Kd.R_slice HO_10.out
          subst eo58
          go_wp2_with (first | ((with_reducible refine gate_callee (f := 26) rfl ?_); refine goesL_ (some 76) rfl rfl Try.func26 (by kernel_rfl) rfl #[] rfl (by (try simp only [List.map_toArray, List.map_cons, List.map_nil]); first | done | rfl | (simp only [List.length_drop, List.length_take]; rfl)) ?_; (with_reducible refine (ephemerislaw23_awake.calls kj29  false _ A53.out).mono ?_); rintro e w59 ⟨rfl, hb⟩; refine ⟨_, rfl, ?_⟩; have n0_ := Aside0.mk (Kd.R_below (by (with_reducible repeat (first | apply Kd.R_alloc | apply Kd.R_drewN | apply Kd.R_drew)); exact HO_3.out) hb); have n1_ := Aside0.mk (Kd.R_below (by (with_reducible repeat (first | apply Kd.R_alloc | apply Kd.R_drewN | apply Kd.R_drew)); exact HO_10.out) hb); have n2_ := Aside0.mk (blk_below (g := gb479) (o := .cells #[.int .i64 9, .int .i64 0, .int .i64 1099511627776] 24 (0, 0)) (by (with_reducible repeat (first | refine blk_drewN ?_ _ | refine blk_drew ?_ | refine blk_alloc ?_ _)); exact BK479.out) hb); have n3_ := Aside0.mk (below_step (by repeat (first | (with_reducible first | exact HB.out | apply below_alloc | apply pw_below_drewN | apply below_drew1 | refine below_set ?_ GE479.out) | exact HB.out)) hb); clear HO_3; clear HO_10; clear BK479; clear HB; have HO_3 := n0_; have HO_10 := n1_; have BK479 := n2_; have HB := n3_; clear n0_ n1_ n2_ n3_; (try clear hb); (try clear hb2); (try clear hk); (try clear hi)))
          go_ret
          exact ⟨by first | rfl | (simp [errW_none, errW_some] <;> rfl) | (simp [*, errW_none, errW_some] <;> rfl), by repeat (first | (with_reducible first | exact HB.out | apply below_alloc | apply pw_below_drewN | apply below_drew1 | refine below_set ?_ GE479.out) | exact HB.out)⟩

end Go.Proofs.Ytapagoaoglmegaa.PCl
