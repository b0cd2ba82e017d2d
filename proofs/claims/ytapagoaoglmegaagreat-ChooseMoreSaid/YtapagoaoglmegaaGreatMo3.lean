/- Texts of mine, joined by shake.py: PClx2, PClx81, PClx82, ClPlain, ClMem. -/
import Derived.Deep.RegionHeld3
import Derived.Test.YtapagoaoglmegaaGreatMo0
import Derived.Test.YtapagoaoglmegaaGreatMo2
section
namespace Go.Proofs.YtapagoaoglmegaaGreat.PCl
open Go.RowKit Go.Proofs.YtapagoaoglmegaaGreatW.PrintWords Go.Proofs.YtapagoaoglmegaaGreatW.PrintLast Go.Proofs.YtapagoaoglmegaaGreatW.PrintMore
attribute [local go_sem] max2_int min2_int max_two min_two max_three min_three max_four min_four
set_option linter.unusedVariables false
set_option linter.unusedSimpArgs false
def fix_Clamp.f (a0 : Int) (a1 : Int) (a2 : Int) : Option (Int) := if a0 < a1 then (some a1) else (if a0 > a2 then (some a2) else (some a0))
set_option maxHeartbeats 8000000 in
set_option maxRecDepth 100000 in
theorem fix_Clamp.calls (a0 : Int) (a1 : Int) (a2 : Int) (r : Int) (w : World) (h : fix_Clamp.f a0 a1 a2 = some r) :
  Calls Tryz.prog 108 #[.int .i64 a0, .int .i64 a1, .int .i64 a2] w fun e w' => e = .returned (.int .i64 r) ∧ Drawn0 w w' := by
 have H : (if a0 < a1 then (some a1) else (if a0 > a2 then (some a2) else (some a0))) = some r := h
 clear h
 by_cases c4 : a0 < a1
 ·rw [if_pos c4] at H
  have c4b0 : decide (a0 < a1) = true := decide_eq_true c4
  clear c4
  obtain rfl := Option.some.inj H
  go_enter Tryz.func108, Tryz.ntmps108
  go_wp2
  go_ret
  exact ⟨by first | rfl | (simp; done) | (simp [*]; done), by repeat (first | exact Drawn0.refl _ | apply Drawn0.step)⟩
 ·rw [if_neg c4] at H
  have c4b0 : decide (a0 < a1) = false := decide_eq_false c4
  clear c4
  by_cases c5 : a0 > a2
  ·rw [if_pos c5] at H
   have c5b0 : decide (a2 < a0) = true := decide_eq_true c5
   clear c5
   obtain rfl := Option.some.inj H
   go_enter Tryz.func108, Tryz.ntmps108
   go_wp2
   go_ret
   exact ⟨by first | rfl | (simp; done) | (simp [*]; done), by repeat (first | exact Drawn0.refl _ | apply Drawn0.step)⟩
  ·rw [if_neg c5] at H
   have c5b0 : decide (a2 < a0) = false := decide_eq_false c5
   clear c5
   obtain rfl := Option.some.inj H
   go_enter Tryz.func108, Tryz.ntmps108
   go_wp2
   go_ret
   exact ⟨by first | rfl | (simp; done) | (simp [*]; done), by repeat (first | exact Drawn0.refl _ | apply Drawn0.step)⟩
def span_brought.f (a0 : Int) : Option (Int) := (fix_Clamp.f a0 0 4611686018427387904).bind fun t101 => (some t101)
set_option maxHeartbeats 8000000 in
set_option maxRecDepth 100000 in
theorem span_brought.calls (a0 : Int) (r : Int) (w : World) (h : span_brought.f a0 = some r) :
  Calls Tryz.prog 118 #[.int .i64 a0] w fun e w' => e = .returned (.int .i64 r) ∧ Drawn0 w w' := by
 have H : ((fix_Clamp.f a0 0 4611686018427387904).bind fun t101 => (some t101)) = some r := h
 clear h
 replace H := Option.bind_eq_some_iff.mp H
 obtain ⟨t101, A20, H⟩ := H
 replace H : (some t101) = some r := H
 have A2 := Aside0.mk A20
 clear A20
 obtain rfl := Option.some.inj H
 go_enter Tryz.func118, Tryz.ntmps118
 go_wp2_with (first | ((with_reducible refine gate_callee (f := 108) rfl ?_); refine goesL_ (some 4) rfl rfl Tryz.func108 (by kernel_rfl) rfl #[.int .i64 a0, .int .i64 0, .int .i64 4611686018427387904] rfl (by (try simp only [List.map_toArray, List.map_cons, List.map_nil]); first | done | rfl | (simp only [List.length_drop, List.length_take]; rfl)) ?_; (with_reducible refine (fix_Clamp.calls a0 0 4611686018427387904 t101 _ A2.out).mono ?_); rintro e w' ⟨rfl, ⟨nd, rfl⟩⟩; refine ⟨_, rfl, ?_⟩))
 go_ret
 exact ⟨by first | rfl | (simp; done) | (simp [*]; done), by repeat (first | exact Drawn0.refl _ | apply Drawn0.step)⟩
def span_times.l0 : Nat → List Int → Int → Int → Option (Bool)
 | 0, _, _, _ => none
 | k + 1, x5, x6, x7 => if x7 < x6 then (if 0 ≤ x7 then (if x7 < (x5.length : Int) then ((span_brought.f (rd x5 x7)).bind fun t103 => (if (rd x5 x7) = t103 then (span_times.l0 k x5 x6 (wrap64 (x7 + 1))) else (some false))) else (none)) else (none)) else (some true)
def span_times.f (k : Nat) (l0 : List Int) : Option (Bool) := span_times.l0 k l0 (l0.length : Int) 0
theorem span_times.mono_l : ∀ k, (∀ y0 y1 y2, LeO (span_times.l0 k y0 y1 y2) (span_times.l0 (k + 1) y0 y1 y2))
 | 0 => fun _ _ _ r h => by simp [span_times.l0] at h
 | k + 1 => by
  have ih0 := span_times.mono_l k
  ·intro y0 y1 y2
   unfold span_times.l0
   repeat' first
   | (with_reducible exact ih0 _ _ _)
   | (with_reducible exact LeO.refl _)
   | (with_reducible exact LeO.none _)
   | (with_reducible refine LeO.ite ?_ ?_)
   | (with_reducible refine LeO.bind ?_ (fun _ => ?_))
   | exact ih0 _ _ _
   | exact LeO.none _
   | refine LeO.ite ?_ ?_
   | refine LeO.bind ?_ (fun _ => ?_)
theorem span_times.mono : ∀ a0 k, LeO (span_times.f k a0) (span_times.f (k + 1) a0) := by
 intro a0 k
 have ih0 := span_times.mono_l k
 unfold span_times.f
 repeat' first
   | (with_reducible exact ih0 _ _ _)
   | (with_reducible exact LeO.refl _)
   | (with_reducible exact LeO.none _)
   | (with_reducible refine LeO.ite ?_ ?_)
   | (with_reducible refine LeO.bind ?_ (fun _ => ?_))
   | exact ih0 _ _ _
   | exact LeO.none _
   | refine LeO.ite ?_ ?_
   | refine LeO.bind ?_ (fun _ => ?_)
set_option maxHeartbeats 8000000 in
set_option maxRecDepth 100000 in
theorem span_times.calls (k : Nat) (A0 : Option Addr) (c0 : Nat) (l0 : List Int) (r : Bool) (w : World) (hr0 : Kd.C (Kd.int .i64) w A0 l0.length l0) (hc0 : l0.length ≤ c0) (h : span_times.f k l0 = some r) :
  Calls Tryz.prog 78 #[.slice A0 l0.length c0] w fun e w' => e = .returned (.bool r) ∧ Drawn0 w w' := by
 have HR0 := Aside0.mk hr0
 have HC0 := Aside0.mk hc0
 clear hr0 hc0
 have H : (span_times.l0 k l0 (l0.length : Int) 0) = some r := h
 clear h
 have H' := Aside0.mk H
 clear H
 go_enter Tryz.func78, Tryz.ntmps78
 go_wp2
 go_loopg [7] k (fun kq v7 w' => ∃ (x7_1 : Int), v7 = .int .i64 x7_1 ∧ Aside0 (span_times.l0 kq l0 (l0.length : Int) x7_1 = some r) ∧ Aside0 (kq ≤ k) ∧ Drawn0 w w')
 case atStart => exact ⟨(0), (by first | rfl | (simp; done) | (simp [*]; done)), H', ⟨Nat.le_refl _⟩, by repeat (first | exact Drawn0.refl _ | apply Drawn0.step)⟩
 case round =>
  clear H'
  obtain ⟨x7_1, rfl, HA, HK1, ⟨m1, rfl⟩⟩ := hrel
  cases gk with
  | zero => exact absurd HA.out (by simp [span_times.l0])
  | succ k1 =>
   have H := HA.out
   clear HA
   simp only [span_times.l0] at H
   by_cases c2 : x7_1 < (l0.length : Int)
   ·rw [if_pos c2] at H
    have c2b0 : decide (x7_1 < (l0.length : Int)) = true := decide_eq_true c2
    clear c2
    by_cases c3 : 0 ≤ x7_1
    ·rw [if_pos c3] at H
     have c3b0 : decide (0 ≤ x7_1) = true := decide_eq_true c3
     clear c3
     by_cases c4 : x7_1 < (l0.length : Int)
     ·rw [if_pos c4] at H
      have c4b0 : decide (x7_1 < (l0.length : Int)) = true := decide_eq_true c4
      clear c4
      replace H := Option.bind_eq_some_iff.mp H
      obtain ⟨t103, A50, H⟩ := H
      replace H : (if (rd l0 x7_1) = t103 then (span_times.l0 k1 l0 (l0.length : Int) (wrap64 (x7_1 + 1))) else (some false)) = some r := H
      have A5 := Aside0.mk A50
      clear A50
      by_cases c6 : (rd l0 x7_1) = t103
      ·rw [if_pos c6] at H
       have c6b0 : ((rd l0 x7_1) == t103) = true := beq_iff_eq.mpr c6
       have c6b1 : ((rd l0 x7_1) != t103) = false := bne_eq_false_iff_eq.mpr c6
       clear c6
       have H' := Aside0.mk H
       clear H
       have p102 : 0 ≤ (x7_1 : Int) := of_decide_eq_true (by first | (with_reducible assumption) | assumption)
       have q102 : x7_1 < (l0.length : Int) := of_decide_eq_true (by first | (with_reducible assumption) | assumption)
       obtain ⟨ad102, e102, hx102_0⟩ := Kd.at_int HR0.out x7_1 p102 q102
       cases e102
       replace p102 := eq_true p102
       replace q102 := eq_true q102
       go_wp2_with (first | ((with_reducible refine gate_callee (f := 118) rfl ?_); refine goesL_ (some 13) rfl rfl Tryz.func118 (by kernel_rfl) rfl #[.int .i64 (rd l0 x7_1)] rfl (by (try simp only [List.map_toArray, List.map_cons, List.map_nil]); first | done | rfl | (simp only [List.length_drop, List.length_take]; rfl)) ?_; (with_reducible refine (span_brought.calls (rd l0 x7_1) t103 _ A5.out).mono ?_); rintro e w' ⟨rfl, ⟨nd, rfl⟩⟩; refine ⟨_, rfl, ?_⟩))
       go_roundg k1
       case measure => have := HK1.out; omega
       case rel => exact ⟨(wrap64 (x7_1 + 1)), (by first | rfl | (simp; done) | (simp [*]; done)), H', ⟨by have := HK1.out; omega⟩, by repeat (first | exact Drawn0.refl _ | apply Drawn0.step)⟩
      ·rw [if_neg c6] at H
       have c6b0 : ((rd l0 x7_1) == t103) = false := beq_eq_false_iff_ne.mpr c6
       have c6b1 : ((rd l0 x7_1) != t103) = true := bne_iff_ne.mpr c6
       obtain rfl := Option.some.inj H
       have p102 : 0 ≤ (x7_1 : Int) := of_decide_eq_true (by first | (with_reducible assumption) | assumption)
       have q102 : x7_1 < (l0.length : Int) := of_decide_eq_true (by first | (with_reducible assumption) | assumption)
       obtain ⟨ad102, e102, hx102_0⟩ := Kd.at_int HR0.out x7_1 p102 q102
       cases e102
       replace p102 := eq_true p102
       replace q102 := eq_true q102
       go_wp2_with (first | ((with_reducible refine gate_callee (f := 118) rfl ?_); refine goesL_ (some 13) rfl rfl Tryz.func118 (by kernel_rfl) rfl #[.int .i64 (rd l0 x7_1)] rfl (by (try simp only [List.map_toArray, List.map_cons, List.map_nil]); first | done | rfl | (simp only [List.length_drop, List.length_take]; rfl)) ?_; (with_reducible refine (span_brought.calls (rd l0 x7_1) t103 _ A5.out).mono ?_); rintro e w' ⟨rfl, ⟨nd, rfl⟩⟩; refine ⟨_, rfl, ?_⟩))
       go_ret
       exact ⟨by first | rfl | (simp; done) | (simp [*]; done), by repeat (first | exact Drawn0.refl _ | apply Drawn0.step)⟩
     ·rw [if_neg c4] at H
      exact absurd H (by simp)
    ·rw [if_neg c3] at H
     exact absurd H (by simp)
   ·rw [if_neg c2] at H
    have c2b0 : decide (x7_1 < (l0.length : Int)) = false := decide_eq_false c2
    clear c2
    obtain rfl := Option.some.inj H
    go_wp2
    go_ret
    exact ⟨by first | rfl | (simp; done) | (simp [*]; done), by repeat (first | exact Drawn0.refl _ | apply Drawn0.step)⟩
def span_May.f (k : Nat) (a0_0 : Int) (a0_1 : Int) (a0_2 : Int) : Option (Bool) := (span_times.f k (([a0_0, a0_1, a0_2] : List Int))).bind fun t108 => (if t108 = true then (some (decide (a0_1 ≤ a0_2))) else (some false))
theorem span_May.mono : ∀ a0 a1 a2 k, LeO (span_May.f k a0 a1 a2) (span_May.f (k + 1) a0 a1 a2) := by
 intro a0 a1 a2 k
 unfold span_May.f
 repeat' first
   | (with_reducible exact span_times.mono _ _)
   | (with_reducible exact LeO.refl _)
   | (with_reducible exact LeO.none _)
   | (with_reducible refine LeO.ite ?_ ?_)
   | (with_reducible refine LeO.bind ?_ (fun _ => ?_))
   | exact span_times.mono _ _
   | exact LeO.none _
   | refine LeO.ite ?_ ?_
   | refine LeO.bind ?_ (fun _ => ?_)
set_option maxHeartbeats 8000000 in
set_option maxRecDepth 100000 in
theorem span_May.calls (k : Nat) (a0_0 : Int) (a0_1 : Int) (a0_2 : Int) (r : Bool) (w : World) (h : span_May.f k a0_0 a0_1 a0_2 = some r) :
  Calls Tryz.prog 35 #[.agg #[.int .i64 a0_0, .int .i64 a0_1, .int .i64 a0_2]] w fun e w' => e = .returned (.bool r) ∧ Below w.heap.size w w' := by
 have hu25 := Tryz.underlying25
 have HB := Aside0.mk (Below.refl w.heap.size w)
 have H : ((span_times.f k (([a0_0, a0_1, a0_2] : List Int))).bind fun t108 => (if t108 = true then (some (decide (a0_1 ≤ a0_2))) else (some false))) = some r := h
 clear h
 obtain ⟨y105, hy105⟩ : ∃ y_ : List Int, y_ = (([a0_0, a0_1, a0_2] : List Int)) := ⟨_, rfl⟩
 replace H : ((span_times.f k y105).bind fun t108 => (if t108 = true then (some (decide (a0_1 ≤ a0_2))) else (some false))) = some r := by first | (rw [hy105]; with_reducible exact H) | (have H2_ := (Option.bind_some _ _).symm.trans H; rw [hy105]; with_reducible exact H2_) | (have H2_ := (Option.bind_some _ _).symm.trans H; with_reducible exact H2_) | with_reducible exact H | (rw [hy105]; exact H) | exact H
 have Ny105 := Aside0.mk hy105
 clear hy105
 replace H := Option.bind_eq_some_iff.mp H
 obtain ⟨t108, A20, H⟩ := H
 replace H : (if t108 = true then (some (decide (a0_1 ≤ a0_2))) else (some false)) = some r := H
 have A2 := Aside0.mk A20
 clear A20
 by_cases c3 : t108 = true
 ·subst c3
  have H1 : (some (decide (a0_1 ≤ a0_2))) = some r := by rw [if_pos rfl] at H; exact H
  clear H
  have H := H1
  clear H1
  obtain rfl := Option.some.inj H
  go_enter Tryz.func35, Tryz.ntmps35
  go_wp2_with (first | ((with_reducible refine gate_dst (N := 1) rfl ?_); refine box_event ?hg (N := 1) ?hd (cs := #[.int .i64 a0_0, .int .i64 a0_1, .int .i64 a0_2]) (t := 25) ?hr ?_; (case hd => rfl); (case hg => rfl); (case hr => first | (go_simp; done) | (go_simp; rfl)); intro gb104 hg w4 hbox hb; have n0_ := Aside0.mk (below_step (by repeat (first | (with_reducible first | exact HB.out | apply below_alloc | apply pw_below_drewN | apply below_drew1) | exact HB.out)) hb); have n1_ := Aside0.mk (hbox); have n2_ := Aside0.mk ((by rw [hg]; exact (below_size (by repeat (first | (with_reducible first | exact HB.out | apply below_alloc | apply pw_below_drewN | apply below_drew1) | exact HB.out))) : w.heap.size ≤ gb104)); have n3_ := Aside0.mk ((by rw [hg]; exact (below_size (by repeat (first | (with_reducible first | exact HB.out | apply below_alloc | apply pw_below_drewN | apply below_drew1) | exact HB.out))) : w.heap.size ≤ gb104)); clear HB; have HB := n0_; have BK104 := n1_; have GW104 := n2_; have GE104 := n3_; clear n0_ n1_ n2_ n3_; clear hb hbox hg; have hcz5_0 : w4.cell? ⟨gb104, 0, none⟩ = some (.int .i64 a0_0) := (blk_cell BK104.out 0).trans rfl; have hcz5_1 : w4.cell? ⟨gb104, 1, none⟩ = some (.int .i64 a0_1) := (blk_cell BK104.out 1).trans rfl; have hcz5_2 : w4.cell? ⟨gb104, 2, none⟩ = some (.int .i64 a0_2) := (blk_cell BK104.out 2).trans rfl; have hfz5_0 := blk_frozen BK104.out 0; have hfz5_1 := blk_frozen BK104.out 1; have hfz5_2 := blk_frozen BK104.out 2) | ((with_reducible refine gate_dst (N := 9) rfl ?_); refine Kd.R_lit (Kd.int .i64) _ 2 ?hg (N := 9) ?hd (xs := ([a0_0, a0_1, a0_2] : List Int)) (inner := [.int .i64 a0_0, .int .i64 a0_1, .int .i64 a0_2]) (ok := fun _ => True) (okp := fun _ => True) ?hr ?hp (fun _ hk => hk) trivial (Below.refl _ _) (Nat.le_refl _) (by simp) ?_; (case hd => rfl); (case hg => rfl); (case hr => first | (go_simp; done) | (go_simp; rfl)); (case hp => exact (Reps.one (show Kd.M (Kd.int .i64) _ _ _ a0_0 [.int .i64 a0_0] from rfl) (Reps.one (show Kd.M (Kd.int .i64) _ _ _ a0_1 [.int .i64 a0_1] from rfl) (Reps.one (show Kd.M (Kd.int .i64) _ _ _ a0_2 [.int .i64 a0_2] from rfl) (Reps.none _ _))))); intro v106 w6 ho7 hb hg_ hnew_; clear hg_ hnew_; (first | rw [← Ny105.out] at ho7 | (simp only [Int.reduceToNat] at ho7; rw [← Ny105.out] at ho7)); have n0_ := Aside0.mk (Kd.R_lower ho7 (below_size (by repeat (first | (with_reducible first | exact HB.out | apply below_alloc | apply pw_below_drewN | apply below_drew1 | refine below_set ?_ GE104.out) | exact HB.out)))); have n1_ := Aside0.mk (blk_below (g := gb104) (o := .cells #[.int .i64 a0_0, .int .i64 a0_1, .int .i64 a0_2] 25 (0, 0)) (by (with_reducible repeat (first | refine blk_drewN ?_ _ | refine blk_drew ?_ | refine blk_alloc ?_ _)); exact BK104.out) hb); have n2_ := Aside0.mk (below_step (by repeat (first | (with_reducible first | exact HB.out | apply below_alloc | apply pw_below_drewN | apply below_drew1 | refine below_set ?_ GE104.out) | exact HB.out)) hb); clear BK104; clear HB; have HO107 := n0_; have BK104 := n1_; have HB := n2_; clear n0_ n1_ n2_; clear hb ho7; obtain ⟨Ao8, co8, eo8⟩ := Kd.R_slice HO107.out; subst eo8) | ((with_reducible refine gate_callee (f := 78) rfl ?_); refine goesL_ (some 10) rfl rfl Tryz.func78 (by kernel_rfl) rfl #[.slice Ao8 y105.length co8] rfl (by (try simp only [List.map_toArray, List.map_cons, List.map_nil]); first | done | rfl | (simp only [List.length_drop, List.length_take]; rfl)) ?_; (with_reducible refine (span_times.calls k _ _ y105 true _ ?side1 ?side2 A2.out).mono ?_); (case side1 => repeat (first | exact (Kd.R_reads' HO107.out).2.2 | (with_reducible refine Kd.C_alloc ?_ _) | (with_reducible refine Kd.C_drewN ?_ _) | (with_reducible refine Kd.C_drew ?_))); (case side2 => exact (Kd.R_reads' HO107.out).2.1); rintro e w' ⟨rfl, ⟨nd, rfl⟩⟩; refine ⟨_, rfl, ?_⟩; have hcz9_0 : w6.cell? ⟨gb104, 0, none⟩ = some (.int .i64 a0_0) := (blk_cell BK104.out 0).trans rfl; have hcz9_1 : w6.cell? ⟨gb104, 1, none⟩ = some (.int .i64 a0_1) := (blk_cell BK104.out 1).trans rfl; have hcz9_2 : w6.cell? ⟨gb104, 2, none⟩ = some (.int .i64 a0_2) := (blk_cell BK104.out 2).trans rfl; have hfz9_0 := blk_frozen BK104.out 0; have hfz9_1 := blk_frozen BK104.out 1; have hfz9_2 := blk_frozen BK104.out 2))
  go_ret
  exact ⟨by first | rfl | (simp [errW_none, errW_some] <;> rfl) | (simp [*, errW_none, errW_some] <;> rfl), by repeat (first | (with_reducible first | exact HB.out | apply below_alloc | apply pw_below_drewN | apply below_drew1 | refine below_set ?_ GE104.out) | exact HB.out)⟩
 ·replace c3 := Bool.eq_false_iff.mpr c3
  subst c3
  have H1 : (some false) = some r := by rw [if_neg (show ¬ (false = true) by decide)] at H; exact H
  clear H
  have H := H1
  clear H1
  obtain rfl := Option.some.inj H
  go_enter Tryz.func35, Tryz.ntmps35
  go_wp2_with (first | ((with_reducible refine gate_dst (N := 1) rfl ?_); refine box_event ?hg (N := 1) ?hd (cs := #[.int .i64 a0_0, .int .i64 a0_1, .int .i64 a0_2]) (t := 25) ?hr ?_; (case hd => rfl); (case hg => rfl); (case hr => first | (go_simp; done) | (go_simp; rfl)); intro gb104 hg w10 hbox hb; have n0_ := Aside0.mk (below_step (by repeat (first | (with_reducible first | exact HB.out | apply below_alloc | apply pw_below_drewN | apply below_drew1) | exact HB.out)) hb); have n1_ := Aside0.mk (hbox); have n2_ := Aside0.mk ((by rw [hg]; exact (below_size (by repeat (first | (with_reducible first | exact HB.out | apply below_alloc | apply pw_below_drewN | apply below_drew1) | exact HB.out))) : w.heap.size ≤ gb104)); have n3_ := Aside0.mk ((by rw [hg]; exact (below_size (by repeat (first | (with_reducible first | exact HB.out | apply below_alloc | apply pw_below_drewN | apply below_drew1) | exact HB.out))) : w.heap.size ≤ gb104)); clear HB; have HB := n0_; have BK104 := n1_; have GW104 := n2_; have GE104 := n3_; clear n0_ n1_ n2_ n3_; clear hb hbox hg; have hcz11_0 : w10.cell? ⟨gb104, 0, none⟩ = some (.int .i64 a0_0) := (blk_cell BK104.out 0).trans rfl; have hcz11_1 : w10.cell? ⟨gb104, 1, none⟩ = some (.int .i64 a0_1) := (blk_cell BK104.out 1).trans rfl; have hcz11_2 : w10.cell? ⟨gb104, 2, none⟩ = some (.int .i64 a0_2) := (blk_cell BK104.out 2).trans rfl; have hfz11_0 := blk_frozen BK104.out 0; have hfz11_1 := blk_frozen BK104.out 1; have hfz11_2 := blk_frozen BK104.out 2) | ((with_reducible refine gate_dst (N := 9) rfl ?_); refine Kd.R_lit (Kd.int .i64) _ 2 ?hg (N := 9) ?hd (xs := ([a0_0, a0_1, a0_2] : List Int)) (inner := [.int .i64 a0_0, .int .i64 a0_1, .int .i64 a0_2]) (ok := fun _ => True) (okp := fun _ => True) ?hr ?hp (fun _ hk => hk) trivial (Below.refl _ _) (Nat.le_refl _) (by simp) ?_; (case hd => rfl); (case hg => rfl); (case hr => first | (go_simp; done) | (go_simp; rfl)); (case hp => exact (Reps.one (show Kd.M (Kd.int .i64) _ _ _ a0_0 [.int .i64 a0_0] from rfl) (Reps.one (show Kd.M (Kd.int .i64) _ _ _ a0_1 [.int .i64 a0_1] from rfl) (Reps.one (show Kd.M (Kd.int .i64) _ _ _ a0_2 [.int .i64 a0_2] from rfl) (Reps.none _ _))))); intro v106 w12 ho13 hb hg_ hnew_; clear hg_ hnew_; (first | rw [← Ny105.out] at ho13 | (simp only [Int.reduceToNat] at ho13; rw [← Ny105.out] at ho13)); have n0_ := Aside0.mk (Kd.R_lower ho13 (below_size (by repeat (first | (with_reducible first | exact HB.out | apply below_alloc | apply pw_below_drewN | apply below_drew1 | refine below_set ?_ GE104.out) | exact HB.out)))); have n1_ := Aside0.mk (blk_below (g := gb104) (o := .cells #[.int .i64 a0_0, .int .i64 a0_1, .int .i64 a0_2] 25 (0, 0)) (by (with_reducible repeat (first | refine blk_drewN ?_ _ | refine blk_drew ?_ | refine blk_alloc ?_ _)); exact BK104.out) hb); have n2_ := Aside0.mk (below_step (by repeat (first | (with_reducible first | exact HB.out | apply below_alloc | apply pw_below_drewN | apply below_drew1 | refine below_set ?_ GE104.out) | exact HB.out)) hb); clear BK104; clear HB; have HO107 := n0_; have BK104 := n1_; have HB := n2_; clear n0_ n1_ n2_; clear hb ho13; obtain ⟨Ao14, co14, eo14⟩ := Kd.R_slice HO107.out; subst eo14) | ((with_reducible refine gate_callee (f := 78) rfl ?_); refine goesL_ (some 10) rfl rfl Tryz.func78 (by kernel_rfl) rfl #[.slice Ao14 y105.length co14] rfl (by (try simp only [List.map_toArray, List.map_cons, List.map_nil]); first | done | rfl | (simp only [List.length_drop, List.length_take]; rfl)) ?_; (with_reducible refine (span_times.calls k _ _ y105 false _ ?side1 ?side2 A2.out).mono ?_); (case side1 => repeat (first | exact (Kd.R_reads' HO107.out).2.2 | (with_reducible refine Kd.C_alloc ?_ _) | (with_reducible refine Kd.C_drewN ?_ _) | (with_reducible refine Kd.C_drew ?_))); (case side2 => exact (Kd.R_reads' HO107.out).2.1); rintro e w' ⟨rfl, ⟨nd, rfl⟩⟩; refine ⟨_, rfl, ?_⟩))
  go_ret
  exact ⟨by first | rfl | (simp [errW_none, errW_some] <;> rfl) | (simp [*, errW_none, errW_some] <;> rfl), by repeat (first | (with_reducible first | exact HB.out | apply below_alloc | apply pw_below_drewN | apply below_drew1 | refine below_set ?_ GE104.out) | exact HB.out)⟩
def span_Width.f (k : Nat) (a0_0 : Int) (a0_1 : Int) (a0_2 : Int) : Option (Int) := (span_May.f k a0_0 a0_1 a0_2).bind fun t779 => (if t779 = true then (some (wrap64 (a0_2 - a0_1))) else (some 0))
theorem span_Width.mono : ∀ a0 a1 a2 k, LeO (span_Width.f k a0 a1 a2) (span_Width.f (k + 1) a0 a1 a2) := by
 intro a0 a1 a2 k
 unfold span_Width.f
 repeat' first
   | (with_reducible exact span_May.mono _ _ _ _)
   | (with_reducible exact LeO.refl _)
   | (with_reducible exact LeO.none _)
   | (with_reducible refine LeO.ite ?_ ?_)
   | (with_reducible refine LeO.bind ?_ (fun _ => ?_))
   | exact span_May.mono _ _ _ _
   | exact LeO.none _
   | refine LeO.ite ?_ ?_
   | refine LeO.bind ?_ (fun _ => ?_)
set_option maxHeartbeats 8000000 in
set_option maxRecDepth 100000 in
theorem span_Width.calls (k : Nat) (a0_0 : Int) (a0_1 : Int) (a0_2 : Int) (r : Int) (w : World) (h : span_Width.f k a0_0 a0_1 a0_2 = some r) :
  Calls Tryz.prog 132 #[.agg #[.int .i64 a0_0, .int .i64 a0_1, .int .i64 a0_2]] w fun e w' => e = .returned (.int .i64 r) ∧ Below w.heap.size w w' := by
 have hu25 := Tryz.underlying25
 have HB := Aside0.mk (Below.refl w.heap.size w)
 have H : ((span_May.f k a0_0 a0_1 a0_2).bind fun t779 => (if t779 = true then (some (wrap64 (a0_2 - a0_1))) else (some 0))) = some r := h
 clear h
 replace H := Option.bind_eq_some_iff.mp H
 obtain ⟨t779, A20, H⟩ := H
 replace H : (if t779 = true then (some (wrap64 (a0_2 - a0_1))) else (some 0)) = some r := H
 have A2 := Aside0.mk A20
 clear A20
 by_cases c3 : t779 = true
 ·subst c3
  have H1 : (some (wrap64 (a0_2 - a0_1))) = some r := by rw [if_pos rfl] at H; exact H
  clear H
  have H := H1
  clear H1
  obtain rfl := Option.some.inj H
  go_enter Tryz.func132, Tryz.ntmps132
  go_wp2_with (first | ((with_reducible refine gate_dst (N := 1) rfl ?_); refine box_event ?hg (N := 1) ?hd (cs := #[.int .i64 a0_0, .int .i64 a0_1, .int .i64 a0_2]) (t := 25) ?hr ?_; (case hd => rfl); (case hg => rfl); (case hr => first | (go_simp; done) | (go_simp; rfl)); intro gb778 hg w4 hbox hb; have n0_ := Aside0.mk (below_step (by repeat (first | (with_reducible first | exact HB.out | apply below_alloc | apply pw_below_drewN | apply below_drew1) | exact HB.out)) hb); have n1_ := Aside0.mk (hbox); have n2_ := Aside0.mk ((by rw [hg]; exact (below_size (by repeat (first | (with_reducible first | exact HB.out | apply below_alloc | apply pw_below_drewN | apply below_drew1) | exact HB.out))) : w.heap.size ≤ gb778)); have n3_ := Aside0.mk ((by rw [hg]; exact (below_size (by repeat (first | (with_reducible first | exact HB.out | apply below_alloc | apply pw_below_drewN | apply below_drew1) | exact HB.out))) : w.heap.size ≤ gb778)); clear HB; have HB := n0_; have BK778 := n1_; have GW778 := n2_; have GE778 := n3_; clear n0_ n1_ n2_ n3_; clear hb hbox hg; have hcz5_0 : w4.cell? ⟨gb778, 0, none⟩ = some (.int .i64 a0_0) := (blk_cell BK778.out 0).trans rfl; have hcz5_1 : w4.cell? ⟨gb778, 1, none⟩ = some (.int .i64 a0_1) := (blk_cell BK778.out 1).trans rfl; have hcz5_2 : w4.cell? ⟨gb778, 2, none⟩ = some (.int .i64 a0_2) := (blk_cell BK778.out 2).trans rfl; have hfz5_0 := blk_frozen BK778.out 0; have hfz5_1 := blk_frozen BK778.out 1; have hfz5_2 := blk_frozen BK778.out 2) | ((with_reducible refine gate_callee (f := 35) rfl ?_); refine goesL_ (some 4) rfl rfl Tryz.func35 (by kernel_rfl) rfl #[.agg #[.int .i64 a0_0, .int .i64 a0_1, .int .i64 a0_2]] rfl (by (try simp only [List.map_toArray, List.map_cons, List.map_nil]); first | done | rfl | (simp only [List.length_drop, List.length_take]; rfl)) ?_; (with_reducible refine (span_May.calls k a0_0 a0_1 a0_2 true _ A2.out).mono ?_); rintro e w6 ⟨rfl, hb⟩; refine ⟨_, rfl, ?_⟩; have n0_ := Aside0.mk (blk_below (g := gb778) (o := .cells #[.int .i64 a0_0, .int .i64 a0_1, .int .i64 a0_2] 25 (0, 0)) (by (with_reducible repeat (first | refine blk_drewN ?_ _ | refine blk_drew ?_ | refine blk_alloc ?_ _)); exact BK778.out) hb); have n1_ := Aside0.mk (below_step (by repeat (first | (with_reducible first | exact HB.out | apply below_alloc | apply pw_below_drewN | apply below_drew1 | refine below_set ?_ GE778.out) | exact HB.out)) hb); clear BK778; clear HB; have BK778 := n0_; have HB := n1_; clear n0_ n1_; (try clear hb); (try clear hb2); (try clear hk); (try clear hi); have hcz7_0 : w6.cell? ⟨gb778, 0, none⟩ = some (.int .i64 a0_0) := (blk_cell BK778.out 0).trans rfl; have hcz7_1 : w6.cell? ⟨gb778, 1, none⟩ = some (.int .i64 a0_1) := (blk_cell BK778.out 1).trans rfl; have hcz7_2 : w6.cell? ⟨gb778, 2, none⟩ = some (.int .i64 a0_2) := (blk_cell BK778.out 2).trans rfl; have hfz7_0 := blk_frozen BK778.out 0; have hfz7_1 := blk_frozen BK778.out 1; have hfz7_2 := blk_frozen BK778.out 2))
  go_ret
  exact ⟨by first | rfl | (simp [errW_none, errW_some] <;> rfl) | (simp [*, errW_none, errW_some] <;> rfl), by repeat (first | (with_reducible first | exact HB.out | apply below_alloc | apply pw_below_drewN | apply below_drew1 | refine below_set ?_ GE778.out) | exact HB.out)⟩
 ·replace c3 := Bool.eq_false_iff.mpr c3
  subst c3
  have H1 : (some 0) = some r := by rw [if_neg (show ¬ (false = true) by decide)] at H; exact H
  clear H
  have H := H1
  clear H1
  obtain rfl := Option.some.inj H
  go_enter Tryz.func132, Tryz.ntmps132
  go_wp2_with (first | ((with_reducible refine gate_dst (N := 1) rfl ?_); refine box_event ?hg (N := 1) ?hd (cs := #[.int .i64 a0_0, .int .i64 a0_1, .int .i64 a0_2]) (t := 25) ?hr ?_; (case hd => rfl); (case hg => rfl); (case hr => first | (go_simp; done) | (go_simp; rfl)); intro gb778 hg w8 hbox hb; have n0_ := Aside0.mk (below_step (by repeat (first | (with_reducible first | exact HB.out | apply below_alloc | apply pw_below_drewN | apply below_drew1) | exact HB.out)) hb); have n1_ := Aside0.mk (hbox); have n2_ := Aside0.mk ((by rw [hg]; exact (below_size (by repeat (first | (with_reducible first | exact HB.out | apply below_alloc | apply pw_below_drewN | apply below_drew1) | exact HB.out))) : w.heap.size ≤ gb778)); have n3_ := Aside0.mk ((by rw [hg]; exact (below_size (by repeat (first | (with_reducible first | exact HB.out | apply below_alloc | apply pw_below_drewN | apply below_drew1) | exact HB.out))) : w.heap.size ≤ gb778)); clear HB; have HB := n0_; have BK778 := n1_; have GW778 := n2_; have GE778 := n3_; clear n0_ n1_ n2_ n3_; clear hb hbox hg; have hcz9_0 : w8.cell? ⟨gb778, 0, none⟩ = some (.int .i64 a0_0) := (blk_cell BK778.out 0).trans rfl; have hcz9_1 : w8.cell? ⟨gb778, 1, none⟩ = some (.int .i64 a0_1) := (blk_cell BK778.out 1).trans rfl; have hcz9_2 : w8.cell? ⟨gb778, 2, none⟩ = some (.int .i64 a0_2) := (blk_cell BK778.out 2).trans rfl; have hfz9_0 := blk_frozen BK778.out 0; have hfz9_1 := blk_frozen BK778.out 1; have hfz9_2 := blk_frozen BK778.out 2) | ((with_reducible refine gate_callee (f := 35) rfl ?_); refine goesL_ (some 4) rfl rfl Tryz.func35 (by kernel_rfl) rfl #[.agg #[.int .i64 a0_0, .int .i64 a0_1, .int .i64 a0_2]] rfl (by (try simp only [List.map_toArray, List.map_cons, List.map_nil]); first | done | rfl | (simp only [List.length_drop, List.length_take]; rfl)) ?_; (with_reducible refine (span_May.calls k a0_0 a0_1 a0_2 false _ A2.out).mono ?_); rintro e w10 ⟨rfl, hb⟩; refine ⟨_, rfl, ?_⟩; have n0_ := Aside0.mk (blk_below (g := gb778) (o := .cells #[.int .i64 a0_0, .int .i64 a0_1, .int .i64 a0_2] 25 (0, 0)) (by (with_reducible repeat (first | refine blk_drewN ?_ _ | refine blk_drew ?_ | refine blk_alloc ?_ _)); exact BK778.out) hb); have n1_ := Aside0.mk (below_step (by repeat (first | (with_reducible first | exact HB.out | apply below_alloc | apply pw_below_drewN | apply below_drew1 | refine below_set ?_ GE778.out) | exact HB.out)) hb); clear BK778; clear HB; have BK778 := n0_; have HB := n1_; clear n0_ n1_; (try clear hb); (try clear hb2); (try clear hk); (try clear hi)))
  go_ret
  exact ⟨by first | rfl | (simp [errW_none, errW_some] <;> rfl) | (simp [*, errW_none, errW_some] <;> rfl), by repeat (first | (with_reducible first | exact HB.out | apply below_alloc | apply pw_below_drewN | apply below_drew1 | refine below_set ?_ GE778.out) | exact HB.out)⟩
def span_Mid.f (k : Nat) (a0_0 : Int) (a0_1 : Int) (a0_2 : Int) : Option (Int) := (span_May.f k a0_0 a0_1 a0_2).bind fun t781 => (if t781 = true then ((span_Width.f k a0_0 a0_1 a0_2).bind fun t782 => (some (wrap64 (a0_1 + (wrap64 (Int.tdiv t782 2)))))) else (some 0))
theorem span_Mid.mono : ∀ a0 a1 a2 k, LeO (span_Mid.f k a0 a1 a2) (span_Mid.f (k + 1) a0 a1 a2) := by
 intro a0 a1 a2 k
 unfold span_Mid.f
 repeat' first
   | (with_reducible exact span_May.mono _ _ _ _)
   | (with_reducible exact span_Width.mono _ _ _ _)
   | (with_reducible exact LeO.refl _)
   | (with_reducible exact LeO.none _)
   | (with_reducible refine LeO.ite ?_ ?_)
   | (with_reducible refine LeO.bind ?_ (fun _ => ?_))
   | exact span_May.mono _ _ _ _
   | exact span_Width.mono _ _ _ _
   | exact LeO.none _
   | refine LeO.ite ?_ ?_
   | refine LeO.bind ?_ (fun _ => ?_)
set_option maxHeartbeats 8000000 in
set_option maxRecDepth 100000 in
theorem span_Mid.calls (k : Nat) (a0_0 : Int) (a0_1 : Int) (a0_2 : Int) (r : Int) (w : World) (h : span_Mid.f k a0_0 a0_1 a0_2 = some r) :
  Calls Tryz.prog 104 #[.agg #[.int .i64 a0_0, .int .i64 a0_1, .int .i64 a0_2]] w fun e w' => e = .returned (.int .i64 r) ∧ Below w.heap.size w w' := by
 have hu25 := Tryz.underlying25
 have HB := Aside0.mk (Below.refl w.heap.size w)
 have H : ((span_May.f k a0_0 a0_1 a0_2).bind fun t781 => (if t781 = true then ((span_Width.f k a0_0 a0_1 a0_2).bind fun t782 => (some (wrap64 (a0_1 + (wrap64 (Int.tdiv t782 2)))))) else (some 0))) = some r := h
 clear h
 replace H := Option.bind_eq_some_iff.mp H
 obtain ⟨t781, A20, H⟩ := H
 replace H : (if t781 = true then ((span_Width.f k a0_0 a0_1 a0_2).bind fun t782 => (some (wrap64 (a0_1 + (wrap64 (Int.tdiv t782 2)))))) else (some 0)) = some r := H
 have A2 := Aside0.mk A20
 clear A20
 by_cases c3 : t781 = true
 ·subst c3
  have H1 : ((span_Width.f k a0_0 a0_1 a0_2).bind fun t782 => (some (wrap64 (a0_1 + (wrap64 (Int.tdiv t782 2)))))) = some r := by rw [if_pos rfl] at H; exact H
  clear H
  have H := H1
  clear H1
  replace H := Option.bind_eq_some_iff.mp H
  obtain ⟨t782, A40, H⟩ := H
  replace H : (some (wrap64 (a0_1 + (wrap64 (Int.tdiv t782 2))))) = some r := H
  have A4 := Aside0.mk A40
  clear A40
  obtain rfl := Option.some.inj H
  go_enter Tryz.func104, Tryz.ntmps104
  try go_wp2_with (first | ((with_reducible refine gate_dst (N := 1) rfl ?_); refine box_event ?hg (N := 1) ?hd (cs := #[.int .i64 a0_0, .int .i64 a0_1, .int .i64 a0_2]) (t := 25) ?hr ?_; (case hd => rfl); (case hg => rfl); (case hr => first | (go_simp; done) | (go_simp; rfl)); intro gb780 hg w5 hbox hb; have n0_ := Aside0.mk (below_step (by repeat (first | (with_reducible first | exact HB.out | apply below_alloc | apply pw_below_drewN | apply below_drew1) | exact HB.out)) hb); have n1_ := Aside0.mk (hbox); have n2_ := Aside0.mk ((by rw [hg]; exact (below_size (by repeat (first | (with_reducible first | exact HB.out | apply below_alloc | apply pw_below_drewN | apply below_drew1) | exact HB.out))) : w.heap.size ≤ gb780)); have n3_ := Aside0.mk ((by rw [hg]; exact (below_size (by repeat (first | (with_reducible first | exact HB.out | apply below_alloc | apply pw_below_drewN | apply below_drew1) | exact HB.out))) : w.heap.size ≤ gb780)); clear HB; have HB := n0_; have BK780 := n1_; have GW780 := n2_; have GE780 := n3_; clear n0_ n1_ n2_ n3_; clear hb hbox hg; have hcz6_0 : w5.cell? ⟨gb780, 0, none⟩ = some (.int .i64 a0_0) := (blk_cell BK780.out 0).trans rfl; have hcz6_1 : w5.cell? ⟨gb780, 1, none⟩ = some (.int .i64 a0_1) := (blk_cell BK780.out 1).trans rfl; have hcz6_2 : w5.cell? ⟨gb780, 2, none⟩ = some (.int .i64 a0_2) := (blk_cell BK780.out 2).trans rfl; have hfz6_0 := blk_frozen BK780.out 0; have hfz6_1 := blk_frozen BK780.out 1; have hfz6_2 := blk_frozen BK780.out 2) | ((with_reducible refine gate_callee (f := 35) rfl ?_); refine goesL_ (some 4) rfl rfl Tryz.func35 (by kernel_rfl) rfl #[.agg #[.int .i64 a0_0, .int .i64 a0_1, .int .i64 a0_2]] rfl (by (try simp only [List.map_toArray, List.map_cons, List.map_nil]); first | done | rfl | (simp only [List.length_drop, List.length_take]; rfl)) ?_; (with_reducible refine (span_May.calls k a0_0 a0_1 a0_2 true _ A2.out).mono ?_); rintro e w7 ⟨rfl, hb⟩; refine ⟨_, rfl, ?_⟩; have n0_ := Aside0.mk (blk_below (g := gb780) (o := .cells #[.int .i64 a0_0, .int .i64 a0_1, .int .i64 a0_2] 25 (0, 0)) (by (with_reducible repeat (first | refine blk_drewN ?_ _ | refine blk_drew ?_ | refine blk_alloc ?_ _)); exact BK780.out) hb); have n1_ := Aside0.mk (below_step (by repeat (first | (with_reducible first | exact HB.out | apply below_alloc | apply pw_below_drewN | apply below_drew1 | refine below_set ?_ GE780.out) | exact HB.out)) hb); clear BK780; clear HB; have BK780 := n0_; have HB := n1_; clear n0_ n1_; (try clear hb); (try clear hb2); (try clear hk); (try clear hi)))
  have n0_ := Aside0.mk (blk_drew BK780.out)
  have n1_ := Aside0.mk (below_drew1 HB.out)
  clear BK780
  clear HB
  have BK780 := n0_
  have HB := n1_
  clear n0_ n1_
  refine start_ (n := 7) (S := fun w' => w'.cell? ⟨gb780, 0, none⟩ = some (.int .i64 a0_0) ∧ w'.cell? ⟨gb780, 1, none⟩ = some (.int .i64 a0_1) ∧ w'.cell? ⟨gb780, 2, none⟩ = some (.int .i64 a0_2)) (ds := []) #[false, false, false, false, false, false, false] (by kernel_rfl) rfl rfl ⟨(blk_cell BK780.out 0).trans rfl, (blk_cell BK780.out 1).trans rfl, (blk_cell BK780.out 2).trans rfl⟩ (fun hHeld => ?_)
  generalize w7.drew = w8 at BK780 HB hHeld ⊢
  refine pure_ (i := 0) (N := some 6) (v := ?_) (a' := ?_) #[true, false, false, false, false, false, false] rfl rfl (by kernel_rfl) (fun _ _ _ h => h) (Or.inl ⟨by rfl, ?_⟩) ?_ ?_
  rotate_left
  ·intro w'
   go_simp
   with_reducible rfl
  rotate_left
  ·simp only [Act.put, List.setIfInBounds_toArray, List.set_cons_zero, List.set_cons_succ, i64_w, i32_w]
   rfl
  refine take_ (i := 1) (N := some 7) (v := ?_) (a' := ?_) #[true, true, false, false, false, false, false] rfl rfl (by kernel_rfl) (fun _ _ _ h => h) (Or.inl ⟨by rfl, ?_⟩) hHeld ?_ ?_
  rotate_left
  ·rintro w' ⟨s0, s1, s2⟩
   go_simp
   with_reducible rfl
  rotate_left
  ·simp only [Act.put, List.setIfInBounds_toArray, List.set_cons_zero, List.set_cons_succ, i64_w, i32_w]
   rfl
  refine take_ (i := 2) (N := some 8) (v := ?_) (a' := ?_) #[true, true, true, false, false, false, false] rfl rfl (by kernel_rfl) (fun _ _ _ h => h) (Or.inl ⟨by rfl, ?_⟩) hHeld ?_ ?_
  rotate_left
  ·rintro w' ⟨s0, s1, s2⟩
   go_simp
   with_reducible rfl
  rotate_left
  ·simp only [Act.put, List.setIfInBounds_toArray, List.set_cons_zero, List.set_cons_succ, i64_w, i32_w]
   rfl
  refine one_ (i := 3) (N := some 9) #[true, true, true, true, false, false, false] rfl rfl (by kernel_rfl) (by decide) (fun K hK => ?_)
  refine goes_ Tryz.func132 (by kernel_rfl) rfl #[.agg #[.int .i64 a0_0, .int .i64 a0_1, .int .i64 a0_2]] (by rfl) rfl rfl (by (try simp only [List.map_toArray, List.map_cons, List.map_nil]); first | done | rfl | (simp only [List.length_drop, List.length_take]; rfl)) ?_
  with_reducible refine (span_Width.calls k a0_0 a0_1 a0_2 t782 _ A4.out).mono ?_
  rintro e w9 ⟨rfl, hb⟩
  refine ⟨_, rfl, ?_⟩
  have n0_ := Aside0.mk (blk_below (g := gb780) (o := .cells #[.int .i64 a0_0, .int .i64 a0_1, .int .i64 a0_2] 25 (0, 0)) (by (with_reducible repeat (first | refine blk_drewN ?_ _ | refine blk_drew ?_ | refine blk_alloc ?_ _)); exact BK780.out) hb)
  have n1_ := Aside0.mk (below_step (by repeat (first | (with_reducible first | exact HB.out | apply below_alloc | apply pw_below_drewN | apply below_drew1 | refine below_set ?_ GE780.out) | exact HB.out)) hb)
  clear BK780
  clear HB
  have BK780 := n0_
  have HB := n1_
  clear n0_ n1_
  (try clear hb)
  (try clear hb2)
  (try clear hk)
  (try clear hi)
  refine hK.out _ _ ⟨(blk_cell BK780.out 0).trans rfl, (blk_cell BK780.out 1).trans rfl, (blk_cell BK780.out 2).trans rfl⟩ (fun hHeld => ?_)
  clear hK K
  refine norm_ (a' := ?_) ?_ ?_
  rotate_left
  ·show Act.put _ (some 9) _ = _
   simp only [Act.put, List.setIfInBounds_toArray, List.set_cons_zero, List.set_cons_succ, i64_w, i32_w]
   rfl
  refine pure_ (i := 4) (N := some 10) (v := ?_) (a' := ?_) #[true, true, true, true, true, false, false] rfl rfl (by kernel_rfl) (fun _ _ _ h => h) (Or.inl ⟨by rfl, ?_⟩) ?_ ?_
  rotate_left
  ·intro w'
   go_simp
   with_reducible rfl
  rotate_left
  ·simp only [Act.put, List.setIfInBounds_toArray, List.set_cons_zero, List.set_cons_succ, i64_w, i32_w]
   rfl
  refine pure_ (i := 5) (N := some 11) (v := ?_) (a' := ?_) #[true, true, true, true, true, true, false] rfl rfl (by kernel_rfl) (fun _ _ _ h => h) (Or.inl ⟨by rfl, ?_⟩) ?_ ?_
  rotate_left
  ·intro w'
   go_simp
   with_reducible rfl
  rotate_left
  ·simp only [Act.put, List.setIfInBounds_toArray, List.set_cons_zero, List.set_cons_succ, i64_w, i32_w]
   rfl
  refine pure_ (i := 6) (N := some 2) (v := ?_) (a' := ?_) #[true, true, true, true, true, true, true] rfl rfl (by kernel_rfl) (fun _ _ _ h => h) (Or.inl ⟨by rfl, ?_⟩) ?_ ?_
  rotate_left
  ·intro w'
   go_simp
   with_reducible rfl
  rotate_left
  ·simp only [Act.put, List.setIfInBounds_toArray, List.set_cons_zero, List.set_cons_succ, i64_w, i32_w]
   rfl
  refine done_ (by kernel_rfl) ?_
  try go_wp2
  go_ret
  exact ⟨by first | rfl | (simp [errW_none, errW_some] <;> rfl) | (simp [*, errW_none, errW_some] <;> rfl), by repeat (first | (with_reducible first | exact HB.out | apply below_alloc | apply pw_below_drewN | apply below_drew1 | refine below_set ?_ GE780.out) | exact HB.out)⟩
 ·replace c3 := Bool.eq_false_iff.mpr c3
  subst c3
  have H1 : (some 0) = some r := by rw [if_neg (show ¬ (false = true) by decide)] at H; exact H
  clear H
  have H := H1
  clear H1
  obtain rfl := Option.some.inj H
  go_enter Tryz.func104, Tryz.ntmps104
  go_wp2_with (first | ((with_reducible refine gate_dst (N := 1) rfl ?_); refine box_event ?hg (N := 1) ?hd (cs := #[.int .i64 a0_0, .int .i64 a0_1, .int .i64 a0_2]) (t := 25) ?hr ?_; (case hd => rfl); (case hg => rfl); (case hr => first | (go_simp; done) | (go_simp; rfl)); intro gb780 hg w10 hbox hb; have n0_ := Aside0.mk (below_step (by repeat (first | (with_reducible first | exact HB.out | apply below_alloc | apply pw_below_drewN | apply below_drew1) | exact HB.out)) hb); have n1_ := Aside0.mk (hbox); have n2_ := Aside0.mk ((by rw [hg]; exact (below_size (by repeat (first | (with_reducible first | exact HB.out | apply below_alloc | apply pw_below_drewN | apply below_drew1) | exact HB.out))) : w.heap.size ≤ gb780)); have n3_ := Aside0.mk ((by rw [hg]; exact (below_size (by repeat (first | (with_reducible first | exact HB.out | apply below_alloc | apply pw_below_drewN | apply below_drew1) | exact HB.out))) : w.heap.size ≤ gb780)); clear HB; have HB := n0_; have BK780 := n1_; have GW780 := n2_; have GE780 := n3_; clear n0_ n1_ n2_ n3_; clear hb hbox hg; have hcz11_0 : w10.cell? ⟨gb780, 0, none⟩ = some (.int .i64 a0_0) := (blk_cell BK780.out 0).trans rfl; have hcz11_1 : w10.cell? ⟨gb780, 1, none⟩ = some (.int .i64 a0_1) := (blk_cell BK780.out 1).trans rfl; have hcz11_2 : w10.cell? ⟨gb780, 2, none⟩ = some (.int .i64 a0_2) := (blk_cell BK780.out 2).trans rfl; have hfz11_0 := blk_frozen BK780.out 0; have hfz11_1 := blk_frozen BK780.out 1; have hfz11_2 := blk_frozen BK780.out 2) | ((with_reducible refine gate_callee (f := 35) rfl ?_); refine goesL_ (some 4) rfl rfl Tryz.func35 (by kernel_rfl) rfl #[.agg #[.int .i64 a0_0, .int .i64 a0_1, .int .i64 a0_2]] rfl (by (try simp only [List.map_toArray, List.map_cons, List.map_nil]); first | done | rfl | (simp only [List.length_drop, List.length_take]; rfl)) ?_; (with_reducible refine (span_May.calls k a0_0 a0_1 a0_2 false _ A2.out).mono ?_); rintro e w12 ⟨rfl, hb⟩; refine ⟨_, rfl, ?_⟩; have n0_ := Aside0.mk (blk_below (g := gb780) (o := .cells #[.int .i64 a0_0, .int .i64 a0_1, .int .i64 a0_2] 25 (0, 0)) (by (with_reducible repeat (first | refine blk_drewN ?_ _ | refine blk_drew ?_ | refine blk_alloc ?_ _)); exact BK780.out) hb); have n1_ := Aside0.mk (below_step (by repeat (first | (with_reducible first | exact HB.out | apply below_alloc | apply pw_below_drewN | apply below_drew1 | refine below_set ?_ GE780.out) | exact HB.out)) hb); clear BK780; clear HB; have BK780 := n0_; have HB := n1_; clear n0_ n1_; (try clear hb); (try clear hb2); (try clear hk); (try clear hi)))
  go_ret
  exact ⟨by first | rfl | (simp [errW_none, errW_some] <;> rfl) | (simp [*, errW_none, errW_some] <;> rfl), by repeat (first | (with_reducible first | exact HB.out | apply below_alloc | apply pw_below_drewN | apply below_drew1 | refine below_set ?_ GE780.out) | exact HB.out)⟩
end Go.Proofs.YtapagoaoglmegaaGreat.PCl
namespace Go.Proofs.YtapagoaoglmegaaGreat
open Go.RowKit Go.Proofs.YtapagoaoglmegaaGreatW.PrintWords Go.Proofs.YtapagoaoglmegaaGreatW.PrintLast Go.Proofs.YtapagoaoglmegaaGreatW.PrintMore PCl
set_option linter.unusedVariables false
def MT : Int := 4611686018427387904
def Tm (t : Int) : Prop := 0 ≤ t ∧ t ≤ MT
instance (t : Int) : Decidable (Tm t) := by unfold Tm; infer_instance
def SpOk (s : S25) : Prop := Tm s.f0 ∧ Tm s.f1 ∧ Tm s.f2 ∧ s.f1 ≤ s.f2
instance (s : S25) : Decidable (SpOk s) := by unfold SpOk; infer_instance
def midZ (s : S25) : Int := s.f1 + (s.f2 - s.f1) / 2
theorem midZ_tm {s : S25} (h : SpOk s) : Tm (midZ s) ∧ s.f1 ≤ midZ s ∧ midZ s ≤ s.f2 := by
  unfold SpOk Tm at h; unfold Tm midZ; omega
theorem brought_f (t : Int) : span_brought.f t = some (if t < 0 then 0 else if t > MT then MT else t) := by
  unfold span_brought.f fix_Clamp.f MT
  split
  · rfl
  · split <;> rfl
theorem brought_eq (t : Int) : (t = (if t < 0 then 0 else if t > MT then MT else t)) ↔ Tm t := by
  unfold Tm MT
  split
  · omega
  · split <;> omega
theorem times_f (a b c : Int) (k : Nat) (hk : 4 ≤ k) : span_times.f k [a, b, c] = some (decide (Tm a ∧ Tm b ∧ Tm c)) := by
  obtain ⟨k, rfl⟩ : ∃ m, k = m + 4 := ⟨k - 4, by omega⟩
  unfold span_times.f
  have w1 : wrap64 (0 + 1) = 1 := by unfold wrap64; omega
  have w2 : wrap64 (1 + 1) = 2 := by unfold wrap64; omega
  have w3 : wrap64 (2 + 1) = 3 := by unfold wrap64; omega
  have r0 : rd [a, b, c] 0 = a := rfl
  have r1 : rd [a, b, c] 1 = b := rfl
  have r2 : rd [a, b, c] 2 = c := rfl
  simp only [span_times.l0, List.length_cons, List.length_nil, r0, brought_f, Option.bind_some]
  rw [if_pos (by decide), if_pos (by decide), if_pos (by decide)]
  by_cases h0 : Tm a
  · rw [if_pos ((brought_eq a).2 h0), w1, if_pos (by decide), if_pos (by decide), if_pos (by decide), r1]
    by_cases h1 : Tm b
    · rw [if_pos ((brought_eq b).2 h1), w2, if_pos (by decide), if_pos (by decide), if_pos (by decide), r2]
      by_cases h2 : Tm c
      · rw [if_pos ((brought_eq c).2 h2), w3, if_neg (by decide)]
        simp [h0, h1, h2]
      · rw [if_neg (fun e => h2 ((brought_eq c).1 e))]
        simp [h2]
    · rw [if_neg (fun e => h1 ((brought_eq b).1 e))]
      simp [h1]
  · rw [if_neg (fun e => h0 ((brought_eq a).1 e))]
    simp [h0]
theorem spMay_f (a b c : Int) (k : Nat) (hk : 4 ≤ k) : span_May.f k a b c = some (decide (SpOk ⟨a, b, c⟩)) := by
  unfold span_May.f
  rw [times_f a b c k hk]
  simp only [Option.bind_some, decide_eq_true_eq]
  unfold SpOk
  by_cases h : Tm a ∧ Tm b ∧ Tm c
  · rw [if_pos h]; simp [h.1, h.2.1, h.2.2]
  · rw [if_neg h]
    have : ¬ (Tm a ∧ Tm b ∧ Tm c ∧ b ≤ c) := fun e => h ⟨e.1, e.2.1, e.2.2.1⟩
    simp [this]
theorem width_f (a b c : Int) (k : Nat) (hk : 4 ≤ k) (h : SpOk ⟨a, b, c⟩) : span_Width.f k a b c = some (c - b) := by
  unfold span_Width.f
  rw [spMay_f a b c k hk]
  simp only [Option.bind_some, decide_eq_true h, if_true]
  have e : wrap64 (c - b) = c - b := by unfold SpOk Tm MT at h; simp only at h; unfold wrap64; omega
  rw [e]
theorem mid_f (a b c : Int) (k : Nat) (hk : 4 ≤ k) (h : SpOk ⟨a, b, c⟩) : span_Mid.f k a b c = some (midZ ⟨a, b, c⟩) := by
  unfold span_Mid.f
  rw [spMay_f a b c k hk]
  simp only [Option.bind_some, decide_eq_true h, if_true]
  rw [width_f a b c k hk h]
  simp only [Option.bind_some]
  unfold SpOk Tm MT at h
  simp only at h
  have e0 : Int.tdiv (c - b) 2 = (c - b) / 2 := Int.tdiv_eq_ediv_of_nonneg (by omega)
  rw [e0]
  have e1 : wrap64 ((c - b) / 2) = (c - b) / 2 := by unfold wrap64; omega
  rw [e1]
  have e2 : wrap64 (b + (c - b) / 2) = b + (c - b) / 2 := by unfold wrap64; omega
  rw [e2]
  rfl
def Meets (s h : S25) : Prop := SpOk s ∧ SpOk h ∧ s.f0 = h.f0 ∧ max s.f1 h.f1 ≤ min s.f2 h.f2
instance (s h : S25) : Decidable (Meets s h) := by unfold Meets; infer_instance
structure Fld (l : List S27) : Prop where
  len : l.length ≤ 16
  who : ∀ c ∈ l, 0 ≤ c.f0
  span : ∀ c ∈ l, SpOk c.f1
  at_ : ∀ c ∈ l, ∀ d ∈ l, c.f1.f0 = d.f1.f0
  jit : ∀ c ∈ l, Tm c.f2
  one : l.Pairwise (fun c d => c.f0 ≠ d.f0)
def badC (first : Int) (seen : List Int) (c : S27) : Bool := decide (c.f0 < 0) || seen.contains c.f0 || !decide (SpOk c.f1) || (c.f1.f0 != first) || decide (c.f2 < 0) || decide (MT < c.f2)
def mayGo (first : Int) : List Int → List S27 → Bool
  | _, [] => true
  | seen, c :: r => if badC first seen c = true then false else mayGo first (c.f0 :: seen) r
def mayB (l : List S27) : Bool := mayGo (rd_T27 l 0).f1.f0 [] l && decide (l.length ≤ 16)
theorem badC_no {first : Int} {seen : List Int} {c : S27} : badC first seen c = false ↔ (0 ≤ c.f0 ∧ c.f0 ∉ seen ∧ SpOk c.f1 ∧ c.f1.f0 = first ∧ Tm c.f2) := by
  unfold badC Tm
  simp
  constructor
  · rintro ⟨⟨⟨⟨⟨h1, h2⟩, h3⟩, h4⟩, h5⟩, h6⟩; exact ⟨h1, h2, h3, h4, h5, h6⟩
  · rintro ⟨h1, h2, h3, h4, h5, h6⟩; exact ⟨⟨⟨⟨⟨h1, h2⟩, h3⟩, h4⟩, h5⟩, h6⟩
theorem mayGo_iff (first : Int) : ∀ (l : List S27) (seen : List Int), mayGo first seen l = true ↔
    (∀ c ∈ l, 0 ≤ c.f0 ∧ c.f0 ∉ seen ∧ SpOk c.f1 ∧ c.f1.f0 = first ∧ Tm c.f2) ∧ l.Pairwise (fun c d => c.f0 ≠ d.f0)
  | [], seen => by simp [mayGo]
  | c :: l, seen => by
    unfold mayGo
    by_cases hb : badC first seen c = true
    · rw [if_pos hb]
      simp only [Bool.false_eq_true, false_iff]
      rintro ⟨h, _⟩
      have := badC_no.2 (h c List.mem_cons_self)
      rw [hb] at this; cases this
    · rw [if_neg hb, mayGo_iff first l]
      have hb' := badC_no.1 (by simpa using hb)
      constructor
      · rintro ⟨h, hp⟩
        refine ⟨fun d hd => ?_, List.pairwise_cons.2 ⟨fun d hd e => ?_, hp⟩⟩
        · rcases List.mem_cons.1 hd with rfl | hd
          · exact hb'
          · obtain ⟨h1, h2, h3⟩ := h d hd
            exact ⟨h1, fun e => h2 (List.mem_cons_of_mem _ e), h3⟩
        · exact (h d hd).2.1 (by rw [← e]; exact List.mem_cons_self)
      · rintro ⟨h, hp⟩
        obtain ⟨hp1, hp2⟩ := List.pairwise_cons.1 hp
        refine ⟨fun d hd => ?_, hp2⟩
        obtain ⟨h1, h2, h3⟩ := h d (List.mem_cons_of_mem _ hd)
        refine ⟨h1, fun e => ?_, h3⟩
        rcases List.mem_cons.1 e with e | e
        · exact hp1 d hd e.symm
        · exact h2 e
theorem mayB_iff (l : List S27) : mayB l = true ↔ Fld l := by
  unfold mayB
  rw [Bool.and_eq_true, mayGo_iff, decide_eq_true_eq]
  constructor
  · rintro ⟨⟨h, hp⟩, hl⟩
    exact ⟨hl, fun c hc => (h c hc).1, fun c hc => (h c hc).2.2.1, fun c hc d hd => by rw [(h c hc).2.2.2.1, (h d hd).2.2.2.1], fun c hc => (h c hc).2.2.2.2, hp⟩
  · intro h
    refine ⟨⟨fun c hc => ⟨h.who c hc, by simp, h.span c hc, ?_, h.jit c hc⟩, h.one⟩, h.len⟩
    cases l with
    | nil => cases hc
    | cons d l => exact h.at_ c hc d List.mem_cons_self
theorem Fld.sub {l m : List S27} (h : Fld l) (hs : m.Sublist l) : Fld m :=
  ⟨Nat.le_trans hs.length_le h.len, fun c hc => h.who c (hs.subset hc), fun c hc => h.span c (hs.subset hc), fun c hc d hd => h.at_ c (hs.subset hc) d (hs.subset hd), fun c hc => h.jit c (hs.subset hc), h.one.sublist hs⟩
def dist (a b : Int) : Int := if a - b < 0 then -(a - b) else a - b
def dists (l : List S27) (k : Nat) : List Int := l.map (fun c => dist (midZ c.f1) (midZ (rd_T27 l (k : Int)).f1))
def spreadZ (l : List S27) (k : Nat) : Int := if l.length < 2 then 0 else (dists l k).sum / ((l.length : Int) - 1)
theorem dist_tm {a b : Int} (ha : Tm a) (hb : Tm b) : Tm (dist a b) := by
  unfold dist Tm MT at *; split <;> omega
theorem rd_mem {l : List S27} {k : Nat} (h : k < l.length) : rd_T27 l (k : Int) ∈ l := by
  unfold rd_T27
  have : l.getD (k : Int).toNat z27 = l[k] := by simp [h]
  rw [this]; exact List.getElem_mem h
theorem rd_get {l : List S27} {k : Nat} {c : S27} (h : l[k]? = some c) : rd_T27 l (k : Int) = c := by
  unfold rd_T27; simp [h]
theorem dists_tm {l : List S27} (h : Fld l) {k : Nat} (hk : k < l.length) : ∀ d ∈ dists l k, Tm d := by
  intro d hd
  obtain ⟨c, hc, rfl⟩ := List.mem_map.1 hd
  exact dist_tm (midZ_tm (h.span c hc)).1 (midZ_tm (h.span _ (rd_mem hk))).1
def sumD (o : Int) (l : List Int) : Int := (l.map (· / o)).sum
def sumR (o : Int) (l : List Int) : Int := (l.map (· % o)).sum
theorem sum_parts (o : Int) (ho : 0 < o) (l : List Int) : sumD o l * o + sumR o l = l.sum := by
  induction l with
  | nil => simp [sumD, sumR]
  | cons d l ih =>
    unfold sumD sumR at *
    simp only [List.map_cons, List.sum_cons]
    have := Int.emod_add_mul_ediv d o
    rw [Int.add_mul]
    have e : d / o * o = o * (d / o) := Int.mul_comm _ _
    omega
theorem parts_div (o : Int) (ho : 0 < o) (l : List Int) : sumD o l + sumR o l / o = l.sum / o := by
  rw [← sum_parts o ho l, Int.add_comm (sumD o l * o), Int.add_mul_ediv_right _ _ (by omega)]
  omega
theorem sum_le (B : Int) (hB : 0 ≤ B) (l : List Int) (h : ∀ d ∈ l, 0 ≤ d ∧ d ≤ B) : 0 ≤ l.sum ∧ l.sum ≤ l.length * B := by
  induction l with
  | nil => simp
  | cons d l ih =>
    have h1 := ih (fun x hx => h x (List.mem_cons_of_mem _ hx))
    have h2 := h d List.mem_cons_self
    simp only [List.sum_cons, List.length_cons]
    have e : ((l.length + 1 : Nat) : Int) * B = (l.length : Int) * B + B := by rw [Int.natCast_add, Int.add_mul]; simp
    rw [e]
    omega
theorem sumR_le (o : Int) (ho : 0 < o) (l : List Int) : 0 ≤ sumR o l ∧ sumR o l ≤ l.length * o := by
  have := sum_le o (by omega) (l.map (· % o)) (fun d hd => by
    obtain ⟨x, _, rfl⟩ := List.mem_map.1 hd
    have := Int.emod_nonneg x (by omega : o ≠ 0)
    have := Int.emod_lt_of_pos x ho
    omega)
  simpa [sumR] using this
theorem sumD_le (o : Int) (ho : 0 < o) (l : List Int) (hd : ∀ d ∈ l, Tm d) : 0 ≤ sumD o l ∧ sumD o l ≤ l.length * (MT / o) := by
  have := sum_le (MT / o) (Int.ediv_nonneg (by unfold MT; omega) (by omega)) (l.map (· / o)) (fun d hx => by
    obtain ⟨x, hx', rfl⟩ := List.mem_map.1 hx
    have := hd x hx'
    unfold Tm at this
    exact ⟨Int.ediv_nonneg this.1 (by omega), Int.ediv_le_ediv ho this.2⟩)
  simpa [sumD] using this
set_option linter.unusedSimpArgs false
@[reducible] def oY : Bool := true
@[reducible] def oN : Bool := false
theorem spot_none {w : World} {ad : Addr} {v : Value} (h : w.cell? ad = some v) : ∃ r off, ad = ⟨r, off, none⟩ := by
  obtain ⟨r, off, spot⟩ := ad
  cases spot with
  | none => exact ⟨r, off, rfl⟩
  | some s => simp only [World.cell?] at h; split at h <;> simp_all
theorem add_zero' (ad : Addr) : ad.add 0 = ad := by unfold Addr.add; simp
theorem add_none (r off k : Nat) : (⟨r, off, none⟩ : Addr).add k = ⟨r, off + k, none⟩ := by unfold Addr.add; split <;> simp_all
theorem hid {p : Prop} (h : p) : Hid p := h
theorem take_snoc {α : Type} {l : List α} {i : Nat} {x : α} (h : l[i]? = some x) : l.take (i + 1) = l.take i ++ [x] := by
  rw [List.take_add_one, h]; rfl
def encC (c : S27) : List Value := [.int .i64 c.f0, .int .i64 c.f1.f0, .int .i64 c.f1.f1, .int .i64 c.f1.f2, .int .i64 c.f2]
def At5 (w : World) (r o : Nat) (c : S27) : Prop :=
  w.cell? ⟨r, o, none⟩ = some (.int .i64 c.f0) ∧ w.cell? ⟨r, o + 1, none⟩ = some (.int .i64 c.f1.f0) ∧ w.cell? ⟨r, o + 2, none⟩ = some (.int .i64 c.f1.f1) ∧ w.cell? ⟨r, o + 3, none⟩ = some (.int .i64 c.f1.f2) ∧ w.cell? ⟨r, o + 4, none⟩ = some (.int .i64 c.f2)
theorem At5.fr {w w' : World} {r o : Nat} {c : S27} {S : Nat → Prop} (h : At5 w r o c) (k : Fr S w w') (hs : ¬ S r) : At5 w' r o c := by
  have hb := World.block_lt_of_cell? w _ h.1
  exact ⟨(k.cell (a := ⟨r, o, none⟩) hb hs).trans h.1, (k.cell (a := ⟨r, o + 1, none⟩) hb hs).trans h.2.1, (k.cell (a := ⟨r, o + 2, none⟩) hb hs).trans h.2.2.1, (k.cell (a := ⟨r, o + 3, none⟩) hb hs).trans h.2.2.2.1, (k.cell (a := ⟨r, o + 4, none⟩) hb hs).trans h.2.2.2.2⟩
theorem C27_open {w : World} {A : Option Addr} {l : List S27} (h : Kd.C k27 w A l.length l) (hn : 0 < l.length) : ∃ r off, A = some ⟨r, off, none⟩ ∧ r < w.heap.size ∧ ∀ i c, l[i]? = some c → At5 w r (off + i * 5) c := by
  obtain ⟨ad, rfl, h0, _⟩ := at_T27 h 0 (by omega) (by omega)
  rw [show (0 : Int).toNat * 5 = 0 from rfl, add_zero'] at h0
  obtain ⟨r, off, rfl⟩ := spot_none h0
  refine ⟨r, off, rfl, World.block_lt_of_cell? w _ h0, fun i c hi => ?_⟩
  have hil := (List.getElem?_eq_some_iff.1 hi).1
  obtain ⟨ad, e, h1, h2, h3, h4, h5⟩ := at_T27 h (i : Int) (by omega) (by omega)
  obtain rfl := Option.some.inj e
  rw [rd_get hi, Int.toNat_natCast, add_none] at h1 h2 h3 h4 h5
  exact ⟨h1, h2, h3, h4, h5⟩
theorem C27_nil {w : World} {A : Option Addr} {l : List S27} (h : Kd.C k27 w A l.length l) : l.length ≤ 9223372036854775807 := h.2.1
end Go.Proofs.YtapagoaoglmegaaGreat
end
