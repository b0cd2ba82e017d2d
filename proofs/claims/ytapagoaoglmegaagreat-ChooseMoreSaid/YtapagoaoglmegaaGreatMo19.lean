/- Texts of mine, joined by shake.py: ChAwk. -/
import Derived.Test.YtapagoaoglmegaaGreatMo17
import Derived.Test.YtapagoaoglmegaaGreatMo18
section
namespace Go.Proofs.YtapagoaoglmegaaGreat
open Go.RowKit Go.Proofs.YtapagoaoglmegaaGreatW.PrintWords Go.Proofs.YtapagoaoglmegaaGreatW.PrintLast Go.Proofs.YtapagoaoglmegaaGreatW.PrintMore PCl
set_option linter.unusedVariables false
set_option linter.unusedSimpArgs false
set_option maxRecDepth 100000
theorem len4 {w : World} {g c : Nat} (h : Row w g c fourL) : 4 ≤ c := h.len
theorem rowP {w : World} {g : Nat} (h : Blk w g #[.int .i64 1, .int .i64 3, .int .i64 11, .int .i64 13, .int .i64 0, .int .i64 3, .int .i64 3, .int .i64 90, .int .i64 99, .int .i64 0] 27) : Row w g 2 pairL := by
 refine ⟨_, h, rfl, by decide, fun i c hi j v hj => ?_⟩
 have hil := (List.getElem?_eq_some_iff.1 hi).1
 have hj5 : j < 5 := by have := (List.getElem?_eq_some_iff.1 hj).1; simpa [encC] using this
 have h2 : i < 2 := hil
 rcases (show i = 0 ∨ i = 1 by omega) with rfl | rfl <;> obtain rfl := Option.some.inj hi <;> rcases (show j = 0 ∨ j = 1 ∨ j = 2 ∨ j = 3 ∨ j = 4 by omega) with rfl | rfl | rfl | rfl | rfl <;> exact hj
theorem drawnK_fr {w w' : World} (h : Drawn0 w w') : Fr (fun _ => False) w w' := by
 obtain ⟨n, rfl⟩ := h.out
 exact (Fr.refl _ _).drewN n
theorem litI3 (W : World) (x y z : Int) : Kd.C (Kd.int .i64) (W.alloc (.cells #[.int .i64 x, .int .i64 y, .int .i64 z] 3)) (some ⟨W.heap.size, 0, none⟩) [x, y, z].length [x, y, z] := by
 refine ⟨rfl, by simp, fun _ => ⟨_, rfl, fun j p hj => ⟨[.int .i64 p], rfl, rfl, fun q u hq => ?_⟩⟩⟩
 have hj3 : j < 3 := (List.getElem?_eq_some_iff.1 hj).1
 have hq0 : q = 0 := by have := (List.getElem?_eq_some_iff.1 hq).1; simpa using this
 subst hq0
 have e2 : Value.int .i64 p = u := by simpa using hq
 subst e2
 rw [add_none]
 refine ((Blk.new W #[.int .i64 x, .int .i64 y, .int .i64 z] 3).cell _).trans ?_
 rcases (show j = 0 ∨ j = 1 ∨ j = 2 by omega) with rfl | rfl | rfl <;> obtain rfl := Option.some.inj hj <;> rfl
set_option maxHeartbeats 4000000 in
theorem awk_at (w : World) : Calls Tryz.prog 10 #[] w fun e w' => e = .returned (.bool true) ∧ Fr (fun _ => False) w w' := by
 go_enter Tryz.func10, Tryz.ntmps10
 go_wp2_with fail
 refine four_at.mono ?_
 rintro e w1 ⟨g, cap, rfl, hg, hm, hr, k1⟩
 have l3n : 3 ≤ cap := by have := hr.len; have : fourL.length = 4 := rfl; omega
 have l3 : (3 : Int) ≤ (cap : Int) := by omega
 go_wp2_with fail
 refine (ch_on (hC := by exact ((hr.take 3).toC hm)) rfl l3n rfl z1 d1).mono ?_
 rintro e w2 ⟨v2, rfl, hv2, k2⟩
 obtain ⟨A2, c2, rfl, hc2, hC2⟩ := hv2.sl
 have F2 := k1.trans k2 (fun _ _ h => h)
 clear k1 k2 hr
 go_wp2_with fail
 generalize hW : World.alloc w2 _ = w3
 have f3 : Fr (fun _ => False) w2 w3 := by subst hW; (repeat' (first | (with_reducible exact Fr.refl _ _) | (with_reducible assumption) | (with_reducible refine Fr.alloc ?_ _) | (with_reducible refine Fr.drew ?_) | (with_reducible refine Fr.drewN ?_ _) | (with_reducible refine Fr.setCell ?_ _ _ ?_) | (exact Or.inr rfl) | (left; simp; done) | (left; simp; omega) | (simp; done) | (simp; omega) | omega))
 have b1 : Blk w3 w2.heap.size #[.int .i64 3, .int .i64 10, .int .i64 12, .int .i64 10, .int .i64 2, .slice A2 3 c2] 30 := by subst hW; (repeat' (first | (with_reducible assumption) | (with_reducible apply Blk.drew) | (with_reducible apply Blk.drewN) | (with_reducible apply Blk.set) | (with_reducible apply Blk.other) | (exact Blk.new' _ _ _ (by first | rfl | (simp; done) | (simp; omega))) | (with_reducible apply Blk.alloc) | (with_reducible rfl) | (simp; done) | (simp; omega) | omega | rfl))
 obtain ⟨B1, hB1⟩ : ∃ B, B = w2.heap.size := ⟨_, rfl⟩
 rw [← hB1] at b1 ⊢
 clear hW hB1
 have F3 := F2.trans f3 (fun _ _ h => h)
 refine four_at.mono ?_
 rintro e w4 ⟨g', cap', rfl, hg', hm', hr', k4⟩
 have F4 := F3.trans k4 (fun _ _ h => h)
 have f4 := f3.trans k4 (fun _ _ h => h)
 have l4n : 4 ≤ cap' := by have := hr'.len; have : fourL.length = 4 := rfl; omega
 replace b1 := b1.fr k4 (fun h => h)
 clear k4 F3 F2 hg hm l3n l3 hv2
 go_wp2_with fail
 refine (ch_on (hC := by exact (hr'.toC hm')) rfl l4n rfl z2 d2).mono ?_
 rintro e w5 ⟨v5, rfl, hv5, k5⟩
 obtain ⟨A5, c5, rfl, hc5, hC5⟩ := hv5.sl
 have F5 := F4.trans k5 (fun _ _ h => h)
 have f5 := f4.trans k5 (fun _ _ h => h)
 replace b1 := b1.fr k5 (fun h => h)
 clear k5 F4 f4 hg' hm' l4n hr' hv5 f3
 go_wp2_with fail
 generalize hW : World.alloc w5 _ = w6
 have f6 : Fr (fun _ => False) w5 w6 := by subst hW; (repeat' (first | (with_reducible exact Fr.refl _ _) | (with_reducible assumption) | (with_reducible refine Fr.alloc ?_ _) | (with_reducible refine Fr.drew ?_) | (with_reducible refine Fr.drewN ?_ _) | (with_reducible refine Fr.setCell ?_ _ _ ?_) | (exact Or.inr rfl) | (left; simp; done) | (left; simp; omega) | (simp; done) | (simp; omega) | omega))
 have b2 : Blk w6 w5.heap.size #[.int .i64 3, .int .i64 11, .int .i64 12, .int .i64 11, .int .i64 1, .slice A5 3 c5] 30 := by subst hW; (repeat' (first | (with_reducible assumption) | (with_reducible apply Blk.drew) | (with_reducible apply Blk.drewN) | (with_reducible apply Blk.set) | (with_reducible apply Blk.other) | (exact Blk.new' _ _ _ (by first | rfl | (simp; done) | (simp; omega))) | (with_reducible apply Blk.alloc) | (with_reducible rfl) | (simp; done) | (simp; omega) | omega | rfl))
 obtain ⟨B2, hB2⟩ : ∃ B, B = w5.heap.size := ⟨_, rfl⟩
 rw [← hB2] at b2 ⊢
 clear hW hB2
 replace b1 := b1.fr f6 (fun h => h)
 have F6 := F5.trans f6 (fun _ _ h => h)
 have G6 := f5.trans f6 (fun _ _ h => h)
 have HC2 := hidE (Kd.C_below hC2 G6.below)
 have HC5 := hidE (Kd.C_below hC5 f6.below)
 have HB1 := hidE b1
 have HB2 := hidE b2
 have HF := hidE F6
 clear b1 b2 F6 F5 f5 f6 G6 hC2 hC5
 have msd : Fr (fun _ => False) w6 w6.drew ∧ True := ⟨Fr.drew (Fr.refl _ _), trivial⟩
 refine start_ (n := 14) (S := fun w' => Fr (fun _ => False) w6 w' ∧ True) (ds := [12]) #[oN,oN,oN,oN,oN,oN,oN,oN,oN,oN,oN,oN,oN,oN] (by kernel_rfl) rfl rfl ⟨msd.1, msd.2⟩ (fun hHeld => ?_)
 refine join_ (σ := Nat × Nat × Nat × Nat × Nat × Option Addr × Nat × Nat) 2 #[oY,oY,oY,oY,oY,oY,oY,oY,oY,oY,oY,oY,oN,oN] (fun s => [(19, .slice (some ⟨s.1, 0, none⟩) 4 s.2.1), (20, .pointer (some ⟨s.1, 5, none⟩)), (21, .agg #[.int .i64 1, .int .i64 3, .int .i64 11, .int .i64 13, .int .i64 0]), (22, .slice (some ⟨s.2.2.1, 0, none⟩) 4 s.2.2.2.1), (23, .pointer (some ⟨s.2.2.1, 15, none⟩)), (24, .agg #[.int .i64 3, .int .i64 3, .int .i64 90, .int .i64 99, .int .i64 0]), (25, .slice (some ⟨s.2.2.2.2.1, 0, none⟩) 2 2), (26, .tuple #[.agg #[.int .i64 0, .int .i64 0, .int .i64 0, .int .i64 0, .int .i64 0, .slice s.2.2.2.2.2.1 0 s.2.2.2.2.2.2.1], .int .i64 33]), (18, .tuple #[.agg #[.int .i64 0, .int .i64 0, .int .i64 0, .int .i64 0, .int .i64 0, .slice s.2.2.2.2.2.1 0 s.2.2.2.2.2.2.1], .int .i64 33]), (27, .agg #[.int .i64 0, .int .i64 0, .int .i64 0, .int .i64 0, .int .i64 0, .slice s.2.2.2.2.2.1 0 s.2.2.2.2.2.2.1]), (28, .int .i64 33), (5, .pointer (some ⟨s.2.2.2.2.2.2.2, 0, none⟩))]) (fun s w' => (Fr (fun _ => False) w6 w' ∧ True) ∧ (Row w' s.1 s.2.1 fourL ∧ 4 ≤ s.2.1) ∧ (Row w' s.2.2.1 s.2.2.2.1 fourL ∧ 4 ≤ s.2.2.2.1) ∧ Row w' s.2.2.2.2.1 2 pairL ∧ (Blk w' s.2.2.2.2.2.2.2 #[.int .i64 0, .int .i64 0, .int .i64 0, .int .i64 0, .int .i64 0, .slice none 0 0] 30 ∧ w6.heap.size ≤ s.2.2.2.2.2.2.2) ∧ True) ?_ ?_
 rotate_left
 ·intro hJ0_2_3_5_6_7_11
  refine join_ (σ := Nat × Nat × Nat × Nat × Nat × Option Addr × Nat × Nat) 3 #[oY,oY,oY,oY,oY,oY,oY,oY,oY,oY,oY,oN,oN,oN] (fun s => [(19, .slice (some ⟨s.1, 0, none⟩) 4 s.2.1), (20, .pointer (some ⟨s.1, 5, none⟩)), (21, .agg #[.int .i64 1, .int .i64 3, .int .i64 11, .int .i64 13, .int .i64 0]), (22, .slice (some ⟨s.2.2.1, 0, none⟩) 4 s.2.2.2.1), (23, .pointer (some ⟨s.2.2.1, 15, none⟩)), (24, .agg #[.int .i64 3, .int .i64 3, .int .i64 90, .int .i64 99, .int .i64 0]), (25, .slice (some ⟨s.2.2.2.2.1, 0, none⟩) 2 2), (26, .tuple #[.agg #[.int .i64 0, .int .i64 0, .int .i64 0, .int .i64 0, .int .i64 0, .slice s.2.2.2.2.2.1 0 s.2.2.2.2.2.2.1], .int .i64 33]), (18, .tuple #[.agg #[.int .i64 0, .int .i64 0, .int .i64 0, .int .i64 0, .int .i64 0, .slice s.2.2.2.2.2.1 0 s.2.2.2.2.2.2.1], .int .i64 33]), (27, .agg #[.int .i64 0, .int .i64 0, .int .i64 0, .int .i64 0, .int .i64 0, .slice s.2.2.2.2.2.1 0 s.2.2.2.2.2.2.1]), (28, .int .i64 33)]) (fun s w' => (Fr (fun _ => False) w6 w' ∧ True) ∧ (Row w' s.1 s.2.1 fourL ∧ 4 ≤ s.2.1) ∧ (Row w' s.2.2.1 s.2.2.2.1 fourL ∧ 4 ≤ s.2.2.2.1) ∧ Row w' s.2.2.2.2.1 2 pairL ∧ True) ?_ ?_
  rotate_left
  ·intro hJ0_2_3_5_6_7
   refine join_ (σ := Nat × Nat × Nat × Nat × Nat × Option Addr × Nat × Nat) 6 #[oY,oY,oY,oY,oY,oY,oY,oN,oN,oN,oN,oY,oN,oN] (fun s => [(19, .slice (some ⟨s.1, 0, none⟩) 4 s.2.1), (20, .pointer (some ⟨s.1, 5, none⟩)), (21, .agg #[.int .i64 1, .int .i64 3, .int .i64 11, .int .i64 13, .int .i64 0]), (22, .slice (some ⟨s.2.2.1, 0, none⟩) 4 s.2.2.2.1), (23, .pointer (some ⟨s.2.2.1, 15, none⟩)), (24, .agg #[.int .i64 3, .int .i64 3, .int .i64 90, .int .i64 99, .int .i64 0]), (25, .slice (some ⟨s.2.2.2.2.1, 0, none⟩) 2 2), (5, .pointer (some ⟨s.2.2.2.2.2.2.2, 0, none⟩))]) (fun s w' => (Fr (fun _ => False) w6 w' ∧ True) ∧ (Row w' s.1 s.2.1 fourL ∧ 4 ≤ s.2.1) ∧ (Row w' s.2.2.1 s.2.2.2.1 fourL ∧ 4 ≤ s.2.2.2.1) ∧ Row w' s.2.2.2.2.1 2 pairL ∧ (Blk w' s.2.2.2.2.2.2.2 #[.int .i64 0, .int .i64 0, .int .i64 0, .int .i64 0, .int .i64 0, .slice none 0 0] 30 ∧ w6.heap.size ≤ s.2.2.2.2.2.2.2) ∧ True) ?_ ?_
   rotate_left
   ·intro hJ0_2_3_5_6_11
    refine join_ (σ := Nat × Nat × Nat × Nat × Nat × Option Addr × Nat × Nat) 7 #[oY,oY,oY,oY,oY,oY,oY,oN,oN,oN,oN,oN,oN,oN] (fun s => [(19, .slice (some ⟨s.1, 0, none⟩) 4 s.2.1), (20, .pointer (some ⟨s.1, 5, none⟩)), (21, .agg #[.int .i64 1, .int .i64 3, .int .i64 11, .int .i64 13, .int .i64 0]), (22, .slice (some ⟨s.2.2.1, 0, none⟩) 4 s.2.2.2.1), (23, .pointer (some ⟨s.2.2.1, 15, none⟩)), (24, .agg #[.int .i64 3, .int .i64 3, .int .i64 90, .int .i64 99, .int .i64 0]), (25, .slice (some ⟨s.2.2.2.2.1, 0, none⟩) 2 2)]) (fun s w' => (Fr (fun _ => False) w6 w' ∧ True) ∧ (Row w' s.1 s.2.1 fourL ∧ 4 ≤ s.2.1) ∧ (Row w' s.2.2.1 s.2.2.2.1 fourL ∧ 4 ≤ s.2.2.2.1) ∧ Row w' s.2.2.2.2.1 2 pairL ∧ True) ?_ ?_
    rotate_left
    ·intro hJ0_2_3_5_6
     refine join_ (σ := Nat × Nat × Nat × Nat × Nat × Option Addr × Nat × Nat) 7 #[oY,oY,oY,oY,oY,oY,oN,oN,oN,oN,oN,oY,oN,oN] (fun s => [(19, .slice (some ⟨s.1, 0, none⟩) 4 s.2.1), (20, .pointer (some ⟨s.1, 5, none⟩)), (21, .agg #[.int .i64 1, .int .i64 3, .int .i64 11, .int .i64 13, .int .i64 0]), (22, .slice (some ⟨s.2.2.1, 0, none⟩) 4 s.2.2.2.1), (23, .pointer (some ⟨s.2.2.1, 15, none⟩)), (24, .agg #[.int .i64 3, .int .i64 3, .int .i64 90, .int .i64 99, .int .i64 0]), (5, .pointer (some ⟨s.2.2.2.2.2.2.2, 0, none⟩))]) (fun s w' => (Fr (fun _ => False) w6 w' ∧ True) ∧ (Row w' s.1 s.2.1 fourL ∧ 4 ≤ s.2.1) ∧ (Row w' s.2.2.1 s.2.2.2.1 fourL ∧ 4 ≤ s.2.2.2.1) ∧ (Blk w' s.2.2.2.2.2.2.2 #[.int .i64 0, .int .i64 0, .int .i64 0, .int .i64 0, .int .i64 0, .slice none 0 0] 30 ∧ w6.heap.size ≤ s.2.2.2.2.2.2.2) ∧ True) ?_ ?_
     rotate_left
     ·intro hJ0_2_3_5_11
      refine join_ (σ := Nat × Nat × Nat × Nat × Nat × Option Addr × Nat × Nat) 8 #[oY,oY,oY,oY,oY,oY,oN,oN,oN,oN,oN,oN,oN,oN] (fun s => [(19, .slice (some ⟨s.1, 0, none⟩) 4 s.2.1), (20, .pointer (some ⟨s.1, 5, none⟩)), (21, .agg #[.int .i64 1, .int .i64 3, .int .i64 11, .int .i64 13, .int .i64 0]), (22, .slice (some ⟨s.2.2.1, 0, none⟩) 4 s.2.2.2.1), (23, .pointer (some ⟨s.2.2.1, 15, none⟩)), (24, .agg #[.int .i64 3, .int .i64 3, .int .i64 90, .int .i64 99, .int .i64 0])]) (fun s w' => (Fr (fun _ => False) w6 w' ∧ True) ∧ (Row w' s.1 s.2.1 fourL ∧ 4 ≤ s.2.1) ∧ (Row w' s.2.2.1 s.2.2.2.1 fourL ∧ 4 ≤ s.2.2.2.1) ∧ True) ?_ ?_
      rotate_left
      ·intro hJ0_2_3_5
       refine join_ (σ := Nat × Nat × Nat × Nat × Nat × Option Addr × Nat × Nat) 8 #[oY,oY,oY,oY,oY,oN,oN,oN,oN,oN,oN,oY,oN,oN] (fun s => [(19, .slice (some ⟨s.1, 0, none⟩) 4 s.2.1), (20, .pointer (some ⟨s.1, 5, none⟩)), (21, .agg #[.int .i64 1, .int .i64 3, .int .i64 11, .int .i64 13, .int .i64 0]), (22, .slice (some ⟨s.2.2.1, 0, none⟩) 4 s.2.2.2.1), (23, .pointer (some ⟨s.2.2.1, 15, none⟩)), (5, .pointer (some ⟨s.2.2.2.2.2.2.2, 0, none⟩))]) (fun s w' => (Fr (fun _ => False) w6 w' ∧ True) ∧ (Row w' s.1 s.2.1 fourL ∧ 4 ≤ s.2.1) ∧ (Row w' s.2.2.1 s.2.2.2.1 fourL ∧ 4 ≤ s.2.2.2.1) ∧ (Blk w' s.2.2.2.2.2.2.2 #[.int .i64 0, .int .i64 0, .int .i64 0, .int .i64 0, .int .i64 0, .slice none 0 0] 30 ∧ w6.heap.size ≤ s.2.2.2.2.2.2.2) ∧ True) ?_ ?_
       rotate_left
       ·intro hJ0_2_3_11
        refine join_ (σ := Nat × Nat × Nat × Nat × Nat × Option Addr × Nat × Nat) 8 #[oY,oY,oN,oY,oY,oY,oN,oN,oN,oN,oN,oY,oN,oN] (fun s => [(19, .slice (some ⟨s.1, 0, none⟩) 4 s.2.1), (20, .pointer (some ⟨s.1, 5, none⟩)), (22, .slice (some ⟨s.2.2.1, 0, none⟩) 4 s.2.2.2.1), (23, .pointer (some ⟨s.2.2.1, 15, none⟩)), (24, .agg #[.int .i64 3, .int .i64 3, .int .i64 90, .int .i64 99, .int .i64 0]), (5, .pointer (some ⟨s.2.2.2.2.2.2.2, 0, none⟩))]) (fun s w' => (Fr (fun _ => False) w6 w' ∧ True) ∧ (Row w' s.1 s.2.1 fourL ∧ 4 ≤ s.2.1) ∧ (Row w' s.2.2.1 s.2.2.2.1 fourL ∧ 4 ≤ s.2.2.2.1) ∧ (Blk w' s.2.2.2.2.2.2.2 #[.int .i64 0, .int .i64 0, .int .i64 0, .int .i64 0, .int .i64 0, .slice none 0 0] 30 ∧ w6.heap.size ≤ s.2.2.2.2.2.2.2) ∧ True) ?_ ?_
        rotate_left
        ·intro hJ0_3_5_11
         refine join_ (σ := Nat × Nat × Nat × Nat × Nat × Option Addr × Nat × Nat) 9 #[oY,oY,oY,oY,oY,oN,oN,oN,oN,oN,oN,oN,oN,oN] (fun s => [(19, .slice (some ⟨s.1, 0, none⟩) 4 s.2.1), (20, .pointer (some ⟨s.1, 5, none⟩)), (21, .agg #[.int .i64 1, .int .i64 3, .int .i64 11, .int .i64 13, .int .i64 0]), (22, .slice (some ⟨s.2.2.1, 0, none⟩) 4 s.2.2.2.1), (23, .pointer (some ⟨s.2.2.1, 15, none⟩))]) (fun s w' => (Fr (fun _ => False) w6 w' ∧ True) ∧ (Row w' s.1 s.2.1 fourL ∧ 4 ≤ s.2.1) ∧ (Row w' s.2.2.1 s.2.2.2.1 fourL ∧ 4 ≤ s.2.2.2.1) ∧ True) ?_ ?_
         rotate_left
         ·intro hJ0_2_3
          refine join_ (σ := Nat × Nat × Nat × Nat × Nat × Option Addr × Nat × Nat) 10 #[oY,oY,oY,oN,oN,oN,oN,oN,oN,oN,oN,oY,oN,oN] (fun s => [(19, .slice (some ⟨s.1, 0, none⟩) 4 s.2.1), (20, .pointer (some ⟨s.1, 5, none⟩)), (21, .agg #[.int .i64 1, .int .i64 3, .int .i64 11, .int .i64 13, .int .i64 0]), (5, .pointer (some ⟨s.2.2.2.2.2.2.2, 0, none⟩))]) (fun s w' => (Fr (fun _ => False) w6 w' ∧ True) ∧ (Row w' s.1 s.2.1 fourL ∧ 4 ≤ s.2.1) ∧ (Blk w' s.2.2.2.2.2.2.2 #[.int .i64 0, .int .i64 0, .int .i64 0, .int .i64 0, .int .i64 0, .slice none 0 0] 30 ∧ w6.heap.size ≤ s.2.2.2.2.2.2.2) ∧ True) ?_ ?_
          rotate_left
          ·intro hJ0_2_11
           refine join_ (σ := Nat × Nat × Nat × Nat × Nat × Option Addr × Nat × Nat) 9 #[oY,oY,oN,oY,oY,oY,oN,oN,oN,oN,oN,oN,oN,oN] (fun s => [(19, .slice (some ⟨s.1, 0, none⟩) 4 s.2.1), (20, .pointer (some ⟨s.1, 5, none⟩)), (22, .slice (some ⟨s.2.2.1, 0, none⟩) 4 s.2.2.2.1), (23, .pointer (some ⟨s.2.2.1, 15, none⟩)), (24, .agg #[.int .i64 3, .int .i64 3, .int .i64 90, .int .i64 99, .int .i64 0])]) (fun s w' => (Fr (fun _ => False) w6 w' ∧ True) ∧ (Row w' s.1 s.2.1 fourL ∧ 4 ≤ s.2.1) ∧ (Row w' s.2.2.1 s.2.2.2.1 fourL ∧ 4 ≤ s.2.2.2.1) ∧ True) ?_ ?_
           rotate_left
           ·intro hJ0_3_5
            refine join_ (σ := Nat × Nat × Nat × Nat × Nat × Option Addr × Nat × Nat) 9 #[oY,oY,oN,oY,oY,oN,oN,oN,oN,oN,oN,oY,oN,oN] (fun s => [(19, .slice (some ⟨s.1, 0, none⟩) 4 s.2.1), (20, .pointer (some ⟨s.1, 5, none⟩)), (22, .slice (some ⟨s.2.2.1, 0, none⟩) 4 s.2.2.2.1), (23, .pointer (some ⟨s.2.2.1, 15, none⟩)), (5, .pointer (some ⟨s.2.2.2.2.2.2.2, 0, none⟩))]) (fun s w' => (Fr (fun _ => False) w6 w' ∧ True) ∧ (Row w' s.1 s.2.1 fourL ∧ 4 ≤ s.2.1) ∧ (Row w' s.2.2.1 s.2.2.2.1 fourL ∧ 4 ≤ s.2.2.2.1) ∧ (Blk w' s.2.2.2.2.2.2.2 #[.int .i64 0, .int .i64 0, .int .i64 0, .int .i64 0, .int .i64 0, .slice none 0 0] 30 ∧ w6.heap.size ≤ s.2.2.2.2.2.2.2) ∧ True) ?_ ?_
            rotate_left
            ·intro hJ0_3_11
             refine join_ (σ := Nat × Nat × Nat × Nat × Nat × Option Addr × Nat × Nat) 11 #[oY,oY,oY,oN,oN,oN,oN,oN,oN,oN,oN,oN,oN,oN] (fun s => [(19, .slice (some ⟨s.1, 0, none⟩) 4 s.2.1), (20, .pointer (some ⟨s.1, 5, none⟩)), (21, .agg #[.int .i64 1, .int .i64 3, .int .i64 11, .int .i64 13, .int .i64 0])]) (fun s w' => (Fr (fun _ => False) w6 w' ∧ True) ∧ (Row w' s.1 s.2.1 fourL ∧ 4 ≤ s.2.1) ∧ True) ?_ ?_
             rotate_left
             ·intro hJ0_2
              refine join_ (σ := Nat × Nat × Nat × Nat × Nat × Option Addr × Nat × Nat) 10 #[oY,oY,oN,oY,oY,oN,oN,oN,oN,oN,oN,oN,oN,oN] (fun s => [(19, .slice (some ⟨s.1, 0, none⟩) 4 s.2.1), (20, .pointer (some ⟨s.1, 5, none⟩)), (22, .slice (some ⟨s.2.2.1, 0, none⟩) 4 s.2.2.2.1), (23, .pointer (some ⟨s.2.2.1, 15, none⟩))]) (fun s w' => (Fr (fun _ => False) w6 w' ∧ True) ∧ (Row w' s.1 s.2.1 fourL ∧ 4 ≤ s.2.1) ∧ (Row w' s.2.2.1 s.2.2.2.1 fourL ∧ 4 ≤ s.2.2.2.1) ∧ True) ?_ ?_
              rotate_left
              ·intro hJ0_3
               refine join_ (σ := Nat × Nat × Nat × Nat × Nat × Option Addr × Nat × Nat) 11 #[oY,oY,oN,oN,oN,oN,oN,oN,oN,oN,oN,oY,oN,oN] (fun s => [(19, .slice (some ⟨s.1, 0, none⟩) 4 s.2.1), (20, .pointer (some ⟨s.1, 5, none⟩)), (5, .pointer (some ⟨s.2.2.2.2.2.2.2, 0, none⟩))]) (fun s w' => (Fr (fun _ => False) w6 w' ∧ True) ∧ (Row w' s.1 s.2.1 fourL ∧ 4 ≤ s.2.1) ∧ (Blk w' s.2.2.2.2.2.2.2 #[.int .i64 0, .int .i64 0, .int .i64 0, .int .i64 0, .int .i64 0, .slice none 0 0] 30 ∧ w6.heap.size ≤ s.2.2.2.2.2.2.2) ∧ True) ?_ ?_
               rotate_left
               ·intro hJ0_11
                refine join_ (σ := Nat × Nat × Nat × Nat × Nat × Option Addr × Nat × Nat) 12 #[oY,oY,oN,oN,oN,oN,oN,oN,oN,oN,oN,oN,oN,oN] (fun s => [(19, .slice (some ⟨s.1, 0, none⟩) 4 s.2.1), (20, .pointer (some ⟨s.1, 5, none⟩))]) (fun s w' => (Fr (fun _ => False) w6 w' ∧ True) ∧ (Row w' s.1 s.2.1 fourL ∧ 4 ≤ s.2.1) ∧ True) ?_ ?_
                rotate_left
                ·intro hJ0
                 refine join_ (σ := Nat × Nat × Nat × Nat × Nat × Option Addr × Nat × Nat) 13 #[oN,oN,oN,oN,oN,oN,oN,oN,oN,oN,oN,oY,oN,oN] (fun s => [(5, .pointer (some ⟨s.2.2.2.2.2.2.2, 0, none⟩))]) (fun s w' => (Fr (fun _ => False) w6 w' ∧ True) ∧ (Blk w' s.2.2.2.2.2.2.2 #[.int .i64 0, .int .i64 0, .int .i64 0, .int .i64 0, .int .i64 0, .slice none 0 0] 30 ∧ w6.heap.size ≤ s.2.2.2.2.2.2.2) ∧ True) ?_ ?_
                 rotate_left
                 ·intro hJ11
                  refine two_ (i := 0) (j := 11) (Ni := some 19) (Nj := some 5) #[oY,oN,oN,oN,oN,oN,oN,oN,oN,oN,oN,oN,oN,oN] #[oN,oN,oN,oN,oN,oN,oN,oN,oN,oN,oN,oY,oN,oN] rfl rfl rfl rfl (by kernel_rfl) (by decide) (by decide) (fun K hK => ?_) (fun K hK => ?_)
                  ·skip
                   refine goes_ Tryz.func8 (by kernel_rfl) rfl #[] (by rfl) rfl rfl (by simp only [List.map_toArray, List.map_nil]) ?_
                   refine four_at.mono ?_
                   rintro e w9 ⟨gn, cn, rfl, _, _, rn, k9⟩
                   have hn : 4 ≤ cn := len4 rn
                   refine ⟨_, rfl, ?_⟩
                   have hH : Fr (fun _ => False) w6 w9 ∧ True := ⟨hHeld.1.trans k9 (fun _ _ h => h), trivial⟩
                   refine hK.out _ _ ⟨hH.1, hH.2⟩ (fun hHeld => ?_)
                   clear hK K
                   refine norm_ (a' := ?_) ?_ ?_
                   rotate_left
                   ·show Act.put _ (some 19) _ = _
                    simp only [Act.put, List.setIfInBounds_toArray, List.set_cons_zero, List.set_cons_succ, i64_w, i32_w]
                    rfl
                   refine pure_ (i := 1) (N := some 20) (v := ?_) (a' := ?_) #[oY,oY,oN,oN,oN,oN,oN,oN,oN,oN,oN,oN,oN,oN] rfl rfl (by kernel_rfl) (fun _ _ _ h => h) (Or.inl ⟨by rfl, ?_⟩) ?_ ?_
                   rotate_left
                   ·intro w'
                    go_simp
                    with_reducible rfl
                   rotate_left
                   ·simp only [Act.put, List.setIfInBounds_toArray, List.set_cons_zero, List.set_cons_succ, i64_w, i32_w]
                    rfl
                   exact norm_ (by first | (simp only [putAll, Act.put, List.setIfInBounds_toArray, List.set_cons_zero, List.set_cons_succ]; done) | (simp only [putAll, Act.put, List.setIfInBounds_toArray, List.set_cons_zero, List.set_cons_succ]; rfl)) (hJ0 (gn, cn, 0, 0, 0, none, 0, 0) _ ⟨hHeld, ⟨rn, hn⟩, trivial⟩)
                  ·skip
                   refine value_ (w1 := ?_) (v := ?_) (by rfl) rfl ?_ ?_
                   rotate_left 2
                   ·go_simp
                    constructor
                    ·rfl
                    ·rfl
                   generalize hW : World.drew _ = w9
                   have k9 : Fr (fun _ => False) w6 w9 := by subst hW; (repeat' (first | (with_reducible exact Fr.refl _ _) | (with_reducible assumption) | (with_reducible refine Fr.alloc ?_ _) | (with_reducible refine Fr.drew ?_) | (with_reducible refine Fr.drewN ?_ _) | (with_reducible refine Fr.setCell ?_ _ _ ?_) | (exact Or.inr rfl) | (left; simp; done) | (left; simp; omega) | (simp; done) | (simp; omega) | omega))
                   have bn : Blk w9 w6.heap.size #[.int .i64 0, .int .i64 0, .int .i64 0, .int .i64 0, .int .i64 0, .slice none 0 0] 30 := by subst hW; (repeat' (first | (with_reducible assumption) | (with_reducible apply Blk.drew) | (with_reducible apply Blk.drewN) | (with_reducible apply Blk.set) | (with_reducible apply Blk.other) | (exact Blk.new' _ _ _ (by first | rfl | (simp; done) | (simp; omega))) | (with_reducible apply Blk.alloc) | (with_reducible rfl) | (simp; done) | (simp; omega) | omega | rfl))
                   have hbn : w6.heap.size ≤ w6.heap.size := Nat.le_refl _
                   clear hW
                   have hH : Fr (fun _ => False) w6 w9 ∧ True := ⟨k9, trivial⟩
                   refine hK.out _ _ ⟨hH.1, hH.2⟩ (fun hHeld => ?_)
                   clear hK K
                   refine norm_ (a' := ?_) ?_ ?_
                   rotate_left
                   ·show Act.put _ (some 5) _ = _
                    simp only [Act.put, List.setIfInBounds_toArray, List.set_cons_zero, List.set_cons_succ, i64_w, i32_w]
                    rfl
                   exact norm_ (by first | (simp only [putAll, Act.put, List.setIfInBounds_toArray, List.set_cons_zero, List.set_cons_succ]; done) | (simp only [putAll, Act.put, List.setIfInBounds_toArray, List.set_cons_zero, List.set_cons_succ]; rfl)) (hJ11 (0, 0, 0, 0, 0, none, 0, w6.heap.size) _ ⟨hHeld, ⟨bn, hbn⟩, trivial⟩)
                 ·skip
                  rintro ⟨g7, c7, g8, c8, b6, A9, c9, bx⟩ wd ⟨hHeld, hb, _⟩
                  simp only at hb
                  refine norm_ (a' := ?_) ?_ ?_
                  rotate_left
                  ·simp only [putAll, Act.put, List.setIfInBounds_toArray, List.set_cons_zero, List.set_cons_succ]
                   rfl
                  refine one_ (i := 0) (N := some 19) #[oY,oN,oN,oN,oN,oN,oN,oN,oN,oN,oN,oY,oN,oN] rfl rfl (by kernel_rfl) (by decide) (fun K hK => ?_)
                  refine goes_ Tryz.func8 (by kernel_rfl) rfl #[] (by rfl) rfl rfl (by simp only [List.map_toArray, List.map_nil]) ?_
                  refine four_at.mono ?_
                  rintro e w9 ⟨gn, cn, rfl, _, _, rn, k9⟩
                  have hn : 4 ≤ cn := len4 rn
                  refine ⟨_, rfl, ?_⟩
                  have hH : Fr (fun _ => False) w6 w9 ∧ True := ⟨hHeld.1.trans k9 (fun _ _ h => h), trivial⟩
                  refine hK.out _ _ ⟨hH.1, hH.2⟩ (fun hHeld => ?_)
                  clear hK K
                  refine norm_ (a' := ?_) ?_ ?_
                  rotate_left
                  ·show Act.put _ (some 19) _ = _
                   simp only [Act.put, List.setIfInBounds_toArray, List.set_cons_zero, List.set_cons_succ, i64_w, i32_w]
                   rfl
                  refine pure_ (i := 1) (N := some 20) (v := ?_) (a' := ?_) #[oY,oY,oN,oN,oN,oN,oN,oN,oN,oN,oN,oY,oN,oN] rfl rfl (by kernel_rfl) (fun _ _ _ h => h) (Or.inl ⟨by rfl, ?_⟩) ?_ ?_
                  rotate_left
                  ·intro w'
                   go_simp
                   with_reducible rfl
                  rotate_left
                  ·simp only [Act.put, List.setIfInBounds_toArray, List.set_cons_zero, List.set_cons_succ, i64_w, i32_w]
                   rfl
                  exact norm_ (by first | (simp only [putAll, Act.put, List.setIfInBounds_toArray, List.set_cons_zero, List.set_cons_succ]; done) | (simp only [putAll, Act.put, List.setIfInBounds_toArray, List.set_cons_zero, List.set_cons_succ]; rfl)) (hJ0_11 (gn, cn, 0, 0, 0, none, 0, bx) _ ⟨hHeld, ⟨rn, hn⟩, ⟨hb.1.fr k9 (fun h => h), hb.2⟩, trivial⟩)
                ·skip
                 rintro ⟨g7, c7, g8, c8, b6, A9, c9, bx⟩ wd ⟨hHeld, h7, _⟩
                 simp only at h7
                 refine norm_ (a' := ?_) ?_ ?_
                 rotate_left
                 ·simp only [putAll, Act.put, List.setIfInBounds_toArray, List.set_cons_zero, List.set_cons_succ]
                  rfl
                 refine three_ (i := 2) (j := 3) (k := 11) (Ni := some 21) (Nj := some 22) (Nk := some 5) #[oY,oY,oY,oN,oN,oN,oN,oN,oN,oN,oN,oN,oN,oN] #[oY,oY,oN,oY,oN,oN,oN,oN,oN,oN,oN,oN,oN,oN] #[oY,oY,oN,oN,oN,oN,oN,oN,oN,oN,oN,oY,oN,oN] rfl rfl rfl rfl rfl rfl (by kernel_rfl) (by decide) (by decide) (by decide) (fun K hK => ?_) (fun K hK => ?_) (fun K hK => ?_)
                 ·skip
                  obtain ⟨p0, p1, p2, p3, p4⟩ := h7.1.at5 (i := 1) rfl
                  simp at p0 p1 p2 p3 p4
                  refine value_ (w1 := ?_) (v := ?_) (by rfl) rfl ?_ ?_
                  rotate_left 2
                  ·go_simp
                   constructor
                   ·rfl
                   ·rfl
                  obtain ⟨w9, hw9⟩ : ∃ w9, w9 = wd := ⟨_, rfl⟩
                  have k9 : Fr (fun _ => False) wd w9 := by subst hw9; exact Fr.refl _ _
                  rw [← hw9]
                  have hH : Fr (fun _ => False) w6 w9 ∧ True := ⟨hHeld.1.trans k9 (fun _ _ h => h), trivial⟩
                  refine hK.out _ _ ⟨hH.1, hH.2⟩ (fun hHeld => ?_)
                  clear hK K
                  refine norm_ (a' := ?_) ?_ ?_
                  rotate_left
                  ·show Act.put _ (some 21) _ = _
                   simp only [Act.put, List.setIfInBounds_toArray, List.set_cons_zero, List.set_cons_succ, i64_w, i32_w]
                   rfl
                  exact norm_ (by first | (simp only [putAll, Act.put, List.setIfInBounds_toArray, List.set_cons_zero, List.set_cons_succ]; done) | (simp only [putAll, Act.put, List.setIfInBounds_toArray, List.set_cons_zero, List.set_cons_succ]; rfl)) (hJ0_2 (g7, c7, 0, 0, 0, none, 0, 0) _ ⟨hHeld, ⟨h7.1.fr k9 (fun h => h), h7.2⟩, trivial⟩)
                 ·skip
                  refine goes_ Tryz.func8 (by kernel_rfl) rfl #[] (by rfl) rfl rfl (by simp only [List.map_toArray, List.map_nil]) ?_
                  refine four_at.mono ?_
                  rintro e w9 ⟨gn, cn, rfl, _, _, rn, k9⟩
                  have hn : 4 ≤ cn := len4 rn
                  refine ⟨_, rfl, ?_⟩
                  have hH : Fr (fun _ => False) w6 w9 ∧ True := ⟨hHeld.1.trans k9 (fun _ _ h => h), trivial⟩
                  refine hK.out _ _ ⟨hH.1, hH.2⟩ (fun hHeld => ?_)
                  clear hK K
                  refine norm_ (a' := ?_) ?_ ?_
                  rotate_left
                  ·show Act.put _ (some 22) _ = _
                   simp only [Act.put, List.setIfInBounds_toArray, List.set_cons_zero, List.set_cons_succ, i64_w, i32_w]
                   rfl
                  refine pure_ (i := 4) (N := some 23) (v := ?_) (a' := ?_) #[oY,oY,oN,oY,oY,oN,oN,oN,oN,oN,oN,oN,oN,oN] rfl rfl (by kernel_rfl) (fun _ _ _ h => h) (Or.inl ⟨by rfl, ?_⟩) ?_ ?_
                  rotate_left
                  ·intro w'
                   go_simp
                   with_reducible rfl
                  rotate_left
                  ·simp only [Act.put, List.setIfInBounds_toArray, List.set_cons_zero, List.set_cons_succ, i64_w, i32_w]
                   rfl
                  exact norm_ (by first | (simp only [putAll, Act.put, List.setIfInBounds_toArray, List.set_cons_zero, List.set_cons_succ]; done) | (simp only [putAll, Act.put, List.setIfInBounds_toArray, List.set_cons_zero, List.set_cons_succ]; rfl)) (hJ0_3 (g7, c7, gn, cn, 0, none, 0, 0) _ ⟨hHeld, ⟨h7.1.fr k9 (fun h => h), h7.2⟩, ⟨rn, hn⟩, trivial⟩)
                 ·skip
                  refine value_ (w1 := ?_) (v := ?_) (by rfl) rfl ?_ ?_
                  rotate_left 2
                  ·go_simp
                   constructor
                   ·rfl
                   ·rfl
                  generalize hW : World.alloc _ _ = w9
                  have k9 : Fr (fun _ => False) wd w9 := by subst hW; (repeat' (first | (with_reducible exact Fr.refl _ _) | (with_reducible assumption) | (with_reducible refine Fr.alloc ?_ _) | (with_reducible refine Fr.drew ?_) | (with_reducible refine Fr.drewN ?_ _) | (with_reducible refine Fr.setCell ?_ _ _ ?_) | (exact Or.inr rfl) | (left; simp; done) | (left; simp; omega) | (simp; done) | (simp; omega) | omega))
                  have bn : Blk w9 wd.heap.size #[.int .i64 0, .int .i64 0, .int .i64 0, .int .i64 0, .int .i64 0, .slice none 0 0] 30 := by subst hW; (repeat' (first | (with_reducible assumption) | (with_reducible apply Blk.drew) | (with_reducible apply Blk.drewN) | (with_reducible apply Blk.set) | (with_reducible apply Blk.other) | (exact Blk.new' _ _ _ (by first | rfl | (simp; done) | (simp; omega))) | (with_reducible apply Blk.alloc) | (with_reducible rfl) | (simp; done) | (simp; omega) | omega | rfl))
                  have hbn : w6.heap.size ≤ wd.heap.size := hHeld.1.size
                  clear hW
                  have hH : Fr (fun _ => False) w6 w9 ∧ True := ⟨hHeld.1.trans k9 (fun _ _ h => h), trivial⟩
                  refine hK.out _ _ ⟨hH.1, hH.2⟩ (fun hHeld => ?_)
                  clear hK K
                  refine norm_ (a' := ?_) ?_ ?_
                  rotate_left
                  ·show Act.put _ (some 5) _ = _
                   simp only [Act.put, List.setIfInBounds_toArray, List.set_cons_zero, List.set_cons_succ, i64_w, i32_w]
                   rfl
                  exact norm_ (by first | (simp only [putAll, Act.put, List.setIfInBounds_toArray, List.set_cons_zero, List.set_cons_succ]; done) | (simp only [putAll, Act.put, List.setIfInBounds_toArray, List.set_cons_zero, List.set_cons_succ]; rfl)) (hJ0_11 (g7, c7, 0, 0, 0, none, 0, wd.heap.size) _ ⟨hHeld, ⟨h7.1.fr k9 (fun h => h), h7.2⟩, ⟨bn, hbn⟩, trivial⟩)
               ·skip
                rintro ⟨g7, c7, g8, c8, b6, A9, c9, bx⟩ wd ⟨hHeld, h7, hb, _⟩
                simp only at h7 hb
                refine norm_ (a' := ?_) ?_ ?_
                rotate_left
                ·simp only [putAll, Act.put, List.setIfInBounds_toArray, List.set_cons_zero, List.set_cons_succ]
                 rfl
                refine two_ (i := 2) (j := 3) (Ni := some 21) (Nj := some 22) #[oY,oY,oY,oN,oN,oN,oN,oN,oN,oN,oN,oY,oN,oN] #[oY,oY,oN,oY,oN,oN,oN,oN,oN,oN,oN,oY,oN,oN] rfl rfl rfl rfl (by kernel_rfl) (by decide) (by decide) (fun K hK => ?_) (fun K hK => ?_)
                ·skip
                 obtain ⟨p0, p1, p2, p3, p4⟩ := h7.1.at5 (i := 1) rfl
                 simp at p0 p1 p2 p3 p4
                 refine value_ (w1 := ?_) (v := ?_) (by rfl) rfl ?_ ?_
                 rotate_left 2
                 ·go_simp
                  constructor
                  ·rfl
                  ·rfl
                 obtain ⟨w9, hw9⟩ : ∃ w9, w9 = wd := ⟨_, rfl⟩
                 have k9 : Fr (fun _ => False) wd w9 := by subst hw9; exact Fr.refl _ _
                 rw [← hw9]
                 have hH : Fr (fun _ => False) w6 w9 ∧ True := ⟨hHeld.1.trans k9 (fun _ _ h => h), trivial⟩
                 refine hK.out _ _ ⟨hH.1, hH.2⟩ (fun hHeld => ?_)
                 clear hK K
                 refine norm_ (a' := ?_) ?_ ?_
                 rotate_left
                 ·show Act.put _ (some 21) _ = _
                  simp only [Act.put, List.setIfInBounds_toArray, List.set_cons_zero, List.set_cons_succ, i64_w, i32_w]
                  rfl
                 exact norm_ (by first | (simp only [putAll, Act.put, List.setIfInBounds_toArray, List.set_cons_zero, List.set_cons_succ]; done) | (simp only [putAll, Act.put, List.setIfInBounds_toArray, List.set_cons_zero, List.set_cons_succ]; rfl)) (hJ0_2_11 (g7, c7, 0, 0, 0, none, 0, bx) _ ⟨hHeld, ⟨h7.1.fr k9 (fun h => h), h7.2⟩, ⟨hb.1.fr k9 (fun h => h), hb.2⟩, trivial⟩)
                ·skip
                 refine goes_ Tryz.func8 (by kernel_rfl) rfl #[] (by rfl) rfl rfl (by simp only [List.map_toArray, List.map_nil]) ?_
                 refine four_at.mono ?_
                 rintro e w9 ⟨gn, cn, rfl, _, _, rn, k9⟩
                 have hn : 4 ≤ cn := len4 rn
                 refine ⟨_, rfl, ?_⟩
                 have hH : Fr (fun _ => False) w6 w9 ∧ True := ⟨hHeld.1.trans k9 (fun _ _ h => h), trivial⟩
                 refine hK.out _ _ ⟨hH.1, hH.2⟩ (fun hHeld => ?_)
                 clear hK K
                 refine norm_ (a' := ?_) ?_ ?_
                 rotate_left
                 ·show Act.put _ (some 22) _ = _
                  simp only [Act.put, List.setIfInBounds_toArray, List.set_cons_zero, List.set_cons_succ, i64_w, i32_w]
                  rfl
                 refine pure_ (i := 4) (N := some 23) (v := ?_) (a' := ?_) #[oY,oY,oN,oY,oY,oN,oN,oN,oN,oN,oN,oY,oN,oN] rfl rfl (by kernel_rfl) (fun _ _ _ h => h) (Or.inl ⟨by rfl, ?_⟩) ?_ ?_
                 rotate_left
                 ·intro w'
                  go_simp
                  with_reducible rfl
                 rotate_left
                 ·simp only [Act.put, List.setIfInBounds_toArray, List.set_cons_zero, List.set_cons_succ, i64_w, i32_w]
                  rfl
                 exact norm_ (by first | (simp only [putAll, Act.put, List.setIfInBounds_toArray, List.set_cons_zero, List.set_cons_succ]; done) | (simp only [putAll, Act.put, List.setIfInBounds_toArray, List.set_cons_zero, List.set_cons_succ]; rfl)) (hJ0_3_11 (g7, c7, gn, cn, 0, none, 0, bx) _ ⟨hHeld, ⟨h7.1.fr k9 (fun h => h), h7.2⟩, ⟨rn, hn⟩, ⟨hb.1.fr k9 (fun h => h), hb.2⟩, trivial⟩)
              ·skip
               rintro ⟨g7, c7, g8, c8, b6, A9, c9, bx⟩ wd ⟨hHeld, h7, h8, _⟩
               simp only at h7 h8
               refine norm_ (a' := ?_) ?_ ?_
               rotate_left
               ·simp only [putAll, Act.put, List.setIfInBounds_toArray, List.set_cons_zero, List.set_cons_succ]
                rfl
               refine three_ (i := 2) (j := 5) (k := 11) (Ni := some 21) (Nj := some 24) (Nk := some 5) #[oY,oY,oY,oY,oY,oN,oN,oN,oN,oN,oN,oN,oN,oN] #[oY,oY,oN,oY,oY,oY,oN,oN,oN,oN,oN,oN,oN,oN] #[oY,oY,oN,oY,oY,oN,oN,oN,oN,oN,oN,oY,oN,oN] rfl rfl rfl rfl rfl rfl (by kernel_rfl) (by decide) (by decide) (by decide) (fun K hK => ?_) (fun K hK => ?_) (fun K hK => ?_)
               ·skip
                obtain ⟨p0, p1, p2, p3, p4⟩ := h7.1.at5 (i := 1) rfl
                simp at p0 p1 p2 p3 p4
                refine value_ (w1 := ?_) (v := ?_) (by rfl) rfl ?_ ?_
                rotate_left 2
                ·go_simp
                 constructor
                 ·rfl
                 ·rfl
                obtain ⟨w9, hw9⟩ : ∃ w9, w9 = wd := ⟨_, rfl⟩
                have k9 : Fr (fun _ => False) wd w9 := by subst hw9; exact Fr.refl _ _
                rw [← hw9]
                have hH : Fr (fun _ => False) w6 w9 ∧ True := ⟨hHeld.1.trans k9 (fun _ _ h => h), trivial⟩
                refine hK.out _ _ ⟨hH.1, hH.2⟩ (fun hHeld => ?_)
                clear hK K
                refine norm_ (a' := ?_) ?_ ?_
                rotate_left
                ·show Act.put _ (some 21) _ = _
                 simp only [Act.put, List.setIfInBounds_toArray, List.set_cons_zero, List.set_cons_succ, i64_w, i32_w]
                 rfl
                exact norm_ (by first | (simp only [putAll, Act.put, List.setIfInBounds_toArray, List.set_cons_zero, List.set_cons_succ]; done) | (simp only [putAll, Act.put, List.setIfInBounds_toArray, List.set_cons_zero, List.set_cons_succ]; rfl)) (hJ0_2_3 (g7, c7, g8, c8, 0, none, 0, 0) _ ⟨hHeld, ⟨h7.1.fr k9 (fun h => h), h7.2⟩, ⟨h8.1.fr k9 (fun h => h), h8.2⟩, trivial⟩)
               ·skip
                obtain ⟨p0, p1, p2, p3, p4⟩ := h8.1.at5 (i := 3) rfl
                simp at p0 p1 p2 p3 p4
                refine value_ (w1 := ?_) (v := ?_) (by rfl) rfl ?_ ?_
                rotate_left 2
                ·go_simp
                 constructor
                 ·rfl
                 ·rfl
                obtain ⟨w9, hw9⟩ : ∃ w9, w9 = wd := ⟨_, rfl⟩
                have k9 : Fr (fun _ => False) wd w9 := by subst hw9; exact Fr.refl _ _
                rw [← hw9]
                have hH : Fr (fun _ => False) w6 w9 ∧ True := ⟨hHeld.1.trans k9 (fun _ _ h => h), trivial⟩
                refine hK.out _ _ ⟨hH.1, hH.2⟩ (fun hHeld => ?_)
                clear hK K
                refine norm_ (a' := ?_) ?_ ?_
                rotate_left
                ·show Act.put _ (some 24) _ = _
                 simp only [Act.put, List.setIfInBounds_toArray, List.set_cons_zero, List.set_cons_succ, i64_w, i32_w]
                 rfl
                exact norm_ (by first | (simp only [putAll, Act.put, List.setIfInBounds_toArray, List.set_cons_zero, List.set_cons_succ]; done) | (simp only [putAll, Act.put, List.setIfInBounds_toArray, List.set_cons_zero, List.set_cons_succ]; rfl)) (hJ0_3_5 (g7, c7, g8, c8, 0, none, 0, 0) _ ⟨hHeld, ⟨h7.1.fr k9 (fun h => h), h7.2⟩, ⟨h8.1.fr k9 (fun h => h), h8.2⟩, trivial⟩)
               ·skip
                refine value_ (w1 := ?_) (v := ?_) (by rfl) rfl ?_ ?_
                rotate_left 2
                ·go_simp
                 constructor
                 ·rfl
                 ·rfl
                generalize hW : World.alloc _ _ = w9
                have k9 : Fr (fun _ => False) wd w9 := by subst hW; (repeat' (first | (with_reducible exact Fr.refl _ _) | (with_reducible assumption) | (with_reducible refine Fr.alloc ?_ _) | (with_reducible refine Fr.drew ?_) | (with_reducible refine Fr.drewN ?_ _) | (with_reducible refine Fr.setCell ?_ _ _ ?_) | (exact Or.inr rfl) | (left; simp; done) | (left; simp; omega) | (simp; done) | (simp; omega) | omega))
                have bn : Blk w9 wd.heap.size #[.int .i64 0, .int .i64 0, .int .i64 0, .int .i64 0, .int .i64 0, .slice none 0 0] 30 := by subst hW; (repeat' (first | (with_reducible assumption) | (with_reducible apply Blk.drew) | (with_reducible apply Blk.drewN) | (with_reducible apply Blk.set) | (with_reducible apply Blk.other) | (exact Blk.new' _ _ _ (by first | rfl | (simp; done) | (simp; omega))) | (with_reducible apply Blk.alloc) | (with_reducible rfl) | (simp; done) | (simp; omega) | omega | rfl))
                have hbn : w6.heap.size ≤ wd.heap.size := hHeld.1.size
                clear hW
                have hH : Fr (fun _ => False) w6 w9 ∧ True := ⟨hHeld.1.trans k9 (fun _ _ h => h), trivial⟩
                refine hK.out _ _ ⟨hH.1, hH.2⟩ (fun hHeld => ?_)
                clear hK K
                refine norm_ (a' := ?_) ?_ ?_
                rotate_left
                ·show Act.put _ (some 5) _ = _
                 simp only [Act.put, List.setIfInBounds_toArray, List.set_cons_zero, List.set_cons_succ, i64_w, i32_w]
                 rfl
                exact norm_ (by first | (simp only [putAll, Act.put, List.setIfInBounds_toArray, List.set_cons_zero, List.set_cons_succ]; done) | (simp only [putAll, Act.put, List.setIfInBounds_toArray, List.set_cons_zero, List.set_cons_succ]; rfl)) (hJ0_3_11 (g7, c7, g8, c8, 0, none, 0, wd.heap.size) _ ⟨hHeld, ⟨h7.1.fr k9 (fun h => h), h7.2⟩, ⟨h8.1.fr k9 (fun h => h), h8.2⟩, ⟨bn, hbn⟩, trivial⟩)
             ·skip
              rintro ⟨g7, c7, g8, c8, b6, A9, c9, bx⟩ wd ⟨hHeld, h7, _⟩
              simp only at h7
              refine norm_ (a' := ?_) ?_ ?_
              rotate_left
              ·simp only [putAll, Act.put, List.setIfInBounds_toArray, List.set_cons_zero, List.set_cons_succ]
               rfl
              refine two_ (i := 3) (j := 11) (Ni := some 22) (Nj := some 5) #[oY,oY,oY,oY,oN,oN,oN,oN,oN,oN,oN,oN,oN,oN] #[oY,oY,oY,oN,oN,oN,oN,oN,oN,oN,oN,oY,oN,oN] rfl rfl rfl rfl (by kernel_rfl) (by decide) (by decide) (fun K hK => ?_) (fun K hK => ?_)
              ·skip
               refine goes_ Tryz.func8 (by kernel_rfl) rfl #[] (by rfl) rfl rfl (by simp only [List.map_toArray, List.map_nil]) ?_
               refine four_at.mono ?_
               rintro e w9 ⟨gn, cn, rfl, _, _, rn, k9⟩
               have hn : 4 ≤ cn := len4 rn
               refine ⟨_, rfl, ?_⟩
               have hH : Fr (fun _ => False) w6 w9 ∧ True := ⟨hHeld.1.trans k9 (fun _ _ h => h), trivial⟩
               refine hK.out _ _ ⟨hH.1, hH.2⟩ (fun hHeld => ?_)
               clear hK K
               refine norm_ (a' := ?_) ?_ ?_
               rotate_left
               ·show Act.put _ (some 22) _ = _
                simp only [Act.put, List.setIfInBounds_toArray, List.set_cons_zero, List.set_cons_succ, i64_w, i32_w]
                rfl
               refine pure_ (i := 4) (N := some 23) (v := ?_) (a' := ?_) #[oY,oY,oY,oY,oY,oN,oN,oN,oN,oN,oN,oN,oN,oN] rfl rfl (by kernel_rfl) (fun _ _ _ h => h) (Or.inl ⟨by rfl, ?_⟩) ?_ ?_
               rotate_left
               ·intro w'
                go_simp
                with_reducible rfl
               rotate_left
               ·simp only [Act.put, List.setIfInBounds_toArray, List.set_cons_zero, List.set_cons_succ, i64_w, i32_w]
                rfl
               exact norm_ (by first | (simp only [putAll, Act.put, List.setIfInBounds_toArray, List.set_cons_zero, List.set_cons_succ]; done) | (simp only [putAll, Act.put, List.setIfInBounds_toArray, List.set_cons_zero, List.set_cons_succ]; rfl)) (hJ0_2_3 (g7, c7, gn, cn, 0, none, 0, 0) _ ⟨hHeld, ⟨h7.1.fr k9 (fun h => h), h7.2⟩, ⟨rn, hn⟩, trivial⟩)
              ·skip
               refine value_ (w1 := ?_) (v := ?_) (by rfl) rfl ?_ ?_
               rotate_left 2
               ·go_simp
                constructor
                ·rfl
                ·rfl
               generalize hW : World.alloc _ _ = w9
               have k9 : Fr (fun _ => False) wd w9 := by subst hW; (repeat' (first | (with_reducible exact Fr.refl _ _) | (with_reducible assumption) | (with_reducible refine Fr.alloc ?_ _) | (with_reducible refine Fr.drew ?_) | (with_reducible refine Fr.drewN ?_ _) | (with_reducible refine Fr.setCell ?_ _ _ ?_) | (exact Or.inr rfl) | (left; simp; done) | (left; simp; omega) | (simp; done) | (simp; omega) | omega))
               have bn : Blk w9 wd.heap.size #[.int .i64 0, .int .i64 0, .int .i64 0, .int .i64 0, .int .i64 0, .slice none 0 0] 30 := by subst hW; (repeat' (first | (with_reducible assumption) | (with_reducible apply Blk.drew) | (with_reducible apply Blk.drewN) | (with_reducible apply Blk.set) | (with_reducible apply Blk.other) | (exact Blk.new' _ _ _ (by first | rfl | (simp; done) | (simp; omega))) | (with_reducible apply Blk.alloc) | (with_reducible rfl) | (simp; done) | (simp; omega) | omega | rfl))
               have hbn : w6.heap.size ≤ wd.heap.size := hHeld.1.size
               clear hW
               have hH : Fr (fun _ => False) w6 w9 ∧ True := ⟨hHeld.1.trans k9 (fun _ _ h => h), trivial⟩
               refine hK.out _ _ ⟨hH.1, hH.2⟩ (fun hHeld => ?_)
               clear hK K
               refine norm_ (a' := ?_) ?_ ?_
               rotate_left
               ·show Act.put _ (some 5) _ = _
                simp only [Act.put, List.setIfInBounds_toArray, List.set_cons_zero, List.set_cons_succ, i64_w, i32_w]
                rfl
               exact norm_ (by first | (simp only [putAll, Act.put, List.setIfInBounds_toArray, List.set_cons_zero, List.set_cons_succ]; done) | (simp only [putAll, Act.put, List.setIfInBounds_toArray, List.set_cons_zero, List.set_cons_succ]; rfl)) (hJ0_2_11 (g7, c7, 0, 0, 0, none, 0, wd.heap.size) _ ⟨hHeld, ⟨h7.1.fr k9 (fun h => h), h7.2⟩, ⟨bn, hbn⟩, trivial⟩)
            ·skip
             rintro ⟨g7, c7, g8, c8, b6, A9, c9, bx⟩ wd ⟨hHeld, h7, h8, hb, _⟩
             simp only at h7 h8 hb
             refine norm_ (a' := ?_) ?_ ?_
             rotate_left
             ·simp only [putAll, Act.put, List.setIfInBounds_toArray, List.set_cons_zero, List.set_cons_succ]
              rfl
             refine two_ (i := 2) (j := 5) (Ni := some 21) (Nj := some 24) #[oY,oY,oY,oY,oY,oN,oN,oN,oN,oN,oN,oY,oN,oN] #[oY,oY,oN,oY,oY,oY,oN,oN,oN,oN,oN,oY,oN,oN] rfl rfl rfl rfl (by kernel_rfl) (by decide) (by decide) (fun K hK => ?_) (fun K hK => ?_)
             ·skip
              obtain ⟨p0, p1, p2, p3, p4⟩ := h7.1.at5 (i := 1) rfl
              simp at p0 p1 p2 p3 p4
              refine value_ (w1 := ?_) (v := ?_) (by rfl) rfl ?_ ?_
              rotate_left 2
              ·go_simp
               constructor
               ·rfl
               ·rfl
              obtain ⟨w9, hw9⟩ : ∃ w9, w9 = wd := ⟨_, rfl⟩
              have k9 : Fr (fun _ => False) wd w9 := by subst hw9; exact Fr.refl _ _
              rw [← hw9]
              have hH : Fr (fun _ => False) w6 w9 ∧ True := ⟨hHeld.1.trans k9 (fun _ _ h => h), trivial⟩
              refine hK.out _ _ ⟨hH.1, hH.2⟩ (fun hHeld => ?_)
              clear hK K
              refine norm_ (a' := ?_) ?_ ?_
              rotate_left
              ·show Act.put _ (some 21) _ = _
               simp only [Act.put, List.setIfInBounds_toArray, List.set_cons_zero, List.set_cons_succ, i64_w, i32_w]
               rfl
              exact norm_ (by first | (simp only [putAll, Act.put, List.setIfInBounds_toArray, List.set_cons_zero, List.set_cons_succ]; done) | (simp only [putAll, Act.put, List.setIfInBounds_toArray, List.set_cons_zero, List.set_cons_succ]; rfl)) (hJ0_2_3_11 (g7, c7, g8, c8, 0, none, 0, bx) _ ⟨hHeld, ⟨h7.1.fr k9 (fun h => h), h7.2⟩, ⟨h8.1.fr k9 (fun h => h), h8.2⟩, ⟨hb.1.fr k9 (fun h => h), hb.2⟩, trivial⟩)
             ·skip
              obtain ⟨p0, p1, p2, p3, p4⟩ := h8.1.at5 (i := 3) rfl
              simp at p0 p1 p2 p3 p4
              refine value_ (w1 := ?_) (v := ?_) (by rfl) rfl ?_ ?_
              rotate_left 2
              ·go_simp
               constructor
               ·rfl
               ·rfl
              obtain ⟨w9, hw9⟩ : ∃ w9, w9 = wd := ⟨_, rfl⟩
              have k9 : Fr (fun _ => False) wd w9 := by subst hw9; exact Fr.refl _ _
              rw [← hw9]
              have hH : Fr (fun _ => False) w6 w9 ∧ True := ⟨hHeld.1.trans k9 (fun _ _ h => h), trivial⟩
              refine hK.out _ _ ⟨hH.1, hH.2⟩ (fun hHeld => ?_)
              clear hK K
              refine norm_ (a' := ?_) ?_ ?_
              rotate_left
              ·show Act.put _ (some 24) _ = _
               simp only [Act.put, List.setIfInBounds_toArray, List.set_cons_zero, List.set_cons_succ, i64_w, i32_w]
               rfl
              exact norm_ (by first | (simp only [putAll, Act.put, List.setIfInBounds_toArray, List.set_cons_zero, List.set_cons_succ]; done) | (simp only [putAll, Act.put, List.setIfInBounds_toArray, List.set_cons_zero, List.set_cons_succ]; rfl)) (hJ0_3_5_11 (g7, c7, g8, c8, 0, none, 0, bx) _ ⟨hHeld, ⟨h7.1.fr k9 (fun h => h), h7.2⟩, ⟨h8.1.fr k9 (fun h => h), h8.2⟩, ⟨hb.1.fr k9 (fun h => h), hb.2⟩, trivial⟩)
           ·skip
            rintro ⟨g7, c7, g8, c8, b6, A9, c9, bx⟩ wd ⟨hHeld, h7, h8, _⟩
            simp only at h7 h8
            refine norm_ (a' := ?_) ?_ ?_
            rotate_left
            ·simp only [putAll, Act.put, List.setIfInBounds_toArray, List.set_cons_zero, List.set_cons_succ]
             rfl
            refine two_ (i := 2) (j := 11) (Ni := some 21) (Nj := some 5) #[oY,oY,oY,oY,oY,oY,oN,oN,oN,oN,oN,oN,oN,oN] #[oY,oY,oN,oY,oY,oY,oN,oN,oN,oN,oN,oY,oN,oN] rfl rfl rfl rfl (by kernel_rfl) (by decide) (by decide) (fun K hK => ?_) (fun K hK => ?_)
            ·skip
             obtain ⟨p0, p1, p2, p3, p4⟩ := h7.1.at5 (i := 1) rfl
             simp at p0 p1 p2 p3 p4
             refine value_ (w1 := ?_) (v := ?_) (by rfl) rfl ?_ ?_
             rotate_left 2
             ·go_simp
              constructor
              ·rfl
              ·rfl
             obtain ⟨w9, hw9⟩ : ∃ w9, w9 = wd := ⟨_, rfl⟩
             have k9 : Fr (fun _ => False) wd w9 := by subst hw9; exact Fr.refl _ _
             rw [← hw9]
             have hH : Fr (fun _ => False) w6 w9 ∧ True := ⟨hHeld.1.trans k9 (fun _ _ h => h), trivial⟩
             refine hK.out _ _ ⟨hH.1, hH.2⟩ (fun hHeld => ?_)
             clear hK K
             refine norm_ (a' := ?_) ?_ ?_
             rotate_left
             ·show Act.put _ (some 21) _ = _
              simp only [Act.put, List.setIfInBounds_toArray, List.set_cons_zero, List.set_cons_succ, i64_w, i32_w]
              rfl
             exact norm_ (by first | (simp only [putAll, Act.put, List.setIfInBounds_toArray, List.set_cons_zero, List.set_cons_succ]; done) | (simp only [putAll, Act.put, List.setIfInBounds_toArray, List.set_cons_zero, List.set_cons_succ]; rfl)) (hJ0_2_3_5 (g7, c7, g8, c8, 0, none, 0, 0) _ ⟨hHeld, ⟨h7.1.fr k9 (fun h => h), h7.2⟩, ⟨h8.1.fr k9 (fun h => h), h8.2⟩, trivial⟩)
            ·skip
             refine value_ (w1 := ?_) (v := ?_) (by rfl) rfl ?_ ?_
             rotate_left 2
             ·go_simp
              constructor
              ·rfl
              ·rfl
             generalize hW : World.alloc _ _ = w9
             have k9 : Fr (fun _ => False) wd w9 := by subst hW; (repeat' (first | (with_reducible exact Fr.refl _ _) | (with_reducible assumption) | (with_reducible refine Fr.alloc ?_ _) | (with_reducible refine Fr.drew ?_) | (with_reducible refine Fr.drewN ?_ _) | (with_reducible refine Fr.setCell ?_ _ _ ?_) | (exact Or.inr rfl) | (left; simp; done) | (left; simp; omega) | (simp; done) | (simp; omega) | omega))
             have bn : Blk w9 wd.heap.size #[.int .i64 0, .int .i64 0, .int .i64 0, .int .i64 0, .int .i64 0, .slice none 0 0] 30 := by subst hW; (repeat' (first | (with_reducible assumption) | (with_reducible apply Blk.drew) | (with_reducible apply Blk.drewN) | (with_reducible apply Blk.set) | (with_reducible apply Blk.other) | (exact Blk.new' _ _ _ (by first | rfl | (simp; done) | (simp; omega))) | (with_reducible apply Blk.alloc) | (with_reducible rfl) | (simp; done) | (simp; omega) | omega | rfl))
             have hbn : w6.heap.size ≤ wd.heap.size := hHeld.1.size
             clear hW
             have hH : Fr (fun _ => False) w6 w9 ∧ True := ⟨hHeld.1.trans k9 (fun _ _ h => h), trivial⟩
             refine hK.out _ _ ⟨hH.1, hH.2⟩ (fun hHeld => ?_)
             clear hK K
             refine norm_ (a' := ?_) ?_ ?_
             rotate_left
             ·show Act.put _ (some 5) _ = _
              simp only [Act.put, List.setIfInBounds_toArray, List.set_cons_zero, List.set_cons_succ, i64_w, i32_w]
              rfl
             exact norm_ (by first | (simp only [putAll, Act.put, List.setIfInBounds_toArray, List.set_cons_zero, List.set_cons_succ]; done) | (simp only [putAll, Act.put, List.setIfInBounds_toArray, List.set_cons_zero, List.set_cons_succ]; rfl)) (hJ0_3_5_11 (g7, c7, g8, c8, 0, none, 0, wd.heap.size) _ ⟨hHeld, ⟨h7.1.fr k9 (fun h => h), h7.2⟩, ⟨h8.1.fr k9 (fun h => h), h8.2⟩, ⟨bn, hbn⟩, trivial⟩)
          ·skip
           rintro ⟨g7, c7, g8, c8, b6, A9, c9, bx⟩ wd ⟨hHeld, h7, hb, _⟩
           simp only at h7 hb
           refine norm_ (a' := ?_) ?_ ?_
           rotate_left
           ·simp only [putAll, Act.put, List.setIfInBounds_toArray, List.set_cons_zero, List.set_cons_succ]
            rfl
           refine one_ (i := 3) (N := some 22) #[oY,oY,oY,oY,oN,oN,oN,oN,oN,oN,oN,oY,oN,oN] rfl rfl (by kernel_rfl) (by decide) (fun K hK => ?_)
           refine goes_ Tryz.func8 (by kernel_rfl) rfl #[] (by rfl) rfl rfl (by simp only [List.map_toArray, List.map_nil]) ?_
           refine four_at.mono ?_
           rintro e w9 ⟨gn, cn, rfl, _, _, rn, k9⟩
           have hn : 4 ≤ cn := len4 rn
           refine ⟨_, rfl, ?_⟩
           have hH : Fr (fun _ => False) w6 w9 ∧ True := ⟨hHeld.1.trans k9 (fun _ _ h => h), trivial⟩
           refine hK.out _ _ ⟨hH.1, hH.2⟩ (fun hHeld => ?_)
           clear hK K
           refine norm_ (a' := ?_) ?_ ?_
           rotate_left
           ·show Act.put _ (some 22) _ = _
            simp only [Act.put, List.setIfInBounds_toArray, List.set_cons_zero, List.set_cons_succ, i64_w, i32_w]
            rfl
           refine pure_ (i := 4) (N := some 23) (v := ?_) (a' := ?_) #[oY,oY,oY,oY,oY,oN,oN,oN,oN,oN,oN,oY,oN,oN] rfl rfl (by kernel_rfl) (fun _ _ _ h => h) (Or.inl ⟨by rfl, ?_⟩) ?_ ?_
           rotate_left
           ·intro w'
            go_simp
            with_reducible rfl
           rotate_left
           ·simp only [Act.put, List.setIfInBounds_toArray, List.set_cons_zero, List.set_cons_succ, i64_w, i32_w]
            rfl
           exact norm_ (by first | (simp only [putAll, Act.put, List.setIfInBounds_toArray, List.set_cons_zero, List.set_cons_succ]; done) | (simp only [putAll, Act.put, List.setIfInBounds_toArray, List.set_cons_zero, List.set_cons_succ]; rfl)) (hJ0_2_3_11 (g7, c7, gn, cn, 0, none, 0, bx) _ ⟨hHeld, ⟨h7.1.fr k9 (fun h => h), h7.2⟩, ⟨rn, hn⟩, ⟨hb.1.fr k9 (fun h => h), hb.2⟩, trivial⟩)
         ·skip
          rintro ⟨g7, c7, g8, c8, b6, A9, c9, bx⟩ wd ⟨hHeld, h7, h8, _⟩
          simp only at h7 h8
          refine norm_ (a' := ?_) ?_ ?_
          rotate_left
          ·simp only [putAll, Act.put, List.setIfInBounds_toArray, List.set_cons_zero, List.set_cons_succ]
           rfl
          refine two_ (i := 5) (j := 11) (Ni := some 24) (Nj := some 5) #[oY,oY,oY,oY,oY,oY,oN,oN,oN,oN,oN,oN,oN,oN] #[oY,oY,oY,oY,oY,oN,oN,oN,oN,oN,oN,oY,oN,oN] rfl rfl rfl rfl (by kernel_rfl) (by decide) (by decide) (fun K hK => ?_) (fun K hK => ?_)
          ·skip
           obtain ⟨p0, p1, p2, p3, p4⟩ := h8.1.at5 (i := 3) rfl
           simp at p0 p1 p2 p3 p4
           refine value_ (w1 := ?_) (v := ?_) (by rfl) rfl ?_ ?_
           rotate_left 2
           ·go_simp
            constructor
            ·rfl
            ·rfl
           obtain ⟨w9, hw9⟩ : ∃ w9, w9 = wd := ⟨_, rfl⟩
           have k9 : Fr (fun _ => False) wd w9 := by subst hw9; exact Fr.refl _ _
           rw [← hw9]
           have hH : Fr (fun _ => False) w6 w9 ∧ True := ⟨hHeld.1.trans k9 (fun _ _ h => h), trivial⟩
           refine hK.out _ _ ⟨hH.1, hH.2⟩ (fun hHeld => ?_)
           clear hK K
           refine norm_ (a' := ?_) ?_ ?_
           rotate_left
           ·show Act.put _ (some 24) _ = _
            simp only [Act.put, List.setIfInBounds_toArray, List.set_cons_zero, List.set_cons_succ, i64_w, i32_w]
            rfl
           exact norm_ (by first | (simp only [putAll, Act.put, List.setIfInBounds_toArray, List.set_cons_zero, List.set_cons_succ]; done) | (simp only [putAll, Act.put, List.setIfInBounds_toArray, List.set_cons_zero, List.set_cons_succ]; rfl)) (hJ0_2_3_5 (g7, c7, g8, c8, 0, none, 0, 0) _ ⟨hHeld, ⟨h7.1.fr k9 (fun h => h), h7.2⟩, ⟨h8.1.fr k9 (fun h => h), h8.2⟩, trivial⟩)
          ·skip
           refine value_ (w1 := ?_) (v := ?_) (by rfl) rfl ?_ ?_
           rotate_left 2
           ·go_simp
            constructor
            ·rfl
            ·rfl
           generalize hW : World.alloc _ _ = w9
           have k9 : Fr (fun _ => False) wd w9 := by subst hW; (repeat' (first | (with_reducible exact Fr.refl _ _) | (with_reducible assumption) | (with_reducible refine Fr.alloc ?_ _) | (with_reducible refine Fr.drew ?_) | (with_reducible refine Fr.drewN ?_ _) | (with_reducible refine Fr.setCell ?_ _ _ ?_) | (exact Or.inr rfl) | (left; simp; done) | (left; simp; omega) | (simp; done) | (simp; omega) | omega))
           have bn : Blk w9 wd.heap.size #[.int .i64 0, .int .i64 0, .int .i64 0, .int .i64 0, .int .i64 0, .slice none 0 0] 30 := by subst hW; (repeat' (first | (with_reducible assumption) | (with_reducible apply Blk.drew) | (with_reducible apply Blk.drewN) | (with_reducible apply Blk.set) | (with_reducible apply Blk.other) | (exact Blk.new' _ _ _ (by first | rfl | (simp; done) | (simp; omega))) | (with_reducible apply Blk.alloc) | (with_reducible rfl) | (simp; done) | (simp; omega) | omega | rfl))
           have hbn : w6.heap.size ≤ wd.heap.size := hHeld.1.size
           clear hW
           have hH : Fr (fun _ => False) w6 w9 ∧ True := ⟨hHeld.1.trans k9 (fun _ _ h => h), trivial⟩
           refine hK.out _ _ ⟨hH.1, hH.2⟩ (fun hHeld => ?_)
           clear hK K
           refine norm_ (a' := ?_) ?_ ?_
           rotate_left
           ·show Act.put _ (some 5) _ = _
            simp only [Act.put, List.setIfInBounds_toArray, List.set_cons_zero, List.set_cons_succ, i64_w, i32_w]
            rfl
           exact norm_ (by first | (simp only [putAll, Act.put, List.setIfInBounds_toArray, List.set_cons_zero, List.set_cons_succ]; done) | (simp only [putAll, Act.put, List.setIfInBounds_toArray, List.set_cons_zero, List.set_cons_succ]; rfl)) (hJ0_2_3_11 (g7, c7, g8, c8, 0, none, 0, wd.heap.size) _ ⟨hHeld, ⟨h7.1.fr k9 (fun h => h), h7.2⟩, ⟨h8.1.fr k9 (fun h => h), h8.2⟩, ⟨bn, hbn⟩, trivial⟩)
        ·skip
         rintro ⟨g7, c7, g8, c8, b6, A9, c9, bx⟩ wd ⟨hHeld, h7, h8, hb, _⟩
         simp only at h7 h8 hb
         refine norm_ (a' := ?_) ?_ ?_
         rotate_left
         ·simp only [putAll, Act.put, List.setIfInBounds_toArray, List.set_cons_zero, List.set_cons_succ]
          rfl
         refine one_ (i := 2) (N := some 21) #[oY,oY,oY,oY,oY,oY,oN,oN,oN,oN,oN,oY,oN,oN] rfl rfl (by kernel_rfl) (by decide) (fun K hK => ?_)
         obtain ⟨p0, p1, p2, p3, p4⟩ := h7.1.at5 (i := 1) rfl
         simp at p0 p1 p2 p3 p4
         refine value_ (w1 := ?_) (v := ?_) (by rfl) rfl ?_ ?_
         rotate_left 2
         ·go_simp
          constructor
          ·rfl
          ·rfl
         obtain ⟨w9, hw9⟩ : ∃ w9, w9 = wd := ⟨_, rfl⟩
         have k9 : Fr (fun _ => False) wd w9 := by subst hw9; exact Fr.refl _ _
         rw [← hw9]
         have hH : Fr (fun _ => False) w6 w9 ∧ True := ⟨hHeld.1.trans k9 (fun _ _ h => h), trivial⟩
         refine hK.out _ _ ⟨hH.1, hH.2⟩ (fun hHeld => ?_)
         clear hK K
         refine norm_ (a' := ?_) ?_ ?_
         rotate_left
         ·show Act.put _ (some 21) _ = _
          simp only [Act.put, List.setIfInBounds_toArray, List.set_cons_zero, List.set_cons_succ, i64_w, i32_w]
          rfl
         exact norm_ (by first | (simp only [putAll, Act.put, List.setIfInBounds_toArray, List.set_cons_zero, List.set_cons_succ]; done) | (simp only [putAll, Act.put, List.setIfInBounds_toArray, List.set_cons_zero, List.set_cons_succ]; rfl)) (hJ0_2_3_5_11 (g7, c7, g8, c8, 0, none, 0, bx) _ ⟨hHeld, ⟨h7.1.fr k9 (fun h => h), h7.2⟩, ⟨h8.1.fr k9 (fun h => h), h8.2⟩, ⟨hb.1.fr k9 (fun h => h), hb.2⟩, trivial⟩)
       ·skip
        rintro ⟨g7, c7, g8, c8, b6, A9, c9, bx⟩ wd ⟨hHeld, h7, h8, hb, _⟩
        simp only at h7 h8 hb
        refine norm_ (a' := ?_) ?_ ?_
        rotate_left
        ·simp only [putAll, Act.put, List.setIfInBounds_toArray, List.set_cons_zero, List.set_cons_succ]
         rfl
        refine one_ (i := 5) (N := some 24) #[oY,oY,oY,oY,oY,oY,oN,oN,oN,oN,oN,oY,oN,oN] rfl rfl (by kernel_rfl) (by decide) (fun K hK => ?_)
        obtain ⟨p0, p1, p2, p3, p4⟩ := h8.1.at5 (i := 3) rfl
        simp at p0 p1 p2 p3 p4
        refine value_ (w1 := ?_) (v := ?_) (by rfl) rfl ?_ ?_
        rotate_left 2
        ·go_simp
         constructor
         ·rfl
         ·rfl
        obtain ⟨w9, hw9⟩ : ∃ w9, w9 = wd := ⟨_, rfl⟩
        have k9 : Fr (fun _ => False) wd w9 := by subst hw9; exact Fr.refl _ _
        rw [← hw9]
        have hH : Fr (fun _ => False) w6 w9 ∧ True := ⟨hHeld.1.trans k9 (fun _ _ h => h), trivial⟩
        refine hK.out _ _ ⟨hH.1, hH.2⟩ (fun hHeld => ?_)
        clear hK K
        refine norm_ (a' := ?_) ?_ ?_
        rotate_left
        ·show Act.put _ (some 24) _ = _
         simp only [Act.put, List.setIfInBounds_toArray, List.set_cons_zero, List.set_cons_succ, i64_w, i32_w]
         rfl
        exact norm_ (by first | (simp only [putAll, Act.put, List.setIfInBounds_toArray, List.set_cons_zero, List.set_cons_succ]; done) | (simp only [putAll, Act.put, List.setIfInBounds_toArray, List.set_cons_zero, List.set_cons_succ]; rfl)) (hJ0_2_3_5_11 (g7, c7, g8, c8, 0, none, 0, bx) _ ⟨hHeld, ⟨h7.1.fr k9 (fun h => h), h7.2⟩, ⟨h8.1.fr k9 (fun h => h), h8.2⟩, ⟨hb.1.fr k9 (fun h => h), hb.2⟩, trivial⟩)
      ·skip
       rintro ⟨g7, c7, g8, c8, b6, A9, c9, bx⟩ wd ⟨hHeld, h7, h8, _⟩
       simp only at h7 h8
       refine norm_ (a' := ?_) ?_ ?_
       rotate_left
       ·simp only [putAll, Act.put, List.setIfInBounds_toArray, List.set_cons_zero, List.set_cons_succ]
        rfl
       refine two_ (i := 6) (j := 11) (Ni := some 25) (Nj := some 5) #[oY,oY,oY,oY,oY,oY,oY,oN,oN,oN,oN,oN,oN,oN] #[oY,oY,oY,oY,oY,oY,oN,oN,oN,oN,oN,oY,oN,oN] rfl rfl rfl rfl (by kernel_rfl) (by decide) (by decide) (fun K hK => ?_) (fun K hK => ?_)
       ·skip
        refine value_ (w1 := ?_) (v := ?_) (by rfl) rfl ?_ ?_
        rotate_left 2
        ·go_simp
         constructor
         ·rfl
         ·rfl
        generalize hW : World.alloc _ _ = w9
        have k9 : Fr (fun _ => False) wd w9 := by subst hW; (repeat' (first | (with_reducible exact Fr.refl _ _) | (with_reducible assumption) | (with_reducible refine Fr.alloc ?_ _) | (with_reducible refine Fr.drew ?_) | (with_reducible refine Fr.drewN ?_ _) | (with_reducible refine Fr.setCell ?_ _ _ ?_) | (exact Or.inr rfl) | (left; simp; done) | (left; simp; omega) | (simp; done) | (simp; omega) | omega))
        have rn : Row w9 wd.heap.size 2 pairL := by subst hW; exact rowP (by (repeat' (first | (with_reducible assumption) | (with_reducible apply Blk.drew) | (with_reducible apply Blk.drewN) | (with_reducible apply Blk.set) | (with_reducible apply Blk.other) | (exact Blk.new' _ _ _ (by first | rfl | (simp; done) | (simp; omega))) | (with_reducible apply Blk.alloc) | (with_reducible rfl) | (simp; done) | (simp; omega) | omega | rfl)))
        clear hW
        have hH : Fr (fun _ => False) w6 w9 ∧ True := ⟨hHeld.1.trans k9 (fun _ _ h => h), trivial⟩
        refine hK.out _ _ ⟨hH.1, hH.2⟩ (fun hHeld => ?_)
        clear hK K
        refine norm_ (a' := ?_) ?_ ?_
        rotate_left
        ·show Act.put _ (some 25) _ = _
         simp only [Act.put, List.setIfInBounds_toArray, List.set_cons_zero, List.set_cons_succ, i64_w, i32_w]
         rfl
        exact norm_ (by first | (simp only [putAll, Act.put, List.setIfInBounds_toArray, List.set_cons_zero, List.set_cons_succ]; done) | (simp only [putAll, Act.put, List.setIfInBounds_toArray, List.set_cons_zero, List.set_cons_succ]; rfl)) (hJ0_2_3_5_6 (g7, c7, g8, c8, wd.heap.size, none, 0, 0) _ ⟨hHeld, ⟨h7.1.fr k9 (fun h => h), h7.2⟩, ⟨h8.1.fr k9 (fun h => h), h8.2⟩, rn, trivial⟩)
       ·skip
        refine value_ (w1 := ?_) (v := ?_) (by rfl) rfl ?_ ?_
        rotate_left 2
        ·go_simp
         constructor
         ·rfl
         ·rfl
        generalize hW : World.alloc _ _ = w9
        have k9 : Fr (fun _ => False) wd w9 := by subst hW; (repeat' (first | (with_reducible exact Fr.refl _ _) | (with_reducible assumption) | (with_reducible refine Fr.alloc ?_ _) | (with_reducible refine Fr.drew ?_) | (with_reducible refine Fr.drewN ?_ _) | (with_reducible refine Fr.setCell ?_ _ _ ?_) | (exact Or.inr rfl) | (left; simp; done) | (left; simp; omega) | (simp; done) | (simp; omega) | omega))
        have bn : Blk w9 wd.heap.size #[.int .i64 0, .int .i64 0, .int .i64 0, .int .i64 0, .int .i64 0, .slice none 0 0] 30 := by subst hW; (repeat' (first | (with_reducible assumption) | (with_reducible apply Blk.drew) | (with_reducible apply Blk.drewN) | (with_reducible apply Blk.set) | (with_reducible apply Blk.other) | (exact Blk.new' _ _ _ (by first | rfl | (simp; done) | (simp; omega))) | (with_reducible apply Blk.alloc) | (with_reducible rfl) | (simp; done) | (simp; omega) | omega | rfl))
        have hbn : w6.heap.size ≤ wd.heap.size := hHeld.1.size
        clear hW
        have hH : Fr (fun _ => False) w6 w9 ∧ True := ⟨hHeld.1.trans k9 (fun _ _ h => h), trivial⟩
        refine hK.out _ _ ⟨hH.1, hH.2⟩ (fun hHeld => ?_)
        clear hK K
        refine norm_ (a' := ?_) ?_ ?_
        rotate_left
        ·show Act.put _ (some 5) _ = _
         simp only [Act.put, List.setIfInBounds_toArray, List.set_cons_zero, List.set_cons_succ, i64_w, i32_w]
         rfl
        exact norm_ (by first | (simp only [putAll, Act.put, List.setIfInBounds_toArray, List.set_cons_zero, List.set_cons_succ]; done) | (simp only [putAll, Act.put, List.setIfInBounds_toArray, List.set_cons_zero, List.set_cons_succ]; rfl)) (hJ0_2_3_5_11 (g7, c7, g8, c8, 0, none, 0, wd.heap.size) _ ⟨hHeld, ⟨h7.1.fr k9 (fun h => h), h7.2⟩, ⟨h8.1.fr k9 (fun h => h), h8.2⟩, ⟨bn, hbn⟩, trivial⟩)
     ·skip
      rintro ⟨g7, c7, g8, c8, b6, A9, c9, bx⟩ wd ⟨hHeld, h7, h8, hb, _⟩
      simp only at h7 h8 hb
      refine norm_ (a' := ?_) ?_ ?_
      rotate_left
      ·simp only [putAll, Act.put, List.setIfInBounds_toArray, List.set_cons_zero, List.set_cons_succ]
       rfl
      refine one_ (i := 6) (N := some 25) #[oY,oY,oY,oY,oY,oY,oY,oN,oN,oN,oN,oY,oN,oN] rfl rfl (by kernel_rfl) (by decide) (fun K hK => ?_)
      refine value_ (w1 := ?_) (v := ?_) (by rfl) rfl ?_ ?_
      rotate_left 2
      ·go_simp
       constructor
       ·rfl
       ·rfl
      generalize hW : World.alloc _ _ = w9
      have k9 : Fr (fun _ => False) wd w9 := by subst hW; (repeat' (first | (with_reducible exact Fr.refl _ _) | (with_reducible assumption) | (with_reducible refine Fr.alloc ?_ _) | (with_reducible refine Fr.drew ?_) | (with_reducible refine Fr.drewN ?_ _) | (with_reducible refine Fr.setCell ?_ _ _ ?_) | (exact Or.inr rfl) | (left; simp; done) | (left; simp; omega) | (simp; done) | (simp; omega) | omega))
      have rn : Row w9 wd.heap.size 2 pairL := by subst hW; exact rowP (by (repeat' (first | (with_reducible assumption) | (with_reducible apply Blk.drew) | (with_reducible apply Blk.drewN) | (with_reducible apply Blk.set) | (with_reducible apply Blk.other) | (exact Blk.new' _ _ _ (by first | rfl | (simp; done) | (simp; omega))) | (with_reducible apply Blk.alloc) | (with_reducible rfl) | (simp; done) | (simp; omega) | omega | rfl)))
      clear hW
      have hH : Fr (fun _ => False) w6 w9 ∧ True := ⟨hHeld.1.trans k9 (fun _ _ h => h), trivial⟩
      refine hK.out _ _ ⟨hH.1, hH.2⟩ (fun hHeld => ?_)
      clear hK K
      refine norm_ (a' := ?_) ?_ ?_
      rotate_left
      ·show Act.put _ (some 25) _ = _
       simp only [Act.put, List.setIfInBounds_toArray, List.set_cons_zero, List.set_cons_succ, i64_w, i32_w]
       rfl
      exact norm_ (by first | (simp only [putAll, Act.put, List.setIfInBounds_toArray, List.set_cons_zero, List.set_cons_succ]; done) | (simp only [putAll, Act.put, List.setIfInBounds_toArray, List.set_cons_zero, List.set_cons_succ]; rfl)) (hJ0_2_3_5_6_11 (g7, c7, g8, c8, wd.heap.size, none, 0, bx) _ ⟨hHeld, ⟨h7.1.fr k9 (fun h => h), h7.2⟩, ⟨h8.1.fr k9 (fun h => h), h8.2⟩, rn, ⟨hb.1.fr k9 (fun h => h), hb.2⟩, trivial⟩)
    ·skip
     rintro ⟨g7, c7, g8, c8, b6, A9, c9, bx⟩ wd ⟨hHeld, h7, h8, h6, _⟩
     simp only at h7 h8 h6
     refine norm_ (a' := ?_) ?_ ?_
     rotate_left
     ·simp only [putAll, Act.put, List.setIfInBounds_toArray, List.set_cons_zero, List.set_cons_succ]
      rfl
     refine two_ (i := 7) (j := 11) (Ni := some 26) (Nj := some 5) #[oY,oY,oY,oY,oY,oY,oY,oY,oN,oN,oN,oN,oN,oN] #[oY,oY,oY,oY,oY,oY,oY,oN,oN,oN,oN,oY,oN,oN] rfl rfl rfl rfl (by kernel_rfl) (by decide) (by decide) (fun K hK => ?_) (fun K hK => ?_)
     ·skip
      refine goes_ Tryz.func9 (by kernel_rfl) rfl #[.slice (some ⟨b6, 0, none⟩) 2 2] (by rfl) rfl rfl (by simp only [List.map_toArray, List.map_cons, List.map_nil]; rfl) ?_
      refine (ch_on (n := 2) (l := pairL) (hC := h6.toC (by unfold maxLen; omega)) rfl (by omega) rfl z3 d3).mono ?_
      rintro e w9 ⟨vn, rfl, hvn, k9⟩
      obtain ⟨An, cn, rfl, _, _⟩ := hvn.sl
      refine ⟨_, rfl, ?_⟩
      have hH : Fr (fun _ => False) w6 w9 ∧ True := ⟨hHeld.1.trans k9 (fun _ _ h => h), trivial⟩
      refine hK.out _ _ ⟨hH.1, hH.2⟩ (fun hHeld => ?_)
      clear hK K
      refine norm_ (a' := ?_) ?_ ?_
      rotate_left
      ·show Act.put _ (some 26) _ = _
       simp only [Act.put, List.setIfInBounds_toArray, List.set_cons_zero, List.set_cons_succ, i64_w, i32_w]
       rfl
      refine pure_ (i := 8) (N := some 18) (v := ?_) (a' := ?_) #[oY,oY,oY,oY,oY,oY,oY,oY,oY,oN,oN,oN,oN,oN] rfl rfl (by kernel_rfl) (fun _ _ _ h => h) (Or.inl ⟨by rfl, ?_⟩) ?_ ?_
      rotate_left
      ·intro w'
       go_simp
       with_reducible rfl
      rotate_left
      ·simp only [Act.put, List.setIfInBounds_toArray, List.set_cons_zero, List.set_cons_succ, i64_w, i32_w]
       rfl
      refine pure_ (i := 9) (N := some 27) (v := ?_) (a' := ?_) #[oY,oY,oY,oY,oY,oY,oY,oY,oY,oY,oN,oN,oN,oN] rfl rfl (by kernel_rfl) (fun _ _ _ h => h) (Or.inl ⟨by rfl, ?_⟩) ?_ ?_
      rotate_left
      ·intro w'
       go_simp
       with_reducible rfl
      rotate_left
      ·simp only [Act.put, List.setIfInBounds_toArray, List.set_cons_zero, List.set_cons_succ, i64_w, i32_w]
       rfl
      refine pure_ (i := 10) (N := some 28) (v := ?_) (a' := ?_) #[oY,oY,oY,oY,oY,oY,oY,oY,oY,oY,oY,oN,oN,oN] rfl rfl (by kernel_rfl) (fun _ _ _ h => h) (Or.inl ⟨by rfl, ?_⟩) ?_ ?_
      rotate_left
      ·intro w'
       go_simp
       with_reducible rfl
      rotate_left
      ·simp only [Act.put, List.setIfInBounds_toArray, List.set_cons_zero, List.set_cons_succ, i64_w, i32_w]
       rfl
      exact norm_ (by first | (simp only [putAll, Act.put, List.setIfInBounds_toArray, List.set_cons_zero, List.set_cons_succ]; done) | (simp only [putAll, Act.put, List.setIfInBounds_toArray, List.set_cons_zero, List.set_cons_succ]; rfl)) (hJ0_2_3_5_6_7 (g7, c7, g8, c8, b6, An, cn, 0) _ ⟨hHeld, ⟨h7.1.fr k9 (fun h => h), h7.2⟩, ⟨h8.1.fr k9 (fun h => h), h8.2⟩, h6.fr k9 (fun h => h), trivial⟩)
     ·skip
      refine value_ (w1 := ?_) (v := ?_) (by rfl) rfl ?_ ?_
      rotate_left 2
      ·go_simp
       constructor
       ·rfl
       ·rfl
      generalize hW : World.alloc _ _ = w9
      have k9 : Fr (fun _ => False) wd w9 := by subst hW; (repeat' (first | (with_reducible exact Fr.refl _ _) | (with_reducible assumption) | (with_reducible refine Fr.alloc ?_ _) | (with_reducible refine Fr.drew ?_) | (with_reducible refine Fr.drewN ?_ _) | (with_reducible refine Fr.setCell ?_ _ _ ?_) | (exact Or.inr rfl) | (left; simp; done) | (left; simp; omega) | (simp; done) | (simp; omega) | omega))
      have bn : Blk w9 wd.heap.size #[.int .i64 0, .int .i64 0, .int .i64 0, .int .i64 0, .int .i64 0, .slice none 0 0] 30 := by subst hW; (repeat' (first | (with_reducible assumption) | (with_reducible apply Blk.drew) | (with_reducible apply Blk.drewN) | (with_reducible apply Blk.set) | (with_reducible apply Blk.other) | (exact Blk.new' _ _ _ (by first | rfl | (simp; done) | (simp; omega))) | (with_reducible apply Blk.alloc) | (with_reducible rfl) | (simp; done) | (simp; omega) | omega | rfl))
      have hbn : w6.heap.size ≤ wd.heap.size := hHeld.1.size
      clear hW
      have hH : Fr (fun _ => False) w6 w9 ∧ True := ⟨hHeld.1.trans k9 (fun _ _ h => h), trivial⟩
      refine hK.out _ _ ⟨hH.1, hH.2⟩ (fun hHeld => ?_)
      clear hK K
      refine norm_ (a' := ?_) ?_ ?_
      rotate_left
      ·show Act.put _ (some 5) _ = _
       simp only [Act.put, List.setIfInBounds_toArray, List.set_cons_zero, List.set_cons_succ, i64_w, i32_w]
       rfl
      exact norm_ (by first | (simp only [putAll, Act.put, List.setIfInBounds_toArray, List.set_cons_zero, List.set_cons_succ]; done) | (simp only [putAll, Act.put, List.setIfInBounds_toArray, List.set_cons_zero, List.set_cons_succ]; rfl)) (hJ0_2_3_5_6_11 (g7, c7, g8, c8, b6, none, 0, wd.heap.size) _ ⟨hHeld, ⟨h7.1.fr k9 (fun h => h), h7.2⟩, ⟨h8.1.fr k9 (fun h => h), h8.2⟩, h6.fr k9 (fun h => h), ⟨bn, hbn⟩, trivial⟩)
   ·skip
    rintro ⟨g7, c7, g8, c8, b6, A9, c9, bx⟩ wd ⟨hHeld, h7, h8, h6, hb, _⟩
    simp only at h7 h8 h6 hb
    refine norm_ (a' := ?_) ?_ ?_
    rotate_left
    ·simp only [putAll, Act.put, List.setIfInBounds_toArray, List.set_cons_zero, List.set_cons_succ]
     rfl
    refine one_ (i := 7) (N := some 26) #[oY,oY,oY,oY,oY,oY,oY,oY,oN,oN,oN,oY,oN,oN] rfl rfl (by kernel_rfl) (by decide) (fun K hK => ?_)
    refine goes_ Tryz.func9 (by kernel_rfl) rfl #[.slice (some ⟨b6, 0, none⟩) 2 2] (by rfl) rfl rfl (by simp only [List.map_toArray, List.map_cons, List.map_nil]; rfl) ?_
    refine (ch_on (n := 2) (l := pairL) (hC := h6.toC (by unfold maxLen; omega)) rfl (by omega) rfl z3 d3).mono ?_
    rintro e w9 ⟨vn, rfl, hvn, k9⟩
    obtain ⟨An, cn, rfl, _, _⟩ := hvn.sl
    refine ⟨_, rfl, ?_⟩
    have hH : Fr (fun _ => False) w6 w9 ∧ True := ⟨hHeld.1.trans k9 (fun _ _ h => h), trivial⟩
    refine hK.out _ _ ⟨hH.1, hH.2⟩ (fun hHeld => ?_)
    clear hK K
    refine norm_ (a' := ?_) ?_ ?_
    rotate_left
    ·show Act.put _ (some 26) _ = _
     simp only [Act.put, List.setIfInBounds_toArray, List.set_cons_zero, List.set_cons_succ, i64_w, i32_w]
     rfl
    refine pure_ (i := 8) (N := some 18) (v := ?_) (a' := ?_) #[oY,oY,oY,oY,oY,oY,oY,oY,oY,oN,oN,oY,oN,oN] rfl rfl (by kernel_rfl) (fun _ _ _ h => h) (Or.inl ⟨by rfl, ?_⟩) ?_ ?_
    rotate_left
    ·intro w'
     go_simp
     with_reducible rfl
    rotate_left
    ·simp only [Act.put, List.setIfInBounds_toArray, List.set_cons_zero, List.set_cons_succ, i64_w, i32_w]
     rfl
    refine pure_ (i := 9) (N := some 27) (v := ?_) (a' := ?_) #[oY,oY,oY,oY,oY,oY,oY,oY,oY,oY,oN,oY,oN,oN] rfl rfl (by kernel_rfl) (fun _ _ _ h => h) (Or.inl ⟨by rfl, ?_⟩) ?_ ?_
    rotate_left
    ·intro w'
     go_simp
     with_reducible rfl
    rotate_left
    ·simp only [Act.put, List.setIfInBounds_toArray, List.set_cons_zero, List.set_cons_succ, i64_w, i32_w]
     rfl
    refine pure_ (i := 10) (N := some 28) (v := ?_) (a' := ?_) #[oY,oY,oY,oY,oY,oY,oY,oY,oY,oY,oY,oY,oN,oN] rfl rfl (by kernel_rfl) (fun _ _ _ h => h) (Or.inl ⟨by rfl, ?_⟩) ?_ ?_
    rotate_left
    ·intro w'
     go_simp
     with_reducible rfl
    rotate_left
    ·simp only [Act.put, List.setIfInBounds_toArray, List.set_cons_zero, List.set_cons_succ, i64_w, i32_w]
     rfl
    exact norm_ (by first | (simp only [putAll, Act.put, List.setIfInBounds_toArray, List.set_cons_zero, List.set_cons_succ]; done) | (simp only [putAll, Act.put, List.setIfInBounds_toArray, List.set_cons_zero, List.set_cons_succ]; rfl)) (hJ0_2_3_5_6_7_11 (g7, c7, g8, c8, b6, An, cn, bx) _ ⟨hHeld, ⟨h7.1.fr k9 (fun h => h), h7.2⟩, ⟨h8.1.fr k9 (fun h => h), h8.2⟩, h6.fr k9 (fun h => h), ⟨hb.1.fr k9 (fun h => h), hb.2⟩, trivial⟩)
  ·skip
   rintro ⟨g7, c7, g8, c8, b6, A9, c9, bx⟩ wd ⟨hHeld, h7, h8, h6, _⟩
   simp only at h7 h8 h6
   refine norm_ (a' := ?_) ?_ ?_
   rotate_left
   ·simp only [putAll, Act.put, List.setIfInBounds_toArray, List.set_cons_zero, List.set_cons_succ]
    rfl
   refine one_ (i := 11) (N := some 5) #[oY,oY,oY,oY,oY,oY,oY,oY,oY,oY,oY,oY,oN,oN] rfl rfl (by kernel_rfl) (by decide) (fun K hK => ?_)
   refine value_ (w1 := ?_) (v := ?_) (by rfl) rfl ?_ ?_
   rotate_left 2
   ·go_simp
    constructor
    ·rfl
    ·rfl
   generalize hW : World.alloc _ _ = w9
   have k9 : Fr (fun _ => False) wd w9 := by subst hW; (repeat' (first | (with_reducible exact Fr.refl _ _) | (with_reducible assumption) | (with_reducible refine Fr.alloc ?_ _) | (with_reducible refine Fr.drew ?_) | (with_reducible refine Fr.drewN ?_ _) | (with_reducible refine Fr.setCell ?_ _ _ ?_) | (exact Or.inr rfl) | (left; simp; done) | (left; simp; omega) | (simp; done) | (simp; omega) | omega))
   have bn : Blk w9 wd.heap.size #[.int .i64 0, .int .i64 0, .int .i64 0, .int .i64 0, .int .i64 0, .slice none 0 0] 30 := by subst hW; (repeat' (first | (with_reducible assumption) | (with_reducible apply Blk.drew) | (with_reducible apply Blk.drewN) | (with_reducible apply Blk.set) | (with_reducible apply Blk.other) | (exact Blk.new' _ _ _ (by first | rfl | (simp; done) | (simp; omega))) | (with_reducible apply Blk.alloc) | (with_reducible rfl) | (simp; done) | (simp; omega) | omega | rfl))
   have hbn : w6.heap.size ≤ wd.heap.size := hHeld.1.size
   clear hW
   have hH : Fr (fun _ => False) w6 w9 ∧ True := ⟨hHeld.1.trans k9 (fun _ _ h => h), trivial⟩
   refine hK.out _ _ ⟨hH.1, hH.2⟩ (fun hHeld => ?_)
   clear hK K
   refine norm_ (a' := ?_) ?_ ?_
   rotate_left
   ·show Act.put _ (some 5) _ = _
    simp only [Act.put, List.setIfInBounds_toArray, List.set_cons_zero, List.set_cons_succ, i64_w, i32_w]
    rfl
   exact norm_ (by first | (simp only [putAll, Act.put, List.setIfInBounds_toArray, List.set_cons_zero, List.set_cons_succ]; done) | (simp only [putAll, Act.put, List.setIfInBounds_toArray, List.set_cons_zero, List.set_cons_succ]; rfl)) (hJ0_2_3_5_6_7_11 (g7, c7, g8, c8, b6, A9, c9, wd.heap.size) _ ⟨hHeld, ⟨h7.1.fr k9 (fun h => h), h7.2⟩, ⟨h8.1.fr k9 (fun h => h), h8.2⟩, h6.fr k9 (fun h => h), ⟨bn, hbn⟩, trivial⟩)
 rintro ⟨g7, c7, g8, c8, b6, A9, c9, bx⟩ wd ⟨hHeld, h7, h8, h6, hb, _⟩
 simp only at h7 h8 h6 hb
 refine norm_ (a' := ?_) ?_ ?_
 rotate_left
 ·simp only [putAll, Act.put, List.setIfInBounds_toArray, List.set_cons_zero, List.set_cons_succ]
  rfl
 refine last_ (i := 12) (N := none) #[oY,oY,oY,oY,oY,oY,oY,oY,oY,oY,oY,oY,oY,oN] rfl rfl (by kernel_rfl) (by decide) (fun K hK => ?_)
 obtain ⟨⟨q0, q1, q2, q3, q4, q5⟩, z0, z1, z2, z3, z4, z5⟩ := hb.1.c6
 have lb := hb.1.lt
 refine skip_ (w1 := ?_) (by rfl) rfl ?_ ?_
 rotate_left
 ·go_simp
  rfl
 have hH : Fr (fun _ => False) w6 wd ∧ True := hHeld
 refine hK.out _ _ ?_
 clear hK K
 refine pure_ (i := 13) (N := some 6) (v := ?_) (a' := ?_) #[oY,oY,oY,oY,oY,oY,oY,oY,oY,oY,oY,oY,oY,oY] rfl rfl (by kernel_rfl) (fun _ _ _ h => h) (Or.inl ⟨by rfl, ?_⟩) ?_ ?_
 rotate_left
 ·intro w'
  go_simp
  with_reducible rfl
 rotate_left
 ·simp only [Act.put, List.setIfInBounds_toArray, List.set_cons_zero, List.set_cons_succ, i64_w, i32_w]
  rfl
 refine done_ (by kernel_rfl) ?_
 generalize hW : World.setCell _ _ _ = w8
 have k8 : Fr (fun i => i = bx) wd w8 := by subst hW; exact fr_set6 wd bx _ _ _ _ _ _
 have K8 : Fr (fun _ => False) w6 w8 := hHeld.1.trans k8 (fun i hi e => by have := hb.2; omega)
 have b1 := HB1.out.fr K8 (fun h => h)
 have b2 := HB2.out.fr K8 (fun h => h)
 have HC8 := hidE (Kd.C_below HC5.out K8.below)
 have HK := hidE (HF.out.trans K8 (fun _ _ h => h))
 obtain ⟨⟨y0, y1, y2, y3, y4, y5⟩, _⟩ := b1.c6
 obtain ⟨⟨x0, x1, x2, x3, x4, x5⟩, _⟩ := b2.c6
 clear hW k8 K8 hHeld hb h7 h8 h6 msd b1 b2 HB1 HB2 HC2 HC5 HF
 go_wp2_with fail
 refine (slices_Equal_int_int.calls 7 A5 c5 [0, 1, 2] (some ⟨w8.heap.size, 0, none⟩) 3 [0, 1, 2] true _ (Kd.C_below HC8.out (Fr.below (by (repeat' (first | (with_reducible exact Fr.refl _ _) | (with_reducible assumption) | (with_reducible refine Fr.alloc ?_ _) | (with_reducible refine Fr.drew ?_) | (with_reducible refine Fr.drewN ?_ _) | (with_reducible refine Fr.setCell ?_ _ _ ?_) | (exact Or.inr rfl) | (left; simp; done) | (left; simp; omega) | (simp; done) | (simp; omega) | omega))))) (by exact hc5) (litI3 _ 0 1 2) (by simp) (by kernel_rfl)).mono ?_
 rintro e w16 ⟨rfl, dr⟩
 have k16 : Fr (fun _ => False) w8 w16 := Fr.trans (S := fun _ => False) (T := fun _ => False) (by (repeat' (first | (with_reducible exact Fr.refl _ _) | (with_reducible assumption) | (with_reducible refine Fr.alloc ?_ _) | (with_reducible refine Fr.drew ?_) | (with_reducible refine Fr.drewN ?_ _) | (with_reducible refine Fr.setCell ?_ _ _ ?_) | (exact Or.inr rfl) | (left; simp; done) | (left; simp; omega) | (simp; done) | (simp; omega) | omega))) (drawnK_fr dr) (fun _ _ h => h)
 clear dr y0 y1 y2 y3 y4 y5 x0 x1 x2 x3 x4 x5
 go_wp2
 go_ret
 exact ⟨rfl, HK.out.trans k16 (fun _ _ h => h)⟩
end Go.Proofs.YtapagoaoglmegaaGreat
end
