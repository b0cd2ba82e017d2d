/- Texts of mine, joined by shake.py: FxQuo, MnWts, MnIter, MnAdd. -/
import Derived.Test.YtapagoaoglmegaaGreatProg
import Derived.Shelf.Bits.Mul64
import Derived.Lib.Hide
import Derived.IntWalk
import Derived.RangeFuncNested
import Derived.RangeFuncBound
import Derived.RangeFuncCalls
import Derived.RangeFuncLeaves
import Derived.Shelf.Abstract
import Derived.Shelf.RegionOpen
import Derived.OwnWalkIn
import Derived.TacticsInMore
import Derived.LoopNIn
import Derived.LoopIn
import Derived.Test.YtapagoaoglmegaaGreatMo0
import Derived.Test.YtapagoaoglmegaaGreatMo3
import Derived.Test.YtapagoaoglmegaaGreatMo12
import Derived.Test.YtapagoaoglmegaaGreatMo13
import Derived.Test.YtapagoaoglmegaaGreatMo14
section
namespace Go.Proofs.YtapagoaoglmegaaGreat
open Go.RowKit
set_option linter.unusedVariables false
set_option linter.unusedSimpArgs false
set_option maxRecDepth 100000
theorem hidQ {p : Prop} (h : p) : Hid p := h
set_option maxHeartbeats 1000000 in
theorem mul64_at (x y : Nat) (hx : x < 18446744073709551616) (hy : y < 18446744073709551616) (w : World) :
    Calls Tryz.prog 134 #[.int .u64 x, .int .u64 y] w fun e w' => e = .returned (.tuple #[.int .u64 ((x * y / 18446744073709551616 : Nat) : Int), .int .u64 ((x * y % 18446744073709551616 : Nat) : Int)]) ∧ Fr (fun _ => False) w w' := by
  obtain ⟨bd, bt, bw, hhi⟩ := Lib.mul64_hi x y hx hy
  have ba := Lib.half_mul_le (a := x / 4294967296) (b := y / 4294967296) (by omega) (by omega)
  have bb := Lib.half_mul_le (a := x / 4294967296) (b := y % 4294967296) (by omega) (by omega)
  have bc := Lib.half_mul_le (a := x % 4294967296) (b := y / 4294967296) (by omega) (by omega)
  have ba' : x / 4294967296 * (y / 4294967296) < 18446744073709551616 := by omega
  have bb' : x / 4294967296 * (y % 4294967296) < 18446744073709551616 := by omega
  have bc' : x % 4294967296 * (y / 4294967296) < 18446744073709551616 := by omega
  have bh1 : x / 4294967296 * (y / 4294967296) + (x / 4294967296 * (y % 4294967296) + x % 4294967296 * (y % 4294967296) / 4294967296) / 4294967296 < 18446744073709551616 := by omega
  have bh : x / 4294967296 * (y / 4294967296) + (x / 4294967296 * (y % 4294967296) + x % 4294967296 * (y % 4294967296) / 4294967296) / 4294967296 + ((x / 4294967296 * (y % 4294967296) + x % 4294967296 * (y % 4294967296) / 4294967296) % 4294967296 + x % 4294967296 * (y / 4294967296)) / 4294967296 < 18446744073709551616 := by omega
  go_enter Tryz.func134, Tryz.ntmps134
  go_wp2
  simp only [Mul64.maskN x hx, Mul64.maskN y hy, Mul64.divN, Mul64.mulN, Mul64.addN, Mul64.wrapN _ bd, Mul64.wrapN _ bb', Mul64.wrapN _ bt, Mul64.maskN _ bt, Mul64.wrapN _ bc', Mul64.wrapN _ bw, Mul64.wrapN _ ba', Mul64.wrapN _ bh1, Mul64.wrapN _ bh, Mul64.wrapM (x * y)]
  rw [hhi]
  go_ret2
  exact ⟨rfl, Fr.refl _ _⟩
theorem div64_0 (lo y : Nat) (hl : lo < 18446744073709551616) (hy : 0 < y) (hy2 : y < 18446744073709551616) (w : World) :
    Calls Tryz.prog 136 #[.int .u64 ((0 : Nat) : Int), .int .u64 lo, .int .u64 y] w fun e w' => e = .returned (.tuple #[.int .u64 ((lo / y : Nat) : Int), .int .u64 ((lo % y : Nat) : Int)]) ∧ Fr (fun _ => False) w w' := by
  have t1 : ((y : Int) == 0) = false := beq_eq_false_iff_ne.2 (by omega)
  have t2 : decide ((y : Int) ≤ 0) = false := decide_eq_false (by omega)
  have e1 : IntKind.u64.wrap ((lo : Int) / (y : Int)) = ((lo / y : Nat) : Int) := by
    rw [← Int.natCast_ediv]
    exact Mul64.wrapN _ (Nat.lt_of_le_of_lt (Nat.div_le_self _ _) hl)
  have e2 : (lo : Int) % (y : Int) = ((lo % y : Nat) : Int) := (Int.natCast_emod lo y).symm
  have n1 : ¬ (y : Int) = 0 := by omega
  go_enter Tryz.func136, Tryz.ntmps136
  go_wp2_with fail
  go_quiet (fail)
  go_wp2
  go_ret2
  exact ⟨by first | rfl | (simp; done), (Fr.refl _ _).drewN _⟩
theorem size_at (a : Nat) (ha : a < 9223372036854775808) (w : World) :
    Calls Tryz.prog 135 #[.int .i64 (a : Int)] w fun e w' => e = .returned (.int .u64 (a : Int)) ∧ w = w' := by
  have t1 : decide ((a : Int) < 0) = false := decide_eq_false (by omega)
  have e1 : IntKind.u64.wrap (a : Int) = (a : Int) := Mul64.wrapN a (by omega)
  go_enter Tryz.func135, Tryz.ntmps135
  go_wp2_with fail
  go_ret
  exact ⟨by rfl, rfl⟩
theorem signed_at (n : Nat) (hn : n < 18446744073709551616) (w : World) :
    Calls Tryz.prog 137 #[.int .u64 (n : Int), .bool false] w fun e w' => e = .returned (.tuple #[(.int .i64 (wrap64 (n : Int))), .bool (decide ((n : Int) < 9223372036854775808))]) ∧ w = w' := by
  go_enter Tryz.func137, Tryz.ntmps137
  go_wp2_with fail
  go_ret2
  exact ⟨by rfl, rfl⟩
theorem signed_yes (n : Nat) (hn : n < 9223372036854775808) (w : World) :
    Calls Tryz.prog 137 #[.int .u64 (n : Int), .bool false] w fun e w' => e = .returned (.tuple #[.int .i64 (n : Int), .bool true]) ∧ w = w' := by
  refine (signed_at n (by omega) w).mono ?_
  rintro e w' ⟨rfl, rfl⟩
  rw [IntWalk.wrap64_in _ (by omega), decide_eq_true (by omega)]
  exact ⟨rfl, rfl⟩
theorem signed_no (n : Nat) (hn : n < 18446744073709551616) (h : ¬ n < 9223372036854775808) (w : World) :
    Calls Tryz.prog 137 #[.int .u64 (n : Int), .bool false] w fun e w' => e = .returned (.tuple #[.int .i64 (wrap64 (n : Int)), .bool false]) ∧ w = w' := by
  refine (signed_at n hn w).mono ?_
  rintro e w' ⟨rfl, rfl⟩
  rw [decide_eq_false (by omega : ¬ (n : Int) < 9223372036854775808)]
  exact ⟨rfl, rfl⟩
theorem down_at (w : World) : Calls Tryz.prog 110 #[.bool false] w fun e w' => e = .returned (.bool false) ∧ w = w' := by
  go_enter Tryz.func110, Tryz.ntmps110
  go_wp2_with fail
  go_ret
  exact ⟨rfl, rfl⟩
theorem up_at (w : World) : Calls Tryz.prog 111 #[.bool false] w fun e w' => e = .returned (.bool true) ∧ w = w' := by
  go_enter Tryz.func111, Tryz.ntmps111
  go_wp2_with fail
  go_ret
  exact ⟨rfl, rfl⟩
def quoZ (a b c : Nat) (up : Bool) : Int × Int :=
  if c ≤ a * b / 18446744073709551616 then (0, 20)
  else if a * b / c + (if up = true ∧ 0 < a * b % c then 1 else 0) < 9223372036854775808 then (((a * b / c + (if up = true ∧ 0 < a * b % c then 1 else 0) : Nat) : Int), 0) else (0, 20)
def DivOk (a b c : Nat) : Prop := a * b / 18446744073709551616 < c → ∀ W : World, Calls Tryz.prog 136 #[.int .u64 ((a * b / 18446744073709551616 : Nat) : Int), .int .u64 ((a * b % 18446744073709551616 : Nat) : Int), .int .u64 (c : Int)] W fun e w' => e = .returned (.tuple #[.int .u64 ((a * b / c : Nat) : Int), .int .u64 ((a * b % c : Nat) : Int)]) ∧ Fr (fun _ => False) W w'
theorem divOk_0 {a b c : Nat} (hc : 0 < c) (hc2 : c < 18446744073709551616) (h : a * b < 18446744073709551616) : DivOk a b c := by
  intro _ W
  rw [Nat.div_eq_of_lt h, Nat.mod_eq_of_lt h]
  exact div64_0 _ _ h hc hc2 W
set_option maxHeartbeats 4000000 in
theorem quo_at {a b c : Nat} (ha : a < 9223372036854775808) (hb : b < 9223372036854775808) (hc : 0 < c) (hc2 : c < 9223372036854775808) (hD : DivOk a b c) (up : Bool) (fv : Nat) (hent : ∀ args w, (callFunc fv args).run Tryz.prog w = .ok (.enter fv args) w) (hf : ∀ W : World, Calls Tryz.prog fv #[.bool false] W fun e w' => e = .returned (.bool up) ∧ W = w') (w : World) :
    Calls Tryz.prog 109 #[.int .i64 (a : Int), .int .i64 (b : Int), .int .i64 (c : Int), .func (.func fv) #[] #[]] w fun e w' => e = .returned (.tuple #[.int .i64 (quoZ a b c up).1, .int .i64 (quoZ a b c up).2]) ∧ Fr (fun _ => False) w w' := by
  have HM := hidQ (mul64_at a b (by omega) (by omega))
  have t1 : decide ((c : Int) ≤ 0) = false := decide_eq_false (by omega)
  have t2 : decide ((a : Int) < 0) = false := decide_eq_false (by omega)
  have t3 : decide ((b : Int) < 0) = false := decide_eq_false (by omega)
  have e1 : IntKind.u64.wrap (c : Int) = (c : Int) := Mul64.wrapN c (by omega)
  have HD := hidQ hD
  unfold DivOk at HD
  obtain ⟨q, hq⟩ : ∃ q, q = quoZ a b c up := ⟨_, rfl⟩
  rw [← hq]
  unfold quoZ at hq
  obtain ⟨H, hH⟩ : ∃ H, H = a * b / 18446744073709551616 := ⟨_, rfl⟩
  obtain ⟨L, hL⟩ : ∃ L, L = a * b % 18446744073709551616 := ⟨_, rfl⟩
  obtain ⟨Q, hQ⟩ : ∃ Q, Q = a * b / c := ⟨_, rfl⟩
  obtain ⟨R, hR⟩ : ∃ R, R = a * b % c := ⟨_, rfl⟩
  rw [← hH, ← hQ, ← hR] at hq
  rw [← hH, ← hL] at HM
  rw [← hH, ← hL, ← hQ, ← hR] at HD
  have HQ := hidQ hq
  have hQl : H < c → Q < 18446744073709551616 := fun h => by
    rw [hQ]
    apply Nat.div_lt_of_lt_mul
    rw [hH] at h
    have := Nat.div_add_mod (a * b) 18446744073709551616
    have h2 := Nat.mod_lt (a * b) (show 0 < 18446744073709551616 by omega)
    omega
  have hQL := hidQ hQl
  clear hq hH hL hQ hR hQl hD
  go_enter Tryz.func109, Tryz.ntmps109
  go_wp2_with fail
  generalize hW : World.alloc w _ = W2
  have fW : Fr (fun _ => False) w W2 := by subst hW; (repeat' (first | (with_reducible exact Fr.refl _ _) | (with_reducible assumption) | (with_reducible refine Fr.alloc ?_ _) | (with_reducible refine Fr.drew ?_) | (with_reducible refine Fr.drewN ?_ _) | (with_reducible refine Fr.setCell ?_ _ _ ?_) | (exact Or.inr rfl) | (left; simp; done) | (left; simp; omega) | (simp; done) | (simp; omega) | omega))
  have bB : Blk W2 w.heap.size #[.int .u64 0, .int .u64 0] 183 := by subst hW; (repeat' (first | (with_reducible assumption) | (with_reducible apply Blk.drew) | (with_reducible apply Blk.drewN) | (with_reducible apply Blk.set) | (with_reducible apply Blk.other) | (exact Blk.new' _ _ _ (by first | rfl | (simp; done) | (simp; omega))) | (with_reducible apply Blk.alloc) | (with_reducible rfl) | (simp; done) | (simp; omega) | omega | rfl))
  clear hW
  obtain ⟨B, hB⟩ : ∃ B, B = w.heap.size := ⟨_, rfl⟩
  rw [← hB] at bB ⊢
  have hBw : w.heap.size ≤ B := by omega
  clear hB
  refine (size_at a ha _).mono ?_
  rintro e w1 ⟨rfl, rfl⟩
  go_wp2_with fail
  refine (size_at b hb _).mono ?_
  rintro e w1 ⟨rfl, rfl⟩
  go_wp2_with fail
  refine (HM.out _).mono ?_
  rintro e w1 ⟨rfl, k1⟩
  clear HM
  have b1 := bB.fr k1 (fun h => h)
  have f1 := fW.trans k1 (fun _ _ h => h)
  have hBl := b1.lt
  have c0 : w1.cell? ⟨B, 0, none⟩ = some (.int .u64 0) := b1.cell 0
  have c1 : w1.cell? ⟨B, 1, none⟩ = some (.int .u64 0) := b1.cell 1
  have z0 := b1.free 0
  have z1 := b1.free 1
  clear bB b1 k1 fW
  by_cases hHc : H < c
  · have HDc := hidQ (HD.out hHc)
    have t4 : decide (c ≤ H) = false := decide_eq_false (by omega)
    have hQ := hQL.out hHc
    have HQ2 : Hid (q = if Q + (if up = true ∧ 0 < R then 1 else 0) < 9223372036854775808 then (((Q + (if up = true ∧ 0 < R then 1 else 0) : Nat) : Int), 0) else (0, 20)) := hidQ (by have := HQ.out; rwa [if_neg (by omega)] at this)
    clear HD hQL HQ hHc
    go_wp2_with fail
    refine (HDc.out _).mono ?_
    rintro e w2 ⟨rfl, k2⟩
    clear HDc
    have f2 : Fr (fun _ => False) w w2 := f1.trans (Fr.trans (S := fun i => i = B) (by (repeat' (first | (with_reducible exact Fr.refl _ _) | (with_reducible assumption) | (with_reducible refine Fr.alloc ?_ _) | (with_reducible refine Fr.drew ?_) | (with_reducible refine Fr.drewN ?_ _) | (with_reducible refine Fr.setCell ?_ _ _ ?_) | (exact Or.inr rfl) | (left; simp; done) | (left; simp; omega) | (simp; done) | (simp; omega) | omega))) k2 (fun _ _ h => h.elim)) (fun i hi e => by omega)
    have HV := hidQ (hf w2)
    clear k2 f1 c0 c1 z0 z1 hBl hf
    by_cases hR : 0 < R
    · have t5 : decide ((R : Int) > 0) = true := decide_eq_true (by omega)
      have t6 : decide (0 < R) = true := decide_eq_true hR
      cases up with
      | true =>
        have HQ3 : Hid (q = if Q + 1 < 9223372036854775808 then (((Q + 1 : Nat) : Int), 0) else (0, 20)) := hidQ (by have := HQ2.out; simpa [hR] using this)
        clear hR HQ2
        go_wp2_with fail
        refine HV.out.mono ?_
        rintro e w3 ⟨rfl, rfl⟩
        clear HV
        by_cases hq1 : Q + 1 < 18446744073709551616
        · obtain ⟨Q1, hQ1⟩ : ∃ Q1, Q1 = Q + 1 := ⟨_, rfl⟩
          rw [← hQ1] at HQ3
          have e2 : IntKind.u64.wrap ((Q : Int) + 1) = (Q1 : Int) := by rw [hQ1]; exact Mul64.wrapN (Q + 1) hq1
          have t7 : ((Q1 : Int) == 0) = false := beq_eq_false_iff_ne.2 (by omega)
          have t8 : (Q1 == 0) = false := beq_eq_false_iff_ne.2 (by omega)
          have t9 : decide (Q1 = 0) = false := decide_eq_false (by omega)
          by_cases hs : Q1 < 9223372036854775808
          · have HQ4 := hidQ (show q = ((Q1 : Int), 0) by rw [HQ3.out, if_pos hs])
            have HS := hidQ (signed_yes Q1 hs w2)
            clear hQ1 hq1 hs HQ3 hQ
            go_wp2_with fail
            refine HS.out.mono ?_
            rintro e w4 ⟨rfl, rfl⟩
            clear HS
            go_wp2_with fail
            go_ret2
            rw [HQ4.out]
            exact ⟨by rfl, f2⟩
          · have HQ4 := hidQ (show q = (0, 20) by rw [HQ3.out, if_neg hs])
            have HS := hidQ (signed_no Q1 (by omega) hs w2)
            clear hQ1 hq1 hs HQ3 hQ
            go_wp2_with fail
            refine HS.out.mono ?_
            rintro e w4 ⟨rfl, rfl⟩
            clear HS
            go_wp2_with fail
            go_ret2
            rw [HQ4.out]
            exact ⟨by rfl, f2⟩
        · have e2 : IntKind.u64.wrap ((Q : Int) + 1) = 0 := by rw [show (Q : Int) + 1 = 18446744073709551616 by omega]; rfl
          have HQ4 := hidQ (show q = (0, 20) by rw [HQ3.out, if_neg (by omega)])
          clear hq1 HQ3 hQ
          go_wp2_with fail
          go_ret2
          rw [HQ4.out]
          exact ⟨by rfl, f2⟩
      | false =>
        have HQ3 : Hid (q = if Q < 9223372036854775808 then (((Q : Nat) : Int), 0) else (0, 20)) := hidQ (by have := HQ2.out; simpa [hR] using this)
        clear hR HQ2
        by_cases hs : Q < 9223372036854775808
        · have HQ4 := hidQ (show q = ((Q : Int), 0) by rw [HQ3.out, if_pos hs])
          have HS := hidQ (signed_yes Q hs w2)
          clear hs HQ3 hQ
          go_wp2_with fail
          refine HV.out.mono ?_
          rintro e w3 ⟨rfl, rfl⟩
          clear HV
          go_wp2_with fail
          refine HS.out.mono ?_
          rintro e w4 ⟨rfl, rfl⟩
          clear HS
          go_wp2_with fail
          go_ret2
          rw [HQ4.out]
          exact ⟨by rfl, f2⟩
        · have HQ4 := hidQ (show q = (0, 20) by rw [HQ3.out, if_neg hs])
          have HS := hidQ (signed_no Q hQ hs w2)
          clear hs HQ3 hQ
          go_wp2_with fail
          refine HV.out.mono ?_
          rintro e w3 ⟨rfl, rfl⟩
          clear HV
          go_wp2_with fail
          refine HS.out.mono ?_
          rintro e w4 ⟨rfl, rfl⟩
          clear HS
          go_wp2_with fail
          go_ret2
          rw [HQ4.out]
          exact ⟨by rfl, f2⟩
    · have t5 : decide ((R : Int) > 0) = false := decide_eq_false (by omega)
      have t6 : decide (0 < R) = false := decide_eq_false hR
      have HQ3 : Hid (q = if Q < 9223372036854775808 then (((Q : Nat) : Int), 0) else (0, 20)) := hidQ (by have := HQ2.out; simpa [hR] using this)
      clear hR HQ2 HV
      by_cases hs : Q < 9223372036854775808
      · have HQ4 := hidQ (show q = ((Q : Int), 0) by rw [HQ3.out, if_pos hs])
        have HS := hidQ (signed_yes Q hs w2)
        clear hs HQ3 hQ
        go_wp2_with fail
        refine HS.out.mono ?_
        rintro e w4 ⟨rfl, rfl⟩
        clear HS
        go_wp2_with fail
        go_ret2
        rw [HQ4.out]
        exact ⟨by rfl, f2⟩
      · have HQ4 := hidQ (show q = (0, 20) by rw [HQ3.out, if_neg hs])
        have HS := hidQ (signed_no Q hQ hs w2)
        clear hs HQ3 hQ
        go_wp2_with fail
        refine HS.out.mono ?_
        rintro e w4 ⟨rfl, rfl⟩
        clear HS
        go_wp2_with fail
        go_ret2
        rw [HQ4.out]
        exact ⟨by rfl, f2⟩
  · have t4 : decide (c ≤ H) = true := decide_eq_true (by omega)
    have HQ2 := hidQ (show q = (0, 20) from by have := HQ.out; rwa [if_pos (by omega)] at this)
    clear HD hQL HQ hHc
    go_wp2_with fail
    go_ret2
    rw [HQ2.out]
    exact ⟨by rfl, Fr.trans (T := fun i => i = B) f1 (by (repeat' (first | (with_reducible exact Fr.refl _ _) | (with_reducible assumption) | (with_reducible refine Fr.alloc ?_ _) | (with_reducible refine Fr.drew ?_) | (with_reducible refine Fr.drewN ?_ _) | (with_reducible refine Fr.setCell ?_ _ _ ?_) | (exact Or.inr rfl) | (left; simp; done) | (left; simp; omega) | (simp; done) | (simp; omega) | omega))) (fun i hi e => by omega)⟩
theorem muldiv_at {a b c : Nat} (ha : a < 9223372036854775808) (hb : b < 9223372036854775808) (hc : 0 < c) (hc2 : c < 9223372036854775808) (hD : DivOk a b c) (w : World) :
    Calls Tryz.prog 61 #[.int .i64 (a : Int), .int .i64 (b : Int), .int .i64 (c : Int)] w fun e w' => e = .returned (.tuple #[.int .i64 (quoZ a b c false).1, .int .i64 (quoZ a b c false).2]) ∧ Fr (fun _ => False) w w' := by
  have HQ := hidQ (quo_at ha hb hc hc2 hD false 110 (enters_of Tryz.func110 (by kernel_rfl) rfl) down_at w)
  generalize quoZ a b c false = q at HQ ⊢
  clear hD
  go_enter Tryz.func61, Tryz.ntmps61
  go_wp2_with fail
  refine HQ.out.mono ?_
  rintro e w1 ⟨rfl, k1⟩
  go_wp2_with fail
  go_ret2
  exact ⟨rfl, k1⟩
theorem muldivup_at {a b c : Nat} (ha : a < 9223372036854775808) (hb : b < 9223372036854775808) (hc : 0 < c) (hc2 : c < 9223372036854775808) (hD : DivOk a b c) (w : World) :
    Calls Tryz.prog 63 #[.int .i64 (a : Int), .int .i64 (b : Int), .int .i64 (c : Int)] w fun e w' => e = .returned (.tuple #[.int .i64 (quoZ a b c true).1, .int .i64 (quoZ a b c true).2]) ∧ Fr (fun _ => False) w w' := by
  have HQ := hidQ (quo_at ha hb hc hc2 hD true 111 (enters_of Tryz.func111 (by kernel_rfl) rfl) up_at w)
  generalize quoZ a b c true = q at HQ ⊢
  clear hD
  go_enter Tryz.func63, Tryz.ntmps63
  go_wp2_with fail
  refine HQ.out.mono ?_
  rintro e w1 ⟨rfl, k1⟩
  go_wp2_with fail
  go_ret2
  exact ⟨rfl, k1⟩
end Go.Proofs.YtapagoaoglmegaaGreat
namespace Go.Proofs.YtapagoaoglmegaaGreat
open Go.RowKit Go.Proofs.YtapagoaoglmegaaGreatW.PrintWords Go.Proofs.YtapagoaoglmegaaGreatW.PrintLast Go.Proofs.YtapagoaoglmegaaGreatW.PrintMore PCl
attribute [local go_sem] max2_int min2_int max_two min_two
set_option linter.unusedVariables false
set_option linter.unusedSimpArgs false
set_option maxRecDepth 100000
theorem spmay_at (s : S25) (W : World) : Calls Tryz.prog 35 #[vS s] W fun e w' => e = .returned (.bool (decide (SpOk s))) ∧ Fr (fun _ => False) W w' :=
  (span_May.calls 5 s.f0 s.f1 s.f2 _ W (spMay_f s.f0 s.f1 s.f2 5 (by omega))).mono fun _ _ q => ⟨q.1, Fr.of_below q.2 (Nat.le_refl _) _⟩
theorem spbad_at (s : S25) (W : World) : Calls Tryz.prog 105 #[vS s] W fun e w' => e = .returned (.bool (!decide (SpOk s))) ∧ Fr (fun _ => False) W w' := by
  have HM := hidE (spmay_at s)
  generalize decide (SpOk s) = q at HM ⊢
  go_enter Tryz.func105, Tryz.ntmps105
  go_wp2_with fail
  generalize hW : World.alloc W _ = W1
  have f0 : Fr (fun _ => False) W W1 := by subst hW; (repeat' (first | (with_reducible exact Fr.refl _ _) | (with_reducible assumption) | (with_reducible refine Fr.alloc ?_ _) | (with_reducible refine Fr.drew ?_) | (with_reducible refine Fr.drewN ?_ _) | (with_reducible refine Fr.setCell ?_ _ _ ?_) | (exact Or.inr rfl) | (left; simp; done) | (left; simp; omega) | (simp; done) | (simp; omega) | omega))
  clear hW
  refine (HM.out _).mono ?_
  rintro e w2 ⟨rfl, k2⟩
  go_wp2
  go_ret
  exact ⟨rfl, f0.trans k2 (fun _ _ h => h)⟩
theorem spany_at {w : World} {A : Option Addr} {cap : Nat} {L : List S25} (hC : Kd.C k25 w A L.length L) (hc : L.length ≤ cap) (hn : 0 < L.length) :
    Calls Tryz.prog 41 #[.slice A L.length cap, .func (.func 105) #[] #[]] w fun e w' => e = .returned (.bool (L.any fun s => !decide (SpOk s))) ∧ Fr (fun _ => False) w w' := by
  obtain ⟨r, off, rfl, hr, hat⟩ := C25_open hC hn
  have hp : Go.Proofs.PredBelow Tryz.prog 105 #[] (fun s => .agg (encS s).toArray) (fun s => !decide (SpOk s)) w := fun W s hb => (spbad_at s W).mono fun e w' h => ⟨h.1, hb.trans (h.2.below.mono hb.size)⟩
  have hcell : ∀ j, j < L.length → ∀ i v, (encS L[j]!)[i]? = some v → w.cell? ⟨r, off + j * 3 + i, none⟩ = some v := fun j hj i v hv => by
    have h1 : L[j]? = some L[j]! := by rw [getElem!_pos _ j hj]; exact List.getElem?_eq_getElem hj
    obtain ⟨a0, a1, a2⟩ := hat j _ h1
    match i, hv with
    | 0, hv => have hv := Option.some.inj hv; subst hv; exact a0
    | 1, hv => have hv := Option.some.inj hv; subst hv; exact a1
    | 2, hv => have hv := Option.some.inj hv; subst hv; exact a2
    | i + 3, hv => simp [encS] at hv
  have := AnyQ.slices_ContainsFunc YtapagoaoglmegaaGreat.ctf 3 Tryz.isAgg25 Tryz.sizeOf25 encS (fun _ => rfl) (fun s => !decide (SpOk s)) 105 #[] (enters_of Tryz.func105 (by kernel_rfl) rfl) r off L.length cap L w hp (Nat.le_refl _) (C25_len hC) hr hcell
  rw [List.take_length] at this
  exact this.mono fun e w' h => ⟨h.1, Fr.of_below h.2 (Nat.le_refl _) _⟩
theorem cmay_at {w : World} {A : Option Addr} {cap : Nat} {L : List S25} (hC : Kd.C k25 w A L.length L) (hc : L.length ≤ cap) (hn : 0 < L.length) (hl : ∀ s ∈ L, SpOk s) :
    Calls Tryz.prog 57 #[.slice A L.length cap] w fun e w' => e = .returned (.bool true) ∧ Fr (fun _ => False) w w' := by
  have HA := hidE (spany_at hC hc hn)
  have e : (L.any fun s => !decide (SpOk s)) = false := by
    rw [List.any_eq_false]
    intro s hs
    simp [hl s hs]
  rw [e] at HA
  clear e hC hl
  go_enter Tryz.func57, Tryz.ntmps57
  go_wp2_with fail
  refine HA.out.mono ?_
  rintro e w1 ⟨rfl, k1⟩
  go_wp2
  go_ret
  exact ⟨rfl, k1⟩
theorem breadth_at {s : S25} (hs : SpOk s) (W : World) : Calls Tryz.prog 133 #[vS s] W fun e w' => e = .returned (.int .i64 (brZ s)) ∧ Fr (fun _ => False) W w' := by
  have HW := hidE (fun W => span_Width.calls 5 s.f0 s.f1 s.f2 _ W (width_f s.f0 s.f1 s.f2 5 (by omega) hs))
  have e1 : IntKind.i64.wrap (s.f2 - s.f1 + 1) = brZ s := IntWalk.i64_in _ (by have := br_pos hs; unfold brZ at this; omega)
  have e2 : wrap64 (s.f2 - s.f1 + 1) = brZ s := IntWalk.wrap64_in _ (by have := br_pos hs; unfold brZ at this; omega)
  go_enter Tryz.func133, Tryz.ntmps133
  go_wp2_with fail
  generalize hW : World.alloc W _ = W1
  have f0 : Fr (fun _ => False) W W1 := by subst hW; (repeat' (first | (with_reducible exact Fr.refl _ _) | (with_reducible assumption) | (with_reducible refine Fr.alloc ?_ _) | (with_reducible refine Fr.drew ?_) | (with_reducible refine Fr.drewN ?_ _) | (with_reducible refine Fr.setCell ?_ _ _ ?_) | (exact Or.inr rfl) | (left; simp; done) | (left; simp; omega) | (simp; done) | (simp; omega) | omega))
  clear hW
  refine (HW.out _).mono ?_
  rintro e w2 ⟨rfl, k2⟩
  go_wp2
  go_ret
  exact ⟨by rfl, f0.trans (Fr.of_below k2 (Nat.le_refl _) _) (fun _ _ h => h)⟩
def wideTo (l : List S25) (i : Nat) : Int := wideZ (l.take i)
theorem wide_snoc {l : List S25} {i : Nat} {s : S25} (h : l[i]? = some s) : wideTo l (i + 1) = max (wideTo l i) (brZ s) := by
  unfold wideTo wideZ
  rw [List.take_add_one, h, List.foldl_append]; rfl
theorem infoL : (Tryz.prog.info? 2).map (fun i => (i.zero, i.size, i.bytes)) = some (some (.int .i64 0), 1, 8) := by kernel_rfl
theorem quo_down {m b : Int} (h0 : 0 ≤ m ∧ m ≤ 4611686018427387905) (h1 : 1 ≤ b ∧ b ≤ 4611686018427387905) : ∃ x y, quoZ m.toNat 1024 b.toNat false = (x, y) ∧ (y = 0 ∧ x = m * 1024 / b ∨ y = 20 ∧ 1048576 < m * 1024 / b) := by
  obtain ⟨M, rfl⟩ := Int.eq_ofNat_of_zero_le h0.1
  obtain ⟨B, rfl⟩ := Int.eq_ofNat_of_zero_le (show 0 ≤ b by omega)
  simp only [Int.toNat_natCast]
  unfold quoZ
  have e : (M : Int) * 1024 / (B : Int) = ((M * 1024 / B : Nat) : Int) := by rw [Int.natCast_ediv, Int.natCast_mul]; rfl
  rw [e]
  by_cases hc : B ≤ M * 1024 / 18446744073709551616
  · refine ⟨0, 20, by rw [if_pos hc], .inr ⟨rfl, ?_⟩⟩
    have : 18446744073709551616 ≤ M * 1024 / B := by
      apply (Nat.le_div_iff_mul_le (by omega)).2
      have := Nat.div_mul_le_self (M * 1024) 18446744073709551616
      have := Nat.mul_le_mul_right 18446744073709551616 hc
      have h3 : 18446744073709551616 * B = B * 18446744073709551616 := Nat.mul_comm _ _
      omega
    omega
  · rw [if_neg hc]
    simp only [Bool.false_eq_true, false_and, if_false, Nat.add_zero]
    by_cases hq : M * 1024 / B < 9223372036854775808
    · exact ⟨_, _, if_pos hq, .inl ⟨rfl, rfl⟩⟩
    · exact ⟨_, _, if_neg hq, .inr ⟨rfl, by omega⟩⟩
set_option maxHeartbeats 4000000 in
theorem weights_at {w : World} {A : Option Addr} {cap : Nat} {L : List S25} (hC : Kd.C k25 w A L.length L) (hc : L.length ≤ cap) (hn : 0 < L.length) (h16 : L.length ≤ 16) (hl : ∀ s ∈ L, SpOk s) (hD : ∀ s ∈ L, DivOk (wideZ L).toNat 1024 (brZ s).toNat) :
    Calls Tryz.prog 107 #[.slice A L.length cap] w fun e w' => ∃ g c, e = .returned (.slice (some ⟨g, 0, none⟩) L.length c) ∧ L.length ≤ c ∧ w.heap.size ≤ g ∧ CsE (Value.int .i64) w' g (wtsZ L) ∧ Fr (fun _ => False) w w' := by
  obtain ⟨r, off, rfl, hr, hat⟩ := C25_open hC hn
  have HAt := hidE hat
  have HM := hidE (cmay_at hC hc hn hl)
  have HL := hidE hl
  have HD := hidE hD
  have t0 : decide ((L.length : Int) > 16) = false := decide_eq_false (by omega)
  clear hC hat hl hD
  go_enter Tryz.func107, Tryz.ntmps107
  go_wp2_with fail
  refine HM.out.mono ?_
  rintro e w1 ⟨rfl, k1⟩
  clear HM
  go_wp2_with fail
  go_loopw [3, 21] (fun v3 v21 wr => ∃ i : Nat, i ≤ L.length ∧ v21 = .int .i64 (i : Int) ∧ v3 = .int .i64 (wideTo L i) ∧ Fr (fun _ => False) w wr) (fun _ v21 _ => L.length - (intOf v21).toNat)
  case atStart => exact ⟨0, Nat.zero_le _, rfl, by simp [wideTo, wideZ], k1⟩
  case round =>
    clear k1
    obtain ⟨i, hi, rfl, rfl, hf⟩ := hrel
    by_cases hlt : i < L.length
    · obtain ⟨s, hs⟩ : ∃ s, L[i]? = some s := ⟨_, List.getElem?_eq_getElem hlt⟩
      obtain ⟨c0, c1, c2⟩ := (HAt.out i s hs).fr hf (fun h => h)
      have t1 : (i : Int) < (L.length : Int) := by omega
      have HB := hidE (fun W => breadth_at (HL.out s (List.mem_of_getElem? hs)) W)
      have hsn := hidE (wide_snoc hs)
      obtain ⟨m, hm⟩ : ∃ m, m = wideTo L i := ⟨_, rfl⟩
      obtain ⟨b, hb⟩ : ∃ b, b = brZ s := ⟨_, rfl⟩
      rw [← hm, ← hb] at hsn
      rw [← hb] at HB
      rw [← hm]
      clear hs hm hb
      go_wp2_with fail
      generalize hW : World.alloc wr _ = W5
      have f5 : Fr (fun _ => False) wr W5 := by subst hW; (repeat' (first | (with_reducible exact Fr.refl _ _) | (with_reducible assumption) | (with_reducible refine Fr.alloc ?_ _) | (with_reducible refine Fr.drew ?_) | (with_reducible refine Fr.drewN ?_ _) | (with_reducible refine Fr.setCell ?_ _ _ ?_) | (exact Or.inr rfl) | (left; simp; done) | (left; simp; omega) | (simp; done) | (simp; omega) | omega))
      clear hW c0 c1 c2
      refine (HB.out _).mono ?_
      rintro e w6 ⟨rfl, k6⟩
      clear HB
      have hnx : Hid ((if m < b then b else m) = wideTo L (i + 1)) := hidE (by rw [hsn.out]; split <;> omega)
      go_wp2_with fail
      all_goals (go_roundw)
      case rel => exact ⟨i + 1, by omega, by go_num, by rw [hnx.out], (hf.trans f5 (fun _ _ h => h)).trans k6 (fun _ _ h => h)⟩
      case measure => simp [intOf]; omega
    · obtain rfl : i = L.length := by omega
      have hwt : wideTo L L.length = wideZ L := by unfold wideTo; rw [List.take_length]
      rw [hwt]
      have hwl := wide_le HL.out
      obtain ⟨M, hM⟩ : ∃ M, M = wideZ L := ⟨_, rfl⟩
      rw [← hM] at HD hwl ⊢
      have HMe := hidE hM
      clear hlt hwt hM hi
      go_wp2_with fail
      have hsz : w.heap.size ≤ wr.heap.size := hf.size
      go_loopw [6, 32] (fun v6 v32 wq => ∃ k : Nat, k ≤ L.length ∧ v32 = .int .i64 (k : Int) ∧ wq.ownsRow w.heap.size 2 1 v6 ((wtsZ L).take k |>.map (Value.int .i64)).length ((wtsZ L).take k |>.map (Value.int .i64)) ∧ Fr (fun _ => False) w wq) (fun _ v32 _ => L.length - (intOf v32).toNat)
      case atStart => exact ⟨0, Nat.zero_le _, rfl, by simpa using World.ownsRow_nil _ _ _ _, hf⟩
      case round =>
        clear hf hsz
        obtain ⟨k, hk, rfl, hown, hf⟩ := hrel
        obtain ⟨wq, rfl⟩ : ∃ wq : World, wq = wr := ⟨_, rfl⟩
        have HO := hidE hown
        clear hown
        by_cases hlt : k < L.length
        · obtain ⟨s, hs⟩ : ∃ s, L[k]? = some s := ⟨_, List.getElem?_eq_getElem hlt⟩
          obtain ⟨c0, c1, c2⟩ := (HAt.out k s hs).fr hf (fun h => h)
          have hms := List.mem_of_getElem? hs
          have hbp := br_pos (HL.out s hms)
          have t1 : (k : Int) < (L.length : Int) := by omega
          have HB := hidE (fun W => breadth_at (HL.out s hms) W)
          have hwk : (wtsZ L)[k]? = some (min (M * 1024 / brZ s) 1048576) := by
            unfold wtsZ wtZ
            rw [List.getElem?_map, hs, HMe.out]; rfl
          obtain ⟨x, y, hxy, hcs⟩ := quo_down hwl hbp
          have HQ := hidE (fun W => muldiv_at (a := M.toNat) (b := 1024) (c := (brZ s).toNat) (by omega) (by omega) (by omega) (by omega) (HD.out s hms) W)
          rw [hxy] at HQ
          have e1 : ((M.toNat : Nat) : Int) = M := Int.toNat_of_nonneg (by omega)
          have e2 : (((brZ s).toNat : Nat) : Int) = brZ s := Int.toNat_of_nonneg (by omega)
          rw [e1, e2] at HQ
          obtain ⟨b, hb⟩ : ∃ b, b = brZ s := ⟨_, rfl⟩
          rw [← hb] at HB HQ hwk hcs
          obtain ⟨z, hz⟩ : ∃ z, z = min (M * 1024 / b) 1048576 := ⟨_, rfl⟩
          rw [← hz] at hwk
          have HWk := hidE hwk
          have hzz : (y = 0 ∧ (if 1048576 < x then 1048576 else x) = z) ∨ (y = 20 ∧ 1048576 = z) := by
            rcases hcs with ⟨h1, h2⟩ | ⟨h1, h2⟩
            · left; refine ⟨h1, ?_⟩; rw [hz, h2]; split <;> omega
            · right; exact ⟨h1, by rw [hz]; omega⟩
          clear hs hms hbp hwk hxy hcs hb hz e1 e2
          go_wp2_with fail
          generalize hW : World.alloc wq _ = W5
          have f5 : Fr (fun _ => False) wq W5 := by subst hW; (repeat' (first | (with_reducible exact Fr.refl _ _) | (with_reducible assumption) | (with_reducible refine Fr.alloc ?_ _) | (with_reducible refine Fr.drew ?_) | (with_reducible refine Fr.drewN ?_ _) | (with_reducible refine Fr.setCell ?_ _ _ ?_) | (exact Or.inr rfl) | (left; simp; done) | (left; simp; omega) | (simp; done) | (simp; omega) | omega))
          clear hW c0 c1 c2
          refine (HB.out _).mono ?_
          rintro e w6 ⟨rfl, k6⟩
          clear HB
          go_wp2_with fail
          refine (HQ.out _).mono ?_
          rintro e w7 ⟨rfl, k7⟩
          clear HQ
          have F7 := (hf.trans f5 (fun _ _ h => h)).trans (k6.trans k7 (fun _ _ h => h)) (fun _ _ h => h)
          have o7 := own_fr0 HO.out ((f5.trans k6 (fun _ _ h => h)).trans k7 (fun _ _ h => h)) (fun _ _ h => h)
          have hlen : ((wtsZ L).take k).length = k := by
            rw [List.length_take]
            have : (wtsZ L).length = L.length := by unfold wtsZ; simp
            omega
          have lN : Lst (w7.alloc (.cells #[.int .i64 z] 2)) 2 (.slice (some ⟨w7.heap.size, 0, none⟩) 1 1) [.int .i64 z] := Lst.new w7 2 [.int .i64 z] (by simp) (by simp [maxLen])
          have o8 := o7.alloc (.cells #[.int .i64 z] 2)
          have hsz : w.heap.size ≤ w7.heap.size := F7.size
          have s8 : w.heap.size ≤ (w7.alloc (.cells #[.int .i64 z] 2)).heap.size := by simp; omega
          have hnx : Hid ((wtsZ L).take (k + 1) = (wtsZ L).take k ++ [z]) := hidE (by rw [List.take_add_one, HWk.out]; rfl)
          clear k6 k7 f5 HO hf o7
          rcases hzz with ⟨rfl, hz⟩ | ⟨rfl, hz⟩
          · go_wp2_with (at_builtin; refine wpList_append_lst rfl _ _ 59 rfl w.heap.size 2 (.int .i64 0) 8 Tryz.underlying59 infoL rfl _ _ _ [.int .i64 z] rfl rfl o8 lN (by simp [Value.oneCell']) (by simp [maxLen, hlen]; omega) (by simp [hlen]; omega) s8 ?_)
            intro v' w9 o9 g9 b9
            have f9 : Fr (fun _ => False) w w9 := Fr.grown (F7.alloc _) g9 (fun j hj => .inl (o8.lt j hj).1)
            clear o8 lN s8
            go_wp2
            go_roundw
            case rel => exact ⟨k + 1, by omega, by go_num, by rw [hnx.out, List.map_append]; simpa using o9, f9⟩
            case measure => simp [intOf]; omega
          · subst hz
            go_wp2_with (at_builtin; refine wpList_append_lst rfl _ _ 59 rfl w.heap.size 2 (.int .i64 0) 8 Tryz.underlying59 infoL rfl _ _ _ [.int .i64 1048576] rfl rfl o8 lN (by simp [Value.oneCell']) (by simp [maxLen, hlen]; omega) (by simp [hlen]; omega) s8 ?_)
            intro v' w9 o9 g9 b9
            have f9 : Fr (fun _ => False) w w9 := Fr.grown (F7.alloc _) g9 (fun j hj => .inl (o8.lt j hj).1)
            clear o8 lN s8
            go_wp2
            go_roundw
            case rel => exact ⟨k + 1, by omega, by go_num, by rw [hnx.out, List.map_append]; simpa using o9, f9⟩
            case measure => simp [intOf]; omega
        · obtain rfl : k = L.length := by omega
          have hwn : (wtsZ L).length = L.length := by unfold wtsZ; simp
          have ho := HO.out
          rw [List.take_of_length_le (by omega), List.length_map] at ho
          obtain ⟨g, cp, hv, h3, h4, h5, h6⟩ : ∃ g cp, u6 = .slice (some ⟨g, 0, none⟩) L.length cp ∧ L.length ≤ cp ∧ cp ≤ maxLen ∧ w.heap.size ≤ g ∧ CsE (Value.int .i64) wq g (wtsZ L) := by
            rcases own_cs ho with ⟨hv, h0⟩ | h
            · rw [h0] at hwn
              have : L.length = 0 := hwn.symm
              omega
            · rwa [hwn] at h
          subst hv
          clear ho HO hlt
          go_wp2
          go_ret
          exact ⟨g, cp, rfl, h3, h5, h6, hf⟩
end Go.Proofs.YtapagoaoglmegaaGreat
namespace Go.Proofs.YtapagoaoglmegaaGreat
open Go.RowKit Go.Shelf Go.Proofs.YtapagoaoglmegaaGreatW.PrintWords Go.Proofs.YtapagoaoglmegaaGreatW.PrintLast Go.Proofs.YtapagoaoglmegaaGreatW.PrintMore PCl
attribute [local go_sem] Oper.semAt_some
set_option linter.unusedVariables false
set_option linter.unusedSimpArgs false
set_option maxRecDepth 100000
theorem Fr.grow {w w' : World} (h : Fr (fun _ => False) w w') : w.grownBy w' none := ⟨h.os, h.tape, h.output, h.size, fun k hk _ => h.block k hk (fun h => h)⟩
def KC (B : Nat) (W W' : World) : Prop := W.heap.size ≤ W'.heap.size ∧ ∀ k o, W.heap[k]? = some o → o.isCells = true → k ≠ B → W'.heap[k]? = some o
theorem KC.refl (B : Nat) (W : World) : KC B W W := ⟨Nat.le_refl _, fun _ _ h _ _ => h⟩
theorem KC.trans {B : Nat} {X Y Z : World} (h : KC B X Y) (k : KC B Y Z) : KC B X Z := ⟨Nat.le_trans h.1 k.1, fun i o hi ho hn => k.2 i o (h.2 i o hi ho hn) ho hn⟩
theorem KC.of_fr {B : Nat} {W W' : World} (h : Fr (fun i => i = B) W W') : KC B W W' := ⟨h.size, fun k o hk _ hn => (h.block k (Array.getElem?_eq_some_iff.1 hk).1 hn).trans hk⟩
theorem KC.of_fr0 {B : Nat} {W W' : World} (h : Fr (fun _ => False) W W') : KC B W W' := KC.of_fr (h.mono (fun _ _ h => h.elim))
theorem KC.putObj {B : Nat} (W : World) (l : Nat) (o o' : Obj) (h : W.heap[l]? = some o) (ho : o.isCells = false) : KC B W (W.putObj l o') := by
  refine ⟨by simp [World.putObj], fun k u hk hu hn => ?_⟩
  by_cases e : k = l
  · subst e; rw [h] at hk; cases hk; rw [ho] at hu; cases hu
  · exact (World.putObj_heap_other e).trans hk
theorem KC.cell {B : Nat} {W W' : World} (h : KC B W W') {b i : Nat} {v : Value} (hc : W.cell? ⟨b, i, none⟩ = some v) (hb : b ≠ B) : W'.cell? ⟨b, i, none⟩ = some v := by
  obtain ⟨cs, t, fz, ho⟩ : ∃ cs t fz, W.heap[b]? = some (.cells cs t fz) := by
    unfold World.cell? at hc
    split at hc
    · rename_i cs t fz e; exact ⟨_, _, _, by simpa using e⟩
    · cases hc
  have := h.2 b _ ho rfl hb
  rw [← hc]
  exact World.cell?_of_block (a := ⟨b, i, none⟩) (this.trans ho.symm)
def msZ (L : List S25) (h : S25) : List (Int × Int) := L.map fun s => (mdZ h s, wtZ (wideZ L) s)
abbrev MsT (L : List S25) (h : S25) := { x : Int × Int // x ∈ msZ L h }
theorem yv {e : Ending} {p q : Prop} (hd : e = .returned (.bool true) ∧ p ∨ e = .returned (.bool false) ∧ q) : ∃ b : Bool, e = .returned (.bool b) ∧ Hid ((b = true ∧ p) ∨ (b = false ∧ q)) := by
  rcases hd with ⟨rfl, h1⟩ | ⟨rfl, h1⟩
  · exact ⟨true, rfl, hidE (.inl ⟨rfl, h1⟩)⟩
  · exact ⟨false, rfl, hidE (.inr ⟨rfl, h1⟩)⟩
def MidQ {α : Type} (J Jx : List α → World → Prop) (Bc : Nat) (wr : World) (pre : List α) (x : α) (A : Bool → Act) : Exit → Act → World → Prop
  | .normal, a', W' => ∃ (b : Bool) (W7 : World), a' = A b ∧ Fr (fun _ => False) wr W7 ∧ Hid ((b = true ∧ J (pre ++ [x]) W' ∧ KC Bc W7 W') ∨ (b = false ∧ Jx (pre ++ [x]) W'))
  | _, _, _ => False
theorem MidQ.out {α : Type} {J Jx : List α → World → Prop} {Bc : Nat} {wr : World} {pre : List α} {x : α} {A : Bool → Act} {e : Exit} {a' : Act} {W' : World} (h : MidQ J Jx Bc wr pre x A e a' W') :
    e = .normal ∧ ∃ (b : Bool) (W7 : World), a' = A b ∧ Fr (fun _ => False) wr W7 ∧ Hid ((b = true ∧ J (pre ++ [x]) W' ∧ KC Bc W7 W') ∨ (b = false ∧ Jx (pre ++ [x]) W')) := by
  cases e with
  | normal => exact ⟨rfl, h⟩
  | _ => exact h.elim
theorem midS_at {s : S25} (hs : SpOk s) (W : World) : Calls Tryz.prog 104 #[vS s] W fun e w' => e = .returned (.int .i64 (midZ s)) ∧ Fr (fun _ => False) W w' :=
  (span_Mid.calls 5 s.f0 s.f1 s.f2 _ W (mid_f s.f0 s.f1 s.f2 5 (by omega) hs)).mono fun _ _ q => ⟨q.1, Fr.of_below q.2 (Nat.le_refl _) _⟩
theorem clamp_at (x a b : Int) (W : World) : Calls Tryz.prog 108 #[.int .i64 x, .int .i64 a, .int .i64 b] W fun e w' => e = .returned (.int .i64 (clZ x a b)) ∧ Fr (fun _ => False) W w' := by
  have e : fix_Clamp.f x a b = some (clZ x a b) := by
    unfold fix_Clamp.f clZ
    by_cases h1 : x < a
    · rw [if_pos h1, if_pos h1]
    · rw [if_neg h1, if_neg h1]
      by_cases h2 : b < x
      · rw [if_pos h2, if_pos h2]
      · rw [if_neg h2, if_neg h2]
  refine (fix_Clamp.calls x a b _ W e).mono fun _ _ q => ⟨q.1, ?_⟩
  obtain ⟨n, rfl⟩ := q.2.out
  exact (Fr.refl _ _).drewN n
theorem ms_get {L : List S25} {h : S25} {k : Nat} {s : S25} (hs : L[k]? = some s) : ∃ x : MsT L h, (msZ L h).attach[k]? = some x ∧ x.1.1 = mdZ h s ∧ x.1.2 = wtZ (wideZ L) s := by
  have hk := (List.getElem?_eq_some_iff.1 hs).1
  have hk' : k < (msZ L h).length := by unfold msZ; simpa using hk
  have hm : (msZ L h)[k] = (mdZ h s, wtZ (wideZ L) s) := by
    have : (msZ L h)[k]? = some (mdZ h s, wtZ (wideZ L) s) := by unfold msZ; rw [List.getElem?_map, hs]; rfl
    rw [List.getElem?_eq_getElem hk'] at this
    exact Option.some.inj this
  refine ⟨⟨(msZ L h)[k], List.getElem_mem hk'⟩, ?_, by show ((msZ L h)[k]).1 = _; rw [hm], by show ((msZ L h)[k]).2 = _; rw [hm]⟩
  rw [List.getElem?_eq_getElem (by simpa using hk')]
  simp
set_option maxHeartbeats 4000000 in
theorem mid1_in (n : Nat) (hn : 1 ≤ n) {l Bl Bh Bc cap : Nat} {A : Option Addr} {L : List S25} {h : S25} (J Jx : List (MsT L h) → World → Prop) (W : World) (hJ : AbidesFrom W.heap.size J)
    (hY : ∀ pre (x : MsT L h) W1, J pre W1 → pre.length < L.length → YieldAt Fence.wide (n - 1) Tryz.prog l #[.int .i64 x.1.1, .int .i64 x.1.2] W1 fun e W' => (e = .returned (.bool true) ∧ J (pre ++ [x]) W' ∧ KC Bc W1 W') ∨ (e = .returned (.bool false) ∧ Jx (pre ++ [x]) W'))
    (hBl : W.cell? ⟨Bl, 0, none⟩ = some (.slice A L.length cap)) (hBh : AtS W Bh 0 h) (nl : Bl ≠ Bc) (nh : Bh ≠ Bc) (hC : Kd.C k25 W A L.length L) (hA : ∀ r off, A = some ⟨r, off, none⟩ → r ≠ Bc) (hc : L.length ≤ cap) (h0 : 0 < L.length) (h16 : L.length ≤ 16)
    (hl : ∀ s ∈ L, SpOk s) (hD : ∀ s ∈ L, DivOk (wideZ L).toNat 1024 (brZ s).toNat) (hB : Bc < W.heap.size) (hJ0 : J [] W) :
    CallsIn Fence.wide n Tryz.prog 106 #[.func (.yield l) #[] #[], .pointer (some ⟨Bl, 0, none⟩), .pointer (some ⟨Bh, 0, none⟩)] W fun e W' => (∃ v, e = .returned v) ∧ ((∃ ys, ys = (msZ L h).attach ∧ J ys W') ∨ ∃ pre, True ∧ Jx pre W') := by
  have HW := hidE (weights_at hC hc h0 h16 hl hD)
  obtain ⟨r, off, rfl, hr, hat⟩ := C25_open hC h0
  have hrB := hA r off rfl
  have HAt := hidE hat
  have HL := hidE hl
  have HBh := hidE hBh
  have HBl := hidE hBl
  clear hC hat hl hD hA
  refine callsIn_of_wp Tryz.func106 rfl trivial ?_ rfl
  simp only [Tryz.ntmps106, List.size_toArray, List.length_cons, List.length_nil, Nat.reduceAdd, Nat.reduceSub, Array.replicate_succ, Array.replicate_zero, List.push_toArray, List.append_toArray, List.nil_append, List.cons_append]
  gi_wp2_with (refine ⟨trivial, ?_⟩; gi_at_call 107; refine (callsIn_wide.2 HW.out).mono ?_; rintro e W2 ⟨g, c, rfl, hcg, hg, hcs, k2⟩)
  have hJ2 : J [] W2 := hJ _ W W2 none hJ0 k2.grow (fun r e => by cases e)
  have HS := hidE hcs
  have gB : g ≠ Bc := by omega
  have hgs := hcs.2
  have K2 := hidE k2
  clear hcs HW hJ0
  gi_loopw [9] (fun v9 wr => ∃ k : Nat, k ≤ L.length ∧ v9 = .int .i64 (k : Int) ∧ J ((msZ L h).attach.take k) wr ∧ KC Bc W2 wr) (fun v9 _ => L.length - (intOf v9).toNat)
  case atStart => exact ⟨0, Nat.zero_le _, rfl, by simpa using hJ2, KC.refl _ _⟩
  case round =>
    clear hJ2
    obtain ⟨k, hk, rfl, hJk, hkc⟩ := hrel
    by_cases hlt : k < L.length
    · obtain ⟨s, hs⟩ : ∃ s, L[k]? = some s := ⟨_, List.getElem?_eq_getElem hlt⟩
      obtain ⟨x, hx, hx1, hx2⟩ := ms_get (h := h) hs
      have hwk : (wtsZ L)[k]? = some x.1.2 := by unfold wtsZ; rw [List.getElem?_map, hs, hx2]; rfl
      have d0 := hkc.cell (HS.out.cell hwk) gB
      have d1 := hkc.cell ((K2.out.cell (a := ⟨Bl, 0, none⟩) (World.block_lt_of_cell? W _ HBl.out) (fun h => h)).trans HBl.out) nl
      obtain ⟨b0, b1, b2⟩ := HBh.out.fr K2.out (fun h => h)
      obtain ⟨c0, c1, c2⟩ := (HAt.out k s hs).fr K2.out (fun h => h)
      replace b0 := hkc.cell b0 nh
      replace b1 := hkc.cell b1 nh
      replace b2 := hkc.cell b2 nh
      replace c0 := hkc.cell c0 hrB
      replace c1 := hkc.cell c1 hrB
      replace c2 := hkc.cell c2 hrB
      have t1 : (k : Int) < (L.length : Int) := by omega
      have hlen : ((msZ L h).attach.take k).length < L.length := by
        rw [List.length_take]; unfold msZ; simp; omega
      have hmd : clZ (midZ s) h.f1 h.f2 = x.1.1 := hx1.symm
      have HMd := hidE hmd
      have HSp := hidE (HL.out s (List.mem_of_getElem? hs))
      have hnx : Hid ((msZ L h).attach.take k ++ [x] = (msZ L h).attach.take (k + 1)) := hidE (by rw [List.take_add_one, hx]; rfl)
      clear hs hx hx1 hx2 hwk hmd
      have HCl : Hid (∀ W, Calls Tryz.prog 108 #[.int .i64 (midZ s), .int .i64 h.f1, .int .i64 h.f2] W fun e w' => e = .returned (.int .i64 x.1.1) ∧ Fr (fun _ => False) W w') := hidE (fun W => by rw [← HMd.out]; exact clamp_at _ _ _ W)
      have hmx : Tryz.prog.follows .mixedOrders = true := by kernel_rfl
      have hbh := World.block_lt_of_cell? wr _ b0
      gi_wp2
      refine wpIn_mono (Q := MidQ J Jx Bc wr ((msZ L h).attach.take k) x (fun b => { tmps := #[.func (.yield l) #[] #[], .pointer (some ⟨Bl, 0, none⟩), .pointer (some ⟨Bh, 0, none⟩), undef, .int .i64 (k : Int), .int .i64 x.1.2, .slice (some ⟨r, off, none⟩) L.length cap, .slice (some ⟨g, 0, none⟩) L.length c, .int .i64 (L.length : Int), .int .i64 (k : Int), .bool true, .int .i64 (k : Int), .pointer (some ⟨g, k, none⟩), .int .i64 x.1.2, .func (.yield l) #[] #[], .slice (some ⟨r, off, none⟩) L.length cap, .int .i64 (k : Int), .pointer (some ⟨r, off + k * 3, none⟩), .agg #[.int .i64 s.f0, .int .i64 s.f1, .int .i64 s.f2], .int .i64 (midZ s), .pointer (some ⟨Bh, 1, none⟩), .int .i64 h.f1, .pointer (some ⟨Bh, 2, none⟩), .int .i64 h.f2, .int .i64 x.1.1, .int .i64 x.1.2, .bool b, .bool (!b), u28], defers := [] })) ?hh ?hq
      case hh =>
        gi_region_with_o (first
          | (refine ⟨trivial, ?_⟩; gi_at_call 104; refine (callsIn_wide.2 (midS_at HSp.out _)).mono ?_; rintro e W6 ⟨rfl, k6⟩; have b1' := (k6.cell (a := ⟨Bh, 0 + 1, none⟩) hbh (fun h => h)).trans b1; have b2' := (k6.cell (a := ⟨Bh, 0 + 2, none⟩) hbh (fun h => h)).trans b2)
          | (refine ⟨trivial, ?_⟩; gi_at_call 108; refine (callsIn_wide.2 (HCl.out _)).mono ?_; rintro e W7 ⟨rfl, k7⟩; have F7 : Fr (fun _ => False) wr W7 := ((Fr.refl _ wr).drew.trans k6 (fun _ _ h => h)).trans k7 (fun _ _ h => h); have hJ7 := hJ _ wr W7 none hJk F7.grow (fun r e => by cases e); obtain ⟨fn, tmps, assign, body, hy, hR⟩ := hY _ x W7 hJ7 hlen)
          | (refine hR.mono ?_; rintro e W8 hd; obtain ⟨b, rfl, hb⟩ := yv hd))
        all_goals exact ⟨b, W7, rfl, F7, hb⟩
      case hq =>
        intro e a' W8 hm
        obtain ⟨rfl, b, W7, rfl, F7, hb⟩ := hm.out
        cases b
        · have hj := hb.out.resolve_left (by simp)
          gi_wp2
          refine bodyPost_ret (results_none rfl _ _ _) rfl ?_
          exact ⟨⟨_, rfl⟩, .inr ⟨_, by first | exact hj.2 | exact ⟨trivial, hj.2⟩⟩⟩
        · have hj := hb.out.resolve_right (by simp)
          gi_wp2
          go_roundw
          case rel => exact ⟨k + 1, by omega, by go_num, by rw [← hnx.out]; exact hj.2.1, (hkc.trans (KC.of_fr0 F7)).trans hj.2.2⟩
          case measure => simp [intOf]; omega
    · obtain rfl : k = L.length := by omega
      have hall : (msZ L h).attach.take L.length = (msZ L h).attach := by
        rw [List.take_of_length_le]; unfold msZ; simp
      gi_wp2
      go_end0
      exact ⟨⟨_, rfl⟩, .inl ⟨_, rfl, by rw [← hall]; exact hJk⟩⟩
theorem mids_stops (n : Nat) (hn : 1 ≤ n) {Bl Bh Bc cap : Nat} {A : Option Addr} {L : List S25} {h : S25} {w : World} (hBl : w.cell? ⟨Bl, 0, none⟩ = some (.slice A L.length cap)) (hBh : AtS w Bh 0 h) (nl : Bl ≠ Bc) (nh : Bh ≠ Bc) (hC : Kd.C k25 w A L.length L) (hA : ∀ r off, A = some ⟨r, off, none⟩ → r ≠ Bc) (hc : L.length ≤ cap) (h0 : 0 < L.length) (h16 : L.length ≤ 16)
    (hl : ∀ s ∈ L, SpOk s) (hD : ∀ s ∈ L, DivOk (wideZ L).toNat 1024 (brZ s).toNat) (hB : Bc < w.heap.size) :
    SeqStopsK Fence.wide n Tryz.prog 106 #[.pointer (some ⟨Bl, 0, none⟩), .pointer (some ⟨Bh, 0, none⟩)] (fun x : MsT L h => #[.int .i64 x.1.1, .int .i64 x.1.2]) (KC Bc) (fun ys => ys = (msZ L h).attach) (fun _ => True) L.length w := fun l J Jx W hW hJ hJx hY hJ0 => by
  have f := Fr.of_below hW (Nat.le_refl _) (fun _ => False)
  refine mid1_in n hn J Jx W hJ hY ((f.cell (a := ⟨Bl, 0, none⟩) (World.block_lt_of_cell? w _ hBl) (fun h => h)).trans hBl) (hBh.fr f (fun h => h)) nl nh (Kd.C_below hC hW) hA hc h0 h16 hl hD (f.lt hB) hJ0
theorem middles_at {w : World} {A : Option Addr} {cap n : Nat} {h : S25} (n0 : Nat) :
    Calls Tryz.prog 58 #[.slice A n cap, vS h] w fun e w' => ∃ Bl Bh, e = .returned (.func (.func 106) #[] #[.pointer (some ⟨Bl, 0, none⟩), .pointer (some ⟨Bh, 0, none⟩)]) ∧ w.heap.size ≤ Bl ∧ w.heap.size ≤ Bh ∧ w'.cell? ⟨Bl, 0, none⟩ = some (.slice A n cap) ∧ AtS w' Bh 0 h ∧ Fr (fun _ => False) w w' := by
  go_enter Tryz.func58, Tryz.ntmps58
  go_wp2_with fail
  go_ret
  have b0 : Blk ((w.alloc (.cells #[.slice A n cap] 66)).alloc (.cells #[.int .i64 h.f0, .int .i64 h.f1, .int .i64 h.f2] 25)) w.heap.size #[.slice A n cap] 66 := by (repeat' (first | (with_reducible assumption) | (with_reducible apply Blk.drew) | (with_reducible apply Blk.drewN) | (with_reducible apply Blk.set) | (with_reducible apply Blk.other) | (exact Blk.new' _ _ _ (by first | rfl | (simp; done) | (simp; omega))) | (with_reducible apply Blk.alloc) | (with_reducible rfl) | (simp; done) | (simp; omega) | omega | rfl))
  have b1 : Blk ((w.alloc (.cells #[.slice A n cap] 66)).alloc (.cells #[.int .i64 h.f0, .int .i64 h.f1, .int .i64 h.f2] 25)) (w.heap.size + 1) #[.int .i64 h.f0, .int .i64 h.f1, .int .i64 h.f2] 25 := by (repeat' (first | (with_reducible assumption) | (with_reducible apply Blk.drew) | (with_reducible apply Blk.drewN) | (with_reducible apply Blk.set) | (with_reducible apply Blk.other) | (exact Blk.new' _ _ _ (by first | rfl | (simp; done) | (simp; omega))) | (with_reducible apply Blk.alloc) | (with_reducible rfl) | (simp; done) | (simp; omega) | omega | rfl))
  exact ⟨_, _, rfl, Nat.le_refl _, by omega, b0.cell 0, ⟨b1.cell 0, b1.cell 1, b1.cell 2⟩, by (repeat' (first | (with_reducible exact Fr.refl _ _) | (with_reducible assumption) | (with_reducible refine Fr.alloc ?_ _) | (with_reducible refine Fr.drew ?_) | (with_reducible refine Fr.drewN ?_ _) | (with_reducible refine Fr.setCell ?_ _ _ ?_) | (exact Or.inr rfl) | (left; simp; done) | (left; simp; omega) | (simp; done) | (simp; omega) | omega))⟩
def sumW {α : Type} (f : α → Int) (l : List α) : Int := l.foldl (fun s x => wrap64 (s + f x)) 0
theorem sumW_snoc {α : Type} (f : α → Int) (l : List α) (x : α) : sumW f (l ++ [x]) = wrap64 (sumW f l + f x) := by unfold sumW; rw [List.foldl_append]; rfl
theorem sumW_is {α : Type} (f : α → Int) (l : List α) (h : ∀ k, k ≤ l.length → -9223372036854775808 ≤ ((l.take k).map f).sum ∧ ((l.take k).map f).sum ≤ 9223372036854775807) : ∀ k, k ≤ l.length → sumW f (l.take k) = ((l.take k).map f).sum
  | 0, _ => by simp [sumW]
  | k + 1, hk => by
    have ih := sumW_is f l h k (by omega)
    have hb := h (k + 1) hk
    have hk' : k < l.length := by omega
    rw [List.take_add_one, List.getElem?_eq_getElem hk'] at hb ⊢
    simp only [Option.toList_some, List.map_append, List.map_cons, List.map_nil, List.sum_append, List.sum_cons, List.sum_nil, Int.add_zero] at hb ⊢
    rw [sumW_snoc, ih]
    exact IntWalk.wrap64_in _ (by omega)
theorem sumW_attach {L : List S25} {h : S25} (f : Int × Int → Int) (hb : ∀ k, k ≤ L.length → -9223372036854775808 ≤ (((msZ L h).take k).map f).sum ∧ (((msZ L h).take k).map f).sum ≤ 9223372036854775807) :
    sumW (fun x : MsT L h => f x.1) (msZ L h).attach = ((msZ L h).map f).sum := by
  have e : sumW (fun x : MsT L h => f x.1) (msZ L h).attach = sumW f (msZ L h) := by
    have : sumW f ((msZ L h).attach.map (·.1)) = sumW (fun x : MsT L h => f x.1) (msZ L h).attach := by
      unfold sumW; rw [List.foldl_map]
    rw [← this, List.attach_map_subtype_val]
  have hl : (msZ L h).length = L.length := by unfold msZ; simp
  have := sumW_is f (msZ L h) (fun k hk => hb k (by omega)) (msZ L h).length (Nat.le_refl _)
  rw [List.take_length] at this
  rw [e, this]
theorem KO.of_fr {W W' : World} (h : Fr (fun _ => False) W W') : KeepsOthers W W' := ⟨h.size, fun k o hk _ => (h.block k (Array.getElem?_eq_some_iff.1 hk).1 (fun h => h)).trans hk⟩
theorem boxed_new' {W : World} {B : Nat} {t : TypeId} {v : Value} (h : B = W.heap.size) : Boxed (W.alloc (.cells #[v] t)) B t v := by subst h; exact Boxed.new _ _ _
theorem boxed_fr {S : Nat → Prop} {W W' : World} {B : Nat} {t : TypeId} {v : Value} (h : Boxed W B t v) (k : Fr S W W') (hs : ¬ S B) : Boxed W' B t v := (k.block B h.lt hs).trans h
theorem KC.set {B : Nat} {W W' : World} (h : KC B W W') (v : Value) : KC B W (W'.setCell ⟨B, 0, none⟩ v) := h.trans (KC.of_fr ((Fr.refl (fun i => i = B) W').setCell _ _ (.inr rfl)))
set_option maxHeartbeats 4000000 in
theorem added_at {w : World} {Ml Mh cap fv : Nat} {caps : Array Value} {A : Option Addr} {L : List S25} {h : S25} (pf : Int × Int → Int)
    (hent : ∀ args w, (callFunc fv args).run Tryz.prog w = .ok (.enter fv args) w)
    (hpart : ∀ (x : MsT L h) (W : World), Below w.heap.size w W → Calls Tryz.prog fv (#[.int .i64 x.1.1, .int .i64 x.1.2] ++ caps) W fun e w' => ∃ er : Int, e = .returned (.tuple #[.int .i64 (pf x.1), .int .i64 er]) ∧ Fr (fun _ => False) W w')
    (hMl : w.cell? ⟨Ml, 0, none⟩ = some (.slice A L.length cap)) (hMh : AtS w Mh 0 h) (hC : Kd.C k25 w A L.length L) (hc : L.length ≤ cap) (h0 : 0 < L.length) (h16 : L.length ≤ 16)
    (hl : ∀ s ∈ L, SpOk s) (hD : ∀ s ∈ L, DivOk (wideZ L).toNat 1024 (brZ s).toNat)
    (hb : ∀ k, k ≤ L.length → -9223372036854775808 ≤ (((msZ L h).take k).map pf).sum ∧ (((msZ L h).take k).map pf).sum ≤ 9223372036854775807) :
    Calls Tryz.prog 59 #[.func (.func fv) #[] caps, .pointer (some ⟨Ml, 0, none⟩), .pointer (some ⟨Mh, 0, none⟩)] w fun e w' => e = .returned (.int .i64 ((msZ L h).map pf).sum) ∧ Fr (fun _ => False) w w' := by
  have HS := hidE (sumW_attach pf hb)
  have HMl := hidE hMl
  have HMh := hidE hMh
  have HC := hidE hC
  clear hb
  obtain ⟨r, off, rfl, hr, _⟩ := C25_open hC h0
  have m0 := World.block_lt_of_cell? w _ hMl
  have m1 := World.block_lt_of_cell? w _ hMh.1
  obtain ⟨c0, c1, c2⟩ := hMh
  refine (callsIn_wide (n := 6)).1 ?_
  refine callsIn_of_wp_marks Tryz.func59 rfl trivial ?_ rfl
  simp only [Tryz.ntmps59, List.size_toArray, List.length_cons, List.length_nil, Nat.reduceAdd, Nat.reduceSub, Array.replicate_succ, Array.replicate_zero, List.push_toArray, List.append_toArray, List.nil_append, List.cons_append]
  gi_wp2_with fail
  generalize hW : World.alloc (World.alloc w _) _ = W2
  obtain ⟨tF, bF⟩ : ∃ t, Boxed W2 w.heap.size t (.func (.func fv) #[] caps) := ⟨_, by subst hW; exact (Boxed.new w _ _).alloc _⟩
  obtain ⟨tS, bS⟩ : ∃ t, Boxed W2 (w.heap.size + 1) t (.int .i64 0) := ⟨_, by subst hW; exact boxed_new' (by simp)⟩
  have fW : Fr (fun _ => False) w W2 := by subst hW; (repeat' (first | (with_reducible exact Fr.refl _ _) | (with_reducible assumption) | (with_reducible refine Fr.alloc ?_ _) | (with_reducible refine Fr.drew ?_) | (with_reducible refine Fr.drewN ?_ _) | (with_reducible refine Fr.setCell ?_ _ _ ?_) | (exact Or.inr rfl) | (left; simp; done) | (left; simp; omega) | (simp; done) | (simp; omega) | omega))
  have hsz : W2.heap.size = w.heap.size + 2 := by subst hW; simp
  clear hW
  refine ⟨trivial, ?_⟩
  gi_at_call 58
  refine (callsIn_wide.2 (middles_at 0)).mono ?_
  rintro e W3 ⟨Bl, Bh, rfl, hBl, hBh, hcl, hch, k3⟩
  have F3 := fW.trans k3 (fun _ _ h => h)
  have bF3 := boxed_fr bF k3 (fun h => h)
  have bS3 := boxed_fr bS k3 (fun h => h)
  have hs3 := k3.size
  have HS3 := hidE (mids_stops 5 (by omega) (Bc := w.heap.size + 1) hcl hch (by omega) (by omega) (Kd.C_below HC.out F3.below) (fun r' off' e => by injection e with e; injection e with e1 e2; omega) hc h0 h16 hl hD (by omega))
  clear bF bS k3 c0 c1 c2 fW hl hD
  gi_wp2_with fail
  refine wpIn_rangeFunc_ownF (n := 6) (w := W3) rfl (by omega) (gf := 106) (lb := #[.pointer (some ⟨Bl, 0, none⟩), .pointer (some ⟨Bh, 0, none⟩)]) rfl trivial (enters_of Tryz.func106 (by kernel_rfl) rfl)
    HS3.out (fun h k => h.trans k) (fun W l o o' _ h ho _ => KC.putObj W l o o' h ho) (Below.refl _ _) (fun _ => rfl)
    (fun pre W => (Boxed W w.heap.size tF (.func (.func fv) #[] caps) ∧ Boxed W (w.heap.size + 1) tS (.int .i64 (sumW (fun x : MsT L h => pf x.1) pre))) ∧ Below w.heap.size w W)
    (fun _ _ _ => False)
    (OwnFrom.and (Own.from (fun s A B row hs hg hr => ⟨boxed_own (β := Unit) _ _ (fun _ => _) () A B row hs.1 hg hr, boxed_own (β := Unit) _ _ (fun _ => _) () A B row hs.2 hg hr⟩) _) (ownFrom_below (Nat.le_refl _) (by omega)))
    (fun _ _ _ _ _ hs _ _ => hs)
    ⟨⟨bF3, bS3⟩, F3.below⟩
    (fun x => { tmps := #[.func (.func fv) #[] caps, .pointer (some ⟨Ml, 0, none⟩), .pointer (some ⟨Mh, 0, none⟩), .pointer (some ⟨w.heap.size, 0, none⟩), .int .i64 0, .pointer (some ⟨w.heap.size + 1, 0, none⟩), .int .i64 x.1.1, .int .i64 x.1.2, undef, undef, .slice (some ⟨r, off, none⟩) L.length cap, .agg #[.int .i64 h.f0, .int .i64 h.f1, .int .i64 h.f2], .func (.func 106) #[] #[.pointer (some ⟨Bl, 0, none⟩), .pointer (some ⟨Bh, 0, none⟩)], .int .i64 x.1.1, .int .i64 x.1.2, undef, undef, undef, undef, undef, undef, undef, undef, undef, undef, undef], defers := [] }) ?assign ?body ?done ?stop
  case assign =>
    intro l x W K hK
    gi_wp2
    exact hK
  case body =>
    rintro l pre x W ⟨⟨hf, hs⟩, hB⟩ _
    have cf := hf.cell
    have HP := hidE (hpart x W hB)
    have hd : 1 ≤ 6 - 1 - 1 := by omega
    gi_wp2_with fail
    refine ⟨trivial, ?_⟩
    refine (CallsIn.inRound l (callsIn_wide.2 HP.out)).mono ?_
    rintro e W6 ⟨er, rfl, k6⟩
    have hf6 := boxed_fr hf k6 (fun h => h)
    have hs6 := boxed_fr hs k6 (fun h => h)
    have cs6 := hs6.cell
    have fz6 := hs6.frozen
    have lt6 := hs6.lt
    have hB6 : Below w.heap.size w W6 := hB.trans (k6.below.mono hB.size)
    clear HP
    gi_wp2
    exact ⟨(KO.of_fr k6).trans (KeepsOthers.setCell _ _ _), (KC.of_fr0 k6).set _, ⟨hf6.other (by omega) _, by rw [sumW_snoc]; exact hs6.set _⟩, hB6.setCell (p := ⟨w.heap.size + 1, 0, none⟩) (by simp) _⟩
  case done =>
    rintro D ys W hD rfl ⟨⟨hf, hs⟩, hB⟩ hK
    have cs := hs.cell
    gi_wp2
    refine ⟨by simp, .inl ⟨_, _, rfl, run_takeDeferred hK, ?_⟩⟩
    exact ⟨_, results_tmp rfl _ _ _, by rw [← HS.out]; rfl, Fr.of_below (hB.trans (belowK_b (n₀ := w.heap.size) (w := w) (Nat.le_refl _) W D _ _ (by omega) hK rfl rfl)) (Nat.le_refl _) _⟩
  case stop =>
    rintro D c pre W _ _ h _
    exact h.elim
end Go.Proofs.YtapagoaoglmegaaGreat
end
