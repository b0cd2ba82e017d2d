/- What a book tells: the thirteen numbers that shows makes. -/
import Derived.Test.YtmacilbafoejdaaNonceAlive
import Derived.Test.YtmacilbafoejdaaOpen
namespace Go.Proofs.Ytmacilbafoejdaa
open Go.RowKit
set_option linter.unusedVariables false
set_option linter.unusedSimpArgs false

def shKey (k : Int) (j : Nat) : Int := if j = 9 then k else j
def shT (x : BS) (k : Int) (i j : Nat) : Value := .int .i64 (if j < i then x.known (shKey k j) else 0)
/-- The thirteen cells, of which the first i takes are told. -/
def shC (x : BS) (k : Int) (i : Nat) : Array Value := #[.int .u64 x.out, .int .i64 (if x.out = 0 then 0 else x.since), .bool (!(x.out == 0)), shT x k i 0, shT x k i 1, shT x k i 2, shT x k i 3, shT x k i 4, shT x k i 5, shT x k i 6, shT x k i 7, shT x k i 8, shT x k i 9]
theorem shC_set (x : BS) (k : Int) {i : Nat} (hi : i < 10) : (shC x k i).setIfInBounds (3 + i) (.int .i64 (x.known (shKey k i))) = shC x k (i + 1) := by
  match i, hi with
  | 0, _ | 1, _ | 2, _ | 3, _ | 4, _ | 5, _ | 6, _ | 7, _ | 8, _ | 9, _ => rfl
theorem shC_get (x : BS) (k : Int) {i : Nat} (hi : i < 10) : (shC x k i)[3 + i]? = some (.int .i64 0) := by
  match i, hi with
  | 0, _ | 1, _ | 2, _ | 3, _ | 4, _ | 5, _ | 6, _ | 7, _ | 8, _ | 9, _ => rfl
/-- What shows tells. -/
def shV (x : BS) (k : Int) : Value := .agg (shC x k 10)
theorem blk13 {w : World} {b : Nat} {t : TypeId} {u0 u1 u2 u3 u4 u5 u6 u7 u8 u9 u10 u11 u12 : Value} (h : Blk w b #[u0, u1, u2, u3, u4, u5, u6, u7, u8, u9, u10, u11, u12] t) (v0 v1 v2 v3 v4 v5 v6 v7 v8 v9 v10 v11 v12 : Value) :
    Blk (World.setCell (World.setCell (World.setCell (World.setCell (World.setCell (World.setCell (World.setCell (World.setCell (World.setCell (World.setCell (World.setCell (World.setCell (World.setCell w ⟨b, 0, none⟩ v0) ⟨b, 1, none⟩ v1) ⟨b, 2, none⟩ v2) ⟨b, 3, none⟩ v3) ⟨b, 4, none⟩ v4) ⟨b, 5, none⟩ v5) ⟨b, 6, none⟩ v6) ⟨b, 7, none⟩ v7) ⟨b, 8, none⟩ v8) ⟨b, 9, none⟩ v9) ⟨b, 10, none⟩ v10) ⟨b, 11, none⟩ v11) ⟨b, 12, none⟩ v12) b #[v0, v1, v2, v3, v4, v5, v6, v7, v8, v9, v10, v11, v12] t := by
  with_reducible refine Blk.set (cs := #[v0, v1, v2, v3, v4, v5, v6, v7, v8, v9, v10, v11, u12]) ?_ ?e
  case e => rfl
  with_reducible refine Blk.set (cs := #[v0, v1, v2, v3, v4, v5, v6, v7, v8, v9, v10, u11, u12]) ?_ ?e
  case e => rfl
  with_reducible refine Blk.set (cs := #[v0, v1, v2, v3, v4, v5, v6, v7, v8, v9, u10, u11, u12]) ?_ ?e
  case e => rfl
  with_reducible refine Blk.set (cs := #[v0, v1, v2, v3, v4, v5, v6, v7, v8, u9, u10, u11, u12]) ?_ ?e
  case e => rfl
  with_reducible refine Blk.set (cs := #[v0, v1, v2, v3, v4, v5, v6, v7, u8, u9, u10, u11, u12]) ?_ ?e
  case e => rfl
  with_reducible refine Blk.set (cs := #[v0, v1, v2, v3, v4, v5, v6, u7, u8, u9, u10, u11, u12]) ?_ ?e
  case e => rfl
  with_reducible refine Blk.set (cs := #[v0, v1, v2, v3, v4, v5, u6, u7, u8, u9, u10, u11, u12]) ?_ ?e
  case e => rfl
  with_reducible refine Blk.set (cs := #[v0, v1, v2, v3, v4, u5, u6, u7, u8, u9, u10, u11, u12]) ?_ ?e
  case e => rfl
  with_reducible refine Blk.set (cs := #[v0, v1, v2, v3, u4, u5, u6, u7, u8, u9, u10, u11, u12]) ?_ ?e
  case e => rfl
  with_reducible refine Blk.set (cs := #[v0, v1, v2, u3, u4, u5, u6, u7, u8, u9, u10, u11, u12]) ?_ ?e
  case e => rfl
  with_reducible refine Blk.set (cs := #[v0, v1, u2, u3, u4, u5, u6, u7, u8, u9, u10, u11, u12]) ?_ ?e
  case e => rfl
  with_reducible refine Blk.set (cs := #[v0, u1, u2, u3, u4, u5, u6, u7, u8, u9, u10, u11, u12]) ?_ ?e
  case e => rfl
  with_reducible refine Blk.set (cs := #[u0, u1, u2, u3, u4, u5, u6, u7, u8, u9, u10, u11, u12]) ?_ ?e
  case e => rfl
  exact h
theorem fr13 (w : World) (b : Nat) (v0 v1 v2 v3 v4 v5 v6 v7 v8 v9 v10 v11 v12 : Value) : Fr (fun b' => b' = b) w (World.setCell (World.setCell (World.setCell (World.setCell (World.setCell (World.setCell (World.setCell (World.setCell (World.setCell (World.setCell (World.setCell (World.setCell (World.setCell w ⟨b, 0, none⟩ v0) ⟨b, 1, none⟩ v1) ⟨b, 2, none⟩ v2) ⟨b, 3, none⟩ v3) ⟨b, 4, none⟩ v4) ⟨b, 5, none⟩ v5) ⟨b, 6, none⟩ v6) ⟨b, 7, none⟩ v7) ⟨b, 8, none⟩ v8) ⟨b, 9, none⟩ v9) ⟨b, 10, none⟩ v10) ⟨b, 11, none⟩ v11) ⟨b, 12, none⟩ v12) := by
  with_reducible refine Fr.setCell ?_ _ _ (Or.inr rfl)
  with_reducible refine Fr.setCell ?_ _ _ (Or.inr rfl)
  with_reducible refine Fr.setCell ?_ _ _ (Or.inr rfl)
  with_reducible refine Fr.setCell ?_ _ _ (Or.inr rfl)
  with_reducible refine Fr.setCell ?_ _ _ (Or.inr rfl)
  with_reducible refine Fr.setCell ?_ _ _ (Or.inr rfl)
  with_reducible refine Fr.setCell ?_ _ _ (Or.inr rfl)
  with_reducible refine Fr.setCell ?_ _ _ (Or.inr rfl)
  with_reducible refine Fr.setCell ?_ _ _ (Or.inr rfl)
  with_reducible refine Fr.setCell ?_ _ _ (Or.inr rfl)
  with_reducible refine Fr.setCell ?_ _ _ (Or.inr rfl)
  with_reducible refine Fr.setCell ?_ _ _ (Or.inr rfl)
  with_reducible refine Fr.setCell ?_ _ _ (Or.inr rfl)
  exact Fr.refl _ _
section
variable {w : World} {b : Nat} {x : BS}
set_option maxRecDepth 100000 in
set_option maxHeartbeats 4000000 in
theorem shows_at (h : Bk w b x) (k : Int) :
    Calls Try.prog 17 #[.pointer (some ⟨b, 0, none⟩), .int .u64 k] w fun e w' => e = .returned (shV x k) ∧ Fr (fun _ => False) w w' := by
  have hbw : b < w.heap.size := h.lt
  go_enter Try.func17, Try.ntmps17
  go_wp2_with fail
  generalize hW : World.alloc (World.alloc w _) _ = W
  have kW : Fr (fun _ => False) w W := by subst hW; (repeat' (first | (with_reducible exact Fr.refl _ _) | (with_reducible assumption) | (with_reducible refine Fr.alloc ?_ _) | (with_reducible refine Fr.drew ?_) | (with_reducible refine Fr.drewN ?_ _) | (with_reducible refine Fr.setCell ?_ _ _ ?_) | (exact Or.inr rfl) | (left; simp; done) | (left; simp; omega) | (simp; done) | (simp; omega) | omega))
  have bS : Blk W (w.heap.size + 1) #[.int .u64 0, .int .i64 0, .bool false, .int .i64 0, .int .i64 0, .int .i64 0, .int .i64 0, .int .i64 0, .int .i64 0, .int .i64 0, .int .i64 0, .int .i64 0, .int .i64 0] 48 := by subst hW; (repeat' (first | (with_reducible assumption) | (with_reducible apply Blk.drew) | (with_reducible apply Blk.drewN) | (with_reducible apply Blk.set) | (with_reducible apply Blk.other) | (exact Blk.new' _ _ _ (by first | rfl | (simp; done) | (simp; omega))) | (with_reducible apply Blk.alloc) | (with_reducible rfl) | (simp; done) | (simp; omega) | omega | rfl))
  have bR : Blk W w.heap.size #[.int .u64 0, .int .i64 0, .bool false, .int .i64 0, .int .i64 0, .int .i64 0, .int .i64 0, .int .i64 0, .int .i64 0, .int .i64 0, .int .i64 0, .int .i64 0, .int .i64 0] 48 := by subst hW; (repeat' (first | (with_reducible assumption) | (with_reducible apply Blk.drew) | (with_reducible apply Blk.drewN) | (with_reducible apply Blk.set) | (with_reducible apply Blk.other) | (exact Blk.new' _ _ _ (by first | rfl | (simp; done) | (simp; omega))) | (with_reducible apply Blk.alloc) | (with_reducible rfl) | (simp; done) | (simp; omega) | omega | rfl))
  clear hW
  have hB : Bk W b x := h.fr kW (fun h => h)
  clear h
  refine (out_at hB).mono ?_
  rintro e w1 ⟨rfl, n1, hn1⟩
  have kd : Fr (fun _ => False) W w1 := by rw [hn1]; exact (Fr.refl _ _).drewN _
  clear hn1
  have b1 := bS.fr kd (fun h => h)
  have r1 := bR.fr kd (fun h => h)
  have hB1 := hB.fr kd (fun h => h)
  have k1 := kW.trans kd (fun _ _ h => h)
  clear bS bR hB kW kd
  have c0 := b1.cell 0
  have c1 := b1.cell 1
  have c2 := b1.cell 2
  have f0 := b1.free 0
  have f1 := b1.free 1
  have f2 := b1.free 2
  simp at c0 c1 c2
  generalize hxs : (if x.out = 0 then (0 : Int) else x.since) = xs
  generalize hxb : (!(x.out == 0)) = xb
  generalize hxo : x.out = xo
  go_wp2_with fail
  generalize hW : World.setCell (World.setCell (World.setCell w1 _ _) _ _) _ _ = W2
  have I0 : Blk W2 (w.heap.size + 1) (shC x k 0) 48 := by
    unfold shC shT
    rw [hxs, hxb, hxo]
    simp only [Nat.not_lt_zero, if_false]
    clear r1 hB1 k1
    subst hW
    (repeat' (first | (with_reducible assumption) | (with_reducible apply Blk.drew) | (with_reducible apply Blk.drewN) | (with_reducible apply Blk.set) | (with_reducible apply Blk.other) | (exact Blk.new' _ _ _ (by first | rfl | (simp; done) | (simp; omega))) | (with_reducible apply Blk.alloc) | (with_reducible rfl) | (simp; done) | (simp; omega) | omega | rfl))
  have I1 : Blk W2 w.heap.size #[.int .u64 0, .int .i64 0, .bool false, .int .i64 0, .int .i64 0, .int .i64 0, .int .i64 0, .int .i64 0, .int .i64 0, .int .i64 0, .int .i64 0, .int .i64 0, .int .i64 0] 48 := by
    clear b1 hB1
    subst hW
    (repeat' (first | (with_reducible assumption) | (with_reducible apply Blk.drew) | (with_reducible apply Blk.drewN) | (with_reducible apply Blk.set) | (with_reducible apply Blk.other) | (exact Blk.new' _ _ _ (by first | rfl | (simp; done) | (simp; omega))) | (with_reducible apply Blk.alloc) | (with_reducible rfl) | (simp; done) | (simp; omega) | omega | rfl))
  have kf : Fr (fun b' => b' = w.heap.size + 1) w1 W2 := by subst hW; (repeat' (first | (with_reducible exact Fr.refl _ _) | (with_reducible assumption) | (with_reducible refine Fr.alloc ?_ _) | (with_reducible refine Fr.drew ?_) | (with_reducible refine Fr.drewN ?_ _) | (with_reducible refine Fr.setCell ?_ _ _ ?_) | (exact Or.inr rfl) | (left; simp; done) | (left; simp; omega) | (simp; done) | (simp; omega) | omega))
  have I2 : Bk W2 b x := hB1.fr kf (by omega)
  have I3 : Fr (fun _ => False) w W2 := k1.trans kf (fun i hi h => by omega)
  clear hW kf b1 r1 hB1 k1 c0 c1 c2 f0 f1 f2 hxs hxb hxo
  go_loopw [6] (fun v wr => ∃ i : Nat, i ≤ 10 ∧ v = .int .u64 i ∧ Blk wr (w.heap.size + 1) (shC x k i) 48 ∧ Blk wr w.heap.size #[.int .u64 0, .int .i64 0, .bool false, .int .i64 0, .int .i64 0, .int .i64 0, .int .i64 0, .int .i64 0, .int .i64 0, .int .i64 0, .int .i64 0, .int .i64 0, .int .i64 0] 48 ∧ Bk wr b x ∧ Fr (fun _ => False) w wr) (fun v _ => 10 - (intOf v).toNat)
  case atStart => exact ⟨0, by omega, rfl, I0, I1, I2, I3⟩
  case round =>
    clear I0 I1 I2 I3
    obtain ⟨i, hi, rfl, I0, I1, I2, I3⟩ := hrel
    by_cases hlt : i < 10
    · by_cases h9 : i = 9
      · subst h9
        clear hi hlt
        have c3 := I0.cell (3 + 9)
        have f3 := I0.free (3 + 9)
        rw [shC_get x k (by omega)] at c3
        have hs0 : w.heap.size + 1 < wr.heap.size := I0.lt
        have HS : Hid ((shC x k 9).setIfInBounds (3 + 9) (.int .i64 (x.known k)) = shC x k (9 + 1)) := shC_set x k (i := 9) (by omega)
        go_wp2_with fail
        refine (copy_at I2).mono ?_
        rintro e w3 ⟨rfl, pc, k3⟩
        have c3 := (k3.cell hs0 (fun h => h)).trans c3
        have J0 := I0.fr k3 (fun h => h)
        have J1 := I1.fr k3 (fun h => h)
        have J2 : Bk w3 b x := I2.fr k3 (fun h => h)
        have hbr : b < wr.heap.size := I2.lt
        have hs3 : w.heap.size + 1 < w3.heap.size := J0.lt
        have J3 : Fr (fun _ => False) w w3 := I3.trans k3 (fun _ _ h => h)
        clear I0 I1 I2 k3 f3
        have A := take_at (n := k) pc
        generalize x.takeV k = tv at *
        generalize x.known k = kn at *
        go_wp2_with fail
        refine A.mono ?_
        clear A
        rintro e w4 ⟨rfl, _, k4⟩
        have c3 := (k4.cell hs3 (by simp [At]; omega)).trans c3
        have J0 := J0.fr k4 (by simp [At]; omega)
        have J1 := J1.fr k4 (by simp [At]; omega)
        have J2 : Bk w4 b x := J2.fr k4 (by simp [At]; omega)
        have J3 : Fr (fun _ => False) w w4 := J3.trans k4 (fun i hi h => by simp [At] at h; omega)
        have f3 := J0.free (3 + 9)
        have hsz : w.heap.size ≤ w4.heap.size := J3.size
        clear k4 pc
        go_wp2_with fail
        have L0 : Blk (World.setCell w4 ⟨w.heap.size + 1, 3 + 9, none⟩ (.int .i64 kn)) (w.heap.size + 1) (shC x k (9 + 1)) 48 := J0.set HS.out
        have kf : Fr (fun b' => b' = w.heap.size + 1) w4 (World.setCell w4 ⟨w.heap.size + 1, 3 + 9, none⟩ (.int .i64 kn)) := by (repeat' (first | (with_reducible exact Fr.refl _ _) | (with_reducible assumption) | (with_reducible refine Fr.alloc ?_ _) | (with_reducible refine Fr.drew ?_) | (with_reducible refine Fr.drewN ?_ _) | (with_reducible refine Fr.setCell ?_ _ _ ?_) | (exact Or.inr rfl) | (left; simp; done) | (left; simp; omega) | (simp; done) | (simp; omega) | omega))
        have L1 := J1.fr kf (by omega)
        have L2 : Bk _ b x := J2.fr kf (by omega)
        have L3 : Fr (fun _ => False) w _ := J3.trans kf (fun i hi h => by omega)
        clear kf J0 J1 J2 J3 HS
        go_roundw
        case rel => first | exact ⟨9 + 1, by omega, by go_num, L0, L1, L2, L3⟩ | ((repeat apply Exists.intro); exact ⟨⟨9 + 1, by omega, by go_num, L0, L1, L2, L3⟩, rfl⟩)
        case measure => simp [intOf]
      · have hi9 : ((i : Int) == 9) = false := by rw [beq_eq_false_iff_ne]; omega
        have hk9 : shKey k i = i := by unfold shKey; rw [if_neg h9]
        have hi0 : (0 : Int) ≤ i := by omega
        have c3 := I0.cell (3 + i)
        have f3 := I0.free (3 + i)
        rw [shC_get x k (by omega)] at c3
        have hs0 : w.heap.size + 1 < wr.heap.size := I0.lt
        have HS : Hid ((shC x k i).setIfInBounds (3 + i) (.int .i64 (x.known (i : Int))) = shC x k (i + 1)) := by have e := shC_set x k hlt; rw [hk9] at e; exact e
        go_wp2_with fail
        refine (copy_at I2).mono ?_
        rintro e w3 ⟨rfl, pc, k3⟩
        have c3 := (k3.cell hs0 (fun h => h)).trans c3
        have J0 := I0.fr k3 (fun h => h)
        have J1 := I1.fr k3 (fun h => h)
        have J2 : Bk w3 b x := I2.fr k3 (fun h => h)
        have hbr : b < wr.heap.size := I2.lt
        have hs3 : w.heap.size + 1 < w3.heap.size := J0.lt
        have J3 : Fr (fun _ => False) w w3 := I3.trans k3 (fun _ _ h => h)
        clear I0 I1 I2 k3 f3
        have A := take_at (n := (i : Int)) pc
        generalize x.takeV (i : Int) = tv at *
        generalize x.known (i : Int) = kn at *
        go_wp2_with fail
        refine A.mono ?_
        clear A
        rintro e w4 ⟨rfl, _, k4⟩
        have c3 := (k4.cell hs3 (by simp [At]; omega)).trans c3
        have J0 := J0.fr k4 (by simp [At]; omega)
        have J1 := J1.fr k4 (by simp [At]; omega)
        have J2 : Bk w4 b x := J2.fr k4 (by simp [At]; omega)
        have J3 : Fr (fun _ => False) w w4 := J3.trans k4 (fun i hi h => by simp [At] at h; omega)
        have f3 := J0.free (3 + i)
        have hsz : w.heap.size ≤ w4.heap.size := J3.size
        clear k4 pc
        go_wp2_with fail
        have L0 : Blk (World.setCell w4 ⟨w.heap.size + 1, 3 + i, none⟩ (.int .i64 kn)) (w.heap.size + 1) (shC x k (i + 1)) 48 := J0.set HS.out
        have kf : Fr (fun b' => b' = w.heap.size + 1) w4 (World.setCell w4 ⟨w.heap.size + 1, 3 + i, none⟩ (.int .i64 kn)) := by (repeat' (first | (with_reducible exact Fr.refl _ _) | (with_reducible assumption) | (with_reducible refine Fr.alloc ?_ _) | (with_reducible refine Fr.drew ?_) | (with_reducible refine Fr.drewN ?_ _) | (with_reducible refine Fr.setCell ?_ _ _ ?_) | (exact Or.inr rfl) | (left; simp; done) | (left; simp; omega) | (simp; done) | (simp; omega) | omega))
        have L1 := J1.fr kf (by omega)
        have L2 : Bk _ b x := J2.fr kf (by omega)
        have L3 : Fr (fun _ => False) w _ := J3.trans kf (fun i hi h => by omega)
        clear kf J0 J1 J2 J3 HS
        go_roundw
        case rel => first | exact ⟨i + 1, by omega, by go_num, L0, L1, L2, L3⟩ | ((repeat apply Exists.intro); exact ⟨⟨i + 1, by omega, by go_num, L0, L1, L2, L3⟩, rfl⟩)
        case measure => simp [intOf]; omega
    · obtain rfl : i = 10 := by omega
      clear hi hlt
      have Hv : Hid (∃ c3 c4 c5 c6 c7 c8 c9 c10 c11 c12 a0 a1 a2, shC x k 10 = #[.int .u64 a0, .int .i64 a1, .bool a2, .int .i64 c3, .int .i64 c4, .int .i64 c5, .int .i64 c6, .int .i64 c7, .int .i64 c8, .int .i64 c9, .int .i64 c10, .int .i64 c11, .int .i64 c12] ∧ shV x k = .agg #[.int .u64 a0, .int .i64 a1, .bool a2, .int .i64 c3, .int .i64 c4, .int .i64 c5, .int .i64 c6, .int .i64 c7, .int .i64 c8, .int .i64 c9, .int .i64 c10, .int .i64 c11, .int .i64 c12]) :=
        ⟨_, _, _, _, _, _, _, _, _, _, _, _, _, rfl, rfl⟩
      obtain ⟨c3, c4, c5, c6, c7, c8, c9, c10, c11, c12, a0, a1, a2, e1, e2⟩ := Hv.out
      clear Hv
      rw [e1] at I0
      have E2 : Hid (_ = _) := e2
      clear e1 e2 I2
      have d0 := I0.cell 0
      have d1 := I0.cell 1
      have d2 := I0.cell 2
      have d3 := I0.cell 3
      have d4 := I0.cell 4
      have d5 := I0.cell 5
      have d6 := I0.cell 6
      have d7 := I0.cell 7
      have d8 := I0.cell 8
      have d9 := I0.cell 9
      have d10 := I0.cell 10
      have d11 := I0.cell 11
      have d12 := I0.cell 12
      simp at d0 d1 d2 d3 d4 d5 d6 d7 d8 d9 d10 d11 d12
      have g0 := I1.cell 0
      have g1 := I1.cell 1
      have g2 := I1.cell 2
      have g3 := I1.cell 3
      have g4 := I1.cell 4
      have g5 := I1.cell 5
      have g6 := I1.cell 6
      have g7 := I1.cell 7
      have g8 := I1.cell 8
      have g9 := I1.cell 9
      have g10 := I1.cell 10
      have g11 := I1.cell 11
      have g12 := I1.cell 12
      simp at g0 g1 g2 g3 g4 g5 g6 g7 g8 g9 g10 g11 g12
      have f := fun i => I1.free i
      have f0 := f 0
      have f1 := f 1
      have f2 := f 2
      have f3 := f 3
      have f4 := f 4
      have f5 := f 5
      have f6 := f 6
      have f7 := f 7
      have f8 := f 8
      have f9 := f 9
      have f10 := f 10
      have f11 := f 11
      have f12 := f 12
      clear f I0
      go_wp2
      (try simp only [Exit.inBlock, Exit.then])
      refine bodyPost_ret (results_cell_row rfl _ _ w.heap.size 48 #[.int .u64 a0, .int .i64 a1, .bool a2, .int .i64 c3, .int .i64 c4, .int .i64 c5, .int .i64 c6, .int .i64 c7, .int .i64 c8, .int .i64 c9, .int .i64 c10, .int .i64 c11, .int .i64 c12] (0, 0) _ rfl (blk13 I1 _ _ _ _ _ _ _ _ _ _ _ _ _) Try.underlying48 rfl (by kernel_rfl)) rfl ?_
      exact ⟨by rw [E2.out], I3.trans (fr13 _ _ _ _ _ _ _ _ _ _ _ _ _ _ _) (fun i hi h => by omega)⟩
end
end Go.Proofs.Ytmacilbafoejdaa
