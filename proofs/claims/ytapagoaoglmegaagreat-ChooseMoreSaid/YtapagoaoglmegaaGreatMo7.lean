/- Texts of mine, joined by shake.py: GClSpread. -/
import Derived.StillTailTactics
import Derived.Lib.Hide
import Derived.IntWalk
import Derived.Test.YtapagoaoglmegaaGreatMo3
section
namespace Go.Proofs.YtapagoaoglmegaaGreat
open Go.RowKit Go.Proofs.YtapagoaoglmegaaGreatW.PrintWords Go.Proofs.YtapagoaoglmegaaGreatW.PrintLast Go.Proofs.YtapagoaoglmegaaGreatW.PrintMore PCl
set_option linter.unusedVariables false
set_option linter.unusedSimpArgs false
set_option maxRecDepth 100000
theorem mid_at {s : S25} (h : SpOk s) (W : World) : Calls Tryz.prog 104 #[.agg #[.int .i64 s.f0, .int .i64 s.f1, .int .i64 s.f2]] W fun e w' => e = .returned (.int .i64 (midZ s)) ∧ Fr (fun _ => False) W w' :=
 (span_Mid.calls 4 _ _ _ _ W (mid_f _ _ _ 4 (Nat.le_refl _) h)).mono fun _ _ q => ⟨q.1, Fr.of_below q.2 (Nat.le_refl _) _⟩
theorem abs_at (a : Int) (h0 : -4611686018427387904 ≤ a) (h1 : a ≤ 4611686018427387904) (W : World) : Calls Tryz.prog 64 #[.int .i64 a] W fun e w' => e = .returned (.int .i64 (if a < 0 then -a else a)) ∧ Fr (fun _ => False) W w' := by
 have b1 : (a == -9223372036854775808) = false := by rw [beq_eq_false_iff_ne]; omega
 by_cases hn : a < 0
 ·have e : (if a < 0 then -a else a) = -a := if_pos hn
  rw [e]
  have b2 : decide (a < 0) = true := decide_eq_true hn
  clear e
  go_enter Tryz.func64, Tryz.ntmps64
  go_wp2
  go_ret
  exact ⟨rfl, Fr.refl _ _⟩
 ·have e : (if a < 0 then -a else a) = a := if_neg hn
  rw [e]
  have b2 : decide (a < 0) = false := decide_eq_false hn
  clear e
  go_enter Tryz.func64, Tryz.ntmps64
  go_wp2
  go_ret
  exact ⟨rfl, Fr.refl _ _⟩
theorem abs_is {a b : Int} (ha : Tm a) (hb : Tm b) (W : World) : Calls Tryz.prog 64 #[.int .i64 (a - b)] W fun e w' => e = .returned (.int .i64 (dist a b)) ∧ Fr (fun _ => False) W w' :=
 abs_at (a - b) (by unfold Tm MT at *; omega) (by unfold Tm MT at *; omega) W
def AddS (W : World) (B lB kB r o : Nat) (c d : S27) (n cap k : Nat) (A : Nat) (w' : World) : Prop :=
 w'.cell? ⟨B, 1, none⟩ = some (.int .i64 c.f1.f0) ∧ w'.cell? ⟨B, 2, none⟩ = some (.int .i64 c.f1.f1) ∧ w'.cell? ⟨B, 3, none⟩ = some (.int .i64 c.f1.f2) ∧
 w'.cell? ⟨lB, 0, none⟩ = some (.slice (some ⟨r, A, none⟩) n cap) ∧ w'.cell? ⟨kB, 0, none⟩ = some (.int .i64 k) ∧
 w'.cell? ⟨r, o + 1, none⟩ = some (.int .i64 d.f1.f0) ∧ w'.cell? ⟨r, o + 2, none⟩ = some (.int .i64 d.f1.f1) ∧ w'.cell? ⟨r, o + 3, none⟩ = some (.int .i64 d.f1.f2) ∧ Fr (fun _ => False) W w'
theorem AddS.fr {W : World} {B lB kB r o : Nat} {c d : S27} {n cap k A : Nat} {w w' : World} (f : Fr (fun _ => False) w w') (h : AddS W B lB kB r o c d n cap k A w) : AddS W B lB kB r o c d n cap k A w' := by
 obtain ⟨a0, a1, a2, a3, a4, a5, a6, a7, hf⟩ := h
 have key : ∀ {g i : Nat} {v : Value}, w.cell? ⟨g, i, none⟩ = some v → w'.cell? ⟨g, i, none⟩ = some v := fun h => (f.cell (World.block_lt_of_cell? w _ h) (fun h => h)).trans h
 exact ⟨key a0, key a1, key a2, key a3, key a4, key a5, key a6, key a7, hf.trans f (fun _ _ h => h)⟩
set_option maxHeartbeats 4000000 in
theorem add_at {w : World} {lB kB wB oB rB r off n cap k : Nat} {c d : S27} {x y o : Int} (hc : SpOk c.f1) (hd : SpOk d.f1) (hk : k < n)
  (cl : w.cell? ⟨lB, 0, none⟩ = some (.slice (some ⟨r, off, none⟩) n cap)) (ck : w.cell? ⟨kB, 0, none⟩ = some (.int .i64 k)) (h5 : At5 w r (off + k * 5) d)
  (bw : Blk w wB #[.int .i64 x] 2) (bo : Blk w oB #[.int .i64 o] 2) (br : Blk w rB #[.int .i64 y] 2) (hwo : wB ≠ oB) (hwr : wB ≠ rB) (hro : rB ≠ oB)
  (hx : 0 ≤ x) (hy : 0 ≤ y) (ho : 0 < o) (hx1 : x + dist (midZ c.f1) (midZ d.f1) / o ≤ 9223372036854775807) (hy1 : y + dist (midZ c.f1) (midZ d.f1) % o ≤ 9223372036854775807) (ho1 : o ≤ 9223372036854775807) :
  Calls Tryz.prog 103 #[.agg #[.int .i64 c.f0, .int .i64 c.f1.f0, .int .i64 c.f1.f1, .int .i64 c.f1.f2, .int .i64 c.f2], .pointer (some ⟨lB, 0, none⟩), .pointer (some ⟨kB, 0, none⟩), .pointer (some ⟨wB, 0, none⟩), .pointer (some ⟨oB, 0, none⟩), .pointer (some ⟨rB, 0, none⟩)] w
   fun e w' => e = .returned (.tuple #[]) ∧ Blk w' wB #[.int .i64 (x + dist (midZ c.f1) (midZ d.f1) / o)] 2 ∧ Blk w' rB #[.int .i64 (y + dist (midZ c.f1) (midZ d.f1) % o)] 2 ∧ Fr (fun i => i = wB ∨ i = rB) w w' := by
 have hta := (midZ_tm hc).1
 have htb := (midZ_tm hd).1
 obtain ⟨a, ha⟩ : ∃ a, a = midZ c.f1 := ⟨_, rfl⟩
 obtain ⟨b, hb⟩ : ∃ b, b = midZ d.f1 := ⟨_, rfl⟩
 have Ma : ∀ W, Calls Tryz.prog 104 #[.agg #[.int .i64 c.f1.f0, .int .i64 c.f1.f1, .int .i64 c.f1.f2]] W fun e w' => e = .returned (.int .i64 a) ∧ Fr (fun _ => False) W w' := fun W => by rw [ha]; exact mid_at hc W
 have Mb : ∀ W, Calls Tryz.prog 104 #[.agg #[.int .i64 d.f1.f0, .int .i64 d.f1.f1, .int .i64 d.f1.f2]] W fun e w' => e = .returned (.int .i64 b) ∧ Fr (fun _ => False) W w' := fun W => by rw [hb]; exact mid_at hd W
 rw [← ha] at hta hx1 hy1 ⊢
 rw [← hb] at htb hx1 hy1 ⊢
 clear ha hb hc hd
 have hD := dist_tm hta htb
 have Mc := abs_is hta htb
 obtain ⟨D, hDe⟩ : ∃ D, D = dist a b := ⟨_, rfl⟩
 rw [← hDe] at hD hx1 hy1 Mc ⊢
 have HMa := Lib.hid Ma
 have HMb := Lib.hid Mb
 have HMc := Lib.hid Mc
 clear hDe Ma Mb Mc
 obtain ⟨ta0, ta1⟩ : 0 ≤ a ∧ a ≤ 4611686018427387904 := hta
 obtain ⟨tb0, tb1⟩ : 0 ≤ b ∧ b ≤ 4611686018427387904 := htb
 obtain ⟨td0, td1⟩ : 0 ≤ D ∧ D ≤ 4611686018427387904 := hD
 have i0 : (0 : Int) ≤ (k : Int) := by omega
 have i1 : (k : Int) < (n : Int) := by omega
 go_enter Tryz.func103, Tryz.ntmps103
 go_wp2_with fail
 generalize hW : World.alloc w _ = W
 have f0 : Fr (fun _ => False) w W := by subst hW; (repeat' (first | (with_reducible exact Fr.refl _ _) | (with_reducible assumption) | (with_reducible refine Fr.alloc ?_ _) | (with_reducible refine Fr.drew ?_) | (with_reducible refine Fr.drewN ?_ _) | (with_reducible refine Fr.setCell ?_ _ _ ?_) | (exact Or.inr rfl) | (left; simp; done) | (left; simp; omega) | (simp; done) | (simp; omega) | omega))
 have bB : Blk W w.heap.size #[.int .i64 c.f0, .int .i64 c.f1.f0, .int .i64 c.f1.f1, .int .i64 c.f1.f2, .int .i64 c.f2] 27 := by subst hW; (repeat' (first | (with_reducible assumption) | (with_reducible apply Blk.drew) | (with_reducible apply Blk.drewN) | (with_reducible apply Blk.set) | (with_reducible apply Blk.other) | (exact Blk.new' _ _ _ (by first | rfl | (simp; done) | (simp; omega))) | (with_reducible apply Blk.alloc) | (with_reducible rfl) | (simp; done) | (simp; omega) | omega | rfl))
 clear hW
 have key : ∀ {g i : Nat} {v : Value}, w.cell? ⟨g, i, none⟩ = some v → W.cell? ⟨g, i, none⟩ = some v := fun h => (f0.cell (World.block_lt_of_cell? w _ h) (fun h => h)).trans h
 have bw0 := bw.fr f0 (fun h => h)
 have bo0 := bo.fr f0 (fun h => h)
 have br0 := br.fr f0 (fun h => h)
 have ms0 : AddS W w.heap.size lB kB r (off + k * 5) c d n cap k off W := ⟨bB.cell 1, bB.cell 2, bB.cell 3, key cl, key ck, key h5.2.1, key h5.2.2.1, key h5.2.2.2.1, Fr.refl _ _⟩
 have ms := AddS.fr ((Fr.refl _ _).drew) ms0
 generalize w.heap.size = B at *
 clear bB key cl ck h5 bw bo br ms0
 have es : IntKind.i64.wrap (a - b) = a - b := IntWalk.i64_in _ (by omega)
 refine start_ (n := 12) (S := fun w' => w'.cell? ⟨B, 1, none⟩ = some (.int .i64 c.f1.f0) ∧ w'.cell? ⟨B, 2, none⟩ = some (.int .i64 c.f1.f1) ∧ w'.cell? ⟨B, 3, none⟩ = some (.int .i64 c.f1.f2) ∧ w'.cell? ⟨lB, 0, none⟩ = some (.slice (some ⟨r, off, none⟩) n cap) ∧ w'.cell? ⟨kB, 0, none⟩ = some (.int .i64 k) ∧ w'.cell? ⟨r, off + k * 5 + 1, none⟩ = some (.int .i64 d.f1.f0) ∧ w'.cell? ⟨r, off + k * 5 + 2, none⟩ = some (.int .i64 d.f1.f1) ∧ w'.cell? ⟨r, off + k * 5 + 3, none⟩ = some (.int .i64 d.f1.f2) ∧ Fr (fun _ => False) W w') (ds := []) #[oN,oN,oN,oN,oN,oN,oN,oN,oN,oN,oN,oN] (by kernel_rfl) rfl rfl ⟨ms.1, ms.2.1, ms.2.2.1, ms.2.2.2.1, ms.2.2.2.2.1, ms.2.2.2.2.2.1, ms.2.2.2.2.2.2.1, ms.2.2.2.2.2.2.2.1, ms.2.2.2.2.2.2.2.2⟩ (fun hHeld => ?_)
 refine pure_ (i := 0) (N := some 8) (v := ?_) (a' := ?_) #[oY,oN,oN,oN,oN,oN,oN,oN,oN,oN,oN,oN] rfl rfl (by kernel_rfl) (fun _ _ _ h => h) (Or.inl ⟨by rfl, ?_⟩) ?_ ?_
 rotate_left
 ·intro w'
  go_simp
  with_reducible rfl
 rotate_left
 ·simp only [Act.put, List.setIfInBounds_toArray, List.set_cons_zero, List.set_cons_succ, i64_w, i32_w]
  rfl
 refine take_ (i := 1) (N := some 9) (v := ?_) (a' := ?_) #[oY,oY,oN,oN,oN,oN,oN,oN,oN,oN,oN,oN] rfl rfl (by kernel_rfl) (fun _ _ _ h => h) (Or.inl ⟨by rfl, ?_⟩) hHeld ?_ ?_
 rotate_left
 ·rintro w' ⟨s0, s1, s2, s3, s4, s5, s6, s7, s8⟩
  go_simp
  with_reducible rfl
 rotate_left
 ·simp only [Act.put, List.setIfInBounds_toArray, List.set_cons_zero, List.set_cons_succ, i64_w, i32_w]
  rfl
 refine take_ (i := 3) (N := some 11) (v := ?_) (a' := ?_) #[oY,oY,oN,oY,oN,oN,oN,oN,oN,oN,oN,oN] rfl rfl (by kernel_rfl) (fun _ _ _ h => h) (Or.inl ⟨by rfl, ?_⟩) hHeld ?_ ?_
 rotate_left
 ·rintro w' ⟨s0, s1, s2, s3, s4, s5, s6, s7, s8⟩
  go_simp
  with_reducible rfl
 rotate_left
 ·simp only [Act.put, List.setIfInBounds_toArray, List.set_cons_zero, List.set_cons_succ, i64_w, i32_w]
  rfl
 refine take_ (i := 4) (N := some 12) (v := ?_) (a' := ?_) #[oY,oY,oN,oY,oY,oN,oN,oN,oN,oN,oN,oN] rfl rfl (by kernel_rfl) (fun _ _ _ h => h) (Or.inl ⟨by rfl, ?_⟩) hHeld ?_ ?_
 rotate_left
 ·rintro w' ⟨s0, s1, s2, s3, s4, s5, s6, s7, s8⟩
  go_simp
  with_reducible rfl
 rotate_left
 ·simp only [Act.put, List.setIfInBounds_toArray, List.set_cons_zero, List.set_cons_succ, i64_w, i32_w]
  rfl
 refine pure_ (i := 5) (N := some 13) (v := ?_) (a' := ?_) #[oY,oY,oN,oY,oY,oY,oN,oN,oN,oN,oN,oN] rfl rfl (by kernel_rfl) (fun _ _ _ h => h) (Or.inl ⟨by rfl, ?_⟩) ?_ ?_
 rotate_left
 ·intro w'
  go_simp
  with_reducible rfl
 rotate_left
 ·simp only [Act.put, List.setIfInBounds_toArray, List.set_cons_zero, List.set_cons_succ, i64_w, i32_w]
  rfl
 refine pure_ (i := 6) (N := some 14) (v := ?_) (a' := ?_) #[oY,oY,oN,oY,oY,oY,oY,oN,oN,oN,oN,oN] rfl rfl (by kernel_rfl) (fun _ _ _ h => h) (Or.inl ⟨by rfl, ?_⟩) ?_ ?_
 rotate_left
 ·intro w'
  go_simp
  with_reducible rfl
 rotate_left
 ·simp only [Act.put, List.setIfInBounds_toArray, List.set_cons_zero, List.set_cons_succ, i64_w, i32_w]
  rfl
 refine take_ (i := 7) (N := some 15) (v := ?_) (a' := ?_) #[oY,oY,oN,oY,oY,oY,oY,oY,oN,oN,oN,oN] rfl rfl (by kernel_rfl) (fun _ _ _ h => h) (Or.inl ⟨by rfl, ?_⟩) hHeld ?_ ?_
 rotate_left
 ·rintro w' ⟨s0, s1, s2, s3, s4, s5, s6, s7, s8⟩
  go_simp
  with_reducible rfl
 rotate_left
 ·simp only [Act.put, List.setIfInBounds_toArray, List.set_cons_zero, List.set_cons_succ, i64_w, i32_w]
  rfl
 refine one_ (i := 2) (N := some 10) #[oY,oY,oY,oY,oY,oY,oY,oY,oN,oN,oN,oN] rfl rfl (by kernel_rfl) (by decide) (fun K hK => ?_)
 refine goes_ Tryz.func104 (by kernel_rfl) rfl #[.agg #[.int .i64 c.f1.f0, .int .i64 c.f1.f1, .int .i64 c.f1.f2]] (by rfl) rfl rfl (by simp only [List.map_toArray, List.map_cons, List.map_nil]; rfl) ?_
 refine (HMa.out _).mono ?_
 rintro e w3 ⟨rfl, k3⟩
 refine ⟨_, rfl, ?_⟩
 have ms3 := AddS.fr k3 hHeld
 refine hK.out _ _ ⟨ms3.1, ms3.2.1, ms3.2.2.1, ms3.2.2.2.1, ms3.2.2.2.2.1, ms3.2.2.2.2.2.1, ms3.2.2.2.2.2.2.1, ms3.2.2.2.2.2.2.2.1, ms3.2.2.2.2.2.2.2.2⟩ (fun hHeld => ?_)
 clear hK K
 refine norm_ (a' := ?_) ?_ ?_
 rotate_left
 ·show Act.put _ (some 10) _ = _
  simp only [Act.put, List.setIfInBounds_toArray, List.set_cons_zero, List.set_cons_succ, i64_w, i32_w]
  rfl
 refine one_ (i := 8) (N := some 16) #[oY,oY,oY,oY,oY,oY,oY,oY,oY,oN,oN,oN] rfl rfl (by kernel_rfl) (by decide) (fun K hK => ?_)
 refine goes_ Tryz.func104 (by kernel_rfl) rfl #[.agg #[.int .i64 d.f1.f0, .int .i64 d.f1.f1, .int .i64 d.f1.f2]] (by rfl) rfl rfl (by simp only [List.map_toArray, List.map_cons, List.map_nil]; rfl) ?_
 refine (HMb.out _).mono ?_
 rintro e w4 ⟨rfl, k4⟩
 refine ⟨_, rfl, ?_⟩
 have ms4 := AddS.fr k4 hHeld
 refine hK.out _ _ ⟨ms4.1, ms4.2.1, ms4.2.2.1, ms4.2.2.2.1, ms4.2.2.2.2.1, ms4.2.2.2.2.2.1, ms4.2.2.2.2.2.2.1, ms4.2.2.2.2.2.2.2.1, ms4.2.2.2.2.2.2.2.2⟩ (fun hHeld => ?_)
 clear hK K
 refine norm_ (a' := ?_) ?_ ?_
 rotate_left
 ·show Act.put _ (some 16) _ = _
  simp only [Act.put, List.setIfInBounds_toArray, List.set_cons_zero, List.set_cons_succ, i64_w, i32_w]
  rfl
 refine pure_ (i := 9) (N := some 17) (v := ?_) (a' := ?_) #[oY,oY,oY,oY,oY,oY,oY,oY,oY,oY,oN,oN] rfl rfl (by kernel_rfl) (fun _ _ _ h => h) (Or.inl ⟨by rfl, ?_⟩) ?_ ?_
 rotate_left
 ·intro w'
  go_simp
  with_reducible rfl
 rotate_left
 ·simp only [Act.put, List.setIfInBounds_toArray, List.set_cons_zero, List.set_cons_succ, i64_w, i32_w]
  rfl
 refine one_ (i := 10) (N := some 18) #[oY,oY,oY,oY,oY,oY,oY,oY,oY,oY,oY,oN] rfl rfl (by kernel_rfl) (by decide) (fun K hK => ?_)
 refine goes_ Tryz.func64 (by kernel_rfl) rfl #[.int .i64 (a - b)] (by rfl) rfl rfl (by simp only [List.map_toArray, List.map_cons, List.map_nil]; rfl) ?_
 refine (HMc.out _).mono ?_
 rintro e w5 ⟨rfl, k5⟩
 refine ⟨_, rfl, ?_⟩
 have ms5 := AddS.fr k5 hHeld
 refine hK.out _ _ ⟨ms5.1, ms5.2.1, ms5.2.2.1, ms5.2.2.2.1, ms5.2.2.2.2.1, ms5.2.2.2.2.2.1, ms5.2.2.2.2.2.2.1, ms5.2.2.2.2.2.2.2.1, ms5.2.2.2.2.2.2.2.2⟩ (fun hHeld => ?_)
 clear hK K
 refine norm_ (a' := ?_) ?_ ?_
 rotate_left
 ·show Act.put _ (some 18) _ = _
  simp only [Act.put, List.setIfInBounds_toArray, List.set_cons_zero, List.set_cons_succ, i64_w, i32_w]
  rfl
 refine pure_ (i := 11) (N := some 7) (v := ?_) (a' := ?_) #[oY,oY,oY,oY,oY,oY,oY,oY,oY,oY,oY,oY] rfl rfl (by kernel_rfl) (fun _ _ _ h => h) (Or.inl ⟨by rfl, ?_⟩) ?_ ?_
 rotate_left
 ·intro w'
  go_simp
  with_reducible rfl
 rotate_left
 ·simp only [Act.put, List.setIfInBounds_toArray, List.set_cons_zero, List.set_cons_succ, i64_w, i32_w]
  rfl
 refine done_ (by kernel_rfl) ?_
 have fE : Fr (fun _ => False) W w5 := hHeld.2.2.2.2.2.2.2.2
 clear hHeld ms ms3 ms4 ms5 k3 k4 k5 HMa HMb HMc
 have bw1 := bw0.fr fE (fun h => h)
 have bo1 := bo0.fr fE (fun h => h)
 have br1 := br0.fr fE (fun h => h)
 have cw := bw1.cell 0
 have co := bo1.cell 0
 have gw := bw1.free 0
 simp at cw co
 clear bw0 bo0 br0 es
 have q0 : 0 ≤ D / o := Int.ediv_nonneg td0 (by omega)
 have q1 : D / o ≤ D := Int.ediv_le_self _ td0
 have m0 : 0 ≤ D % o := Int.emod_nonneg _ (by omega)
 have m1 : D % o < o := Int.emod_lt_of_pos _ ho
 have z0 : (o == 0) = false := by rw [beq_eq_false_iff_ne]; omega
 have z1 : o ≠ 0 := by omega
 have e1 : D.tdiv o = D / o := Int.tdiv_eq_ediv_of_nonneg td0
 have e2 : IntKind.i64.wrap (D / o) = D / o := IntWalk.i64_in _ (by omega)
 have e3 : IntKind.i64.wrap (x + D / o) = x + D / o := IntWalk.i64_in _ (by omega)
 have e4 : D.tmod o = D % o := Int.tmod_eq_emod_of_nonneg td0
 have e5 : IntKind.i64.wrap (D % o) = D % o := IntWalk.i64_in _ (by omega)
 have e6 : IntKind.i64.wrap (y + D % o) = y + D % o := IntWalk.i64_in _ (by omega)
 go_wp2_with fail
 go_still_tail 5, (by kernel_rfl)
 change wpList _ _ _ _ _ (World.drew w5)
 go_wp2_with fail
 generalize hW : World.drew (World.setCell w5 _ _) = W6
 have bw2 : Blk W6 wB #[.int .i64 (x + D / o)] 2 := by subst hW; (repeat' (first | (with_reducible assumption) | (with_reducible apply Blk.drew) | (with_reducible apply Blk.drewN) | (with_reducible apply Blk.set) | (with_reducible apply Blk.other) | (exact Blk.new' _ _ _ (by first | rfl | (simp; done) | (simp; omega))) | (with_reducible apply Blk.alloc) | (with_reducible rfl) | (simp; done) | (simp; omega) | omega | rfl))
 have bo2 : Blk W6 oB #[.int .i64 o] 2 := by subst hW; exact (bo1.other hwo).drew
 have br2 : Blk W6 rB #[.int .i64 y] 2 := by subst hW; exact (br1.other hwr).drew
 have f2 : Fr (fun i => i = wB) w5 W6 := by subst hW; (repeat' (first | (with_reducible exact Fr.refl _ _) | (with_reducible assumption) | (with_reducible refine Fr.alloc ?_ _) | (with_reducible refine Fr.drew ?_) | (with_reducible refine Fr.drewN ?_ _) | (with_reducible refine Fr.setCell ?_ _ _ ?_) | (exact Or.inr rfl) | (left; simp; done) | (left; simp; omega) | (simp; done) | (simp; omega) | omega))
 clear hW cw co gw bw1 bo1 br1
 have cr := br2.cell 0
 have co := bo2.cell 0
 have gr := br2.free 0
 simp at cr co
 go_wp2_with fail
 go_still_tail 5, (by kernel_rfl)
 change wpList _ _ _ _ _ (World.drew W6)
 go_wp2_with fail
 generalize hW : World.drew (World.setCell W6 _ _) = W7
 have bw3 : Blk W7 wB #[.int .i64 (x + D / o)] 2 := by subst hW; exact (bw2.other (Ne.symm hwr)).drew
 have br3 : Blk W7 rB #[.int .i64 (y + D % o)] 2 := by subst hW; (repeat' (first | (with_reducible assumption) | (with_reducible apply Blk.drew) | (with_reducible apply Blk.drewN) | (with_reducible apply Blk.set) | (with_reducible apply Blk.other) | (exact Blk.new' _ _ _ (by first | rfl | (simp; done) | (simp; omega))) | (with_reducible apply Blk.alloc) | (with_reducible rfl) | (simp; done) | (simp; omega) | omega | rfl))
 have f3 : Fr (fun i => i = rB) W6 W7 := by subst hW; (repeat' (first | (with_reducible exact Fr.refl _ _) | (with_reducible assumption) | (with_reducible refine Fr.alloc ?_ _) | (with_reducible refine Fr.drew ?_) | (with_reducible refine Fr.drewN ?_ _) | (with_reducible refine Fr.setCell ?_ _ _ ?_) | (exact Or.inr rfl) | (left; simp; done) | (left; simp; omega) | (simp; done) | (simp; omega) | omega))
 clear hW cr co gr
 go_wp2
 go_returns
 have fa : Fr (fun i => i = wB ∨ i = rB) w w5 := (f0.trans fE (fun _ _ h => h)).mono (fun _ _ h => h.elim)
 exact ⟨rfl, bw3, br3, (fa.trans f2 (fun _ _ h => .inl h)).trans f3 (fun _ _ h => .inr h)⟩
theorem sum_zero_at (B : Int) (hB : 0 ≤ B) (l : List Int) (k : Nat) (hk : l[k]? = some 0) (h : ∀ d ∈ l, 0 ≤ d ∧ d ≤ B) : l.sum ≤ ((l.length : Int) - 1) * B := by
 obtain ⟨hkl, hk0⟩ := List.getElem?_eq_some_iff.1 hk
 have e : l = l.take k ++ 0 :: l.drop (k + 1) := by rw [← hk0, ← List.drop_eq_getElem_cons hkl, List.take_append_drop]
 have h1 := sum_le B hB (l.take k) (fun d hd => h d (List.mem_of_mem_take hd))
 have h2 := sum_le B hB (l.drop (k + 1)) (fun d hd => h d (List.mem_of_mem_drop hd))
 have e1 : l.sum = (l.take k).sum + (l.drop (k + 1)).sum := by
  conv => lhs; rw [e]
  rw [List.sum_append, List.sum_cons]; omega
 rw [e1]
 have e2 : ((l.length : Int) - 1) * B = ((l.take k).length : Int) * B + ((l.drop (k + 1)).length : Int) * B := by
  rw [← Int.add_mul]; congr 1; simp; omega
 rw [e2]; omega
theorem sumD_snoc (o : Int) (l : List Int) (d : Int) : sumD o (l ++ [d]) = sumD o l + d / o := by simp [sumD]
theorem sumR_snoc (o : Int) (l : List Int) (d : Int) : sumR o (l ++ [d]) = sumR o l + d % o := by simp [sumR]
theorem sumD_take {o : Int} (ho : 0 < o) {l : List Int} (h : ∀ d ∈ l, Tm d) (i : Nat) : 0 ≤ sumD o (l.take i) ∧ sumD o (l.take i) ≤ sumD o l := by
 have h1 := sumD_le o ho (l.take i) (fun d hd => h d (List.mem_of_mem_take hd))
 have h2 := sumD_le o ho (l.drop i) (fun d hd => h d (List.mem_of_mem_drop hd))
 have e : sumD o l = sumD o (l.take i) + sumD o (l.drop i) := by
  conv => lhs; rw [← List.take_append_drop i l]
  unfold sumD
  rw [List.map_append, List.sum_append]
 omega
theorem dist_self (a : Int) : dist a a = 0 := by unfold dist; simp
theorem dists_k {l : List S27} {k : Nat} (hk : k < l.length) : (dists l k)[k]? = some 0 := by
 unfold dists
 rw [List.getElem?_map, List.getElem?_eq_getElem hk]
 have : rd_T27 l (k : Int) = l[k] := rd_get (List.getElem?_eq_getElem hk)
 simp [this, dist_self]
theorem dists_len (l : List S27) (k : Nat) : (dists l k).length = l.length := by simp [dists]
theorem sumD_fits {l : List S27} (h : Fld l) {k : Nat} (hk : k < l.length) (hn : 2 ≤ l.length) : sumD ((l.length : Int) - 1) (dists l k) ≤ MT := by
 have ho : 0 < (l.length : Int) - 1 := by omega
 have ht := dists_tm h hk
 have h1 := sum_zero_at MT (by unfold MT; omega) (dists l k) k (dists_k hk) ht
 rw [dists_len] at h1
 have h2 := sum_parts ((l.length : Int) - 1) ho (dists l k)
 have h3 := sumR_le ((l.length : Int) - 1) ho (dists l k)
 have h4 : sumD ((l.length : Int) - 1) (dists l k) * ((l.length : Int) - 1) ≤ MT * ((l.length : Int) - 1) := by rw [Int.mul_comm MT]; omega
 exact Int.le_of_mul_le_mul_right h4 ho
theorem dists_get {l : List S27} {k i : Nat} {c d : S27} (hc : l[i]? = some c) (hd : l[k]? = some d) : (dists l k)[i]? = some (dist (midZ c.f1) (midZ d.f1)) := by
 unfold dists
 rw [List.getElem?_map, hc, rd_get hd]; rfl
set_option maxHeartbeats 4000000 in
theorem spread_at {w : World} {A : Option Addr} {cap k : Nat} {l : List S27} (hC : Kd.C k27 w A l.length l) (hcap : l.length ≤ cap) (hF : Fld l) (hk : k < l.length) :
  Calls Tryz.prog 55 #[.slice A l.length cap, .int .i64 k] w fun e w' => e = .returned (.int .i64 (spreadZ l k)) ∧ Fr (fun _ => False) w w' := by
 have hmx := hC.2.1
 obtain ⟨r, off, rfl, hr, hcell⟩ := C27_open hC (by omega)
 clear hC
 by_cases hn : l.length < 2
 ·have hz : spreadZ l k = 0 := if_pos hn
  rw [hz]
  have b1 : decide ((l.length : Int) < 2) = true := decide_eq_true (by omega)
  have b2 : decide (l.length < 2) = true := decide_eq_true hn
  clear hcell hz
  go_enter Tryz.func55, Tryz.ntmps55
  go_wp2
  go_ret
  exact ⟨rfl, by (repeat' (first | (with_reducible exact Fr.refl _ _) | (with_reducible assumption) | (with_reducible refine Fr.alloc ?_ _) | (with_reducible refine Fr.drew ?_) | (with_reducible refine Fr.drewN ?_ _) | (with_reducible refine Fr.setCell ?_ _ _ ?_) | (exact Or.inr rfl) | (left; simp; done) | (left; simp; omega) | (simp; done) | (simp; omega) | omega))⟩
 ·have b1 : decide ((l.length : Int) < 2) = false := decide_eq_false (by omega)
  have b2 : decide (l.length < 2) = false := decide_eq_false hn
  have hmf : ∀ (fn : Fn) (first cap : Array Value) (w : World), (Instr.makeFunc fn first cap).run Tryz.prog w = .ok (.func fn first cap) w := fun _ _ _ _ => rfl
  have ho : 0 < (l.length : Int) - 1 := by omega
  have hfit := sumD_fits hF hk (by omega)
  have htm := dists_tm hF hk
  have hzz : spreadZ l k = sumD ((l.length : Int) - 1) (dists l k) + sumR ((l.length : Int) - 1) (dists l k) / ((l.length : Int) - 1) := by
   unfold spreadZ; rw [if_neg hn, parts_div _ ho]
  have HZ := hid hzz
  have hl16 := hF.len
  obtain ⟨d, hd⟩ : ∃ d, l[k]? = some d := ⟨l[k], List.getElem?_eq_getElem hk⟩
  have hsd := hF.span d (List.mem_of_getElem? hd)
  have Hcell := hid hcell
  have HF := hid hF
  have Hd := hid hd
  have Htm := hid htm
  have ew : IntKind.i64.wrap ((l.length : Int) - 1) = (l.length : Int) - 1 := IntWalk.i64_in _ (by omega)
  clear hzz hcell hF hd htm
  obtain ⟨o, ho_⟩ : ∃ o, o = (l.length : Int) - 1 := ⟨_, rfl⟩
  rw [← ho_] at ho hfit HZ ew
  go_enter Tryz.func55, Tryz.ntmps55
  go_wp2_with fail
  generalize hW : World.alloc (World.alloc (World.alloc (World.alloc (World.alloc w _) _) _) _) _ = W
  have f0 : Fr (fun _ => False) w W := by subst hW; (repeat' (first | (with_reducible exact Fr.refl _ _) | (with_reducible assumption) | (with_reducible refine Fr.alloc ?_ _) | (with_reducible refine Fr.drew ?_) | (with_reducible refine Fr.drewN ?_ _) | (with_reducible refine Fr.setCell ?_ _ _ ?_) | (exact Or.inr rfl) | (left; simp; done) | (left; simp; omega) | (simp; done) | (simp; omega) | omega))
  have bl : Blk W w.heap.size #[.slice (some ⟨r, off, none⟩) l.length cap] 22 := by subst hW; (repeat' (first | (with_reducible assumption) | (with_reducible apply Blk.drew) | (with_reducible apply Blk.drewN) | (with_reducible apply Blk.set) | (with_reducible apply Blk.other) | (exact Blk.new' _ _ _ (by first | rfl | (simp; done) | (simp; omega))) | (with_reducible apply Blk.alloc) | (with_reducible rfl) | (simp; done) | (simp; omega) | omega | rfl))
  have bk : Blk W (w.heap.size + 1) #[.int .i64 k] 3 := by subst hW; (repeat' (first | (with_reducible assumption) | (with_reducible apply Blk.drew) | (with_reducible apply Blk.drewN) | (with_reducible apply Blk.set) | (with_reducible apply Blk.other) | (exact Blk.new' _ _ _ (by first | rfl | (simp; done) | (simp; omega))) | (with_reducible apply Blk.alloc) | (with_reducible rfl) | (simp; done) | (simp; omega) | omega | rfl))
  have bo : Blk W (w.heap.size + 1 + 1) #[.int .i64 o] 2 := by subst hW; rw [ho_]; (repeat' (first | (with_reducible assumption) | (with_reducible apply Blk.drew) | (with_reducible apply Blk.drewN) | (with_reducible apply Blk.set) | (with_reducible apply Blk.other) | (exact Blk.new' _ _ _ (by first | rfl | (simp; done) | (simp; omega))) | (with_reducible apply Blk.alloc) | (with_reducible rfl) | (simp; done) | (simp; omega) | omega | rfl))
  have bw : Blk W (w.heap.size + 1 + 1 + 1) #[.int .i64 0] 2 := by subst hW; (repeat' (first | (with_reducible assumption) | (with_reducible apply Blk.drew) | (with_reducible apply Blk.drewN) | (with_reducible apply Blk.set) | (with_reducible apply Blk.other) | (exact Blk.new' _ _ _ (by first | rfl | (simp; done) | (simp; omega))) | (with_reducible apply Blk.alloc) | (with_reducible rfl) | (simp; done) | (simp; omega) | omega | rfl))
  have br : Blk W (w.heap.size + 1 + 1 + 1 + 1) #[.int .i64 0] 2 := by subst hW; (repeat' (first | (with_reducible assumption) | (with_reducible apply Blk.drew) | (with_reducible apply Blk.drewN) | (with_reducible apply Blk.set) | (with_reducible apply Blk.other) | (exact Blk.new' _ _ _ (by first | rfl | (simp; done) | (simp; omega))) | (with_reducible apply Blk.alloc) | (with_reducible rfl) | (simp; done) | (simp; omega) | omega | rfl))
  clear hW
  obtain ⟨lB, hlB⟩ : ∃ b, b = w.heap.size := ⟨_, rfl⟩
  obtain ⟨kB, hkB⟩ : ∃ b, b = w.heap.size + 1 := ⟨_, rfl⟩
  obtain ⟨oB, hoB⟩ : ∃ b, b = w.heap.size + 1 + 1 := ⟨_, rfl⟩
  obtain ⟨wB, hwB⟩ : ∃ b, b = w.heap.size + 1 + 1 + 1 := ⟨_, rfl⟩
  obtain ⟨rB, hrB⟩ : ∃ b, b = w.heap.size + 1 + 1 + 1 + 1 := ⟨_, rfl⟩
  rw [← hrB, ← hwB, ← hoB, ← hkB, ← hlB]
  rw [← hlB] at bl
  rw [← hkB] at bk
  rw [← hoB] at bo
  rw [← hwB] at bw
  rw [← hrB] at br
  have n1 : wB ≠ oB := by omega
  have n2 : wB ≠ rB := by omega
  have n3 : rB ≠ oB := by omega
  have n4 : lB ≠ wB ∧ lB ≠ rB ∧ kB ≠ wB ∧ kB ≠ rB ∧ oB ≠ wB ∧ oB ≠ rB := by omega
  have n5 : ¬ wB < w.heap.size ∧ ¬ rB < w.heap.size := by omega
  have n6 : r ≠ wB ∧ r ≠ rB := by omega
  obtain ⟨n41, n42, n43, n44, n45, n46⟩ := n4
  clear hlB hkB hoB hwB hrB
  have ho16 : o ≤ 16 := by omega
  clear ho_
  have hr1 : r < W.heap.size := f0.lt hr
  have cl0 := bl.cell 0
  have cl1 := bk.cell 0
  simp at cl0 cl1
  go_loopw [20] (fun vi wr => ∃ i : Nat, i ≤ l.length ∧ vi = .int .i64 i ∧ Blk wr wB #[.int .i64 (sumD o ((dists l k).take i))] 2 ∧ Blk wr rB #[.int .i64 (sumR o ((dists l k).take i))] 2 ∧ Fr (fun j => j = wB ∨ j = rB) W wr) (fun vi _ => l.length - (intOf vi).toNat)
  case atStart => exact ⟨0, by omega, rfl, by simpa [sumD] using bw, by simpa [sumR] using br, Fr.refl _ _⟩
  case round =>
   clear bw br
   obtain ⟨i, hi, rfl, bw, br, hf⟩ := hrel
   have bo1 := bo.fr hf (by omega)
   have cl := (bl.fr hf (by omega)).cell 0
   have ck := (bk.fr hf (by omega)).cell 0
   simp at cl ck
   by_cases hlt : i < l.length
   ·obtain ⟨c, hc⟩ : ∃ c, l[i]? = some c := ⟨l[i], List.getElem?_eq_getElem hlt⟩
    obtain ⟨c1, c2, c3, c4, c5⟩ := ((Hcell.out i c hc).fr f0 (fun h => h)).fr hf (by omega)
    have hg := dists_get hc Hd.out
    have e1 : (dists l k).take (i + 1) = (dists l k).take i ++ [dist (midZ c.f1) (midZ d.f1)] := take_snoc hg
    have hx := sumD_take ho Htm.out i
    have hx1 := sumD_take ho Htm.out (i + 1)
    have hy := sumR_le o ho ((dists l k).take i)
    have hy1 := sumR_le o ho ((dists l k).take (i + 1))
    rw [e1, sumD_snoc] at hx1
    rw [e1, sumR_snoc] at hy1
    have e2 : sumD o ((dists l k).take (i + 1)) = sumD o ((dists l k).take i) + dist (midZ c.f1) (midZ d.f1) / o := by rw [e1, sumD_snoc]
    have e3 : sumR o ((dists l k).take (i + 1)) = sumR o ((dists l k).take i) + dist (midZ c.f1) (midZ d.f1) % o := by rw [e1, sumR_snoc]
    have E2 := hid e2
    have E3 := hid e3
    have hlen : ((List.take i (dists l k) ++ [dist (midZ c.f1) (midZ d.f1)]).length : Int) * o ≤ 16 * 16 := by
     have h1 : (List.take i (dists l k) ++ [dist (midZ c.f1) (midZ d.f1)]).length ≤ 16 := by simp; omega
     have h2 : o ≤ 16 := by omega
     have h3 : ((List.take i (dists l k) ++ [dist (midZ c.f1) (midZ d.f1)]).length : Int) ≤ 16 := by omega
     exact Int.mul_le_mul h3 h2 (by omega) (by omega)
    have HX : Hid (0 ≤ sumD o ((dists l k).take i) ∧ sumD o ((dists l k).take i) + dist (midZ c.f1) (midZ d.f1) / o ≤ 9223372036854775807) := hid ⟨hx.1, by unfold MT at hfit; omega⟩
    have HY : Hid (0 ≤ sumR o ((dists l k).take i) ∧ sumR o ((dists l k).take i) + dist (midZ c.f1) (midZ d.f1) % o ≤ 9223372036854775807) := hid ⟨hy.1, by omega⟩
    have hsc := HF.out.span c (List.mem_of_getElem? hc)
    have hh5 : Hid (At5 wr r (off + k * 5) d) := hid (((Hcell.out k d Hd.out).fr f0 (fun h => h)).fr hf (by omega))
    clear hx hx1 hy hy1 e1 e2 e3 hg hlen hc
    generalize sumD o ((dists l k).take i) = X at *
    generalize sumR o ((dists l k).take i) = Y at *
    go_wp2_with fail
    generalize hW : World.alloc wr _ = W2
    have f2 : Fr (fun _ => False) wr W2 := by subst hW; (repeat' (first | (with_reducible exact Fr.refl _ _) | (with_reducible assumption) | (with_reducible refine Fr.alloc ?_ _) | (with_reducible refine Fr.drew ?_) | (with_reducible refine Fr.drewN ?_ _) | (with_reducible refine Fr.setCell ?_ _ _ ?_) | (exact Or.inr rfl) | (left; simp; done) | (left; simp; omega) | (simp; done) | (simp; omega) | omega))
    clear hW
    have key : ∀ {g i : Nat} {v : Value}, wr.cell? ⟨g, i, none⟩ = some v → W2.cell? ⟨g, i, none⟩ = some v := fun h => (f2.cell (World.block_lt_of_cell? wr _ h) (fun h => h)).trans h
    refine (add_at (d := d) hsc hsd hk (key cl) (key ck) (hh5.out.fr f2 (fun h => h)) (bw.fr f2 (fun h => h)) (bo1.fr f2 (fun h => h)) (br.fr f2 (fun h => h)) n1 n2 n3 HX.out.1 HY.out.1 ho HX.out.2 HY.out.2 (by omega)).mono ?_
    rintro e w3 ⟨rfl, bw3, br3, f3⟩
    rw [← E2.out] at bw3
    rw [← E3.out] at br3
    have f4 : Fr (fun j => j = wB ∨ j = rB) W w3 := (hf.trans f2 (fun _ _ h => h.elim)).trans f3 (fun _ _ h => h)
    clear bw br bo1 cl ck key f2 f3 hf hh5 HX HY c1 c2 c3 c4 c5
    go_wp2_with fail
    go_roundw
    case rel => exact ⟨i + 1, by omega, by go_num, bw3, br3, f4⟩
    case measure => simp [intOf]; omega
   ·obtain rfl : l.length = i := by omega
    rw [List.take_of_length_le (by rw [dists_len]; omega)] at bw br
    have hD := sumD_take ho Htm.out l.length
    have hR := sumR_le o ho (dists l k)
    rw [List.take_of_length_le (by rw [dists_len]; omega)] at hD
    rw [dists_len] at hR
    have hR2 : (l.length : Int) * o ≤ 16 * 16 := Int.mul_le_mul (by omega) (by omega) (by omega) (by omega)
    generalize sumD o (dists l k) = X at *
    generalize sumR o (dists l k) = Y at *
    have ff : Fr (fun _ => False) w wr := f0.trans hf (fun j hj hj2 => by omega)
    have cw := bw.cell 0
    have cr := br.cell 0
    have co := bo1.cell 0
    simp at cw cr co
    have q0 : 0 ≤ Y / o := Int.ediv_nonneg hR.1 (by omega)
    have q1 : Y / o ≤ Y := Int.ediv_le_self _ hR.1
    have x1 : X ≤ 4611686018427387904 := by unfold MT at hfit; exact hfit
    have z0 : (o == 0) = false := by rw [beq_eq_false_iff_ne]; omega
    have z1 : o ≠ 0 := by omega
    have e1 : Y.tdiv o = Y / o := Int.tdiv_eq_ediv_of_nonneg hR.1
    have e2 : IntKind.i64.wrap (Y / o) = Y / o := IntWalk.i64_in _ (by omega)
    have e3 : IntKind.i64.wrap (X + Y / o) = X + Y / o := IntWalk.i64_in _ (by omega)
    have HZ2 := hid HZ.out
    have hY0 : 0 ≤ Y := hR.1
    have hX0 : 0 ≤ X := hD.1
    clear bw br bo1 hf hD hR hR2 hfit HZ hlt hi
    go_wp2_with fail
    refine start_ (n := 6) (S := fun w' => w'.cell? ⟨wB, 0, none⟩ = some (.int .i64 X) ∧ w'.cell? ⟨rB, 0, none⟩ = some (.int .i64 Y) ∧ w'.cell? ⟨oB, 0, none⟩ = some (.int .i64 o)) (ds := []) #[oN,oN,oN,oN,oN,oN] (by kernel_rfl) rfl rfl ⟨cw, cr, co⟩ (fun hHeld => ?_)
    refine take_ (i := 0) (N := some 28) (v := ?_) (a' := ?_) #[oY,oN,oN,oN,oN,oN] rfl rfl (by kernel_rfl) (fun _ _ _ h => h) (Or.inl ⟨by rfl, ?_⟩) hHeld ?_ ?_
    rotate_left
    ·rintro w' ⟨s0, s1, s2⟩
     go_simp
     with_reducible rfl
    rotate_left
    ·simp only [Act.put, List.setIfInBounds_toArray, List.set_cons_zero, List.set_cons_succ, i64_w, i32_w]
     rfl
    refine take_ (i := 1) (N := some 29) (v := ?_) (a' := ?_) #[oY,oY,oN,oN,oN,oN] rfl rfl (by kernel_rfl) (fun _ _ _ h => h) (Or.inl ⟨by rfl, ?_⟩) hHeld ?_ ?_
    rotate_left
    ·rintro w' ⟨s0, s1, s2⟩
     go_simp
     with_reducible rfl
    rotate_left
    ·simp only [Act.put, List.setIfInBounds_toArray, List.set_cons_zero, List.set_cons_succ, i64_w, i32_w]
     rfl
    refine take_ (i := 2) (N := some 30) (v := ?_) (a' := ?_) #[oY,oY,oY,oN,oN,oN] rfl rfl (by kernel_rfl) (fun _ _ _ h => h) (Or.inl ⟨by rfl, ?_⟩) hHeld ?_ ?_
    rotate_left
    ·rintro w' ⟨s0, s1, s2⟩
     go_simp
     with_reducible rfl
    rotate_left
    ·simp only [Act.put, List.setIfInBounds_toArray, List.set_cons_zero, List.set_cons_succ, i64_w, i32_w]
     rfl
    refine pure_ (i := 3) (N := some 31) (v := ?_) (a' := ?_) #[oY,oY,oY,oY,oN,oN] rfl rfl (by kernel_rfl) (fun _ _ _ h => h) (Or.inl ⟨by rfl, ?_⟩) ?_ ?_
    rotate_left
    ·intro w'
     go_simp
     with_reducible rfl
    rotate_left
    ·simp only [Act.put, List.setIfInBounds_toArray, List.set_cons_zero, List.set_cons_succ, i64_w, i32_w]
     rfl
    refine pure_ (i := 4) (N := some 32) (v := ?_) (a' := ?_) #[oY,oY,oY,oY,oY,oN] rfl rfl (by kernel_rfl) (fun _ _ _ h => h) (Or.inl ⟨by rfl, ?_⟩) ?_ ?_
    rotate_left
    ·intro w'
     go_simp
     with_reducible rfl
    rotate_left
    ·simp only [Act.put, List.setIfInBounds_toArray, List.set_cons_zero, List.set_cons_succ, i64_w, i32_w]
     rfl
    refine pure_ (i := 5) (N := some 4) (v := ?_) (a' := ?_) #[oY,oY,oY,oY,oY,oY] rfl rfl (by kernel_rfl) (fun _ _ _ h => h) (Or.inl ⟨by rfl, ?_⟩) ?_ ?_
    rotate_left
    ·intro w'
     go_simp
     with_reducible rfl
    rotate_left
    ·simp only [Act.put, List.setIfInBounds_toArray, List.set_cons_zero, List.set_cons_succ, i64_w, i32_w]
     rfl
    refine done_ (by kernel_rfl) ?_
    go_wp2
    go_ret
    exact ⟨by rw [HZ2.out]; rfl, ff.drew⟩
namespace PCl
def cluster_spread.f (l0 : List S27) (a1 : Int) : Option Int := if mayB l0 = true ∧ 0 ≤ a1 ∧ a1 < l0.length then some (spreadZ l0 a1.toNat) else none
theorem cluster_spread.calls (A0 : Option Addr) (c0 : Nat) (l0 : List S27) (a1 : Int) (r : Int) (w : World) (hr0 : Kd.C k27 w A0 l0.length l0) (hc0 : l0.length ≤ c0) (h : cluster_spread.f l0 a1 = some r) :
  Calls Tryz.prog 55 #[.slice A0 l0.length c0, .int .i64 a1] w fun e w' => e = .returned (.int .i64 r) ∧ Below w.heap.size w w' := by
 unfold cluster_spread.f at h
 split at h
 ·rename_i hw
  obtain rfl := Option.some.inj h
  obtain ⟨k, rfl⟩ := Int.eq_ofNat_of_zero_le hw.2.1
  rw [Int.toNat_natCast]
  exact (spread_at hr0 hc0 ((mayB_iff _).1 hw.1) (by omega)).mono fun _ _ q => ⟨q.1, q.2.below⟩
 ·cases h
end PCl
end Go.Proofs.YtapagoaoglmegaaGreat
end
