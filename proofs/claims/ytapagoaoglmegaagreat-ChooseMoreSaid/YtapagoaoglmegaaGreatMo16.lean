/- Texts of mine, joined by shake.py: MnPart, MnMean, EdOpen, EdFlat, ChColl. -/
import Derived.Deep.AppendLies
import Derived.Maps.AppendAt
import Derived.Test.YtapagoaoglmegaaGreatMo0
import Derived.Test.YtapagoaoglmegaaGreatMo7
import Derived.Test.YtapagoaoglmegaaGreatMo13
import Derived.Test.YtapagoaoglmegaaGreatMo14
import Derived.Test.YtapagoaoglmegaaGreatMo15
section
namespace Go.Proofs.YtapagoaoglmegaaGreat
open Go.RowKit Go.Shelf Go.Proofs.YtapagoaoglmegaaGreatW.PrintWords Go.Proofs.YtapagoaoglmegaaGreatW.PrintLast Go.Proofs.YtapagoaoglmegaaGreatW.PrintMore PCl
set_option linter.unusedVariables false
set_option linter.unusedSimpArgs false
set_option maxRecDepth 100000
theorem cdv_nat (p c : Nat) (hc : 0 < c) : p / c + (if 0 < p % c then 1 else 0) = (p + (c - 1)) / c := by
 have h := Nat.div_add_mod p c
 have hm := Nat.mod_lt p hc
 obtain ⟨q, hq⟩ : ∃ q, q = p / c := ⟨_, rfl⟩
 obtain ⟨r, hr⟩ : ∃ r, r = p % c := ⟨_, rfl⟩
 rw [← hq, ← hr] at h
 rw [← hr] at hm ⊢
 rw [← hq]
 by_cases h0 : 0 < r
 ·rw [if_pos h0]
  symm
  rw [Nat.div_eq_iff hc]
  have e : (q + 1) * c = c * q + c := by rw [Nat.add_mul, Nat.mul_comm]; omega
  rw [e]; omega
 ·rw [if_neg h0]
  symm
  rw [Nat.div_eq_iff hc]
  have e : (q + 0) * c = c * q := by rw [Nat.add_zero, Nat.mul_comm]
  rw [e]; omega
theorem quo_fit {a b c : Nat} (ha : a < 9223372036854775808) (hb : b ≤ c) (hc : 0 < c) (up : Bool) : quoZ a b c up = (((a * b / c + (if up = true ∧ 0 < a * b % c then 1 else 0) : Nat) : Int), 0) := by
 have h1 : a * b ≤ a * c := Nat.mul_le_mul_left a hb
 have h2 : a * c < 9223372036854775808 * c := Nat.mul_lt_mul_of_pos_right ha hc
 have h3 : ¬ c ≤ a * b / 18446744073709551616 := by
  intro h
  have := Nat.div_mul_le_self (a * b) 18446744073709551616
  have := Nat.mul_le_mul_right 18446744073709551616 h
  omega
 have h4 : a * b / c + (if up = true ∧ 0 < a * b % c then 1 else 0) ≤ a := by
  have h5 : a * b / c + (if 0 < a * b % c then 1 else 0) ≤ a := by
   rw [cdv_nat _ _ hc]
   apply Nat.lt_succ_iff.1
   rw [Nat.div_lt_iff_lt_mul hc, Nat.succ_mul]
   omega
  by_cases hu : up = true
  ·simpa [hu] using h5
  ·simp [hu]; omega
 unfold quoZ
 rw [if_neg h3, if_pos (by omega)]
theorem quo_dn {a b c : Int} (ha : 0 ≤ a ∧ a ≤ 4611686018427387904) (hb : 0 ≤ b ∧ b ≤ c) (hc : 0 < c) : quoZ a.toNat b.toNat c.toNat false = (a * b / c, 0) := by
 obtain ⟨A, rfl⟩ := Int.eq_ofNat_of_zero_le ha.1
 obtain ⟨B, rfl⟩ := Int.eq_ofNat_of_zero_le hb.1
 obtain ⟨C, rfl⟩ := Int.eq_ofNat_of_zero_le (show 0 ≤ c by omega)
 simp only [Int.toNat_natCast]
 rw [quo_fit (by omega) (by omega) (by omega)]
 simp
theorem quo_upp {a b c : Int} (ha : 0 ≤ a ∧ a ≤ 4611686018427387904) (hb : 0 ≤ b ∧ b ≤ c) (hc : 0 < c) : quoZ a.toNat b.toNat c.toNat true = (cdv (a * b) c, 0) := by
 obtain ⟨A, rfl⟩ := Int.eq_ofNat_of_zero_le ha.1
 obtain ⟨B, rfl⟩ := Int.eq_ofNat_of_zero_le hb.1
 obtain ⟨C, rfl⟩ := Int.eq_ofNat_of_zero_le (show 0 ≤ c by omega)
 simp only [Int.toNat_natCast]
 rw [quo_fit (by omega) (by omega) (by omega)]
 have e := cdv_nat (A * B) C (by omega)
 simp only [true_and]
 rw [e]
 unfold cdv
 congr 1
 have : (C : Int) - 1 = ((C - 1 : Nat) : Int) := by omega
 rw [this, Int.natCast_ediv, Int.natCast_add, Int.natCast_mul]
def pf2 (h : S25) (a : Int) (x : Int × Int) : Int := (x.1 - h.f1) * x.2 / a
def pf3 (m a : Int) (x : Int × Int) : Int := cdv (dist x.1 m * x.2) a
theorem part2_at {h : S25} {a : Int} {x : Int × Int} {Mh Ma : Nat} (hh : SpOk h) (hx : h.f1 ≤ x.1 ∧ x.1 ≤ h.f2) (hw : 0 ≤ x.2 ∧ x.2 ≤ a) (ha : 0 < a ∧ a ≤ 16777216) (hD : DivOk (x.1 - h.f1).toNat x.2.toNat a.toNat) {W : World} (hMh : AtS W Mh 0 h) (hMa : W.cell? ⟨Ma, 0, none⟩ = some (.int .i64 a)) :
  Calls Tryz.prog 60 (#[.int .i64 x.1, .int .i64 x.2] ++ #[.pointer (some ⟨Mh, 0, none⟩), .pointer (some ⟨Ma, 0, none⟩)]) W fun e w' => ∃ er : Int, e = .returned (.tuple #[.int .i64 (pf2 h a x), .int .i64 er]) ∧ Fr (fun _ => False) W w' := by
 have hh' := hh
 unfold SpOk Tm MT at hh'
 have HM := hidE (fun W => muldiv_at (a := (x.1 - h.f1).toNat) (b := x.2.toNat) (c := a.toNat) (by omega) (by omega) (by omega) (by omega) hD W)
 rw [quo_dn (by omega) hw ha.1] at HM
 rw [Int.toNat_of_nonneg (by omega), Int.toNat_of_nonneg hw.1, Int.toNat_of_nonneg (by omega)] at HM
 have e1 : IntKind.i64.wrap (x.1 - h.f1) = x.1 - h.f1 := IntWalk.i64_in _ (by omega)
 have e2 : wrap64 (x.1 - h.f1) = x.1 - h.f1 := IntWalk.wrap64_in _ (by omega)
 obtain ⟨c0, c1, c2⟩ := hMh
 clear hD hh hh'
 go_enter Tryz.func60, Tryz.ntmps60
 go_wp2_with fail
 refine (HM.out _).mono ?_
 rintro e w1 ⟨rfl, k1⟩
 go_wp2
 go_ret2
 exact ⟨_, rfl, k1⟩
theorem part3_at {h : S25} {m a : Int} {x : Int × Int} {Mm Ma : Nat} (hh : SpOk h) (hx : h.f1 ≤ x.1 ∧ x.1 ≤ h.f2) (hm : h.f1 ≤ m ∧ m ≤ h.f2) (hw : 0 ≤ x.2 ∧ x.2 ≤ a) (ha : 0 < a ∧ a ≤ 16777216) (hD : DivOk (dist x.1 m).toNat x.2.toNat a.toNat) {W : World} (hMm : W.cell? ⟨Mm, 0, none⟩ = some (.int .i64 m)) (hMa : W.cell? ⟨Ma, 0, none⟩ = some (.int .i64 a)) :
  Calls Tryz.prog 62 (#[.int .i64 x.1, .int .i64 x.2] ++ #[.pointer (some ⟨Mm, 0, none⟩), .pointer (some ⟨Ma, 0, none⟩)]) W fun e w' => ∃ er : Int, e = .returned (.tuple #[.int .i64 (pf3 m a x), .int .i64 er]) ∧ Fr (fun _ => False) W w' := by
 have hh' := hh
 unfold SpOk Tm MT at hh'
 have hd := dist_in (h := h) hx hm
 have HM := hidE (fun W => muldivup_at (a := (dist x.1 m).toNat) (b := x.2.toNat) (c := a.toNat) (by omega) (by omega) (by omega) (by omega) hD W)
 rw [quo_upp (by omega) hw ha.1] at HM
 rw [Int.toNat_of_nonneg hd.1, Int.toNat_of_nonneg hw.1, Int.toNat_of_nonneg (by omega)] at HM
 have HA : Hid (∀ W, Calls Tryz.prog 64 #[.int .i64 (x.1 - m)] W fun e w' => e = .returned (.int .i64 (dist x.1 m)) ∧ Fr (fun _ => False) W w') := hidE (fun W => abs_at (x.1 - m) (by omega) (by omega) W)
 have e1 : IntKind.i64.wrap (x.1 - m) = x.1 - m := IntWalk.i64_in _ (by omega)
 have e2 : wrap64 (x.1 - m) = x.1 - m := IntWalk.wrap64_in _ (by omega)
 have lm := World.block_lt_of_cell? W _ hMm
 have la := World.block_lt_of_cell? W _ hMa
 clear hD hh hh' hd
 go_enter Tryz.func62, Tryz.ntmps62
 go_wp2_with fail
 have msd : W.drew.cell? ⟨Mm, 0, none⟩ = some (.int .i64 m) ∧ W.drew.cell? ⟨Ma, 0, none⟩ = some (.int .i64 a) ∧ Fr (fun _ => False) W W.drew := ⟨hMm, hMa, Fr.drew (Fr.refl _ _)⟩
 refine start_ (n := 11) (S := fun w' => w'.cell? ⟨Mm, 0, none⟩ = some (.int .i64 m) ∧ w'.cell? ⟨Ma, 0, none⟩ = some (.int .i64 a) ∧ Fr (fun _ => False) W w') (ds := []) #[oN,oN,oN,oN,oN,oN,oN,oN,oN,oN,oN] (by kernel_rfl) rfl rfl ⟨msd.1, msd.2.1, msd.2.2⟩ (fun hHeld => ?_)
 refine pure_ (i := 0) (N := some 8) (v := ?_) (a' := ?_) #[oY,oN,oN,oN,oN,oN,oN,oN,oN,oN,oN] rfl rfl (by kernel_rfl) (fun _ _ _ h => h) (Or.inl ⟨by rfl, ?_⟩) ?_ ?_
 rotate_left
 ·intro w'
  go_simp
  with_reducible rfl
 rotate_left
 ·simp only [Act.put, List.setIfInBounds_toArray, List.set_cons_zero, List.set_cons_succ, i64_w, i32_w]
  rfl
 refine pure_ (i := 4) (N := some 12) (v := ?_) (a' := ?_) #[oY,oN,oN,oN,oY,oN,oN,oN,oN,oN,oN] rfl rfl (by kernel_rfl) (fun _ _ _ h => h) (Or.inl ⟨by rfl, ?_⟩) ?_ ?_
 rotate_left
 ·intro w'
  go_simp
  with_reducible rfl
 rotate_left
 ·simp only [Act.put, List.setIfInBounds_toArray, List.set_cons_zero, List.set_cons_succ, i64_w, i32_w]
  rfl
 refine take_ (i := 1) (N := some 9) (v := ?_) (a' := ?_) #[oY,oY,oN,oN,oY,oN,oN,oN,oN,oN,oN] rfl rfl (by kernel_rfl) (fun _ _ _ h => h) (Or.inl ⟨by rfl, ?_⟩) hHeld ?_ ?_
 rotate_left
 ·rintro w' ⟨s0, s1, s2⟩
  go_simp
  with_reducible rfl
 rotate_left
 ·simp only [Act.put, List.setIfInBounds_toArray, List.set_cons_zero, List.set_cons_succ, i64_w, i32_w]
  rfl
 refine pure_ (i := 2) (N := some 10) (v := ?_) (a' := ?_) #[oY,oY,oY,oN,oY,oN,oN,oN,oN,oN,oN] rfl rfl (by kernel_rfl) (fun _ _ _ h => h) (Or.inl ⟨by rfl, ?_⟩) ?_ ?_
 rotate_left
 ·intro w'
  go_simp
  with_reducible rfl
 rotate_left
 ·simp only [Act.put, List.setIfInBounds_toArray, List.set_cons_zero, List.set_cons_succ, i64_w, i32_w]
  rfl
 refine take_ (i := 5) (N := some 13) (v := ?_) (a' := ?_) #[oY,oY,oY,oN,oY,oY,oN,oN,oN,oN,oN] rfl rfl (by kernel_rfl) (fun _ _ _ h => h) (Or.inl ⟨by rfl, ?_⟩) hHeld ?_ ?_
 rotate_left
 ·rintro w' ⟨s0, s1, s2⟩
  go_simp
  with_reducible rfl
 rotate_left
 ·simp only [Act.put, List.setIfInBounds_toArray, List.set_cons_zero, List.set_cons_succ, i64_w, i32_w]
  rfl
 refine one_ (i := 3) (N := some 11) #[oY,oY,oY,oY,oY,oY,oN,oN,oN,oN,oN] rfl rfl (by kernel_rfl) (by decide) (fun K hK => ?_)
 refine goes_ Tryz.func64 (by kernel_rfl) rfl #[.int .i64 (x.1 - m)] (by rfl) rfl rfl (by simp only [List.map_toArray, List.map_cons, List.map_nil]; rfl) ?_
 refine (HA.out _).mono ?_
 rintro e w5 ⟨rfl, k5⟩
 refine ⟨_, rfl, ?_⟩
 have ms5 : w5.cell? ⟨Mm, 0, none⟩ = some (.int .i64 m) ∧ w5.cell? ⟨Ma, 0, none⟩ = some (.int .i64 a) ∧ Fr (fun _ => False) W w5 := ⟨(k5.cell (a := ⟨Mm, 0, none⟩) lm (fun h => h)).trans hMm, (k5.cell (a := ⟨Ma, 0, none⟩) la (fun h => h)).trans hMa, Fr.trans (Fr.drew (Fr.refl _ _)) k5 (fun _ _ h => h)⟩
 refine hK.out _ _ ⟨ms5.1, ms5.2.1, ms5.2.2⟩ (fun hHeld => ?_)
 clear hK K
 refine norm_ (a' := ?_) ?_ ?_
 rotate_left
 ·show Act.put _ (some 11) _ = _
  simp only [Act.put, List.setIfInBounds_toArray, List.set_cons_zero, List.set_cons_succ, i64_w, i32_w]
  rfl
 refine one_ (i := 6) (N := some 14) #[oY,oY,oY,oY,oY,oY,oY,oN,oN,oN,oN] rfl rfl (by kernel_rfl) (by decide) (fun K hK => ?_)
 refine goes_ Tryz.func63 (by kernel_rfl) rfl #[.int .i64 (dist x.1 m), .int .i64 x.2, .int .i64 a] (by rfl) rfl rfl (by simp only [List.map_toArray, List.map_cons, List.map_nil]; rfl) ?_
 refine (HM.out _).mono ?_
 rintro e w6 ⟨rfl, k6⟩
 refine ⟨_, rfl, ?_⟩
 have ms6 : w6.cell? ⟨Mm, 0, none⟩ = some (.int .i64 m) ∧ w6.cell? ⟨Ma, 0, none⟩ = some (.int .i64 a) ∧ Fr (fun _ => False) W w6 := ⟨(k6.cell (a := ⟨Mm, 0, none⟩) (ms5.2.2.lt lm) (fun h => h)).trans ms5.1, (k6.cell (a := ⟨Ma, 0, none⟩) (ms5.2.2.lt la) (fun h => h)).trans ms5.2.1, ms5.2.2.trans k6 (fun _ _ h => h)⟩
 refine hK.out _ _ ⟨ms6.1, ms6.2.1, ms6.2.2⟩ (fun hHeld => ?_)
 clear hK K
 refine norm_ (a' := ?_) ?_ ?_
 rotate_left
 ·show Act.put _ (some 14) _ = _
  simp only [Act.put, List.setIfInBounds_toArray, List.set_cons_zero, List.set_cons_succ, i64_w, i32_w]
  rfl
 refine pure_ (i := 7) (N := some 15) (v := ?_) (a' := ?_) #[oY,oY,oY,oY,oY,oY,oY,oY,oN,oN,oN] rfl rfl (by kernel_rfl) (fun _ _ _ h => h) (Or.inl ⟨by rfl, ?_⟩) ?_ ?_
 rotate_left
 ·intro w'
  go_simp
  with_reducible rfl
 rotate_left
 ·simp only [Act.put, List.setIfInBounds_toArray, List.set_cons_zero, List.set_cons_succ, i64_w, i32_w]
  rfl
 refine pure_ (i := 8) (N := some 16) (v := ?_) (a' := ?_) #[oY,oY,oY,oY,oY,oY,oY,oY,oY,oN,oN] rfl rfl (by kernel_rfl) (fun _ _ _ h => h) (Or.inl ⟨by rfl, ?_⟩) ?_ ?_
 rotate_left
 ·intro w'
  go_simp
  with_reducible rfl
 rotate_left
 ·simp only [Act.put, List.setIfInBounds_toArray, List.set_cons_zero, List.set_cons_succ, i64_w, i32_w]
  rfl
 refine pure_ (i := 9) (N := some 6) (v := ?_) (a' := ?_) #[oY,oY,oY,oY,oY,oY,oY,oY,oY,oY,oN] rfl rfl (by kernel_rfl) (fun _ _ _ h => h) (Or.inl ⟨by rfl, ?_⟩) ?_ ?_
 rotate_left
 ·intro w'
  go_simp
  with_reducible rfl
 rotate_left
 ·simp only [Act.put, List.setIfInBounds_toArray, List.set_cons_zero, List.set_cons_succ, i64_w, i32_w]
  rfl
 refine pure_ (i := 10) (N := some 7) (v := ?_) (a' := ?_) #[oY,oY,oY,oY,oY,oY,oY,oY,oY,oY,oY] rfl rfl (by kernel_rfl) (fun _ _ _ h => h) (Or.inl ⟨by rfl, ?_⟩) ?_ ?_
 rotate_left
 ·intro w'
  go_simp
  with_reducible rfl
 rotate_left
 ·simp only [Act.put, List.setIfInBounds_toArray, List.set_cons_zero, List.set_cons_succ, i64_w, i32_w]
  rfl
 refine done_ (by kernel_rfl) ?_
 go_wp2
 go_ret2
 exact ⟨_, rfl, hHeld.2.2⟩
end Go.Proofs.YtapagoaoglmegaaGreat
namespace Go.Proofs.YtapagoaoglmegaaGreat
open Go.RowKit Go.Shelf Go.Proofs.YtapagoaoglmegaaGreatW.PrintWords Go.Proofs.YtapagoaoglmegaaGreatW.PrintLast Go.Proofs.YtapagoaoglmegaaGreatW.PrintMore PCl
attribute [local go_sem] Oper.semAt_some
set_option linter.unusedVariables false
set_option linter.unusedSimpArgs false
set_option maxRecDepth 100000
theorem kc_own {β : Type} (B : Nat) (W0 : World) : Own (fun (_ : β) W => KC B W0 W) := fun s X Y row hs hg hrow => ⟨Nat.le_trans hs.1 hg.size, fun k o hk ho hn => by
  have hX := hs.2 k o hk ho hn
  refine (hg.block k (Array.getElem?_eq_some_iff.1 hX).1 (fun e => ?_)).trans hX
  obtain ⟨u, hu, hc⟩ := hrow k e.symm
  rw [hX] at hu; cases hu; rw [ho] at hc; cases hc⟩
theorem ms_all (L : List S25) (h : S25) : ((msZ L h).map (fun x => x.2)).sum = allZ L := by
  unfold msZ allZ wtsZ; rw [List.map_map]; rfl
theorem sum_nn {α : Type} (f : α → Int) : ∀ (l : List α), (∀ x ∈ l, 0 ≤ f x) → 0 ≤ (l.map f).sum ∧ ∀ k, 0 ≤ ((l.take k).map f).sum ∧ ((l.take k).map f).sum ≤ (l.map f).sum
  | [], _ => by simp
  | a :: l, h => by
    obtain ⟨h1, h2⟩ := sum_nn f l (fun x hx => h x (List.mem_cons_of_mem _ hx))
    have h3 := h a List.mem_cons_self
    refine ⟨by simp only [List.map_cons, List.sum_cons]; omega, fun k => ?_⟩
    cases k with
    | zero => simp only [List.take_zero, List.map_nil, List.sum_nil, List.map_cons, List.sum_cons]; omega
    | succ k =>
      have := h2 k
      simp only [List.take_succ_cons, List.map_cons, List.sum_cons]; omega
theorem ms_mem {L : List S25} {h : S25} {x : Int × Int} (hx : x ∈ msZ L h) : ∃ s ∈ L, x = (mdZ h s, wtZ (wideZ L) s) := by
  obtain ⟨s, hs, rfl⟩ := List.mem_map.1 hx
  exact ⟨s, hs, rfl⟩
theorem ms_part (L : List S25) (h : S25) : ((msZ L h).map (pf2 h (allZ L))).sum = (L.map (partZ L h)).sum := by
  unfold msZ; rw [List.map_map]; rfl
theorem ms_jit (L : List S25) (h : S25) : ((msZ L h).map (pf3 (meanZ L h) (allZ L))).sum = jitZ L h := by
  unfold msZ jitZ; rw [List.map_map]; rfl
theorem cdv_le (p n : Int) (hn : 0 < n) : cdv p n ≤ p / n + 1 := by
  unfold cdv
  have h1 : (p + (n - 1)) / n < p / n + 2 := by
    apply (Int.ediv_lt_iff_lt_mul hn).2
    have := Int.emod_lt_of_pos p hn
    have := Int.emod_add_mul_ediv p n
    rw [Int.add_mul, Int.mul_comm (p / n) n]
    omega
  omega
theorem jit_bd {L : List S25} {h : S25} (hl : ∀ s ∈ L, SpOk s) (hh : SpOk h) (h0 : 0 < L.length) : 0 ≤ jitZ L h ∧ jitZ L h ≤ h.f2 - h.f1 + L.length := by
  have hA := all_bd hl h0
  have hm := mean_in hl hh h0
  have h1 := (sum_nn (jpartZ L h (meanZ L h)) L (fun s hs => (jpart_in hl hh hm hs).1)).1
  refine ⟨h1, ?_⟩
  have h2 := sum_div (allZ L) (by omega) (fun s => dist (mdZ h s) (meanZ L h) * wtZ (wideZ L) s) L
  have h3 := sum_mul_le (h.f2 - h.f1) (fun s => dist (mdZ h s) (meanZ L h)) (wtZ (wideZ L)) L (fun s hs => ⟨by have := dist_in (md_in hh s) hm; exact this.2, by have := wt_in hl hs; omega⟩)
  have h4 : (L.map (fun s => dist (mdZ h s) (meanZ L h) * wtZ (wideZ L) s)).sum / allZ L ≤ h.f2 - h.f1 := by
    have e : (L.map (wtZ (wideZ L))).sum = allZ L := rfl
    rw [e] at h3
    have := Int.ediv_le_ediv (a := (L.map (fun s => dist (mdZ h s) (meanZ L h) * wtZ (wideZ L) s)).sum) (c := allZ L) (by omega) h3
    rw [Int.mul_ediv_cancel _ (by omega)] at this
    exact this
  have h5 : ∀ l : List S25, (l.map (jpartZ L h (meanZ L h))).sum ≤ (l.map (fun s => (dist (mdZ h s) (meanZ L h) * wtZ (wideZ L) s) / allZ L)).sum + l.length := by
    intro l
    induction l with
    | nil => simp
    | cons a l ih =>
      simp only [List.map_cons, List.sum_cons, List.length_cons]
      have := cdv_le (dist (mdZ h a) (meanZ L h) * wtZ (wideZ L) a) (allZ L) (by omega)
      unfold jpartZ at ih ⊢
      omega
  have h6 := h5 L
  unfold jitZ
  omega
theorem at_fr {w w' : World} {b i : Nat} {v : Value} (k : Below w.heap.size w w') (h : w.cell? ⟨b, i, none⟩ = some v) : w'.cell? ⟨b, i, none⟩ = some v :=
  ((Fr.of_below k (Nat.le_refl _) (fun _ => False)).cell (a := ⟨b, i, none⟩) (World.block_lt_of_cell? w _ h) (fun h => h)).trans h
def MeanQ (W : World) (M : Int) (A : Nat → Act) : Exit → Act → World → Prop
  | .normal, a', W' => ∃ Bm, a' = A Bm ∧ W.heap.size ≤ Bm ∧ W'.cell? ⟨Bm, 0, none⟩ = some (.int .i64 M) ∧ Fr (fun _ => False) W W'
  | _, _, _ => False
theorem MeanQ.out {W : World} {M : Int} {A : Nat → Act} {e : Exit} {a' : Act} {W' : World} (h : MeanQ W M A e a' W') :
    e = .normal ∧ ∃ Bm, a' = A Bm ∧ W.heap.size ≤ Bm ∧ W'.cell? ⟨Bm, 0, none⟩ = some (.int .i64 M) ∧ Fr (fun _ => False) W W' := by
  cases e with
  | normal => exact ⟨rfl, h⟩
  | _ => exact h.elim
set_option maxHeartbeats 8000000 in
theorem mean_at {w : World} {A : Option Addr} {cap : Nat} {L : List S25} {h : S25} (hC : Kd.C k25 w A L.length L) (hc : L.length ≤ cap) (h0 : 0 < L.length) (h16 : L.length ≤ 16) (hl : ∀ s ∈ L, SpOk s) (hh : SpOk h)
    (hD : ∀ s ∈ L, DivOk (wideZ L).toNat 1024 (brZ s).toNat) (hD2 : ∀ s ∈ L, DivOk (mdZ h s - h.f1).toNat (wtZ (wideZ L) s).toNat (allZ L).toNat) (hD3 : ∀ s ∈ L, DivOk (dist (mdZ h s) (meanZ L h)).toNat (wtZ (wideZ L) s).toNat (allZ L).toNat) :
    Calls Tryz.prog 28 #[.slice A L.length cap, vS h] w fun e w' => e = .returned (.tuple #[.int .i64 (meanZ L h), .int .i64 (jitZ L h), .int .i64 0]) ∧ Fr (fun _ => False) w w' := by
  have HC := hidE hC
  have HL := hidE hl
  have HH := hidE hh
  have HD1 := hidE hD
  have HD2 := hidE hD2
  have HD3 := hidE hD3
  obtain ⟨r, off, rfl, hr, _⟩ := C25_open hC h0
  have t0 : decide ((L.length : Int) > 16) = false := decide_eq_false (by omega)
  have t1 : ((L.length : Int) == 0) = false := beq_eq_false_iff_ne.2 (by omega)
  have t2 : decide (SpOk h) = true := decide_eq_true hh
  clear hC hl hD hD2 hD3
  refine (callsIn_wide (n := 8)).1 ?_
  refine callsIn_of_wp_marks Tryz.func28 rfl trivial ?_ rfl
  simp only [Tryz.ntmps28, List.size_toArray, List.length_cons, List.length_nil, Nat.reduceAdd, Nat.reduceSub, Array.replicate_succ, Array.replicate_zero, List.push_toArray, List.append_toArray, List.nil_append, List.cons_append]
  gi_wp2_with fail
  generalize hW : World.alloc (World.alloc w _) _ = W2
  have bL : Blk W2 w.heap.size #[.slice (some ⟨r, off, none⟩) L.length cap] 66 := by subst hW; (repeat' (first | (with_reducible assumption) | (with_reducible apply Blk.drew) | (with_reducible apply Blk.drewN) | (with_reducible apply Blk.set) | (with_reducible apply Blk.other) | (exact Blk.new' _ _ _ (by first | rfl | (simp; done) | (simp; omega))) | (with_reducible apply Blk.alloc) | (with_reducible rfl) | (simp; done) | (simp; omega) | omega | rfl))
  have bH : Blk W2 (w.heap.size + 1) #[.int .i64 h.f0, .int .i64 h.f1, .int .i64 h.f2] 25 := by subst hW; (repeat' (first | (with_reducible assumption) | (with_reducible apply Blk.drew) | (with_reducible apply Blk.drewN) | (with_reducible apply Blk.set) | (with_reducible apply Blk.other) | (exact Blk.new' _ _ _ (by first | rfl | (simp; done) | (simp; omega))) | (with_reducible apply Blk.alloc) | (with_reducible rfl) | (simp; done) | (simp; omega) | omega | rfl))
  have f2 : Fr (fun _ => False) w W2 := by subst hW; (repeat' (first | (with_reducible exact Fr.refl _ _) | (with_reducible assumption) | (with_reducible refine Fr.alloc ?_ _) | (with_reducible refine Fr.drew ?_) | (with_reducible refine Fr.drewN ?_ _) | (with_reducible refine Fr.setCell ?_ _ _ ?_) | (exact Or.inr rfl) | (left; simp; done) | (left; simp; omega) | (simp; done) | (simp; omega) | omega))
  have hs2 : W2.heap.size = w.heap.size + 2 := by subst hW; simp
  clear hW
  refine ⟨trivial, ?_⟩
  gi_at_call 57
  refine (callsIn_wide.2 (cmay_at (Kd.C_below HC.out f2.below) hc h0 HL.out)).mono ?_
  rintro e W3 ⟨rfl, k3⟩
  replace bL := bL.fr k3 (fun h => h)
  replace bH := bH.fr k3 (fun h => h)
  have f3 := f2.trans k3 (fun _ _ h => h)
  have c0 := bH.cell 0
  have c1 := bH.cell 1
  have c2 := bH.cell 2
  have c3 := bL.cell 0
  simp at c0 c1 c2 c3
  have l0 := bL.lt
  have l1 := bH.lt
  have hs3 := k3.size
  clear f2 k3
  gi_wp2_with fail
  refine ⟨trivial, ?_⟩
  gi_at_call 35
  refine (callsIn_wide.2 (spmay_at h W3)).mono ?_
  rw [t2]
  rintro e W4 ⟨rfl, k4⟩
  replace bL := bL.fr k4 (fun h => h)
  replace bH := bH.fr k4 (fun h => h)
  have f4 := f3.trans k4 (fun _ _ h => h)
  clear c0 c1 c2 c3 l0 l1
  have c0 := bH.cell 0
  have c1 := bH.cell 1
  have c2 := bH.cell 2
  have c3 := bL.cell 0
  simp at c0 c1 c2 c3
  have l0 := bL.lt
  have l1 := bH.lt
  have hs4 := k4.size
  clear f3 k4
  gi_wp2_with fail
  generalize hW : World.alloc W4 _ = W5
  obtain ⟨tA, bA⟩ : ∃ t, Boxed W5 W4.heap.size t (.int .i64 0) := ⟨_, by subst hW; exact Boxed.new _ _ _⟩
  have f5 : Fr (fun _ => False) W4 W5 := by subst hW; (repeat' (first | (with_reducible exact Fr.refl _ _) | (with_reducible assumption) | (with_reducible refine Fr.alloc ?_ _) | (with_reducible refine Fr.drew ?_) | (with_reducible refine Fr.drewN ?_ _) | (with_reducible refine Fr.setCell ?_ _ _ ?_) | (exact Or.inr rfl) | (left; simp; done) | (left; simp; omega) | (simp; done) | (simp; omega) | omega))
  have hs5 : W5.heap.size = W4.heap.size + 1 := by subst hW; simp
  clear hW
  refine ⟨trivial, ?_⟩
  gi_at_call 58
  refine (callsIn_wide.2 (middles_at 0)).mono ?_
  rintro e W6 ⟨Bl, Bh, rfl, hBl, hBh, hcl, hch, k6⟩
  replace bL := (bL.fr f5 (fun h => h)).fr k6 (fun h => h)
  replace bH := (bH.fr f5 (fun h => h)).fr k6 (fun h => h)
  have bA6 := boxed_fr bA k6 (fun h => h)
  have F6 := (f4.trans f5 (fun _ _ h => h)).trans k6 (fun _ _ h => h)
  have hs6 := k6.size
  have HS6 := hidE (mids_stops 7 (by omega) (Bc := W4.heap.size) hcl hch (by omega) (by omega) (Kd.C_below HC.out F6.below) (fun r' off' e => by injection e with e; injection e with e1 e2; omega) hc h0 h16 HL.out HD1.out (by omega))
  have BL := hidE bL
  have BH := hidE bH
  clear bA k6 f5 c0 c1 c2 c3 bL bH f4 hcl hch l0 l1
  gi_wp2_with fail
  refine wpIn_rangeFunc_ownF (n := 8) (w := W6) rfl (by omega) (gf := 106) (lb := #[.pointer (some ⟨Bl, 0, none⟩), .pointer (some ⟨Bh, 0, none⟩)]) rfl trivial (enters_of Tryz.func106 (by kernel_rfl) rfl)
    HS6.out (fun h k => h.trans k) (fun W l o o' _ h ho _ => KC.putObj W l o o' h ho) (Below.refl _ _) (fun _ => rfl)
    (fun pre W => (Boxed W W4.heap.size tA (.int .i64 (sumW (fun x : MsT L h => x.1.2) pre)) ∧ KC W4.heap.size W6 W) ∧ Below w.heap.size w W)
    (fun _ _ _ => False)
    (OwnFrom.and (Own.from (fun s A B row hs hg hr => ⟨boxed_own (β := Unit) _ _ (fun _ => _) () A B row hs.1 hg hr, kc_own (β := Unit) _ _ () A B row hs.2 hg hr⟩) _) (ownFrom_below (Nat.le_refl _) (by omega)))
    (fun _ _ _ _ _ hs _ _ => hs)
    ⟨⟨bA6, KC.refl _ _⟩, F6.below⟩
    (fun x => { tmps := #[.slice (some ⟨r, off, none⟩) L.length cap, vS h, .pointer (some ⟨w.heap.size, 0, none⟩), .pointer (some ⟨w.heap.size + 1, 0, none⟩), .int .i64 0, .int .i64 0, .int .i64 0, .pointer (some ⟨W4.heap.size, 0, none⟩), undef, .int .i64 x.1.2, undef, undef, undef, .bool false, .slice (some ⟨r, off, none⟩) L.length cap, .int .i64 (L.length : Int), .bool false, .bool false, .slice (some ⟨r, off, none⟩) L.length cap, .bool true, .bool false, .bool false, .bool false, .agg #[.int .i64 h.f0, .int .i64 h.f1, .int .i64 h.f2], .bool true, .bool false, .bool false, .bool false, .slice (some ⟨r, off, none⟩) L.length cap, .int .i64 (L.length : Int), .bool false, .slice (some ⟨r, off, none⟩) L.length cap, .agg #[.int .i64 h.f0, .int .i64 h.f1, .int .i64 h.f2], .func (.func 106) #[] #[.pointer (some ⟨Bl, 0, none⟩), .pointer (some ⟨Bh, 0, none⟩)], .int .i64 x.1.1, .int .i64 x.1.2, undef, undef, undef, undef, undef, undef, undef, undef, undef, undef, undef, undef, undef, undef, undef], defers := [] }) ?assign ?body ?done ?stop
  case assign =>
    intro l x W K hK
    gi_wp2
    exact hK
  case body =>
    rintro l pre x W ⟨⟨hs, hkc⟩, hB⟩ _
    have cs := hs.cell
    have fz := hs.frozen
    have lt := hs.lt
    gi_wp2
    exact ⟨KeepsOthers.setCell _ _ _, (KC.refl _ _).set _, ⟨by rw [sumW_snoc]; exact hs.set _, hkc.set _⟩, hB.setCell (p := ⟨W4.heap.size, 0, none⟩) (by simp; omega) _⟩
  case done =>
    rintro D ys W hD rfl ⟨⟨hs, hkc⟩, hB⟩ hK
    have hall : sumW (fun x : MsT L h => x.1.2) (msZ L h).attach = allZ L := by
      rw [sumW_attach (fun x => x.2) (fun k hk => ?_), ms_all]
      obtain ⟨q1, q2⟩ := (sum_nn (fun x : Int × Int => x.2) (msZ L h) (fun x hx => by obtain ⟨s, hs, rfl⟩ := ms_mem hx; have := wt_in HL.out hs; show 0 ≤ wtZ (wideZ L) s; omega)).2 k
      have := all_bd HL.out h0
      rw [ms_all] at q2
      omega
    rw [hall] at hs
    have hAl := all_bd HL.out h0
    have hme := mean_in HL.out hh h0
    have hjb := jit_bd HL.out hh h0
    have hS2 : h.f1 + ((msZ L h).map (pf2 h (allZ L))).sum = meanZ L h := by rw [ms_part]; rfl
    have hJ := ms_jit L h
    have hhb := hh
    unfold SpOk Tm MT at hhb
    have c3 := hkc.cell (BL.out.cell 0) (by omega)
    have c0 := hkc.cell (BH.out.cell 0) (by omega)
    have c1 := hkc.cell (BH.out.cell 1) (by omega)
    have c2 := hkc.cell (BH.out.cell 2) (by omega)
    have cA := hs.cell
    simp at c0 c1 c2 c3
    have FW : Fr (fun _ => False) w W := Fr.of_below hB (Nat.le_refl _) _
    have HX : Hid (∀ x : MsT L h, (h.f1 ≤ x.1.1 ∧ x.1.1 ≤ h.f2) ∧ (0 ≤ x.1.2 ∧ x.1.2 ≤ allZ L) ∧ DivOk (x.1.1 - h.f1).toNat x.1.2.toNat (allZ L).toNat ∧ DivOk (dist x.1.1 (meanZ L h)).toNat x.1.2.toNat (allZ L).toNat) := hidE (fun x => by
      obtain ⟨s, hs, e⟩ := ms_mem x.2
      rw [e]
      have := wt_in HL.out hs
      exact ⟨md_in hh s, ⟨by show 0 ≤ wtZ (wideZ L) s; omega, all_in HL.out hs⟩, HD2.out s hs, HD3.out s hs⟩)
    have HAdd : Hid (∀ W', Fr (fun _ => False) W W' → Calls Tryz.prog 59 #[.func (.func 60) #[] #[.pointer (some ⟨w.heap.size + 1, 0, none⟩), .pointer (some ⟨W4.heap.size, 0, none⟩)], .pointer (some ⟨w.heap.size, 0, none⟩), .pointer (some ⟨w.heap.size + 1, 0, none⟩)] W' fun e w' => e = .returned (.int .i64 ((msZ L h).map (pf2 h (allZ L))).sum) ∧ Fr (fun _ => False) W' w') := hidE (fun W' k => by
      have kb := k.below
      refine added_at (pf2 h (allZ L)) (enters_of Tryz.func60 (by kernel_rfl) rfl) (fun x W'' hb => ?_) (at_fr kb c3) ⟨at_fr kb c0, at_fr kb c1, at_fr kb c2⟩ (Kd.C_below HC.out (FW.trans k (fun _ _ h => h)).below) hc h0 h16 HL.out HD1.out (fun k hk => ?_)
      · obtain ⟨x1, x2, x3, _⟩ := HX.out x
        exact part2_at hh x1 x2 (by omega) x3 ⟨at_fr hb (at_fr kb c0), at_fr hb (at_fr kb c1), at_fr hb (at_fr kb c2)⟩ (at_fr hb (at_fr kb cA))
      · obtain ⟨q1, q2⟩ := (sum_nn (pf2 h (allZ L)) (msZ L h) (fun x hx => by obtain ⟨s, hs, rfl⟩ := ms_mem hx; exact (part_in HL.out hh hs).1)).2 k
        omega)
    have HAdd3 : Hid (∀ W' Bm, Fr (fun _ => False) W W' → W'.cell? ⟨Bm, 0, none⟩ = some (.int .i64 (meanZ L h)) → Calls Tryz.prog 59 #[.func (.func 62) #[] #[.pointer (some ⟨Bm, 0, none⟩), .pointer (some ⟨W4.heap.size, 0, none⟩)], .pointer (some ⟨w.heap.size, 0, none⟩), .pointer (some ⟨w.heap.size + 1, 0, none⟩)] W' fun e w' => e = .returned (.int .i64 (jitZ L h)) ∧ Fr (fun _ => False) W' w') := hidE (fun W' Bm k hBm => by
      have kb := k.below
      rw [← hJ]
      refine added_at (pf3 (meanZ L h) (allZ L)) (enters_of Tryz.func62 (by kernel_rfl) rfl) (fun x W'' hb => ?_) (at_fr kb c3) ⟨at_fr kb c0, at_fr kb c1, at_fr kb c2⟩ (Kd.C_below HC.out (FW.trans k (fun _ _ h => h)).below) hc h0 h16 HL.out HD1.out (fun k hk => ?_)
      · obtain ⟨x1, x2, _, x3⟩ := HX.out x
        exact part3_at hh x1 hme x2 (by omega) x3 (at_fr hb hBm) (at_fr hb (at_fr kb cA))
      · obtain ⟨q1, q2⟩ := (sum_nn (pf3 (meanZ L h) (allZ L)) (msZ L h) (fun x hx => by obtain ⟨s, hs, rfl⟩ := ms_mem hx; exact (jpart_in HL.out hh hme hs).1)).2 k
        rw [hJ] at q2
        omega)
    have l1 : w.heap.size + 1 < W.heap.size := World.block_lt_of_cell? W _ c1
    have HA1 : Hid (Calls Tryz.prog 59 #[.func (.func 60) #[] #[.pointer (some ⟨w.heap.size + 1, 0, none⟩), .pointer (some ⟨W4.heap.size, 0, none⟩)], .pointer (some ⟨w.heap.size, 0, none⟩), .pointer (some ⟨w.heap.size + 1, 0, none⟩)] (W.alloc (.cells #[.int .i64 0] 2)).drew fun e W8 => e = .returned (.int .i64 ((msZ L h).map (pf2 h (allZ L))).sum) ∧ W8.cell? ⟨w.heap.size + 1, 1, none⟩ = some (.int .i64 h.f1) ∧ Boxed W8 W.heap.size 2 (.int .i64 0) ∧ Fr (fun _ => False) W W8) := hidE (by
      have k0 : Fr (fun _ => False) W (W.alloc (.cells #[.int .i64 0] 2)).drew := ((Fr.refl _ W).alloc _).drew
      have b0 : Boxed (W.alloc (.cells #[.int .i64 0] 2)).drew W.heap.size 2 (.int .i64 0) := Boxed.new W _ _
      refine (HAdd.out _ k0).mono ?_
      rintro e W8 ⟨rfl, k8⟩
      have k := k0.trans k8 (fun _ _ h => h)
      exact ⟨rfl, at_fr k.below c1, boxed_fr b0 k8 (fun h => h), k⟩)
    have HA2 : Hid (Calls Tryz.prog 59 #[.func (.func 60) #[] #[.pointer (some ⟨w.heap.size + 1, 0, none⟩), .pointer (some ⟨W4.heap.size, 0, none⟩)], .pointer (some ⟨w.heap.size, 0, none⟩), .pointer (some ⟨w.heap.size + 1, 0, none⟩)] W.drew fun e W8 => e = .returned (.int .i64 ((msZ L h).map (pf2 h (allZ L))).sum) ∧ W8.cell? ⟨w.heap.size + 1, 1, none⟩ = some (.int .i64 h.f1) ∧ W.heap.size ≤ W8.heap.size ∧ Fr (fun _ => False) W W8) := hidE (by
      refine (HAdd.out _ (Fr.refl _ W).drew).mono ?_
      rintro e W8 ⟨rfl, k8⟩
      have k := (Fr.refl (fun _ => False) W).drew.trans k8 (fun _ _ h => h)
      exact ⟨rfl, at_fr k.below c1, k.size, k⟩)
    obtain ⟨S2, hS⟩ : ∃ S2, S2 = ((msZ L h).map (pf2 h (allZ L))).sum := ⟨_, rfl⟩
    rw [← hS] at HA1 HA2 hS2
    clear HAdd
    have e1 : IntKind.i64.wrap (h.f1 + S2) = meanZ L h := by rw [hS2]; exact IntWalk.i64_in _ (by omega)
    have e2 : wrap64 (h.f1 + S2) = meanZ L h := by rw [hS2]; exact IntWalk.wrap64_in _ (by omega)
    have HHK := hidE hK
    clear hall hs hkc hjb hJ hS hK hS2
    obtain ⟨M, hM⟩ : ∃ M, M = meanZ L h := ⟨_, rfl⟩
    rw [← hM] at e1 e2 HAdd3
    have HMe := hidE hM
    clear hM hme HX
    have hmx : Tryz.prog.follows .mixedOrders = true := by kernel_rfl
    gi_wp2_with fail
    refine wpIn_mono (Q := MeanQ W M (fun Bm => { tmps := #[.slice (some ⟨r, off, none⟩) L.length cap, vS h, .pointer (some ⟨w.heap.size, 0, none⟩), .pointer (some ⟨w.heap.size + 1, 0, none⟩), .int .i64 0, .int .i64 0, .int .i64 0, .pointer (some ⟨W4.heap.size, 0, none⟩), undef, undef, .func (.func 59) #[] #[.pointer (some ⟨w.heap.size, 0, none⟩), .pointer (some ⟨w.heap.size + 1, 0, none⟩)], .pointer (some ⟨Bm, 0, none⟩), undef, .bool false, .slice (some ⟨r, off, none⟩) L.length cap, .int .i64 (L.length : Int), .bool false, .bool false, .slice (some ⟨r, off, none⟩) L.length cap, .bool true, .bool false, .bool false, .bool false, .agg #[.int .i64 h.f0, .int .i64 h.f1, .int .i64 h.f2], .bool true, .bool false, .bool false, .bool false, .slice (some ⟨r, off, none⟩) L.length cap, .int .i64 (L.length : Int), .bool false, .slice (some ⟨r, off, none⟩) L.length cap, .agg #[.int .i64 h.f0, .int .i64 h.f1, .int .i64 h.f2], .func (.func 106) #[] #[.pointer (some ⟨Bl, 0, none⟩), .pointer (some ⟨Bh, 0, none⟩)], undef, undef, undef, undef, undef, .func (.func 59) #[] #[.pointer (some ⟨w.heap.size, 0, none⟩), .pointer (some ⟨w.heap.size + 1, 0, none⟩)], .pointer (some ⟨w.heap.size + 1, 1, none⟩), .int .i64 h.f1, .func (.func 59) #[] #[.pointer (some ⟨w.heap.size, 0, none⟩), .pointer (some ⟨w.heap.size + 1, 0, none⟩)], .func (.func 60) #[] #[.pointer (some ⟨w.heap.size + 1, 0, none⟩), .pointer (some ⟨W4.heap.size, 0, none⟩)], .int .i64 S2, .int .i64 M, undef, undef, undef, undef, undef], defers := [{ target := .collected D, args := #[] }] })) ?hh ?hq
    case hh =>
      gi_region_with_o (first
        | (refine ⟨trivial, ?_⟩; gi_at_call 59; refine (callsIn_wide.2 HA1.out).mono ?_; rintro e W8 ⟨rfl, c1', bx8, k8⟩; have m8 := bx8.cell; have z8 := bx8.frozen; have lt8 := bx8.lt)
        | (refine ⟨trivial, ?_⟩; gi_at_call 59; refine (callsIn_wide.2 HA2.out).mono ?_; rintro e W8 ⟨rfl, c1', s8, k8⟩; have l8 : w.heap.size + 1 < W8.heap.size := Nat.lt_of_lt_of_le l1 s8))
      all_goals first
        | exact ⟨W.heap.size, rfl, Nat.le_refl _, (bx8.set _).cell, k8.setCell ⟨W.heap.size, 0, none⟩ _ (.inl (Nat.le_refl _))⟩
        | exact ⟨W8.heap.size, rfl, s8, (boxed_new' (W := W8) rfl).cell, k8.alloc _⟩
    case hq =>
      intro e a' W7 hm
      obtain ⟨rfl, Bm, rfl, hBm, hcm, k7⟩ := hm.out
      have lm := World.block_lt_of_cell? W7 _ hcm
      clear hm HA1 HA2 e1 e2 hmx
      gi_wp2_with fail
      refine ⟨trivial, ?_⟩
      gi_at_call 59
      refine (callsIn_wide.2 (HAdd3.out W7 Bm k7 hcm)).mono ?_
      rintro e W9 ⟨rfl, k9⟩
      have cm := at_fr k9.below hcm
      have kk := k7.trans k9 (fun _ _ h => h)
      have hlD := (Array.getElem?_eq_some_iff.1 HHK.out).1
      have hK9 := (kk.block D hlD (fun h => h)).trans HHK.out
      clear HAdd3
      gi_wp2
      refine ⟨by simp, .inl ⟨_, _, rfl, run_takeDeferred hK9, ?_⟩⟩
      exact ⟨_, results_tmp3 rfl _ _ _, by rw [← HMe.out]; rfl, Fr.of_below ((FW.trans kk (fun _ _ h => h)).below.trans (belowK_b (n₀ := w.heap.size) (w := w) (Nat.le_refl _) W9 D _ _ (by omega) hK9 rfl rfl)) (Nat.le_refl _) _⟩
  case stop =>
    rintro D c pre W _ _ h _
    exact h.elim
end Go.Proofs.YtapagoaoglmegaaGreat
namespace Go.Proofs.YtapagoaoglmegaaGreat
open Go.RowKit Go.Proofs.YtapagoaoglmegaaGreatW.PrintWords Go.Proofs.YtapagoaoglmegaaGreatW.PrintLast Go.Proofs.YtapagoaoglmegaaGreatW.PrintMore PCl
set_option linter.unusedVariables false
set_option linter.unusedSimpArgs false
set_option maxRecDepth 100000
def RowS (t : TypeId) (w : World) (g cap : Nat) (L : List S25) : Prop :=
  ∃ cur : Array Value, Blk w g cur t ∧ cur.size = cap * 3 ∧ L.length ≤ cap ∧ ∀ i c, L[i]? = some c → ∀ j v, (encS c)[j]? = some v → cur[i * 3 + j]? = some v
section
variable {t : TypeId} {w w' : World} {g cap : Nat} {L : List S25}
theorem RowS.lt (h : RowS t w g cap L) : g < w.heap.size := by obtain ⟨cur, hb, _⟩ := h; exact hb.lt
theorem RowS.len (h : RowS t w g cap L) : L.length ≤ cap := by obtain ⟨cur, _, _, h, _⟩ := h; exact h
theorem RowS.fr {S : Nat → Prop} (h : RowS t w g cap L) (k : Fr S w w') (hs : ¬ S g) : RowS t w' g cap L := by
  obtain ⟨cur, hb, h1, h2, h3⟩ := h
  exact ⟨cur, hb.fr k hs, h1, h2, h3⟩
theorem RowS.drew (h : RowS t w g cap L) : RowS t w.drew g cap L := h
theorem RowS.ne {b : Nat} {cs : Array Value} {u : TypeId} (h : RowS t w g cap L) (k : Blk w b cs u) (e : t ≠ u) : g ≠ b := by
  rintro rfl
  obtain ⟨cur, hb, _⟩ := h
  exact e (hb.one k).2
theorem RowS.free (h : RowS t w g cap L) (o : Nat) : w.frozen? ⟨g, o, none⟩ = false := by
  obtain ⟨cur, hb, _⟩ := h; exact hb.free o
theorem RowS.there (h : RowS t w g cap L) {o : Nat} (ho : o < cap * 3) : ∃ v, w.cell? ⟨g, o, none⟩ = some v ∧ w.frozen? ⟨g, o, none⟩ = false := by
  obtain ⟨cur, hb, h1, h2, h3⟩ := h
  exact ⟨cur[o]'(by omega), by rw [hb.cell, Array.getElem?_eq_getElem (by omega)], hb.free o⟩
theorem RowS.take (h : RowS t w g cap L) (n : Nat) : RowS t w g cap (L.take n) := by
  obtain ⟨cur, hb, h1, h2, h3⟩ := h
  refine ⟨cur, hb, h1, by simp; omega, fun i c hi => h3 i c ?_⟩
  rw [List.getElem?_take] at hi
  split at hi
  · exact hi
  · cases hi
end
theorem RowS.toC {t : TypeId} {w : World} {g cap : Nat} {L : List S25} (h : RowS t w g cap L) (hm : cap ≤ maxLen) : Kd.C k25 w (some ⟨g, 0, none⟩) L.length L := by
  refine ⟨rfl, by have := h.len; unfold maxLen at hm; omega, fun _ => ⟨_, rfl, fun j p hj => ⟨encS p, rfl, k25_mk w p, fun i u hi => ?_⟩⟩⟩
  obtain ⟨cur, hb, h1, h2, h3⟩ := h
  rw [addE, Nat.zero_add]
  exact (hb.cell _).trans (h3 j p hj i u hi)
theorem RowS.of_R {w : World} {base : Nat} {ok : Nat → Prop} {v : Value} {xs : List S25} (h : Kd.R k25 25 w base ok v xs) :
    (v = .slice none 0 0 ∧ xs = []) ∨ ∃ g cap, v = .slice (some ⟨g, 0, none⟩) xs.length cap ∧ base ≤ g ∧ cap ≤ maxLen ∧ RowS 25 w g cap xs := by
  obtain ⟨h0, inner, ⟨hl, ho⟩, hr⟩ := h
  rcases ho with ⟨rfl, hn⟩ | ⟨g, cap, cur, rfl, hg, hh, hnc, hcm, hsz, hin⟩
  · exact .inl ⟨rfl, List.eq_nil_of_length_eq_zero hn⟩
  · refine .inr ⟨g, cap, rfl, hg, hcm, cur, hh, hsz, hnc, fun i c hi j v hj => ?_⟩
    have hk := hr.2 i c hi
    have he := k25_openM hk
    have hil := (List.getElem?_eq_some_iff.1 hi).1
    have hj5 : j < 3 := by have := (List.getElem?_eq_some_iff.1 hj).1; simpa [encS] using this
    have hsz5 : (k25 : Kd S25).sz = 3 := rfl
    rw [hsz5] at he hin
    have e1 : (List.take 3 (List.drop (i * 3) inner))[j]? = some v := by rw [he]; exact hj
    rw [List.getElem?_take_of_lt hj5, List.getElem?_drop, ← hin, List.getElem?_take_of_lt (by omega)] at e1
    simpa using e1
theorem RowS.to_R {w : World} {g cap : Nat} {L : List S25} (h : RowS 25 w g cap L) {base : Nat} (hb : base ≤ g) (hm : cap ≤ maxLen) : Kd.R k25 25 w base (fun _ => True) (.slice (some ⟨g, 0, none⟩) L.length cap) L := by
  obtain ⟨cur, hblk, h1, h2, h3⟩ := h
  refine ⟨fun _ _ => trivial, cur.toList.take (L.length * 3), ⟨?_, .inr ⟨g, cap, cur, rfl, hb, hblk, h2, hm, h1, rfl⟩⟩, ?_, fun j p hj => ?_⟩
  · have : (k25 : Kd S25).sz = 3 := rfl
    rw [this, List.length_take]; simp; omega
  · have : (k25 : Kd S25).sz = 3 := rfl
    rw [this, List.length_take]; simp; omega
  · have hsz5 : (k25 : Kd S25).sz = 3 := rfl
    rw [hsz5]
    have hjl := (List.getElem?_eq_some_iff.1 hj).1
    have e : List.take 3 (List.drop (j * 3) (List.take (L.length * 3) cur.toList)) = encS p := by
      apply List.ext_getElem?
      intro i
      by_cases hi : i < 3
      · rw [List.getElem?_take_of_lt hi, List.getElem?_drop, List.getElem?_take_of_lt (by omega)]
        obtain ⟨v, hv⟩ : ∃ v, (encS p)[i]? = some v := ⟨(encS p)[i]'(by simpa [encS] using hi), List.getElem?_eq_getElem _⟩
        rw [hv]
        simpa using h3 j p hj i v hv
      · rw [List.getElem?_eq_none (by simp; omega), List.getElem?_eq_none (by simp [encS]; omega)]
    rw [e]
    exact k25_mkM w base _ p
def flatS : List S25 → List Value
  | [] => []
  | c :: l => encS c ++ flatS l
theorem flatS_app : ∀ (L M : List S25), flatS (L ++ M) = flatS L ++ flatS M
  | [], M => rfl
  | c :: l, M => by simp [flatS, flatS_app l M]
theorem flatS_get : ∀ (L : List S25) (i j : Nat) (c : S25), L[i]? = some c → j < 3 → (flatS L)[i * 3 + j]? = (encS c)[j]?
  | [], i, j, c, h, _ => by simp at h
  | d :: l, 0, j, c, h, hj => by
    simp at h; subst h
    rw [flatS, Nat.zero_mul, Nat.zero_add, List.getElem?_append_left (by simpa [encS] using hj)]
  | d :: l, i + 1, j, c, h, hj => by
    have := flatS_get l i j c (by simpa using h) hj
    rw [flatS, List.getElem?_append_right (by simp [encS]; omega)]
    rw [← this]; congr 1; simp [encS]; omega
theorem flatS_one : ∀ (L : List S25), ∀ u ∈ flatS L, u.oneCell' = true
  | [], u, h => by cases h
  | c :: l, u, h => by
    rw [flatS] at h
    rcases List.mem_append.1 h with h | h
    · simp [encS] at h; rcases h with rfl | rfl | rfl <;> rfl
    · exact flatS_one l u h
theorem RowS.of_owns {t : TypeId} {w : World} {g cap n : Nat} {L : List S25} (h : w.ownsRow 0 t 3 (.slice (some ⟨g, 0, none⟩) n cap) n (flatS L)) (hn : n = L.length) : RowS t w g cap L ∧ cap ≤ maxLen := by
  subst hn
  rcases h.2 with ⟨e, _⟩ | ⟨g', cap', cur, e, _, hb, hnc, hcm, hsz, htk⟩
  · cases e
  · injection e with e1 e2 e3
    injection e1 with e1
    injection e1 with e1
    subst e1 e3
    refine ⟨⟨cur, hb, hsz, hnc, fun i c hi j v hj => ?_⟩, hcm⟩
    have hj3 : j < 3 := by have := (List.getElem?_eq_some_iff.1 hj).1; simpa [encS] using this
    have hil := (List.getElem?_eq_some_iff.1 hi).1
    have hf := flatS_get L i j c hi hj3
    rw [← htk, List.getElem?_take_of_lt (by omega), hj] at hf
    simpa using hf
theorem Blk.c3 {w : World} {b : Nat} {x y z : Value} {t : TypeId} (h : Blk w b #[x, y, z] t) : w.cell? ⟨b, 0, none⟩ = some x ∧ w.cell? ⟨b, 1, none⟩ = some y ∧ w.cell? ⟨b, 2, none⟩ = some z ∧ w.frozen? ⟨b, 0, none⟩ = false ∧ w.frozen? ⟨b, 1, none⟩ = false ∧ w.frozen? ⟨b, 2, none⟩ = false :=
  ⟨h.cell 0, h.cell 1, h.cell 2, h.free 0, h.free 1, h.free 2⟩
theorem infoS : (Tryz.prog.info? 25).map (fun i => (i.zero, i.size, i.bytes)) = some (some (.agg #[.int .i64 0, .int .i64 0, .int .i64 0]), 3, 24) := by kernel_rfl
def OwS (base : Nat) (w : World) (v : Value) (L : List S25) : Prop := w.ownsRow base 25 3 v L.length (flatS L)
theorem OwS.nil (base : Nat) (w : World) : OwS base w (.slice none 0 0) [] := ⟨rfl, .inl ⟨rfl, rfl⟩⟩
theorem OwS.fr {S : Nat → Prop} {base : Nat} {w w' : World} {v : Value} {L : List S25} (h : OwS base w v L) (k : Fr S w w') (hs : ∀ g, v.ownBlock = some g → ¬ S g) : OwS base w' v L := own_fr0 h k hs
theorem OwS.form {base : Nat} {w : World} {v : Value} {L : List S25} (h : OwS base w v L) :
    (v = .slice none 0 0 ∧ L = []) ∨ ∃ g cap, v = .slice (some ⟨g, 0, none⟩) L.length cap ∧ base ≤ g ∧ cap ≤ maxLen ∧ RowS 25 w g cap L := by
  rcases h.2 with ⟨rfl, e⟩ | ⟨g, cap, cur, rfl, hg, hb, hc, hm, hs, ht⟩
  · exact .inl ⟨rfl, List.eq_nil_of_length_eq_zero e⟩
  · exact .inr ⟨g, cap, rfl, hg, hm, (RowS.of_owns (n := L.length) ⟨h.1, .inr ⟨g, cap, cur, rfl, Nat.zero_le _, hb, hc, hm, hs, ht⟩⟩ rfl).1⟩
theorem OwS.C {base : Nat} {w : World} {v : Value} {L : List S25} (h : OwS base w v L) : ∃ A cap, v = .slice A L.length cap ∧ L.length ≤ cap ∧ Kd.C k25 w A L.length L := by
  rcases h.form with ⟨rfl, rfl⟩ | ⟨g, cap, rfl, _, hm, hr⟩
  · exact ⟨none, 0, rfl, Nat.le_refl _, ⟨rfl, by simp, fun h => absurd h (by simp)⟩⟩
  · exact ⟨_, cap, rfl, hr.len, hr.toC hm⟩
theorem OwS.R {base : Nat} {w : World} {v : Value} {L : List S25} (h : OwS base w v L) : Kd.R k25 25 w base (fun _ => True) v L := by
  rcases h.form with ⟨rfl, rfl⟩ | ⟨g, cap, rfl, hg, hm, hr⟩
  · exact Kd.R_nil _ _ _ _ _
  · exact hr.to_R hg hm
end Go.Proofs.YtapagoaoglmegaaGreat
namespace Go.Proofs.YtapagoaoglmegaaGreat
open Go.RowKit Go.Shelf Go.Proofs.YtapagoaoglmegaaGreatW.PrintWords Go.Proofs.YtapagoaoglmegaaGreatW.PrintLast Go.Proofs.YtapagoaoglmegaaGreatW.PrintMore PCl
attribute [local go_sem] Oper.semAt_some
set_option linter.unusedVariables false
set_option linter.unusedSimpArgs false
set_option maxRecDepth 100000
@[reducible] def vC (c : S27) : Value := .agg #[.int .i64 c.f0, .int .i64 c.f1.f0, .int .i64 c.f1.f1, .int .i64 c.f1.f2, .int .i64 c.f2]
theorem ofs_at (c : S27) (W : World) : Calls Tryz.prog 48 #[vC c] W fun e w' => e = .returned (vS c.f1) ∧ Fr (fun _ => False) W w' := by
  go_enter Tryz.func48, Tryz.ntmps48
  go_wp2
  refine bodyPost_ret (v := vS c.f1) ?_ rfl ?_
  · simp [results, Tryz.f48, go_sem]
    trace_state
  · exact ⟨rfl, by (repeat' (first | (with_reducible exact Fr.refl _ _) | (with_reducible assumption) | (with_reducible refine Fr.alloc ?_ _) | (with_reducible refine Fr.drew ?_) | (with_reducible refine Fr.drewN ?_ _) | (with_reducible refine Fr.setCell ?_ _ _ ?_) | (exact Or.inr rfl) | (left; simp; done) | (left; simp; omega) | (simp; done) | (simp; omega) | omega))⟩
theorem eachs_at {w : World} {A : Option Addr} {cap n : Nat} :
    Calls Tryz.prog 47 #[.slice A n cap, .func (.func 48) #[] #[]] w fun e w' => ∃ Bl Bo, e = .returned (.func (.func 99) #[] #[.pointer (some ⟨Bl, 0, none⟩), .pointer (some ⟨Bo, 0, none⟩)]) ∧ Bl < w'.heap.size ∧ Bo < w'.heap.size ∧ w'.cell? ⟨Bl, 0, none⟩ = some (.slice A n cap) ∧ w'.cell? ⟨Bo, 0, none⟩ = some (.func (.func 48) #[] #[]) ∧ Fr (fun _ => False) w w' := by
  go_enter Tryz.func47, Tryz.ntmps47
  go_wp2_with fail
  generalize hW : World.alloc (World.alloc w _) _ = W2
  obtain ⟨t1, b1⟩ : ∃ t, Boxed W2 w.heap.size t (.slice A n cap) := ⟨_, by subst hW; exact (Boxed.new w _ _).alloc _⟩
  obtain ⟨t2, b2⟩ : ∃ t, Boxed W2 (w.heap.size + 1) t (.func (.func 48) #[] #[]) := ⟨_, by subst hW; exact boxed_new' (by simp)⟩
  have f2 : Fr (fun _ => False) w W2 := by subst hW; (repeat' (first | (with_reducible exact Fr.refl _ _) | (with_reducible assumption) | (with_reducible refine Fr.alloc ?_ _) | (with_reducible refine Fr.drew ?_) | (with_reducible refine Fr.drewN ?_ _) | (with_reducible refine Fr.setCell ?_ _ _ ?_) | (exact Or.inr rfl) | (left; simp; done) | (left; simp; omega) | (simp; done) | (simp; omega) | omega))
  clear hW
  go_ret
  exact ⟨_, _, rfl, b1.lt, b2.lt, b1.cell, b2.cell, f2⟩
set_option maxHeartbeats 4000000 in
theorem eachs1_in (n : Nat) (hn : 1 ≤ n) {l Bl Bo n₀ cap : Nat} {A : Option Addr} {L : List S27} (J Jx : List S25 → World → Prop) (W : World) (hJ : AbidesFrom W.heap.size J)
    (hY : ∀ pre (x : S25) W1, J pre W1 → pre.length < L.length → YieldAt Fence.wide (n - 1) Tryz.prog l #[vS x] W1 fun e W' => (e = .returned (.bool true) ∧ J (pre ++ [x]) W' ∧ Below n₀ W1 W') ∨ (e = .returned (.bool false) ∧ Jx (pre ++ [x]) W'))
    (hBl : W.cell? ⟨Bl, 0, none⟩ = some (.slice A L.length cap)) (hBo : W.cell? ⟨Bo, 0, none⟩ = some (.func (.func 48) #[] #[])) (no : Bo < n₀) (hC : Kd.C k27 W A L.length L) (hA : 0 < L.length → ∀ r off, A = some ⟨r, off, none⟩ → r < n₀) (hn0 : n₀ ≤ W.heap.size) (hJ0 : J [] W) :
    CallsIn Fence.wide n Tryz.prog 99 #[.func (.yield l) #[] #[], .pointer (some ⟨Bl, 0, none⟩), .pointer (some ⟨Bo, 0, none⟩)] W fun e W' => (∃ v, e = .returned v) ∧ ((∃ ys, ys = L.map (fun c => c.f1) ∧ J ys W') ∨ ∃ pre, True ∧ Jx pre W') := by
  have HC := hidE hC
  have HBo := hidE hBo
  have hlen := C27_nil hC
  clear hC hBo
  refine callsIn_of_wp Tryz.func99 rfl trivial ?_ rfl
  simp only [Tryz.ntmps99, List.size_toArray, List.length_cons, List.length_nil, Nat.reduceAdd, Nat.reduceSub, Array.replicate_succ, Array.replicate_zero, List.push_toArray, List.append_toArray, List.nil_append, List.cons_append]
  gi_wp2_with fail
  gi_loopw [8] (fun v8 wr => ∃ k : Nat, k ≤ L.length ∧ v8 = .int .i64 (k : Int) ∧ J ((L.map (fun c => c.f1)).take k) wr ∧ Below n₀ W wr) (fun v8 _ => L.length - (intOf v8).toNat)
  case atStart => exact ⟨0, Nat.zero_le _, rfl, by simpa using hJ0, Below.refl _ _⟩
  case round =>
    clear hJ0
    obtain ⟨k, hk, rfl, hJk, hkc⟩ := hrel
    by_cases hlt : k < L.length
    · obtain ⟨r, off, rfl, hr, hat⟩ := C27_open HC.out (by omega)
      obtain ⟨c, hcs⟩ : ∃ c, L[k]? = some c := ⟨_, List.getElem?_eq_getElem hlt⟩
      obtain ⟨a0, a1, a2, a3, a4⟩ := hat k c hcs
      have hrn := hA (by omega) r off rfl
      replace a0 := (hkc.cell (p := ⟨r, off + k * 5, none⟩) hrn).trans a0
      replace a1 := (hkc.cell (p := ⟨r, off + k * 5 + 1, none⟩) hrn).trans a1
      replace a2 := (hkc.cell (p := ⟨r, off + k * 5 + 2, none⟩) hrn).trans a2
      replace a3 := (hkc.cell (p := ⟨r, off + k * 5 + 3, none⟩) hrn).trans a3
      replace a4 := (hkc.cell (p := ⟨r, off + k * 5 + 4, none⟩) hrn).trans a4
      have d0 := (hkc.cell (p := ⟨Bo, 0, none⟩) no).trans HBo.out
      have t1 : (k : Int) < (L.length : Int) := by omega
      have hln : ((L.map (fun c => c.f1)).take k).length < L.length := by rw [List.length_take]; simp; omega
      have lo := World.block_lt_of_cell? wr _ d0
      have hnx : Hid ((L.map (fun c => c.f1)).take k ++ [c.f1] = (L.map (fun c => c.f1)).take (k + 1)) := hidE (by rw [List.take_add_one, List.getElem?_map, hcs]; rfl)
      clear hat hcs
      gi_wp2_with fail
      generalize hW : World.alloc wr _ = W5
      have f5 : Fr (fun _ => False) wr W5 := by subst hW; (repeat' (first | (with_reducible exact Fr.refl _ _) | (with_reducible assumption) | (with_reducible refine Fr.alloc ?_ _) | (with_reducible refine Fr.drew ?_) | (with_reducible refine Fr.drewN ?_ _) | (with_reducible refine Fr.setCell ?_ _ _ ?_) | (exact Or.inr rfl) | (left; simp; done) | (left; simp; omega) | (simp; done) | (simp; omega) | omega))
      clear hW a0 a1 a2 a3 a4 d0
      refine ⟨trivial, ?_⟩
      gi_at_call 48
      refine (callsIn_wide.2 (ofs_at c W5)).mono ?_
      rintro e W6 ⟨rfl, k6⟩
      have F6 := f5.trans k6 (fun _ _ h => h)
      have hJ6 := hJ _ wr W6 none hJk F6.grow (fun r e => by cases e)
      obtain ⟨fn, tmps, assign, body, hy, hR⟩ := hY _ c.f1 W6 hJ6 hln
      gi_wp2_with fail
      refine hR.mono ?_
      rintro e W7 (⟨rfl, hJ7, hk7⟩ | ⟨rfl, hx7⟩)
      · have hB7 : Below n₀ W W7 := (hkc.trans (F6.below.mono (Nat.le_trans hn0 hkc.size))).trans hk7
        gi_wp2
        go_roundw
        case rel => exact ⟨k + 1, by omega, by go_num, by rw [← hnx.out]; exact hJ7, hB7⟩
        case measure => simp [intOf]; omega
      · gi_wp2
        refine bodyPost_ret (results_none rfl _ _ _) rfl ?_
        exact ⟨⟨_, rfl⟩, .inr ⟨_, by first | exact hx7 | exact ⟨trivial, hx7⟩⟩⟩
    · obtain rfl : k = L.length := by omega
      have hall : (L.map (fun c => c.f1)).take L.length = L.map (fun c => c.f1) := by
        rw [List.take_of_length_le]; simp
      gi_wp2
      go_end0
      exact ⟨⟨_, rfl⟩, .inl ⟨_, rfl, by rw [← hall]; exact hJk⟩⟩
theorem eachs_stops (n : Nat) (hn : 1 ≤ n) {Bl Bo cap : Nat} {A : Option Addr} {L : List S27} {w : World} (hBl : w.cell? ⟨Bl, 0, none⟩ = some (.slice A L.length cap)) (hBo : w.cell? ⟨Bo, 0, none⟩ = some (.func (.func 48) #[] #[])) (hC : Kd.C k27 w A L.length L) :
    SeqStopsK Fence.wide n Tryz.prog 99 #[.pointer (some ⟨Bl, 0, none⟩), .pointer (some ⟨Bo, 0, none⟩)] (fun x : S25 => #[vS x]) (Below w.heap.size) (fun ys => ys = L.map (fun c => c.f1)) (fun _ => True) L.length w := fun l J Jx W hW hJ hJx hY hJ0 => by
  have f := Fr.of_below hW (Nat.le_refl _) (fun _ => False)
  refine eachs1_in n hn J Jx W hJ hY ((f.cell (a := ⟨Bl, 0, none⟩) (World.block_lt_of_cell? w _ hBl) (fun h => h)).trans hBl) ((f.cell (a := ⟨Bo, 0, none⟩) (World.block_lt_of_cell? w _ hBo) (fun h => h)).trans hBo) (World.block_lt_of_cell? w _ hBo) (Kd.C_below hC hW) (fun h0 r off e => ?_) f.size hJ0
  subst e
  obtain ⟨r', off', e, hr, _⟩ := C27_open hC h0
  injection e with e
  injection e with e1 e2
  omega
theorem blk_own {β : Type} (Bx : Nat) (cs : Array Value) (t : TypeId) : Own (fun (_ : β) W => Blk W Bx cs t) := fun s X Y row hs hg hrow => by
  refine (hg.block Bx hs.lt (fun e => ?_)).trans hs
  obtain ⟨u, hu, hc⟩ := hrow Bx e.symm
  rw [show X.heap[Bx]? = _ from hs] at hu; cases hu; cases hc
theorem spcell (W : World) (x : S25) : ∀ j u, (encS x)[j]? = some u → (W.alloc (.cells #[.int .i64 x.f0, .int .i64 x.f1, .int .i64 x.f2] 25)).cell? ((⟨W.heap.size, 0, none⟩ : Addr).add j) = some u := by
  intro j u hj
  rw [addE, Nat.zero_add, (Blk.new W #[.int .i64 x.f0, .int .i64 x.f1, .int .i64 x.f2] 25).cell]
  match j, hj with
  | 0, hj => exact hj
  | 1, hj => exact hj
  | 2, hj => exact hj
  | j + 3, hj => simp [encS] at hj
theorem encS_one (x : S25) : ∀ u ∈ encS x, u.oneCell' = true := fun u hu => flatS_one [x] u (by simpa [flatS] using hu)
set_option maxHeartbeats 4000000 in
theorem appseqs_at {w : World} {gf N : Nat} {lb : Array Value} {ys : List S25} (hent : ∀ args w, (callFunc gf args).run Tryz.prog w = .ok (.enter gf args) w) (hN : N ≤ 16) (hlen : ys.length ≤ 16)
    (hseq : SeqStopsK Fence.wide 5 Tryz.prog gf lb (fun x : S25 => #[vS x]) (Below w.heap.size) (fun l => l = ys) (fun _ => True) N w) :
    Calls Tryz.prog 98 #[.slice none 0 0, .func (.func gf) #[] lb] w fun e w' => ∃ v, e = .returned v ∧ OwS w.heap.size w' v ys ∧ Fr (fun _ => False) w w' := by
  refine (callsIn_wide (n := 6)).1 ?_
  refine callsIn_of_wp_marks Tryz.func98 rfl trivial ?_ rfl
  simp only [Tryz.ntmps98, List.size_toArray, List.length_cons, List.length_nil, Nat.reduceAdd, Nat.reduceSub, Array.replicate_succ, Array.replicate_zero, List.push_toArray, List.append_toArray, List.nil_append, List.cons_append]
  obtain ⟨i0, hi0, hz0, hsz0, hby0⟩ : ∃ i0, Tryz.prog.info? 25 = some i0 ∧ i0.zero = some (.agg #[.int .i64 0, .int .i64 0, .int .i64 0]) ∧ i0.size = 3 ∧ i0.bytes = 24 := by
    obtain ⟨i0, h1, h2⟩ := Option.map_eq_some_iff.1 infoS
    simp only [Prod.mk.injEq] at h2
    exact ⟨i0, h1, h2.1, h2.2.1, h2.2.2⟩
  gi_wp2_with fail
  generalize hW : World.alloc w _ = W2
  have bS : Boxed W2 w.heap.size 66 (.slice none 0 0) := by subst hW; exact Boxed.new _ _ _
  have f2 : Fr (fun _ => False) w W2 := by subst hW; (repeat' (first | (with_reducible exact Fr.refl _ _) | (with_reducible assumption) | (with_reducible refine Fr.alloc ?_ _) | (with_reducible refine Fr.drew ?_) | (with_reducible refine Fr.drewN ?_ _) | (with_reducible refine Fr.setCell ?_ _ _ ?_) | (exact Or.inr rfl) | (left; simp; done) | (left; simp; omega) | (simp; done) | (simp; omega) | omega))
  have hs2 : W2.heap.size = w.heap.size + 1 := by subst hW; simp
  clear hW
  refine wpIn_rangeFunc_ownH (n := 6) (w := W2) rfl (by omega) (gf := gf) (lb := lb) rfl trivial hent hseq belowK_t (belowK_b (by omega)) f2.below (fun _ => rfl)
    (fun pre W => (∃ v, Boxed W w.heap.size 66 v ∧ W.ownsRow w.heap.size 25 3 v pre.length (flatS pre) ∧ True) ∧ Below w.heap.size w W)
    (fun _ _ _ => False)
    (OwnFrom.and (Own.from (holdsRow_own _ _ _ _ _ (fun pre : List S25 => pre.length) flatS (fun _ _ => True)) _) (ownFrom_below (Nat.le_refl _) (by omega)))
    (fun _ _ _ _ _ hs _ _ => hs)
    ⟨⟨_, bS, World.ownsRow_nil _ _ _ _, trivial⟩, f2.below⟩
    (fun x a' W => ∃ Bx, w.heap.size < Bx ∧ Blk W Bx #[.int .i64 x.f0, .int .i64 x.f1, .int .i64 x.f2] 25 ∧ a' = { tmps := #[.slice none 0 0, .func (.func gf) #[] lb, .pointer (some ⟨w.heap.size, 0, none⟩), undef, .slice none 0 0, .pointer (some ⟨Bx, 0, none⟩), .func (.func gf) #[] lb, vS x, undef, undef, undef, undef, undef], defers := [] })
    (fun x a' => Own.from (fun s X Y row ⟨Bx, h1, h2, h3⟩ hg hr => ⟨Bx, h1, blk_own (β := Unit) Bx _ _ () X Y row h2 hg hr, h3⟩) _) ?assign ?body ?done ?stop
  case assign =>
    rintro l pre x W K ⟨⟨v, hv, hrow, _⟩, hB⟩ hK
    have hsz := hB.size
    gi_wp2
    exact hK _ _ ((KeepsOthers.alloc _ _).from _) ((Below.refl _ W).alloc hB.size _) ⟨⟨v, hv.alloc _, hrow.alloc _, trivial⟩, hB.alloc hB.size _⟩ ⟨W.heap.size, hv.lt, Blk.new W _ _, rfl⟩
  case body =>
    rintro l pre x a' W hl ⟨rc, hrc⟩ ⟨⟨v, hv, hrow, _⟩, hB⟩ ⟨Bx, hBx, bX, rfl⟩ hlt
    have cv := hv.cell
    have x0 := bX.cell 0
    have x1 := bX.cell 1
    have x2 := bX.cell 2
    simp at x0 x1 x2
    have lX := bX.lt
    have lv := hv.lt
    have hsz := hB.size
    have hcl := spcell W x
    have h1c := encS_one x
    have b1 : pre.length + 1 ≤ maxLen := by unfold maxLen; omega
    have b2 : (pre.length + 1) * 24 ≤ 140737488355328 := by omega
    have b3 : w.heap.size ≤ (W.alloc (.cells #[.int .i64 x.f0, .int .i64 x.f1, .int .i64 x.f2] 25)).heap.size := by simp; omega
    have hne : (66 : TypeId) ≠ 25 := by decide
    have h30 : 0 < 3 := by decide
    gi_wp2_with (gi_at_builtin; refine wpListIn_append_own _ rfl _ _ 66 rfl w.heap.size 25 i0 _ 3 24 Tryz.underlying66 hi0 hz0 hsz0 hby0 rfl h30 v pre.length (flatS pre) rfl (hrow.alloc _) ⟨W.heap.size, 0, none⟩ 1 1 (encS x) rfl rfl hcl h1c b1 b2 b3 ?_; intro v' w1 hown' hgrow _; obtain ⟨g', cap', rfl⟩ := ownsRow_succ hown'; obtain ⟨hv1, hv2, hr2, hk2, hb2⟩ := hv.appended hne hrow hB.size (Nat.le_refl _) hown' hgrow; have hc1 := hv1.cell; have hf1 := hv1.frozen)
    exact ⟨hk2.from _, hb2, ⟨⟨_, hv2, by rw [List.length_append, flatS_app]; simpa [flatS] using hr2, trivial⟩, hB.trans hb2⟩⟩
  case done =>
    rintro D zs W hD rfl ⟨⟨v, hv, hrow, _⟩, hB⟩ hK
    have cv := hv.cell
    gi_wp2
    refine ⟨by simp, .inl ⟨_, _, rfl, run_takeDeferred hK, ?_⟩⟩
    exact ⟨_, results_tmp rfl _ _ _, v, rfl, ownsRow_putObj hrow _ hK rfl, Fr.of_below (hB.trans (belowK_b (n₀ := w.heap.size) (w := w) (Nat.le_refl _) W D _ _ (by omega) hK rfl rfl)) (Nat.le_refl _) _⟩
  case stop =>
    rintro D c pre W _ _ h _
    exact h.elim
theorem spans_at {w : World} {A : Option Addr} {cap : Nat} {L : List S27} (hC : Kd.C k27 w A L.length L) (h16 : L.length ≤ 16) :
    Calls Tryz.prog 26 #[.slice A L.length cap] w fun e w' => ∃ v, e = .returned v ∧ OwS w.heap.size w' v (L.map (fun c => c.f1)) ∧ Fr (fun _ => False) w w' := by
  have HC := hidE hC
  clear hC
  go_enter Tryz.func26, Tryz.ntmps26
  go_wp2_with fail
  refine (eachs_at (w := w) (A := A) (cap := cap) (n := L.length)).mono ?_
  rintro e w1 ⟨Bl, Bo, rfl, hl, ho, hcl, hco, k1⟩
  have HS := hidE (eachs_stops 5 (by omega) hcl hco (Kd.C_below HC.out k1.below))
  have HA : Hid (Calls Tryz.prog 98 #[.slice none 0 0, .func (.func 99) #[] #[.pointer (some ⟨Bl, 0, none⟩), .pointer (some ⟨Bo, 0, none⟩)]] w1 fun e w' => ∃ v, e = .returned v ∧ OwS w1.heap.size w' v (L.map (fun c => c.f1)) ∧ Fr (fun _ => False) w1 w') := hidE (appseqs_at (enters_of Tryz.func99 (by kernel_rfl) rfl) h16 (by simpa using h16) HS.out)
  have HD : Hid (Calls Tryz.prog 46 #[.func (.func 99) #[] #[.pointer (some ⟨Bl, 0, none⟩), .pointer (some ⟨Bo, 0, none⟩)]] w1 fun e w' => ∃ v, e = .returned v ∧ OwS w1.heap.size w' v (L.map (fun c => c.f1)) ∧ Fr (fun _ => False) w1 w') := hidE (by
    clear hl ho hcl hco HS
    go_enter Tryz.func46, Tryz.ntmps46
    go_wp2_with fail
    refine HA.out.mono ?_
    rintro e w2 ⟨v, rfl, hv, k2⟩
    go_wp2
    go_ret
    exact ⟨_, rfl, hv, k2⟩)
  clear HA HS hl ho hcl hco
  have hs1 := k1.size
  go_wp2_with fail
  refine HD.out.mono ?_
  rintro e w2 ⟨v, rfl, hv, k2⟩
  have hv' : OwS w.heap.size w2 v (L.map (fun c => c.f1)) := ⟨hv.1, by
    rcases hv.2 with h | ⟨g, cap, cur, e1, hg, hb⟩
    · exact .inl h
    · exact .inr ⟨g, cap, cur, e1, Nat.le_trans hs1 hg, hb⟩⟩
  go_wp2
  go_ret
  exact ⟨_, rfl, hv', k1.trans k2 (fun _ _ h => h)⟩
end Go.Proofs.YtapagoaoglmegaaGreat
end
