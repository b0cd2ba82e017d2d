/- Texts of mine, joined by shake.py: ChMore. -/
import Derived.Test.YtapagoaoglmegaaGreatMo18
import Derived.Test.YtapagoaoglmegaaGreatMo19
section
namespace Go.Proofs.YtapagoaoglmegaaGreat
open Go.RowKit Go.Proofs.YtapagoaoglmegaaGreatW.PrintWords Go.Proofs.YtapagoaoglmegaaGreatW.PrintLast Go.Proofs.YtapagoaoglmegaaGreatW.PrintMore PCl
set_option linter.unusedVariables false
set_option linter.unusedSimpArgs false
set_option maxRecDepth 100000
theorem rds_takeM {ls : List Leaf} {w : World} {A : Option Addr} {len cap : Nat} (h : RdS ls w A len cap) (n : Nat) (hn : n ≤ len) : RdS ls w A n cap := by
 rcases h with ⟨rfl, hc, hm⟩ | ⟨b, off, h1, hlc, hcm, hb, R, hR⟩
 ·obtain rfl : n = 0 := by omega
  exact .inl ⟨rfl, hc, hm⟩
 ·exact .inr ⟨b, off, h1, by omega, hcm, hb, R, fun i hi => hR i (by omega)⟩
def MmS (wo : World) (r o : Nat) (c : S27) (B : Nat) (lo hi : Int) (w' : World) : Prop :=
 Fr (fun _ => False) wo w' ∧ w'.cell? ⟨r, o + 1, none⟩ = some (.int .i64 c.f1.f0) ∧ w'.cell? ⟨r, o + 2, none⟩ = some (.int .i64 c.f1.f1) ∧ w'.cell? ⟨r, o + 3, none⟩ = some (.int .i64 c.f1.f2) ∧
 w'.cell? ⟨B, 0, none⟩ = some (.int .i64 5) ∧ w'.cell? ⟨B, 1, none⟩ = some (.int .i64 lo) ∧ w'.cell? ⟨B, 2, none⟩ = some (.int .i64 hi)
theorem MmS.of {wo : World} {r o : Nat} {c : S27} {B : Nat} {lo hi : Int} {w' : World} {t : TypeId} (f : Fr (fun _ => False) wo w') (h : At5 w' r o c) (k : Blk w' B #[.int .i64 5, .int .i64 lo, .int .i64 hi] t) : MmS wo r o c B lo hi w' :=
 ⟨f, h.2.1, h.2.2.1, h.2.2.2.1, k.cell 0, k.cell 1, k.cell 2⟩
theorem CI_open {w : World} {A : Option Addr} {l : List Int} (h : Kd.C (Kd.int .i64) w A l.length l) (hn : 0 < l.length) : ∃ r off, A = some ⟨r, off, none⟩ ∧ r < w.heap.size ∧ ∀ i u, l[i]? = some u → w.cell? ⟨r, off + i, none⟩ = some (.int .i64 u) := by
 have key : ∀ i u, l[i]? = some u → ∃ ad, A = some ad ∧ w.cell? (ad.add i) = some (.int .i64 u) := fun i u hu => by
  have hil := (List.getElem?_eq_some_iff.1 hu).1
  obtain ⟨ad, c, e, _, hK, hc⟩ := Kd.C_get h 0 (i : Int) (by omega) (by omega)
  have hK' : c = [.int .i64 (l.getD (i : Int).toNat 0)] := hK
  have e2 : l.getD (i : Int).toNat 0 = u := by simp [hu]
  rw [e2] at hK'
  have h3 := hc 0 (.int .i64 u) (by rw [hK']; rfl)
  have hsz : (Kd.int .i64 : Kd Int).sz = 1 := rfl
  rw [hsz, Int.toNat_natCast, Nat.mul_one, Nat.add_zero] at h3
  exact ⟨ad, e, h3⟩
 obtain ⟨u0, hu0⟩ : ∃ u, l[0]? = some u := ⟨_, List.getElem?_eq_getElem hn⟩
 obtain ⟨ad, rfl, h0⟩ := key 0 u0 hu0
 rw [add_zero'] at h0
 obtain ⟨r, off, rfl⟩ := spot_none h0
 refine ⟨r, off, rfl, World.block_lt_of_cell? w _ h0, fun i u hu => ?_⟩
 obtain ⟨ad, e, h1⟩ := key i u hu
 obtain rfl := Option.some.inj e
 rw [add_none] at h1
 exact h1
def MnS (wo : World) (B : Nat) (lo hi : Int) (w' : World) : Prop :=
 Fr (fun _ => False) wo w' ∧ w'.cell? ⟨B, 0, none⟩ = some (.int .i64 5) ∧ w'.cell? ⟨B, 1, none⟩ = some (.int .i64 lo) ∧ w'.cell? ⟨B, 2, none⟩ = some (.int .i64 hi)
theorem MnS.of {wo : World} {B : Nat} {lo hi : Int} {w' : World} {t : TypeId} (f : Fr (fun _ => False) wo w') (k : Blk w' B #[.int .i64 5, .int .i64 lo, .int .i64 hi] t) : MnS wo B lo hi w' := ⟨f, k.cell 0, k.cell 1, k.cell 2⟩
theorem rowM {w : World} {g : Nat} {lo hi : Int} (h : Blk w g #[.int .i64 99, .int .i64 5, .int .i64 lo, .int .i64 hi, .int .i64 0] 27) : Row w g 1 [moreC lo hi] := by
 refine ⟨_, h, rfl, Nat.le_refl 1, fun i c hi j v hj => ?_⟩
 have hil := (List.getElem?_eq_some_iff.1 hi).1
 have hj5 : j < 5 := by have := (List.getElem?_eq_some_iff.1 hj).1; simpa [encC] using this
 have h1 : i < 1 := hil
 obtain rfl : i = 0 := by omega
 obtain rfl := Option.some.inj hi
 rcases (show j = 0 ∨ j = 1 ∨ j = 2 ∨ j = 3 ∨ j = 4 by omega) with rfl | rfl | rfl | rfl | rfl <;> exact hj
set_option maxHeartbeats 4000000 in
theorem chooseMore_walk (A : Option Addr) (len cap : Nat) (at_ : Int) (w : World) (h0 : RdS [.b, .i .u32, .i .u32, .i .u16] w A len cap) (v1 : (Lit.int .u32 at_).wf = true) :
  Calls Tryz.prog 5 #[.slice A len cap, .int .u32 at_] w fun e w' => e = .returned (.bool true) ∧ Fr (fun _ => False) w w' := by
 have hle := RdS.len_le h0
 have hat : 0 ≤ at_ ∧ at_ ≤ 4294967295 := by have := v1; simp [Lit.wf] at this; exact this
 obtain ⟨n, hn⟩ : ∃ n, n = if len ≤ 15 then len else 15 := ⟨_, rfl⟩
 have hn15 : n ≤ 15 := by rw [hn]; split <;> omega
 have hnl : n ≤ len := by rw [hn]; split <;> omega
 obtain ⟨l, hln, hc, hC, hN⟩ := said_open (rds_takeM h0 n hnl)
 have hmin : min (len : Int) 15 = (n : Int) := by rw [hn]; split <;> omega
 have HFd := hidE (field_at (cap := cap) hC (by omega) hN (at_ := at_) (by omega))
 rw [hln] at HFd
 obtain ⟨T, hT⟩ : ∃ T, T = at_ + 8589934592 := ⟨_, rfl⟩
 have HFS := hidE (sfZ_fs (t := T) (by omega) hN)
 have HWI := hidE (fun x h (hs : List.Sublist x (sfZ T l)) (hm : ∀ c ∈ x, Meets c.f1 h) => who_in hs hm)
 have HWF := hidE (fun c (hc : c ∈ sfZ T l) => (by obtain ⟨j, hj⟩ := List.mem_iff_getElem?.1 hc; have h1 := sfZ_who hj; have h2 := (List.getElem?_eq_some_iff.1 hj).1; rw [sfZ_len] at h2; omega : c.f0 < 16))
 have hFl : (sfZ T l).length ≤ 15 := by rw [sfZ_len]; omega
 rw [← hT] at HFd
 obtain ⟨F, hF⟩ : ∃ F, F = sfZ T l := ⟨_, rfl⟩
 rw [← hF] at HFd HFS HWI HWF hFl
 obtain ⟨hq, hhq⟩ : ∃ hq, hq = honZ l := ⟨_, rfl⟩
 rw [← hhq] at HFd
 have HNL := hidE hnl
 have HLE := hidE hle
 have HNC := hidE hc
 clear h0 v1 hc hC hN hF hT hat hhq hn hln hn15 hnl hle
 go_enter Tryz.func5, Tryz.ntmps5
 go_upto_region 1 with fail
 go_cut [0] (fun v0 wx => v0 = .slice A n cap ∧ wx = w)
 case first =>
  have hnl := HNL.out
  have hle := HLE.out
  have hnc := HNC.out
  go_wp2_with fail
  go_meet
  exact ⟨rfl, rfl⟩
 case rest =>
  obtain ⟨w0, hw0⟩ : ∃ w0, w0 = wc := ⟨_, rfl⟩
  rw [← hw0] at hcut ⊢
  clear hw0
  obtain ⟨rfl, rfl⟩ := hcut
  clear hmin HNL HLE HNC
  go_wp2_with fail
  refine HFd.out.mono ?_
  rintro e w1 ⟨vF, rfl, hR1, k1'⟩
  have k1 := Fr.of_below k1' (Nat.le_refl _) (fun _ => False)
  obtain ⟨AF, cF, rfl, hcF, hC1⟩ := R_C hR1
  have HC1 := hidE hC1
  clear HFd k1' hR1 hC1
  go_wp2_with fail
  refine (choose_at (HC1.out w1 (Fr.refl _ _)) hcF HFS.out.who HFS.out.div).mono ?_
  rintro e w2 ⟨v2, rfl, hv2, k2⟩
  obtain ⟨A2, c2, rfl, hc2, hC2⟩ := hv2.sl
  have F2 := k1.trans k2 (fun _ _ h => h)
  rcases hull_cases HFS.out.okE with ⟨NH, _⟩ | ⟨lo, hi, H, _⟩
  ·rw [HFS.out.no NH]
   simp only [chNo, List.length_nil]
   clear hv2 hc2 hC2 k1 k2 NH
   go_wp2_with fail
   generalize hW : World.alloc w2 _ = w3
   have f3 : Fr (fun _ => False) w2 w3 := by subst hW; (repeat' (first | (with_reducible exact Fr.refl _ _) | (with_reducible assumption) | (with_reducible refine Fr.alloc ?_ _) | (with_reducible refine Fr.drew ?_) | (with_reducible refine Fr.drewN ?_ _) | (with_reducible refine Fr.setCell ?_ _ _ ?_) | (exact Or.inr rfl) | (left; simp; done) | (left; simp; omega) | (simp; done) | (simp; omega) | omega))
   have F3 := F2.trans f3 (fun _ _ h => h)
   clear hW F2 f3
   refine (awk_at _).mono ?_
   rintro e w4 ⟨rfl, k4⟩
   go_wp2
   go_ret
   exact ⟨rfl, F3.trans k4 (fun _ _ h => h)⟩
  ·obtain ⟨x, hx, hxs, hx0, hxm⟩ := HFS.out.left H
   have hz := HFS.out.yes H hx
   obtain ⟨h0, h1, h2, _, _⟩ := HFS.out.hull H
   obtain ⟨M, hM⟩ : ∃ M, M = meanZ (spansOf x) ⟨5, lo, hi⟩ := ⟨_, rfl⟩
   obtain ⟨J, hJ⟩ : ∃ J, J = jitZ (spansOf x) ⟨5, lo, hi⟩ := ⟨_, rfl⟩
   obtain ⟨Wh, hWh⟩ : ∃ Wh, Wh = x.map (fun c => c.f0) := ⟨_, rfl⟩
   have HWH : Hid (∀ u ∈ Wh, ∃ (j : Nat) (c : S27), u = (j : Int) ∧ F[j]? = some c ∧ Meets c.f1 ⟨5, lo, hi⟩) := hidE (by rw [hWh]; exact HWI.out x _ hxs hxm)
   have hWn : Wh.length ≤ 15 := by have := hxs.length_le; rw [hWh]; simp; omega
   have HM := hidE (more_hull HFS.out hFl HWF.out H)
   have HPOS := hidE (HFS.out.hull H).2.2.2.1
   have HMF := hidE (more_fs HFS.out hFl HWF.out H)
   rw [← hM, ← hJ, ← hWh] at hz
   rw [hz] at hc2 hC2 ⊢
   have HC2 := hidE hC2
   have HK := hidE k2
   clear hx hxs hx0 hxm hM hJ hWh hz hv2 k1 k2 H HWI hC2
   simp only at hc2 ⊢
   go_wp2_with fail
   generalize hW : World.alloc (World.alloc w2 _) _ = w3
   have f3 : Fr (fun _ => False) w2 w3 := by subst hW; (repeat' (first | (with_reducible exact Fr.refl _ _) | (with_reducible assumption) | (with_reducible refine Fr.alloc ?_ _) | (with_reducible refine Fr.drew ?_) | (with_reducible refine Fr.drewN ?_ _) | (with_reducible refine Fr.setCell ?_ _ _ ?_) | (exact Or.inr rfl) | (left; simp; done) | (left; simp; omega) | (simp; done) | (simp; omega) | omega))
   have bB : Blk w3 w2.heap.size #[.int .i64 5, .int .i64 lo, .int .i64 hi, .int .i64 M, .int .i64 J, .slice A2 Wh.length c2] 30 := by subst hW; (repeat' (first | (with_reducible assumption) | (with_reducible apply Blk.drew) | (with_reducible apply Blk.drewN) | (with_reducible apply Blk.set) | (with_reducible apply Blk.other) | (exact Blk.new' _ _ _ (by first | rfl | (simp; done) | (simp; omega))) | (with_reducible apply Blk.alloc) | (with_reducible rfl) | (simp; done) | (simp; omega) | omega | rfl))
   have bH : Blk w3 (w2.heap.size + 1) #[.int .i64 5, .int .i64 lo, .int .i64 hi] 25 := by subst hW; (repeat' (first | (with_reducible assumption) | (with_reducible apply Blk.drew) | (with_reducible apply Blk.drewN) | (with_reducible apply Blk.set) | (with_reducible apply Blk.other) | (exact Blk.new' _ _ _ (by first | rfl | (simp; done) | (simp; omega))) | (with_reducible apply Blk.alloc) | (with_reducible rfl) | (simp; done) | (simp; omega) | omega | rfl))
   obtain ⟨B0, hB0⟩ : ∃ B, B = w2.heap.size := ⟨_, rfl⟩
   rw [← hB0] at bB bH ⊢
   obtain ⟨B, hB⟩ : ∃ B, B = B0 + 1 := ⟨_, rfl⟩
   rw [← hB] at bH ⊢
   have HF3 := hidE (F2.trans f3 (fun _ _ h => h))
   have HC3 := hidE (HC1.out w3 (HK.out.trans f3 (fun _ _ h => h)))
   have HI3 := hidE (fun h => CI_open (Kd.C_below HC2.out f3.below) h)
   have HBB := hidE bB
   have HBH := hidE bH
   have HO := hidE (fun h => C27_open HC3.out h)
   clear hW hB0 hB F2 f3 bB bH HK HC1 HC2
   have hsp : SpOk ⟨5, lo, hi⟩ := hull_sp h0 h1 h2
   have HSP := hidE hsp
   clear hsp h0 h1 h2
   go_loopw [51] (fun v51 wr => ∃ i : Nat, i ≤ Wh.length ∧ v51 = .int .i64 (i : Int) ∧ Fr (fun _ => False) w3 wr) (fun v51 _ => Wh.length - (intOf v51).toNat)
   case atStart => exact ⟨0, Nat.zero_le _, rfl, Fr.refl _ _⟩
   case round =>
    obtain ⟨i, hi', rfl, fi⟩ := hrel
    obtain ⟨wo, hwo⟩ : ∃ wo, wo = wr := ⟨_, rfl⟩
    subst hwo
    by_cases hil : i < Wh.length
    ·obtain ⟨r2, o2, rfl, hr2, hat2⟩ := HI3.out (by omega)
     obtain ⟨u, hu⟩ : ∃ u, Wh[i]? = some u := ⟨_, List.getElem?_eq_getElem hil⟩
     obtain ⟨j, c, rfl, hcj, hmt⟩ := HWH.out u (List.mem_of_getElem? hu)
     have u0 := (fi.cell (a := ⟨r2, o2 + i, none⟩) hr2 (fun h => h)).trans (hat2 i _ hu)
     have hjl := (List.getElem?_eq_some_iff.1 hcj).1
     obtain ⟨r, off, rfl, hr, hat⟩ := HO.out (by omega)
     have h5 := hat j c hcj
     have HMT0 := meet_at (HFS.out.fld.span c (List.mem_of_getElem? hcj)) HSP.out
     obtain ⟨X, Y, Z, HMT0⟩ := HMT0
     rw [decide_eq_true hmt] at HMT0
     have HMT := hidE HMT0
     have l1 : (i : Int) < (Wh.length : Int) := by omega
     have l2 : (0 : Int) ≤ (j : Int) := by omega
     have l3 : (j : Int) < (F.length : Int) := by omega
     have MK : Hid (∀ W : World, Fr (fun _ => False) wo W → MmS wo r (off + j * 5) c B lo hi W) := hidE (fun W f => MmS.of f ((h5.fr fi (fun h => h)).fr f (fun h => h)) ((HBH.out.fr fi (fun h => h)).fr f (fun h => h)))
     clear hat2 hu hcj hmt hr2 hat h5 HMT0 hr hjl
     go_wp2_with fail
     have msd := MK.out _ (Fr.drew (Fr.refl (fun _ => False) wo))
     unfold MmS at msd
     clear u0
     refine start_ (n := 13) (S := fun w' => Fr (fun _ => False) wo w' ∧ w'.cell? ⟨r, off + j * 5 + 1, none⟩ = some (.int .i64 c.f1.f0) ∧ w'.cell? ⟨r, off + j * 5 + 2, none⟩ = some (.int .i64 c.f1.f1) ∧ w'.cell? ⟨r, off + j * 5 + 3, none⟩ = some (.int .i64 c.f1.f2) ∧ w'.cell? ⟨B, 0, none⟩ = some (.int .i64 5) ∧ w'.cell? ⟨B, 1, none⟩ = some (.int .i64 lo) ∧ w'.cell? ⟨B, 2, none⟩ = some (.int .i64 hi)) (ds := [11]) #[oN,oN,oN,oN,oN,oN,oN,oN,oN,oN,oN,oN,oN] (by kernel_rfl) rfl rfl ⟨msd.1, msd.2.1, msd.2.2.1, msd.2.2.2.1, msd.2.2.2.2.1, msd.2.2.2.2.2.1, msd.2.2.2.2.2.2⟩ (fun hHeld => ?_)
     refine pure_ (i := 0) (N := some 56) (v := ?_) (a' := ?_) #[oY,oN,oN,oN,oN,oN,oN,oN,oN,oN,oN,oN,oN] rfl rfl (by kernel_rfl) (fun _ _ _ h => h) (Or.inl ⟨by rfl, ?_⟩) ?_ ?_
     rotate_left
     ·intro w'
      go_simp
      with_reducible rfl
     rotate_left
     ·simp only [Act.put, List.setIfInBounds_toArray, List.set_cons_zero, List.set_cons_succ, i64_w, i32_w]
      rfl
     refine pure_ (i := 1) (N := some 57) (v := ?_) (a' := ?_) #[oY,oY,oN,oN,oN,oN,oN,oN,oN,oN,oN,oN,oN] rfl rfl (by kernel_rfl) (fun _ _ _ h => h) (Or.inl ⟨by rfl, ?_⟩) ?_ ?_
     rotate_left
     ·intro w'
      go_simp
      with_reducible rfl
     rotate_left
     ·simp only [Act.put, List.setIfInBounds_toArray, List.set_cons_zero, List.set_cons_succ, i64_w, i32_w]
      rfl
     refine pure_ (i := 2) (N := some 58) (v := ?_) (a' := ?_) #[oY,oY,oY,oN,oN,oN,oN,oN,oN,oN,oN,oN,oN] rfl rfl (by kernel_rfl) (fun _ _ _ h => h) (Or.inl ⟨by rfl, ?_⟩) ?_ ?_
     rotate_left
     ·intro w'
      go_simp
      with_reducible rfl
     rotate_left
     ·simp only [Act.put, List.setIfInBounds_toArray, List.set_cons_zero, List.set_cons_succ, i64_w, i32_w]
      rfl
     refine pure_ (i := 3) (N := some 59) (v := ?_) (a' := ?_) #[oY,oY,oY,oY,oN,oN,oN,oN,oN,oN,oN,oN,oN] rfl rfl (by kernel_rfl) (fun _ _ _ h => h) (Or.inl ⟨by rfl, ?_⟩) ?_ ?_
     rotate_left
     ·intro w'
      go_simp
      with_reducible rfl
     rotate_left
     ·simp only [Act.put, List.setIfInBounds_toArray, List.set_cons_zero, List.set_cons_succ, i64_w, i32_w]
      rfl
     refine take_ (i := 4) (N := some 60) (v := ?_) (a' := ?_) #[oY,oY,oY,oY,oY,oN,oN,oN,oN,oN,oN,oN,oN] rfl rfl (by kernel_rfl) (fun _ _ _ h => h) (Or.inl ⟨by rfl, ?_⟩) hHeld ?_ ?_
     rotate_left
     ·rintro w' ⟨s0, s1, s2, s3, s4, s5, s6⟩
      go_simp
      with_reducible rfl
     rotate_left
     ·simp only [Act.put, List.setIfInBounds_toArray, List.set_cons_zero, List.set_cons_succ, i64_w, i32_w]
      rfl
     refine take_ (i := 5) (N := some 61) (v := ?_) (a' := ?_) #[oY,oY,oY,oY,oY,oY,oN,oN,oN,oN,oN,oN,oN] rfl rfl (by kernel_rfl) (fun _ _ _ h => h) (Or.inl ⟨by rfl, ?_⟩) hHeld ?_ ?_
     rotate_left
     ·rintro w' ⟨s0, s1, s2, s3, s4, s5, s6⟩
      go_simp
      with_reducible rfl
     rotate_left
     ·simp only [Act.put, List.setIfInBounds_toArray, List.set_cons_zero, List.set_cons_succ, i64_w, i32_w]
      rfl
     refine join_ (σ := Nat) 2 #[oY,oY,oY,oY,oY,oY,oY,oY,oY,oY,oY,oN,oN] (fun s => [(62, .tuple #[.agg #[.int .i64 X, .int .i64 Y, .int .i64 Z], .bool true]), (55, .tuple #[.agg #[.int .i64 X, .int .i64 Y, .int .i64 Z], .bool true]), (63, .agg #[.int .i64 X, .int .i64 Y, .int .i64 Z]), (64, .bool true), (13, .pointer (some ⟨s, 0, none⟩))]) (fun s w' => (Fr (fun _ => False) wo w' ∧ w'.cell? ⟨r, off + j * 5 + 1, none⟩ = some (.int .i64 c.f1.f0) ∧ w'.cell? ⟨r, off + j * 5 + 2, none⟩ = some (.int .i64 c.f1.f1) ∧ w'.cell? ⟨r, off + j * 5 + 3, none⟩ = some (.int .i64 c.f1.f2) ∧ w'.cell? ⟨B, 0, none⟩ = some (.int .i64 5) ∧ w'.cell? ⟨B, 1, none⟩ = some (.int .i64 lo) ∧ w'.cell? ⟨B, 2, none⟩ = some (.int .i64 hi)) ∧ (Blk w' s #[.int .i64 0, .int .i64 0, .int .i64 0] 25 ∧ wo.heap.size ≤ s) ∧ True) ?_ ?_
     rotate_left
     ·intro hJ6_10
      refine join_ (σ := Nat) 3 #[oY,oY,oY,oY,oY,oY,oY,oY,oY,oY,oN,oN,oN] (fun s => [(62, .tuple #[.agg #[.int .i64 X, .int .i64 Y, .int .i64 Z], .bool true]), (55, .tuple #[.agg #[.int .i64 X, .int .i64 Y, .int .i64 Z], .bool true]), (63, .agg #[.int .i64 X, .int .i64 Y, .int .i64 Z]), (64, .bool true)]) (fun s w' => (Fr (fun _ => False) wo w' ∧ w'.cell? ⟨r, off + j * 5 + 1, none⟩ = some (.int .i64 c.f1.f0) ∧ w'.cell? ⟨r, off + j * 5 + 2, none⟩ = some (.int .i64 c.f1.f1) ∧ w'.cell? ⟨r, off + j * 5 + 3, none⟩ = some (.int .i64 c.f1.f2) ∧ w'.cell? ⟨B, 0, none⟩ = some (.int .i64 5) ∧ w'.cell? ⟨B, 1, none⟩ = some (.int .i64 lo) ∧ w'.cell? ⟨B, 2, none⟩ = some (.int .i64 hi)) ∧ True) ?_ ?_
      rotate_left
      ·intro hJ6
       refine join_ (σ := Nat) 6 #[oY,oY,oY,oY,oY,oY,oN,oN,oN,oN,oY,oN,oN] (fun s => [(13, .pointer (some ⟨s, 0, none⟩))]) (fun s w' => (Fr (fun _ => False) wo w' ∧ w'.cell? ⟨r, off + j * 5 + 1, none⟩ = some (.int .i64 c.f1.f0) ∧ w'.cell? ⟨r, off + j * 5 + 2, none⟩ = some (.int .i64 c.f1.f1) ∧ w'.cell? ⟨r, off + j * 5 + 3, none⟩ = some (.int .i64 c.f1.f2) ∧ w'.cell? ⟨B, 0, none⟩ = some (.int .i64 5) ∧ w'.cell? ⟨B, 1, none⟩ = some (.int .i64 lo) ∧ w'.cell? ⟨B, 2, none⟩ = some (.int .i64 hi)) ∧ (Blk w' s #[.int .i64 0, .int .i64 0, .int .i64 0] 25 ∧ wo.heap.size ≤ s) ∧ True) ?_ ?_
       rotate_left
       ·intro hJ10
        refine two_ (i := 6) (j := 10) (Ni := some 62) (Nj := some 13) #[oY,oY,oY,oY,oY,oY,oY,oN,oN,oN,oN,oN,oN] #[oY,oY,oY,oY,oY,oY,oN,oN,oN,oN,oY,oN,oN] rfl rfl rfl rfl (by kernel_rfl) (by decide) (by decide) (fun K hK => ?_) (fun K hK => ?_)
        ·skip
         refine goes_ Tryz.func18 (by kernel_rfl) rfl #[.agg #[.int .i64 c.f1.f0, .int .i64 c.f1.f1, .int .i64 c.f1.f2], .agg #[.int .i64 5, .int .i64 lo, .int .i64 hi]] (by rfl) rfl rfl (by simp only [List.map_toArray, List.map_cons, List.map_nil]; rfl) ?_
         refine (HMT.out _).mono ?_
         rintro e w9 ⟨rfl, k9⟩
         refine ⟨_, rfl, ?_⟩
         have hH := MK.out _ (hHeld.1.trans k9 (fun _ _ h => h))
         unfold MmS at hH
         refine hK.out _ _ ⟨hH.1, hH.2.1, hH.2.2.1, hH.2.2.2.1, hH.2.2.2.2.1, hH.2.2.2.2.2.1, hH.2.2.2.2.2.2⟩ (fun hHeld => ?_)
         clear hK K
         refine norm_ (a' := ?_) ?_ ?_
         rotate_left
         ·show Act.put _ (some 62) _ = _
          simp only [Act.put, List.setIfInBounds_toArray, List.set_cons_zero, List.set_cons_succ, i64_w, i32_w]
          rfl
         refine pure_ (i := 7) (N := some 55) (v := ?_) (a' := ?_) #[oY,oY,oY,oY,oY,oY,oY,oY,oN,oN,oN,oN,oN] rfl rfl (by kernel_rfl) (fun _ _ _ h => h) (Or.inl ⟨by rfl, ?_⟩) ?_ ?_
         rotate_left
         ·intro w'
          go_simp
          with_reducible rfl
         rotate_left
         ·simp only [Act.put, List.setIfInBounds_toArray, List.set_cons_zero, List.set_cons_succ, i64_w, i32_w]
          rfl
         refine pure_ (i := 8) (N := some 63) (v := ?_) (a' := ?_) #[oY,oY,oY,oY,oY,oY,oY,oY,oY,oN,oN,oN,oN] rfl rfl (by kernel_rfl) (fun _ _ _ h => h) (Or.inl ⟨by rfl, ?_⟩) ?_ ?_
         rotate_left
         ·intro w'
          go_simp
          with_reducible rfl
         rotate_left
         ·simp only [Act.put, List.setIfInBounds_toArray, List.set_cons_zero, List.set_cons_succ, i64_w, i32_w]
          rfl
         refine pure_ (i := 9) (N := some 64) (v := ?_) (a' := ?_) #[oY,oY,oY,oY,oY,oY,oY,oY,oY,oY,oN,oN,oN] rfl rfl (by kernel_rfl) (fun _ _ _ h => h) (Or.inl ⟨by rfl, ?_⟩) ?_ ?_
         rotate_left
         ·intro w'
          go_simp
          with_reducible rfl
         rotate_left
         ·simp only [Act.put, List.setIfInBounds_toArray, List.set_cons_zero, List.set_cons_succ, i64_w, i32_w]
          rfl
         exact norm_ (by first | (simp only [putAll, Act.put, List.setIfInBounds_toArray, List.set_cons_zero, List.set_cons_succ]; done) | (simp only [putAll, Act.put, List.setIfInBounds_toArray, List.set_cons_zero, List.set_cons_succ]; rfl)) (hJ6 0 _ ⟨hHeld, trivial⟩)
        ·skip
         refine value_ (w1 := ?_) (v := ?_) (by rfl) rfl ?_ ?_
         rotate_left 2
         ·go_simp
          constructor
          ·rfl
          ·rfl
         generalize hW : World.drew _ = w9
         have k9 : Fr (fun _ => False) wo w9 := by subst hW; (repeat' (first | (with_reducible exact Fr.refl _ _) | (with_reducible assumption) | (with_reducible refine Fr.alloc ?_ _) | (with_reducible refine Fr.drew ?_) | (with_reducible refine Fr.drewN ?_ _) | (with_reducible refine Fr.setCell ?_ _ _ ?_) | (exact Or.inr rfl) | (left; simp; done) | (left; simp; omega) | (simp; done) | (simp; omega) | omega))
         have bn : Blk w9 wo.heap.size #[.int .i64 0, .int .i64 0, .int .i64 0] 25 := by subst hW; (repeat' (first | (with_reducible assumption) | (with_reducible apply Blk.drew) | (with_reducible apply Blk.drewN) | (with_reducible apply Blk.set) | (with_reducible apply Blk.other) | (exact Blk.new' _ _ _ (by first | rfl | (simp; done) | (simp; omega))) | (with_reducible apply Blk.alloc) | (with_reducible rfl) | (simp; done) | (simp; omega) | omega | rfl))
         have hbn : wo.heap.size ≤ wo.heap.size := Nat.le_refl _
         clear hW
         have hH := MK.out _ k9
         unfold MmS at hH
         refine hK.out _ _ ⟨hH.1, hH.2.1, hH.2.2.1, hH.2.2.2.1, hH.2.2.2.2.1, hH.2.2.2.2.2.1, hH.2.2.2.2.2.2⟩ (fun hHeld => ?_)
         clear hK K
         refine norm_ (a' := ?_) ?_ ?_
         rotate_left
         ·show Act.put _ (some 13) _ = _
          simp only [Act.put, List.setIfInBounds_toArray, List.set_cons_zero, List.set_cons_succ, i64_w, i32_w]
          rfl
         exact norm_ (by first | (simp only [putAll, Act.put, List.setIfInBounds_toArray, List.set_cons_zero, List.set_cons_succ]; done) | (simp only [putAll, Act.put, List.setIfInBounds_toArray, List.set_cons_zero, List.set_cons_succ]; rfl)) (hJ10 wo.heap.size _ ⟨hHeld, ⟨bn, hbn⟩, trivial⟩)
       ·skip
        rintro bx wd ⟨hHeld, hb, _⟩
        try simp only at hb
        refine norm_ (a' := ?_) ?_ ?_
        rotate_left
        ·simp only [putAll, Act.put, List.setIfInBounds_toArray, List.set_cons_zero, List.set_cons_succ]
         rfl
        refine one_ (i := 6) (N := some 62) #[oY,oY,oY,oY,oY,oY,oY,oN,oN,oN,oY,oN,oN] rfl rfl (by kernel_rfl) (by decide) (fun K hK => ?_)
        refine goes_ Tryz.func18 (by kernel_rfl) rfl #[.agg #[.int .i64 c.f1.f0, .int .i64 c.f1.f1, .int .i64 c.f1.f2], .agg #[.int .i64 5, .int .i64 lo, .int .i64 hi]] (by rfl) rfl rfl (by simp only [List.map_toArray, List.map_cons, List.map_nil]; rfl) ?_
        refine (HMT.out _).mono ?_
        rintro e w9 ⟨rfl, k9⟩
        refine ⟨_, rfl, ?_⟩
        have hH := MK.out _ (hHeld.1.trans k9 (fun _ _ h => h))
        unfold MmS at hH
        refine hK.out _ _ ⟨hH.1, hH.2.1, hH.2.2.1, hH.2.2.2.1, hH.2.2.2.2.1, hH.2.2.2.2.2.1, hH.2.2.2.2.2.2⟩ (fun hHeld => ?_)
        clear hK K
        refine norm_ (a' := ?_) ?_ ?_
        rotate_left
        ·show Act.put _ (some 62) _ = _
         simp only [Act.put, List.setIfInBounds_toArray, List.set_cons_zero, List.set_cons_succ, i64_w, i32_w]
         rfl
        refine pure_ (i := 7) (N := some 55) (v := ?_) (a' := ?_) #[oY,oY,oY,oY,oY,oY,oY,oY,oN,oN,oY,oN,oN] rfl rfl (by kernel_rfl) (fun _ _ _ h => h) (Or.inl ⟨by rfl, ?_⟩) ?_ ?_
        rotate_left
        ·intro w'
         go_simp
         with_reducible rfl
        rotate_left
        ·simp only [Act.put, List.setIfInBounds_toArray, List.set_cons_zero, List.set_cons_succ, i64_w, i32_w]
         rfl
        refine pure_ (i := 8) (N := some 63) (v := ?_) (a' := ?_) #[oY,oY,oY,oY,oY,oY,oY,oY,oY,oN,oY,oN,oN] rfl rfl (by kernel_rfl) (fun _ _ _ h => h) (Or.inl ⟨by rfl, ?_⟩) ?_ ?_
        rotate_left
        ·intro w'
         go_simp
         with_reducible rfl
        rotate_left
        ·simp only [Act.put, List.setIfInBounds_toArray, List.set_cons_zero, List.set_cons_succ, i64_w, i32_w]
         rfl
        refine pure_ (i := 9) (N := some 64) (v := ?_) (a' := ?_) #[oY,oY,oY,oY,oY,oY,oY,oY,oY,oY,oY,oN,oN] rfl rfl (by kernel_rfl) (fun _ _ _ h => h) (Or.inl ⟨by rfl, ?_⟩) ?_ ?_
        rotate_left
        ·intro w'
         go_simp
         with_reducible rfl
        rotate_left
        ·simp only [Act.put, List.setIfInBounds_toArray, List.set_cons_zero, List.set_cons_succ, i64_w, i32_w]
         rfl
        exact norm_ (by first | (simp only [putAll, Act.put, List.setIfInBounds_toArray, List.set_cons_zero, List.set_cons_succ]; done) | (simp only [putAll, Act.put, List.setIfInBounds_toArray, List.set_cons_zero, List.set_cons_succ]; rfl)) (hJ6_10 bx _ ⟨hHeld, ⟨hb.1.fr k9 (fun h => h), hb.2⟩, trivial⟩)
      ·skip
       rintro bx wd ⟨hHeld, _⟩
       refine norm_ (a' := ?_) ?_ ?_
       rotate_left
       ·simp only [putAll, Act.put, List.setIfInBounds_toArray, List.set_cons_zero, List.set_cons_succ]
        rfl
       refine one_ (i := 10) (N := some 13) #[oY,oY,oY,oY,oY,oY,oY,oY,oY,oY,oY,oN,oN] rfl rfl (by kernel_rfl) (by decide) (fun K hK => ?_)
       refine value_ (w1 := ?_) (v := ?_) (by rfl) rfl ?_ ?_
       rotate_left 2
       ·go_simp
        constructor
        ·rfl
        ·rfl
       generalize hW : World.alloc _ _ = w9
       have k9 : Fr (fun _ => False) wd w9 := by subst hW; (repeat' (first | (with_reducible exact Fr.refl _ _) | (with_reducible assumption) | (with_reducible refine Fr.alloc ?_ _) | (with_reducible refine Fr.drew ?_) | (with_reducible refine Fr.drewN ?_ _) | (with_reducible refine Fr.setCell ?_ _ _ ?_) | (exact Or.inr rfl) | (left; simp; done) | (left; simp; omega) | (simp; done) | (simp; omega) | omega))
       have bn : Blk w9 wd.heap.size #[.int .i64 0, .int .i64 0, .int .i64 0] 25 := by subst hW; (repeat' (first | (with_reducible assumption) | (with_reducible apply Blk.drew) | (with_reducible apply Blk.drewN) | (with_reducible apply Blk.set) | (with_reducible apply Blk.other) | (exact Blk.new' _ _ _ (by first | rfl | (simp; done) | (simp; omega))) | (with_reducible apply Blk.alloc) | (with_reducible rfl) | (simp; done) | (simp; omega) | omega | rfl))
       have hbn : wo.heap.size ≤ wd.heap.size := hHeld.1.size
       clear hW
       have hH := MK.out _ (hHeld.1.trans k9 (fun _ _ h => h))
       unfold MmS at hH
       refine hK.out _ _ ⟨hH.1, hH.2.1, hH.2.2.1, hH.2.2.2.1, hH.2.2.2.2.1, hH.2.2.2.2.2.1, hH.2.2.2.2.2.2⟩ (fun hHeld => ?_)
       clear hK K
       refine norm_ (a' := ?_) ?_ ?_
       rotate_left
       ·show Act.put _ (some 13) _ = _
        simp only [Act.put, List.setIfInBounds_toArray, List.set_cons_zero, List.set_cons_succ, i64_w, i32_w]
        rfl
       exact norm_ (by first | (simp only [putAll, Act.put, List.setIfInBounds_toArray, List.set_cons_zero, List.set_cons_succ]; done) | (simp only [putAll, Act.put, List.setIfInBounds_toArray, List.set_cons_zero, List.set_cons_succ]; rfl)) (hJ6_10 wd.heap.size _ ⟨hHeld, ⟨bn, hbn⟩, trivial⟩)
     rintro bx wd ⟨hHeld, hb, _⟩
     try simp only at hb
     refine norm_ (a' := ?_) ?_ ?_
     rotate_left
     ·simp only [putAll, Act.put, List.setIfInBounds_toArray, List.set_cons_zero, List.set_cons_succ]
      rfl
     refine last_ (i := 11) (N := none) #[oY,oY,oY,oY,oY,oY,oY,oY,oY,oY,oY,oY,oN] rfl rfl (by kernel_rfl) (by decide) (fun K hK => ?_)
     obtain ⟨q0, q1, q2, z0, z1, z2⟩ := hb.1.c3
     have lb := hb.1.lt
     refine skip_ (w1 := ?_) (by rfl) rfl ?_ ?_
     rotate_left
     ·go_simp
      rfl
     have hH := hHeld
     refine hK.out _ _ ?_
     clear hK K
     refine pure_ (i := 12) (N := some 14) (v := ?_) (a' := ?_) #[oY,oY,oY,oY,oY,oY,oY,oY,oY,oY,oY,oY,oY] rfl rfl (by kernel_rfl) (fun _ _ _ h => h) (Or.inl ⟨by rfl, ?_⟩) ?_ ?_
     rotate_left
     ·intro w'
      go_simp
      with_reducible rfl
     rotate_left
     ·simp only [Act.put, List.setIfInBounds_toArray, List.set_cons_zero, List.set_cons_succ, i64_w, i32_w]
      rfl
     refine done_ (by kernel_rfl) ?_
     generalize hW : World.setCell _ _ _ = w8
     have k8 : Fr (fun i => i = bx) wd w8 := by subst hW; (repeat' (first | (with_reducible exact Fr.refl _ _) | (with_reducible assumption) | (with_reducible refine Fr.alloc ?_ _) | (with_reducible refine Fr.drew ?_) | (with_reducible refine Fr.drewN ?_ _) | (with_reducible refine Fr.setCell ?_ _ _ ?_) | (exact Or.inr rfl) | (left; simp; done) | (left; simp; omega) | (simp; done) | (simp; omega) | omega))
     have K8 : Fr (fun _ => False) w3 w8 := fi.trans (hHeld.1.trans k8 (fun i hi e => by have := hb.2; omega)) (fun _ _ h => h)
     clear hW k8 hHeld hb msd fi HMT MK
     go_wp2
     go_roundw
     case rel => exact ⟨i + 1, by omega, by go_num, K8⟩
     case measure => simp [intOf]; omega
    ·obtain rfl : i = Wh.length := by omega
     clear hil hi' HI3 HWH HO
     have HFo := hidE (HF3.out.trans fi (fun _ _ h => h))
     have HBo := hidE (HBB.out.fr fi (fun h => h))
     have HHo := hidE (HBH.out.fr fi (fun h => h))
     have HCo := hidE (Kd.C_below HC3.out fi.below)
     clear HF3 HBB HBH HC3 fi
     obtain ⟨lo2, hi2, H2, hl2, hh2⟩ := HM.out
     obtain ⟨x2, hx2, _, hx20, _⟩ := HMF.out.left H2
     have hz2 := HMF.out.yes H2 hx2
     obtain ⟨M2, hM2⟩ : ∃ M, M = meanZ (spansOf x2) ⟨5, lo2, hi2⟩ := ⟨_, rfl⟩
     obtain ⟨J2, hJ2⟩ : ∃ J, J = jitZ (spansOf x2) ⟨5, lo2, hi2⟩ := ⟨_, rfl⟩
     obtain ⟨W2, hW2⟩ : ∃ Wh, Wh = x2.map (fun c => c.f0) := ⟨_, rfl⟩
     rw [← hM2, ← hJ2, ← hW2] at hz2
     have hF0 : 0 < F.length := by
      by_cases c : F.length = 0
      ·obtain rfl : F = [] := List.eq_nil_of_length_eq_zero c
       exact absurd HPOS.out (by simp)
      ·omega
     have HCH : Hid (∀ (W : World) (g c : Nat), Row W g c (F ++ [moreC lo hi]) → c ≤ maxLen → Calls Tryz.prog 9 #[.slice (some ⟨g, 0, none⟩) (F.length + 1) c] W fun e w' => ∃ An cn, e = .returned (.tuple #[.agg #[.int .i64 5, .int .i64 lo2, .int .i64 hi2, .int .i64 M2, .int .i64 J2, .slice An W2.length cn], .int .i64 0]) ∧ Fr (fun _ => False) W w') := hidE (fun W g c hr hc => by
      have hcl := hr.len
      have h := choose_at (hr.toC hc) hcl HMF.out.who HMF.out.div
      rw [hz2] at h
      have el : (F ++ [moreC lo hi]).length = F.length + 1 := by simp
      rw [el] at h
      refine h.mono ?_
      rintro e w' ⟨v, rfl, hv, k⟩
      obtain ⟨A, c', rfl, _, _⟩ := hv.sl
      exact ⟨A, c', rfl, k⟩)
     have HCL : Hid (∀ W : World, Fr (fun _ => False) wo W → Calls Tryz.prog 16 #[.slice AF F.length cF] W fun e w' => ∃ g c, e = .returned (.slice (some ⟨g, 0, none⟩) F.length c) ∧ W.heap.size ≤ g ∧ c ≤ maxLen ∧ Row w' g c F ∧ Fr (fun _ => False) W w') := hidE (fun W f => by
      refine (clone_at (Kd.C_below HCo.out f.below) hcF (by omega)).mono ?_
      rintro e w' ⟨v, rfl, hr, hb⟩
      obtain ⟨g, c, rfl, h1, h2, h3⟩ := row_R hr hF0
      exact ⟨g, c, rfl, h1, h2, h3, Fr.of_below hb (Nat.le_refl _) _⟩)
     have MK : Hid (∀ W : World, Fr (fun _ => False) wo W → MnS wo B lo hi W) := hidE (fun W f => MnS.of f (HHo.out.fr f (fun h => h)))
     clear hx2 hx20 hz2 hM2 hJ2 hW2 H2 HM HMF HCo HFS HWF hF0 HSP hc2
     have HL2 := hidE hl2
     have HH2 := hidE hh2
     clear hl2 hh2
     go_wp2_with fail
     have msd := MK.out _ (Fr.drew (Fr.refl (fun _ => False) wo))
     unfold MnS at msd
     refine start_ (n := 13) (S := fun w' => Fr (fun _ => False) wo w' ∧ w'.cell? ⟨B, 0, none⟩ = some (.int .i64 5) ∧ w'.cell? ⟨B, 1, none⟩ = some (.int .i64 lo) ∧ w'.cell? ⟨B, 2, none⟩ = some (.int .i64 hi)) (ds := [11]) #[oN,oN,oN,oN,oN,oN,oN,oN,oN,oN,oN,oN,oN] (by kernel_rfl) rfl rfl ⟨msd.1, msd.2.1, msd.2.2.1, msd.2.2.2⟩ (fun hHeld => ?_)
     refine pure_ (i := 0) (N := some 69) (v := ?_) (a' := ?_) #[oY,oN,oN,oN,oN,oN,oN,oN,oN,oN,oN,oN,oN] rfl rfl (by kernel_rfl) (fun _ _ _ h => h) (Or.inl ⟨by rfl, ?_⟩) ?_ ?_
     rotate_left
     ·intro w'
      go_simp
      with_reducible rfl
     rotate_left
     ·simp only [Act.put, List.setIfInBounds_toArray, List.set_cons_zero, List.set_cons_succ, i64_w, i32_w]
      rfl
     refine take_ (i := 2) (N := some 71) (v := ?_) (a' := ?_) #[oY,oN,oY,oN,oN,oN,oN,oN,oN,oN,oN,oN,oN] rfl rfl (by kernel_rfl) (fun _ _ _ h => h) (Or.inl ⟨by rfl, ?_⟩) hHeld ?_ ?_
     rotate_left
     ·rintro w' ⟨s0, s1, s2, s3⟩
      go_simp
      with_reducible rfl
     rotate_left
     ·simp only [Act.put, List.setIfInBounds_toArray, List.set_cons_zero, List.set_cons_succ, i64_w, i32_w]
      rfl
     refine pure_ (i := 3) (N := some 72) (v := ?_) (a' := ?_) #[oY,oN,oY,oY,oN,oN,oN,oN,oN,oN,oN,oN,oN] rfl rfl (by kernel_rfl) (fun _ _ _ h => h) (Or.inl ⟨by rfl, ?_⟩) ?_ ?_
     rotate_left
     ·intro w'
      go_simp
      with_reducible rfl
     rotate_left
     ·simp only [Act.put, List.setIfInBounds_toArray, List.set_cons_zero, List.set_cons_succ, i64_w, i32_w]
      rfl
     refine join_ (σ := Nat × Nat × Nat × Nat × Nat × Option Addr × Nat × Nat) 2 #[oY,oY,oY,oY,oY,oY,oY,oY,oY,oY,oY,oN,oN] (fun s => [(70, .slice (some ⟨s.1, 0, none⟩) F.length s.2.1), (73, .slice (some ⟨s.2.2.1, 0, none⟩) 1 1), (74, .slice (some ⟨s.2.2.2.1, 0, none⟩) (F.length + 1) s.2.2.2.2.1), (75, .tuple #[.agg #[.int .i64 5, .int .i64 lo2, .int .i64 hi2, .int .i64 M2, .int .i64 J2, .slice s.2.2.2.2.2.1 W2.length s.2.2.2.2.2.2.1], .int .i64 0]), (68, .tuple #[.agg #[.int .i64 5, .int .i64 lo2, .int .i64 hi2, .int .i64 M2, .int .i64 J2, .slice s.2.2.2.2.2.1 W2.length s.2.2.2.2.2.2.1], .int .i64 0]), (76, .agg #[.int .i64 5, .int .i64 lo2, .int .i64 hi2, .int .i64 M2, .int .i64 J2, .slice s.2.2.2.2.2.1 W2.length s.2.2.2.2.2.2.1]), (77, .int .i64 0), (15, .pointer (some ⟨s.2.2.2.2.2.2.2, 0, none⟩))]) (fun s w' => (Fr (fun _ => False) wo w' ∧ w'.cell? ⟨B, 0, none⟩ = some (.int .i64 5) ∧ w'.cell? ⟨B, 1, none⟩ = some (.int .i64 lo) ∧ w'.cell? ⟨B, 2, none⟩ = some (.int .i64 hi)) ∧ (Blk w' s.2.2.2.2.2.2.2 #[.int .i64 0, .int .i64 0, .int .i64 0, .int .i64 0, .int .i64 0, .slice none 0 0] 30 ∧ wo.heap.size ≤ s.2.2.2.2.2.2.2) ∧ True) ?_ ?_
     rotate_left
     ·intro hJ1_4_5_6_10
      refine join_ (σ := Nat × Nat × Nat × Nat × Nat × Option Addr × Nat × Nat) 3 #[oY,oY,oY,oY,oY,oY,oY,oY,oY,oY,oN,oN,oN] (fun s => [(70, .slice (some ⟨s.1, 0, none⟩) F.length s.2.1), (73, .slice (some ⟨s.2.2.1, 0, none⟩) 1 1), (74, .slice (some ⟨s.2.2.2.1, 0, none⟩) (F.length + 1) s.2.2.2.2.1), (75, .tuple #[.agg #[.int .i64 5, .int .i64 lo2, .int .i64 hi2, .int .i64 M2, .int .i64 J2, .slice s.2.2.2.2.2.1 W2.length s.2.2.2.2.2.2.1], .int .i64 0]), (68, .tuple #[.agg #[.int .i64 5, .int .i64 lo2, .int .i64 hi2, .int .i64 M2, .int .i64 J2, .slice s.2.2.2.2.2.1 W2.length s.2.2.2.2.2.2.1], .int .i64 0]), (76, .agg #[.int .i64 5, .int .i64 lo2, .int .i64 hi2, .int .i64 M2, .int .i64 J2, .slice s.2.2.2.2.2.1 W2.length s.2.2.2.2.2.2.1]), (77, .int .i64 0)]) (fun s w' => (Fr (fun _ => False) wo w' ∧ w'.cell? ⟨B, 0, none⟩ = some (.int .i64 5) ∧ w'.cell? ⟨B, 1, none⟩ = some (.int .i64 lo) ∧ w'.cell? ⟨B, 2, none⟩ = some (.int .i64 hi)) ∧ True) ?_ ?_
      rotate_left
      ·intro hJ1_4_5_6
       refine join_ (σ := Nat × Nat × Nat × Nat × Nat × Option Addr × Nat × Nat) 6 #[oY,oY,oY,oY,oY,oY,oN,oN,oN,oN,oY,oN,oN] (fun s => [(70, .slice (some ⟨s.1, 0, none⟩) F.length s.2.1), (73, .slice (some ⟨s.2.2.1, 0, none⟩) 1 1), (74, .slice (some ⟨s.2.2.2.1, 0, none⟩) (F.length + 1) s.2.2.2.2.1), (15, .pointer (some ⟨s.2.2.2.2.2.2.2, 0, none⟩))]) (fun s w' => (Fr (fun _ => False) wo w' ∧ w'.cell? ⟨B, 0, none⟩ = some (.int .i64 5) ∧ w'.cell? ⟨B, 1, none⟩ = some (.int .i64 lo) ∧ w'.cell? ⟨B, 2, none⟩ = some (.int .i64 hi)) ∧ (Row w' s.2.2.2.1 s.2.2.2.2.1 (F ++ [moreC lo hi]) ∧ s.2.2.2.2.1 ≤ maxLen) ∧ (Blk w' s.2.2.2.2.2.2.2 #[.int .i64 0, .int .i64 0, .int .i64 0, .int .i64 0, .int .i64 0, .slice none 0 0] 30 ∧ wo.heap.size ≤ s.2.2.2.2.2.2.2) ∧ True) ?_ ?_
       rotate_left
       ·intro hJ1_4_5_10
        refine join_ (σ := Nat × Nat × Nat × Nat × Nat × Option Addr × Nat × Nat) 7 #[oY,oY,oY,oY,oY,oY,oN,oN,oN,oN,oN,oN,oN] (fun s => [(70, .slice (some ⟨s.1, 0, none⟩) F.length s.2.1), (73, .slice (some ⟨s.2.2.1, 0, none⟩) 1 1), (74, .slice (some ⟨s.2.2.2.1, 0, none⟩) (F.length + 1) s.2.2.2.2.1)]) (fun s w' => (Fr (fun _ => False) wo w' ∧ w'.cell? ⟨B, 0, none⟩ = some (.int .i64 5) ∧ w'.cell? ⟨B, 1, none⟩ = some (.int .i64 lo) ∧ w'.cell? ⟨B, 2, none⟩ = some (.int .i64 hi)) ∧ (Row w' s.2.2.2.1 s.2.2.2.2.1 (F ++ [moreC lo hi]) ∧ s.2.2.2.2.1 ≤ maxLen) ∧ True) ?_ ?_
        rotate_left
        ·intro hJ1_4_5
         refine join_ (σ := Nat × Nat × Nat × Nat × Nat × Option Addr × Nat × Nat) 7 #[oY,oY,oY,oY,oY,oN,oN,oN,oN,oN,oY,oN,oN] (fun s => [(70, .slice (some ⟨s.1, 0, none⟩) F.length s.2.1), (73, .slice (some ⟨s.2.2.1, 0, none⟩) 1 1), (15, .pointer (some ⟨s.2.2.2.2.2.2.2, 0, none⟩))]) (fun s w' => (Fr (fun _ => False) wo w' ∧ w'.cell? ⟨B, 0, none⟩ = some (.int .i64 5) ∧ w'.cell? ⟨B, 1, none⟩ = some (.int .i64 lo) ∧ w'.cell? ⟨B, 2, none⟩ = some (.int .i64 hi)) ∧ (Row w' s.1 s.2.1 F ∧ wo.heap.size ≤ s.1 ∧ s.2.1 ≤ maxLen) ∧ Blk w' s.2.2.1 #[.int .i64 99, .int .i64 5, .int .i64 lo, .int .i64 hi, .int .i64 0] 27 ∧ (Blk w' s.2.2.2.2.2.2.2 #[.int .i64 0, .int .i64 0, .int .i64 0, .int .i64 0, .int .i64 0, .slice none 0 0] 30 ∧ wo.heap.size ≤ s.2.2.2.2.2.2.2) ∧ s.1 ≠ s.2.2.2.2.2.2.2 ∧ True) ?_ ?_
         rotate_left
         ·intro hJ1_4_10
          refine join_ (σ := Nat × Nat × Nat × Nat × Nat × Option Addr × Nat × Nat) 8 #[oY,oY,oY,oY,oY,oN,oN,oN,oN,oN,oN,oN,oN] (fun s => [(70, .slice (some ⟨s.1, 0, none⟩) F.length s.2.1), (73, .slice (some ⟨s.2.2.1, 0, none⟩) 1 1)]) (fun s w' => (Fr (fun _ => False) wo w' ∧ w'.cell? ⟨B, 0, none⟩ = some (.int .i64 5) ∧ w'.cell? ⟨B, 1, none⟩ = some (.int .i64 lo) ∧ w'.cell? ⟨B, 2, none⟩ = some (.int .i64 hi)) ∧ (Row w' s.1 s.2.1 F ∧ wo.heap.size ≤ s.1 ∧ s.2.1 ≤ maxLen) ∧ Blk w' s.2.2.1 #[.int .i64 99, .int .i64 5, .int .i64 lo, .int .i64 hi, .int .i64 0] 27 ∧ True) ?_ ?_
          rotate_left
          ·intro hJ1_4
           refine join_ (σ := Nat × Nat × Nat × Nat × Nat × Option Addr × Nat × Nat) 8 #[oY,oY,oY,oY,oN,oN,oN,oN,oN,oN,oY,oN,oN] (fun s => [(70, .slice (some ⟨s.1, 0, none⟩) F.length s.2.1), (15, .pointer (some ⟨s.2.2.2.2.2.2.2, 0, none⟩))]) (fun s w' => (Fr (fun _ => False) wo w' ∧ w'.cell? ⟨B, 0, none⟩ = some (.int .i64 5) ∧ w'.cell? ⟨B, 1, none⟩ = some (.int .i64 lo) ∧ w'.cell? ⟨B, 2, none⟩ = some (.int .i64 hi)) ∧ (Row w' s.1 s.2.1 F ∧ wo.heap.size ≤ s.1 ∧ s.2.1 ≤ maxLen) ∧ (Blk w' s.2.2.2.2.2.2.2 #[.int .i64 0, .int .i64 0, .int .i64 0, .int .i64 0, .int .i64 0, .slice none 0 0] 30 ∧ wo.heap.size ≤ s.2.2.2.2.2.2.2) ∧ s.1 ≠ s.2.2.2.2.2.2.2 ∧ True) ?_ ?_
           rotate_left
           ·intro hJ1_10
            refine join_ (σ := Nat × Nat × Nat × Nat × Nat × Option Addr × Nat × Nat) 8 #[oY,oN,oY,oY,oY,oN,oN,oN,oN,oN,oY,oN,oN] (fun s => [(73, .slice (some ⟨s.2.2.1, 0, none⟩) 1 1), (15, .pointer (some ⟨s.2.2.2.2.2.2.2, 0, none⟩))]) (fun s w' => (Fr (fun _ => False) wo w' ∧ w'.cell? ⟨B, 0, none⟩ = some (.int .i64 5) ∧ w'.cell? ⟨B, 1, none⟩ = some (.int .i64 lo) ∧ w'.cell? ⟨B, 2, none⟩ = some (.int .i64 hi)) ∧ Blk w' s.2.2.1 #[.int .i64 99, .int .i64 5, .int .i64 lo, .int .i64 hi, .int .i64 0] 27 ∧ (Blk w' s.2.2.2.2.2.2.2 #[.int .i64 0, .int .i64 0, .int .i64 0, .int .i64 0, .int .i64 0, .slice none 0 0] 30 ∧ wo.heap.size ≤ s.2.2.2.2.2.2.2) ∧ True) ?_ ?_
            rotate_left
            ·intro hJ4_10
             refine join_ (σ := Nat × Nat × Nat × Nat × Nat × Option Addr × Nat × Nat) 9 #[oY,oY,oY,oY,oN,oN,oN,oN,oN,oN,oN,oN,oN] (fun s => [(70, .slice (some ⟨s.1, 0, none⟩) F.length s.2.1)]) (fun s w' => (Fr (fun _ => False) wo w' ∧ w'.cell? ⟨B, 0, none⟩ = some (.int .i64 5) ∧ w'.cell? ⟨B, 1, none⟩ = some (.int .i64 lo) ∧ w'.cell? ⟨B, 2, none⟩ = some (.int .i64 hi)) ∧ (Row w' s.1 s.2.1 F ∧ wo.heap.size ≤ s.1 ∧ s.2.1 ≤ maxLen) ∧ True) ?_ ?_
             rotate_left
             ·intro hJ1
              refine join_ (σ := Nat × Nat × Nat × Nat × Nat × Option Addr × Nat × Nat) 9 #[oY,oN,oY,oY,oY,oN,oN,oN,oN,oN,oN,oN,oN] (fun s => [(73, .slice (some ⟨s.2.2.1, 0, none⟩) 1 1)]) (fun s w' => (Fr (fun _ => False) wo w' ∧ w'.cell? ⟨B, 0, none⟩ = some (.int .i64 5) ∧ w'.cell? ⟨B, 1, none⟩ = some (.int .i64 lo) ∧ w'.cell? ⟨B, 2, none⟩ = some (.int .i64 hi)) ∧ Blk w' s.2.2.1 #[.int .i64 99, .int .i64 5, .int .i64 lo, .int .i64 hi, .int .i64 0] 27 ∧ True) ?_ ?_
              rotate_left
              ·intro hJ4
               refine join_ (σ := Nat × Nat × Nat × Nat × Nat × Option Addr × Nat × Nat) 9 #[oY,oN,oY,oY,oN,oN,oN,oN,oN,oN,oY,oN,oN] (fun s => [(15, .pointer (some ⟨s.2.2.2.2.2.2.2, 0, none⟩))]) (fun s w' => (Fr (fun _ => False) wo w' ∧ w'.cell? ⟨B, 0, none⟩ = some (.int .i64 5) ∧ w'.cell? ⟨B, 1, none⟩ = some (.int .i64 lo) ∧ w'.cell? ⟨B, 2, none⟩ = some (.int .i64 hi)) ∧ (Blk w' s.2.2.2.2.2.2.2 #[.int .i64 0, .int .i64 0, .int .i64 0, .int .i64 0, .int .i64 0, .slice none 0 0] 30 ∧ wo.heap.size ≤ s.2.2.2.2.2.2.2) ∧ True) ?_ ?_
               rotate_left
               ·intro hJ10
                refine three_ (i := 1) (j := 4) (k := 10) (Ni := some 70) (Nj := some 73) (Nk := some 15) #[oY,oY,oY,oY,oN,oN,oN,oN,oN,oN,oN,oN,oN] #[oY,oN,oY,oY,oY,oN,oN,oN,oN,oN,oN,oN,oN] #[oY,oN,oY,oY,oN,oN,oN,oN,oN,oN,oY,oN,oN] rfl rfl rfl rfl rfl rfl (by kernel_rfl) (by decide) (by decide) (by decide) (fun K hK => ?_) (fun K hK => ?_) (fun K hK => ?_)
                ·skip
                 refine goes_ Tryz.func16 (by kernel_rfl) rfl #[.slice AF F.length cF] (by rfl) rfl rfl (by simp only [List.map_toArray, List.map_cons, List.map_nil]; rfl) ?_
                 refine (HCL.out _ hHeld.1).mono ?_
                 rintro e w9 ⟨gn, cn, rfl, hgn, hcn, rn, k9⟩
                 refine ⟨_, rfl, ?_⟩
                 have hgo : wo.heap.size ≤ gn := Nat.le_trans hHeld.1.size hgn
                 have hH := MK.out _ (hHeld.1.trans k9 (fun _ _ h => h))
                 unfold MnS at hH
                 refine hK.out _ _ ⟨hH.1, hH.2.1, hH.2.2.1, hH.2.2.2⟩ (fun hHeld => ?_)
                 clear hK K
                 refine norm_ (a' := ?_) ?_ ?_
                 rotate_left
                 ·show Act.put _ (some 70) _ = _
                  simp only [Act.put, List.setIfInBounds_toArray, List.set_cons_zero, List.set_cons_succ, i64_w, i32_w]
                  rfl
                 exact norm_ (by first | (simp only [putAll, Act.put, List.setIfInBounds_toArray, List.set_cons_zero, List.set_cons_succ]; done) | (simp only [putAll, Act.put, List.setIfInBounds_toArray, List.set_cons_zero, List.set_cons_succ]; rfl)) (hJ1 (gn, cn, 0, 0, 0, none, 0, 0) _ ⟨hHeld, ⟨rn, hgo, hcn⟩, trivial⟩)
                ·skip
                 refine value_ (w1 := ?_) (v := ?_) (by rfl) rfl ?_ ?_
                 rotate_left 2
                 ·go_simp
                  constructor
                  ·rfl
                  ·rfl
                 generalize hW : World.drew _ = w9
                 have k9 : Fr (fun _ => False) wo w9 := by subst hW; (repeat' (first | (with_reducible exact Fr.refl _ _) | (with_reducible assumption) | (with_reducible refine Fr.alloc ?_ _) | (with_reducible refine Fr.drew ?_) | (with_reducible refine Fr.drewN ?_ _) | (with_reducible refine Fr.setCell ?_ _ _ ?_) | (exact Or.inr rfl) | (left; simp; done) | (left; simp; omega) | (simp; done) | (simp; omega) | omega))
                 have bn : Blk w9 wo.heap.size #[.int .i64 99, .int .i64 5, .int .i64 lo, .int .i64 hi, .int .i64 0] 27 := by subst hW; (repeat' (first | (with_reducible assumption) | (with_reducible apply Blk.drew) | (with_reducible apply Blk.drewN) | (with_reducible apply Blk.set) | (with_reducible apply Blk.other) | (exact Blk.new' _ _ _ (by first | rfl | (simp; done) | (simp; omega))) | (with_reducible apply Blk.alloc) | (with_reducible rfl) | (simp; done) | (simp; omega) | omega | rfl))
                 clear hW
                 have hH := MK.out _ k9
                 unfold MnS at hH
                 refine hK.out _ _ ⟨hH.1, hH.2.1, hH.2.2.1, hH.2.2.2⟩ (fun hHeld => ?_)
                 clear hK K
                 refine norm_ (a' := ?_) ?_ ?_
                 rotate_left
                 ·show Act.put _ (some 73) _ = _
                  simp only [Act.put, List.setIfInBounds_toArray, List.set_cons_zero, List.set_cons_succ, i64_w, i32_w]
                  rfl
                 exact norm_ (by first | (simp only [putAll, Act.put, List.setIfInBounds_toArray, List.set_cons_zero, List.set_cons_succ]; done) | (simp only [putAll, Act.put, List.setIfInBounds_toArray, List.set_cons_zero, List.set_cons_succ]; rfl)) (hJ4 (0, 0, wo.heap.size, 0, 0, none, 0, 0) _ ⟨hHeld, bn, trivial⟩)
                ·skip
                 refine value_ (w1 := ?_) (v := ?_) (by rfl) rfl ?_ ?_
                 rotate_left 2
                 ·go_simp
                  constructor
                  ·rfl
                  ·rfl
                 generalize hW : World.drew _ = w9
                 have k9 : Fr (fun _ => False) wo w9 := by subst hW; (repeat' (first | (with_reducible exact Fr.refl _ _) | (with_reducible assumption) | (with_reducible refine Fr.alloc ?_ _) | (with_reducible refine Fr.drew ?_) | (with_reducible refine Fr.drewN ?_ _) | (with_reducible refine Fr.setCell ?_ _ _ ?_) | (exact Or.inr rfl) | (left; simp; done) | (left; simp; omega) | (simp; done) | (simp; omega) | omega))
                 have bn : Blk w9 wo.heap.size #[.int .i64 0, .int .i64 0, .int .i64 0, .int .i64 0, .int .i64 0, .slice none 0 0] 30 := by subst hW; (repeat' (first | (with_reducible assumption) | (with_reducible apply Blk.drew) | (with_reducible apply Blk.drewN) | (with_reducible apply Blk.set) | (with_reducible apply Blk.other) | (exact Blk.new' _ _ _ (by first | rfl | (simp; done) | (simp; omega))) | (with_reducible apply Blk.alloc) | (with_reducible rfl) | (simp; done) | (simp; omega) | omega | rfl))
                 have hbn : wo.heap.size ≤ wo.heap.size := Nat.le_refl _
                 clear hW
                 have hH := MK.out _ k9
                 unfold MnS at hH
                 refine hK.out _ _ ⟨hH.1, hH.2.1, hH.2.2.1, hH.2.2.2⟩ (fun hHeld => ?_)
                 clear hK K
                 refine norm_ (a' := ?_) ?_ ?_
                 rotate_left
                 ·show Act.put _ (some 15) _ = _
                  simp only [Act.put, List.setIfInBounds_toArray, List.set_cons_zero, List.set_cons_succ, i64_w, i32_w]
                  rfl
                 exact norm_ (by first | (simp only [putAll, Act.put, List.setIfInBounds_toArray, List.set_cons_zero, List.set_cons_succ]; done) | (simp only [putAll, Act.put, List.setIfInBounds_toArray, List.set_cons_zero, List.set_cons_succ]; rfl)) (hJ10 (0, 0, 0, 0, 0, none, 0, wo.heap.size) _ ⟨hHeld, ⟨bn, hbn⟩, trivial⟩)
               ·skip
                rintro ⟨g1, c1, b4, g5, c5, A6, c6, bx⟩ wd ⟨hHeld, hb, _⟩
                try simp only at hb
                refine norm_ (a' := ?_) ?_ ?_
                rotate_left
                ·simp only [putAll, Act.put, List.setIfInBounds_toArray, List.set_cons_zero, List.set_cons_succ]
                 rfl
                refine two_ (i := 1) (j := 4) (Ni := some 70) (Nj := some 73) #[oY,oY,oY,oY,oN,oN,oN,oN,oN,oN,oY,oN,oN] #[oY,oN,oY,oY,oY,oN,oN,oN,oN,oN,oY,oN,oN] rfl rfl rfl rfl (by kernel_rfl) (by decide) (by decide) (fun K hK => ?_) (fun K hK => ?_)
                ·skip
                 refine goes_ Tryz.func16 (by kernel_rfl) rfl #[.slice AF F.length cF] (by rfl) rfl rfl (by simp only [List.map_toArray, List.map_cons, List.map_nil]; rfl) ?_
                 refine (HCL.out _ hHeld.1).mono ?_
                 rintro e w9 ⟨gn, cn, rfl, hgn, hcn, rn, k9⟩
                 refine ⟨_, rfl, ?_⟩
                 have hgo : wo.heap.size ≤ gn := Nat.le_trans hHeld.1.size hgn
                 have hnn : gn ≠ bx := by have := hb.1.lt; omega
                 have hH := MK.out _ (hHeld.1.trans k9 (fun _ _ h => h))
                 unfold MnS at hH
                 refine hK.out _ _ ⟨hH.1, hH.2.1, hH.2.2.1, hH.2.2.2⟩ (fun hHeld => ?_)
                 clear hK K
                 refine norm_ (a' := ?_) ?_ ?_
                 rotate_left
                 ·show Act.put _ (some 70) _ = _
                  simp only [Act.put, List.setIfInBounds_toArray, List.set_cons_zero, List.set_cons_succ, i64_w, i32_w]
                  rfl
                 exact norm_ (by first | (simp only [putAll, Act.put, List.setIfInBounds_toArray, List.set_cons_zero, List.set_cons_succ]; done) | (simp only [putAll, Act.put, List.setIfInBounds_toArray, List.set_cons_zero, List.set_cons_succ]; rfl)) (hJ1_10 (gn, cn, 0, 0, 0, none, 0, bx) _ ⟨hHeld, ⟨rn, hgo, hcn⟩, ⟨hb.1.fr k9 (fun h => h), hb.2⟩, hnn, trivial⟩)
                ·skip
                 refine value_ (w1 := ?_) (v := ?_) (by rfl) rfl ?_ ?_
                 rotate_left 2
                 ·go_simp
                  constructor
                  ·rfl
                  ·rfl
                 generalize hW : World.alloc _ _ = w9
                 have k9 : Fr (fun _ => False) wd w9 := by subst hW; (repeat' (first | (with_reducible exact Fr.refl _ _) | (with_reducible assumption) | (with_reducible refine Fr.alloc ?_ _) | (with_reducible refine Fr.drew ?_) | (with_reducible refine Fr.drewN ?_ _) | (with_reducible refine Fr.setCell ?_ _ _ ?_) | (exact Or.inr rfl) | (left; simp; done) | (left; simp; omega) | (simp; done) | (simp; omega) | omega))
                 have bn : Blk w9 wd.heap.size #[.int .i64 99, .int .i64 5, .int .i64 lo, .int .i64 hi, .int .i64 0] 27 := by subst hW; (repeat' (first | (with_reducible assumption) | (with_reducible apply Blk.drew) | (with_reducible apply Blk.drewN) | (with_reducible apply Blk.set) | (with_reducible apply Blk.other) | (exact Blk.new' _ _ _ (by first | rfl | (simp; done) | (simp; omega))) | (with_reducible apply Blk.alloc) | (with_reducible rfl) | (simp; done) | (simp; omega) | omega | rfl))
                 clear hW
                 have hH := MK.out _ (hHeld.1.trans k9 (fun _ _ h => h))
                 unfold MnS at hH
                 refine hK.out _ _ ⟨hH.1, hH.2.1, hH.2.2.1, hH.2.2.2⟩ (fun hHeld => ?_)
                 clear hK K
                 refine norm_ (a' := ?_) ?_ ?_
                 rotate_left
                 ·show Act.put _ (some 73) _ = _
                  simp only [Act.put, List.setIfInBounds_toArray, List.set_cons_zero, List.set_cons_succ, i64_w, i32_w]
                  rfl
                 exact norm_ (by first | (simp only [putAll, Act.put, List.setIfInBounds_toArray, List.set_cons_zero, List.set_cons_succ]; done) | (simp only [putAll, Act.put, List.setIfInBounds_toArray, List.set_cons_zero, List.set_cons_succ]; rfl)) (hJ4_10 (0, 0, wd.heap.size, 0, 0, none, 0, bx) _ ⟨hHeld, bn, ⟨hb.1.fr k9 (fun h => h), hb.2⟩, trivial⟩)
              ·skip
               rintro ⟨g1, c1, b4, g5, c5, A6, c6, bx⟩ wd ⟨hHeld, h4, _⟩
               try simp only at h4
               refine norm_ (a' := ?_) ?_ ?_
               rotate_left
               ·simp only [putAll, Act.put, List.setIfInBounds_toArray, List.set_cons_zero, List.set_cons_succ]
                rfl
               refine two_ (i := 1) (j := 10) (Ni := some 70) (Nj := some 15) #[oY,oY,oY,oY,oY,oN,oN,oN,oN,oN,oN,oN,oN] #[oY,oN,oY,oY,oY,oN,oN,oN,oN,oN,oY,oN,oN] rfl rfl rfl rfl (by kernel_rfl) (by decide) (by decide) (fun K hK => ?_) (fun K hK => ?_)
               ·skip
                refine goes_ Tryz.func16 (by kernel_rfl) rfl #[.slice AF F.length cF] (by rfl) rfl rfl (by simp only [List.map_toArray, List.map_cons, List.map_nil]; rfl) ?_
                refine (HCL.out _ hHeld.1).mono ?_
                rintro e w9 ⟨gn, cn, rfl, hgn, hcn, rn, k9⟩
                refine ⟨_, rfl, ?_⟩
                have hgo : wo.heap.size ≤ gn := Nat.le_trans hHeld.1.size hgn
                have hH := MK.out _ (hHeld.1.trans k9 (fun _ _ h => h))
                unfold MnS at hH
                refine hK.out _ _ ⟨hH.1, hH.2.1, hH.2.2.1, hH.2.2.2⟩ (fun hHeld => ?_)
                clear hK K
                refine norm_ (a' := ?_) ?_ ?_
                rotate_left
                ·show Act.put _ (some 70) _ = _
                 simp only [Act.put, List.setIfInBounds_toArray, List.set_cons_zero, List.set_cons_succ, i64_w, i32_w]
                 rfl
                exact norm_ (by first | (simp only [putAll, Act.put, List.setIfInBounds_toArray, List.set_cons_zero, List.set_cons_succ]; done) | (simp only [putAll, Act.put, List.setIfInBounds_toArray, List.set_cons_zero, List.set_cons_succ]; rfl)) (hJ1_4 (gn, cn, b4, 0, 0, none, 0, 0) _ ⟨hHeld, ⟨rn, hgo, hcn⟩, h4.fr k9 (fun h => h), trivial⟩)
               ·skip
                refine value_ (w1 := ?_) (v := ?_) (by rfl) rfl ?_ ?_
                rotate_left 2
                ·go_simp
                 constructor
                 ·rfl
                 ·rfl
                generalize hW : World.alloc _ _ = w9
                have k9 : Fr (fun _ => False) wd w9 := by subst hW; (repeat' (first | (with_reducible exact Fr.refl _ _) | (with_reducible assumption) | (with_reducible refine Fr.alloc ?_ _) | (with_reducible refine Fr.drew ?_) | (with_reducible refine Fr.drewN ?_ _) | (with_reducible refine Fr.setCell ?_ _ _ ?_) | (exact Or.inr rfl) | (left; simp; done) | (left; simp; omega) | (simp; done) | (simp; omega) | omega))
                have bn : Blk w9 wd.heap.size #[.int .i64 0, .int .i64 0, .int .i64 0, .int .i64 0, .int .i64 0, .slice none 0 0] 30 := by subst hW; (repeat' (first | (with_reducible assumption) | (with_reducible apply Blk.drew) | (with_reducible apply Blk.drewN) | (with_reducible apply Blk.set) | (with_reducible apply Blk.other) | (exact Blk.new' _ _ _ (by first | rfl | (simp; done) | (simp; omega))) | (with_reducible apply Blk.alloc) | (with_reducible rfl) | (simp; done) | (simp; omega) | omega | rfl))
                have hbn : wo.heap.size ≤ wd.heap.size := hHeld.1.size
                clear hW
                have hH := MK.out _ (hHeld.1.trans k9 (fun _ _ h => h))
                unfold MnS at hH
                refine hK.out _ _ ⟨hH.1, hH.2.1, hH.2.2.1, hH.2.2.2⟩ (fun hHeld => ?_)
                clear hK K
                refine norm_ (a' := ?_) ?_ ?_
                rotate_left
                ·show Act.put _ (some 15) _ = _
                 simp only [Act.put, List.setIfInBounds_toArray, List.set_cons_zero, List.set_cons_succ, i64_w, i32_w]
                 rfl
                exact norm_ (by first | (simp only [putAll, Act.put, List.setIfInBounds_toArray, List.set_cons_zero, List.set_cons_succ]; done) | (simp only [putAll, Act.put, List.setIfInBounds_toArray, List.set_cons_zero, List.set_cons_succ]; rfl)) (hJ4_10 (0, 0, b4, 0, 0, none, 0, wd.heap.size) _ ⟨hHeld, h4.fr k9 (fun h => h), ⟨bn, hbn⟩, trivial⟩)
             ·skip
              rintro ⟨g1, c1, b4, g5, c5, A6, c6, bx⟩ wd ⟨hHeld, h1, _⟩
              try simp only at h1
              refine norm_ (a' := ?_) ?_ ?_
              rotate_left
              ·simp only [putAll, Act.put, List.setIfInBounds_toArray, List.set_cons_zero, List.set_cons_succ]
               rfl
              refine two_ (i := 4) (j := 10) (Ni := some 73) (Nj := some 15) #[oY,oY,oY,oY,oY,oN,oN,oN,oN,oN,oN,oN,oN] #[oY,oY,oY,oY,oN,oN,oN,oN,oN,oN,oY,oN,oN] rfl rfl rfl rfl (by kernel_rfl) (by decide) (by decide) (fun K hK => ?_) (fun K hK => ?_)
              ·skip
               refine value_ (w1 := ?_) (v := ?_) (by rfl) rfl ?_ ?_
               rotate_left 2
               ·go_simp
                constructor
                ·rfl
                ·rfl
               generalize hW : World.alloc _ _ = w9
               have k9 : Fr (fun _ => False) wd w9 := by subst hW; (repeat' (first | (with_reducible exact Fr.refl _ _) | (with_reducible assumption) | (with_reducible refine Fr.alloc ?_ _) | (with_reducible refine Fr.drew ?_) | (with_reducible refine Fr.drewN ?_ _) | (with_reducible refine Fr.setCell ?_ _ _ ?_) | (exact Or.inr rfl) | (left; simp; done) | (left; simp; omega) | (simp; done) | (simp; omega) | omega))
               have bn : Blk w9 wd.heap.size #[.int .i64 99, .int .i64 5, .int .i64 lo, .int .i64 hi, .int .i64 0] 27 := by subst hW; (repeat' (first | (with_reducible assumption) | (with_reducible apply Blk.drew) | (with_reducible apply Blk.drewN) | (with_reducible apply Blk.set) | (with_reducible apply Blk.other) | (exact Blk.new' _ _ _ (by first | rfl | (simp; done) | (simp; omega))) | (with_reducible apply Blk.alloc) | (with_reducible rfl) | (simp; done) | (simp; omega) | omega | rfl))
               clear hW
               have hH := MK.out _ (hHeld.1.trans k9 (fun _ _ h => h))
               unfold MnS at hH
               refine hK.out _ _ ⟨hH.1, hH.2.1, hH.2.2.1, hH.2.2.2⟩ (fun hHeld => ?_)
               clear hK K
               refine norm_ (a' := ?_) ?_ ?_
               rotate_left
               ·show Act.put _ (some 73) _ = _
                simp only [Act.put, List.setIfInBounds_toArray, List.set_cons_zero, List.set_cons_succ, i64_w, i32_w]
                rfl
               exact norm_ (by first | (simp only [putAll, Act.put, List.setIfInBounds_toArray, List.set_cons_zero, List.set_cons_succ]; done) | (simp only [putAll, Act.put, List.setIfInBounds_toArray, List.set_cons_zero, List.set_cons_succ]; rfl)) (hJ1_4 (g1, c1, wd.heap.size, 0, 0, none, 0, 0) _ ⟨hHeld, ⟨h1.1.fr k9 (fun h => h), h1.2⟩, bn, trivial⟩)
              ·skip
               refine value_ (w1 := ?_) (v := ?_) (by rfl) rfl ?_ ?_
               rotate_left 2
               ·go_simp
                constructor
                ·rfl
                ·rfl
               generalize hW : World.alloc _ _ = w9
               have k9 : Fr (fun _ => False) wd w9 := by subst hW; (repeat' (first | (with_reducible exact Fr.refl _ _) | (with_reducible assumption) | (with_reducible refine Fr.alloc ?_ _) | (with_reducible refine Fr.drew ?_) | (with_reducible refine Fr.drewN ?_ _) | (with_reducible refine Fr.setCell ?_ _ _ ?_) | (exact Or.inr rfl) | (left; simp; done) | (left; simp; omega) | (simp; done) | (simp; omega) | omega))
               have bn : Blk w9 wd.heap.size #[.int .i64 0, .int .i64 0, .int .i64 0, .int .i64 0, .int .i64 0, .slice none 0 0] 30 := by subst hW; (repeat' (first | (with_reducible assumption) | (with_reducible apply Blk.drew) | (with_reducible apply Blk.drewN) | (with_reducible apply Blk.set) | (with_reducible apply Blk.other) | (exact Blk.new' _ _ _ (by first | rfl | (simp; done) | (simp; omega))) | (with_reducible apply Blk.alloc) | (with_reducible rfl) | (simp; done) | (simp; omega) | omega | rfl))
               have hbn : wo.heap.size ≤ wd.heap.size := hHeld.1.size
               clear hW
               have hnn : g1 ≠ wd.heap.size := by have := h1.1.lt; omega
               have hH := MK.out _ (hHeld.1.trans k9 (fun _ _ h => h))
               unfold MnS at hH
               refine hK.out _ _ ⟨hH.1, hH.2.1, hH.2.2.1, hH.2.2.2⟩ (fun hHeld => ?_)
               clear hK K
               refine norm_ (a' := ?_) ?_ ?_
               rotate_left
               ·show Act.put _ (some 15) _ = _
                simp only [Act.put, List.setIfInBounds_toArray, List.set_cons_zero, List.set_cons_succ, i64_w, i32_w]
                rfl
               exact norm_ (by first | (simp only [putAll, Act.put, List.setIfInBounds_toArray, List.set_cons_zero, List.set_cons_succ]; done) | (simp only [putAll, Act.put, List.setIfInBounds_toArray, List.set_cons_zero, List.set_cons_succ]; rfl)) (hJ1_10 (g1, c1, 0, 0, 0, none, 0, wd.heap.size) _ ⟨hHeld, ⟨h1.1.fr k9 (fun h => h), h1.2⟩, ⟨bn, hbn⟩, hnn, trivial⟩)
            ·skip
             rintro ⟨g1, c1, b4, g5, c5, A6, c6, bx⟩ wd ⟨hHeld, h4, hb, _⟩
             try simp only at h4 hb
             refine norm_ (a' := ?_) ?_ ?_
             rotate_left
             ·simp only [putAll, Act.put, List.setIfInBounds_toArray, List.set_cons_zero, List.set_cons_succ]
              rfl
             refine one_ (i := 1) (N := some 70) #[oY,oY,oY,oY,oY,oN,oN,oN,oN,oN,oY,oN,oN] rfl rfl (by kernel_rfl) (by decide) (fun K hK => ?_)
             refine goes_ Tryz.func16 (by kernel_rfl) rfl #[.slice AF F.length cF] (by rfl) rfl rfl (by simp only [List.map_toArray, List.map_cons, List.map_nil]; rfl) ?_
             refine (HCL.out _ hHeld.1).mono ?_
             rintro e w9 ⟨gn, cn, rfl, hgn, hcn, rn, k9⟩
             refine ⟨_, rfl, ?_⟩
             have hgo : wo.heap.size ≤ gn := Nat.le_trans hHeld.1.size hgn
             have hnn : gn ≠ bx := by have := hb.1.lt; omega
             have hH := MK.out _ (hHeld.1.trans k9 (fun _ _ h => h))
             unfold MnS at hH
             refine hK.out _ _ ⟨hH.1, hH.2.1, hH.2.2.1, hH.2.2.2⟩ (fun hHeld => ?_)
             clear hK K
             refine norm_ (a' := ?_) ?_ ?_
             rotate_left
             ·show Act.put _ (some 70) _ = _
              simp only [Act.put, List.setIfInBounds_toArray, List.set_cons_zero, List.set_cons_succ, i64_w, i32_w]
              rfl
             exact norm_ (by first | (simp only [putAll, Act.put, List.setIfInBounds_toArray, List.set_cons_zero, List.set_cons_succ]; done) | (simp only [putAll, Act.put, List.setIfInBounds_toArray, List.set_cons_zero, List.set_cons_succ]; rfl)) (hJ1_4_10 (gn, cn, b4, 0, 0, none, 0, bx) _ ⟨hHeld, ⟨rn, hgo, hcn⟩, h4.fr k9 (fun h => h), ⟨hb.1.fr k9 (fun h => h), hb.2⟩, hnn, trivial⟩)
           ·skip
            rintro ⟨g1, c1, b4, g5, c5, A6, c6, bx⟩ wd ⟨hHeld, h1, hb, hne, _⟩
            try simp only at h1 hb hne
            refine norm_ (a' := ?_) ?_ ?_
            rotate_left
            ·simp only [putAll, Act.put, List.setIfInBounds_toArray, List.set_cons_zero, List.set_cons_succ]
             rfl
            refine one_ (i := 4) (N := some 73) #[oY,oY,oY,oY,oY,oN,oN,oN,oN,oN,oY,oN,oN] rfl rfl (by kernel_rfl) (by decide) (fun K hK => ?_)
            refine value_ (w1 := ?_) (v := ?_) (by rfl) rfl ?_ ?_
            rotate_left 2
            ·go_simp
             constructor
             ·rfl
             ·rfl
            generalize hW : World.alloc _ _ = w9
            have k9 : Fr (fun _ => False) wd w9 := by subst hW; (repeat' (first | (with_reducible exact Fr.refl _ _) | (with_reducible assumption) | (with_reducible refine Fr.alloc ?_ _) | (with_reducible refine Fr.drew ?_) | (with_reducible refine Fr.drewN ?_ _) | (with_reducible refine Fr.setCell ?_ _ _ ?_) | (exact Or.inr rfl) | (left; simp; done) | (left; simp; omega) | (simp; done) | (simp; omega) | omega))
            have bn : Blk w9 wd.heap.size #[.int .i64 99, .int .i64 5, .int .i64 lo, .int .i64 hi, .int .i64 0] 27 := by subst hW; (repeat' (first | (with_reducible assumption) | (with_reducible apply Blk.drew) | (with_reducible apply Blk.drewN) | (with_reducible apply Blk.set) | (with_reducible apply Blk.other) | (exact Blk.new' _ _ _ (by first | rfl | (simp; done) | (simp; omega))) | (with_reducible apply Blk.alloc) | (with_reducible rfl) | (simp; done) | (simp; omega) | omega | rfl))
            clear hW
            have hH := MK.out _ (hHeld.1.trans k9 (fun _ _ h => h))
            unfold MnS at hH
            refine hK.out _ _ ⟨hH.1, hH.2.1, hH.2.2.1, hH.2.2.2⟩ (fun hHeld => ?_)
            clear hK K
            refine norm_ (a' := ?_) ?_ ?_
            rotate_left
            ·show Act.put _ (some 73) _ = _
             simp only [Act.put, List.setIfInBounds_toArray, List.set_cons_zero, List.set_cons_succ, i64_w, i32_w]
             rfl
            exact norm_ (by first | (simp only [putAll, Act.put, List.setIfInBounds_toArray, List.set_cons_zero, List.set_cons_succ]; done) | (simp only [putAll, Act.put, List.setIfInBounds_toArray, List.set_cons_zero, List.set_cons_succ]; rfl)) (hJ1_4_10 (g1, c1, wd.heap.size, 0, 0, none, 0, bx) _ ⟨hHeld, ⟨h1.1.fr k9 (fun h => h), h1.2⟩, bn, ⟨hb.1.fr k9 (fun h => h), hb.2⟩, hne, trivial⟩)
          ·skip
           rintro ⟨g1, c1, b4, g5, c5, A6, c6, bx⟩ wd ⟨hHeld, h1, h4, _⟩
           try simp only at h1 h4
           refine norm_ (a' := ?_) ?_ ?_
           rotate_left
           ·simp only [putAll, Act.put, List.setIfInBounds_toArray, List.set_cons_zero, List.set_cons_succ]
            rfl
           refine two_ (i := 5) (j := 10) (Ni := some 74) (Nj := some 15) #[oY,oY,oY,oY,oY,oY,oN,oN,oN,oN,oN,oN,oN] #[oY,oY,oY,oY,oY,oN,oN,oN,oN,oN,oY,oN,oN] rfl rfl rfl rfl (by kernel_rfl) (by decide) (by decide) (fun K hK => ?_) (fun K hK => ?_)
           ·skip
            have kmW := k27.K wd
            refine Kd.R_append_rows_step k27 (Rr := k27.K wd) (w0 := wo) wo.heap.size rfl _ _ 22 27 (.agg #[.int .i64 0, .int .i64 0, .int .i64 0, .int .i64 0, .int .i64 0]) 40 rfl Tryz.underlying22 info27 rfl (by decide) (by omega) (.slice (some ⟨g1, 0, none⟩) F.length c1) F [moreC lo hi] (some ⟨b4, 0, none⟩) 1 1 (fun _ => True) (fun _ => False) ?aS1 ?aX1 ?aO1 ?aR1 (fun _ _ h => (k27_open h) ▸ k27_mkM _ _ _ _) (fun _ h => h.elim) (fun _ _ => trivial) ?aB1 hHeld.1.size ?aL1 ?_
            case aS1 => first | rfl | (go_simp; done)
            case aX1 => first | rfl | (go_simp; done)
            case aO1 => exact h1.1.to_R h1.2.1 h1.2.2
            case aR1 => exact (rowM h4).toC (by unfold maxLen; omega)
            case aB1 => exact hHeld.1.below
            case aL1 => omega
            clear kmW
            intro v9 w9 r9 b9 gr9 _
            have k9' : Fr (fun _ => False) wo w9 := Fr.of_below b9 (Nat.le_refl _) _
            have kg : Fr (fun i => i = g1) wd w9 := fr_of_grown gr9
            obtain ⟨gn, cn, rfl, hgn, hcn, rn⟩ := row_R r9 (by simp)
            simp only [List.length_append, List.length_singleton]
            have hH := MK.out _ k9'
            unfold MnS at hH
            refine hK.out _ _ ⟨hH.1, hH.2.1, hH.2.2.1, hH.2.2.2⟩ (fun hHeld => ?_)
            clear hK K
            refine norm_ (a' := ?_) ?_ ?_
            rotate_left
            ·show Act.put _ (some 74) _ = _
             simp only [Act.put, List.setIfInBounds_toArray, List.set_cons_zero, List.set_cons_succ, i64_w, i32_w]
             rfl
            exact norm_ (by first | (simp only [putAll, Act.put, List.setIfInBounds_toArray, List.set_cons_zero, List.set_cons_succ]; done) | (simp only [putAll, Act.put, List.setIfInBounds_toArray, List.set_cons_zero, List.set_cons_succ]; rfl)) (hJ1_4_5 (g1, c1, b4, gn, cn, none, 0, 0) _ ⟨hHeld, ⟨rn, hcn⟩, trivial⟩)
           ·skip
            refine value_ (w1 := ?_) (v := ?_) (by rfl) rfl ?_ ?_
            rotate_left 2
            ·go_simp
             constructor
             ·rfl
             ·rfl
            generalize hW : World.alloc _ _ = w9
            have k9 : Fr (fun _ => False) wd w9 := by subst hW; (repeat' (first | (with_reducible exact Fr.refl _ _) | (with_reducible assumption) | (with_reducible refine Fr.alloc ?_ _) | (with_reducible refine Fr.drew ?_) | (with_reducible refine Fr.drewN ?_ _) | (with_reducible refine Fr.setCell ?_ _ _ ?_) | (exact Or.inr rfl) | (left; simp; done) | (left; simp; omega) | (simp; done) | (simp; omega) | omega))
            have bn : Blk w9 wd.heap.size #[.int .i64 0, .int .i64 0, .int .i64 0, .int .i64 0, .int .i64 0, .slice none 0 0] 30 := by subst hW; (repeat' (first | (with_reducible assumption) | (with_reducible apply Blk.drew) | (with_reducible apply Blk.drewN) | (with_reducible apply Blk.set) | (with_reducible apply Blk.other) | (exact Blk.new' _ _ _ (by first | rfl | (simp; done) | (simp; omega))) | (with_reducible apply Blk.alloc) | (with_reducible rfl) | (simp; done) | (simp; omega) | omega | rfl))
            have hbn : wo.heap.size ≤ wd.heap.size := hHeld.1.size
            clear hW
            have hnn : g1 ≠ wd.heap.size := by have := h1.1.lt; omega
            have hH := MK.out _ (hHeld.1.trans k9 (fun _ _ h => h))
            unfold MnS at hH
            refine hK.out _ _ ⟨hH.1, hH.2.1, hH.2.2.1, hH.2.2.2⟩ (fun hHeld => ?_)
            clear hK K
            refine norm_ (a' := ?_) ?_ ?_
            rotate_left
            ·show Act.put _ (some 15) _ = _
             simp only [Act.put, List.setIfInBounds_toArray, List.set_cons_zero, List.set_cons_succ, i64_w, i32_w]
             rfl
            exact norm_ (by first | (simp only [putAll, Act.put, List.setIfInBounds_toArray, List.set_cons_zero, List.set_cons_succ]; done) | (simp only [putAll, Act.put, List.setIfInBounds_toArray, List.set_cons_zero, List.set_cons_succ]; rfl)) (hJ1_4_10 (g1, c1, b4, 0, 0, none, 0, wd.heap.size) _ ⟨hHeld, ⟨h1.1.fr k9 (fun h => h), h1.2⟩, h4.fr k9 (fun h => h), ⟨bn, hbn⟩, hnn, trivial⟩)
         ·skip
          rintro ⟨g1, c1, b4, g5, c5, A6, c6, bx⟩ wd ⟨hHeld, h1, h4, hb, hne, _⟩
          try simp only at h1 h4 hb hne
          refine norm_ (a' := ?_) ?_ ?_
          rotate_left
          ·simp only [putAll, Act.put, List.setIfInBounds_toArray, List.set_cons_zero, List.set_cons_succ]
           rfl
          refine one_ (i := 5) (N := some 74) #[oY,oY,oY,oY,oY,oY,oN,oN,oN,oN,oY,oN,oN] rfl rfl (by kernel_rfl) (by decide) (fun K hK => ?_)
          have kmW := k27.K wd
          refine Kd.R_append_rows_step k27 (Rr := k27.K wd) (w0 := wo) wo.heap.size rfl _ _ 22 27 (.agg #[.int .i64 0, .int .i64 0, .int .i64 0, .int .i64 0, .int .i64 0]) 40 rfl Tryz.underlying22 info27 rfl (by decide) (by omega) (.slice (some ⟨g1, 0, none⟩) F.length c1) F [moreC lo hi] (some ⟨b4, 0, none⟩) 1 1 (fun _ => True) (fun _ => False) ?aS1 ?aX1 ?aO1 ?aR1 (fun _ _ h => (k27_open h) ▸ k27_mkM _ _ _ _) (fun _ h => h.elim) (fun _ _ => trivial) ?aB1 hHeld.1.size ?aL1 ?_
          case aS1 => first | rfl | (go_simp; done)
          case aX1 => first | rfl | (go_simp; done)
          case aO1 => exact h1.1.to_R h1.2.1 h1.2.2
          case aR1 => exact (rowM h4).toC (by unfold maxLen; omega)
          case aB1 => exact hHeld.1.below
          case aL1 => omega
          clear kmW
          intro v9 w9 r9 b9 gr9 _
          have k9' : Fr (fun _ => False) wo w9 := Fr.of_below b9 (Nat.le_refl _) _
          have kg : Fr (fun i => i = g1) wd w9 := fr_of_grown gr9
          obtain ⟨gn, cn, rfl, hgn, hcn, rn⟩ := row_R r9 (by simp)
          simp only [List.length_append, List.length_singleton]
          have hH := MK.out _ k9'
          unfold MnS at hH
          refine hK.out _ _ ⟨hH.1, hH.2.1, hH.2.2.1, hH.2.2.2⟩ (fun hHeld => ?_)
          clear hK K
          refine norm_ (a' := ?_) ?_ ?_
          rotate_left
          ·show Act.put _ (some 74) _ = _
           simp only [Act.put, List.setIfInBounds_toArray, List.set_cons_zero, List.set_cons_succ, i64_w, i32_w]
           rfl
          exact norm_ (by first | (simp only [putAll, Act.put, List.setIfInBounds_toArray, List.set_cons_zero, List.set_cons_succ]; done) | (simp only [putAll, Act.put, List.setIfInBounds_toArray, List.set_cons_zero, List.set_cons_succ]; rfl)) (hJ1_4_5_10 (g1, c1, b4, gn, cn, none, 0, bx) _ ⟨hHeld, ⟨rn, hcn⟩, ⟨hb.1.fr kg (fun e => hne e.symm), hb.2⟩, trivial⟩)
        ·skip
         rintro ⟨g1, c1, b4, g5, c5, A6, c6, bx⟩ wd ⟨hHeld, h5, _⟩
         try simp only at h5
         refine norm_ (a' := ?_) ?_ ?_
         rotate_left
         ·simp only [putAll, Act.put, List.setIfInBounds_toArray, List.set_cons_zero, List.set_cons_succ]
          rfl
         refine two_ (i := 6) (j := 10) (Ni := some 75) (Nj := some 15) #[oY,oY,oY,oY,oY,oY,oY,oN,oN,oN,oN,oN,oN] #[oY,oY,oY,oY,oY,oY,oN,oN,oN,oN,oY,oN,oN] rfl rfl rfl rfl (by kernel_rfl) (by decide) (by decide) (fun K hK => ?_) (fun K hK => ?_)
         ·skip
          refine goes_ Tryz.func9 (by kernel_rfl) rfl #[.slice (some ⟨g5, 0, none⟩) (F.length + 1) c5] (by rfl) rfl rfl (by simp only [List.map_toArray, List.map_cons, List.map_nil]; rfl) ?_
          refine (HCH.out wd g5 c5 h5.1 h5.2).mono ?_
          rintro e w9 ⟨An, cn, rfl, k9⟩
          refine ⟨_, rfl, ?_⟩
          have hH := MK.out _ (hHeld.1.trans k9 (fun _ _ h => h))
          unfold MnS at hH
          refine hK.out _ _ ⟨hH.1, hH.2.1, hH.2.2.1, hH.2.2.2⟩ (fun hHeld => ?_)
          clear hK K
          refine norm_ (a' := ?_) ?_ ?_
          rotate_left
          ·show Act.put _ (some 75) _ = _
           simp only [Act.put, List.setIfInBounds_toArray, List.set_cons_zero, List.set_cons_succ, i64_w, i32_w]
           rfl
          refine pure_ (i := 7) (N := some 68) (v := ?_) (a' := ?_) #[oY,oY,oY,oY,oY,oY,oY,oY,oN,oN,oN,oN,oN] rfl rfl (by kernel_rfl) (fun _ _ _ h => h) (Or.inl ⟨by rfl, ?_⟩) ?_ ?_
          rotate_left
          ·intro w'
           go_simp
           with_reducible rfl
          rotate_left
          ·simp only [Act.put, List.setIfInBounds_toArray, List.set_cons_zero, List.set_cons_succ, i64_w, i32_w]
           rfl
          refine pure_ (i := 8) (N := some 76) (v := ?_) (a' := ?_) #[oY,oY,oY,oY,oY,oY,oY,oY,oY,oN,oN,oN,oN] rfl rfl (by kernel_rfl) (fun _ _ _ h => h) (Or.inl ⟨by rfl, ?_⟩) ?_ ?_
          rotate_left
          ·intro w'
           go_simp
           with_reducible rfl
          rotate_left
          ·simp only [Act.put, List.setIfInBounds_toArray, List.set_cons_zero, List.set_cons_succ, i64_w, i32_w]
           rfl
          refine pure_ (i := 9) (N := some 77) (v := ?_) (a' := ?_) #[oY,oY,oY,oY,oY,oY,oY,oY,oY,oY,oN,oN,oN] rfl rfl (by kernel_rfl) (fun _ _ _ h => h) (Or.inl ⟨by rfl, ?_⟩) ?_ ?_
          rotate_left
          ·intro w'
           go_simp
           with_reducible rfl
          rotate_left
          ·simp only [Act.put, List.setIfInBounds_toArray, List.set_cons_zero, List.set_cons_succ, i64_w, i32_w]
           rfl
          exact norm_ (by first | (simp only [putAll, Act.put, List.setIfInBounds_toArray, List.set_cons_zero, List.set_cons_succ]; done) | (simp only [putAll, Act.put, List.setIfInBounds_toArray, List.set_cons_zero, List.set_cons_succ]; rfl)) (hJ1_4_5_6 (g1, c1, b4, g5, c5, An, cn, 0) _ ⟨hHeld, trivial⟩)
         ·skip
          refine value_ (w1 := ?_) (v := ?_) (by rfl) rfl ?_ ?_
          rotate_left 2
          ·go_simp
           constructor
           ·rfl
           ·rfl
          generalize hW : World.alloc _ _ = w9
          have k9 : Fr (fun _ => False) wd w9 := by subst hW; (repeat' (first | (with_reducible exact Fr.refl _ _) | (with_reducible assumption) | (with_reducible refine Fr.alloc ?_ _) | (with_reducible refine Fr.drew ?_) | (with_reducible refine Fr.drewN ?_ _) | (with_reducible refine Fr.setCell ?_ _ _ ?_) | (exact Or.inr rfl) | (left; simp; done) | (left; simp; omega) | (simp; done) | (simp; omega) | omega))
          have bn : Blk w9 wd.heap.size #[.int .i64 0, .int .i64 0, .int .i64 0, .int .i64 0, .int .i64 0, .slice none 0 0] 30 := by subst hW; (repeat' (first | (with_reducible assumption) | (with_reducible apply Blk.drew) | (with_reducible apply Blk.drewN) | (with_reducible apply Blk.set) | (with_reducible apply Blk.other) | (exact Blk.new' _ _ _ (by first | rfl | (simp; done) | (simp; omega))) | (with_reducible apply Blk.alloc) | (with_reducible rfl) | (simp; done) | (simp; omega) | omega | rfl))
          have hbn : wo.heap.size ≤ wd.heap.size := hHeld.1.size
          clear hW
          have hH := MK.out _ (hHeld.1.trans k9 (fun _ _ h => h))
          unfold MnS at hH
          refine hK.out _ _ ⟨hH.1, hH.2.1, hH.2.2.1, hH.2.2.2⟩ (fun hHeld => ?_)
          clear hK K
          refine norm_ (a' := ?_) ?_ ?_
          rotate_left
          ·show Act.put _ (some 15) _ = _
           simp only [Act.put, List.setIfInBounds_toArray, List.set_cons_zero, List.set_cons_succ, i64_w, i32_w]
           rfl
          exact norm_ (by first | (simp only [putAll, Act.put, List.setIfInBounds_toArray, List.set_cons_zero, List.set_cons_succ]; done) | (simp only [putAll, Act.put, List.setIfInBounds_toArray, List.set_cons_zero, List.set_cons_succ]; rfl)) (hJ1_4_5_10 (g1, c1, b4, g5, c5, none, 0, wd.heap.size) _ ⟨hHeld, ⟨h5.1.fr k9 (fun h => h), h5.2⟩, ⟨bn, hbn⟩, trivial⟩)
       ·skip
        rintro ⟨g1, c1, b4, g5, c5, A6, c6, bx⟩ wd ⟨hHeld, h5, hb, _⟩
        try simp only at h5 hb
        refine norm_ (a' := ?_) ?_ ?_
        rotate_left
        ·simp only [putAll, Act.put, List.setIfInBounds_toArray, List.set_cons_zero, List.set_cons_succ]
         rfl
        refine one_ (i := 6) (N := some 75) #[oY,oY,oY,oY,oY,oY,oY,oN,oN,oN,oY,oN,oN] rfl rfl (by kernel_rfl) (by decide) (fun K hK => ?_)
        refine goes_ Tryz.func9 (by kernel_rfl) rfl #[.slice (some ⟨g5, 0, none⟩) (F.length + 1) c5] (by rfl) rfl rfl (by simp only [List.map_toArray, List.map_cons, List.map_nil]; rfl) ?_
        refine (HCH.out wd g5 c5 h5.1 h5.2).mono ?_
        rintro e w9 ⟨An, cn, rfl, k9⟩
        refine ⟨_, rfl, ?_⟩
        have hH := MK.out _ (hHeld.1.trans k9 (fun _ _ h => h))
        unfold MnS at hH
        refine hK.out _ _ ⟨hH.1, hH.2.1, hH.2.2.1, hH.2.2.2⟩ (fun hHeld => ?_)
        clear hK K
        refine norm_ (a' := ?_) ?_ ?_
        rotate_left
        ·show Act.put _ (some 75) _ = _
         simp only [Act.put, List.setIfInBounds_toArray, List.set_cons_zero, List.set_cons_succ, i64_w, i32_w]
         rfl
        refine pure_ (i := 7) (N := some 68) (v := ?_) (a' := ?_) #[oY,oY,oY,oY,oY,oY,oY,oY,oN,oN,oY,oN,oN] rfl rfl (by kernel_rfl) (fun _ _ _ h => h) (Or.inl ⟨by rfl, ?_⟩) ?_ ?_
        rotate_left
        ·intro w'
         go_simp
         with_reducible rfl
        rotate_left
        ·simp only [Act.put, List.setIfInBounds_toArray, List.set_cons_zero, List.set_cons_succ, i64_w, i32_w]
         rfl
        refine pure_ (i := 8) (N := some 76) (v := ?_) (a' := ?_) #[oY,oY,oY,oY,oY,oY,oY,oY,oY,oN,oY,oN,oN] rfl rfl (by kernel_rfl) (fun _ _ _ h => h) (Or.inl ⟨by rfl, ?_⟩) ?_ ?_
        rotate_left
        ·intro w'
         go_simp
         with_reducible rfl
        rotate_left
        ·simp only [Act.put, List.setIfInBounds_toArray, List.set_cons_zero, List.set_cons_succ, i64_w, i32_w]
         rfl
        refine pure_ (i := 9) (N := some 77) (v := ?_) (a' := ?_) #[oY,oY,oY,oY,oY,oY,oY,oY,oY,oY,oY,oN,oN] rfl rfl (by kernel_rfl) (fun _ _ _ h => h) (Or.inl ⟨by rfl, ?_⟩) ?_ ?_
        rotate_left
        ·intro w'
         go_simp
         with_reducible rfl
        rotate_left
        ·simp only [Act.put, List.setIfInBounds_toArray, List.set_cons_zero, List.set_cons_succ, i64_w, i32_w]
         rfl
        exact norm_ (by first | (simp only [putAll, Act.put, List.setIfInBounds_toArray, List.set_cons_zero, List.set_cons_succ]; done) | (simp only [putAll, Act.put, List.setIfInBounds_toArray, List.set_cons_zero, List.set_cons_succ]; rfl)) (hJ1_4_5_6_10 (g1, c1, b4, g5, c5, An, cn, bx) _ ⟨hHeld, ⟨hb.1.fr k9 (fun h => h), hb.2⟩, trivial⟩)
      ·skip
       rintro ⟨g1, c1, b4, g5, c5, A6, c6, bx⟩ wd ⟨hHeld, _⟩
       refine norm_ (a' := ?_) ?_ ?_
       rotate_left
       ·simp only [putAll, Act.put, List.setIfInBounds_toArray, List.set_cons_zero, List.set_cons_succ]
        rfl
       refine one_ (i := 10) (N := some 15) #[oY,oY,oY,oY,oY,oY,oY,oY,oY,oY,oY,oN,oN] rfl rfl (by kernel_rfl) (by decide) (fun K hK => ?_)
       refine value_ (w1 := ?_) (v := ?_) (by rfl) rfl ?_ ?_
       rotate_left 2
       ·go_simp
        constructor
        ·rfl
        ·rfl
       generalize hW : World.alloc _ _ = w9
       have k9 : Fr (fun _ => False) wd w9 := by subst hW; (repeat' (first | (with_reducible exact Fr.refl _ _) | (with_reducible assumption) | (with_reducible refine Fr.alloc ?_ _) | (with_reducible refine Fr.drew ?_) | (with_reducible refine Fr.drewN ?_ _) | (with_reducible refine Fr.setCell ?_ _ _ ?_) | (exact Or.inr rfl) | (left; simp; done) | (left; simp; omega) | (simp; done) | (simp; omega) | omega))
       have bn : Blk w9 wd.heap.size #[.int .i64 0, .int .i64 0, .int .i64 0, .int .i64 0, .int .i64 0, .slice none 0 0] 30 := by subst hW; (repeat' (first | (with_reducible assumption) | (with_reducible apply Blk.drew) | (with_reducible apply Blk.drewN) | (with_reducible apply Blk.set) | (with_reducible apply Blk.other) | (exact Blk.new' _ _ _ (by first | rfl | (simp; done) | (simp; omega))) | (with_reducible apply Blk.alloc) | (with_reducible rfl) | (simp; done) | (simp; omega) | omega | rfl))
       have hbn : wo.heap.size ≤ wd.heap.size := hHeld.1.size
       clear hW
       have hH := MK.out _ (hHeld.1.trans k9 (fun _ _ h => h))
       unfold MnS at hH
       refine hK.out _ _ ⟨hH.1, hH.2.1, hH.2.2.1, hH.2.2.2⟩ (fun hHeld => ?_)
       clear hK K
       refine norm_ (a' := ?_) ?_ ?_
       rotate_left
       ·show Act.put _ (some 15) _ = _
        simp only [Act.put, List.setIfInBounds_toArray, List.set_cons_zero, List.set_cons_succ, i64_w, i32_w]
        rfl
       exact norm_ (by first | (simp only [putAll, Act.put, List.setIfInBounds_toArray, List.set_cons_zero, List.set_cons_succ]; done) | (simp only [putAll, Act.put, List.setIfInBounds_toArray, List.set_cons_zero, List.set_cons_succ]; rfl)) (hJ1_4_5_6_10 (g1, c1, b4, g5, c5, A6, c6, wd.heap.size) _ ⟨hHeld, ⟨bn, hbn⟩, trivial⟩)
     rintro ⟨g1, c1, b4, g5, c5, A6, c6, bx⟩ wd ⟨hHeld, hb, _⟩
     try simp only at hb
     refine norm_ (a' := ?_) ?_ ?_
     rotate_left
     ·simp only [putAll, Act.put, List.setIfInBounds_toArray, List.set_cons_zero, List.set_cons_succ]
      rfl
     refine last_ (i := 11) (N := none) #[oY,oY,oY,oY,oY,oY,oY,oY,oY,oY,oY,oY,oN] rfl rfl (by kernel_rfl) (by decide) (fun K hK => ?_)
     obtain ⟨⟨q0, q1, q2, q3, q4, q5⟩, z0, z1, z2, z3, z4, z5⟩ := hb.1.c6
     have lb := hb.1.lt
     refine skip_ (w1 := ?_) (by rfl) rfl ?_ ?_
     rotate_left
     ·go_simp
      rfl
     have hH := hHeld
     refine hK.out _ _ ?_
     clear hK K
     refine pure_ (i := 12) (N := some 16) (v := ?_) (a' := ?_) #[oY,oY,oY,oY,oY,oY,oY,oY,oY,oY,oY,oY,oY] rfl rfl (by kernel_rfl) (fun _ _ _ h => h) (Or.inl ⟨by rfl, ?_⟩) ?_ ?_
     rotate_left
     ·intro w'
      go_simp
      with_reducible rfl
     rotate_left
     ·simp only [Act.put, List.setIfInBounds_toArray, List.set_cons_zero, List.set_cons_succ, i64_w, i32_w]
      rfl
     refine done_ (by kernel_rfl) ?_
     generalize hW : World.setCell _ _ _ = w8
     have k8 : Fr (fun i => i = bx) wd w8 := by subst hW; (repeat' (first | (with_reducible exact Fr.refl _ _) | (with_reducible assumption) | (with_reducible refine Fr.alloc ?_ _) | (with_reducible refine Fr.drew ?_) | (with_reducible refine Fr.drewN ?_ _) | (with_reducible refine Fr.setCell ?_ _ _ ?_) | (exact Or.inr rfl) | (left; simp; done) | (left; simp; omega) | (simp; done) | (simp; omega) | omega))
     have b8 : Blk w8 bx #[.int .i64 5, .int .i64 lo2, .int .i64 hi2, .int .i64 M2, .int .i64 J2, .slice A6 W2.length c6] 30 := by subst hW; exact hb.1.set6 _ _ _ _ _ _
     have K8 : Fr (fun _ => False) wo w8 := hHeld.1.trans k8 (fun i hi e => by have := hb.2; omega)
     have bB8 := HBo.out.fr K8 (fun h => h)
     have F8 := HFo.out.trans K8 (fun _ _ h => h)
     clear hW k8 K8 hHeld hb msd HCH HCL MK HBo HHo HFo
     go_wp2_with fail
     refine (awk_at _).mono ?_
     rintro e w9 ⟨rfl, k9⟩
     obtain ⟨⟨y0, y1, y2, _⟩, _⟩ := (b8.fr k9 (fun h => h)).c6
     obtain ⟨⟨v0, v1, v2, _⟩, _⟩ := (bB8.fr k9 (fun h => h)).c6
     have F9 := F8.trans k9 (fun _ _ h => h)
     have t1 : decide (lo ≤ lo2) = true := decide_eq_true HL2.out
     have t2 : decide (hi2 ≤ hi) = true := decide_eq_true HH2.out
     clear b8 bB8 F8 k9
     go_wp2
     go_ret
     exact ⟨rfl, F9⟩
end Go.Proofs.YtapagoaoglmegaaGreat
end
