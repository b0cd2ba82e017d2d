/- ClusterLeaves: the walk. -/
import Derived.Test.YtapagoaoglmegaaClEq
import Derived.Test.YtapagoaoglmegaaClKnown
namespace Go.Proofs.Ytapagoaoglmegaa
open Go.RowKit Go.Proofs.YtapagoaoglmegaaW.PrintWords Go.Proofs.YtapagoaoglmegaaW.PrintLast Go.Proofs.YtapagoaoglmegaaW.PrintMore PCl
set_option linter.unusedVariables false
set_option linter.unusedSimpArgs false
set_option maxRecDepth 100000
/-- Are two candidates the same? -/
def sameC (c e : S27) : Bool := c.f0 == e.f0 && ((c.f1.f0 == e.f1.f0 && (c.f1.f1 == e.f1.f1 && (c.f1.f2 == e.f1.f2))) && (c.f2 == e.f2))
theorem sameC_self (c : S27) : sameC c c = true := by unfold sameC; simp
theorem sameC_ne {c e : S27} (h : c ≠ e) : sameC c e = false := by
  rw [Bool.eq_false_iff]
  intro q
  unfold sameC at q
  simp only [Bool.and_eq_true, beq_iff_eq] at q
  obtain ⟨h0, ⟨h1, h2, h3⟩, h4⟩ := q
  apply h
  obtain ⟨c0, ⟨c1, c2, c3⟩, c4⟩ := c
  obtain ⟨d0, ⟨d1, d2, d3⟩, d4⟩ := e
  simp only at h0 h1 h2 h3 h4
  subst h0 h1 h2 h3 h4
  rfl
theorem eqC (d : Nat) (w : World) (c e : S27) : (Op.equalIn (d + 3) 27 (.agg #[.int .i64 c.f0, .int .i64 c.f1.f0, .int .i64 c.f1.f1, .int .i64 c.f1.f2, .int .i64 c.f2]) (.agg #[.int .i64 e.f0, .int .i64 e.f1.f0, .int .i64 e.f1.f1, .int .i64 e.f1.f2, .int .i64 e.f2])).run Try.prog w = .ok (sameC c e) w := eqA27 d w _ _ _ _ _ _ _ _ _ _
attribute [local go_sem high] eqC
theorem cnt_snocL {p : S27 → Bool} {F : List S27} {i : Nat} {c : S27} (h : F[i]? = some c) : (F.take (i + 1)).countP p = (F.take i).countP p + if p c = true then 1 else 0 := by
  rw [List.take_add_one, h, List.countP_append]
  by_cases e : p c = true <;> simp [e]
set_option maxHeartbeats 16000000 in
theorem clusterLeaves_walk (A : Option Addr) (len cap : Nat) (lo wide : Int) (w : World) (h0 : RdS [.i .u32, .i .u16, .i .u16] w A len cap) (v1 : (Lit.int .u32 lo).wf = true) (v2 : (Lit.int .u32 wide).wf = true) :
    Calls Try.prog 4 #[.slice A len cap, .int .u32 lo, .int .u32 wide] w fun e w' => e = .returned (.bool true) ∧ Fr (fun _ => False) w w' := by
  obtain ⟨l, rfl, hc, hC, hN⟩ := near_open h0
  have hlo : 0 ≤ lo ∧ lo ≤ 4294967295 := by have := v1; simp [Lit.wf] at this; exact this
  have hwi : 0 ≤ wide ∧ wide ≤ 4294967295 := by have := v2; simp [Lit.wf] at this; exact this
  have hh : SpOk (hullL lo wide) := hullL_ok (by omega) (by omega)
  obtain ⟨x, hx⟩ := leaves_is hN hh rfl
  have HFd := hid (ephemerislaw23_field.calls 400 A cap l (fieldZ l) w hC hc (field_f hN hC.2.1 400 (by omega)))
  have hfld := fieldZ_fld hN
  have hwho := fieldZ_who l
  obtain ⟨F, hF⟩ : ∃ F, F = fieldZ l := ⟨_, rfl⟩
  rw [← hF] at hx HFd hfld hwho
  have hFl : F.length ≤ 16 := hfld.len
  have HX := hid hx
  have HFld := hid hfld
  have HWho := hid hwho
  obtain ⟨H, hH⟩ : ∃ H, H = hullL lo wide := ⟨_, rfl⟩
  rw [← hH] at HX hh
  have e0 : H.f0 = 9 := by rw [hH]; rfl
  have e1 : lo + 1048576 = H.f1 := by rw [hH]; rfl
  have e2 : H.f1 + wide = H.f2 := by rw [hH]; rfl
  have y1 : wrap64 lo = lo := IntWalk.wrap64_in _ (by omega)
  have y2 : wrap64 wide = wide := IntWalk.wrap64_in _ (by omega)
  have y3 : wrap64 (lo + 1048576) = lo + 1048576 := IntWalk.wrap64_in _ (by omega)
  have y4 : wrap64 (lo + 1048576 + wide) = lo + 1048576 + wide := IntWalk.wrap64_in _ (by omega)
  have z1 : IntKind.i64.wrap lo = lo := IntWalk.i64_in _ (by omega)
  have z2 : IntKind.i64.wrap wide = wide := IntWalk.i64_in _ (by omega)
  have z3 : IntKind.i64.wrap (lo + 1048576) = lo + 1048576 := IntWalk.i64_in _ (by omega)
  have z4 : IntKind.i64.wrap (lo + 1048576 + wide) = lo + 1048576 + wide := IntWalk.i64_in _ (by omega)
  have HH := hid hh
  have HE := hid (And.intro e0 (And.intro e1 e2))
  clear h0 v1 v2 hC hc hN hx hF hfld hwho hH hh e0 e1 e2
  go_enter Try.func4, Try.ntmps4
  go_wp2_with fail
  refine HFd.out.mono ?_
  rintro e w1 ⟨vF, rfl, hR1, k1'⟩
  have k1 := Fr.of_below k1' (Nat.le_refl _) (fun _ => False)
  obtain ⟨AF, cF, rfl, hcF, hCF⟩ := R_C hR1
  have HCF := hid hCF
  clear HFd hR1 k1' hCF
  go_upto_region 4 with fail
  generalize hW : World.alloc w1 _ = W2
  have fW : Fr (fun _ => False) w1 W2 := by subst hW; (repeat' (first | (with_reducible exact Fr.refl _ _) | (with_reducible assumption) | (with_reducible refine Fr.alloc ?_ _) | (with_reducible refine Fr.drew ?_) | (with_reducible refine Fr.drewN ?_ _) | (with_reducible refine Fr.setCell ?_ _ _ ?_) | (exact Or.inr rfl) | (left; simp; done) | (left; simp; omega) | (simp; done) | (simp; omega) | omega))
  have bB : Blk W2 w1.heap.size #[.int .i64 H.f0, .int .i64 H.f1, .int .i64 H.f2] 24 := by
    obtain ⟨e0, e1, e2⟩ := HE.out
    rw [e0, ← e2, ← e1]
    subst hW; (repeat' (first | (with_reducible assumption) | (with_reducible apply Blk.drew) | (with_reducible apply Blk.drewN) | (with_reducible apply Blk.set) | (with_reducible apply Blk.other) | (exact Blk.new' _ _ _ (by first | rfl | (simp; done) | (simp; omega))) | (with_reducible apply Blk.alloc) | (with_reducible rfl) | (simp; done) | (simp; omega) | omega | rfl))
  clear hW y1 y2 y3 y4 z1 z2 z3 z4
  have f2 := k1.trans fW (fun _ _ h => h)
  have HC2 : Hid (∀ W, Fr (fun _ => False) W2 W → Kd.C k27 W AF F.length F) := hid (fun W k => HCF.out W (fW.trans k (fun _ _ h => h)))
  obtain ⟨B, hB⟩ : ∃ B, B = w1.heap.size := ⟨_, rfl⟩
  rw [← hB] at bB ⊢
  have HB := hid bB
  clear hB HCF k1 fW bB hlo hwi
  go_wp2_with fail
  go_loopw [9, 39] (fun v9 v39 wr => ∃ i : Nat, i ≤ F.length ∧ v39 = .int .i64 (i : Int) ∧ v9 = .int .i64 (((F.take i).countP (keepB H) : Nat) : Int) ∧ Fr (fun _ => False) W2 wr) (fun _ v39 _ => F.length - (intOf v39).toNat)
  case atStart => exact ⟨0, Nat.zero_le _, rfl, by simp, Fr.refl _ _⟩
  case round =>
    obtain ⟨wo, rfl⟩ : ∃ wo : World, wo = wr := ⟨_, rfl⟩
    obtain ⟨i, hi, rfl, rfl, hf⟩ := hrel
    by_cases hlt : i < F.length
    · obtain ⟨r, off, rfl, hr, hat⟩ := C27_open (HC2.out W2 (Fr.refl _ _)) (by omega)
      obtain ⟨c, hcs⟩ : ∃ c, F[i]? = some c := ⟨_, List.getElem?_eq_getElem hlt⟩
      obtain ⟨a0, a1, a2, a3, a4⟩ := (hat i c hcs).fr hf (fun h => h)
      have b0 : wo.cell? ⟨B, 0, none⟩ = some (.int .i64 H.f0) := (HB.out.fr hf (fun h => h)).cell 0
      have b1 : wo.cell? ⟨B, 1, none⟩ = some (.int .i64 H.f1) := (HB.out.fr hf (fun h => h)).cell 1
      have b2 : wo.cell? ⟨B, 2, none⟩ = some (.int .i64 H.f2) := (HB.out.fr hf (fun h => h)).cell 2
      have hBl := (HB.out.fr hf (fun h => h)).lt
      have hsp : SpOk c.f1 := (HFld.out.span c (List.mem_of_getElem? hcs))
      obtain ⟨m0, m1, m2, hM⟩ := meet_at hsp HH.out
      have HM := hid hM
      have HS := hid (cnt_snocL (p := keepB H) hcs)
      have hcb : (F.take i).countP (keepB H) ≤ 16 := Nat.le_trans List.countP_le_length (by rw [List.length_take]; omega)
      obtain ⟨n, hn⟩ : ∃ n, n = (F.take i).countP (keepB H) := ⟨_, rfl⟩
      have HK : Hid (keepB H c = decide (Meets c.f1 H)) := hid rfl
      obtain ⟨q, hq⟩ : ∃ q, q = decide (Meets c.f1 H) := ⟨_, rfl⟩
      rw [← hq] at HM HK
      rw [← hn] at HS hcb ⊢
      have l1 : (i : Int) < (F.length : Int) := by omega
      clear hat hcs hsp hM hn hq
      go_wp2_with fail
      refine (HM.out _).mono ?_
      rintro e w3 ⟨rfl, k3⟩
      clear HM
      cases q with
      | true =>
        have hnx : Hid ((F.take (i + 1)).countP (keepB H) = n + 1) := hid (by rw [HS.out, HK.out, if_pos rfl])
        clear HS HK
        go_wp2_with fail
        go_roundw
        case rel => exact ⟨i + 1, by omega, by go_num, by rw [hnx.out]; go_num, (hf.trans (Fr.trans (by (repeat' (first | (with_reducible exact Fr.refl _ _) | (with_reducible assumption) | (with_reducible refine Fr.alloc ?_ _) | (with_reducible refine Fr.drew ?_) | (with_reducible refine Fr.drewN ?_ _) | (with_reducible refine Fr.setCell ?_ _ _ ?_) | (exact Or.inr rfl) | (left; simp; done) | (left; simp; omega) | (simp; done) | (simp; omega) | omega))) k3 (fun _ _ h => h)) (fun _ _ h => h)).trans (by (repeat' (first | (with_reducible exact Fr.refl _ _) | (with_reducible assumption) | (with_reducible refine Fr.alloc ?_ _) | (with_reducible refine Fr.drew ?_) | (with_reducible refine Fr.drewN ?_ _) | (with_reducible refine Fr.setCell ?_ _ _ ?_) | (exact Or.inr rfl) | (left; simp; done) | (left; simp; omega) | (simp; done) | (simp; omega) | omega))) (fun _ _ h => h)⟩
        case measure => simp [intOf]; omega
      | false =>
        have hnx : Hid ((F.take (i + 1)).countP (keepB H) = n) := hid (by rw [HS.out, HK.out, if_neg (by simp)]; rfl)
        clear HS HK
        go_wp2_with fail
        go_roundw
        case rel => exact ⟨i + 1, by omega, by go_num, by rw [hnx.out], (hf.trans (Fr.trans (by (repeat' (first | (with_reducible exact Fr.refl _ _) | (with_reducible assumption) | (with_reducible refine Fr.alloc ?_ _) | (with_reducible refine Fr.drew ?_) | (with_reducible refine Fr.drewN ?_ _) | (with_reducible refine Fr.setCell ?_ _ _ ?_) | (exact Or.inr rfl) | (left; simp; done) | (left; simp; omega) | (simp; done) | (simp; omega) | omega))) k3 (fun _ _ h => h)) (fun _ _ h => h)).trans (by (repeat' (first | (with_reducible exact Fr.refl _ _) | (with_reducible assumption) | (with_reducible refine Fr.alloc ?_ _) | (with_reducible refine Fr.drew ?_) | (with_reducible refine Fr.drewN ?_ _) | (with_reducible refine Fr.setCell ?_ _ _ ?_) | (exact Or.inr rfl) | (left; simp; done) | (left; simp; omega) | (simp; done) | (simp; omega) | omega))) (fun _ _ h => h)⟩
        case measure => simp [intOf]; omega
    · obtain rfl : i = F.length := by omega
      rw [List.take_length]
      have hx := HX.out
      obtain ⟨m, hm⟩ : ∃ m, m = F.countP (keepB H) := ⟨_, rfl⟩
      have hm16 : m ≤ 16 := by rw [hm]; exact Nat.le_trans List.countP_le_length hFl
      have hlow := hx.low
      have hup := hx.up
      have hfew := hx.few
      have hres := hx.res
      rw [← hm] at hlow hup hfew hres ⊢
      have b0 : wo.cell? ⟨B, 0, none⟩ = some (.int .i64 H.f0) := (HB.out.fr hf (fun h => h)).cell 0
      have b1 : wo.cell? ⟨B, 1, none⟩ = some (.int .i64 H.f1) := (HB.out.fr hf (fun h => h)).cell 1
      have b2 : wo.cell? ⟨B, 2, none⟩ = some (.int .i64 H.f2) := (HB.out.fr hf (fun h => h)).cell 2
      have hBl := (HB.out.fr hf (fun h => h)).lt
      clear hlt hm hx
      by_cases hm0 : m = 0
      · rw [if_pos hm0] at hres
        have HP := hid (pr_at (HC2.out wo hf) rfl hcF HWho.out hres)
        subst hm0
        clear hres hlow hup hfew
        go_wp2_with fail
        refine HP.out.mono ?_
        rintro e w3 ⟨vx, rfl, hR, k3⟩
        obtain ⟨Ax, cx, rfl, _, _⟩ := R_C hR
        clear HP hR
        simp only [List.length_nil]
        go_wp2_with fail
        refine (awk_at _).mono ?_
        rintro e w4 ⟨rfl, k4⟩
        go_wp2_with fail
        go_ret
        exact ⟨rfl, ((f2.trans hf (fun _ _ h => h)).trans k3 (fun _ _ h => h)).trans k4 (fun _ _ h => h)⟩
      · rw [if_neg hm0] at hres
        have HP := hid (pr_at (HC2.out wo hf) rfl hcF HWho.out hres)
        have hx0 : 0 < x.length := by omega
        have t1 : ((x.length : Int) < min (m : Int) 3) = False := by simp; omega
        have t2 : decide ((x.length : Int) < min (m : Int) 3) = false := decide_eq_false (by omega)
        have t3 : decide ((x.length : Int) > (m : Int)) = false := decide_eq_false (by omega)
        have t4 : (m : Int) ≤ 3 → (x.length : Int) = (m : Int) := fun h => by have := hfew (by omega); omega
        have t5 : ((m : Int) == 0) = false := beq_eq_false_iff_ne.2 (by omega)
        have HF3 := hid t4
        have HLU := hid (And.intro hlow hup)
        have hx16 : x.length ≤ 16 := by omega
        clear hres hlow hup hfew t4
        go_upto_region 14 with (fail)
        refine HP.out.mono ?_
        rintro e w3 ⟨vx, rfl, hR, k3⟩
        obtain ⟨Ax, cx, rfl, hcx, hCx⟩ := R_C hR
        have HCx := hid hCx
        clear HP hR hCx
        have f3 := hf.trans k3 (fun _ _ h => h)
        go_upto_region 14 with (fail)
        go_cut [96] (fun v96 wx => v96 = .bool false ∧ wx = w3)
        case first =>
          by_cases h3 : (m : Int) ≤ 3
          · have e3 := HF3.out h3
            have t6 : decide ((m : Int) ≤ 3) = true := decide_eq_true h3
            have t7 : ((x.length : Int) != (m : Int)) = false := by rw [bne_eq_false_iff_eq]; exact e3
            have E3 := hid e3
            clear e3
            go_wp2_with fail
            all_goals (go_meet; have e3 := E3.out; exact ⟨by first | rfl | (congr 1; simp; omega) | (exfalso; omega), rfl⟩)
          · have t6 : decide ((m : Int) ≤ 3) = false := decide_eq_false h3
            have H3 := hid h3
            clear h3
            go_wp2_with fail
            all_goals (go_meet; have h3 := H3.out; obtain ⟨q1, q2⟩ := HLU.out; exact ⟨by first | rfl | (congr 1; simp; omega) | (exfalso; omega), rfl⟩)
        case rest =>
          obtain ⟨w3', hw3⟩ : ∃ w3', w3' = wc := ⟨_, rfl⟩
          rw [← hw3] at hcut ⊢
          clear hw3
          obtain ⟨rfl, rfl⟩ := hcut
          clear t1 t2 t3 t5 HF3 b0 b1 b2 hBl
          obtain ⟨rx, offx, rfl, hrx, hatx⟩ := C27_open (HCx.out _ (Fr.refl _ _)) hx0
          obtain ⟨d0, hd0⟩ : ∃ d0, x[0]? = some d0 := ⟨_, List.getElem?_eq_getElem hx0⟩
          obtain ⟨a0, a1, a2, a3, a4⟩ := hatx 0 d0 hd0
          rw [Nat.zero_mul, Nat.add_zero] at a0 a1 a2 a3 a4
          have HD0 := hid hd0
          have hx0' : (0 : Int) < (x.length : Int) := by omega
          clear hatx hd0
          go_wp2_with fail
          have HSub := hid (HX.out.sub)
          have HM0 := hid (List.mem_of_getElem? HD0.out)
          clear a0 a1 a2 a3 a4 HD0
          go_loopw [16, 17, 103] (fun v16 v17 v103 wr => ∃ (k at_ : Nat) (least : Int), k ≤ x.length ∧ at_ ≤ F.length ∧ v16 = .int .i64 (at_ : Int) ∧ v17 = .int .i64 least ∧ v103 = .int .i64 (k : Int) ∧ Hid ((x.drop k).Sublist (F.drop at_)) ∧ Hid (∃ d ∈ x, least = d.f2) ∧ Fr (fun _ => False) w3' wr) (fun _ _ v103 _ => x.length - (intOf v103).toNat)
          case atStart => exact ⟨0, 0, d0.f2, Nat.zero_le _, Nat.zero_le _, rfl, rfl, rfl, hid HSub.out, hid ⟨d0, HM0.out, rfl⟩, Fr.refl _ _⟩
          case round =>
            obtain ⟨wp, rfl⟩ : ∃ wp : World, wp = wr := ⟨_, rfl⟩
            obtain ⟨k, at_, least, hk, hat, rfl, rfl, rfl, hsb, hls, hf4⟩ := hrel
            by_cases hlt : k < x.length
            · obtain ⟨c, hcs⟩ : ∃ c, x[k]? = some c := ⟨_, List.getElem?_eq_getElem hlt⟩
              have hdr : x.drop k = c :: x.drop (k + 1) := by
                rw [List.drop_eq_getElem_cons hlt]
                congr 1
                exact (List.getElem?_eq_some_iff.1 hcs).2
              obtain ⟨rx', offx', ex, hrx', hatx⟩ := C27_open (HCx.out _ hf4) hx0
              injection ex with ex
              injection ex with ex1 ex2 ex3
              subst ex1 ex2
              obtain ⟨a0, a1, a2, a3, a4⟩ := hatx k c hcs
              have l1 : (k : Int) < (x.length : Int) := by omega
              have HSB := hid (show (c :: x.drop (k + 1)).Sublist (F.drop at_) by rw [← hdr]; exact hsb.out)
              have HMc := hid (List.mem_of_getElem? hcs)
              clear hatx hcs hdr hsb
              go_wp2_with fail
              generalize hW : World.alloc wp _ = W5
              have f5 : Fr (fun _ => False) wp W5 := by subst hW; (repeat' (first | (with_reducible exact Fr.refl _ _) | (with_reducible assumption) | (with_reducible refine Fr.alloc ?_ _) | (with_reducible refine Fr.drew ?_) | (with_reducible refine Fr.drewN ?_ _) | (with_reducible refine Fr.setCell ?_ _ _ ?_) | (exact Or.inr rfl) | (left; simp; done) | (left; simp; omega) | (simp; done) | (simp; omega) | omega))
              have bC : Blk W5 wp.heap.size #[.int .i64 c.f0, .int .i64 c.f1.f0, .int .i64 c.f1.f1, .int .i64 c.f1.f2, .int .i64 c.f2] 27 := by subst hW; (repeat' (first | (with_reducible assumption) | (with_reducible apply Blk.drew) | (with_reducible apply Blk.drewN) | (with_reducible apply Blk.set) | (with_reducible apply Blk.other) | (exact Blk.new' _ _ _ (by first | rfl | (simp; done) | (simp; omega))) | (with_reducible apply Blk.alloc) | (with_reducible rfl) | (simp; done) | (simp; omega) | omega | rfl))
              clear hW a0 a1 a2 a3 a4
              obtain ⟨BC, hBC⟩ : ∃ BC, BC = wp.heap.size := ⟨_, rfl⟩
              rw [← hBC] at bC ⊢
              have HBC := hid bC
              have f45 := hf4.trans f5 (fun _ _ h => h)
              clear hBC bC f5
              go_loopw [16] (fun v16 wr => ∃ at_ : Nat, at_ ≤ F.length ∧ v16 = .int .i64 (at_ : Int) ∧ Hid ((c :: x.drop (k + 1)).Sublist (F.drop at_)) ∧ Fr (fun _ => False) W5 wr) (fun v16 _ => F.length - (intOf v16).toNat)
              case atStart => exact ⟨at_, hat, rfl, HSB, Fr.refl _ _⟩
              case round =>
                obtain ⟨wq, rfl⟩ : ∃ wq : World, wq = wr := ⟨_, rfl⟩
                clear hat HSB
                obtain ⟨at2, hat2, rfl, hsb, hf6⟩ := hrel
                have hal := srch_lt hsb.out
                have f46 := f45.trans hf6 (fun _ _ h => h)
                have f36 := f3.trans f46 (fun _ _ h => h)
                obtain ⟨rF, offF, rfl, hrF, hatF⟩ := C27_open (HC2.out _ f36) (by omega)
                obtain ⟨d, hds⟩ : ∃ d, F[at2]? = some d := ⟨_, List.getElem?_eq_getElem hal⟩
                obtain ⟨a0, a1, a2, a3, a4⟩ := hatF at2 d hds
                have bC2 := HBC.out.fr hf6 (fun h => h)
                have q0 : wq.cell? ⟨BC, 0, none⟩ = some (.int .i64 c.f0) := bC2.cell 0
                have q1 : wq.cell? ⟨BC, 1, none⟩ = some (.int .i64 c.f1.f0) := bC2.cell 1
                have q2 : wq.cell? ⟨BC, 2, none⟩ = some (.int .i64 c.f1.f1) := bC2.cell 2
                have q3 : wq.cell? ⟨BC, 3, none⟩ = some (.int .i64 c.f1.f2) := bC2.cell 3
                have q4 : wq.cell? ⟨BC, 4, none⟩ = some (.int .i64 c.f2) := bC2.cell 4
                have hBCl := bC2.lt
                have l2 : (at2 : Int) < (F.length : Int) := by omega
                have HDS := hid hds
                clear hatF bC2 hds
                by_cases hdc : d = c
                · subst hdc
                  have hsm : sameC d d = true := sameC_self d
                  have b0 : wq.cell? ⟨B, 0, none⟩ = some (.int .i64 H.f0) := (HB.out.fr f36 (fun h => h)).cell 0
                  have b1 : wq.cell? ⟨B, 1, none⟩ = some (.int .i64 H.f1) := (HB.out.fr f36 (fun h => h)).cell 1
                  have b2 : wq.cell? ⟨B, 2, none⟩ = some (.int .i64 H.f2) := (HB.out.fr f36 (fun h => h)).cell 2
                  have hBl := (HB.out.fr f36 (fun h => h)).lt
                  have hmt : keepB H d = true := HX.out.meet d HMc.out
                  have hsp : SpOk d.f1 := HFld.out.span d (List.mem_of_getElem? HDS.out)
                  obtain ⟨m0, m1, m2, hM⟩ := meet_at hsp HH.out
                  rw [show decide (Meets d.f1 H) = true from hmt] at hM
                  have HM2 := hid hM
                  have HMT := hid hmt
                  clear hM hsp hmt
                  have HSB2 := hid (srch_hit hsb.out)
                  go_wp2_with fail
                  go_quiet (fail)
                  go_wp2_with fail
                  refine (HM2.out _).mono ?_
                  rintro e w7 ⟨rfl, k7⟩
                  clear HM2
                  have hf7 : Fr (fun _ => False) W5 w7 := hf6.trans (Fr.trans (by (repeat' (first | (with_reducible exact Fr.refl _ _) | (with_reducible assumption) | (with_reducible refine Fr.alloc ?_ _) | (with_reducible refine Fr.drew ?_) | (with_reducible refine Fr.drewN ?_ _) | (with_reducible refine Fr.setCell ?_ _ _ ?_) | (exact Or.inr rfl) | (left; simp; done) | (left; simp; omega) | (simp; done) | (simp; omega) | omega))) k7 (fun _ _ h => h)) (fun _ _ h => h)
                  have bC7 := HBC.out.fr hf7 (fun h => h)
                  have r4 : w7.cell? ⟨BC, 4, none⟩ = some (.int .i64 d.f2) := bC7.cell 4
                  have hBCl7 := bC7.lt
                  have l3 : ((at2 : Int) == (F.length : Int)) = false := beq_eq_false_iff_ne.2 (by omega)
                  clear bC7 q0 q1 q2 q3 q4 b0 b1 b2 a0 a1 a2 a3 a4
                  have HL2 : Hid (∃ d' ∈ x, (if d.f2 < least then d.f2 else least) = d'.f2) := by
                    by_cases e : d.f2 < least
                    · exact hid ⟨d, HMc.out, if_pos e⟩
                    · rw [if_neg e]; exact hls
                  go_wp2_with fail
                  go_roundw
                  case rel => exact ⟨k + 1, at2, _, by omega, by omega, rfl, rfl, by go_num, HSB2, HL2, f45.trans (hf7.trans (by (repeat' (first | (with_reducible exact Fr.refl _ _) | (with_reducible assumption) | (with_reducible refine Fr.alloc ?_ _) | (with_reducible refine Fr.drew ?_) | (with_reducible refine Fr.drewN ?_ _) | (with_reducible refine Fr.setCell ?_ _ _ ?_) | (exact Or.inr rfl) | (left; simp; done) | (left; simp; omega) | (simp; done) | (simp; omega) | omega))) (fun _ _ h => h)) (fun _ _ h => h)⟩
                  case measure => simp [intOf]; omega
                · have hsm : sameC d c = false := sameC_ne hdc
                  have HST := hid (srch_step hsb.out HDS.out hdc)
                  clear hdc
                  go_wp2_with fail
                  go_quiet (fail)
                  go_wp2_with fail
                  go_roundw
                  case rel => exact ⟨at2 + 1, by omega, by go_num, HST, hf6.trans (by (repeat' (first | (with_reducible exact Fr.refl _ _) | (with_reducible assumption) | (with_reducible refine Fr.alloc ?_ _) | (with_reducible refine Fr.drew ?_) | (with_reducible refine Fr.drewN ?_ _) | (with_reducible refine Fr.setCell ?_ _ _ ?_) | (exact Or.inr rfl) | (left; simp; done) | (left; simp; omega) | (simp; done) | (simp; omega) | omega))) (fun _ _ h => h)⟩
                  case measure => simp [intOf]; omega
            · obtain rfl : k = x.length := by omega
              obtain ⟨dl, hdl, hle⟩ := hls.out
              have HC3 : Hid (3 < x.length → ∀ k, k < x.length → spreadZ x k ≤ least) := hid (fun h3 k hk => by rw [hle]; exact HX.out.calm h3 k hk dl hdl)
              have HXF := hid (HFld.out.sub HX.out.sub)
              have HXW := hid (HWho.out.sub HX.out.sub)
              clear hsb hls hlt hdl hle dl hat
              go_wp2_with fail
              go_loopw [143] (fun v143 wr => ∃ j : Nat, j ≤ x.length ∧ v143 = .int .i64 (j : Int) ∧ Fr (fun _ => False) wp wr) (fun v143 _ => x.length - (intOf v143).toNat)
              case atStart => exact ⟨0, Nat.zero_le _, rfl, Fr.refl _ _⟩
              case round =>
                obtain ⟨wt, rfl⟩ : ∃ wt : World, wt = wr := ⟨_, rfl⟩
                obtain ⟨j, hj, rfl, hf8⟩ := hrel
                have f48 := hf4.trans hf8 (fun _ _ h => h)
                by_cases hlt : j < x.length
                · have l5 : (j : Int) < (x.length : Int) := by omega
                  by_cases h3 : 3 < x.length
                  · have t1 : decide ((x.length : Int) > 3) = true := decide_eq_true (by omega)
                    have HS := hid (cluster_Spread.calls (some ⟨rx, offx, none⟩) cx x (j : Int) (spreadZ x j) wt (HCx.out wt f48) hcx (Spread_f HXF.out HXW.out hlt))
                    have t2 : decide (spreadZ x j > least) = false := decide_eq_false (by have := HC3.out h3 j hlt; omega)
                    clear h3
                    go_wp2_with fail
                    refine HS.out.mono ?_
                    rintro e w8 ⟨rfl, k8⟩
                    clear HS
                    go_wp2_with fail
                    go_roundw
                    case rel => exact ⟨j + 1, by omega, by go_num, hf8.trans (Fr.of_below k8 (Nat.le_refl _) _) (fun _ _ h => h)⟩
                    case measure => simp [intOf]; omega
                  · have t1 : decide ((x.length : Int) > 3) = false := decide_eq_false (by omega)
                    have H3 := hid h3
                    clear h3
                    go_wp2_with fail
                    go_roundw
                    case rel => exact ⟨j + 1, by omega, by go_num, hf8⟩
                    case measure => simp [intOf]; omega
                · obtain rfl : j = x.length := by omega
                  have f9 := f3.trans f48 (fun _ _ h => h)
                  have b0 : wt.cell? ⟨B, 0, none⟩ = some (.int .i64 H.f0) := (HB.out.fr f9 (fun h => h)).cell 0
                  have b1 : wt.cell? ⟨B, 1, none⟩ = some (.int .i64 H.f1) := (HB.out.fr f9 (fun h => h)).cell 1
                  have b2 : wt.cell? ⟨B, 2, none⟩ = some (.int .i64 H.f2) := (HB.out.fr f9 (fun h => h)).cell 2
                  have HP2 := hid (pr_at (HCx.out wt f48) rfl hcx HXW.out (HX.out.again hx0))
                  clear hlt
                  go_wp2_with fail
                  refine HP2.out.mono ?_
                  rintro e w9 ⟨vy, rfl, hR9, k9⟩
                  obtain ⟨Ay, cy, rfl, hcy, hCy⟩ := R_C hR9
                  have HCy := hid hCy
                  clear HP2 hR9 hCy b0 b1 b2
                  go_wp2_with fail
                  refine (awk_at _).mono ?_
                  rintro e w10 ⟨rfl, k10⟩
                  go_wp2_with fail
                  refine (ceq_at (HCy.out w10 k10) (HCx.out w10 ((f48.trans k9 (fun _ _ h => h)).trans k10 (fun _ _ h => h)))).mono ?_
                  rintro e w11 ⟨rfl, k11⟩
                  go_wp2_with fail
                  go_ret
                  exact ⟨rfl, f2.trans (((f9.trans k9 (fun _ _ h => h)).trans k10 (fun _ _ h => h)).trans k11 (fun _ _ h => h)) (fun _ _ h => h)⟩
end Go.Proofs.Ytapagoaoglmegaa
