/- The document's heap: Set. -/
import Derived.Test.YtkcfhdnlmdndeaaRfPush
namespace Go.Proofs.Ytkcfhdnlmdndeaa
open Go.RowKit Go.Proofs.YtkcfhdnlmdndeaaW.PrintWords Go.Proofs.YtkcfhdnlmdndeaaW.PrintLast Go.Proofs.YtkcfhdnlmdndeaaW.PrintMore PHp
set_option linter.unusedVariables false
set_option linter.unusedSimpArgs false
set_option maxRecDepth 100000
theorem settle_up {l : List It} {k : Nat} (h : ¬ (up k l k).2 = k) : settle l k = (up k l k).1 := if_neg h
theorem settle_down {l : List It} {k : Nat} (h : (up k l k).2 = k) : settle l k = down l.length l k := if_pos h
set_option maxHeartbeats 2000000 in
theorem rset_at {w : World} {g : Nat} {v : Value} {L : List It} {size : Int} {x : It} (h : RH w g v L size) :
    Calls Try.prog 25 #[.pointer (some ⟨g, 0, none⟩), vI x] w fun e w' => e = .returned (.int .i64 (setE L x)) ∧
      RH w' g v (setL L x) size ∧ Fr (Rt g v) w w' := by
  have H := hid h
  have hsm := h.small
  clear h
  cases hpl : place L x.f0 with
  | none =>
    have e1 : setE L x = 6 := by unfold setE; rw [hpl]; rfl
    have e2 : setL L x = L := by unfold setL; rw [hpl]
    rw [e1, e2]
    have HI := hid (plI_none hpl)
    clear hpl e1 e2
    go_enter Try.func25, Try.ntmps25
    go_wp2_with fail
    generalize hW : World.alloc w _ = W
    have f0 : Fr (fun _ => False) w W := by subst hW; (repeat' (first | (with_reducible exact Fr.refl _ _) | (with_reducible assumption) | (with_reducible refine Fr.alloc ?_ _) | (with_reducible refine Fr.drew ?_) | (with_reducible refine Fr.drewN ?_ _) | (with_reducible refine Fr.setCell ?_ _ _ ?_) | (exact Or.inr rfl) | (left; simp; done) | (left; simp; omega) | (simp; done) | (simp; omega) | omega))
    have bX : Blk W w.heap.size #[.int .u64 x.f0, .int .u64 x.f1, .int .i64 x.f2] 50 := by subst hW; (repeat' (first | (with_reducible assumption) | (with_reducible apply Blk.drew) | (with_reducible apply Blk.drewN) | (with_reducible apply Blk.set) | (with_reducible apply Blk.other) | (exact Blk.new' _ _ _ (by first | rfl | (simp; done) | (simp; omega))) | (with_reducible apply Blk.alloc) | (with_reducible rfl) | (simp; done) | (simp; omega) | omega | rfl))
    clear hW
    have h1 := H.out.fr0 f0
    refine (rplace_at h1.blk h1.its).mono ?_
    rintro e w1 ⟨rfl, rfl⟩
    rw [HI.out]
    go_wp2
    go_ret
    exact ⟨rfl, h1, f0.mono (fun _ _ h => h.elim)⟩
  | some k =>
    have e1 : setE L x = 0 := by unfold setE; rw [hpl]; rfl
    have e2 : setL L x = settle (L.set k x) k := by unfold setL; rw [hpl]
    rw [e1, e2]
    obtain ⟨hk, _, _⟩ := place_some hpl
    have HI := hid (plI_some hpl)
    rcases H.out.form with ⟨_, hnil⟩ | ⟨r, cap, hv, hp⟩
    · rw [hnil] at hk; simp at hk
    obtain ⟨M, hM⟩ : ∃ M, M = L.set k x := ⟨_, rfl⟩
    rw [← hM]
    obtain ⟨N, hN⟩ : ∃ N, N = settle M k := ⟨_, rfl⟩
    rw [← hN]
    have hlM : M.length = L.length := by rw [hM, List.length_set]
    have HV := hid hv
    have HP0 := hid hp
    have HMM := hid hM
    have HNN := hid hN
    have HLM := hid hlM
    have a0 : ¬ (k : Int) < 0 := by omega
    have a1 : (k : Int) < (L.length : Int) := by omega
    clear hpl e1 e2 hv hp hM hN hlM
    go_enter Try.func25, Try.ntmps25
    go_wp2_with fail
    generalize hW : World.alloc w _ = W
    have f0 : Fr (fun _ => False) w W := by subst hW; (repeat' (first | (with_reducible exact Fr.refl _ _) | (with_reducible assumption) | (with_reducible refine Fr.alloc ?_ _) | (with_reducible refine Fr.drew ?_) | (with_reducible refine Fr.drewN ?_ _) | (with_reducible refine Fr.setCell ?_ _ _ ?_) | (exact Or.inr rfl) | (left; simp; done) | (left; simp; omega) | (simp; done) | (simp; omega) | omega))
    have bX : Blk W w.heap.size #[.int .u64 x.f0, .int .u64 x.f1, .int .i64 x.f2] 50 := by subst hW; (repeat' (first | (with_reducible assumption) | (with_reducible apply Blk.drew) | (with_reducible apply Blk.drewN) | (with_reducible apply Blk.set) | (with_reducible apply Blk.other) | (exact Blk.new' _ _ _ (by first | rfl | (simp; done) | (simp; omega))) | (with_reducible apply Blk.alloc) | (with_reducible rfl) | (simp; done) | (simp; omega) | omega | rfl))
    clear hW
    have h1 := H.out.fr0 f0
    have r1 := HP0.out.fr0 f0
    refine (rplace_at h1.blk h1.its).mono ?_
    rintro e w1 ⟨rfl, rfl⟩
    rw [HI.out]
    have gX : r ≠ w.heap.size := by have := HP0.out.row.lt; omega
    have hb := r1.blk
    have hr := r1.row
    have ngr := r1.gr
    clear h1 r1
    have b0 := hb.cell 0
    have x0 := bX.cell 0
    have x1 := bX.cell 1
    have x2 := bX.cell 2
    simp at b0 x0 x1 x2
    obtain ⟨c, hcc⟩ : ∃ c, L[k]? = some c := ⟨_, List.getElem?_eq_getElem hk⟩
    obtain ⟨d0, d1, d2⟩ := hr.at3 hcc
    have q0 := hr.free (k * 3)
    have q1 := hr.free (k * 3 + 1)
    have q2 := hr.free (k * 3 + 2)
    have HK := hid hk
    clear hcc hk
    go_wp2_with fail
    go_still_tail 7, (by kernel_rfl)
    change wpList _ _ _ _ _ (World.drew W)
    go_wp2_with fail
    generalize hW : World.drew (World.setCell _ _ _) = W2
    have r2 : Row 50 W2 r cap M := by rw [HMM.out]; subst hW; exact (hr.set3 HK.out x).drew
    have f2 : Fr (fun j => j = r) W W2 := by subst hW; (repeat' (first | (with_reducible exact Fr.refl _ _) | (with_reducible assumption) | (with_reducible refine Fr.alloc ?_ _) | (with_reducible refine Fr.drew ?_) | (with_reducible refine Fr.drewN ?_ _) | (with_reducible refine Fr.setCell ?_ _ _ ?_) | (exact Or.inr rfl) | (left; simp; done) | (left; simp; omega) | (simp; done) | (simp; omega) | omega))
    clear hW d0 d1 d2 q0 q1 q2 hr b0 x0 x1 x2
    have hb2 := hb.fr f2 (Ne.symm ngr)
    rw [← HLM.out] at hb2
    have hp2 : Rh W2 g r cap M size := ⟨hb2, r2, HP0.out.cap, ngr⟩
    have HP2 := hid hp2
    have F2 : Fr (fun j => j = r) w W2 := (f0.mono (T := fun j => j = r) (fun _ _ h => h.elim)).trans f2 (fun _ _ h => h)
    clear hb hb2 r2 hp2 bX f0 f2
    refine (rup_at HP2.out (by rw [HLM.out]; exact HK.out) (by rw [HLM.out]; omega)).mono ?_
    rintro e w4 ⟨rfl, h4, f4⟩
    have F4 := F2.trans f4 (fun _ _ h => h)
    have hend : ∀ w5, Rh w5 g r cap N size → Fr (fun j => j = r) w w5 → RH w5 g v N size ∧ Fr (Rt g v) w w5 := fun w5 h5 f5 =>
      ⟨by rw [HV.out, ← HLM.out, ← settle_length M k, ← HNN.out]; exact RH.of h5 (by rw [HNN.out, settle_length, HLM.out]; exact H.out.len) H.out.sz, f5.mono (fun i _ e => .inr (by rw [HV.out, e]; rfl))⟩
    have HE := hid hend
    clear hend
    by_cases hu : (up k M k).2 = k
    · have hd : decide ((up k M k).2 ≠ k) = false := by simp [hu]
      rw [hd]
      rw [up_samk hu] at h4
      have HNS := hid (HNN.out.trans (settle_down hu))
      clear hd hu
      go_wp2_with fail
      refine (rdown_at h4 (by rw [HLM.out]; exact HK.out) (by rw [HLM.out]; omega)).mono ?_
      rintro e w5 ⟨rfl, h5, f5⟩
      rw [← HNS.out] at h5
      go_wp2
      go_ret
      exact ⟨rfl, HE.out _ h5 (F4.trans f5 (fun _ _ h => h))⟩
    · have hd : decide ((up k M k).2 ≠ k) = true := by simp [hu]
      rw [hd]
      rw [← settle_up hu, ← HNN.out] at h4
      clear hd hu
      go_wp2
      go_ret
      exact ⟨rfl, HE.out _ h4 F4⟩
end Go.Proofs.Ytkcfhdnlmdndeaa
