/- TimersTimes: the walk of the law. -/
import Derived.Test.YtkcfhdnlmdndeaaTmTimes
namespace Go.Proofs.Ytkcfhdnlmdndeaa
open Go.RowKit Go.Proofs.YtkcfhdnlmdndeaaW.PrintWords Go.Proofs.YtkcfhdnlmdndeaaW.PrintLast Go.Proofs.YtkcfhdnlmdndeaaW.PrintMore PHp
set_option linter.unusedVariables false
set_option linter.unusedSimpArgs false
set_option maxRecDepth 100000
/-- The timer behind so many firings. -/
def TJ (w : World) (x : Nat) (b : Bool → Nat) (E : Bool → Int) (k : Bool) (At ev : Int) (i : Nat) (now c : Int) (wr : World) : Prop :=
  ∃ (a : Int) (F' : Nat → Prop), (0 ≤ now ∧ now ≤ 5000 * i) ∧ (0 ≤ c ∧ c ≤ 300000) ∧ a = At + c * ev ∧ (c = 0 ∨ a - ev ≤ now) ∧ TS wr x b F' (sing k a) E 1 1 ∧ Fr (fun _ => False) w wr ∧ ∀ j, F' j → w.heap.size < j
theorem u16b {n : Int} (h : (Lit.int .u16 n).wf = true) : 0 ≤ n ∧ n ≤ 65535 := by
  simp [Lit.wf, IntKind.min, IntKind.max, IntKind.bits, IntKind.signed] at h; omega
def nwR (k : Bool) (m wl : Int) : Bool → Int := fun j => bif j then wl else m
theorem TS.gone {w0 w w' : World} {F : Nat → Prop} (h : Fr (fun _ => False) w0 w) (f : Fr F w w') (hF : ∀ i, F i → w0.heap.size < i) : Fr (fun _ => False) w0 w' := h.trans f (fun i hi e => by have := hF i e; omega)
theorem TS.grow {w0 w : World} {F F' : Nat → Prop} (hs : w0.heap.size < w.heap.size) (hF : ∀ i, F i → w0.heap.size < i) (hF' : ∀ i, F' i → F i ∨ w.heap.size ≤ i) : ∀ i, F' i → w0.heap.size < i := fun i hi => by
  rcases hF' i hi with h | h
  · exact hF i h
  · omega
set_option maxHeartbeats 8000000 in
theorem times_rel (at_ every : Int) (A : Option Addr) (len cap : Nat) (w : World) (wa : (Lit.int .u16 at_).wf = true) (we : (Lit.int .u16 every).wf = true) (hs : RdS [.i .u16] w A len cap) (hz : True) :
    Calls Try.prog 8 #[.bool false, .int .u16 at_, .int .u16 every, .slice A len cap] w fun e w' => e = .returned (.bool true) ∧ Fr (fun _ => False) w w' := by
  obtain ⟨ba0, ba1⟩ := u16b wa
  obtain ⟨be0, be1⟩ := u16b we
  have HS := hid hs
  have hlen := hs.len_le
  have HZ0 := hid hz
  clear wa we hs hz
  go_enter Try.func8, Try.ntmps8
  go_wp2_with fail
  generalize hW : World.alloc w _ = W
  have f0 : Fr (fun _ => False) w W := by subst hW; (repeat' (first | (with_reducible exact Fr.refl _ _) | (with_reducible assumption) | (with_reducible refine Fr.alloc ?_ _) | (with_reducible refine Fr.drew ?_) | (with_reducible refine Fr.drewN ?_ _) | (with_reducible refine Fr.setCell ?_ _ _ ?_) | (exact Or.inr rfl) | (left; simp; done) | (left; simp; omega) | (simp; done) | (simp; omega) | omega))
  have bt : Blk W w.heap.size #[.bool false, .int .i64 (at_ % 10000), .int .i64 (1 + every % 9999)] 69 := by subst hW; (repeat' (first | (with_reducible assumption) | (with_reducible apply Blk.drew) | (with_reducible apply Blk.drewN) | (with_reducible apply Blk.set) | (with_reducible apply Blk.other) | (exact Blk.new' _ _ _ (by first | rfl | (simp; done) | (simp; omega))) | (with_reducible apply Blk.alloc) | (with_reducible rfl) | (simp; done) | (simp; omega) | omega | rfl))
  have hszW : W.heap.size = w.heap.size + 1 := by subst hW; simp
  clear hW
  have hA0 : 0 ≤ at_ % 10000 ∧ at_ % 10000 ≤ 9999 := by omega
  have hE0 : 1 ≤ 1 + every % 9999 ∧ 1 + every % 9999 ≤ 9999 := by omega
  generalize at_ % 10000 = At at *
  generalize 1 + every % 9999 = ev at *
  obtain ⟨hA0, hA1⟩ := hA0
  obtain ⟨hE0, hE1⟩ := hE0
  clear ba0 ba1 be0 be1
  refine (tnew_at W).mono ?_
  rintro e w1 ⟨x, b, F1, rfl, ts1, f1, hF1⟩
  have ts1 := ts1.every (k := false) (e := ev) rfl (by unfold MT; omega)
  have TS1 := hid ts1
  have HF1 := hid hF1
  have bt1 := bt.fr f1 (fun h => h)
  clear ts1 hF1 bt
  obtain ⟨t0, t1, t2, _⟩ := bt1.c3
  have ht1 := bt1.lt
  go_wp2_with fail
  refine (add_at TS1.out false (a := At) (e := ev) (by unfold MT; omega) (by rw [upd_same]) (by simp) (by omega) (by omega)).mono ?_
  rintro e w2 ⟨rfl, F2, ts2, f2, hF2⟩
  have hsz1 := f1.size
  have hsz2 := f2.size
  have HF2 : Hid (∀ j, F2 j → w.heap.size < j) := hid (fun j hj => by
    rcases hF2 j hj with h | h
    · have := HF1.out j h; omega
    · omega)
  have bt2 := bt1.fr f2 (fun h => by have := HF1.out _ h; omega)
  have ff2 : Fr (fun _ => False) w w2 := (f0.trans f1 (fun _ _ h => h)).trans f2 (fun j hj h => by have := HF1.out j h; omega)
  have TS2 : Hid (TS w2 x b F2 (sing false At) (upd (fun _ => 0) false ev) 1 1) := hid (ts2.perm (fun j => by unfold sing; cases j <;> simp [upd]))
  clear ts2 TS1 HF1 hF2 f1 f2 bt1 f0 t0 t1 t2
  have hev : (upd (fun _ => (0 : Int)) false ev) false = ev := upd_same _ _ _
  have HEV := hid hev
  clear hev
  generalize (upd (fun _ => (0 : Int)) false ev) = E at TS2 HEV
  go_wp2_with fail
  go_loopw [15, 13, 14] (fun vi vn vc wr => ∃ (i : Nat) (now c : Int), i ≤ 40 ∧ i ≤ len ∧ vi = .int .i64 i ∧ vn = .int .i64 now ∧ vc = .int .i64 c ∧ Hid (TJ w x b E false At ev i now c wr) ∧ Fr (fun j => w.heap.size < j) w2 wr) (fun vi _ _ _ => 40 - (intOf vi).toNat)
  case atStart => exact ⟨0, 0, 0, by omega, by omega, rfl, rfl, rfl, hid ⟨At, F2, by omega, by omega, by omega, .inl rfl, TS2.out, ff2, HF2.out⟩, Fr.refl _ _⟩
  case round =>
    clear TS2 HF2
    obtain ⟨i, now, c, hi40, hil, rfl, rfl, rfl, hj, hf2⟩ := hrel
    obtain ⟨a, F3, ⟨hn0, hn1⟩, ⟨hc0, hc1⟩, ha, hab, ts, hf, hF3⟩ := hj.out
    have HF3 := hid hF3
    have HAA := hid ha
    have HAB := hid hab
    have TS3 := hid ts
    have bt3 := bt2.fr hf2 (fun h => by have h : w.heap.size < w.heap.size := h; omega)
    obtain ⟨t0, t1, t2, _⟩ := bt3.c3
    have lt3 := bt3.lt
    have hin : (i : Int) ≤ 40 := by omega
    clear hj hF3 ha hab ts
    by_cases hlt : i < len ∧ i < 40
    · obtain ⟨hl1, hl2⟩ := hlt
      obtain ⟨sb, so, s, rfl, hsc, hsw, hsb⟩ := HS.out.num hl1
      obtain ⟨s0, s1⟩ := u16b hsw
      have hsc3 := (hf.cell (a := ⟨sb, so + i, none⟩) hsb (fun h => h)).trans hsc
      have lsb := hf.lt hsb
      have li1 : (i : Int) < (len : Int) := by omega
      have li2 : (i : Int) < 40 := by omega
      clear hsc hsw
      go_wp2_with fail
      have hs5 : 0 ≤ s % 5000 ∧ s % 5000 ≤ 4999 := by omega
      obtain ⟨n2, hn2⟩ : ∃ n2, n2 = now + s % 5000 := ⟨_, rfl⟩
      rw [← hn2]
      obtain ⟨b0, b1⟩ : now ≤ n2 ∧ n2 ≤ 5000 * ((i : Int) + 1) := by omega
      clear hn2 hs5 hsc3
      have hcev : 0 ≤ c * ev := Int.mul_nonneg hc0 (by omega)
      have ha00 : 0 ≤ a := by have := HAA.out; omega
      clear hcev
      obtain ⟨wA, rfl⟩ : ∃ wA : World, wA = wr := ⟨_, rfl⟩
      have HFA := HF3
      have TSA := TS3
      have btA := bt3
      have hfA := hf
      have hf2A := hf2
      have ltA := lt3
      clear HF3 TS3 bt3 hf hf2 lt3
      have hszA : w.heap.size < wA.heap.size := ltA
      by_cases hdue : a ≤ n2
      · obtain ⟨e1, e2, e3, e4, e5, e6, e7⟩ := times_step hE0 hA0 hc0 HAA.out hdue
        refine (fireS_yes TSA.out (nwR false n2 (-1)) (show _ = min _ MT by unfold MT nwR; simp; try omega) (show _ = min _ MT by unfold MT nwR; simp; try omega) (by rfl) HEV.out (by omega) hdue (by omega) (by omega)).mono ?_
        rintro r w4 ⟨g, cp, rfl, hcp, hg, u0, u5, ⟨FB, tsB, hFB, hgw, hgF⟩, f4⟩
        have hszr4 : w.heap.size < w4.heap.size := by have := f4.size; omega
        have HFB := hid (TS.grow hszA HFA.out hFB)
        have TSB := hid tsB
        have bt4 := btA.fr f4 (fun h => by have := HFA.out _ h; omega)
        have hf4 := TS.gone hfA f4 HFA.out
        have hf24 : Fr (fun j => w.heap.size < j) w2 w4 := hf2A.trans f4 (fun j _ h => HFA.out j h)
        clear tsB hFB hgw f4 t0 t1 t2 btA ltA TSA hdue hfA hf2A
        obtain ⟨t0, t1, t2, _⟩ := bt4.c3
        have lt4 := bt4.lt
        obtain ⟨q, hq⟩ : ∃ q, q = (n2 - a) / ev := ⟨_, rfl⟩
        obtain ⟨z, hz⟩ : ∃ z, z = (n2 - At) / ev := ⟨_, rfl⟩
        rw [← hq] at u5 e1 e3 e4 e5 e6 e7 TSB
        rw [← hz] at e1
        have HZ := hid hz
        have HE1 := hid e1
        have HE3 := hid e3
        clear hq hz e1 e3
        have NJ : Hid (TJ w x b E false At ev (i + 1) n2 (c + (1 + q)) w4) := hid ⟨_, FB, by omega, by omega, HE3.out, .inr e4, TSB.out, hf4, HFB.out⟩
        obtain ⟨w5, rfl⟩ : ∃ w5 : World, w5 = w4 := ⟨_, rfl⟩
        have bt5 := bt4
        have hf5 := hf24
        have u0' := u0
        have u5' := u5
        have hg5 := hg
        clear u0 u5 hg bt4 hf4 hf24 TSB t0 t1 t2 hgF
        obtain ⟨t0, t1, t2, _⟩ := bt5.c3
        have lt5 := bt5.lt
        go_wp2_with fail
        go_loop [17, 14] (fun vk vc => (vk = .int .i64 0 ∧ vc = .int .i64 c) ∨ (vk = .int .i64 1 ∧ vc = .int .i64 (c + (1 + q)))) (fun vk _ => 1 - (intOf vk).toNat)
        case atStart => exact .inl ⟨rfl, rfl⟩
        case round =>
          rcases hrel with ⟨rfl, rfl⟩ | ⟨rfl, rfl⟩
          · go_wp2
            go_round
            case rel => exact .inr ⟨rfl, rfl⟩
            case measure => simp [intOf]
          · have hzz : (n2 - At) / ev = z := HZ.out.symm
            have hz0 : 0 ≤ z := by have := HE1.out; omega
            have hz1 : z ≤ 300000 := by have := HE1.out; omega
            have hne : (c + (1 + q) == 1 + z) = true := by rw [HE1.out]; simp
            have hne' : (c + (1 + q) != 1 + z) = false := by rw [HE1.out]; simp
            go_wp2
            go_roundw
            case rel => exact ⟨i + 1, n2, c + (1 + q), by omega, by omega, by go_num, rfl, rfl, NJ, hf5⟩
            case measure => simp [intOf]; omega
      · have hab2 : c = 0 ∨ a - ev ≤ n2 := by have := HAB.out; omega
        obtain ⟨s2, s3⟩ := times_stay hE0 hA0 hc0 HAA.out (show n2 < a by omega) hab2
        refine (fireS_no TSA.out (nwR false n2 (-1)) (show _ = min _ MT by unfold MT nwR; simp; try omega) (show _ = min _ MT by unfold MT nwR; simp; try omega) (show n2 < a by omega)).mono ?_
        rintro r w4 ⟨AB, cp, rfl, ⟨FB, tsB, hFB⟩, f4⟩
        have hszr4 : w.heap.size < w4.heap.size := by have := f4.size; omega
        have HFB := hid (TS.grow hszA HFA.out hFB)
        have TSB := hid tsB
        have bt4 := btA.fr f4 (fun h => by have := HFA.out _ h; omega)
        have hf4 := TS.gone hfA f4 HFA.out
        have hf24 : Fr (fun j => w.heap.size < j) w2 w4 := hf2A.trans f4 (fun j _ h => HFA.out j h)
        clear tsB hFB f4 t0 t1 t2 btA ltA TSA hfA hf2A
        obtain ⟨t0, t1, t2, _⟩ := bt4.c3
        have lt4 := bt4.lt
        have HS2 := hid s2
        have HS3 := hid s3
        clear s2 s3
        have NJ : Hid (TJ w x b E false At ev (i + 1) n2 c w4) := hid ⟨_, FB, by omega, by omega, HAA.out, hab2, TSB.out, hf4, HFB.out⟩
        obtain ⟨w5, rfl⟩ : ∃ w5 : World, w5 = w4 := ⟨_, rfl⟩
        have bt5 := bt4
        have hf5 := hf24
        clear bt4 hf4 hf24 TSB t0 t1 t2
        obtain ⟨t0, t1, t2, _⟩ := bt5.c3
        have lt5 := bt5.lt
        go_wp2_with fail
        go_loop [17, 14] (fun vk vc => vk = .int .i64 0 ∧ vc = .int .i64 c) (fun vk _ => 0)
        case atStart => exact ⟨rfl, rfl⟩
        case round =>
          obtain ⟨rfl, rfl⟩ := hrel
          by_cases hge : At ≤ n2
          · have hc := HS2.out hge
            obtain ⟨z, hz⟩ : ∃ z, z = (n2 - At) / ev := ⟨_, rfl⟩
            rw [← hz] at hc
            have hzz : (n2 - At) / ev = z := hz.symm
            have HC := hid hc
            clear hc hz
            have hz0 : -1 ≤ z := by have := HC.out; omega
            have hz1 : z ≤ 300000 := by have := HC.out; omega
            have hne : (c == 1 + z) = true := by rw [HC.out]; simp
            have hne' : (c != 1 + z) = false := by rw [HC.out]; simp
            go_wp2
            go_roundw
            case rel => exact ⟨i + 1, n2, c, by omega, by omega, by go_num, rfl, rfl, NJ, hf5⟩
            case measure => simp [intOf]; omega
          · have HC := hid (HS3.out (by omega))
            have hne : (c == 0) = true := by rw [HC.out]; rfl
            have hne' : (c != 0) = false := by rw [HC.out]; rfl
            go_wp2
            go_roundw
            case rel => exact ⟨i + 1, n2, c, by omega, by omega, by go_num, rfl, rfl, NJ, hf5⟩
            case measure => simp [intOf]; omega
    · by_cases hl : i < len
      · have h40 : (i : Int) = 40 := by omega
        have t40 : ¬ (i : Int) < 40 := by omega
        have tl : (i : Int) < (len : Int) := by omega
        clear h40
        go_wp2_with fail
        refine (alive_at _).mono ?_
        rintro e w9 ⟨rfl, k9⟩
        go_wp2
        go_ret
        exact ⟨rfl, hf.trans k9 (fun _ _ h => h)⟩
      · have tl : ¬ (i : Int) < (len : Int) := by omega
        go_wp2_with fail
        refine (alive_at _).mono ?_
        rintro e w9 ⟨rfl, k9⟩
        go_wp2
        go_ret
        exact ⟨rfl, hf.trans k9 (fun _ _ h => h)⟩
set_option maxHeartbeats 8000000 in
theorem times_abs0 (at_ every : Int) (A : Option Addr) (len cap : Nat) (w : World) (wa : (Lit.int .u16 at_).wf = true) (we : (Lit.int .u16 every).wf = true) (hs : RdS [.i .u16] w A len cap) (hz : at_ % 10000 = 0) :
    Calls Try.prog 8 #[.bool true, .int .u16 at_, .int .u16 every, .slice A len cap] w fun e w' => e = .returned (.bool true) ∧ Fr (fun _ => False) w w' := by
  obtain ⟨ba0, ba1⟩ := u16b wa
  obtain ⟨be0, be1⟩ := u16b we
  have HS := hid hs
  have hlen := hs.len_le
  have HZ0 := hid hz
  clear wa we hs hz
  go_enter Try.func8, Try.ntmps8
  go_wp2_with fail
  generalize hW : World.alloc w _ = W
  have f0 : Fr (fun _ => False) w W := by subst hW; (repeat' (first | (with_reducible exact Fr.refl _ _) | (with_reducible assumption) | (with_reducible refine Fr.alloc ?_ _) | (with_reducible refine Fr.drew ?_) | (with_reducible refine Fr.drewN ?_ _) | (with_reducible refine Fr.setCell ?_ _ _ ?_) | (exact Or.inr rfl) | (left; simp; done) | (left; simp; omega) | (simp; done) | (simp; omega) | omega))
  have bt : Blk W w.heap.size #[.bool true, .int .i64 (at_ % 10000), .int .i64 (1 + every % 9999)] 69 := by subst hW; (repeat' (first | (with_reducible assumption) | (with_reducible apply Blk.drew) | (with_reducible apply Blk.drewN) | (with_reducible apply Blk.set) | (with_reducible apply Blk.other) | (exact Blk.new' _ _ _ (by first | rfl | (simp; done) | (simp; omega))) | (with_reducible apply Blk.alloc) | (with_reducible rfl) | (simp; done) | (simp; omega) | omega | rfl))
  have hszW : W.heap.size = w.heap.size + 1 := by subst hW; simp
  clear hW
  have hA0 : 0 ≤ at_ % 10000 ∧ at_ % 10000 ≤ 9999 := by omega
  have hE0 : 1 ≤ 1 + every % 9999 ∧ 1 + every % 9999 ≤ 9999 := by omega
  generalize at_ % 10000 = At at *
  generalize 1 + every % 9999 = ev at *
  have hat0 : (At != 0) = false := by rw [HZ0.out]; rfl
  obtain ⟨hA0, hA1⟩ := hA0
  obtain ⟨hE0, hE1⟩ := hE0
  clear ba0 ba1 be0 be1
  refine (tnew_at W).mono ?_
  rintro e w1 ⟨x, b, F1, rfl, ts1, f1, hF1⟩
  have ts1 := ts1.every (k := true) (e := ev) rfl (by unfold MT; omega)
  have TS1 := hid ts1
  have HF1 := hid hF1
  have bt1 := bt.fr f1 (fun h => h)
  clear ts1 hF1 bt
  obtain ⟨t0, t1, t2, _⟩ := bt1.c3
  have ht1 := bt1.lt
  go_wp2_with fail
  refine (add_at TS1.out true (a := At) (e := ev) (by unfold MT; omega) (by rw [upd_same]) (by simp) (by omega) (by omega)).mono ?_
  rintro e w2 ⟨rfl, F2, ts2, f2, hF2⟩
  have hsz1 := f1.size
  have hsz2 := f2.size
  have HF2 : Hid (∀ j, F2 j → w.heap.size < j) := hid (fun j hj => by
    rcases hF2 j hj with h | h
    · have := HF1.out j h; omega
    · omega)
  have bt2 := bt1.fr f2 (fun h => by have := HF1.out _ h; omega)
  have ff2 : Fr (fun _ => False) w w2 := (f0.trans f1 (fun _ _ h => h)).trans f2 (fun j hj h => by have := HF1.out j h; omega)
  have TS2 : Hid (TS w2 x b F2 (sing true At) (upd (fun _ => 0) true ev) 1 1) := hid (ts2.perm (fun j => by unfold sing; cases j <;> simp [upd]))
  clear ts2 TS1 HF1 hF2 f1 f2 bt1 f0 t0 t1 t2
  have hev : (upd (fun _ => (0 : Int)) true ev) true = ev := upd_same _ _ _
  have HEV := hid hev
  clear hev
  generalize (upd (fun _ => (0 : Int)) true ev) = E at TS2 HEV
  go_wp2_with fail
  go_loopw [15, 13, 14] (fun vi vn vc wr => ∃ (i : Nat) (now c : Int), i ≤ 40 ∧ i ≤ len ∧ vi = .int .i64 i ∧ vn = .int .i64 now ∧ vc = .int .i64 c ∧ Hid (TJ w x b E true At ev i now c wr) ∧ Fr (fun j => w.heap.size < j) w2 wr) (fun vi _ _ _ => 40 - (intOf vi).toNat)
  case atStart => exact ⟨0, 0, 0, by omega, by omega, rfl, rfl, rfl, hid ⟨At, F2, by omega, by omega, by omega, .inl rfl, TS2.out, ff2, HF2.out⟩, Fr.refl _ _⟩
  case round =>
    clear TS2 HF2
    obtain ⟨i, now, c, hi40, hil, rfl, rfl, rfl, hj, hf2⟩ := hrel
    obtain ⟨a, F3, ⟨hn0, hn1⟩, ⟨hc0, hc1⟩, ha, hab, ts, hf, hF3⟩ := hj.out
    have HF3 := hid hF3
    have HAA := hid ha
    have HAB := hid hab
    have TS3 := hid ts
    have bt3 := bt2.fr hf2 (fun h => by have h : w.heap.size < w.heap.size := h; omega)
    obtain ⟨t0, t1, t2, _⟩ := bt3.c3
    have lt3 := bt3.lt
    have hin : (i : Int) ≤ 40 := by omega
    clear hj hF3 ha hab ts
    by_cases hlt : i < len ∧ i < 40
    · obtain ⟨hl1, hl2⟩ := hlt
      obtain ⟨sb, so, s, rfl, hsc, hsw, hsb⟩ := HS.out.num hl1
      obtain ⟨s0, s1⟩ := u16b hsw
      have hsc3 := (hf.cell (a := ⟨sb, so + i, none⟩) hsb (fun h => h)).trans hsc
      have lsb := hf.lt hsb
      have li1 : (i : Int) < (len : Int) := by omega
      have li2 : (i : Int) < 40 := by omega
      clear hsc hsw
      go_wp2_with fail
      have hs5 : 0 ≤ s % 5000 ∧ s % 5000 ≤ 4999 := by omega
      obtain ⟨n2, hn2⟩ : ∃ n2, n2 = now + s % 5000 := ⟨_, rfl⟩
      rw [← hn2]
      obtain ⟨b0, b1⟩ : now ≤ n2 ∧ n2 ≤ 5000 * ((i : Int) + 1) := by omega
      clear hn2 hs5 hsc3
      have hcev : 0 ≤ c * ev := Int.mul_nonneg hc0 (by omega)
      have ha00 : 0 ≤ a := by have := HAA.out; omega
      clear hcev
      refine (fireS_no TS3.out (nwR true n2 (-1)) (show n2 = min n2 MT by unfold MT; omega) (show (-1 : Int) = min (-1) MT by unfold MT; omega) (show (-1 : Int) < a by omega)).mono ?_
      rintro r wA ⟨AA, cpA, rfl, ⟨FA, tsA, hFA⟩, fA⟩
      have hszr0 : w.heap.size < wr.heap.size := lt3
      have HFA := hid (TS.grow hszr0 HF3.out hFA)
      have TSA := hid tsA
      have btA := bt3.fr fA (fun h => by have := HF3.out _ h; omega)
      have hfA := TS.gone hf fA HF3.out
      have hf2A : Fr (fun j => w.heap.size < j) w2 wA := hf2.trans fA (fun j _ h => HF3.out j h)
      clear tsA hFA t0 t1 t2 lt3 bt3 TS3 HF3 fA hf hf2 lsb
      obtain ⟨t0, t1, t2, _⟩ := btA.c3
      have ltA := btA.lt
      go_wp2_with fail
      have hszA : w.heap.size < wA.heap.size := ltA
      by_cases hdue : a ≤ n2
      · obtain ⟨e1, e2, e3, e4, e5, e6, e7⟩ := times_step hE0 hA0 hc0 HAA.out hdue
        refine (fireS_yes TSA.out (nwR true 0 n2) (show _ = min _ MT by unfold MT nwR; simp; try omega) (show _ = min _ MT by unfold MT nwR; simp; try omega) (by rfl) HEV.out (by omega) hdue (by omega) (by omega)).mono ?_
        rintro r w4 ⟨g, cp, rfl, hcp, hg, u0, u5, ⟨FB, tsB, hFB, hgw, hgF⟩, f4⟩
        have hszr4 : w.heap.size < w4.heap.size := by have := f4.size; omega
        have HFB := hid (TS.grow hszA HFA.out hFB)
        have TSB := hid tsB
        have bt4 := btA.fr f4 (fun h => by have := HFA.out _ h; omega)
        have hf4 := TS.gone hfA f4 HFA.out
        have hf24 : Fr (fun j => w.heap.size < j) w2 w4 := hf2A.trans f4 (fun j _ h => HFA.out j h)
        clear tsB hFB hgw f4 t0 t1 t2 btA ltA TSA hdue hfA hf2A
        obtain ⟨t0, t1, t2, _⟩ := bt4.c3
        have lt4 := bt4.lt
        obtain ⟨q, hq⟩ : ∃ q, q = (n2 - a) / ev := ⟨_, rfl⟩
        obtain ⟨z, hz⟩ : ∃ z, z = (n2 - At) / ev := ⟨_, rfl⟩
        rw [← hq] at u5 e1 e3 e4 e5 e6 e7 TSB
        rw [← hz] at e1
        have HZ := hid hz
        have HE1 := hid e1
        have HE3 := hid e3
        clear hq hz e1 e3
        have NJ : Hid (TJ w x b E true At ev (i + 1) n2 (c + (1 + q)) w4) := hid ⟨_, FB, by omega, by omega, HE3.out, .inr e4, TSB.out, hf4, HFB.out⟩
        obtain ⟨w5, rfl⟩ : ∃ w5 : World, w5 = w4 := ⟨_, rfl⟩
        have bt5 := bt4
        have hf5 := hf24
        have u0' := u0
        have u5' := u5
        have hg5 := hg
        clear u0 u5 hg bt4 hf4 hf24 TSB t0 t1 t2 hgF
        obtain ⟨t0, t1, t2, _⟩ := bt5.c3
        have lt5 := bt5.lt
        go_wp2_with fail
        go_loop [17, 14] (fun vk vc => (vk = .int .i64 0 ∧ vc = .int .i64 c) ∨ (vk = .int .i64 1 ∧ vc = .int .i64 (c + (1 + q)))) (fun vk _ => 1 - (intOf vk).toNat)
        case atStart => exact .inl ⟨rfl, rfl⟩
        case round =>
          rcases hrel with ⟨rfl, rfl⟩ | ⟨rfl, rfl⟩
          · go_wp2
            go_round
            case rel => exact .inr ⟨rfl, rfl⟩
            case measure => simp [intOf]
          · have hzz : (n2 - At) / ev = z := HZ.out.symm
            have hz0 : 0 ≤ z := by have := HE1.out; omega
            have hz1 : z ≤ 300000 := by have := HE1.out; omega
            have hne : (c + (1 + q) == 1 + z) = true := by rw [HE1.out]; simp
            have hne' : (c + (1 + q) != 1 + z) = false := by rw [HE1.out]; simp
            go_wp2
            go_roundw
            case rel => exact ⟨i + 1, n2, c + (1 + q), by omega, by omega, by go_num, rfl, rfl, NJ, hf5⟩
            case measure => simp [intOf]; omega
      · have hab2 : c = 0 ∨ a - ev ≤ n2 := by have := HAB.out; omega
        obtain ⟨s2, s3⟩ := times_stay hE0 hA0 hc0 HAA.out (show n2 < a by omega) hab2
        refine (fireS_no TSA.out (nwR true 0 n2) (show _ = min _ MT by unfold MT nwR; simp; try omega) (show _ = min _ MT by unfold MT nwR; simp; try omega) (show n2 < a by omega)).mono ?_
        rintro r w4 ⟨AB, cp, rfl, ⟨FB, tsB, hFB⟩, f4⟩
        have hszr4 : w.heap.size < w4.heap.size := by have := f4.size; omega
        have HFB := hid (TS.grow hszA HFA.out hFB)
        have TSB := hid tsB
        have bt4 := btA.fr f4 (fun h => by have := HFA.out _ h; omega)
        have hf4 := TS.gone hfA f4 HFA.out
        have hf24 : Fr (fun j => w.heap.size < j) w2 w4 := hf2A.trans f4 (fun j _ h => HFA.out j h)
        clear tsB hFB f4 t0 t1 t2 btA ltA TSA hfA hf2A
        obtain ⟨t0, t1, t2, _⟩ := bt4.c3
        have lt4 := bt4.lt
        have HS2 := hid s2
        have HS3 := hid s3
        clear s2 s3
        have NJ : Hid (TJ w x b E true At ev (i + 1) n2 c w4) := hid ⟨_, FB, by omega, by omega, HAA.out, hab2, TSB.out, hf4, HFB.out⟩
        obtain ⟨w5, rfl⟩ : ∃ w5 : World, w5 = w4 := ⟨_, rfl⟩
        have bt5 := bt4
        have hf5 := hf24
        clear bt4 hf4 hf24 TSB t0 t1 t2
        obtain ⟨t0, t1, t2, _⟩ := bt5.c3
        have lt5 := bt5.lt
        go_wp2_with fail
        go_loop [17, 14] (fun vk vc => vk = .int .i64 0 ∧ vc = .int .i64 c) (fun vk _ => 0)
        case atStart => exact ⟨rfl, rfl⟩
        case round =>
          obtain ⟨rfl, rfl⟩ := hrel
          by_cases hge : At ≤ n2
          · have hc := HS2.out hge
            obtain ⟨z, hz⟩ : ∃ z, z = (n2 - At) / ev := ⟨_, rfl⟩
            rw [← hz] at hc
            have hzz : (n2 - At) / ev = z := hz.symm
            have HC := hid hc
            clear hc hz
            have hz0 : -1 ≤ z := by have := HC.out; omega
            have hz1 : z ≤ 300000 := by have := HC.out; omega
            have hne : (c == 1 + z) = true := by rw [HC.out]; simp
            have hne' : (c != 1 + z) = false := by rw [HC.out]; simp
            go_wp2
            go_roundw
            case rel => exact ⟨i + 1, n2, c, by omega, by omega, by go_num, rfl, rfl, NJ, hf5⟩
            case measure => simp [intOf]; omega
          · have HC := hid (HS3.out (by omega))
            have hne : (c == 0) = true := by rw [HC.out]; rfl
            have hne' : (c != 0) = false := by rw [HC.out]; rfl
            go_wp2
            go_roundw
            case rel => exact ⟨i + 1, n2, c, by omega, by omega, by go_num, rfl, rfl, NJ, hf5⟩
            case measure => simp [intOf]; omega
    · by_cases hl : i < len
      · have h40 : (i : Int) = 40 := by omega
        have t40 : ¬ (i : Int) < 40 := by omega
        have tl : (i : Int) < (len : Int) := by omega
        clear h40
        go_wp2_with fail
        refine (alive_at _).mono ?_
        rintro e w9 ⟨rfl, k9⟩
        go_wp2
        go_ret
        exact ⟨rfl, hf.trans k9 (fun _ _ h => h)⟩
      · have tl : ¬ (i : Int) < (len : Int) := by omega
        go_wp2_with fail
        refine (alive_at _).mono ?_
        rintro e w9 ⟨rfl, k9⟩
        go_wp2
        go_ret
        exact ⟨rfl, hf.trans k9 (fun _ _ h => h)⟩
set_option maxHeartbeats 8000000 in
theorem times_abs1 (at_ every : Int) (A : Option Addr) (len cap : Nat) (w : World) (wa : (Lit.int .u16 at_).wf = true) (we : (Lit.int .u16 every).wf = true) (hs : RdS [.i .u16] w A len cap) (hz : ¬ at_ % 10000 = 0) :
    Calls Try.prog 8 #[.bool true, .int .u16 at_, .int .u16 every, .slice A len cap] w fun e w' => e = .returned (.bool true) ∧ Fr (fun _ => False) w w' := by
  obtain ⟨ba0, ba1⟩ := u16b wa
  obtain ⟨be0, be1⟩ := u16b we
  have HS := hid hs
  have hlen := hs.len_le
  have HZ0 := hid hz
  clear wa we hs hz
  go_enter Try.func8, Try.ntmps8
  go_wp2_with fail
  generalize hW : World.alloc w _ = W
  have f0 : Fr (fun _ => False) w W := by subst hW; (repeat' (first | (with_reducible exact Fr.refl _ _) | (with_reducible assumption) | (with_reducible refine Fr.alloc ?_ _) | (with_reducible refine Fr.drew ?_) | (with_reducible refine Fr.drewN ?_ _) | (with_reducible refine Fr.setCell ?_ _ _ ?_) | (exact Or.inr rfl) | (left; simp; done) | (left; simp; omega) | (simp; done) | (simp; omega) | omega))
  have bt : Blk W w.heap.size #[.bool true, .int .i64 (at_ % 10000), .int .i64 (1 + every % 9999)] 69 := by subst hW; (repeat' (first | (with_reducible assumption) | (with_reducible apply Blk.drew) | (with_reducible apply Blk.drewN) | (with_reducible apply Blk.set) | (with_reducible apply Blk.other) | (exact Blk.new' _ _ _ (by first | rfl | (simp; done) | (simp; omega))) | (with_reducible apply Blk.alloc) | (with_reducible rfl) | (simp; done) | (simp; omega) | omega | rfl))
  have hszW : W.heap.size = w.heap.size + 1 := by subst hW; simp
  clear hW
  have hA0 : 0 ≤ at_ % 10000 ∧ at_ % 10000 ≤ 9999 := by omega
  have hE0 : 1 ≤ 1 + every % 9999 ∧ 1 + every % 9999 ≤ 9999 := by omega
  generalize at_ % 10000 = At at *
  generalize 1 + every % 9999 = ev at *
  have hat0 : (At != 0) = true := by have := HZ0.out; simp [bne, this]
  obtain ⟨hA0, hA1⟩ := hA0
  obtain ⟨hE0, hE1⟩ := hE0
  clear ba0 ba1 be0 be1
  refine (tnew_at W).mono ?_
  rintro e w1 ⟨x, b, F1, rfl, ts1, f1, hF1⟩
  have ts1 := ts1.every (k := true) (e := ev) rfl (by unfold MT; omega)
  have TS1 := hid ts1
  have HF1 := hid hF1
  have bt1 := bt.fr f1 (fun h => h)
  clear ts1 hF1 bt
  obtain ⟨t0, t1, t2, _⟩ := bt1.c3
  have ht1 := bt1.lt
  go_wp2_with fail
  refine (add_at TS1.out true (a := At) (e := ev) (by unfold MT; omega) (by rw [upd_same]) (by simp) (by omega) (by omega)).mono ?_
  rintro e w2 ⟨rfl, F2, ts2, f2, hF2⟩
  have hsz1 := f1.size
  have hsz2 := f2.size
  have HF2 : Hid (∀ j, F2 j → w.heap.size < j) := hid (fun j hj => by
    rcases hF2 j hj with h | h
    · have := HF1.out j h; omega
    · omega)
  have bt2 := bt1.fr f2 (fun h => by have := HF1.out _ h; omega)
  have ff2 : Fr (fun _ => False) w w2 := (f0.trans f1 (fun _ _ h => h)).trans f2 (fun j hj h => by have := HF1.out j h; omega)
  have TS2 : Hid (TS w2 x b F2 (sing true At) (upd (fun _ => 0) true ev) 1 1) := hid (ts2.perm (fun j => by unfold sing; cases j <;> simp [upd]))
  clear ts2 TS1 HF1 hF2 f1 f2 bt1 f0 t0 t1 t2
  have hev : (upd (fun _ => (0 : Int)) true ev) true = ev := upd_same _ _ _
  have HEV := hid hev
  clear hev
  generalize (upd (fun _ => (0 : Int)) true ev) = E at TS2 HEV
  go_wp2_with fail
  go_loopw [15, 13, 14] (fun vi vn vc wr => ∃ (i : Nat) (now c : Int), i ≤ 40 ∧ i ≤ len ∧ vi = .int .i64 i ∧ vn = .int .i64 now ∧ vc = .int .i64 c ∧ Hid (TJ w x b E true At ev i now c wr) ∧ Fr (fun j => w.heap.size < j) w2 wr) (fun vi _ _ _ => 40 - (intOf vi).toNat)
  case atStart => exact ⟨0, 0, 0, by omega, by omega, rfl, rfl, rfl, hid ⟨At, F2, by omega, by omega, by omega, .inl rfl, TS2.out, ff2, HF2.out⟩, Fr.refl _ _⟩
  case round =>
    clear TS2 HF2
    obtain ⟨i, now, c, hi40, hil, rfl, rfl, rfl, hj, hf2⟩ := hrel
    obtain ⟨a, F3, ⟨hn0, hn1⟩, ⟨hc0, hc1⟩, ha, hab, ts, hf, hF3⟩ := hj.out
    have HF3 := hid hF3
    have HAA := hid ha
    have HAB := hid hab
    have TS3 := hid ts
    have bt3 := bt2.fr hf2 (fun h => by have h : w.heap.size < w.heap.size := h; omega)
    obtain ⟨t0, t1, t2, _⟩ := bt3.c3
    have lt3 := bt3.lt
    have hin : (i : Int) ≤ 40 := by omega
    clear hj hF3 ha hab ts
    by_cases hlt : i < len ∧ i < 40
    · obtain ⟨hl1, hl2⟩ := hlt
      obtain ⟨sb, so, s, rfl, hsc, hsw, hsb⟩ := HS.out.num hl1
      obtain ⟨s0, s1⟩ := u16b hsw
      have hsc3 := (hf.cell (a := ⟨sb, so + i, none⟩) hsb (fun h => h)).trans hsc
      have lsb := hf.lt hsb
      have li1 : (i : Int) < (len : Int) := by omega
      have li2 : (i : Int) < 40 := by omega
      clear hsc hsw
      go_wp2_with fail
      have hs5 : 0 ≤ s % 5000 ∧ s % 5000 ≤ 4999 := by omega
      obtain ⟨n2, hn2⟩ : ∃ n2, n2 = now + s % 5000 := ⟨_, rfl⟩
      rw [← hn2]
      obtain ⟨b0, b1⟩ : now ≤ n2 ∧ n2 ≤ 5000 * ((i : Int) + 1) := by omega
      clear hn2 hs5 hsc3
      have hcev : 0 ≤ c * ev := Int.mul_nonneg hc0 (by omega)
      have ha00 : 0 ≤ a := by have := HAA.out; omega
      clear hcev
      refine (fireS_no TS3.out (nwR true n2 (-1)) (show n2 = min n2 MT by unfold MT; omega) (show (-1 : Int) = min (-1) MT by unfold MT; omega) (show (-1 : Int) < a by omega)).mono ?_
      rintro r wA ⟨AA, cpA, rfl, ⟨FA, tsA, hFA⟩, fA⟩
      have hszr0 : w.heap.size < wr.heap.size := lt3
      have HFA := hid (TS.grow hszr0 HF3.out hFA)
      have TSA := hid tsA
      have btA := bt3.fr fA (fun h => by have := HF3.out _ h; omega)
      have hfA := TS.gone hf fA HF3.out
      have hf2A : Fr (fun j => w.heap.size < j) w2 wA := hf2.trans fA (fun j _ h => HF3.out j h)
      clear tsA hFA t0 t1 t2 lt3 bt3 TS3 HF3 fA hf hf2 lsb
      obtain ⟨t0, t1, t2, _⟩ := btA.c3
      have ltA := btA.lt
      go_wp2_with fail
      have hszA : w.heap.size < wA.heap.size := ltA
      by_cases hdue : a ≤ n2
      · obtain ⟨e1, e2, e3, e4, e5, e6, e7⟩ := times_step hE0 hA0 hc0 HAA.out hdue
        refine (fireS_yes TSA.out (nwR true 0 n2) (show _ = min _ MT by unfold MT nwR; simp; try omega) (show _ = min _ MT by unfold MT nwR; simp; try omega) (by rfl) HEV.out (by omega) hdue (by omega) (by omega)).mono ?_
        rintro r w4 ⟨g, cp, rfl, hcp, hg, u0, u5, ⟨FB, tsB, hFB, hgw, hgF⟩, f4⟩
        have hszr4 : w.heap.size < w4.heap.size := by have := f4.size; omega
        have HFB := hid (TS.grow hszA HFA.out hFB)
        have TSB := hid tsB
        have bt4 := btA.fr f4 (fun h => by have := HFA.out _ h; omega)
        have hf4 := TS.gone hfA f4 HFA.out
        have hf24 : Fr (fun j => w.heap.size < j) w2 w4 := hf2A.trans f4 (fun j _ h => HFA.out j h)
        clear tsB hFB hgw f4 t0 t1 t2 btA ltA TSA hdue hfA hf2A
        obtain ⟨t0, t1, t2, _⟩ := bt4.c3
        have lt4 := bt4.lt
        obtain ⟨q, hq⟩ : ∃ q, q = (n2 - a) / ev := ⟨_, rfl⟩
        obtain ⟨z, hz⟩ : ∃ z, z = (n2 - At) / ev := ⟨_, rfl⟩
        rw [← hq] at u5 e1 e3 e4 e5 e6 e7 TSB
        rw [← hz] at e1
        have HZ := hid hz
        have HE1 := hid e1
        have HE3 := hid e3
        clear hq hz e1 e3
        have hq9 : 0 ≤ (q + 1) * ev := Int.mul_nonneg (by omega) (by omega)
        have hq8 : (-1 : Int) < a + (q + 1) * ev := by omega
        clear hq9
        go_wp2_with fail
        refine (fireS_no TSB.out (nwR true n2 (-1)) (show n2 = min n2 MT by unfold MT; omega) (show (-1 : Int) = min (-1) MT by unfold MT; omega) (show (-1 : Int) < a + (q + 1) * ev from hq8)).mono ?_
        rintro r w5 ⟨AC, cpC, rfl, ⟨F5, ts5, hF5⟩, f5⟩
        have NJ : Hid (TJ w x b E true At ev (i + 1) n2 (c + (1 + q)) w5) := hid ⟨_, F5, by omega, by omega, HE3.out, .inr e4, ts5, TS.gone hf4 f5 HFB.out, TS.grow hszr4 HFB.out hF5⟩
        have bt5 := bt4.fr f5 (fun h => by have := HFB.out _ h; omega)
        have hf5 : Fr (fun j => w.heap.size < j) w2 w5 := hf24.trans f5 (fun j _ h => HFB.out j h)
        have u0' := (f5.cell (a := ⟨g, 0, none⟩) hg hgF).trans u0
        have u5' := (f5.cell (a := ⟨g, 5, none⟩) hg hgF).trans u5
        have hg5 := f5.lt hg
        clear u0 u5 hg ts5 hF5 f5 bt4 hf4 hf24 TSB t0 t1 t2 hgF
        obtain ⟨t0, t1, t2, _⟩ := bt5.c3
        have lt5 := bt5.lt
        go_wp2_with fail
        go_loop [17, 14] (fun vk vc => (vk = .int .i64 0 ∧ vc = .int .i64 c) ∨ (vk = .int .i64 1 ∧ vc = .int .i64 (c + (1 + q)))) (fun vk _ => 1 - (intOf vk).toNat)
        case atStart => exact .inl ⟨rfl, rfl⟩
        case round =>
          rcases hrel with ⟨rfl, rfl⟩ | ⟨rfl, rfl⟩
          · go_wp2
            go_round
            case rel => exact .inr ⟨rfl, rfl⟩
            case measure => simp [intOf]
          · have hzz : (n2 - At) / ev = z := HZ.out.symm
            have hz0 : 0 ≤ z := by have := HE1.out; omega
            have hz1 : z ≤ 300000 := by have := HE1.out; omega
            have hne : (c + (1 + q) == 1 + z) = true := by rw [HE1.out]; simp
            have hne' : (c + (1 + q) != 1 + z) = false := by rw [HE1.out]; simp
            go_wp2
            go_roundw
            case rel => exact ⟨i + 1, n2, c + (1 + q), by omega, by omega, by go_num, rfl, rfl, NJ, hf5⟩
            case measure => simp [intOf]; omega
      · have hab2 : c = 0 ∨ a - ev ≤ n2 := by have := HAB.out; omega
        obtain ⟨s2, s3⟩ := times_stay hE0 hA0 hc0 HAA.out (show n2 < a by omega) hab2
        refine (fireS_no TSA.out (nwR true 0 n2) (show _ = min _ MT by unfold MT nwR; simp; try omega) (show _ = min _ MT by unfold MT nwR; simp; try omega) (show n2 < a by omega)).mono ?_
        rintro r w4 ⟨AB, cp, rfl, ⟨FB, tsB, hFB⟩, f4⟩
        have hszr4 : w.heap.size < w4.heap.size := by have := f4.size; omega
        have HFB := hid (TS.grow hszA HFA.out hFB)
        have TSB := hid tsB
        have bt4 := btA.fr f4 (fun h => by have := HFA.out _ h; omega)
        have hf4 := TS.gone hfA f4 HFA.out
        have hf24 : Fr (fun j => w.heap.size < j) w2 w4 := hf2A.trans f4 (fun j _ h => HFA.out j h)
        clear tsB hFB f4 t0 t1 t2 btA ltA TSA hfA hf2A
        obtain ⟨t0, t1, t2, _⟩ := bt4.c3
        have lt4 := bt4.lt
        have HS2 := hid s2
        have HS3 := hid s3
        clear s2 s3
        go_wp2_with fail
        refine (fireS_no TSB.out (nwR true n2 (-1)) (show n2 = min n2 MT by unfold MT; omega) (show (-1 : Int) = min (-1) MT by unfold MT; omega) (show (-1 : Int) < _ by omega)).mono ?_
        rintro r w5 ⟨AC, cpC, rfl, ⟨F5, ts5, hF5⟩, f5⟩
        have NJ : Hid (TJ w x b E true At ev (i + 1) n2 c w5) := hid ⟨_, F5, by omega, by omega, HAA.out, hab2, ts5, TS.gone hf4 f5 HFB.out, TS.grow hszr4 HFB.out hF5⟩
        have bt5 := bt4.fr f5 (fun h => by have := HFB.out _ h; omega)
        have hf5 : Fr (fun j => w.heap.size < j) w2 w5 := hf24.trans f5 (fun j _ h => HFB.out j h)
        clear ts5 hF5 f5 bt4 hf4 hf24 TSB t0 t1 t2
        obtain ⟨t0, t1, t2, _⟩ := bt5.c3
        have lt5 := bt5.lt
        go_wp2_with fail
        go_loop [17, 14] (fun vk vc => vk = .int .i64 0 ∧ vc = .int .i64 c) (fun vk _ => 0)
        case atStart => exact ⟨rfl, rfl⟩
        case round =>
          obtain ⟨rfl, rfl⟩ := hrel
          by_cases hge : At ≤ n2
          · have hc := HS2.out hge
            obtain ⟨z, hz⟩ : ∃ z, z = (n2 - At) / ev := ⟨_, rfl⟩
            rw [← hz] at hc
            have hzz : (n2 - At) / ev = z := hz.symm
            have HC := hid hc
            clear hc hz
            have hz0 : -1 ≤ z := by have := HC.out; omega
            have hz1 : z ≤ 300000 := by have := HC.out; omega
            have hne : (c == 1 + z) = true := by rw [HC.out]; simp
            have hne' : (c != 1 + z) = false := by rw [HC.out]; simp
            go_wp2
            go_roundw
            case rel => exact ⟨i + 1, n2, c, by omega, by omega, by go_num, rfl, rfl, NJ, hf5⟩
            case measure => simp [intOf]; omega
          · have HC := hid (HS3.out (by omega))
            have hne : (c == 0) = true := by rw [HC.out]; rfl
            have hne' : (c != 0) = false := by rw [HC.out]; rfl
            go_wp2
            go_roundw
            case rel => exact ⟨i + 1, n2, c, by omega, by omega, by go_num, rfl, rfl, NJ, hf5⟩
            case measure => simp [intOf]; omega
    · by_cases hl : i < len
      · have h40 : (i : Int) = 40 := by omega
        have t40 : ¬ (i : Int) < 40 := by omega
        have tl : (i : Int) < (len : Int) := by omega
        clear h40
        go_wp2_with fail
        refine (alive_at _).mono ?_
        rintro e w9 ⟨rfl, k9⟩
        go_wp2
        go_ret
        exact ⟨rfl, hf.trans k9 (fun _ _ h => h)⟩
      · have tl : ¬ (i : Int) < (len : Int) := by omega
        go_wp2_with fail
        refine (alive_at _).mono ?_
        rintro e w9 ⟨rfl, k9⟩
        go_wp2
        go_ret
        exact ⟨rfl, hf.trans k9 (fun _ _ h => h)⟩
theorem timersTimes_walk (a0 : Bool) (a1 a2 : Int) (A : Option Addr) (len cap : Nat) (w : World) (w1 : (Lit.int .u16 a1).wf = true) (w2 : (Lit.int .u16 a2).wf = true) (w3 : RdS [.i .u16] w A len cap) :
    Calls Try.prog 8 #[.bool a0, .int .u16 a1, .int .u16 a2, .slice A len cap] w fun e w' => e = .returned (.bool true) ∧ Fr (fun _ => False) w w' := by
  cases a0
  · exact times_rel a1 a2 A len cap w w1 w2 w3 trivial
  · by_cases h : a1 % 10000 = 0
    · exact times_abs0 a1 a2 A len cap w w1 w2 w3 h
    · exact times_abs1 a1 a2 A len cap w w1 w2 w3 h
end Go.Proofs.Ytkcfhdnlmdndeaa
