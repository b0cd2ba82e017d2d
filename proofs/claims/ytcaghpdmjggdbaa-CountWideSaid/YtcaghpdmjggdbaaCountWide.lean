/- CountWide: two counters of other bits that count the same tell the same ways and totals. -/
import Derived.Test.YtcaghpdmjggdbaaCountFollows
import Derived.Deep.RegionHeld3
namespace Go.Proofs.Ytcaghpdmjggdbaa
open Go.RowKit
set_option linter.unusedVariables false
set_option linter.unusedSimpArgs false

/-- Where the two counters stand when both have gone so far. -/
structure Wide (m0 m1 y0 y1 : Int) (p0 p1 s : Nat) (w : World) (i : Nat) (gone : Int) (wr : World) : Prop where
  g0 : 0 ≤ gone
  g1 : gone ≤ i * 144115188075855872
  c : Cnt wr p0 m0 ((y0 + gone) % (m0 + 1)) gone false
  d : Cnt wr p1 m1 ((y1 + gone) % (m1 + 1)) gone false
  bF : Blk wr (s + 1) #[.int .u64 y0, .int .u64 y1] 24
  bC : Blk wr (s + 1 + 1) #[.pointer (some ⟨p0, 0, none⟩), .pointer (some ⟨p1, 0, none⟩)] 27
  bM : Blk wr (s + 1 + 1 + 1) #[.int .u64 m0, .int .u64 m1] 24
  fr : Fr (fun _ => False) w wr

theorem quiet_mine {P : Program} {f : FuncId} {args : Array Value} {w : World} {n : Nat} {v : Value}
    (h : Calls P f args (w.drewN n) fun e w' => e = .returned v ∧ w.drewN n = w') : Calls P f args (w.drewN n) fun e w'' => e = .returned v ∧ ∃ m, w'' = w.drewN m :=
  h.mono fun _ _ ⟨he, hm⟩ => ⟨he, n, hm.symm⟩
theorem two_ints {j k : IntKind} {c : List Value} (h : okAll [.i j, .i k] c) : ∃ x y : Int, c = [.int j x, .int k y] ∧ (Lit.int j x).wf = true ∧ (Lit.int k y).wf = true := by
  match c, h with
  | [u, v], h =>
    obtain ⟨⟨x, rfl, hx⟩, ⟨y, rfl, hy⟩, _⟩ := h
    exact ⟨x, y, rfl, hx, hy⟩
theorem u8_lt {n : Int} (h : (Lit.int .u8 n).wf = true) : 0 ≤ n ∧ n ≤ 255 := by
  simp [Lit.wf, IntKind.min, IntKind.max, IntKind.bits, IntKind.signed] at h; omega

set_option maxRecDepth 100000 in
set_option maxHeartbeats 4000000 in
theorem countWide_walk (c0 c1 : List Value) (A : Option Addr) (len cap : Nat) (w : World) (w0 : okAll [.i .u8, .i .u8] c0) (w1 : okAll [.i .u64, .i .u64] c1) (hR : RdS [.i .u64] w A len cap) :
    Calls Try.prog 3 #[.agg c0.toArray, .agg c1.toArray, .slice A len cap] w fun e w' => e = .returned (.bool true) ∧ Fr (fun _ => False) w w' := by
  obtain ⟨x0, x1, rfl, hx0, hx1⟩ := two_ints w0
  obtain ⟨y0, y1, rfl, hy0, hy1⟩ := two_ints w1
  obtain ⟨hx00, hx01⟩ := u8_lt hx0
  obtain ⟨hx10, hx11⟩ := u8_lt hx1
  obtain ⟨hy00, hy01⟩ := u64_lt hy0
  obtain ⟨hy10, hy11⟩ := u64_lt hy1
  have hlen : len ≤ 9223372036854775807 := by rcases hR with ⟨h, _⟩ | ⟨_, _, _, h1, h2, _⟩ <;> (try unfold maxLen at *) <;> omega
  clear w0 w1 hx0 hx1 hy0 hy1
  have hm0 := mask_is (8 + x0 % 57) (by omega) (by omega)
  have hm1 := mask_is (8 + x1 % 57) (by omega) (by omega)
  have N0 : ∀ W, _ := fun W => new_ok (8 + x0 % 57) (bits BinOp.and IntKind.u64 y0 (18446744073709551615 / 2 ^ (64 - (8 + x0 % 57)).toNat)) W (by omega) (by omega) (by rw [and_mask hm0 y0 hy00 hy01]; have := Int.emod_lt_of_pos y0 (show 0 < 18446744073709551615 / 2 ^ (64 - (8 + x0 % 57)).toNat + 1 by have := hm0.pos; omega); omega)
  have N1 : ∀ W, _ := fun W => new_ok (8 + x1 % 57) (bits BinOp.and IntKind.u64 y1 (18446744073709551615 / 2 ^ (64 - (8 + x1 % 57)).toNat)) W (by omega) (by omega) (by rw [and_mask hm1 y1 hy10 hy11]; have := Int.emod_lt_of_pos y1 (show 0 < 18446744073709551615 / 2 ^ (64 - (8 + x1 % 57)).toNat + 1 by have := hm1.pos; omega); omega)
  go_enter Try.func3, Try.ntmps3
  go_wp2_with fail
  refine wp_loop_rounds 3 ?_
  rw [rounds_succ]
  go_wp2_with fail
  generalize (18446744073709551615 : Int) / 2 ^ (64 - (8 + x0 % 57)).toNat = m0 at *
  generalize hf0 : bits BinOp.and IntKind.u64 y0 m0 = f0 at *
  have Hf0 : Hid (bits BinOp.and IntKind.u64 y0 m0 = f0) := hf0
  clear hf0
  generalize hW : World.alloc (World.alloc (World.alloc (World.alloc w _) _) _) _ = W
  have fW : Fr (fun _ => False) w W := by subst hW; (repeat' (first | (with_reducible exact Fr.refl _ _) | (with_reducible assumption) | (with_reducible refine Fr.alloc ?_ _) | (with_reducible refine Fr.drew ?_) | (with_reducible refine Fr.drewN ?_ _) | (with_reducible refine Fr.setCell ?_ _ _ ?_) | (exact Or.inr rfl) | (left; simp; done) | (left; simp; omega) | (simp; done) | (simp; omega) | omega))
  have bF : Blk W (w.heap.size + 1) #[.int .u64 y0, .int .u64 y1] 24 := by subst hW; (repeat' (first | (with_reducible assumption) | (with_reducible apply Blk.drew) | (with_reducible apply Blk.drewN) | (with_reducible apply Blk.set) | (with_reducible apply Blk.other) | (exact Blk.new' _ _ _ (by first | rfl | (simp; done) | (simp; omega))) | (with_reducible apply Blk.alloc) | rfl | (simp; done) | (simp; omega) | omega))
  have bB : Blk W w.heap.size #[.int .u8 x0, .int .u8 x1] 22 := by subst hW; (repeat' (first | (with_reducible assumption) | (with_reducible apply Blk.drew) | (with_reducible apply Blk.drewN) | (with_reducible apply Blk.set) | (with_reducible apply Blk.other) | (exact Blk.new' _ _ _ (by first | rfl | (simp; done) | (simp; omega))) | (with_reducible apply Blk.alloc) | rfl | (simp; done) | (simp; omega) | omega))
  have bC : Blk W (w.heap.size + 1 + 1) #[.pointer none, .pointer none] 27 := by subst hW; (repeat' (first | (with_reducible assumption) | (with_reducible apply Blk.drew) | (with_reducible apply Blk.drewN) | (with_reducible apply Blk.set) | (with_reducible apply Blk.other) | (exact Blk.new' _ _ _ (by first | rfl | (simp; done) | (simp; omega))) | (with_reducible apply Blk.alloc) | rfl | (simp; done) | (simp; omega) | omega))
  have bM : Blk W (w.heap.size + 1 + 1 + 1) #[.int .u64 m0, .int .u64 0] 24 := by subst hW; (repeat' (first | (with_reducible assumption) | (with_reducible apply Blk.drew) | (with_reducible apply Blk.drewN) | (with_reducible apply Blk.set) | (with_reducible apply Blk.other) | (exact Blk.new' _ _ _ (by first | rfl | (simp; done) | (simp; omega))) | (with_reducible apply Blk.alloc) | rfl | (simp; done) | (simp; omega) | omega))
  clear hW
  have cF := bF.cell 0
  have cM := bM.cell 0
  simp at cF cM
  go_region_held3 (fun w' => w'.cell? ⟨w.heap.size + 1, 0, none⟩ = some (.int .u64 y0) ∧ w'.cell? ⟨w.heap.size + 1 + 1 + 1, 0, none⟩ = some (.int .u64 m0)) (first | go_keep | exact ⟨(k1.cell bF.lt id).trans cF, (k1.cell bM.lt id).trans cM⟩)
    (first | (go_at_call 6; rw [Hf0.out]; refine (N0 _).mono ?_; rintro e w1 ⟨rfl, h1, k1⟩))
  have k1 : Fr (fun _ => False) W w1 := ⟨k1.os, k1.tape, k1.output, k1.size, k1.block⟩
  have h1 : Cnt w1 W.heap.size m0 f0 0 false := h1
  have bF1 := bF.fr k1 (fun h => h)
  have bB1 := bB.fr k1 (fun h => h)
  have bC1 := bC.fr k1 (fun h => h)
  have bM1 := bM.fr k1 (fun h => h)
  have fW1 : Fr (fun _ => False) w w1 := fW.trans k1 (fun _ _ h => h)
  have hne : w.heap.size + 1 + 1 + 1 < W.heap.size := bM.lt
  clear bF bB bC bM fW k1 cF cM N0
  generalize W.heap.size = p0 at *
  have cC := bC1.cell 0
  have gC := bC1.free 0
  have cB := bB1.cell 1
  have cM := bM1.cell 1
  have gM := bM1.free 1
  simp at cC cB cM
  go_wp2_with fail
  rw [rounds_succ]
  go_wp2_with fail
  generalize (18446744073709551615 : Int) / 2 ^ (64 - (8 + x1 % 57)).toNat = m1 at *
  generalize hf1 : bits BinOp.and IntKind.u64 y1 m1 = f1 at *
  have Hf1 : Hid (bits BinOp.and IntKind.u64 y1 m1 = f1) := hf1
  clear hf1 cC gC cB cM gM
  generalize hW : World.setCell (World.setCell w1 _ _) _ _ = W
  have fW : Fr (fun _ => False) w W := by subst hW; (repeat' (first | (with_reducible exact Fr.refl _ _) | (with_reducible assumption) | (with_reducible refine Fr.alloc ?_ _) | (with_reducible refine Fr.drew ?_) | (with_reducible refine Fr.drewN ?_ _) | (with_reducible refine Fr.setCell ?_ _ _ ?_) | (exact Or.inr rfl) | (left; simp; done) | (left; simp; omega) | (simp; done) | (simp; omega) | omega))
  have bF : Blk W (w.heap.size + 1) #[.int .u64 y0, .int .u64 y1] 24 := by subst hW; (repeat' (first | (with_reducible assumption) | (with_reducible apply Blk.drew) | (with_reducible apply Blk.drewN) | (with_reducible apply Blk.set) | (with_reducible apply Blk.other) | (exact Blk.new' _ _ _ (by first | rfl | (simp; done) | (simp; omega))) | (with_reducible apply Blk.alloc) | rfl | (simp; done) | (simp; omega) | omega))
  have bC : Blk W (w.heap.size + 1 + 1) #[.pointer (some ⟨p0, 0, none⟩), .pointer none] 27 := by subst hW; (repeat' (first | (with_reducible assumption) | (with_reducible apply Blk.drew) | (with_reducible apply Blk.drewN) | (with_reducible apply Blk.set) | (with_reducible apply Blk.other) | (exact Blk.new' _ _ _ (by first | rfl | (simp; done) | (simp; omega))) | (with_reducible apply Blk.alloc) | rfl | (simp; done) | (simp; omega) | omega))
  have bM : Blk W (w.heap.size + 1 + 1 + 1) #[.int .u64 m0, .int .u64 m1] 24 := by subst hW; (repeat' (first | (with_reducible assumption) | (with_reducible apply Blk.drew) | (with_reducible apply Blk.drewN) | (with_reducible apply Blk.set) | (with_reducible apply Blk.other) | (exact Blk.new' _ _ _ (by first | rfl | (simp; done) | (simp; omega))) | (with_reducible apply Blk.alloc) | rfl | (simp; done) | (simp; omega) | omega))
  have h1' : Cnt W p0 m0 f0 0 false := by subst hW; unfold Cnt at *; (repeat' (first | (with_reducible assumption) | (with_reducible apply Blk.drew) | (with_reducible apply Blk.drewN) | (with_reducible apply Blk.set) | (with_reducible apply Blk.other) | (exact Blk.new' _ _ _ (by first | rfl | (simp; done) | (simp; omega))) | (with_reducible apply Blk.alloc) | rfl | (simp; done) | (simp; omega) | omega))
  clear hW bF1 bB1 bC1 bM1 fW1 h1
  have cF := bF.cell 1
  have cM := bM.cell 1
  simp at cF cM
  go_region_held3 (fun w' => w'.cell? ⟨w.heap.size + 1, 1, none⟩ = some (.int .u64 y1) ∧ w'.cell? ⟨w.heap.size + 1 + 1 + 1, 1, none⟩ = some (.int .u64 m1)) (first | go_keep | exact ⟨(k2.cell bF.lt (fun h => h)).trans cF, (k2.cell bM.lt (fun h => h)).trans cM⟩)
    (first | (go_at_call 6; rw [Hf1.out]; refine (N1 _).mono ?_; rintro e w2 ⟨rfl, h2, k2⟩))
  have k2 : Fr (fun _ => False) W w2 := ⟨k2.os, k2.tape, k2.output, k2.size, k2.block⟩
  have h2 : Cnt w2 W.heap.size m1 f1 0 false := h2
  have bF2 := bF.fr k2 (fun h => h)
  have bC2 := bC.fr k2 (fun h => h)
  have bM2 := bM.fr k2 (fun h => h)
  have h12 : Cnt w2 p0 m0 f0 0 false := h1'.fr k2 (fun h => h)
  have fW2 : Fr (fun _ => False) w w2 := fW.trans k2 (fun _ _ h => h)
  have hne1 : p0 < W.heap.size := h1'.lt
  clear bF bC bM fW k2 cF cM N1 h1'
  generalize W.heap.size = p1 at *
  have cC := bC2.cell 1
  have gC := bC2.free 1
  simp at cC
  go_wp2_with fail
  rw [rounds_succ]
  go_wp2_with fail
  generalize hW : World.setCell w2 _ _ = W4
  have hI : Wide m0 m1 y0 y1 p0 p1 w.heap.size w 0 0 W4 := by
    have e0 : y0 % (m0 + 1) = f0 := by rw [← Hf0.out]; exact (and_mask hm0 y0 hy00 hy01).symm
    have e1 : y1 % (m1 + 1) = f1 := by rw [← Hf1.out]; exact (and_mask hm1 y1 hy10 hy11).symm
    refine ⟨by omega, by omega, ?_, ?_, ?_, ?_, ?_, ?_⟩
    · rw [Int.add_zero, e0]; subst hW; unfold Cnt at *; (repeat' (first | (with_reducible assumption) | (with_reducible apply Blk.drew) | (with_reducible apply Blk.drewN) | (with_reducible apply Blk.set) | (with_reducible apply Blk.other) | (exact Blk.new' _ _ _ (by first | rfl | (simp; done) | (simp; omega))) | (with_reducible apply Blk.alloc) | rfl | (simp; done) | (simp; omega) | omega))
    · rw [Int.add_zero, e1]; subst hW; unfold Cnt at *; (repeat' (first | (with_reducible assumption) | (with_reducible apply Blk.drew) | (with_reducible apply Blk.drewN) | (with_reducible apply Blk.set) | (with_reducible apply Blk.other) | (exact Blk.new' _ _ _ (by first | rfl | (simp; done) | (simp; omega))) | (with_reducible apply Blk.alloc) | rfl | (simp; done) | (simp; omega) | omega))
    · subst hW; (repeat' (first | (with_reducible assumption) | (with_reducible apply Blk.drew) | (with_reducible apply Blk.drewN) | (with_reducible apply Blk.set) | (with_reducible apply Blk.other) | (exact Blk.new' _ _ _ (by first | rfl | (simp; done) | (simp; omega))) | (with_reducible apply Blk.alloc) | rfl | (simp; done) | (simp; omega) | omega))
    · subst hW; (repeat' (first | (with_reducible assumption) | (with_reducible apply Blk.drew) | (with_reducible apply Blk.drewN) | (with_reducible apply Blk.set) | (with_reducible apply Blk.other) | (exact Blk.new' _ _ _ (by first | rfl | (simp; done) | (simp; omega))) | (with_reducible apply Blk.alloc) | rfl | (simp; done) | (simp; omega) | omega))
    · subst hW; (repeat' (first | (with_reducible assumption) | (with_reducible apply Blk.drew) | (with_reducible apply Blk.drewN) | (with_reducible apply Blk.set) | (with_reducible apply Blk.other) | (exact Blk.new' _ _ _ (by first | rfl | (simp; done) | (simp; omega))) | (with_reducible apply Blk.alloc) | rfl | (simp; done) | (simp; omega) | omega))
    · subst hW; (repeat' (first | (with_reducible exact Fr.refl _ _) | (with_reducible assumption) | (with_reducible refine Fr.alloc ?_ _) | (with_reducible refine Fr.drew ?_) | (with_reducible refine Fr.drewN ?_ _) | (with_reducible refine Fr.setCell ?_ _ _ ?_) | (exact Or.inr rfl) | (left; simp; done) | (left; simp; omega) | (simp; done) | (simp; omega) | omega))
  clear hW bF2 bC2 bM2 fW2 h12 h2 cC gC
  have hml0 := hm0.le
  have hml1 := hm1.le
  have hmp0 := hm0.pos
  have hmp1 := hm1.pos
  go_loopw [54, 13] (fun vi vg wr => ∃ (i : Nat) (gone : Int), i ≤ len ∧ i ≤ 60 ∧ vi = .int .i64 i ∧ vg = .int .u64 gone ∧ Wide m0 m1 y0 y1 p0 p1 w.heap.size w i gone wr) (fun vi _ _ => len - (intOf vi).toNat)
  case atStart => exact ⟨0, 0, by omega, by omega, rfl, rfl, hI⟩
  case round =>
    clear hI
    obtain ⟨i, gone, hil, hi60, rfl, rfl, I⟩ := hrel
    by_cases hlt : i < len
    · obtain ⟨b, off, n, rfl, hc, hn, hb⟩ := hR.num hlt
      have hc' := (I.fr.cell (a := ⟨b, off + i, none⟩) hb (fun h => h)).trans hc
      by_cases h60 : i = 60
      · have h60' : ((i : Int) == 60) = true := by simp; omega
        clear hc hn hb hR h60
        go_wp2_with fail
        refine (awake_true _).mono ?_
        rintro e w5 ⟨rfl, k5⟩
        have hk : Fr (fun _ => False) w w5 := I.fr.trans k5 (fun _ _ h => h)
        clear I k5
        go_wp2
        go_ret
        exact ⟨rfl, hk⟩
      · have h60' : ((i : Int) == 60) = false := by simp; omega
        have hi59 : i ≤ 59 := by omega
        obtain ⟨hn0, hn1⟩ := u64_lt hn
        have cM0 := I.bM.cell 0
        have cM1 := I.bM.cell 1
        have cF0 := I.bF.cell 0
        have cC0 := I.bC.cell 0
        simp at cM0 cM1 cF0 cC0
        clear hc hn hb hR h60
        go_wp2_with fail
        have ha := and_le (a := m0) (b := m1) hmp0 hml0 hmp1 hml1
        have hb := and_le (a := bits .and .u64 m0 m1) (b := 144115188075855871) ha.1 (by omega) (by omega) (by omega)
        have hm := and_le (a := n) (b := bits .and .u64 (bits .and .u64 m0 m1) 144115188075855871) hn0 hn1 hb.1 (by omega)
        have hq0 := hm.1
        have hq1 : bits .and .u64 n (bits .and .u64 (bits .and .u64 m0 m1) 144115188075855871) ≤ m0 := by omega
        have hq2 : bits .and .u64 n (bits .and .u64 (bits .and .u64 m0 m1) 144115188075855871) ≤ m1 := by omega
        have hq3 : bits .and .u64 n (bits .and .u64 (bits .and .u64 m0 m1) 144115188075855871) ≤ 144115188075855871 := by omega
        clear ha hb hm
        generalize bits .and .u64 n (bits .and .u64 (bits .and .u64 m0 m1) 144115188075855871) = m at *
        have hg0 := I.g0
        have hg1 : gone ≤ 8502796096475496448 := by have := I.g1; omega
        have HG : Hid (gone ≤ i * 144115188075855872) := I.g1
        have hg2 : IntKind.u64.wrap (gone + m) = gone + m := by rw [wrap_u64_mod]; omega
        have hr0 : bits .and .u64 (IntKind.u64.wrap (y0 + IntKind.u64.wrap (gone + m))) m0 = (y0 + gone + m) % (m0 + 1) := by
          rw [add_wrap_right, and_wrap hm0, Int.add_assoc]
        have hr1 : bits .and .u64 (IntKind.u64.wrap (y1 + IntKind.u64.wrap (gone + m))) m1 = (y1 + gone + m) % (m1 + 1) := by
          rw [add_wrap_right, and_wrap hm1, Int.add_assoc]
        rw [hg2] at hr0 hr1 ⊢
        have HR1 : Hid (bits .and .u64 (IntKind.u64.wrap (y1 + (gone + m))) m1 = (y1 + gone + m) % (m1 + 1)) := hr1
        clear hg2 hr1
        have hc := read_follow hm0 I.c hr0 hq0 hq1 hg0 (by omega)
        have HR0 : Hid (bits .and .u64 (IntKind.u64.wrap (y0 + (gone + m))) m0 = (y0 + gone + m) % (m0 + 1)) := hr0
        clear hr0
        refine hc.mono ?_
        clear hc
        rintro e w5 ⟨rfl, hc, k5⟩
        have hd : Cnt w5 p1 m1 ((y1 + gone) % (m1 + 1)) gone false := I.d.fr k5 (by simp [At]; omega)
        have bF := I.bF.fr k5 (by simp [At]; omega)
        have bC := I.bC.fr k5 (by simp [At]; omega)
        have bM := I.bM.fr k5 (by simp [At]; omega)
        have hk : Fr (fun _ => False) w w5 := I.fr.trans k5 (At.gone (by omega))
        clear I k5 cM0 cM1 cF0 cC0
        have cM0 := bM.cell 1
        have cF0 := bF.cell 1
        have cC0 := bC.cell 1
        simp at cM0 cF0 cC0
        go_wp2_with fail
        have hr1 := HR1.out
        have hd' := read_follow hm1 hd hr1 hq0 hq2 hg0 (by omega)
        clear hr1
        refine hd'.mono ?_
        clear hd'
        rintro e w6 ⟨rfl, hd', k6⟩
        have hc' : Cnt w6 p0 m0 (bits .and .u64 (IntKind.u64.wrap (y0 + (gone + m))) m0) (gone + m) false := hc.fr k6 (by simp [At]; omega)
        have bF' := bF.fr k6 (by simp [At]; omega)
        have bC' := bC.fr k6 (by simp [At]; omega)
        have bM' := bM.fr k6 (by simp [At]; omega)
        have hk' : Fr (fun _ => False) w w6 := hk.trans k6 (At.gone (by omega))
        clear hk k6 cM0 cF0 cC0 hc bF bC bM hd
        have cC0 := bC'.cell 0
        have cC1 := bC'.cell 1
        simp at cC0 cC1
        have T0 := fun n => quiet_mine (total_at (Blk.drewN hc' n))
        have T1 := fun n => quiet_mine (total_at (Blk.drewN hd' n))
        go_wp2_with fail
        go_quiet ((first | exact T0 _ | exact T1 _))
        clear T0 T1
        go_wp2_with fail
        go_roundw
        case rel =>
          refine ⟨i + 1, gone + m, by omega, by omega, by go_num, rfl, ⟨by omega, by have := HG.out; push_cast; omega, ?_, ?_, bF'.drewN _, bC'.drewN _, bM'.drewN _, hk'.drewN _⟩⟩
          · rw [← Int.add_assoc, ← HR0.out]; exact Blk.drewN hc' _
          · rw [← Int.add_assoc, ← HR1.out]; exact Blk.drewN hd' _
        case measure => simp [intOf]; omega
    · go_wp2_with fail
      refine (awake_true _).mono ?_
      rintro e w5 ⟨rfl, k5⟩
      have hk : Fr (fun _ => False) w w5 := I.fr.trans k5 (fun _ _ h => h)
      clear I k5
      go_wp2
      go_ret
      exact ⟨rfl, hk⟩
end Go.Proofs.Ytcaghpdmjggdbaa
