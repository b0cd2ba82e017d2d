/- NonceTells: a book under any calls tells what the document's tells. -/
import Derived.Test.YtmacilbafoejdaaNonceRef
import Derived.Test.YtmacilbafoejdaaNonceAlive
import Derived.Test.YtmacilbafoejdaaOpen
import Derived.Deep.RegionHeld3
namespace Go.Proofs.Ytmacilbafoejdaa
open Go.RowKit
set_option linter.unusedVariables false
set_option linter.unusedSimpArgs false

structure Tel (w : World) (b g : Nat) (x : BS) (y : RS) (wr : World) : Prop where
  bk : Bk wr b x
  rf : Rf wr g y
  same : Same x y
  ok : x.ok
  hb : w.heap.size ≤ b
  hg : w.heap.size ≤ g
  fr : Fr (fun _ => False) w wr
theorem Same.len {x : BS} {y : RS} (h : Same x y) : y.out.length ≤ 1 ∧ y.stale.length ≤ 4 := by
  rw [h.out, h.stale]
  refine ⟨by split <;> simp, ?_⟩
  split
  · simp
  · split
    · simp
    · split
      · simp
      · split <;> simp
theorem i64_lt {n : Int} (h : (Lit.int .i64 n).wf = true) : -9223372036854775808 ≤ n ∧ n ≤ 9223372036854775807 := by
  simp [Lit.wf, IntKind.min, IntKind.max, IntKind.bits, IntKind.signed] at h; omega
theorem call_cells {c : List Value} (h : okAll [.i .i64, .i .u64, .i .i64, .i .i64] c) : ∃ a n r m : Int, c = [.int .i64 a, .int .u64 n, .int .i64 r, .int .i64 m] ∧ (Lit.int .i64 r).wf = true ∧ (Lit.int .i64 m).wf = true := by
  obtain ⟨u0, c, rfl, ⟨a, rfl, _⟩, h1⟩ := h.cons
  obtain ⟨u1, c, rfl, ⟨n, rfl, _⟩, h2⟩ := h1.cons
  obtain ⟨u2, c, rfl, ⟨r, rfl, hr⟩, h3⟩ := h2.cons
  obtain ⟨u3, c, rfl, ⟨m, rfl, hm⟩, h4⟩ := h3.cons
  obtain rfl := h4.none
  exact ⟨a, n, r, m, rfl, hr, hm⟩

set_option maxRecDepth 100000 in
set_option maxHeartbeats 8000000 in
theorem nonceTells_walk (A : Option Addr) (len cap : Nat) (w : World) (hR : RdS [.i .i64, .i .u64, .i .i64, .i .i64] w A len cap) :
    Calls Try.prog 4 #[.slice A len cap] w fun e w' => e = .returned (.bool true) ∧ Fr (fun _ => False) w w' := by
  have hlen := hR.len_le
  go_enter Try.func4, Try.ntmps4
  go_wp2_with fail
  refine (new_at _).mono ?_
  rintro e w1 ⟨rfl, h1, k1⟩
  have hsz := k1.size
  go_wp2_with fail
  generalize hW : World.alloc w1 _ = W
  have I0 : Tel w w.heap.size w1.heap.size BS.empty RS.empty W := by
    have kf : Fr (fun _ => False) w1 W := by subst hW; (repeat' (first | (with_reducible exact Fr.refl _ _) | (with_reducible assumption) | (with_reducible refine Fr.alloc ?_ _) | (with_reducible refine Fr.drew ?_) | (with_reducible refine Fr.drewN ?_ _) | (with_reducible refine Fr.setCell ?_ _ _ ?_) | (exact Or.inr rfl) | (left; simp; done) | (left; simp; omega) | (simp; done) | (simp; omega) | omega))
    refine ⟨h1.fr kf (fun h => h), ⟨_, _, _, ?_, Lst.nil _ _, Lst.nil _ _, Lst.nil _ _⟩, Same.empty, BS.ok_empty, Nat.le_refl _, hsz, k1.trans kf (fun _ _ h => h)⟩
    subst hW
    exact Blk.new _ _ _
  clear hW h1 k1
  generalize w1.heap.size = g at *
  go_loopw [3, 5] (fun vb vi wr => ∃ (i : Nat) (b : Nat) (x : BS) (y : RS), i ≤ len ∧ i ≤ 80 ∧ vi = .int .i64 i ∧ vb = .pointer (some ⟨b, 0, none⟩) ∧ Tel w b g x y wr) (fun _ vi _ => len - (intOf vi).toNat)
  case atStart => exact ⟨0, _, _, _, by omega, by omega, rfl, rfl, I0⟩
  case round =>
    clear I0
    obtain ⟨i, b, x, y, hil, hi80, rfl, rfl, I⟩ := hrel
    by_cases hlt : i < len
    · by_cases h80 : i < 80
      · obtain ⟨cb, off, vs, rfl, hok, hc, hcb⟩ := hR.at hlt
        obtain ⟨wh, n, raw, most, rfl, hr, hm⟩ := call_cells hok
        have c0 := (I.fr.cell (a := ⟨cb, off + i * 4 + 0, none⟩) hcb (fun h => h)).trans (hc 0 _ rfl)
        have c1 := (I.fr.cell (a := ⟨cb, off + i * 4 + 1, none⟩) hcb (fun h => h)).trans (hc 1 _ rfl)
        have c2 := (I.fr.cell (a := ⟨cb, off + i * 4 + 2, none⟩) hcb (fun h => h)).trans (hc 2 _ rfl)
        have c3 := (I.fr.cell (a := ⟨cb, off + i * 4 + 3, none⟩) hcb (fun h => h)).trans (hc 3 _ rfl)
        rw [Nat.add_zero] at c0
        clear hc hok hR
        -- ROUNDS
        by_cases hw0 : wh = 0
        · subst hw0
          go_wp2_with fail

          generalize hW : World.alloc wr _ = Wc
          have kc : Fr (fun _ => False) wr Wc := by subst hW; (repeat' (first | (with_reducible exact Fr.refl _ _) | (with_reducible assumption) | (with_reducible refine Fr.alloc ?_ _) | (with_reducible refine Fr.drew ?_) | (with_reducible refine Fr.drewN ?_ _) | (with_reducible refine Fr.setCell ?_ _ _ ?_) | (exact Or.inr rfl) | (left; simp; done) | (left; simp; omega) | (simp; done) | (simp; omega) | omega))
          have bc : Blk Wc wr.heap.size #[.int .i64 0, .int .u64 n, .int .i64 raw, .int .i64 most] 38 := by subst hW; (repeat' (first | (with_reducible assumption) | (with_reducible apply Blk.drew) | (with_reducible apply Blk.drewN) | (with_reducible apply Blk.set) | (with_reducible apply Blk.other) | (exact Blk.new' _ _ _ (by first | rfl | (simp; done) | (simp; omega))) | (with_reducible apply Blk.alloc) | (with_reducible rfl) | (simp; done) | (simp; omega) | omega | rfl))
          clear hW
          have bk := I.bk.fr kc (fun h => h)
          have rf := I.rf.fr kc (fun h => h) (fun _ _ h => h.elim)
          have same := I.same
          have ok := I.ok
          have hbb := I.hb
          have hgg := I.hg
          have hbl : b < wr.heap.size := I.bk.blk.lt
          have hgl : g < wr.heap.size := by obtain ⟨_, _, _, hb0, _⟩ := I.rf; exact hb0.lt
          have fr : Fr (fun _ => False) w Wc := I.fr.trans kc (fun _ _ h => h)
          have hbg : b ≠ g := by
            intro e
            subst e
            obtain ⟨_, _, _, hb0, _⟩ := I.rf
            exact absurd (I.bk.blk.one hb0).2 (by decide)
          have lens := same.len
          have d0 := bc.cell 0
          have d1 := bc.cell 1
          have d2 := bc.cell 2
          have d3 := bc.cell 3
          simp at d0 d1 d2 d3
          have bkd : Bk Wc.drew b x := bk
          have rfd : Rf Wc.drew g y := rf
          have bcd : wr.heap.size < Wc.drew.heap.size := bc.lt
          have e1 : Wc.drew.cell? ⟨wr.heap.size, 1, none⟩ = some (.int .u64 n) := d1
          have e2 : Wc.drew.cell? ⟨wr.heap.size, 2, none⟩ = some (.int .i64 raw) := d2
          have e3 : Wc.drew.cell? ⟨wr.heap.size, 3, none⟩ = some (.int .i64 most) := d3
          clear I kc c0 c1 c2 c3 hcb

          have E1 := same.askE n raw
          have HE : Hid (y.askE n raw = x.askE n raw) := E1
          clear E1
          have G := fun (W' : World) (h : Rf W' g y) => rask_at (n := n) (raw := raw) h lens.2 lens.1
          have A1 := fun (W' : World) (h : Bk W' b x) => ask_at (n := n) (raw := raw) h
          rw [HE.out] at G
          have S0 := same.askS n raw
          have O0 := BS.ok_ask ok n raw
          generalize x.askE n raw = ev at *

          go_region_held3 (fun w' => w'.cell? ⟨wr.heap.size, 1, none⟩ = some (.int .u64 n) ∧ w'.cell? ⟨wr.heap.size, 2, none⟩ = some (.int .i64 raw) ∧ w'.cell? ⟨wr.heap.size, 3, none⟩ = some (.int .i64 most))
            (first | exact ⟨e1, e2, e3⟩ | exact ⟨(q1.cell bcd (by simp [At]; omega)).trans e1, (q1.cell bcd (by simp [At]; omega)).trans e2, (q1.cell bcd (by simp [At]; omega)).trans e3⟩ | exact ⟨(q2.cell (q1.lt bcd) (by simp [At]; omega)).trans ((q1.cell bcd (by simp [At]; omega)).trans e1), (q2.cell (q1.lt bcd) (by simp [At]; omega)).trans ((q1.cell bcd (by simp [At]; omega)).trans e2), (q2.cell (q1.lt bcd) (by simp [At]; omega)).trans ((q1.cell bcd (by simp [At]; omega)).trans e3)⟩ | go_keep)
            (first | (go_at_call 8; refine (A1 _ bkd).mono ?_; rintro e w1 ⟨rfl, p1, q1⟩)
                   | (go_at_call 12; refine (G _ (rfd.fr q1 (by simp [At]; omega) (bkd.blk.ne (show 52 ≠ 25 by decide)))).mono ?_; rintro e w2 ⟨rfl, p2, q2⟩))

          have q1' : Fr (At b) Wc w1 := ⟨q1.os, q1.tape, q1.output, q1.size, q1.block⟩
          have hbk : Bk w2 b (x.askS n raw) := p1.fr q2 (by simp [At]; omega)
          have hrf : Rf w2 g (y.askS n raw) := p2
          have hsame : Same (x.askS n raw) (y.askS n raw) := S0
          have hok : (x.askS n raw).ok := O0
          have hfr : Fr (fun _ => False) w w2 := (fr.trans q1' (At.gone hbb)).trans q2 (At.gone hgg)
          clear same ok fr q1 q1' q2 p1 p2 lens bk rf bc d0 d1 d2 d3
          clear G A1 S0 O0 HE
          go_wp2_with fail

          obtain ⟨vo, v1, v2, hbR, L0, L1, L2⟩ := id hrf
          have cR0 := hbR.cell 0
          have cR3 := hbR.cell 3
          simp at cR0 cR3
          by_cases ho : (x.askS n raw).out = 0
          · have hy : (y.askS n raw).out = [] := by rw [hsame.out, if_pos ho]
            have OUT := out_at hbk
            rw [if_pos ho, ho] at OUT
            rw [hy] at L0
            obtain ⟨B, cc, rfl, _, _⟩ := L0.form
            simp only [nums, List.map_nil, List.length_nil] at cR0
            have FIN : ∀ nq, Tel w b g (x.askS n raw) (y.askS n raw) (World.drewN _ nq) := fun nq => ⟨Blk.drewN hbk nq, ⟨_, v1, v2, Blk.drewN hbR nq, by rw [hy]; exact Lst.drewN L0 nq, Lst.drewN L1 nq, Lst.drewN L2 nq⟩, hsame, hok, hbb, hgg, hfr.drewN nq⟩
            clear hy ho hbk hrf hbR L0 L1 L2 hsame hok hfr
            go_wp2_with fail
            refine OUT.mono ?_
            clear OUT
            rintro e w' ⟨rfl, nq, rfl⟩
            go_wp2
            go_roundw
            case rel => first | exact ⟨i + 1, _, _, _, by omega, by omega, by go_num, rfl, FIN _⟩ | ((repeat apply Exists.intro); exact ⟨⟨i + 1, _, _, _, by omega, by omega, by go_num, rfl, FIN _⟩, rfl⟩)
            case measure => simp [intOf]; omega
          · have hy : (y.askS n raw).out = [(x.askS n raw).out] := by rw [hsame.out, if_neg ho]
            have hsi := hsame.since ho
            have OUT := out_at hbk
            have e0 : ((x.askS n raw).out == 0) = false := by simp [ho]
            rw [if_neg ho, e0] at OUT
            have L0' := L0
            rw [hy] at L0
            obtain ⟨B, cc, rfl, _, _⟩ := L0.form
            obtain ⟨r0, o0, rfl, hcell, _⟩ := L0.get (i := 0) (u := .int .u64 (x.askS n raw).out) rfl
            rw [Nat.add_zero] at hcell
            simp only [nums, List.map_cons, List.map_nil, List.length_cons, List.length_nil, Nat.zero_add] at cR0
            rw [hsi] at cR3
            have FIN : ∀ nq, Tel w b g (x.askS n raw) (y.askS n raw) (World.drewN _ nq) := fun nq => ⟨Blk.drewN hbk nq, ⟨_, v1, v2, Blk.drewN hbR nq, Lst.drewN L0' nq, Lst.drewN L1 nq, Lst.drewN L2 nq⟩, hsame, hok, hbb, hgg, hfr.drewN nq⟩
            clear hy ho hbk hrf hbR L0 L0' L1 L2 hsame hok hfr hsi
            generalize (x.askS n raw).out = xo at *
            generalize (x.askS n raw).since = xs at *
            go_wp2_with fail
            refine OUT.mono ?_
            clear OUT
            rintro e w' ⟨rfl, nq, rfl⟩
            go_wp2
            go_roundw
            case rel => first | exact ⟨i + 1, _, _, _, by omega, by omega, by go_num, rfl, FIN _⟩ | ((repeat apply Exists.intro); exact ⟨⟨i + 1, _, _, _, by omega, by omega, by go_num, rfl, FIN _⟩, rfl⟩)
            case measure => simp [intOf]; omega
        · by_cases hw1 : wh = 1
          · subst hw1
            go_wp2_with fail

            generalize hW : World.alloc wr _ = Wc
            have kc : Fr (fun _ => False) wr Wc := by subst hW; (repeat' (first | (with_reducible exact Fr.refl _ _) | (with_reducible assumption) | (with_reducible refine Fr.alloc ?_ _) | (with_reducible refine Fr.drew ?_) | (with_reducible refine Fr.drewN ?_ _) | (with_reducible refine Fr.setCell ?_ _ _ ?_) | (exact Or.inr rfl) | (left; simp; done) | (left; simp; omega) | (simp; done) | (simp; omega) | omega))
            have bc : Blk Wc wr.heap.size #[.int .i64 1, .int .u64 n, .int .i64 raw, .int .i64 most] 38 := by subst hW; (repeat' (first | (with_reducible assumption) | (with_reducible apply Blk.drew) | (with_reducible apply Blk.drewN) | (with_reducible apply Blk.set) | (with_reducible apply Blk.other) | (exact Blk.new' _ _ _ (by first | rfl | (simp; done) | (simp; omega))) | (with_reducible apply Blk.alloc) | (with_reducible rfl) | (simp; done) | (simp; omega) | omega | rfl))
            clear hW
            have bk := I.bk.fr kc (fun h => h)
            have rf := I.rf.fr kc (fun h => h) (fun _ _ h => h.elim)
            have same := I.same
            have ok := I.ok
            have hbb := I.hb
            have hgg := I.hg
            have hbl : b < wr.heap.size := I.bk.blk.lt
            have hgl : g < wr.heap.size := by obtain ⟨_, _, _, hb0, _⟩ := I.rf; exact hb0.lt
            have fr : Fr (fun _ => False) w Wc := I.fr.trans kc (fun _ _ h => h)
            have hbg : b ≠ g := by
              intro e
              subst e
              obtain ⟨_, _, _, hb0, _⟩ := I.rf
              exact absurd (I.bk.blk.one hb0).2 (by decide)
            have lens := same.len
            have d0 := bc.cell 0
            have d1 := bc.cell 1
            have d2 := bc.cell 2
            have d3 := bc.cell 3
            simp at d0 d1 d2 d3
            have bkd : Bk Wc.drew b x := bk
            have rfd : Rf Wc.drew g y := rf
            have bcd : wr.heap.size < Wc.drew.heap.size := bc.lt
            have e1 : Wc.drew.cell? ⟨wr.heap.size, 1, none⟩ = some (.int .u64 n) := d1
            have e2 : Wc.drew.cell? ⟨wr.heap.size, 2, none⟩ = some (.int .i64 raw) := d2
            have e3 : Wc.drew.cell? ⟨wr.heap.size, 3, none⟩ = some (.int .i64 most) := d3
            clear I kc c0 c1 c2 c3 hcb

            have E1 := same.askE n raw
            have HE : Hid (y.askE n raw = x.askE n raw) := E1
            clear E1
            have G := fun (W' : World) (h : Rf W' g y) => rask_at (n := n) (raw := raw) h lens.2 lens.1
            have A1 := fun (W' : World) (h : Bk W' b x) => ask_at (n := n) (raw := raw) h
            rw [HE.out] at G
            have S0 := same.askS n raw
            have O0 := BS.ok_ask ok n raw
            generalize x.askE n raw = ev at *

            go_region_held3 (fun w' => w'.cell? ⟨wr.heap.size, 1, none⟩ = some (.int .u64 n) ∧ w'.cell? ⟨wr.heap.size, 2, none⟩ = some (.int .i64 raw) ∧ w'.cell? ⟨wr.heap.size, 3, none⟩ = some (.int .i64 most))
              (first | exact ⟨e1, e2, e3⟩ | exact ⟨(q1.cell bcd (by simp [At]; omega)).trans e1, (q1.cell bcd (by simp [At]; omega)).trans e2, (q1.cell bcd (by simp [At]; omega)).trans e3⟩ | exact ⟨(q2.cell (q1.lt bcd) (by simp [At]; omega)).trans ((q1.cell bcd (by simp [At]; omega)).trans e1), (q2.cell (q1.lt bcd) (by simp [At]; omega)).trans ((q1.cell bcd (by simp [At]; omega)).trans e2), (q2.cell (q1.lt bcd) (by simp [At]; omega)).trans ((q1.cell bcd (by simp [At]; omega)).trans e3)⟩ | go_keep)
              (first | (go_at_call 8; refine (A1 _ bkd).mono ?_; rintro e w1 ⟨rfl, p1, q1⟩)
                     | (go_at_call 12; refine (G _ (rfd.fr q1 (by simp [At]; omega) (bkd.blk.ne (show 52 ≠ 25 by decide)))).mono ?_; rintro e w2 ⟨rfl, p2, q2⟩))

            have q1' : Fr (At b) Wc w1 := ⟨q1.os, q1.tape, q1.output, q1.size, q1.block⟩
            have hbk : Bk w2 b (x.askS n raw) := p1.fr q2 (by simp [At]; omega)
            have hrf : Rf w2 g (y.askS n raw) := p2
            have hsame : Same (x.askS n raw) (y.askS n raw) := S0
            have hok : (x.askS n raw).ok := O0
            have hfr : Fr (fun _ => False) w w2 := (fr.trans q1' (At.gone hbb)).trans q2 (At.gone hgg)
            clear same ok fr q1 q1' q2 p1 p2 lens bk rf bc d0 d1 d2 d3
            clear G A1 S0 O0 HE
            go_wp2_with fail

            obtain ⟨vo, v1, v2, hbR, L0, L1, L2⟩ := id hrf
            have cR0 := hbR.cell 0
            have cR3 := hbR.cell 3
            simp at cR0 cR3
            by_cases ho : (x.askS n raw).out = 0
            · have hy : (y.askS n raw).out = [] := by rw [hsame.out, if_pos ho]
              have OUT := out_at hbk
              rw [if_pos ho, ho] at OUT
              rw [hy] at L0
              obtain ⟨B, cc, rfl, _, _⟩ := L0.form
              simp only [nums, List.map_nil, List.length_nil] at cR0
              have FIN : ∀ nq, Tel w b g (x.askS n raw) (y.askS n raw) (World.drewN _ nq) := fun nq => ⟨Blk.drewN hbk nq, ⟨_, v1, v2, Blk.drewN hbR nq, by rw [hy]; exact Lst.drewN L0 nq, Lst.drewN L1 nq, Lst.drewN L2 nq⟩, hsame, hok, hbb, hgg, hfr.drewN nq⟩
              clear hy ho hbk hrf hbR L0 L1 L2 hsame hok hfr
              go_wp2_with fail
              refine OUT.mono ?_
              clear OUT
              rintro e w' ⟨rfl, nq, rfl⟩
              go_wp2
              go_roundw
              case rel => first | exact ⟨i + 1, _, _, _, by omega, by omega, by go_num, rfl, FIN _⟩ | ((repeat apply Exists.intro); exact ⟨⟨i + 1, _, _, _, by omega, by omega, by go_num, rfl, FIN _⟩, rfl⟩)
              case measure => simp [intOf]; omega
            · have hy : (y.askS n raw).out = [(x.askS n raw).out] := by rw [hsame.out, if_neg ho]
              have hsi := hsame.since ho
              have OUT := out_at hbk
              have e0 : ((x.askS n raw).out == 0) = false := by simp [ho]
              rw [if_neg ho, e0] at OUT
              have L0' := L0
              rw [hy] at L0
              obtain ⟨B, cc, rfl, _, _⟩ := L0.form
              obtain ⟨r0, o0, rfl, hcell, _⟩ := L0.get (i := 0) (u := .int .u64 (x.askS n raw).out) rfl
              rw [Nat.add_zero] at hcell
              simp only [nums, List.map_cons, List.map_nil, List.length_cons, List.length_nil, Nat.zero_add] at cR0
              rw [hsi] at cR3
              have FIN : ∀ nq, Tel w b g (x.askS n raw) (y.askS n raw) (World.drewN _ nq) := fun nq => ⟨Blk.drewN hbk nq, ⟨_, v1, v2, Blk.drewN hbR nq, Lst.drewN L0' nq, Lst.drewN L1 nq, Lst.drewN L2 nq⟩, hsame, hok, hbb, hgg, hfr.drewN nq⟩
              clear hy ho hbk hrf hbR L0 L0' L1 L2 hsame hok hfr hsi
              generalize (x.askS n raw).out = xo at *
              generalize (x.askS n raw).since = xs at *
              go_wp2_with fail
              refine OUT.mono ?_
              clear OUT
              rintro e w' ⟨rfl, nq, rfl⟩
              go_wp2
              go_roundw
              case rel => first | exact ⟨i + 1, _, _, _, by omega, by omega, by go_num, rfl, FIN _⟩ | ((repeat apply Exists.intro); exact ⟨⟨i + 1, _, _, _, by omega, by omega, by go_num, rfl, FIN _⟩, rfl⟩)
              case measure => simp [intOf]; omega
          · by_cases hw2 : wh = 2
            · subst hw2
              go_wp2_with fail

              generalize hW : World.alloc wr _ = Wc
              have kc : Fr (fun _ => False) wr Wc := by subst hW; (repeat' (first | (with_reducible exact Fr.refl _ _) | (with_reducible assumption) | (with_reducible refine Fr.alloc ?_ _) | (with_reducible refine Fr.drew ?_) | (with_reducible refine Fr.drewN ?_ _) | (with_reducible refine Fr.setCell ?_ _ _ ?_) | (exact Or.inr rfl) | (left; simp; done) | (left; simp; omega) | (simp; done) | (simp; omega) | omega))
              have bc : Blk Wc wr.heap.size #[.int .i64 2, .int .u64 n, .int .i64 raw, .int .i64 most] 38 := by subst hW; (repeat' (first | (with_reducible assumption) | (with_reducible apply Blk.drew) | (with_reducible apply Blk.drewN) | (with_reducible apply Blk.set) | (with_reducible apply Blk.other) | (exact Blk.new' _ _ _ (by first | rfl | (simp; done) | (simp; omega))) | (with_reducible apply Blk.alloc) | (with_reducible rfl) | (simp; done) | (simp; omega) | omega | rfl))
              clear hW
              have bk := I.bk.fr kc (fun h => h)
              have rf := I.rf.fr kc (fun h => h) (fun _ _ h => h.elim)
              have same := I.same
              have ok := I.ok
              have hbb := I.hb
              have hgg := I.hg
              have hbl : b < wr.heap.size := I.bk.blk.lt
              have hgl : g < wr.heap.size := by obtain ⟨_, _, _, hb0, _⟩ := I.rf; exact hb0.lt
              have fr : Fr (fun _ => False) w Wc := I.fr.trans kc (fun _ _ h => h)
              have hbg : b ≠ g := by
                intro e
                subst e
                obtain ⟨_, _, _, hb0, _⟩ := I.rf
                exact absurd (I.bk.blk.one hb0).2 (by decide)
              have lens := same.len
              have d0 := bc.cell 0
              have d1 := bc.cell 1
              have d2 := bc.cell 2
              have d3 := bc.cell 3
              simp at d0 d1 d2 d3
              have bkd : Bk Wc.drew b x := bk
              have rfd : Rf Wc.drew g y := rf
              have bcd : wr.heap.size < Wc.drew.heap.size := bc.lt
              have e1 : Wc.drew.cell? ⟨wr.heap.size, 1, none⟩ = some (.int .u64 n) := d1
              have e2 : Wc.drew.cell? ⟨wr.heap.size, 2, none⟩ = some (.int .i64 raw) := d2
              have e3 : Wc.drew.cell? ⟨wr.heap.size, 3, none⟩ = some (.int .i64 most) := d3
              clear I kc c0 c1 c2 c3 hcb

              have G := fun (W' : World) (h : Rf W' g y) => rtake_at (n := n) h
              have A1 := fun (W' : World) (h : Bk W' b x) => take_at (n := n) h
              rw [same.takeE n, same.takeV n] at G
              have S0 := same.takeS n
              have O0 := BS.ok_take ok n
              generalize x.known n = ev at *
              generalize x.takeV n = tv at *
              refine (A1 _ bk).mono ?_
              rintro e w1 ⟨rfl, p1, q1⟩
              have rf1 := rf.fr q1 (by simp [At]; omega) (bk.blk.ne (show 52 ≠ 25 by decide))
              have d1 := (q1.cell bc.lt (by simp [At]; omega)).trans d1
              clear A1 d0 d2 d3 e1 e2 e3 bcd
              go_wp2_with fail
              refine (G _ rf1).mono ?_
              clear G rf1
              rintro e w2 ⟨rfl, p2, q2⟩

              have q1' : Fr (At b) Wc w1 := q1
              have hbk : Bk w2 b (x.takeS n) := p1.fr q2 (by simp [At]; omega)
              have hrf : Rf w2 g (y.takeS n) := p2
              have hsame : Same (x.takeS n) (y.takeS n) := S0
              have hok : (x.takeS n).ok := O0
              have hfr : Fr (fun _ => False) w w2 := (fr.trans q1' (At.gone hbb)).trans q2 (At.gone hgg)
              clear same ok fr q1 q1' q2 p1 p2 lens bk rf bc d1
              clear S0 O0 bkd rfd
              go_wp2_with fail

              obtain ⟨vo, v1, v2, hbR, L0, L1, L2⟩ := id hrf
              have cR0 := hbR.cell 0
              have cR3 := hbR.cell 3
              simp at cR0 cR3
              by_cases ho : (x.takeS n).out = 0
              · have hy : (y.takeS n).out = [] := by rw [hsame.out, if_pos ho]
                have OUT := out_at hbk
                rw [if_pos ho, ho] at OUT
                rw [hy] at L0
                obtain ⟨B, cc, rfl, _, _⟩ := L0.form
                simp only [nums, List.map_nil, List.length_nil] at cR0
                have FIN : ∀ nq, Tel w b g (x.takeS n) (y.takeS n) (World.drewN _ nq) := fun nq => ⟨Blk.drewN hbk nq, ⟨_, v1, v2, Blk.drewN hbR nq, by rw [hy]; exact Lst.drewN L0 nq, Lst.drewN L1 nq, Lst.drewN L2 nq⟩, hsame, hok, hbb, hgg, hfr.drewN nq⟩
                clear hy ho hbk hrf hbR L0 L1 L2 hsame hok hfr
                go_wp2_with fail
                refine OUT.mono ?_
                clear OUT
                rintro e w' ⟨rfl, nq, rfl⟩
                go_wp2
                go_roundw
                case rel => first | exact ⟨i + 1, _, _, _, by omega, by omega, by go_num, rfl, FIN _⟩ | ((repeat apply Exists.intro); exact ⟨⟨i + 1, _, _, _, by omega, by omega, by go_num, rfl, FIN _⟩, rfl⟩)
                case measure => simp [intOf]; omega
              · have hy : (y.takeS n).out = [(x.takeS n).out] := by rw [hsame.out, if_neg ho]
                have hsi := hsame.since ho
                have OUT := out_at hbk
                have e0 : ((x.takeS n).out == 0) = false := by simp [ho]
                rw [if_neg ho, e0] at OUT
                have L0' := L0
                rw [hy] at L0
                obtain ⟨B, cc, rfl, _, _⟩ := L0.form
                obtain ⟨r0, o0, rfl, hcell, _⟩ := L0.get (i := 0) (u := .int .u64 (x.takeS n).out) rfl
                rw [Nat.add_zero] at hcell
                simp only [nums, List.map_cons, List.map_nil, List.length_cons, List.length_nil, Nat.zero_add] at cR0
                rw [hsi] at cR3
                have FIN : ∀ nq, Tel w b g (x.takeS n) (y.takeS n) (World.drewN _ nq) := fun nq => ⟨Blk.drewN hbk nq, ⟨_, v1, v2, Blk.drewN hbR nq, Lst.drewN L0' nq, Lst.drewN L1 nq, Lst.drewN L2 nq⟩, hsame, hok, hbb, hgg, hfr.drewN nq⟩
                clear hy ho hbk hrf hbR L0 L0' L1 L2 hsame hok hfr hsi
                generalize (x.takeS n).out = xo at *
                generalize (x.takeS n).since = xs at *
                go_wp2_with fail
                refine OUT.mono ?_
                clear OUT
                rintro e w' ⟨rfl, nq, rfl⟩
                go_wp2
                go_roundw
                case rel => first | exact ⟨i + 1, _, _, _, by omega, by omega, by go_num, rfl, FIN _⟩ | ((repeat apply Exists.intro); exact ⟨⟨i + 1, _, _, _, by omega, by omega, by go_num, rfl, FIN _⟩, rfl⟩)
                case measure => simp [intOf]; omega
            · by_cases hw3 : wh = 3
              · subst hw3
                go_wp2_with fail

                generalize hW : World.alloc wr _ = Wc
                have kc : Fr (fun _ => False) wr Wc := by subst hW; (repeat' (first | (with_reducible exact Fr.refl _ _) | (with_reducible assumption) | (with_reducible refine Fr.alloc ?_ _) | (with_reducible refine Fr.drew ?_) | (with_reducible refine Fr.drewN ?_ _) | (with_reducible refine Fr.setCell ?_ _ _ ?_) | (exact Or.inr rfl) | (left; simp; done) | (left; simp; omega) | (simp; done) | (simp; omega) | omega))
                have bc : Blk Wc wr.heap.size #[.int .i64 3, .int .u64 n, .int .i64 raw, .int .i64 most] 38 := by subst hW; (repeat' (first | (with_reducible assumption) | (with_reducible apply Blk.drew) | (with_reducible apply Blk.drewN) | (with_reducible apply Blk.set) | (with_reducible apply Blk.other) | (exact Blk.new' _ _ _ (by first | rfl | (simp; done) | (simp; omega))) | (with_reducible apply Blk.alloc) | (with_reducible rfl) | (simp; done) | (simp; omega) | omega | rfl))
                clear hW
                have bk := I.bk.fr kc (fun h => h)
                have rf := I.rf.fr kc (fun h => h) (fun _ _ h => h.elim)
                have same := I.same
                have ok := I.ok
                have hbb := I.hb
                have hgg := I.hg
                have hbl : b < wr.heap.size := I.bk.blk.lt
                have hgl : g < wr.heap.size := by obtain ⟨_, _, _, hb0, _⟩ := I.rf; exact hb0.lt
                have fr : Fr (fun _ => False) w Wc := I.fr.trans kc (fun _ _ h => h)
                have hbg : b ≠ g := by
                  intro e
                  subst e
                  obtain ⟨_, _, _, hb0, _⟩ := I.rf
                  exact absurd (I.bk.blk.one hb0).2 (by decide)
                have lens := same.len
                have d0 := bc.cell 0
                have d1 := bc.cell 1
                have d2 := bc.cell 2
                have d3 := bc.cell 3
                simp at d0 d1 d2 d3
                have bkd : Bk Wc.drew b x := bk
                have rfd : Rf Wc.drew g y := rf
                have bcd : wr.heap.size < Wc.drew.heap.size := bc.lt
                have e1 : Wc.drew.cell? ⟨wr.heap.size, 1, none⟩ = some (.int .u64 n) := d1
                have e2 : Wc.drew.cell? ⟨wr.heap.size, 2, none⟩ = some (.int .i64 raw) := d2
                have e3 : Wc.drew.cell? ⟨wr.heap.size, 3, none⟩ = some (.int .i64 most) := d3
                clear I kc c0 c1 c2 c3 hcb

                have G := fun (W' : World) (h : Rf W' g y) => rtake_at (n := n) h
                have A1 := fun (W' : World) (h : Bk W' b x) => take_at (n := n) h
                rw [same.takeE n, same.takeV n] at G
                have S0 := same.takeS n
                have O0 := BS.ok_take ok n
                generalize x.known n = ev at *
                generalize x.takeV n = tv at *
                refine (A1 _ bk).mono ?_
                rintro e w1 ⟨rfl, p1, q1⟩
                have rf1 := rf.fr q1 (by simp [At]; omega) (bk.blk.ne (show 52 ≠ 25 by decide))
                have d1 := (q1.cell bc.lt (by simp [At]; omega)).trans d1
                clear A1 d0 d2 d3 e1 e2 e3 bcd
                go_wp2_with fail
                refine (G _ rf1).mono ?_
                clear G rf1
                rintro e w2 ⟨rfl, p2, q2⟩

                have q1' : Fr (At b) Wc w1 := q1
                have hbk : Bk w2 b (x.takeS n) := p1.fr q2 (by simp [At]; omega)
                have hrf : Rf w2 g (y.takeS n) := p2
                have hsame : Same (x.takeS n) (y.takeS n) := S0
                have hok : (x.takeS n).ok := O0
                have hfr : Fr (fun _ => False) w w2 := (fr.trans q1' (At.gone hbb)).trans q2 (At.gone hgg)
                clear same ok fr q1 q1' q2 p1 p2 lens bk rf bc d1
                clear S0 O0 bkd rfd
                go_wp2_with fail

                obtain ⟨vo, v1, v2, hbR, L0, L1, L2⟩ := id hrf
                have cR0 := hbR.cell 0
                have cR3 := hbR.cell 3
                simp at cR0 cR3
                by_cases ho : (x.takeS n).out = 0
                · have hy : (y.takeS n).out = [] := by rw [hsame.out, if_pos ho]
                  have OUT := out_at hbk
                  rw [if_pos ho, ho] at OUT
                  rw [hy] at L0
                  obtain ⟨B, cc, rfl, _, _⟩ := L0.form
                  simp only [nums, List.map_nil, List.length_nil] at cR0
                  have FIN : ∀ nq, Tel w b g (x.takeS n) (y.takeS n) (World.drewN _ nq) := fun nq => ⟨Blk.drewN hbk nq, ⟨_, v1, v2, Blk.drewN hbR nq, by rw [hy]; exact Lst.drewN L0 nq, Lst.drewN L1 nq, Lst.drewN L2 nq⟩, hsame, hok, hbb, hgg, hfr.drewN nq⟩
                  clear hy ho hbk hrf hbR L0 L1 L2 hsame hok hfr
                  go_wp2_with fail
                  refine OUT.mono ?_
                  clear OUT
                  rintro e w' ⟨rfl, nq, rfl⟩
                  go_wp2
                  go_roundw
                  case rel => first | exact ⟨i + 1, _, _, _, by omega, by omega, by go_num, rfl, FIN _⟩ | ((repeat apply Exists.intro); exact ⟨⟨i + 1, _, _, _, by omega, by omega, by go_num, rfl, FIN _⟩, rfl⟩)
                  case measure => simp [intOf]; omega
                · have hy : (y.takeS n).out = [(x.takeS n).out] := by rw [hsame.out, if_neg ho]
                  have hsi := hsame.since ho
                  have OUT := out_at hbk
                  have e0 : ((x.takeS n).out == 0) = false := by simp [ho]
                  rw [if_neg ho, e0] at OUT
                  have L0' := L0
                  rw [hy] at L0
                  obtain ⟨B, cc, rfl, _, _⟩ := L0.form
                  obtain ⟨r0, o0, rfl, hcell, _⟩ := L0.get (i := 0) (u := .int .u64 (x.takeS n).out) rfl
                  rw [Nat.add_zero] at hcell
                  simp only [nums, List.map_cons, List.map_nil, List.length_cons, List.length_nil, Nat.zero_add] at cR0
                  rw [hsi] at cR3
                  have FIN : ∀ nq, Tel w b g (x.takeS n) (y.takeS n) (World.drewN _ nq) := fun nq => ⟨Blk.drewN hbk nq, ⟨_, v1, v2, Blk.drewN hbR nq, Lst.drewN L0' nq, Lst.drewN L1 nq, Lst.drewN L2 nq⟩, hsame, hok, hbb, hgg, hfr.drewN nq⟩
                  clear hy ho hbk hrf hbR L0 L0' L1 L2 hsame hok hfr hsi
                  generalize (x.takeS n).out = xo at *
                  generalize (x.takeS n).since = xs at *
                  go_wp2_with fail
                  refine OUT.mono ?_
                  clear OUT
                  rintro e w' ⟨rfl, nq, rfl⟩
                  go_wp2
                  go_roundw
                  case rel => first | exact ⟨i + 1, _, _, _, by omega, by omega, by go_num, rfl, FIN _⟩ | ((repeat apply Exists.intro); exact ⟨⟨i + 1, _, _, _, by omega, by omega, by go_num, rfl, FIN _⟩, rfl⟩)
                  case measure => simp [intOf]; omega
              · by_cases hw4 : wh = 4
                · subst hw4
                  go_wp2_with fail

                  generalize hW : World.alloc wr _ = Wc
                  have kc : Fr (fun _ => False) wr Wc := by subst hW; (repeat' (first | (with_reducible exact Fr.refl _ _) | (with_reducible assumption) | (with_reducible refine Fr.alloc ?_ _) | (with_reducible refine Fr.drew ?_) | (with_reducible refine Fr.drewN ?_ _) | (with_reducible refine Fr.setCell ?_ _ _ ?_) | (exact Or.inr rfl) | (left; simp; done) | (left; simp; omega) | (simp; done) | (simp; omega) | omega))
                  have bc : Blk Wc wr.heap.size #[.int .i64 4, .int .u64 n, .int .i64 raw, .int .i64 most] 38 := by subst hW; (repeat' (first | (with_reducible assumption) | (with_reducible apply Blk.drew) | (with_reducible apply Blk.drewN) | (with_reducible apply Blk.set) | (with_reducible apply Blk.other) | (exact Blk.new' _ _ _ (by first | rfl | (simp; done) | (simp; omega))) | (with_reducible apply Blk.alloc) | (with_reducible rfl) | (simp; done) | (simp; omega) | omega | rfl))
                  clear hW
                  have bk := I.bk.fr kc (fun h => h)
                  have rf := I.rf.fr kc (fun h => h) (fun _ _ h => h.elim)
                  have same := I.same
                  have ok := I.ok
                  have hbb := I.hb
                  have hgg := I.hg
                  have hbl : b < wr.heap.size := I.bk.blk.lt
                  have hgl : g < wr.heap.size := by obtain ⟨_, _, _, hb0, _⟩ := I.rf; exact hb0.lt
                  have fr : Fr (fun _ => False) w Wc := I.fr.trans kc (fun _ _ h => h)
                  have hbg : b ≠ g := by
                    intro e
                    subst e
                    obtain ⟨_, _, _, hb0, _⟩ := I.rf
                    exact absurd (I.bk.blk.one hb0).2 (by decide)
                  have lens := same.len
                  have d0 := bc.cell 0
                  have d1 := bc.cell 1
                  have d2 := bc.cell 2
                  have d3 := bc.cell 3
                  simp at d0 d1 d2 d3
                  have bkd : Bk Wc.drew b x := bk
                  have rfd : Rf Wc.drew g y := rf
                  have bcd : wr.heap.size < Wc.drew.heap.size := bc.lt
                  have e1 : Wc.drew.cell? ⟨wr.heap.size, 1, none⟩ = some (.int .u64 n) := d1
                  have e2 : Wc.drew.cell? ⟨wr.heap.size, 2, none⟩ = some (.int .i64 raw) := d2
                  have e3 : Wc.drew.cell? ⟨wr.heap.size, 3, none⟩ = some (.int .i64 most) := d3
                  clear I kc c0 c1 c2 c3 hcb

                  have hrr := i64_lt hr
                  have hmm := i64_lt hm
                  have HE : Hid (y.dropB raw most = x.dropB raw most) := same.dropB raw most
                  have hsy : y.out = [] ∨ (0 ≤ y.since ∧ y.since ≤ 4611686018427387904) := by
                    by_cases ho : x.out = 0
                    · exact .inl (by rw [same.out, if_pos ho])
                    · right; rw [same.since ho]; exact ok
                  have G := fun (W' : World) (h : Rf W' g y) => rdrop_at (raw := raw) (most := most) h lens.2 lens.1 hsy hrr
                  have A1 := fun (W' : World) (h : Bk W' b x) => drop_at (raw := raw) (most := most) h ok hrr hmm
                  rw [HE.out] at G
                  have S0 := same.dropS raw most
                  have O0 := BS.ok_drop ok raw most
                  generalize x.dropB raw most = ev at *
                  clear hrr hmm hsy

                  go_region_held3 (fun w' => w'.cell? ⟨wr.heap.size, 1, none⟩ = some (.int .u64 n) ∧ w'.cell? ⟨wr.heap.size, 2, none⟩ = some (.int .i64 raw) ∧ w'.cell? ⟨wr.heap.size, 3, none⟩ = some (.int .i64 most))
                    (first | exact ⟨e1, e2, e3⟩ | exact ⟨(q1.cell bcd (by simp [At]; omega)).trans e1, (q1.cell bcd (by simp [At]; omega)).trans e2, (q1.cell bcd (by simp [At]; omega)).trans e3⟩ | exact ⟨(q2.cell (q1.lt bcd) (by simp [At]; omega)).trans ((q1.cell bcd (by simp [At]; omega)).trans e1), (q2.cell (q1.lt bcd) (by simp [At]; omega)).trans ((q1.cell bcd (by simp [At]; omega)).trans e2), (q2.cell (q1.lt bcd) (by simp [At]; omega)).trans ((q1.cell bcd (by simp [At]; omega)).trans e3)⟩ | go_keep)
                    (first | (go_at_call 14; refine (A1 _ bkd).mono ?_; rintro e w1 ⟨rfl, p1, q1⟩)
                           | (go_at_call 15; refine (G _ (rfd.fr q1 (by simp [At]; omega) (bkd.blk.ne (show 52 ≠ 25 by decide)))).mono ?_; rintro e w2 ⟨rfl, p2, q2⟩))

                  have q1' : Fr (At b) Wc w1 := ⟨q1.os, q1.tape, q1.output, q1.size, q1.block⟩
                  have hbk : Bk w2 b (x.dropS raw most) := p1.fr q2 (by simp [At]; omega)
                  have hrf : Rf w2 g (y.dropS raw most) := p2
                  have hsame : Same (x.dropS raw most) (y.dropS raw most) := S0
                  have hok : (x.dropS raw most).ok := O0
                  have hfr : Fr (fun _ => False) w w2 := (fr.trans q1' (At.gone hbb)).trans q2 (At.gone hgg)
                  clear same ok fr q1 q1' q2 p1 p2 lens bk rf bc d0 d1 d2 d3
                  clear G A1 S0 O0 HE
                  go_wp2_with fail

                  obtain ⟨vo, v1, v2, hbR, L0, L1, L2⟩ := id hrf
                  have cR0 := hbR.cell 0
                  have cR3 := hbR.cell 3
                  simp at cR0 cR3
                  by_cases ho : (x.dropS raw most).out = 0
                  · have hy : (y.dropS raw most).out = [] := by rw [hsame.out, if_pos ho]
                    have OUT := out_at hbk
                    rw [if_pos ho, ho] at OUT
                    rw [hy] at L0
                    obtain ⟨B, cc, rfl, _, _⟩ := L0.form
                    simp only [nums, List.map_nil, List.length_nil] at cR0
                    have FIN : ∀ nq, Tel w b g (x.dropS raw most) (y.dropS raw most) (World.drewN _ nq) := fun nq => ⟨Blk.drewN hbk nq, ⟨_, v1, v2, Blk.drewN hbR nq, by rw [hy]; exact Lst.drewN L0 nq, Lst.drewN L1 nq, Lst.drewN L2 nq⟩, hsame, hok, hbb, hgg, hfr.drewN nq⟩
                    clear hy ho hbk hrf hbR L0 L1 L2 hsame hok hfr
                    go_wp2_with fail
                    refine OUT.mono ?_
                    clear OUT
                    rintro e w' ⟨rfl, nq, rfl⟩
                    go_wp2
                    go_roundw
                    case rel => first | exact ⟨i + 1, _, _, _, by omega, by omega, by go_num, rfl, FIN _⟩ | ((repeat apply Exists.intro); exact ⟨⟨i + 1, _, _, _, by omega, by omega, by go_num, rfl, FIN _⟩, rfl⟩)
                    case measure => simp [intOf]; omega
                  · have hy : (y.dropS raw most).out = [(x.dropS raw most).out] := by rw [hsame.out, if_neg ho]
                    have hsi := hsame.since ho
                    have OUT := out_at hbk
                    have e0 : ((x.dropS raw most).out == 0) = false := by simp [ho]
                    rw [if_neg ho, e0] at OUT
                    have L0' := L0
                    rw [hy] at L0
                    obtain ⟨B, cc, rfl, _, _⟩ := L0.form
                    obtain ⟨r0, o0, rfl, hcell, _⟩ := L0.get (i := 0) (u := .int .u64 (x.dropS raw most).out) rfl
                    rw [Nat.add_zero] at hcell
                    simp only [nums, List.map_cons, List.map_nil, List.length_cons, List.length_nil, Nat.zero_add] at cR0
                    rw [hsi] at cR3
                    have FIN : ∀ nq, Tel w b g (x.dropS raw most) (y.dropS raw most) (World.drewN _ nq) := fun nq => ⟨Blk.drewN hbk nq, ⟨_, v1, v2, Blk.drewN hbR nq, Lst.drewN L0' nq, Lst.drewN L1 nq, Lst.drewN L2 nq⟩, hsame, hok, hbb, hgg, hfr.drewN nq⟩
                    clear hy ho hbk hrf hbR L0 L0' L1 L2 hsame hok hfr hsi
                    generalize (x.dropS raw most).out = xo at *
                    generalize (x.dropS raw most).since = xs at *
                    go_wp2_with fail
                    refine OUT.mono ?_
                    clear OUT
                    rintro e w' ⟨rfl, nq, rfl⟩
                    go_wp2
                    go_roundw
                    case rel => first | exact ⟨i + 1, _, _, _, by omega, by omega, by go_num, rfl, FIN _⟩ | ((repeat apply Exists.intro); exact ⟨⟨i + 1, _, _, _, by omega, by omega, by go_num, rfl, FIN _⟩, rfl⟩)
                    case measure => simp [intOf]; omega
                · by_cases hw5 : wh = 5
                  · subst hw5
                    go_wp2_with fail

                    generalize hW : World.alloc wr _ = Wc
                    have kc : Fr (fun _ => False) wr Wc := by subst hW; (repeat' (first | (with_reducible exact Fr.refl _ _) | (with_reducible assumption) | (with_reducible refine Fr.alloc ?_ _) | (with_reducible refine Fr.drew ?_) | (with_reducible refine Fr.drewN ?_ _) | (with_reducible refine Fr.setCell ?_ _ _ ?_) | (exact Or.inr rfl) | (left; simp; done) | (left; simp; omega) | (simp; done) | (simp; omega) | omega))
                    have bc : Blk Wc wr.heap.size #[.int .i64 5, .int .u64 n, .int .i64 raw, .int .i64 most] 38 := by subst hW; (repeat' (first | (with_reducible assumption) | (with_reducible apply Blk.drew) | (with_reducible apply Blk.drewN) | (with_reducible apply Blk.set) | (with_reducible apply Blk.other) | (exact Blk.new' _ _ _ (by first | rfl | (simp; done) | (simp; omega))) | (with_reducible apply Blk.alloc) | (with_reducible rfl) | (simp; done) | (simp; omega) | omega | rfl))
                    clear hW
                    have bk := I.bk.fr kc (fun h => h)
                    have rf := I.rf.fr kc (fun h => h) (fun _ _ h => h.elim)
                    have same := I.same
                    have ok := I.ok
                    have hbb := I.hb
                    have hgg := I.hg
                    have hbl : b < wr.heap.size := I.bk.blk.lt
                    have hgl : g < wr.heap.size := by obtain ⟨_, _, _, hb0, _⟩ := I.rf; exact hb0.lt
                    have fr : Fr (fun _ => False) w Wc := I.fr.trans kc (fun _ _ h => h)
                    have hbg : b ≠ g := by
                      intro e
                      subst e
                      obtain ⟨_, _, _, hb0, _⟩ := I.rf
                      exact absurd (I.bk.blk.one hb0).2 (by decide)
                    have lens := same.len
                    have d0 := bc.cell 0
                    have d1 := bc.cell 1
                    have d2 := bc.cell 2
                    have d3 := bc.cell 3
                    simp at d0 d1 d2 d3
                    have bkd : Bk Wc.drew b x := bk
                    have rfd : Rf Wc.drew g y := rf
                    have bcd : wr.heap.size < Wc.drew.heap.size := bc.lt
                    have e1 : Wc.drew.cell? ⟨wr.heap.size, 1, none⟩ = some (.int .u64 n) := d1
                    have e2 : Wc.drew.cell? ⟨wr.heap.size, 2, none⟩ = some (.int .i64 raw) := d2
                    have e3 : Wc.drew.cell? ⟨wr.heap.size, 3, none⟩ = some (.int .i64 most) := d3
                    clear I kc c0 c1 c2 c3 hcb

                    have hszc : w.heap.size ≤ Wc.heap.size := fr.size
                    have hbc : b < Wc.heap.size := bk.blk.lt
                    have hgc : g < Wc.heap.size := by obtain ⟨_, _, _, hb0, _⟩ := rf; exact hb0.lt
                    refine (copy_at bk).mono ?_
                    rintro e w1 ⟨rfl, pc, k1⟩
                    have bold : Bk w1 b x := bk.fr k1 (fun h => h)
                    have pr : Rf w1 g y := rf.fr k1 (fun h => h) (fun _ _ h => h.elim)
                    have fr1 : Fr (fun _ => False) w w1 := fr.trans k1 (fun _ _ h => h)
                    have d0 := (k1.cell bc.lt (fun h => h)).trans d0
                    clear d1 d2 d3 e1 e2 e3 bcd bkd rfd
                    have po := bold
                    have pb := pc
                    clear k1 bk rf bold pc

                    go_wp2_with fail
                    refine (ask_at (n := 9223372036854775808) (raw := 1) po).mono ?_
                    rintro e w2 ⟨rfl, po2, q2⟩
                    have oo2 := BS.ok_ask ok 9223372036854775808 1
                    go_wp2_with fail
                    refine (take_at (n := 9223372036854775808) po2).mono ?_
                    rintro e w3 ⟨rfl, po3, q3⟩
                    have oo3 := BS.ok_take oo2 9223372036854775808
                    go_wp2_with fail
                    refine (drop_at (raw := 4611686018427387904) (most := 0) po3 oo3 (by omega) (by omega)).mono ?_
                    rintro e w4 ⟨rfl, _, q4⟩
                    have q24 : Fr (At (b)) w1 w4 := (q2.trans q3 (fun _ _ h => h)).trans q4 (fun _ _ h => h)
                    have hN : ∀ r cs', At (b) r → ¬ Blk w1 r cs' 25 := po.blk.ne (show 52 ≠ 25 by decide)
                    have hbk : Bk w4 (Wc.heap.size) x := pb.fr q24 (by simp [At]; omega)
                    have hrf : Rf w4 g y := pr.fr q24 (by simp [At]; omega) hN
                    have hsame : Same x y := same
                    have hok : x.ok := ok
                    have hfr : Fr (fun _ => False) w w4 := fr1.trans q24 (At.gone (by omega))
                    clear same ok fr fr1 q2 q3 q4 q24 po po2 po3 pb pr oo2 oo3 hN lens
                    go_wp2_with fail
                    have hbb : w.heap.size ≤ Wc.heap.size := hszc

                    obtain ⟨vo, v1, v2, hbR, L0, L1, L2⟩ := id hrf
                    have cR0 := hbR.cell 0
                    have cR3 := hbR.cell 3
                    simp at cR0 cR3
                    by_cases ho : (x).out = 0
                    · have hy : (y).out = [] := by rw [hsame.out, if_pos ho]
                      have OUT := out_at hbk
                      rw [if_pos ho, ho] at OUT
                      rw [hy] at L0
                      obtain ⟨B, cc, rfl, _, _⟩ := L0.form
                      simp only [nums, List.map_nil, List.length_nil] at cR0
                      have FIN : ∀ nq, Tel w Wc.heap.size g (x) (y) (World.drewN _ nq) := fun nq => ⟨Blk.drewN hbk nq, ⟨_, v1, v2, Blk.drewN hbR nq, by rw [hy]; exact Lst.drewN L0 nq, Lst.drewN L1 nq, Lst.drewN L2 nq⟩, hsame, hok, hbb, hgg, hfr.drewN nq⟩
                      clear hy ho hbk hrf hbR L0 L1 L2 hsame hok hfr
                      go_wp2_with fail
                      refine OUT.mono ?_
                      clear OUT
                      rintro e w' ⟨rfl, nq, rfl⟩
                      go_wp2
                      go_roundw
                      case rel => first | exact ⟨i + 1, _, _, _, by omega, by omega, by go_num, rfl, FIN _⟩ | ((repeat apply Exists.intro); exact ⟨⟨i + 1, _, _, _, by omega, by omega, by go_num, rfl, FIN _⟩, rfl⟩)
                      case measure => simp [intOf]; omega
                    · have hy : (y).out = [(x).out] := by rw [hsame.out, if_neg ho]
                      have hsi := hsame.since ho
                      have OUT := out_at hbk
                      have e0 : ((x).out == 0) = false := by simp [ho]
                      rw [if_neg ho, e0] at OUT
                      have L0' := L0
                      rw [hy] at L0
                      obtain ⟨B, cc, rfl, _, _⟩ := L0.form
                      obtain ⟨r0, o0, rfl, hcell, _⟩ := L0.get (i := 0) (u := .int .u64 (x).out) rfl
                      rw [Nat.add_zero] at hcell
                      simp only [nums, List.map_cons, List.map_nil, List.length_cons, List.length_nil, Nat.zero_add] at cR0
                      rw [hsi] at cR3
                      have FIN : ∀ nq, Tel w Wc.heap.size g (x) (y) (World.drewN _ nq) := fun nq => ⟨Blk.drewN hbk nq, ⟨_, v1, v2, Blk.drewN hbR nq, Lst.drewN L0' nq, Lst.drewN L1 nq, Lst.drewN L2 nq⟩, hsame, hok, hbb, hgg, hfr.drewN nq⟩
                      clear hy ho hbk hrf hbR L0 L0' L1 L2 hsame hok hfr hsi
                      generalize (x).out = xo at *
                      generalize (x).since = xs at *
                      go_wp2_with fail
                      refine OUT.mono ?_
                      clear OUT
                      rintro e w' ⟨rfl, nq, rfl⟩
                      go_wp2
                      go_roundw
                      case rel => first | exact ⟨i + 1, _, _, _, by omega, by omega, by go_num, rfl, FIN _⟩ | ((repeat apply Exists.intro); exact ⟨⟨i + 1, _, _, _, by omega, by omega, by go_num, rfl, FIN _⟩, rfl⟩)
                      case measure => simp [intOf]; omega
                  · by_cases hw6 : wh = 6
                    · subst hw6
                      go_wp2_with fail

                      generalize hW : World.alloc wr _ = Wc
                      have kc : Fr (fun _ => False) wr Wc := by subst hW; (repeat' (first | (with_reducible exact Fr.refl _ _) | (with_reducible assumption) | (with_reducible refine Fr.alloc ?_ _) | (with_reducible refine Fr.drew ?_) | (with_reducible refine Fr.drewN ?_ _) | (with_reducible refine Fr.setCell ?_ _ _ ?_) | (exact Or.inr rfl) | (left; simp; done) | (left; simp; omega) | (simp; done) | (simp; omega) | omega))
                      have bc : Blk Wc wr.heap.size #[.int .i64 6, .int .u64 n, .int .i64 raw, .int .i64 most] 38 := by subst hW; (repeat' (first | (with_reducible assumption) | (with_reducible apply Blk.drew) | (with_reducible apply Blk.drewN) | (with_reducible apply Blk.set) | (with_reducible apply Blk.other) | (exact Blk.new' _ _ _ (by first | rfl | (simp; done) | (simp; omega))) | (with_reducible apply Blk.alloc) | (with_reducible rfl) | (simp; done) | (simp; omega) | omega | rfl))
                      clear hW
                      have bk := I.bk.fr kc (fun h => h)
                      have rf := I.rf.fr kc (fun h => h) (fun _ _ h => h.elim)
                      have same := I.same
                      have ok := I.ok
                      have hbb := I.hb
                      have hgg := I.hg
                      have hbl : b < wr.heap.size := I.bk.blk.lt
                      have hgl : g < wr.heap.size := by obtain ⟨_, _, _, hb0, _⟩ := I.rf; exact hb0.lt
                      have fr : Fr (fun _ => False) w Wc := I.fr.trans kc (fun _ _ h => h)
                      have hbg : b ≠ g := by
                        intro e
                        subst e
                        obtain ⟨_, _, _, hb0, _⟩ := I.rf
                        exact absurd (I.bk.blk.one hb0).2 (by decide)
                      have lens := same.len
                      have d0 := bc.cell 0
                      have d1 := bc.cell 1
                      have d2 := bc.cell 2
                      have d3 := bc.cell 3
                      simp at d0 d1 d2 d3
                      have bkd : Bk Wc.drew b x := bk
                      have rfd : Rf Wc.drew g y := rf
                      have bcd : wr.heap.size < Wc.drew.heap.size := bc.lt
                      have e1 : Wc.drew.cell? ⟨wr.heap.size, 1, none⟩ = some (.int .u64 n) := d1
                      have e2 : Wc.drew.cell? ⟨wr.heap.size, 2, none⟩ = some (.int .i64 raw) := d2
                      have e3 : Wc.drew.cell? ⟨wr.heap.size, 3, none⟩ = some (.int .i64 most) := d3
                      clear I kc c0 c1 c2 c3 hcb

                      have hszc : w.heap.size ≤ Wc.heap.size := fr.size
                      have hbc : b < Wc.heap.size := bk.blk.lt
                      have hgc : g < Wc.heap.size := by obtain ⟨_, _, _, hb0, _⟩ := rf; exact hb0.lt
                      refine (copy_at bk).mono ?_
                      rintro e w1 ⟨rfl, pc, k1⟩
                      have bold : Bk w1 b x := bk.fr k1 (fun h => h)
                      have pr : Rf w1 g y := rf.fr k1 (fun h => h) (fun _ _ h => h.elim)
                      have fr1 : Fr (fun _ => False) w w1 := fr.trans k1 (fun _ _ h => h)
                      have d0 := (k1.cell bc.lt (fun h => h)).trans d0
                      clear d1 d2 d3 e1 e2 e3 bcd bkd rfd
                      have po := pc
                      have pb := bold
                      clear k1 bk rf bold pc

                      go_wp2_with fail
                      refine (ask_at (n := 9223372036854775808) (raw := 1) po).mono ?_
                      rintro e w2 ⟨rfl, po2, q2⟩
                      have oo2 := BS.ok_ask ok 9223372036854775808 1
                      go_wp2_with fail
                      refine (take_at (n := 9223372036854775808) po2).mono ?_
                      rintro e w3 ⟨rfl, po3, q3⟩
                      have oo3 := BS.ok_take oo2 9223372036854775808
                      go_wp2_with fail
                      refine (drop_at (raw := 4611686018427387904) (most := 0) po3 oo3 (by omega) (by omega)).mono ?_
                      rintro e w4 ⟨rfl, _, q4⟩
                      have q24 : Fr (At (Wc.heap.size)) w1 w4 := (q2.trans q3 (fun _ _ h => h)).trans q4 (fun _ _ h => h)
                      have hN : ∀ r cs', At (Wc.heap.size) r → ¬ Blk w1 r cs' 25 := po.blk.ne (show 52 ≠ 25 by decide)
                      have hbk : Bk w4 (b) x := pb.fr q24 (by simp [At]; omega)
                      have hrf : Rf w4 g y := pr.fr q24 (by simp [At]; omega) hN
                      have hsame : Same x y := same
                      have hok : x.ok := ok
                      have hfr : Fr (fun _ => False) w w4 := fr1.trans q24 (At.gone (by omega))
                      clear same ok fr fr1 q2 q3 q4 q24 po po2 po3 pb pr oo2 oo3 hN lens
                      go_wp2_with fail

                      obtain ⟨vo, v1, v2, hbR, L0, L1, L2⟩ := id hrf
                      have cR0 := hbR.cell 0
                      have cR3 := hbR.cell 3
                      simp at cR0 cR3
                      by_cases ho : (x).out = 0
                      · have hy : (y).out = [] := by rw [hsame.out, if_pos ho]
                        have OUT := out_at hbk
                        rw [if_pos ho, ho] at OUT
                        rw [hy] at L0
                        obtain ⟨B, cc, rfl, _, _⟩ := L0.form
                        simp only [nums, List.map_nil, List.length_nil] at cR0
                        have FIN : ∀ nq, Tel w b g (x) (y) (World.drewN _ nq) := fun nq => ⟨Blk.drewN hbk nq, ⟨_, v1, v2, Blk.drewN hbR nq, by rw [hy]; exact Lst.drewN L0 nq, Lst.drewN L1 nq, Lst.drewN L2 nq⟩, hsame, hok, hbb, hgg, hfr.drewN nq⟩
                        clear hy ho hbk hrf hbR L0 L1 L2 hsame hok hfr
                        go_wp2_with fail
                        refine OUT.mono ?_
                        clear OUT
                        rintro e w' ⟨rfl, nq, rfl⟩
                        go_wp2
                        go_roundw
                        case rel => first | exact ⟨i + 1, _, _, _, by omega, by omega, by go_num, rfl, FIN _⟩ | ((repeat apply Exists.intro); exact ⟨⟨i + 1, _, _, _, by omega, by omega, by go_num, rfl, FIN _⟩, rfl⟩)
                        case measure => simp [intOf]; omega
                      · have hy : (y).out = [(x).out] := by rw [hsame.out, if_neg ho]
                        have hsi := hsame.since ho
                        have OUT := out_at hbk
                        have e0 : ((x).out == 0) = false := by simp [ho]
                        rw [if_neg ho, e0] at OUT
                        have L0' := L0
                        rw [hy] at L0
                        obtain ⟨B, cc, rfl, _, _⟩ := L0.form
                        obtain ⟨r0, o0, rfl, hcell, _⟩ := L0.get (i := 0) (u := .int .u64 (x).out) rfl
                        rw [Nat.add_zero] at hcell
                        simp only [nums, List.map_cons, List.map_nil, List.length_cons, List.length_nil, Nat.zero_add] at cR0
                        rw [hsi] at cR3
                        have FIN : ∀ nq, Tel w b g (x) (y) (World.drewN _ nq) := fun nq => ⟨Blk.drewN hbk nq, ⟨_, v1, v2, Blk.drewN hbR nq, Lst.drewN L0' nq, Lst.drewN L1 nq, Lst.drewN L2 nq⟩, hsame, hok, hbb, hgg, hfr.drewN nq⟩
                        clear hy ho hbk hrf hbR L0 L0' L1 L2 hsame hok hfr hsi
                        generalize (x).out = xo at *
                        generalize (x).since = xs at *
                        go_wp2_with fail
                        refine OUT.mono ?_
                        clear OUT
                        rintro e w' ⟨rfl, nq, rfl⟩
                        go_wp2
                        go_roundw
                        case rel => first | exact ⟨i + 1, _, _, _, by omega, by omega, by go_num, rfl, FIN _⟩ | ((repeat apply Exists.intro); exact ⟨⟨i + 1, _, _, _, by omega, by omega, by go_num, rfl, FIN _⟩, rfl⟩)
                        case measure => simp [intOf]; omega
                    · go_wp2_with fail

                      generalize hW : World.alloc wr _ = Wc
                      have kc : Fr (fun _ => False) wr Wc := by subst hW; (repeat' (first | (with_reducible exact Fr.refl _ _) | (with_reducible assumption) | (with_reducible refine Fr.alloc ?_ _) | (with_reducible refine Fr.drew ?_) | (with_reducible refine Fr.drewN ?_ _) | (with_reducible refine Fr.setCell ?_ _ _ ?_) | (exact Or.inr rfl) | (left; simp; done) | (left; simp; omega) | (simp; done) | (simp; omega) | omega))
                      have bc : Blk Wc wr.heap.size #[.int .i64 wh, .int .u64 n, .int .i64 raw, .int .i64 most] 38 := by subst hW; (repeat' (first | (with_reducible assumption) | (with_reducible apply Blk.drew) | (with_reducible apply Blk.drewN) | (with_reducible apply Blk.set) | (with_reducible apply Blk.other) | (exact Blk.new' _ _ _ (by first | rfl | (simp; done) | (simp; omega))) | (with_reducible apply Blk.alloc) | (with_reducible rfl) | (simp; done) | (simp; omega) | omega | rfl))
                      clear hW
                      have bk := I.bk.fr kc (fun h => h)
                      have rf := I.rf.fr kc (fun h => h) (fun _ _ h => h.elim)
                      have same := I.same
                      have ok := I.ok
                      have hbb := I.hb
                      have hgg := I.hg
                      have hbl : b < wr.heap.size := I.bk.blk.lt
                      have hgl : g < wr.heap.size := by obtain ⟨_, _, _, hb0, _⟩ := I.rf; exact hb0.lt
                      have fr : Fr (fun _ => False) w Wc := I.fr.trans kc (fun _ _ h => h)
                      have hbg : b ≠ g := by
                        intro e
                        subst e
                        obtain ⟨_, _, _, hb0, _⟩ := I.rf
                        exact absurd (I.bk.blk.one hb0).2 (by decide)
                      have lens := same.len
                      have d0 := bc.cell 0
                      have d1 := bc.cell 1
                      have d2 := bc.cell 2
                      have d3 := bc.cell 3
                      simp at d0 d1 d2 d3
                      have bkd : Bk Wc.drew b x := bk
                      have rfd : Rf Wc.drew g y := rf
                      have bcd : wr.heap.size < Wc.drew.heap.size := bc.lt
                      have e1 : Wc.drew.cell? ⟨wr.heap.size, 1, none⟩ = some (.int .u64 n) := d1
                      have e2 : Wc.drew.cell? ⟨wr.heap.size, 2, none⟩ = some (.int .i64 raw) := d2
                      have e3 : Wc.drew.cell? ⟨wr.heap.size, 3, none⟩ = some (.int .i64 most) := d3
                      clear I kc c0 c1 c2 c3 hcb
                      have hbk := bk
                      have hrf := rf
                      have hsame := same
                      have hok := ok
                      have hfr := fr
                      clear bk rf same ok fr d0 d1 d2 d3 e1 e2 e3 bcd bkd rfd lens

                      obtain ⟨vo, v1, v2, hbR, L0, L1, L2⟩ := id hrf
                      have cR0 := hbR.cell 0
                      have cR3 := hbR.cell 3
                      simp at cR0 cR3
                      by_cases ho : (x).out = 0
                      · have hy : (y).out = [] := by rw [hsame.out, if_pos ho]
                        have OUT := out_at hbk
                        rw [if_pos ho, ho] at OUT
                        rw [hy] at L0
                        obtain ⟨B, cc, rfl, _, _⟩ := L0.form
                        simp only [nums, List.map_nil, List.length_nil] at cR0
                        have FIN : ∀ nq, Tel w b g (x) (y) (World.drewN _ nq) := fun nq => ⟨Blk.drewN hbk nq, ⟨_, v1, v2, Blk.drewN hbR nq, by rw [hy]; exact Lst.drewN L0 nq, Lst.drewN L1 nq, Lst.drewN L2 nq⟩, hsame, hok, hbb, hgg, hfr.drewN nq⟩
                        clear hy ho hbk hrf hbR L0 L1 L2 hsame hok hfr
                        go_wp2_with fail
                        refine OUT.mono ?_
                        clear OUT
                        rintro e w' ⟨rfl, nq, rfl⟩
                        go_wp2
                        go_roundw
                        case rel => first | exact ⟨i + 1, _, _, _, by omega, by omega, by go_num, rfl, FIN _⟩ | ((repeat apply Exists.intro); exact ⟨⟨i + 1, _, _, _, by omega, by omega, by go_num, rfl, FIN _⟩, rfl⟩)
                        case measure => simp [intOf]; omega
                      · have hy : (y).out = [(x).out] := by rw [hsame.out, if_neg ho]
                        have hsi := hsame.since ho
                        have OUT := out_at hbk
                        have e0 : ((x).out == 0) = false := by simp [ho]
                        rw [if_neg ho, e0] at OUT
                        have L0' := L0
                        rw [hy] at L0
                        obtain ⟨B, cc, rfl, _, _⟩ := L0.form
                        obtain ⟨r0, o0, rfl, hcell, _⟩ := L0.get (i := 0) (u := .int .u64 (x).out) rfl
                        rw [Nat.add_zero] at hcell
                        simp only [nums, List.map_cons, List.map_nil, List.length_cons, List.length_nil, Nat.zero_add] at cR0
                        rw [hsi] at cR3
                        have FIN : ∀ nq, Tel w b g (x) (y) (World.drewN _ nq) := fun nq => ⟨Blk.drewN hbk nq, ⟨_, v1, v2, Blk.drewN hbR nq, Lst.drewN L0' nq, Lst.drewN L1 nq, Lst.drewN L2 nq⟩, hsame, hok, hbb, hgg, hfr.drewN nq⟩
                        clear hy ho hbk hrf hbR L0 L0' L1 L2 hsame hok hfr hsi
                        generalize (x).out = xo at *
                        generalize (x).since = xs at *
                        go_wp2_with fail
                        refine OUT.mono ?_
                        clear OUT
                        rintro e w' ⟨rfl, nq, rfl⟩
                        go_wp2
                        go_roundw
                        case rel => first | exact ⟨i + 1, _, _, _, by omega, by omega, by go_num, rfl, FIN _⟩ | ((repeat apply Exists.intro); exact ⟨⟨i + 1, _, _, _, by omega, by omega, by go_num, rfl, FIN _⟩, rfl⟩)
                        case measure => simp [intOf]; omega
      · clear hR
        go_wp2_with fail
        refine (alive_true _).mono ?_
        rintro e w9 ⟨rfl, k9⟩
        have hk : Fr (fun _ => False) w w9 := I.fr.trans k9 (fun _ _ h => h)
        clear I k9
        go_wp2
        go_ret
        exact ⟨rfl, hk⟩
    · clear hR
      go_wp2_with fail
      refine (alive_true _).mono ?_
      rintro e w9 ⟨rfl, k9⟩
      have hk : Fr (fun _ => False) w w9 := I.fr.trans k9 (fun _ _ h => h)
      clear I k9
      go_wp2
      go_ret
      exact ⟨rfl, hk⟩
end Go.Proofs.Ytmacilbafoejdaa
