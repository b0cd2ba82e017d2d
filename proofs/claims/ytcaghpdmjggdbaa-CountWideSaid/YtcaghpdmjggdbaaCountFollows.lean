/- CountFollows: a counter that goes less than a round between readings is followed; another, read less often, comes to the same total. -/
import Derived.Test.YtcaghpdmjggdbaaCountAwake
import Derived.Test.YtcaghpdmjggdbaaCountPlain
import Derived.Test.YtcaghpdmjggdbaaOpen
namespace Go.Proofs.Ytcaghpdmjggdbaa
open Go.RowKit
set_option linter.unusedVariables false
set_option linter.unusedSimpArgs false

/-- A reading less than a round behind the last one is followed. -/
theorem read_follow {w : World} {b : Nat} {mask a n total r : Int} (hm : IsMask mask) (h : Cnt w b mask (a % (mask + 1)) total false) (hr : r = (a + n) % (mask + 1)) (h0 : 0 ≤ n) (h1 : n ≤ mask) (ht : 0 ≤ total) (hs : total + n ≤ 9223372036854775807) :
    Calls Try.prog 7 #[.pointer (some ⟨b, 0, none⟩), .int .u64 r] w fun e w' => e = .returned (.tuple #[.int .u64 n, .int .i64 0]) ∧ Cnt w' b mask r (total + n) false ∧ Fr (At b) w w' := by
  have hp := hm.pos
  have hw : bits .and .u64 (IntKind.u64.wrap (r - a % (mask + 1))) mask = n := by
    rw [and_wrap hm, hr]; exact way_mod a n (mask + 1) h0 (by omega)
  have hlt := Int.emod_lt_of_pos (a + n) (show (0 : Int) < mask + 1 by omega)
  have := read_ok (r := r) h (by omega) ht (by omega) (by rw [hw]; exact h0) (by rw [hw]; omega)
  rw [hw] at this
  exact this

theorem Cnt.fr {w w' : World} {b : Nat} {m l t : Int} {f : Bool} {S : Nat → Prop} (h : Cnt w b m l t f) (k : Fr S w w') (hb : ¬ S b) : Cnt w' b m l t f := Blk.fr h k hb

theorem u64_lt {n : Int} (h : (Lit.int .u64 n).wf = true) : 0 ≤ n ∧ n ≤ 18446744073709551615 := by
  simp [Lit.wf, IntKind.min, IntKind.max, IntKind.bits, IntKind.signed] at h; omega

/-- Where the two counters stand when so many readings have been taken. -/
structure Foll (mask f : Int) (b1 b2 : Nat) (w : World) (i : Nat) (gone since : Int) (wr : World) : Prop where
  g0 : 0 ≤ since
  g1 : since ≤ gone
  g2 : since ≤ mask
  g3 : gone ≤ i * 144115188075855872
  c : Cnt wr b1 mask ((f + gone) % (mask + 1)) gone false
  d : Cnt wr b2 mask ((f + gone - since) % (mask + 1)) (gone - since) false
  fr : Fr (fun _ => False) w wr

set_option maxRecDepth 100000 in
set_option maxHeartbeats 4000000 in
theorem countFollows_walk (a0 a1 : Int) (A : Option Addr) (len cap : Nat) (w : World) (w0 : (Lit.int .u8 a0).wf = true) (w1 : (Lit.int .u64 a1).wf = true) (hR : RdS [.i .u64] w A len cap) :
    Calls Try.prog 4 #[.int .u8 a0, .int .u64 a1, .slice A len cap] w fun e w' => e = .returned (.bool true) ∧ Fr (fun _ => False) w w' := by
  have hb0 : 0 ≤ a0 ∧ a0 ≤ 255 := by simp [Lit.wf, IntKind.min, IntKind.max, IntKind.bits, IntKind.signed] at w0; omega
  have hb1 := u64_lt w1
  obtain ⟨hb00, hb01⟩ := hb0
  obtain ⟨hb10, hb11⟩ := hb1
  have hlen : len ≤ 9223372036854775807 := by rcases hR with ⟨h, _⟩ | ⟨_, _, _, h1, h2, _⟩ <;> (try unfold maxLen at *) <;> omega
  clear w0 w1
  have hm := mask_is (8 + a0 % 57) (by omega) (by omega)
  have hf := and_mask hm a1 hb10 hb11
  have hfl := Int.emod_lt_of_pos a1 (show 0 < 18446744073709551615 / 2 ^ (64 - (8 + a0 % 57)).toNat + 1 by have := hm.pos; omega)
  have hf0 : 0 ≤ bits BinOp.and IntKind.u64 a1 (18446744073709551615 / 2 ^ (64 - (8 + a0 % 57)).toNat) := by rw [hf]; exact Int.emod_nonneg _ (by have := hm.pos; omega)
  have hf1 : bits BinOp.and IntKind.u64 a1 (18446744073709551615 / 2 ^ (64 - (8 + a0 % 57)).toNat) ≤ 18446744073709551615 / 2 ^ (64 - (8 + a0 % 57)).toNat := by rw [hf]; omega
  have N := fun W => new_ok (8 + a0 % 57) (bits BinOp.and IntKind.u64 a1 (18446744073709551615 / 2 ^ (64 - (8 + a0 % 57)).toNat)) W (by omega) (by omega) hf1
  clear hf hfl
  go_enter Try.func4, Try.ntmps4
  go_wp2_with fail
  generalize (18446744073709551615 : Int) / 2 ^ (64 - (8 + a0 % 57)).toNat = mask at *
  generalize bits BinOp.and IntKind.u64 a1 mask = f at *
  have hmp := hm.pos
  have hml := hm.le
  refine (N _).mono ?_
  rintro e w1 ⟨rfl, h1, k1⟩
  go_wp2_with fail
  refine (N _).mono ?_
  rintro e w2 ⟨rfl, h2, k2⟩
  clear N
  go_wp2_with fail
  refine (awake_true _).mono ?_
  rintro e w3 ⟨rfl, k3⟩
  have h1' : Cnt w3 w.heap.size mask f 0 false := (h1.fr k2 (fun h => h)).fr k3 (fun h => h)
  have h2' : Cnt w3 w1.heap.size mask f 0 false := h2.fr k3 (fun h => h)
  have hk : Fr (fun _ => False) w w3 := (k1.trans k2 (fun _ _ h => h)).trans k3 (fun _ _ h => h)
  have hne : w.heap.size < w1.heap.size := h1.lt
  have hB := k1.size
  clear h1 h2 k1 k2 k3
  have hI : Foll mask f w.heap.size w1.heap.size w 0 0 0 w3 := by
    have e : f % (mask + 1) = f := Int.emod_eq_of_lt hf0 (by omega)
    refine ⟨by omega, by omega, by omega, by omega, ?_, ?_, hk⟩
    · rw [Int.add_zero, e]; exact h1'
    · rw [Int.sub_zero, Int.add_zero, e]; exact h2'
  clear h1' h2' hk
  go_wp2_with fail
  go_loopw [58, 13, 14] (fun vi vg vs wr => ∃ (i : Nat) (gone since : Int), i ≤ len ∧ i ≤ 60 ∧ vi = .int .i64 i ∧ vg = .int .u64 gone ∧ vs = .int .u64 since ∧ Foll mask f w.heap.size w1.heap.size w i gone since wr) (fun vi _ _ _ => len - (intOf vi).toNat)
  case atStart => exact ⟨0, 0, 0, by omega, by omega, rfl, rfl, rfl, hI⟩
  case round =>
    clear hI
    obtain ⟨i, gone, since, hil, hi60, rfl, rfl, rfl, I⟩ := hrel
    by_cases hlt : i < len
    · by_cases h60 : i = 60
      · obtain ⟨b, off, n, rfl, hc, hn, hb⟩ := hR.num hlt
        have hc' := (I.fr.cell (a := ⟨b, off + i, none⟩) hb (fun h => h)).trans hc
        have h60' : ((i : Int) == 60) = true := by simp; omega
        clear hc hn hb hR h60
        go_wp2_with fail
        refine (read_follow hm I.d (by rw [and_wrap hm]; congr 1; omega) I.g0 I.g2 (by have := I.g1; omega) (by have := I.g3; omega)).mono ?_
        rintro e w4 ⟨rfl, hd, k4⟩
        rw [Int.sub_add_cancel] at hd
        have hk : Fr (fun _ => False) w w4 := I.fr.trans k4 (At.gone (by omega))
        clear I k4
        go_wp2_with (first
          | (go_at_call 8; refine (total_at hd).mono ?_; rintro e w' ⟨rfl, rfl⟩))
        go_ret
        exact ⟨rfl, hk⟩
      · obtain ⟨b, off, n, rfl, hc, hn, hb⟩ := hR.num hlt
        have hc' := (I.fr.cell (a := ⟨b, off + i, none⟩) hb (fun h => h)).trans hc
        have hn' := u64_lt hn
        have hq := and_mask hm n hn'.1 hn'.2
        have hq0 : 0 ≤ bits .and .u64 n mask := by rw [hq]; exact Int.emod_nonneg _ (by omega)
        have hq1 : bits .and .u64 n mask ≤ mask := by rw [hq]; have := Int.emod_lt_of_pos n (show (0 : Int) < mask + 1 by omega); omega
        clear hc hn hn' hq hb hR
        go_wp2_with fail
        have hm0 : 0 ≤ bits .and .u64 n mask % 144115188075855872 := by omega
        have hm1 : bits .and .u64 n mask % 144115188075855872 ≤ mask := by omega
        have hm2 : bits .and .u64 n mask % 144115188075855872 < 144115188075855872 := by omega
        have hs0 := I.g0
        have hs1 := I.g1
        have hs2 := I.g2
        have hg : gone ≤ 8502796096475496448 := by have := I.g3; omega
        have HG3 : Hid (gone ≤ i * 144115188075855872) := I.g3
        clear hq0 hq1
        generalize bits .and .u64 n mask % 144115188075855872 = m at *
        have hr : bits .and .u64 (IntKind.u64.wrap (IntKind.u64.wrap (f + gone) + m)) mask = (f + gone + m) % (mask + 1) := by rw [wrap_add_wrap, and_wrap hm]
        generalize bits .and .u64 (IntKind.u64.wrap (IntKind.u64.wrap (f + gone) + m)) mask = r at *
        refine (read_follow hm I.c hr hm0 hm1 (by omega) (by omega)).mono ?_
        rintro e w4 ⟨rfl, hc, k4⟩
        have HR : Hid (r = (f + gone + m) % (mask + 1)) := hr
        clear hr
        have hd : Cnt w4 w1.heap.size mask ((f + gone - since) % (mask + 1)) (gone - since) false := I.d.fr k4 (by simp [At]; omega)
        have hk : Fr (fun _ => False) w w4 := I.fr.trans k4 (At.gone (Nat.le_refl _))
        clear I k4
        by_cases hov : mask < since + m
        · go_wp2_with fail
          have hr : bits .and .u64 (f + (gone + m) - m) mask = (f + gone - since + since) % (mask + 1) := by
            rw [and_mask hm _ (by omega) (by omega)]; congr 1; omega
          generalize bits .and .u64 (f + (gone + m) - m) mask = r' at *
          refine (read_follow hm hd hr hs0 hs2 (by omega) (by omega)).mono ?_
          rintro e w5 ⟨rfl, hd', k5⟩
          have hc' : Cnt w5 w.heap.size mask r (gone + m) false := hc.fr k5 (by simp [At]; omega)
          have HR' : Hid (r' = (f + gone - since + since) % (mask + 1)) := hr
          have hk' : Fr (fun _ => False) w w5 := hk.trans k5 (At.gone (by omega))
          clear hr hc hk k5 hd
          go_wp2_with (first
            | (go_at_call 8; refine (total_at hc').mono ?_; rintro e w' ⟨rfl, rfl⟩)
            | (go_at_call 10; refine (last_at hc').mono ?_; rintro e w' ⟨rfl, rfl⟩)
            | (go_at_call 11; refine (full_at hc').mono ?_; rintro e w' ⟨rfl, rfl⟩))
          go_roundw
          case rel =>
            refine ⟨i + 1, gone + m, m, by omega, by omega, by go_num, rfl, rfl, ⟨hm0, by omega, hm1, by have := HG3.out; push_cast; omega, ?_, ?_, hk'⟩⟩
            · rw [← Int.add_assoc, ← HR.out]; exact hc'
            · rw [show f + (gone + m) - m = f + gone - since + since from by omega, ← HR'.out, show gone + m - m = gone - since + since from by omega]; exact hd'
          case measure => simp [intOf]; omega
        · go_wp2_with (first
            | (go_at_call 8; refine (total_at hc).mono ?_; rintro e w' ⟨rfl, rfl⟩)
            | (go_at_call 10; refine (last_at hc).mono ?_; rintro e w' ⟨rfl, rfl⟩)
            | (go_at_call 11; refine (full_at hc).mono ?_; rintro e w' ⟨rfl, rfl⟩))
          go_roundw
          case rel =>
            refine ⟨i + 1, gone + m, since + m, by omega, by omega, by go_num, rfl, rfl, ⟨by omega, by omega, by omega, by have := HG3.out; push_cast; omega, ?_, ?_, hk⟩⟩
            · rw [← Int.add_assoc, ← HR.out]; exact hc
            · rw [show f + (gone + m) - (since + m) = f + gone - since from by omega, show gone + m - (since + m) = gone - since from by omega]; exact hd
          case measure => simp [intOf]; omega
    · go_wp2_with fail
      refine (read_follow hm I.d (by rw [and_wrap hm]; congr 1; omega) I.g0 I.g2 (by have := I.g1; omega) (by have := I.g3; omega)).mono ?_
      rintro e w4 ⟨rfl, hd, k4⟩
      rw [Int.sub_add_cancel] at hd
      have hk : Fr (fun _ => False) w w4 := I.fr.trans k4 (At.gone (by omega))
      clear I k4
      go_wp2_with (first
        | (go_at_call 8; refine (total_at hd).mono ?_; rintro e w' ⟨rfl, rfl⟩))
      go_ret
      exact ⟨rfl, hk⟩
end Go.Proofs.Ytcaghpdmjggdbaa
