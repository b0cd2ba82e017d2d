/- The document's tag of bytes. -/
import Derived.Test.YtnphjhignhmhaaaMacRefRound
import Derived.Test.YtnphjhignhmhaaaMacRef
namespace Go.Proofs.Ytnphjhignhmhaaa
open Go.RowKit Go.Proofs.YtnphjhignhmhaaaW.PrintWords Go.Proofs.YtnphjhignhmhaaaW.PrintLast Go.Proofs.YtnphjhignhmhaaaW.PrintMore PTg
set_option linter.unusedVariables false
set_option linter.unusedSimpArgs false
set_option maxRecDepth 100000

theorem takes_eq (m : Int) (v : S4) : takes m v = (xr (rnds 2 (v.1, v.2.1, v.2.2.1, xr v.2.2.2 m)).1 m, (rnds 2 (v.1, v.2.1, v.2.2.1, xr v.2.2.2 m)).2.1, (rnds 2 (v.1, v.2.1, v.2.2.1, xr v.2.2.2 m)).2.2.1, (rnds 2 (v.1, v.2.1, v.2.2.1, xr v.2.2.2 m)).2.2.2) := rfl
theorem U4.rnds (n : Nat) (v : S4) (h : U4 v) : U4 (rnds n v) := by
  induction n generalizing v with
  | zero => exact h
  | succ n ih => rw [Go.Proofs.Ytnphjhignhmhaaa.rnds]; exact ih _ (U4.rnd v)
theorem U4.takes (m : Int) (v : S4) : U4 (takes m v) := by
  have := U4.rnd (Go.Proofs.Ytnphjhignhmhaaa.rnd (v.1, v.2.1, v.2.2.1, xr v.2.2.2 m))
  exact ⟨U64.xr _ _, this.2.1, this.2.2.1, this.2.2.2⟩
theorem U4.key0 (a b : Int) : U4 (key0 a b) := ⟨U64.xr _ _, U64.xr _ _, U64.xr _ _, U64.xr _ _⟩
theorem U4.fold (l : List Int) : ∀ (v : S4), U4 v → U4 (l.foldl (fun v m => Go.Proofs.Ytnphjhignhmhaaa.takes m v) v) := by
  induction l with
  | nil => intro v h; exact h
  | cons m l ih => intro v h; exact ih _ (U4.takes m v)
theorem fold_snoc (l : List Int) (i : Nat) (h : i < l.length) (v : S4) : (l.take (i + 1)).foldl (fun v m => takes m v) v = takes (l.getD i 0) ((l.take i).foldl (fun v m => takes m v) v) := by
  have e : l[i]? = some (l.getD i 0) := by simp [h]
  rw [take_snoc e, List.foldl_append]
  rfl

set_option maxHeartbeats 4000000 in
theorem rtag_at {w : World} {k a b : Int} {A : Option Addr} {c : Nat} {l : List Int} (hr : Kd.C (Kd.int .u8) w A l.length l) (hc : l.length ≤ c) (hb : ∀ x ∈ l, Byte x) (hl : l.length < 17592186044415) :
    Calls Try.prog 8 #[.agg #[.int .u32 k, .int .u64 a, .int .u64 b], .slice A l.length c] w fun e w' => e = .returned (.int .u64 (tagOf a b l)) ∧ Fr (fun _ => False) w w' := by
  have HT := hid (tag_ref a b l hb)
  have HW := hid (words_f l hb hl)
  have HR := hid hr
  have HC := hid hc
  clear hr hc hb hl
  go_enter Try.func8, Try.ntmps8
  go_wp2_with fail
  generalize hW : World.alloc (World.alloc w _) _ = W
  have hbS : Sr W (w.heap.size + 1) (key0 a b) := by subst hW; unfold Sr; exact Blk.new' _ _ _ (by simp)
  have f0 : Fr (fun _ => False) w W := by subst hW; (repeat' (first | (with_reducible exact Fr.refl _ _) | (with_reducible assumption) | (with_reducible refine Fr.alloc ?_ _) | (with_reducible refine Fr.drew ?_) | (with_reducible refine Fr.drewN ?_ _) | (with_reducible refine Fr.setCell ?_ _ _ ?_) | (exact Or.inr rfl) | (left; simp; done) | (left; simp; omega) | (simp; done) | (simp; omega) | omega))
  clear hW
  generalize hB : w.heap.size + 1 = B at *
  have hBw : ¬ B < w.heap.size := by omega
  clear hB
  have hr1 : Kd.C (Kd.int .u8) W A l.length l := Kd.C_below HR.out f0.below
  refine (ephemerisref06_Words.calls (l.length + 10) A c l (refWords l) W hr1 HC.out HW.out).mono ?_
  rintro e W1 ⟨vw, rfl, hR, hB1⟩
  have f1 : Fr (fun _ => False) W W1 := Fr.of_below hB1 (Nat.le_refl _) _
  have hbS1 : Sr W1 B (key0 a b) := Blk.fr hbS f1 (fun h => h)
  have f2 := f0.trans f1 (fun _ _ h => h)
  clear hbS f0 f1 hB1 hr1 HR HW HC
  have hlen : 0 < (refWords l).length := by unfold refWords; simp
  generalize refWords l = ws at *
  obtain ⟨Aw, cw, rfl, hcw, hCw⟩ := Kd.R_reads hR
  have hmx : ws.length ≤ 9223372036854775807 := hCw.2.1
  obtain ⟨ad, _, rfl, _⟩ := Kd.C_get hCw 0 0 (by omega) (by omega)
  obtain ⟨g, rfl⟩ := Kd.R_head hR
  have hgB : g ≠ B := by
    have := Kd.R_ne hR hbS1 (by decide)
    intro e
    subst e
    simp [Value.ownBlock] at this
  have hcell : ∀ i, i < ws.length → W1.cell? ⟨g, i, none⟩ = some (.int .u64 (ws.getD i 0)) := by
    intro i hi
    obtain ⟨ad, e, hq⟩ := Kd.at_int hCw (i : Int) (by omega) (by omega)
    obtain rfl := Option.some.inj e
    simp [Addr.add, rd] at hq
    have e0 : (if i = 0 then (⟨g, 0, none⟩ : Addr) else ⟨g, i, none⟩) = ⟨g, i, none⟩ := by
      split
      · rename_i h0; rw [h0]
      · rfl
    rw [e0] at hq
    simpa using hq
  have hg1 : g < W1.heap.size := World.block_lt_of_cell? W1 _ (hcell 0 hlen)
  have HCell := hid hcell
  clear hR hCw hcw hlen hcell
  have f3 : Fr (fun k => k = B) W1 W1 := Fr.refl _ _
  go_wp2_with fail
  go_loopw [7] (fun vi wr => ∃ i : Nat, i ≤ ws.length ∧ vi = .int .i64 i ∧ Sr wr B ((ws.take i).foldl (fun v m => takes m v) (key0 a b)) ∧ Fr (fun k => k = B) W1 wr) (fun vi _ => ws.length - (intOf vi).toNat)
  case atStart => exact ⟨0, by omega, rfl, hbS1, f3⟩
  case round =>
    clear hbS1 f3
    obtain ⟨i, hi, rfl, hs, hf⟩ := hrel
    have hu := U4.fold (ws.take i) (key0 a b) (U4.key0 a b)
    by_cases hlt : i < ws.length
    · have hx := (hf.cell (a := ⟨g, i, none⟩) hg1 hgB).trans (HCell.out i hlt)
      have HN := hid (fold_snoc ws i hlt (key0 a b))
      obtain ⟨v, hv⟩ : ∃ v, v = (ws.take i).foldl (fun v m => takes m v) (key0 a b) := ⟨_, rfl⟩
      obtain ⟨m, hm⟩ : ∃ m, m = ws.getD i 0 := ⟨_, rfl⟩
      rw [← hv] at hs hu HN
      rw [← hm] at hx HN
      have HM := hid hm
      clear hv hm
      obtain ⟨v0, v1, v2, v3⟩ := v
      have hu1 : U4 (v0, v1, v2, xr v3 m) := ⟨hu.1, hu.2.1, hu.2.2.1, U64.xr _ _⟩
      have HU := hid hu1
      clear hu hu1
      have c3 := hs.cell 3
      have g3 := hs.free 3
      simp at c3
      go_wp2_with fail
      go_still_tail 12, (by kernel_rfl)
      change wpList _ _ _ _ _ wr.drew
      go_wp2_with fail
      generalize hW : World.drew (World.setCell wr _ _) = W2
      have h2 : Sr W2 B (v0, v1, v2, xr v3 m) := by subst hW; unfold Sr at *; (repeat' (first | (with_reducible assumption) | (with_reducible apply Blk.drew) | (with_reducible apply Blk.drewN) | (with_reducible apply Blk.set) | (with_reducible apply Blk.other) | (exact Blk.new' _ _ _ (by first | rfl | (simp; done) | (simp; omega))) | (with_reducible apply Blk.alloc) | (with_reducible rfl) | (simp; done) | (simp; omega) | omega | rfl))
      have f4 : Fr (fun k => k = B) W1 W2 := by subst hW; exact hf.trans (by (repeat' (first | (with_reducible exact Fr.refl _ _) | (with_reducible assumption) | (with_reducible refine Fr.alloc ?_ _) | (with_reducible refine Fr.drew ?_) | (with_reducible refine Fr.drewN ?_ _) | (with_reducible refine Fr.setCell ?_ _ _ ?_) | (exact Or.inr rfl) | (left; simp; done) | (left; simp; omega) | (simp; done) | (simp; omega) | omega))) (fun _ _ h => h)
      clear hW hs hx c3 g3 hf
      refine (rround_at HU.out h2).mono ?_
      rintro e W3 ⟨rfl, h3, f5⟩
      have f6 := f4.trans f5 (fun _ _ h => h)
      clear h2 f4 f5
      go_wp2_with fail
      refine (rround_at (U4.rnd _) h3).mono ?_
      rintro e W4 ⟨rfl, h4, f7⟩
      have f8 := f6.trans f7 (fun _ _ h => h)
      have hx := (f8.cell (a := ⟨g, i, none⟩) hg1 hgB).trans (HCell.out i hlt)
      clear h3 f6 f7
      rw [← HM.out] at hx
      rw [takes_eq] at HN
      have hr2 : rnds 2 (v0, v1, v2, xr v3 m) = rnd (rnd (v0, v1, v2, xr v3 m)) := rfl
      simp only [hr2] at HN
      clear hr2
      generalize rnd (rnd (v0, v1, v2, xr v3 m)) = r at *
      obtain ⟨r0, r1, r2, r3⟩ := r
      have c0 := h4.cell 0
      have g0 := h4.free 0
      simp at c0
      go_wp2_with fail
      go_still_tail 12, (by kernel_rfl)
      change wpList _ _ _ _ _ W4.drew
      go_wp2_with fail
      generalize hW : World.drew (World.setCell W4 _ _) = W5
      have h5 : Sr W5 B (xr r0 m, r1, r2, r3) := by subst hW; unfold Sr at *; (repeat' (first | (with_reducible assumption) | (with_reducible apply Blk.drew) | (with_reducible apply Blk.drewN) | (with_reducible apply Blk.set) | (with_reducible apply Blk.other) | (exact Blk.new' _ _ _ (by first | rfl | (simp; done) | (simp; omega))) | (with_reducible apply Blk.alloc) | (with_reducible rfl) | (simp; done) | (simp; omega) | omega | rfl))
      have f9 : Fr (fun k => k = B) W1 W5 := by subst hW; exact f8.trans (by (repeat' (first | (with_reducible exact Fr.refl _ _) | (with_reducible assumption) | (with_reducible refine Fr.alloc ?_ _) | (with_reducible refine Fr.drew ?_) | (with_reducible refine Fr.drewN ?_ _) | (with_reducible refine Fr.setCell ?_ _ _ ?_) | (exact Or.inr rfl) | (left; simp; done) | (left; simp; omega) | (simp; done) | (simp; omega) | omega))) (fun _ _ h => h)
      clear hW
      go_roundw
      case rel => exact ⟨i + 1, by omega, by go_num, by rw [HN.out]; exact h5, f9⟩
      case measure => simp [intOf]; omega
    · obtain rfl : ws.length = i := by omega
      rw [List.take_length] at hs hu
      obtain ⟨v, hv⟩ : ∃ v, v = ws.foldl (fun v m => takes m v) (key0 a b) := ⟨_, rfl⟩
      rw [← hv] at hs hu
      have HT1 := HT.out
      rw [← hv] at HT1
      have HT2 := hid HT1
      have f4 := f2.trans hf (fun j hj hj2 => (hBw (by subst hj2; exact hj)).elim)
      clear hv HT HT1 hlt hi HCell hmx hf f2 hg1
      obtain ⟨v0, v1, v2, v3⟩ := v
      have hu1 : U4 (v0, v1, xr v2 255, v3) := ⟨hu.1, hu.2.1, U64.xr _ _, hu.2.2.2⟩
      have HU := hid hu1
      clear hu hu1
      have c2 := hs.cell 2
      have g2 := hs.free 2
      simp at c2
      go_wp2_with fail
      generalize hW : World.setCell wr _ _ = W2
      have h2 : Sr W2 B (v0, v1, xr v2 255, v3) := by subst hW; unfold Sr at *; (repeat' (first | (with_reducible assumption) | (with_reducible apply Blk.drew) | (with_reducible apply Blk.drewN) | (with_reducible apply Blk.set) | (with_reducible apply Blk.other) | (exact Blk.new' _ _ _ (by first | rfl | (simp; done) | (simp; omega))) | (with_reducible apply Blk.alloc) | (with_reducible rfl) | (simp; done) | (simp; omega) | omega | rfl))
      have f5 : Fr (fun _ => False) w W2 := by
        subst hW
        exact f4.trans (Fr.setCell (S := fun k => k = B) (Fr.refl _ _) _ _ (.inr rfl)) (fun j hj hj2 => (hBw (by subst hj2; exact hj)).elim)
      clear hW hs c2 g2 f4
      go_loopw [8] (fun vi wr => ∃ i : Nat, i ≤ 4 ∧ vi = .int .i64 i ∧ Sr wr B (rnds i (v0, v1, xr v2 255, v3)) ∧ Fr (fun _ => False) w wr) (fun vi _ => 4 - (intOf vi).toNat)
      case atStart => exact ⟨0, by omega, rfl, h2, f5⟩
      case round =>
        clear h2 f5
        obtain ⟨i, hi, rfl, hs, hf⟩ := hrel
        have hu2 := U4.rnds i _ HU.out
        by_cases hlt : i < 4
        · go_wp2_with fail
          refine (rround_at hu2 hs).mono ?_
          rintro e W3 ⟨rfl, h3, f5⟩
          have f6 := hf.trans f5 (fun j hj hj2 => (hBw (by subst hj2; exact hj)).elim)
          clear hs hf f5 hu2
          go_wp2_with fail
          go_roundw
          case rel => exact ⟨i + 1, by omega, by go_num, by rw [rnds_succ']; exact h3, f6⟩
          case measure => simp [intOf]; omega
        · obtain rfl : i = 4 := by omega
          clear hlt hi hu2
          obtain ⟨q, hq⟩ : ∃ q, q = rnds 4 (v0, v1, xr v2 255, v3) := ⟨_, rfl⟩
          rw [← hq] at hs
          have Hq := hid hq
          clear hq
          obtain ⟨q0, q1, q2, q3⟩ := q
          have c0 := hs.cell 0
          have c1 := hs.cell 1
          have c2 := hs.cell 2
          have c3 := hs.cell 3
          simp at c0 c1 c2 c3
          go_wp2_with fail
          go_still (by kernel_rfl)
          change Exit.then _ _ _ _ wr.drew
          go_wp2
          go_ret
          refine ⟨?_, hf.drew⟩
          rw [HT2.out]
          unfold close
          simp only [← Hq.out]
          rfl
end Go.Proofs.Ytnphjhignhmhaaa
