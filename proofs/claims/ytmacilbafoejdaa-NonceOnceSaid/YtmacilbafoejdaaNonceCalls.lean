/- The calls of a book of nonces, each by what it makes of the book. -/
import Derived.Test.YtmacilbafoejdaaNonce
namespace Go.Proofs.Ytmacilbafoejdaa
open Go.RowKit
set_option linter.unusedVariables false
set_option linter.unusedSimpArgs false
section
variable {w : World} {b : Nat} {x : BS} {n raw most : Int}
theorem Bk.blk (h : Bk w b x) : Blk w b #[.int .u64 x.out, .int .i64 x.since, .int .u64 x.last, .int .u64 x.s0, .int .u64 x.s1, .int .u64 x.s2, .int .u64 x.s3, .bool true] 52 := h
theorem Bk.fr {w' : World} {S : Nat → Prop} (h : Bk w b x) (k : Fr S w w') (hb : ¬ S b) : Bk w' b x := Blk.fr h k hb

theorem known_at (h : Bk w b x) :
    Calls Try.prog 19 #[.pointer (some ⟨b, 0, none⟩), .int .u64 n] w fun e w' => e = .returned (.int .i64 (x.known n)) ∧ w = w' := by
  have c0 := h.cell 0
  have c2 := h.cell 2
  have c3 := h.cell 3
  have c4 := h.cell 4
  have c5 := h.cell 5
  have c6 := h.cell 6
  simp [BS.cells] at c0 c2 c3 c4 c5 c6
  have K := contains4 (w := w) (b := b) (n := n) (o := 3) c3 c4 c5 c6
  have HK : Hid (has4 x.s0 x.s1 x.s2 x.s3 n = x.has n) := rfl
  obtain ⟨out, since, last, s0, s1, s2, s3⟩ := x
  simp only at *
  generalize hk : BS.known ⟨out, since, last, s0, s1, s2, s3⟩ n = kn
  unfold BS.known at hk
  rw [← HK.out] at hk
  generalize has4 s0 s1 s2 s3 n = hs at *
  simp only at hk
  have Hk : Hid _ := hk
  clear hk HK
  by_cases h0 : n = 0
  · subst h0
    obtain rfl : kn = 30 := by rw [← Hk.out]; simp
    clear Hk K
    go_enter Try.func19, Try.ntmps19
    go_wp2
    go_ret
    exact ⟨rfl, rfl⟩
  · have e0 : (n == 0) = false := by simp [h0]
    by_cases h1 : n = out
    · subst h1
      obtain rfl : kn = 0 := by rw [← Hk.out]; simp [h0]
      clear Hk K h0
      go_enter Try.func19, Try.ntmps19
      go_wp2
      go_ret
      exact ⟨rfl, rfl⟩
    · have e1 : (n == out) = false := by simp [h1]
      by_cases h2 : n = last
      · subst h2
        obtain rfl : kn = 31 := by rw [← Hk.out]; simp [h0, h1]
        clear Hk K h0 h1
        go_enter Try.func19, Try.ntmps19
        go_wp2
        go_ret
        exact ⟨rfl, rfl⟩
      · have e2 : (n == last) = false := by simp [h2]
        cases hs with
        | true =>
          obtain rfl : kn = 32 := by rw [← Hk.out]; simp [h0, h1, h2]
          clear Hk h0 h1 h2
          go_enter Try.func19, Try.ntmps19
          go_wp2_with fail
          refine K.mono ?_
          clear K
          rintro e w' ⟨rfl, rfl⟩
          go_wp2
          go_ret
          exact ⟨rfl, rfl⟩
        | false =>
          obtain rfl : kn = 30 := by rw [← Hk.out]; simp [h0, h1, h2]
          clear Hk h0 h1 h2
          go_enter Try.func19, Try.ntmps19
          go_wp2_with fail
          refine K.mono ?_
          clear K
          rintro e w' ⟨rfl, rfl⟩
          go_wp2
          go_ret
          exact ⟨rfl, rfl⟩

theorem giveUp_bk (h : Bk w b x) : Calls Try.prog 20 #[.pointer (some ⟨b, 0, none⟩)] w fun e w' => e = .returned (.tuple #[]) ∧ Bk w' b x.giveUp ∧ Fr (At b) w w' := by
  by_cases ho : x.out = 0
  · have e : x.giveUp = x := by unfold BS.giveUp; rw [if_pos ho]
    have hb := h.blk
    rw [ho] at hb
    refine (giveUp_none hb).mono ?_
    rintro e' w' ⟨rfl, rfl⟩
    exact ⟨rfl, by rw [e]; exact h, Fr.refl _ _⟩
  · have e : x.giveUp = ⟨0, 0, x.last, x.out, x.s0, x.s1, x.s2⟩ := by unfold BS.giveUp; rw [if_neg ho]
    refine (giveUp_at h.blk ho).mono ?_
    rintro e' w' ⟨rfl, h1, h2⟩
    exact ⟨rfl, by rw [e]; exact h1, h2⟩

theorem ask_at (h : Bk w b x) :
    Calls Try.prog 8 #[.pointer (some ⟨b, 0, none⟩), .int .u64 n, .int .i64 raw] w fun e w' => e = .returned (.int .i64 (x.askE n raw)) ∧ Bk w' b (x.askS n raw) ∧ Fr (At b) w w' := by
  by_cases hbad : BS.badAsk n raw = true
  · have e1 : x.askE n raw = 1 := by unfold BS.askE; rw [if_pos hbad]
    have e2 : x.askS n raw = x := by unfold BS.askS; rw [e1]; rfl
    rw [e1, e2]
    clear e1 e2
    unfold BS.badAsk at hbad
    by_cases h0 : n = 0
    · subst h0
      clear hbad
      go_enter Try.func8, Try.ntmps8
      go_wp2_with fail
      refine (none_at h.blk).mono ?_
      rintro e w' ⟨rfl, rfl⟩
      go_wp2
      go_ret
      exact ⟨rfl, h, Fr.refl _ _⟩
    · have e0 : (n == 0) = false := by simp [h0]
      by_cases h1 : raw < 0
      · clear hbad h0
        go_enter Try.func8, Try.ntmps8
        go_wp2_with fail
        refine (none_at h.blk).mono ?_
        rintro e w' ⟨rfl, rfl⟩
        go_wp2
        go_ret
        exact ⟨rfl, h, Fr.refl _ _⟩
      · have h2 : 4611686018427387904 < raw := by simp [e0] at hbad; omega
        have d1 : decide (raw < 0) = false := by simp; omega
        have d2 : decide (4611686018427387904 < raw) = true := by simp; omega
        clear hbad h0 h1 h2
        go_enter Try.func8, Try.ntmps8
        go_wp2_with fail
        refine (none_at h.blk).mono ?_
        rintro e w' ⟨rfl, rfl⟩
        go_wp2
        go_ret
        exact ⟨rfl, h, Fr.refl _ _⟩
  · have e0 : (n == 0) = false := by simp [BS.badAsk] at hbad ⊢; exact hbad.1.1
    have d1 : decide (raw < 0) = false := by simp [BS.badAsk] at hbad ⊢; omega
    have d2 : decide (4611686018427387904 < raw) = false := by simp [BS.badAsk] at hbad ⊢; omega
    have hE : x.askE n raw = if x.known n = 30 then 0 else 9 := by unfold BS.askE; rw [if_neg hbad]
    clear hbad
    by_cases hk : x.known n = 30
    · have e1 : x.askE n raw = 0 := by rw [hE, if_pos hk]
      have e2 : x.askS n raw = { x.giveUp with out := n, since := raw } := by unfold BS.askS; rw [e1]; rfl
      rw [e1, e2]
      clear e1 e2 hE
      have K := known_at (n := n) h
      rw [hk] at K
      clear hk
      go_enter Try.func8, Try.ntmps8
      go_wp2_with fail
      refine (none_at h.blk).mono ?_
      rintro e w' ⟨rfl, rfl⟩
      go_wp2_with fail
      refine K.mono ?_
      clear K
      rintro e w' ⟨rfl, rfl⟩
      go_wp2_with fail
      refine (giveUp_bk h).mono ?_
      rintro e w1 ⟨rfl, h1, k1⟩
      have c0 := h1.cell 0
      have c1 := h1.cell 1
      have f0 := h1.free 0
      have f1 := h1.free 1
      simp [BS.cells] at c0 c1
      go_wp2
      go_ret
      refine ⟨rfl, ?_, ?_⟩
      · unfold Bk BS.cells at *; (repeat' (first | (with_reducible assumption) | (with_reducible apply Blk.drew) | (with_reducible apply Blk.drewN) | (with_reducible apply Blk.set) | (with_reducible apply Blk.other) | (exact Blk.new' _ _ _ (by first | rfl | (simp; done) | (simp; omega))) | (with_reducible apply Blk.alloc) | (with_reducible rfl) | (simp; done) | (simp; omega) | omega | rfl))
      · (repeat' (first | (with_reducible exact Fr.refl _ _) | (with_reducible assumption) | (with_reducible refine Fr.alloc ?_ _) | (with_reducible refine Fr.drew ?_) | (with_reducible refine Fr.drewN ?_ _) | (with_reducible refine Fr.setCell ?_ _ _ ?_) | (exact Or.inr rfl) | (left; simp; done) | (left; simp; omega) | (simp; done) | (simp; omega) | omega))
    · have e1 : x.askE n raw = 9 := by rw [hE, if_neg hk]
      have e2 : x.askS n raw = x := by unfold BS.askS; rw [e1]; rfl
      rw [e1, e2]
      clear e1 e2 hE
      have K := known_at (n := n) h
      have hk' : (x.known n == 30) = false := by simp [hk]
      generalize x.known n = kn at *
      clear hk
      go_enter Try.func8, Try.ntmps8
      go_wp2_with fail
      refine (none_at h.blk).mono ?_
      rintro e w' ⟨rfl, rfl⟩
      go_wp2_with fail
      refine K.mono ?_
      clear K
      rintro e w' ⟨rfl, rfl⟩
      go_wp2
      go_ret
      exact ⟨rfl, h, Fr.refl _ _⟩
theorem ask_nil : Calls Try.prog 8 #[.pointer none, .int .u64 n, .int .i64 raw] w fun e w' => e = .returned (.int .i64 2) ∧ w = w' := by
  go_enter Try.func8, Try.ntmps8
  go_wp2_with fail
  refine none_nil.mono ?_
  rintro e w' ⟨rfl, rfl⟩
  go_wp2
  go_ret
  exact ⟨rfl, rfl⟩

theorem take_at (h : Bk w b x) :
    Calls Try.prog 9 #[.pointer (some ⟨b, 0, none⟩), .int .u64 n] w fun e w' => e = .returned (.tuple #[.int .i64 (x.takeV n), .int .i64 (x.known n)]) ∧ Bk w' b (x.takeS n) ∧ Fr (At b) w w' := by
  by_cases hk : x.known n = 0
  · have e1 : x.takeV n = x.since := by unfold BS.takeV; rw [if_pos hk]
    have e2 : x.takeS n = ⟨0, 0, n, x.s0, x.s1, x.s2, x.s3⟩ := by unfold BS.takeS; rw [if_pos hk]
    rw [e1, e2, hk]
    clear e1 e2
    have K := known_at (n := n) h
    rw [hk] at K
    clear hk
    have c0 := h.cell 0
    have c1 := h.cell 1
    have c2 := h.cell 2
    have f0 := h.free 0
    have f1 := h.free 1
    have f2 := h.free 2
    simp [BS.cells] at c0 c1 c2
    go_enter Try.func9, Try.ntmps9
    go_wp2_with fail
    refine (none_at h.blk).mono ?_
    rintro e w' ⟨rfl, rfl⟩
    go_wp2_with fail
    refine K.mono ?_
    clear K
    rintro e w' ⟨rfl, rfl⟩
    go_wp2
    go_ret2
    refine ⟨rfl, ?_, ?_⟩
    · unfold Bk BS.cells at *; (repeat' (first | (with_reducible assumption) | (with_reducible apply Blk.drew) | (with_reducible apply Blk.drewN) | (with_reducible apply Blk.set) | (with_reducible apply Blk.other) | (exact Blk.new' _ _ _ (by first | rfl | (simp; done) | (simp; omega))) | (with_reducible apply Blk.alloc) | (with_reducible rfl) | (simp; done) | (simp; omega) | omega | rfl))
    · (repeat' (first | (with_reducible exact Fr.refl _ _) | (with_reducible assumption) | (with_reducible refine Fr.alloc ?_ _) | (with_reducible refine Fr.drew ?_) | (with_reducible refine Fr.drewN ?_ _) | (with_reducible refine Fr.setCell ?_ _ _ ?_) | (exact Or.inr rfl) | (left; simp; done) | (left; simp; omega) | (simp; done) | (simp; omega) | omega))
  · have e1 : x.takeV n = 0 := by unfold BS.takeV; rw [if_neg hk]
    have e2 : x.takeS n = x := by unfold BS.takeS; rw [if_neg hk]
    rw [e1, e2]
    clear e1 e2
    have K := known_at (n := n) h
    have hk' : (x.known n == 0) = false := by simp [hk]
    generalize x.known n = kn at *
    clear hk
    go_enter Try.func9, Try.ntmps9
    go_wp2_with fail
    refine (none_at h.blk).mono ?_
    rintro e w' ⟨rfl, rfl⟩
    go_wp2_with fail
    refine K.mono ?_
    clear K
    rintro e w' ⟨rfl, rfl⟩
    go_wp2
    go_ret2
    exact ⟨rfl, h, Fr.refl _ _⟩
theorem take_nil : Calls Try.prog 9 #[.pointer none, .int .u64 n] w fun e w' => e = .returned (.tuple #[.int .i64 0, .int .i64 2]) ∧ w = w' := by
  go_enter Try.func9, Try.ntmps9
  go_wp2_with fail
  refine none_nil.mono ?_
  rintro e w' ⟨rfl, rfl⟩
  go_wp2
  go_ret2
  exact ⟨rfl, rfl⟩

theorem new_at (w : World) : Calls Try.prog 7 #[] w fun e w' => e = .returned (.pointer (some ⟨w.heap.size, 0, none⟩)) ∧ Bk w' w.heap.size BS.empty ∧ Fr (fun _ => False) w w' := by
  go_enter Try.func7, Try.ntmps7
  go_wp2
  go_ret
  exact ⟨rfl, by unfold Bk BS.cells BS.empty; (repeat' (first | (with_reducible assumption) | (with_reducible apply Blk.drew) | (with_reducible apply Blk.drewN) | (with_reducible apply Blk.set) | (with_reducible apply Blk.other) | (exact Blk.new' _ _ _ (by first | rfl | (simp; done) | (simp; omega))) | (with_reducible apply Blk.alloc) | (with_reducible rfl) | (simp; done) | (simp; omega) | omega | rfl)), by (repeat' (first | (with_reducible exact Fr.refl _ _) | (with_reducible assumption) | (with_reducible refine Fr.alloc ?_ _) | (with_reducible refine Fr.drew ?_) | (with_reducible refine Fr.drewN ?_ _) | (with_reducible refine Fr.setCell ?_ _ _ ?_) | (exact Or.inr rfl) | (left; simp; done) | (left; simp; omega) | (simp; done) | (simp; omega) | omega))⟩
theorem copy_at (h : Bk w b x) : Calls Try.prog 10 #[.pointer (some ⟨b, 0, none⟩)] w fun e w' => e = .returned (.pointer (some ⟨w.heap.size, 0, none⟩)) ∧ Bk w' w.heap.size x ∧ Fr (fun _ => False) w w' := by
  have c0 := h.cell 0
  have c1 := h.cell 1
  have c2 := h.cell 2
  have c3 := h.cell 3
  have c4 := h.cell 4
  have c5 := h.cell 5
  have c6 := h.cell 6
  have c7 := h.cell 7
  simp [BS.cells] at c0 c1 c2 c3 c4 c5 c6 c7
  go_enter Try.func10, Try.ntmps10
  go_wp2_with fail
  refine (none_at h.blk).mono ?_
  rintro e w' ⟨rfl, rfl⟩
  go_wp2
  go_ret
  exact ⟨rfl, by unfold Bk BS.cells at *; (repeat' (first | (with_reducible assumption) | (with_reducible apply Blk.drew) | (with_reducible apply Blk.drewN) | (with_reducible apply Blk.set) | (with_reducible apply Blk.other) | (exact Blk.new' _ _ _ (by first | rfl | (simp; done) | (simp; omega))) | (with_reducible apply Blk.alloc) | (with_reducible rfl) | (simp; done) | (simp; omega) | omega | rfl)), by (repeat' (first | (with_reducible exact Fr.refl _ _) | (with_reducible assumption) | (with_reducible refine Fr.alloc ?_ _) | (with_reducible refine Fr.drew ?_) | (with_reducible refine Fr.drewN ?_ _) | (with_reducible refine Fr.setCell ?_ _ _ ?_) | (exact Or.inr rfl) | (left; simp; done) | (left; simp; omega) | (simp; done) | (simp; omega) | omega))⟩
theorem out_at (h : Bk w b x) : Calls Try.prog 16 #[.pointer (some ⟨b, 0, none⟩)] w fun e w' =>
    e = .returned (.tuple #[.int .u64 x.out, .int .i64 (if x.out = 0 then 0 else x.since), .bool (!(x.out == 0))]) ∧ ∃ n, w' = w.drewN n := by
  have c0 := h.cell 0
  have c1 := h.cell 1
  simp [BS.cells] at c0 c1
  by_cases ho : x.out = 0
  · rw [ho] at c0
    go_enter Try.func16, Try.ntmps16
    go_wp2_with fail
    refine (none_at h.blk).mono ?_
    rintro e w' ⟨rfl, rfl⟩
    go_wp2
    go_ret3
    exact ⟨by simp [ho], 0, rfl⟩
  · have e0 : (x.out == 0) = false := by simp [ho]
    rw [if_neg ho]
    clear ho
    go_enter Try.func16, Try.ntmps16
    go_wp2_with fail
    refine (none_at h.blk).mono ?_
    rintro e w' ⟨rfl, rfl⟩
    go_wp2
    go_quiet (fail)
    go_wp2
    go_ret3
    exact ⟨by simp [e0], _, rfl⟩
theorem drop_at (hB : Bk w b x) (hok : x.ok) (hraw : -9223372036854775808 ≤ raw ∧ raw ≤ 9223372036854775807) (hm : -9223372036854775808 ≤ most ∧ most ≤ 9223372036854775807) :
    Calls Try.prog 14 #[.pointer (some ⟨b, 0, none⟩), .int .i64 raw, .int .i64 most] w fun e w' => e = .returned (.bool (x.dropB raw most)) ∧ Bk w' b (x.dropS raw most) ∧ Fr (At b) w w' := by
  obtain ⟨hs0, hs1⟩ := hok
  obtain ⟨hr0, hr1⟩ := hraw
  obtain ⟨hm0, hm1⟩ := hm
  have c0 := hB.cell 0
  have c1 := hB.cell 1
  simp [BS.cells] at c0 c1
  have hS : x.dropS raw most = if x.dropB raw most = true then x.giveUp else x := rfl
  by_cases ho : x.out = 0
  · have e : x.dropB raw most = false := by unfold BS.dropB; simp [ho]
    rw [hS, e, if_neg (by simp)]
    have e0 : (x.out == 0) = true := by simp [ho]
    clear hS e ho
    go_enter Try.func14, Try.ntmps14
    go_wp2_with fail
    refine (none_at hB.blk).mono ?_
    rintro e w' ⟨rfl, rfl⟩
    go_wp2_with fail
    go_ret
    exact ⟨rfl, hB, Fr.refl _ _⟩
  · have e0 : (x.out == 0) = false := by simp [ho]
    by_cases hr : raw < x.since
    · have e : x.dropB raw most = false := by unfold BS.dropB; simp [hr]
      rw [hS, e, if_neg (by simp)]
      clear hS e ho
      go_enter Try.func14, Try.ntmps14
      go_wp2_with fail
      refine (none_at hB.blk).mono ?_
      rintro e w' ⟨rfl, rfl⟩
      go_wp2_with fail
      go_ret
      exact ⟨rfl, hB, Fr.refl _ _⟩
    · have hr' : x.since ≤ raw := by omega
      by_cases hmn : most < 0
      · by_cases hl : raw - x.since ≤ 0
        · have e : x.dropB raw most = false := by unfold BS.dropB; simp; omega
          rw [hS, e, if_neg (by simp)]
          have hl' : decide (raw - x.since ≤ 0) = true := decide_eq_true hl
          clear hS e ho hr
          go_enter Try.func14, Try.ntmps14
          go_wp2_with fail
          refine (none_at hB.blk).mono ?_
          rintro e w' ⟨rfl, rfl⟩
          go_wp2_with fail
          go_ret
          exact ⟨rfl, hB, Fr.refl _ _⟩
        · have e : x.dropB raw most = true := by unfold BS.dropB; simp [ho]; omega
          rw [hS, e, if_pos rfl]
          have hl' : decide (raw - x.since ≤ 0) = false := decide_eq_false hl
          have hl2 : 0 < raw - x.since := by omega
          clear hS e ho hr hl
          go_enter Try.func14, Try.ntmps14
          go_wp2_with fail
          refine (none_at hB.blk).mono ?_
          rintro e w' ⟨rfl, rfl⟩
          go_wp2_with fail
          refine (giveUp_bk hB).mono ?_
          rintro e w1 ⟨rfl, h1, k1⟩
          go_wp2
          go_ret
          exact ⟨rfl, h1, k1⟩
      · have hmn' : 0 ≤ most := by omega
        by_cases hl : raw - x.since ≤ most
        · have e : x.dropB raw most = false := by unfold BS.dropB; simp; omega
          rw [hS, e, if_neg (by simp)]
          have hl' : decide (raw - x.since ≤ most) = true := decide_eq_true hl
          clear hS e ho hr
          go_enter Try.func14, Try.ntmps14
          go_wp2_with fail
          refine (none_at hB.blk).mono ?_
          rintro e w' ⟨rfl, rfl⟩
          go_wp2_with fail
          go_ret
          exact ⟨rfl, hB, Fr.refl _ _⟩
        · have e : x.dropB raw most = true := by unfold BS.dropB; simp [ho]; omega
          rw [hS, e, if_pos rfl]
          have hl2 : most < raw - x.since := by omega
          clear hS e ho hr hl
          go_enter Try.func14, Try.ntmps14
          go_wp2_with fail
          refine (none_at hB.blk).mono ?_
          rintro e w' ⟨rfl, rfl⟩
          go_wp2_with fail
          refine (giveUp_bk hB).mono ?_
          rintro e w1 ⟨rfl, h1, k1⟩
          go_wp2
          go_ret
          exact ⟨rfl, h1, k1⟩
end
end Go.Proofs.Ytmacilbafoejdaa
