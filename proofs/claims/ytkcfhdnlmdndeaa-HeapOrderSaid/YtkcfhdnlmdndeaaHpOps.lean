/- The heap's small calls: Ahead, none, Len, Min, Find, lay. -/
import Derived.Test.YtkcfhdnlmdndeaaHpMem
import Derived.Test.YtkcfhdnlmdndeaaPHpx2
import Derived.StillTailTactics
namespace Go.Proofs.Ytkcfhdnlmdndeaa
open Go.RowKit Go.Proofs.YtkcfhdnlmdndeaaW.PrintWords Go.Proofs.YtkcfhdnlmdndeaaW.PrintLast Go.Proofs.YtkcfhdnlmdndeaaW.PrintMore PHp
set_option linter.unusedVariables false
set_option linter.unusedSimpArgs false
set_option maxRecDepth 100000
theorem cmp64_f (a b : Int) : cmp_Compare_int64.f a b = some (if a < b then -1 else if a > b then 1 else 0) := by
  unfold cmp_Compare_int64.f cmp_isNaN_int64.f
  simp
  split
  · rfl
  · split <;> rfl
theorem cmpU_f (a b : Int) : cmp_Compare_uint64.f a b = some (if a < b then -1 else if a > b then 1 else 0) := by
  unfold cmp_Compare_uint64.f cmp_isNaN_uint64.f
  simp
  split
  · rfl
  · split <;> rfl
theorem or3_f (a b c : Int) : cmp_Or_int.f 4 [a, b, c] = some (if a = 0 then (if b = 0 then c else b) else a) := by
  unfold cmp_Or_int.f
  have w1 : wrap64 (0 + 1) = 1 := by unfold wrap64; omega
  have w2 : wrap64 (1 + 1) = 2 := by unfold wrap64; omega
  have w3 : wrap64 (2 + 1) = 3 := by unfold wrap64; omega
  have r0 : rd [a, b, c] 0 = a := rfl
  have r1 : rd [a, b, c] 1 = b := rfl
  have r2 : rd [a, b, c] 2 = c := rfl
  simp only [cmp_Or_int.l0, List.length_cons, List.length_nil, r0]
  rw [if_pos (by decide), if_pos (by decide), if_pos (by decide)]
  by_cases h0 : a = 0
  · rw [if_pos h0, if_pos h0, w1, if_pos (by decide), if_pos (by decide), if_pos (by decide), r1]
    by_cases h1 : b = 0
    · rw [if_pos h1, if_pos h1, w2, if_pos (by decide), if_pos (by decide), if_pos (by decide), r2]
      by_cases h2 : c = 0
      · rw [if_pos h2, w3, if_neg (by decide), h2]
      · rw [if_neg h2]
    · rw [if_neg h1, if_neg h1]
  · rw [if_neg h0, if_neg h0]
theorem ahead_f (a b : It) : heap_Ahead.f 4 a.f0 a.f1 a.f2 b.f0 b.f1 b.f2 = some (ahead a b) := by
  unfold heap_Ahead.f
  rw [cmp64_f, cmpU_f, cmpU_f]
  simp only [Option.bind_some]
  rw [or3_f]
  simp only [Option.bind_some]
  unfold ahead
  refine congrArg some (decide_eq_decide.2 ?_)
  unfold itLt
  generalize a.f0 = a0
  generalize a.f1 = a1
  generalize a.f2 = a2
  generalize b.f0 = b0
  generalize b.f1 = b1
  generalize b.f2 = b2
  by_cases h1 : a2 < b2
  · simp [h1]
  · by_cases h2 : a2 > b2
    · simp [h1, h2]; omega
    · have : a2 = b2 := by omega
      subst this
      by_cases h3 : a1 < b1
      · simp [h3]
      · by_cases h4 : a1 > b1
        · simp [h3, h4]; omega
        · have : a1 = b1 := by omega
          subst this
          by_cases h5 : a0 < b0
          · simp [h5]
          · by_cases h6 : a0 > b0
            · simp [h5, h6]
            · simp [h5, h6]
theorem ahead_at (a b : It) (W : World) : Calls Try.prog 12 #[vI a, vI b] W fun e w' => e = .returned (.bool (ahead a b)) ∧ Fr (fun _ => False) W w' :=
  (heap_Ahead.calls 4 _ _ _ _ _ _ _ W (ahead_f a b)).mono fun _ _ q => ⟨q.1, Fr.of_below q.2 (Nat.le_refl _) _⟩
theorem eqM (w : World) (m : Nat) : (binOp .eql 92 (.map (some m)) (.map none)).run Try.prog w = .ok (.bool false) w := by kernel_rfl
theorem none_at {w : World} {b g m cap n : Nat} {L : List It} {f : Int → Option Nat} {size : Int} (h : Hp w b g m cap L f n size) :
    Calls Try.prog 45 #[.pointer (some ⟨b, 0, none⟩)] w fun e w' => e = .returned (.bool false) ∧ Fr (fun _ => False) w w' := by
  have b1 := h.blk.cell 1
  simp at b1
  clear h
  go_enter Try.func45, Try.ntmps45
  go_wp2_with (simp only [eqM])
  go_ret
  exact ⟨rfl, by (repeat' (first | (with_reducible exact Fr.refl _ _) | (with_reducible assumption) | (with_reducible refine Fr.alloc ?_ _) | (with_reducible refine Fr.drew ?_) | (with_reducible refine Fr.drewN ?_ _) | (with_reducible refine Fr.setCell ?_ _ _ ?_) | (exact Or.inr rfl) | (left; simp; done) | (left; simp; omega) | (simp; done) | (simp; omega) | omega))⟩
theorem none_nil (w : World) : Calls Try.prog 45 #[.pointer none] w fun e w' => e = .returned (.bool true) ∧ Fr (fun _ => False) w w' := by
  go_enter Try.func45, Try.ntmps45
  go_wp2
  go_ret
  exact ⟨rfl, by (repeat' (first | (with_reducible exact Fr.refl _ _) | (with_reducible assumption) | (with_reducible refine Fr.alloc ?_ _) | (with_reducible refine Fr.drew ?_) | (with_reducible refine Fr.drewN ?_ _) | (with_reducible refine Fr.setCell ?_ _ _ ?_) | (exact Or.inr rfl) | (left; simp; done) | (left; simp; omega) | (simp; done) | (simp; omega) | omega))⟩
theorem len_at {w : World} {b g m cap n : Nat} {L : List It} {f : Int → Option Nat} {size : Int} (h : Hp w b g m cap L f n size) :
    Calls Try.prog 16 #[.pointer (some ⟨b, 0, none⟩)] w fun e w' => e = .returned (.int .i64 L.length) ∧ Fr (fun _ => False) w w' := by
  go_enter Try.func16, Try.ntmps16
  go_wp2_with fail
  refine (none_at h).mono ?_
  rintro e w1 ⟨rfl, k1⟩
  have b0 := (h.blk.fr k1 (fun h => h)).cell 0
  simp at b0
  go_wp2
  go_ret
  exact ⟨rfl, by (repeat' (first | (with_reducible exact Fr.refl _ _) | (with_reducible assumption) | (with_reducible refine Fr.alloc ?_ _) | (with_reducible refine Fr.drew ?_) | (with_reducible refine Fr.drewN ?_ _) | (with_reducible refine Fr.setCell ?_ _ _ ?_) | (exact Or.inr rfl) | (left; simp; done) | (left; simp; omega) | (simp; done) | (simp; omega) | omega))⟩
theorem min_at {w : World} {b g m cap n : Nat} {L : List It} {f : Int → Option Nat} {size : Int} (h : Hp w b g m cap L f n size) :
    Calls Try.prog 31 #[.pointer (some ⟨b, 0, none⟩)] w fun e w' => e = .returned (.tuple #[vI (nth L 0), .bool (decide (0 < L.length))]) ∧ Fr (fun _ => False) w w' := by
  have hL : L.length ≤ 9223372036854775807 := by have := h.cap; have := h.row.len; unfold maxLen at *; omega
  by_cases h0 : 0 < L.length
  · have H := hid h
    have e0 : (((L.length : Int)) == 0) = false := by rw [beq_eq_false_iff_ne]; omega
    have e1 : (0 : Int) < (L.length : Int) := by omega
    have D := hid (decide_eq_true h0)
    have hk := nth_some h0
    have HN := hid (rfl : nth L 0 = nth L 0)
    obtain ⟨c, hc⟩ : ∃ c, c = nth L 0 := ⟨_, rfl⟩
    have HC := hid hc
    rw [← hc] at hk ⊢
    clear h hc HN
    rw [D.out]
    clear D
    go_enter Try.func31, Try.ntmps31
    go_wp2_with fail
    generalize hW : World.alloc w _ = W
    have f0 : Fr (fun _ => False) w W := by subst hW; (repeat' (first | (with_reducible exact Fr.refl _ _) | (with_reducible assumption) | (with_reducible refine Fr.alloc ?_ _) | (with_reducible refine Fr.drew ?_) | (with_reducible refine Fr.drewN ?_ _) | (with_reducible refine Fr.setCell ?_ _ _ ?_) | (exact Or.inr rfl) | (left; simp; done) | (left; simp; omega) | (simp; done) | (simp; omega) | omega))
    have bR : Blk W w.heap.size #[.int .u64 0, .int .u64 0, .int .i64 0] 24 := by subst hW; (repeat' (first | (with_reducible assumption) | (with_reducible apply Blk.drew) | (with_reducible apply Blk.drewN) | (with_reducible apply Blk.set) | (with_reducible apply Blk.other) | (exact Blk.new' _ _ _ (by first | rfl | (simp; done) | (simp; omega))) | (with_reducible apply Blk.alloc) | (with_reducible rfl) | (simp; done) | (simp; omega) | omega | rfl))
    clear hW
    refine (none_at (H.out.fr f0 (fun h => h) (fun h => h) (fun h => h))).mono ?_
    rintro e w1 ⟨rfl, k1⟩
    have k2 := f0.trans k1 (fun _ _ h => h)
    have b0 := (H.out.blk.fr k2 (fun h => h)).cell 0
    obtain ⟨d0, d1, d2⟩ := (H.out.row.fr k2 (fun h => h)).at3 hk
    simp at b0 d0 d1 d2
    obtain ⟨r0, r1, r2, q0, q1, q2⟩ := (bR.fr k1 (fun h => h)).c3
    clear f0
    go_wp2_with fail
    generalize hW : World.setCell (World.setCell _ _ _) _ _ = W3
    have b3 : Blk W3 w.heap.size #[.int .u64 c.f0, .int .u64 c.f1, .int .i64 c.f2] 24 := by subst hW; have := bR.fr k1 (fun h => h); (repeat' (first | (with_reducible assumption) | (with_reducible apply Blk.drew) | (with_reducible apply Blk.drewN) | (with_reducible apply Blk.set) | (with_reducible apply Blk.other) | (exact Blk.new' _ _ _ (by first | rfl | (simp; done) | (simp; omega))) | (with_reducible apply Blk.alloc) | (with_reducible rfl) | (simp; done) | (simp; omega) | omega | rfl))
    have f3 : Fr (fun _ => False) w W3 := by subst hW; (repeat' (first | (with_reducible exact Fr.refl _ _) | (with_reducible assumption) | (with_reducible refine Fr.alloc ?_ _) | (with_reducible refine Fr.drew ?_) | (with_reducible refine Fr.drewN ?_ _) | (with_reducible refine Fr.setCell ?_ _ _ ?_) | (exact Or.inr rfl) | (left; simp; done) | (left; simp; omega) | (simp; done) | (simp; omega) | omega))
    refine bodyPost_ret (results_ct rfl _ _ _ 24 _ (0, 0) _ rfl b3 Try.underlying24 rfl (by kernel_rfl)) rfl ?_
    exact ⟨rfl, f3⟩
  · have H := hid h
    have e0 : (((L.length : Int)) == 0) = true := by rw [beq_iff_eq]; omega
    have D := hid (decide_eq_false h0)
    have HN : Hid (nth L 0 = ⟨0, 0, 0⟩) := hid (by have : L = [] := List.eq_nil_of_length_eq_zero (by omega); subst this; rfl)
    rw [HN.out, D.out]
    clear h D HN
    go_enter Try.func31, Try.ntmps31
    go_wp2_with fail
    generalize hW : World.alloc w _ = W
    have f0 : Fr (fun _ => False) w W := by subst hW; (repeat' (first | (with_reducible exact Fr.refl _ _) | (with_reducible assumption) | (with_reducible refine Fr.alloc ?_ _) | (with_reducible refine Fr.drew ?_) | (with_reducible refine Fr.drewN ?_ _) | (with_reducible refine Fr.setCell ?_ _ _ ?_) | (exact Or.inr rfl) | (left; simp; done) | (left; simp; omega) | (simp; done) | (simp; omega) | omega))
    have bR : Blk W w.heap.size #[.int .u64 0, .int .u64 0, .int .i64 0] 24 := by subst hW; (repeat' (first | (with_reducible assumption) | (with_reducible apply Blk.drew) | (with_reducible apply Blk.drewN) | (with_reducible apply Blk.set) | (with_reducible apply Blk.other) | (exact Blk.new' _ _ _ (by first | rfl | (simp; done) | (simp; omega))) | (with_reducible apply Blk.alloc) | (with_reducible rfl) | (simp; done) | (simp; omega) | omega | rfl))
    clear hW
    refine (none_at (H.out.fr0 f0)).mono ?_
    rintro e w1 ⟨rfl, k1⟩
    have k2 := f0.trans k1 (fun _ _ h => h)
    have b0 := (H.out.blk.fr k2 (fun h => h)).cell 0
    simp at b0
    obtain ⟨r0, r1, r2, q0, q1, q2⟩ := (bR.fr k1 (fun h => h)).c3
    clear f0
    go_wp2_with fail
    generalize hW : World.setCell (World.setCell _ _ _) _ _ = W3
    have b3 : Blk W3 w.heap.size #[.int .u64 0, .int .u64 0, .int .i64 0] 24 := by subst hW; exact (bR.fr k1 (fun h => h)).set3 _ _ _
    have f3 : Fr (fun _ => False) w W3 := by subst hW; (repeat' (first | (with_reducible exact Fr.refl _ _) | (with_reducible assumption) | (with_reducible refine Fr.alloc ?_ _) | (with_reducible refine Fr.drew ?_) | (with_reducible refine Fr.drewN ?_ _) | (with_reducible refine Fr.setCell ?_ _ _ ?_) | (exact Or.inr rfl) | (left; simp; done) | (left; simp; omega) | (simp; done) | (simp; omega) | omega))
    refine bodyPost_ret (results_ct rfl _ _ _ 24 _ (0, 0) _ rfl b3 Try.underlying24 rfl (by kernel_rfl)) rfl ?_
    exact ⟨rfl, f3⟩
theorem zeroI (w : World) : (zeroValue 3).run Try.prog w = .ok (.int .i64 0) w := by kernel_rfl
/-- Where an item stands. -/
theorem find_at {w : World} {b g m cap n : Nat} {L : List It} {f : Int → Option Nat} {size : Int} (h : Hp w b g m cap L f n size) {id : Int} (hid' : (Lit.int .u64 id).wf = true) (hf : ∀ i, f id = some i → i < L.length) :
    Calls Try.prog 29 #[.pointer (some ⟨b, 0, none⟩), .int .u64 id] w fun e w' => e = .returned (.tuple #[vI (match f id with | some i => nth L i | none => ⟨0, 0, 0⟩), .int .i64 ((f id).getD 0 : Nat), .bool (f id).isSome]) ∧ Fr (fun _ => False) w w' := by
  have hL := h.small
  have H := hid h
  clear h
  cases hfi : f id with
  | none =>
    have ep : (plF f id).getD (.int .i64 0) = .int .i64 0 := by unfold plF; rw [hfi]; rfl
    have es : (plF f id).isSome = false := by unfold plF; rw [hfi]; rfl
    have EP := hid ep
    have ES := hid es
    clear ep es hfi hf
    go_enter Try.func29, Try.ntmps29
    go_wp2_with fail
    generalize hW : World.alloc w _ = W
    have f0 : Fr (fun _ => False) w W := by subst hW; (repeat' (first | (with_reducible exact Fr.refl _ _) | (with_reducible assumption) | (with_reducible refine Fr.alloc ?_ _) | (with_reducible refine Fr.drew ?_) | (with_reducible refine Fr.drewN ?_ _) | (with_reducible refine Fr.setCell ?_ _ _ ?_) | (exact Or.inr rfl) | (left; simp; done) | (left; simp; omega) | (simp; done) | (simp; omega) | omega))
    have bR : Blk W w.heap.size #[.int .u64 0, .int .u64 0, .int .i64 0] 24 := by subst hW; (repeat' (first | (with_reducible assumption) | (with_reducible apply Blk.drew) | (with_reducible apply Blk.drewN) | (with_reducible apply Blk.set) | (with_reducible apply Blk.other) | (exact Blk.new' _ _ _ (by first | rfl | (simp; done) | (simp; omega))) | (with_reducible apply Blk.alloc) | (with_reducible rfl) | (simp; done) | (simp; omega) | omega | rfl))
    clear hW
    refine (none_at (H.out.fr0 f0)).mono ?_
    rintro e w1 ⟨rfl, k1⟩
    have k2 := f0.trans k1 (fun _ _ h => h)
    have h1 := H.out.fr0 k2
    have b1 := h1.blk.cell 1
    simp at b1
    have hlk := h1.map.look_ok Try.underlying22 Try.underlying92 (zeroI _) hid'
    rw [EP.out, ES.out] at hlk
    obtain ⟨r0, r1, r2, q0, q1, q2⟩ := (bR.fr k1 (fun h => h)).c3
    clear f0 h1
    go_wp2_with (simp only [hlk])
    generalize hW : World.setCell (World.setCell _ _ _) _ _ = W3
    have b3 : Blk W3 w.heap.size #[.int .u64 0, .int .u64 0, .int .i64 0] 24 := by subst hW; exact (bR.fr k1 (fun h => h)).set3 _ _ _
    have f3 : Fr (fun _ => False) w W3 := by subst hW; (repeat' (first | (with_reducible exact Fr.refl _ _) | (with_reducible assumption) | (with_reducible refine Fr.alloc ?_ _) | (with_reducible refine Fr.drew ?_) | (with_reducible refine Fr.drewN ?_ _) | (with_reducible refine Fr.setCell ?_ _ _ ?_) | (exact Or.inr rfl) | (left; simp; done) | (left; simp; omega) | (simp; done) | (simp; omega) | omega))
    refine bodyPost_ret (results_ctt rfl _ _ _ 24 _ (0, 0) _ rfl b3 Try.underlying24 rfl (by kernel_rfl)) rfl ?_
    exact ⟨rfl, f3⟩
  | some i =>
    have hi := hf i hfi
    have ep : (plF f id).getD (.int .i64 0) = .int .i64 (i : Int) := by unfold plF; rw [hfi]; rfl
    have es : (plF f id).isSome = true := by unfold plF; rw [hfi]; rfl
    have EP := hid ep
    have ES := hid es
    have hk := nth_some hi
    have hi1 : (i : Int) < (L.length : Int) := by omega
    clear ep es hfi hf
    simp only [Option.getD_some, Option.isSome_some]
    obtain ⟨c, hc⟩ : ∃ c, c = nth L i := ⟨_, rfl⟩
    rw [← hc] at hk ⊢
    clear hc
    go_enter Try.func29, Try.ntmps29
    go_wp2_with fail
    generalize hW : World.alloc w _ = W
    have f0 : Fr (fun _ => False) w W := by subst hW; (repeat' (first | (with_reducible exact Fr.refl _ _) | (with_reducible assumption) | (with_reducible refine Fr.alloc ?_ _) | (with_reducible refine Fr.drew ?_) | (with_reducible refine Fr.drewN ?_ _) | (with_reducible refine Fr.setCell ?_ _ _ ?_) | (exact Or.inr rfl) | (left; simp; done) | (left; simp; omega) | (simp; done) | (simp; omega) | omega))
    have bR : Blk W w.heap.size #[.int .u64 0, .int .u64 0, .int .i64 0] 24 := by subst hW; (repeat' (first | (with_reducible assumption) | (with_reducible apply Blk.drew) | (with_reducible apply Blk.drewN) | (with_reducible apply Blk.set) | (with_reducible apply Blk.other) | (exact Blk.new' _ _ _ (by first | rfl | (simp; done) | (simp; omega))) | (with_reducible apply Blk.alloc) | (with_reducible rfl) | (simp; done) | (simp; omega) | omega | rfl))
    clear hW
    refine (none_at (H.out.fr0 f0)).mono ?_
    rintro e w1 ⟨rfl, k1⟩
    have k2 := f0.trans k1 (fun _ _ h => h)
    have h1 := H.out.fr0 k2
    have b1 := h1.blk.cell 1
    have b0 := h1.blk.cell 0
    obtain ⟨d0, d1, d2⟩ := h1.row.at3 hk
    simp at b1 b0
    have hlk := h1.map.look_ok Try.underlying22 Try.underlying92 (zeroI _) hid'
    rw [EP.out, ES.out] at hlk
    obtain ⟨r0, r1, r2, q0, q1, q2⟩ := (bR.fr k1 (fun h => h)).c3
    clear f0 h1
    go_wp2_with (simp only [hlk])
    generalize hW : World.setCell (World.setCell _ _ _) _ _ = W3
    have b3 : Blk W3 w.heap.size #[.int .u64 c.f0, .int .u64 c.f1, .int .i64 c.f2] 24 := by subst hW; exact (bR.fr k1 (fun h => h)).set3 _ _ _
    have f3 : Fr (fun _ => False) w W3 := by subst hW; (repeat' (first | (with_reducible exact Fr.refl _ _) | (with_reducible assumption) | (with_reducible refine Fr.alloc ?_ _) | (with_reducible refine Fr.drew ?_) | (with_reducible refine Fr.drewN ?_ _) | (with_reducible refine Fr.setCell ?_ _ _ ?_) | (exact Or.inr rfl) | (left; simp; done) | (left; simp; omega) | (simp; done) | (simp; omega) | omega))
    refine bodyPost_ret (results_ctt rfl _ _ _ 24 _ (0, 0) _ rfl b3 Try.underlying24 rfl (by kernel_rfl)) rfl ?_
    exact ⟨rfl, f3⟩
theorem lay_at {w : World} {b g m cap n : Nat} {L : List It} {f : Int → Option Nat} {size : Int} (h : Hp w b g m cap L f n size) {k : Nat} (hk : k < L.length) (x : It) (hx : ItOk x) (hn : n < 1000000000) {n' : Nat} (hn0 : n' = if (f x.f0).isSome = true then n else n + 1) :
    Calls Try.prog 46 #[.pointer (some ⟨b, 0, none⟩), .int .i64 (k : Int), vI x] w fun e w' =>
      e = .returned (.tuple #[]) ∧ Hp w' b g m cap (L.set k x) (put f x.f0 k) n' size ∧ Fr (fun j => j = g ∨ j = m) w w' := by
  have HN := hid hn0
  clear hn0
  have hk1 : (k : Int) < (L.length : Int) := by omega
  have hlen := h.row.len
  have hL : L.length ≤ 9223372036854775807 := by have := h.cap; unfold maxLen at this; omega
  go_enter Try.func46, Try.ntmps46
  go_wp2_with fail
  generalize hW : World.alloc w _ = W
  have f0 : Fr (fun _ => False) w W := by subst hW; (repeat' (first | (with_reducible exact Fr.refl _ _) | (with_reducible assumption) | (with_reducible refine Fr.alloc ?_ _) | (with_reducible refine Fr.drew ?_) | (with_reducible refine Fr.drewN ?_ _) | (with_reducible refine Fr.setCell ?_ _ _ ?_) | (exact Or.inr rfl) | (left; simp; done) | (left; simp; omega) | (simp; done) | (simp; omega) | omega))
  have bX : Blk W w.heap.size #[.int .u64 x.f0, .int .u64 x.f1, .int .i64 x.f2] 24 := by subst hW; (repeat' (first | (with_reducible assumption) | (with_reducible apply Blk.drew) | (with_reducible apply Blk.drewN) | (with_reducible apply Blk.set) | (with_reducible apply Blk.other) | (exact Blk.new' _ _ _ (by first | rfl | (simp; done) | (simp; omega))) | (with_reducible apply Blk.alloc) | (with_reducible rfl) | (simp; done) | (simp; omega) | omega | rfl))
  clear hW
  have hb := h.blk.fr f0 (fun h => h)
  have hr := h.row.fr f0 (fun h => h)
  have hm := h.map.fr f0 (fun h => h)
  have gX : g ≠ w.heap.size := by have := h.row.lt; omega
  have mX : m ≠ w.heap.size := by have := h.map.lt; omega
  have bgb := h.gb
  have bmb := h.mb
  have bmg := h.mg
  have hcap := h.cap
  clear h
  have b0 := hb.cell 0
  have b1 := hb.cell 1
  have x0 := bX.cell 0
  have x1 := bX.cell 1
  have x2 := bX.cell 2
  simp at b0 b1 x0 x1 x2
  obtain ⟨c, hcc⟩ : ∃ c, L[k]? = some c := ⟨_, List.getElem?_eq_getElem hk⟩
  obtain ⟨d0, d1, d2⟩ := hr.at3 hcc
  have q0 := hr.free (k * 3)
  have q1 := hr.free (k * 3 + 1)
  have q2 := hr.free (k * 3 + 2)
  go_still_tail 7, (by kernel_rfl)
  change wpList _ _ _ _ _ (World.drew W)
  go_wp2_with fail
  generalize hW : World.drew (World.setCell _ _ _) = W2
  have r2 : Row 24 W2 g cap (L.set k x) := by subst hW; exact (hr.set3 hk x).drew
  have f2 : Fr (fun j => j = g) W W2 := by subst hW; (repeat' (first | (with_reducible exact Fr.refl _ _) | (with_reducible assumption) | (with_reducible refine Fr.alloc ?_ _) | (with_reducible refine Fr.drew ?_) | (with_reducible refine Fr.drewN ?_ _) | (with_reducible refine Fr.setCell ?_ _ _ ?_) | (exact Or.inr rfl) | (left; simp; done) | (left; simp; omega) | (simp; done) | (simp; omega) | omega))
  clear hW d0 d1 d2 q0 q1 q2 hr b0 b1 x0 x1 x2
  have bX2 := bX.fr f2 (Ne.symm gX)
  have hb2 := hb.fr f2 (Ne.symm bgb)
  have hm2 := hm.fr f2 bmg
  clear bX hb hm
  have b0 := hb2.cell 0
  have b1 := hb2.cell 1
  have x0 := bX2.cell 0
  simp at b0 b1 x0
  go_wp2_with fail
  go_still_tail 7, (by kernel_rfl)
  change wpList _ _ _ _ _ (World.drew W2)
  have hm3 : MF 22 .u64 W2.drew m n (plF f) := hm2.drew
  go_wp2_with (at_mapUpdate; refine wpList_store_mf _ rfl _ _ _ 92 rfl 22 3 .u64 Try.underlying22 Try.underlying92 m n (plF f) x.f0 (.int .i64 (k : Int)) rfl hm3 ?_ rfl rfl hx.1 ?_; (focus (unfold maxLen; omega)); intro w6 hm6 f6)
  go_returns
  have f7 : Fr (fun _ => False) W2 W2.drew := (Fr.refl _ _).drew
  refine ⟨rfl, ⟨?_, (r2.fr f7 (fun h => h)).fr f6 (Ne.symm bmg), hcap, ?_, bgb, bmb, bmg⟩, ?_⟩
  · rw [List.length_set]; exact (hb2.fr f7 (fun h => h)).fr f6 (Ne.symm bmb)
  · rw [plF_put] at hm6
    have e : (plF f x.f0).isSome = (f x.f0).isSome := by unfold plF; cases f x.f0 <;> rfl
    rw [e, ← HN.out] at hm6
    exact hm6
  · exact (((f0.mono (T := fun j => j = g ∨ j = m) (fun _ _ h => h.elim)).trans f2 (fun _ _ h => .inl h)).trans f7 (fun _ _ h => h.elim)).trans f6 (fun _ _ h => .inr h)
end Go.Proofs.Ytkcfhdnlmdndeaa
