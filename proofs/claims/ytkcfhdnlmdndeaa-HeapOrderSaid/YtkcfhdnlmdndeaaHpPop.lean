/- Remove and Pop, whatever they answer. -/
import Derived.Test.YtkcfhdnlmdndeaaHpRem
namespace Go.Proofs.Ytkcfhdnlmdndeaa
open Go.RowKit Go.Proofs.YtkcfhdnlmdndeaaW.PrintWords Go.Proofs.YtkcfhdnlmdndeaaW.PrintLast Go.Proofs.YtkcfhdnlmdndeaaW.PrintMore PHp
set_option linter.unusedVariables false
set_option linter.unusedSimpArgs false
set_option maxRecDepth 100000
theorem rem_no {w : World} {b m : Nat} {v : Value} {L : List It} {size : Int} {id : Int} (h : HP w b m v L size) (hid0 : (Lit.int .u64 id).wf = true) (hpl : place L id = none) :
    Calls Try.prog 19 #[.pointer (some ⟨b, 0, none⟩), .int .u64 id] w fun e w' => e = .returned (.tuple #[vI ⟨0, 0, 0⟩, .int .i64 6]) ∧ Fr (fun _ => False) w w' := by
  have H := hid h
  have HL : Hid ((place L id).isSome = false) := hid (by rw [hpl]; rfl)
  have HG : Hid ((((place L id).getD 0 : Nat) : Int) = 0) := hid (by rw [hpl]; rfl)
  clear h hpl
  go_enter Try.func19, Try.ntmps19
  go_wp2_with fail
  generalize hW : World.alloc w _ = W
  have f0 : Fr (fun _ => False) w W := by subst hW; (repeat' (first | (with_reducible exact Fr.refl _ _) | (with_reducible assumption) | (with_reducible refine Fr.alloc ?_ _) | (with_reducible refine Fr.drew ?_) | (with_reducible refine Fr.drewN ?_ _) | (with_reducible refine Fr.setCell ?_ _ _ ?_) | (exact Or.inr rfl) | (left; simp; done) | (left; simp; omega) | (simp; done) | (simp; omega) | omega))
  have bR : Blk W w.heap.size #[.int .u64 0, .int .u64 0, .int .i64 0] 24 := by subst hW; (repeat' (first | (with_reducible assumption) | (with_reducible apply Blk.drew) | (with_reducible apply Blk.drewN) | (with_reducible apply Blk.set) | (with_reducible apply Blk.other) | (exact Blk.new' _ _ _ (by first | rfl | (simp; done) | (simp; omega))) | (with_reducible apply Blk.alloc) | (with_reducible rfl) | (simp; done) | (simp; omega) | omega | rfl))
  clear hW
  refine (none_blk (H.out.fr0 f0).blk).mono ?_
  rintro e w1 ⟨rfl, k1⟩
  have F1 := f0.trans k1 (fun _ _ h => h)
  have h1 := H.out.fr0 F1
  have bR1 := bR.fr k1 (fun h => h)
  have b1 := h1.blk.cell 1
  simp at b1
  have hlk := h1.look hid0
  rw [HL.out, HG.out] at hlk
  obtain ⟨r0, r1, r2, q0, q1, q2⟩ := bR1.c3
  go_wp2_with (simp only [hlk])
  generalize hW : World.setCell (World.setCell _ _ _) _ _ = W9
  have b3 : Blk W9 w.heap.size #[.int .u64 0, .int .u64 0, .int .i64 0] 24 := by subst hW; exact bR1.set3 _ _ _
  have f9 : Fr (fun _ => False) w W9 := by subst hW; (repeat' (first | (with_reducible exact Fr.refl _ _) | (with_reducible assumption) | (with_reducible refine Fr.alloc ?_ _) | (with_reducible refine Fr.drew ?_) | (with_reducible refine Fr.drewN ?_ _) | (with_reducible refine Fr.setCell ?_ _ _ ?_) | (exact Or.inr rfl) | (left; simp; done) | (left; simp; omega) | (simp; done) | (simp; omega) | omega))
  refine bodyPost_ret (results_ct rfl _ _ _ 24 _ (0, 0) _ rfl b3 Try.underlying24 rfl (by kernel_rfl)) rfl ?_
  exact ⟨rfl, f9⟩
theorem place_perm_some {L : List It} {id : Int} {k : Nat} (h : place L id = some k) : k < L.length := (place_some h).1
theorem mem_cutOut {L : List It} {k : Nat} (hk : k < L.length) {z : It} (h : z ∈ cutOut L k) : z ∈ L := by
  unfold cutOut at h
  split at h
  · rcases List.mem_or_eq_of_mem_set h with h | h
    · exact List.mem_of_mem_take h
    · rw [h]; exact nth_mem (by omega)
  · exact List.mem_of_mem_take h
theorem remL_perm {L : List It} {id : Int} {k : Nat} (h : place L id = some k) : (remL L id).Perm (cutOut L k) := by
  unfold remL; rw [h]
  simp only
  split
  · rename_i hk; exact settle_perm (by rw [cutOut_length]; exact hk)
  · exact List.Perm.refl _
/-- Remove, whatever it answers. -/
theorem rem_at {w : World} {b m : Nat} {v : Value} {L : List It} {size : Int} {id : Int} (h : HP w b m v L size) (hid0 : (Lit.int .u64 id).wf = true) :
    Calls Try.prog 19 #[.pointer (some ⟨b, 0, none⟩), .int .u64 id] w fun e w' => e = .returned (.tuple #[vI (remX L id), .int .i64 (remE L id)]) ∧
      ∃ v', HP w' b m v' (remL L id) size ∧ (∀ g, v'.ownBlock = some g → v.ownBlock = some g ∨ w.heap.size ≤ g) ∧ Fr (Ft b m v) w w' := by
  cases hpl : place L id with
  | none =>
    refine (rem_no h hid0 hpl).mono ?_
    rintro e w' ⟨rfl, f⟩
    have e1 : remX L id = ⟨0, 0, 0⟩ := by unfold remX; rw [hpl]
    have e2 : remE L id = 6 := by unfold remE; rw [hpl]; rfl
    have e3 : remL L id = L := by unfold remL; rw [hpl]
    rw [e1, e2, e3]
    exact ⟨rfl, v, h.fr0 f, fun g e => .inl e, f.mono (fun _ _ h => h.elim)⟩
  | some k =>
    have hk := place_perm_some hpl
    rcases h.form with ⟨_, hnil⟩ | ⟨g, cap, hv, hp⟩
    · rw [hnil] at hk; simp at hk
    have e1 : remX L id = nth L k := by unfold remX; rw [hpl]
    have e2 : remE L id = 0 := by unfold remE; rw [hpl]; rfl
    have e3 : remL L id = (if k < L.length - 1 then settle (cutOut L k) k else cutOut L k) := by unfold remL; rw [hpl]
    rw [e1, e2]
    refine (rem_ok hp hid0 h.uniq h.ok h.small hpl e3 rfl).mono ?_
    rintro e w' ⟨rfl, h9, f9⟩
    have hl := h.len
    have hpm := remL_perm hpl
    refine ⟨rfl, _, HP.back (M := cutOut L k) (by rw [cutOut_length]; exact h9) (uniq_cutOut h.uniq hk) (fun z hz => h.ok z (mem_cutOut hk hz)) hpm (by rw [cutOut_length]; omega) h.sz, fun i e => .inl (by rw [hv]; exact e), f9.mono (fun i hi e => ?_)⟩
    rcases e with e | e | e
    · exact .inl e
    · exact .inr (.inr (by rw [hv, e]; rfl))
    · exact .inr (.inl e)
def popE (L : List It) : Int := if L.length = 0 then 6 else 0
def popX (L : List It) : It := nth L 0
def popL (L : List It) : List It := if L.length = 0 then L else remL L (nth L 0).f0
theorem pop_at {w : World} {b m : Nat} {v : Value} {L : List It} {size : Int} (h : HP w b m v L size) :
    Calls Try.prog 17 #[.pointer (some ⟨b, 0, none⟩)] w fun e w' => e = .returned (.tuple #[vI (popX L), .int .i64 (popE L)]) ∧
      ∃ v', HP w' b m v' (popL L) size ∧ (∀ g, v'.ownBlock = some g → v.ownBlock = some g ∨ w.heap.size ≤ g) ∧ Fr (Ft b m v) w w' := by
  by_cases h0 : L.length = 0
  · have e1 : popX L = ⟨0, 0, 0⟩ := by have := List.eq_nil_of_length_eq_zero h0; subst this; rfl
    have e2 : popE L = 6 := if_pos h0
    have e3 : popL L = L := if_pos h0
    rw [e1, e2, e3]
    clear e1 e2 e3
    have hlen : ∃ c a, v = .slice a 0 c := by
      rcases h.form with ⟨rfl, _⟩ | ⟨g, cap, rfl, _⟩
      · exact ⟨0, none, rfl⟩
      · exact ⟨cap, _, by rw [h0]⟩
    obtain ⟨c, a, hv⟩ := hlen
    have H := hid h
    have HV := hid hv
    clear h hv h0
    go_enter Try.func17, Try.ntmps17
    go_wp2_with fail
    generalize hW : World.alloc w _ = W
    have f0 : Fr (fun _ => False) w W := by subst hW; (repeat' (first | (with_reducible exact Fr.refl _ _) | (with_reducible assumption) | (with_reducible refine Fr.alloc ?_ _) | (with_reducible refine Fr.drew ?_) | (with_reducible refine Fr.drewN ?_ _) | (with_reducible refine Fr.setCell ?_ _ _ ?_) | (exact Or.inr rfl) | (left; simp; done) | (left; simp; omega) | (simp; done) | (simp; omega) | omega))
    have bR : Blk W w.heap.size #[.int .u64 0, .int .u64 0, .int .i64 0] 24 := by subst hW; (repeat' (first | (with_reducible assumption) | (with_reducible apply Blk.drew) | (with_reducible apply Blk.drewN) | (with_reducible apply Blk.set) | (with_reducible apply Blk.other) | (exact Blk.new' _ _ _ (by first | rfl | (simp; done) | (simp; omega))) | (with_reducible apply Blk.alloc) | (with_reducible rfl) | (simp; done) | (simp; omega) | omega | rfl))
    clear hW
    refine (none_blk (H.out.fr0 f0).blk).mono ?_
    rintro e w1 ⟨rfl, k1⟩
    have F1 := f0.trans k1 (fun _ _ h => h)
    have h1 := H.out.fr0 F1
    have bR1 := bR.fr k1 (fun h => h)
    have b0 := h1.blk.cell 0
    rw [HV.out] at b0
    simp at b0
    obtain ⟨r0, r1, r2, q0, q1, q2⟩ := bR1.c3
    go_wp2_with fail
    generalize hW : World.setCell (World.setCell _ _ _) _ _ = W9
    have b3 : Blk W9 w.heap.size #[.int .u64 0, .int .u64 0, .int .i64 0] 24 := by subst hW; exact bR1.set3 _ _ _
    have f9 : Fr (fun _ => False) w W9 := by subst hW; (repeat' (first | (with_reducible exact Fr.refl _ _) | (with_reducible assumption) | (with_reducible refine Fr.alloc ?_ _) | (with_reducible refine Fr.drew ?_) | (with_reducible refine Fr.drewN ?_ _) | (with_reducible refine Fr.setCell ?_ _ _ ?_) | (exact Or.inr rfl) | (left; simp; done) | (left; simp; omega) | (simp; done) | (simp; omega) | omega))
    refine bodyPost_ret (results_ct rfl _ _ _ 24 _ (0, 0) _ rfl b3 Try.underlying24 rfl (by kernel_rfl)) rfl ?_
    exact ⟨rfl, v, H.out.fr0 f9, fun g e => .inl e, f9.mono (fun _ _ h => h.elim)⟩
  · have hp0 : place L (nth L 0).f0 = some 0 := place_is h.uniq (by omega)
    have e1 : remX L (nth L 0).f0 = popX L := by unfold remX popX; rw [hp0]
    have e2 : popE L = 0 := if_neg h0
    have e3 : popL L = remL L (nth L 0).f0 := if_neg h0
    have e4 : remE L (nth L 0).f0 = 0 := by unfold remE; rw [hp0]; rfl
    rw [e2, e3, ← e1]
    rcases h.form with ⟨_, hnil⟩ | ⟨g, cap, hv, hp⟩
    · rw [hnil] at h0; exact absurd rfl h0
    have H := hid h
    have hok := h.ok (nth L 0) (nth_mem (by omega))
    have hk := nth_some (l := L) (i := 0) (by omega)
    have hL : L.length ≤ 9223372036854775807 := by have := h.small; omega
    have z1 : (0 : Int) < (L.length : Int) := by omega
    have z2 : ((L.length : Int) == 0) = false := by rw [beq_eq_false_iff_ne]; omega
    obtain ⟨x, hx⟩ : ∃ x, x = nth L 0 := ⟨_, rfl⟩
    rw [← hx] at hk hok e4 ⊢
    have HP0 := hid hp
    have HV := hid hv
    have HR : Hid (∀ W, HP W b m v L size → Calls Try.prog 19 #[.pointer (some ⟨b, 0, none⟩), .int .u64 x.f0] W fun e w' => e = .returned (.tuple #[vI (remX L x.f0), .int .i64 0]) ∧
      ∃ v', HP w' b m v' (remL L x.f0) size ∧ (∀ g, v'.ownBlock = some g → v.ownBlock = some g ∨ W.heap.size ≤ g) ∧ Fr (Ft b m v) W w') := hid (fun W hW => by have := rem_at hW hok.1; rw [e4] at this; exact this)
    clear h hv hp e1 e2 e3 e4 hp0 hok hx
    go_enter Try.func17, Try.ntmps17
    go_wp2_with fail
    generalize hW : World.alloc w _ = W
    have f0 : Fr (fun _ => False) w W := by subst hW; (repeat' (first | (with_reducible exact Fr.refl _ _) | (with_reducible assumption) | (with_reducible refine Fr.alloc ?_ _) | (with_reducible refine Fr.drew ?_) | (with_reducible refine Fr.drewN ?_ _) | (with_reducible refine Fr.setCell ?_ _ _ ?_) | (exact Or.inr rfl) | (left; simp; done) | (left; simp; omega) | (simp; done) | (simp; omega) | omega))
    have bR : Blk W w.heap.size #[.int .u64 0, .int .u64 0, .int .i64 0] 24 := by subst hW; (repeat' (first | (with_reducible assumption) | (with_reducible apply Blk.drew) | (with_reducible apply Blk.drewN) | (with_reducible apply Blk.set) | (with_reducible apply Blk.other) | (exact Blk.new' _ _ _ (by first | rfl | (simp; done) | (simp; omega))) | (with_reducible apply Blk.alloc) | (with_reducible rfl) | (simp; done) | (simp; omega) | omega | rfl))
    clear hW
    refine (none_blk (H.out.fr0 f0).blk).mono ?_
    rintro e w1 ⟨rfl, k1⟩
    have F1 := f0.trans k1 (fun _ _ h => h)
    have h1 := HP0.out.fr0 F1
    have bR1 := bR.fr k1 (fun h => h)
    have b0 := h1.blk.cell 0
    obtain ⟨d0, d1, d2⟩ := h1.row.at3 hk
    simp at b0 d0
    go_wp2_with fail
    refine (HR.out _ (H.out.fr0 F1)).mono ?_
    rintro e w2 ⟨rfl, v', h2, hv2, f2⟩
    have bR2 := bR1.fr f2 (fun e => by have := H.out.lt _ e; omega)
    obtain ⟨r0, r1, r2, q0, q1, q2⟩ := bR2.c3
    go_wp2_with fail
    generalize hW : World.setCell (World.setCell _ _ _) _ _ = W9
    have b3 : Blk W9 w.heap.size #[.int .u64 (remX L x.f0).f0, .int .u64 (remX L x.f0).f1, .int .i64 (remX L x.f0).f2] 24 := by subst hW; exact bR2.set3 _ _ _
    have f9 : Fr (fun i => i = w.heap.size) w2 W9 := by subst hW; (repeat' (first | (with_reducible exact Fr.refl _ _) | (with_reducible assumption) | (with_reducible refine Fr.alloc ?_ _) | (with_reducible refine Fr.drew ?_) | (with_reducible refine Fr.drewN ?_ _) | (with_reducible refine Fr.setCell ?_ _ _ ?_) | (exact Or.inr rfl) | (left; simp; done) | (left; simp; omega) | (simp; done) | (simp; omega) | omega))
    refine bodyPost_ret (results_ct rfl _ _ _ 24 _ (0, 0) _ rfl b3 Try.underlying24 rfl (by kernel_rfl)) rfl ?_
    have F2 := (F1.mono (T := Ft b m v) (fun _ _ h => h.elim)).trans f2 (fun _ _ h => h)
    refine ⟨rfl, v', h2.fr f9 (fun i hi e => ?_), fun i e => ?_, F2.trans f9 (fun i hi e => by omega)⟩
    · subst e
      rcases hi with e | e | e
      · have := H.out.blk.lt; omega
      · have := H.out.map.lt; omega
      · rcases hv2 _ e with e | e
        · have := (H.out.row.lt _ e).2; omega
        · have := bR1.lt; omega
    · rcases hv2 i e with e | e
      · exact .inl e
      · exact .inr (Nat.le_trans F1.size e)
end Go.Proofs.Ytkcfhdnlmdndeaa
