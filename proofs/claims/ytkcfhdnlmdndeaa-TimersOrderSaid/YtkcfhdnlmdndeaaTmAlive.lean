/- Timers: Next; that the rows wake. -/
import Derived.Test.YtkcfhdnlmdndeaaTmFire
namespace Go.Proofs.Ytkcfhdnlmdndeaa
open Go.RowKit Go.Proofs.YtkcfhdnlmdndeaaW.PrintWords Go.Proofs.YtkcfhdnlmdndeaaW.PrintLast Go.Proofs.YtkcfhdnlmdndeaaW.PrintMore PHp
set_option linter.unusedVariables false
set_option linter.unusedSimpArgs false
set_option maxRecDepth 100000
section
variable {w : World} {x : Nat} {b : Bool → Nat} {F : Nat → Prop} {M : Bool → List It} {E : Bool → Int} {id seq : Int}
theorem next_raw {c3 c4 : Value} {k : Bool} {i s ya : Int} {t : Bool} {tm : Nat} (hb : Blk w x #[.pointer (some ⟨b false, 0, none⟩), .pointer (some ⟨b true, 0, none⟩), .map (some tm), c3, c4] 104)
    (hm : Calls Try.prog 31 #[.pointer (some ⟨b k, 0, none⟩)] w fun e w' => e = .returned (.tuple #[vI ⟨i, s, ya⟩, .bool t]) ∧ Fr (fun _ => False) w w') :
    Calls Try.prog 56 #[.pointer (some ⟨x, 0, none⟩), .bool k] w fun r w' => r = .returned (.tuple #[.int .i64 ya, .bool t]) ∧ Fr (fun _ => False) w w' := by
  have HB := hid hb
  have HM := hid hm
  clear hb hm
  go_enter Try.func56, Try.ntmps56
  go_wp2_with fail
  refine (tnone_at HB.out).mono ?_
  rintro e w' ⟨rfl, rfl⟩
  go_wp2_with fail
  refine (of_at k HB.out).mono ?_
  rintro e w' ⟨rfl, rfl⟩
  go_wp2_with fail
  refine HM.out.mono ?_
  rintro e w1 ⟨rfl, k1⟩
  go_wp2
  go_ret2
  exact ⟨rfl, by (repeat' (first | (with_reducible exact Fr.refl _ _) | (with_reducible assumption) | (with_reducible refine Fr.alloc ?_ _) | (with_reducible refine Fr.drew ?_) | (with_reducible refine Fr.drewN ?_ _) | (with_reducible refine Fr.setCell ?_ _ _ ?_) | (exact Or.inr rfl) | (left; simp; done) | (left; simp; omega) | (simp; done) | (simp; omega) | omega))⟩
theorem next_one (h : TS w x b F M E id seq) (k : Bool) {y : It} {R : List It} (p : (M k).Perm (y :: R)) (hmin : ∀ z ∈ R, itLt y z) :
    Calls Try.prog 56 #[.pointer (some ⟨x, 0, none⟩), .bool k] w fun r w' => r = .returned (.tuple #[.int .i64 y.f2, .bool true]) ∧ Fr (fun _ => False) w w' := by
  obtain ⟨m, v, L, tm, n, T, hr, ti, hp, _, _, hF⟩ := h
  obtain ⟨h1, h2⟩ := first_is (hr.hp k).uniq (ti.ok k) ((hp k).trans p) hmin
  have hm := min_hp (hr.hp k)
  rw [h1, h2] at hm
  exact next_raw hr.blk (k := k) (i := y.f0) (s := y.f1) (ya := y.f2) hm
theorem next_none (h : TS w x b F M E id seq) (k : Bool) (p : M k = []) :
    Calls Try.prog 56 #[.pointer (some ⟨x, 0, none⟩), .bool k] w fun r w' => r = .returned (.tuple #[.int .i64 0, .bool false]) ∧ Fr (fun _ => False) w w' := by
  obtain ⟨m, v, L, tm, n, T, hr, ti, hp, _, _, hF⟩ := h
  have hL : L k = [] := by have := hp k; rw [p] at this; exact this.eq_nil
  have hm := min_hp (hr.hp k)
  rw [hL] at hm
  exact next_raw hr.blk (k := k) (i := 0) (s := 0) (ya := 0) hm
end
def EA : Bool → Int := upd (fun _ => 0) true 10
def DA : Bool → List It := fun k => bif k then [⟨2, 2, 100⟩] else [⟨3, 3, 3⟩, ⟨1, 1, 5⟩]
def NA : Bool → Int := fun k => bif k then 125 else 5
theorem fdA : fds DA EA NA false ++ fds DA EA NA true = [(3, false, 3, 0, 2, 0), (1, false, 5, 0, 0, 0), (2, true, 100, 10, 25, 2)] := by decide
theorem neA (k : Bool) : Nend DA (fun _ => []) EA NA k = bif k then [⟨2, 2, 130⟩] else [] := by cases k <;> rfl
theorem Fds.at {w : World} {A : Option Addr} {l : List Fd} (h : Fds w A l) {i : Nat} {f : Fd} (hi : l[i]? = some f) : ∃ g, A = some ⟨g, 0, none⟩ ∧ g < w.heap.size ∧
    w.cell? ⟨g, i * 6, none⟩ = some (.int .u64 f.1) ∧ w.cell? ⟨g, i * 6 + 1, none⟩ = some (.bool f.2.1) ∧ w.cell? ⟨g, i * 6 + 2, none⟩ = some (.int .i64 f.2.2.1) ∧ w.cell? ⟨g, i * 6 + 3, none⟩ = some (.int .i64 f.2.2.2.1) ∧ w.cell? ⟨g, i * 6 + 4, none⟩ = some (.int .i64 f.2.2.2.2.1) ∧ w.cell? ⟨g, i * 6 + 5, none⟩ = some (.int .i64 f.2.2.2.2.2) := by
  obtain ⟨g, e, hg, hc⟩ := h i f hi
  exact ⟨g, e, hg, hc 0 _ rfl, hc 1 _ rfl, hc 2 _ rfl, hc 3 _ rfl, hc 4 _ rfl, hc 5 _ rfl⟩
set_option maxHeartbeats 8000000 in
theorem alive_at (w : World) : Calls Try.prog 36 #[] w fun e w' => e = .returned (.bool true) ∧ Fr (fun _ => False) w w' := by
  go_enter Try.func36, Try.ntmps36
  go_wp2_with fail
  refine (tnew_at w).mono ?_
  rintro e w1 ⟨x, b, F1, rfl, ts1, f1, hF1⟩
  have ts1 := ts1.every (k := true) (e := 10) rfl (by unfold MT; omega)
  have TS1 := hid ts1
  have HF1 := hid hF1
  clear ts1 hF1
  go_wp2_with fail
  refine (add_at TS1.out false (a := 5) (e := 0) (by unfold MT; omega) rfl (by simp) (by omega) (by omega)).mono ?_
  rintro e w2 ⟨rfl, F2, ts2, f2, hF2⟩
  have FF2 := f1.trans f2 (fun i hi h => by have := HF1.out i h; omega)
  have HF2 : Hid (∀ i, F2 i → w.heap.size ≤ i) := hid (fun i hi => by
    have h1 := f1.size
    rcases hF2 i hi with h | h
    · exact HF1.out i h
    · omega)
  have TS2 := hid ts2
  clear ts2 TS1 hF2 f1 f2
  go_wp2_with fail
  refine (add_at TS2.out true (a := 100) (e := 10) (by unfold MT; omega) rfl (by simp [upd]) (by omega) (by omega)).mono ?_
  rintro e w3 ⟨rfl, F3, ts3, f3, hF3⟩
  have FF3 := FF2.trans f3 (fun i hi h => by have := HF2.out i h; omega)
  have HF3 : Hid (∀ i, F3 i → w.heap.size ≤ i) := hid (fun i hi => by
    have h1 := FF2.size
    rcases hF3 i hi with h | h
    · exact HF2.out i h
    · omega)
  have TS3 := hid ts3
  clear ts3 TS2 hF3 FF2 f3
  go_wp2_with fail
  refine (add_at TS3.out false (a := 3) (e := 0) (by unfold MT; omega) rfl (by simp [upd]) (by omega) (by omega)).mono ?_
  rintro e w4 ⟨rfl, F4, ts4, f4, hF4⟩
  have FF4 := FF3.trans f4 (fun i hi h => by have := HF3.out i h; omega)
  have HF4 : Hid (∀ i, F4 i → w.heap.size ≤ i) := hid (fun i hi => by
    have h1 := FF3.size
    rcases hF4 i hi with h | h
    · exact HF3.out i h
    · omega)
  have TS4 := hid ts4
  clear ts4 TS3 hF4 FF3 f4
  go_wp2_with fail
  refine (fire_at TS4.out DA (fun _ => []) NA (by decide) (by decide) (fun k => by cases k <;> simp [upd, DA]) (fun k => by cases k <;> decide) (fun k => by cases k <;> decide) (fun k z hz => by cases hz)).mono ?_
  rintro e w5 ⟨A, n, cap, rfl, hn, hnc, hcm, hfd, ⟨F5, ts5, hF5, hA⟩, f5⟩
  have hn : n = 3 := hn
  subst hn
  rw [show fds DA (upd (fun _ => 0) true 10) NA false ++ fds DA (upd (fun _ => 0) true 10) NA true = _ from fdA] at hfd
  obtain ⟨g, rfl, hg, u00, u01, u02, u03, u04, u05⟩ := hfd.at (i := 0) rfl
  have FF5 := FF4.trans f5 (fun i hi h => by have := HF4.out i h; omega)
  have HFD := hid hfd
  have TS5 := hid ts5
  clear hfd ts5 TS4 FF4 f5 u00 u01 u02 u03 u04 u05 hA hF5
  go_wp2_with fail
  refine (next_one TS5.out true (y := ⟨2, 2, 130⟩) (R := []) (by rw [show Nend DA (fun _ => []) (upd (fun _ => 0) true 10) NA true = _ from neA true]; exact List.Perm.refl _) (fun z hz => by cases hz)).mono ?_
  rintro e w6 ⟨rfl, f6⟩
  have TS6 := hid (TS5.out.fr0 f6)
  have FF6 := FF5.trans f6 (fun _ _ h => h)
  have HFD6 := hid (HFD.out.fr f6 (fun _ _ h => h))
  clear TS5 FF5 f6 HFD
  go_wp2_with fail
  refine (next_none TS6.out false (neA false)).mono ?_
  rintro e w7 ⟨rfl, f7⟩
  have TS7 := hid (TS6.out.fr0 f7)
  have FF7 := FF6.trans f7 (fun _ _ h => h)
  have hfd := HFD6.out.fr f7 (fun _ _ h => h)
  clear TS6 FF6 f7 HFD6
  obtain ⟨g0, e0, hg0, u00, u01, u02, u03, u04, u05⟩ := hfd.at (i := 0) rfl
  obtain ⟨g1, e1, hg1, u10, u11, u12, u13, u14, u15⟩ := hfd.at (i := 1) rfl
  obtain ⟨g2, e2, hg2, u20, u21, u22, u23, u24, u25⟩ := hfd.at (i := 2) rfl
  injection e0 with e0; injection e0 with e0; subst e0
  injection e1 with e1; injection e1 with e1; subst e1
  injection e2 with e2; injection e2 with e2; subst e2
  simp at u00 u04 u10 u14 u20 u24 u25
  clear hfd u01 u02 u03 u05 u11 u12 u13 u15 u21 u22 u23 hg1 hg2 hg hcm hn
  go_wp2_with fail
  refine (cancel_no TS7.out (i := 1) (by decide) (fun k y hy => ?_)).mono ?_
  · rw [show Nend DA (fun _ => []) (upd (fun _ => 0) true 10) NA k = _ from neA k] at hy
    cases k <;> simp at hy
    subst hy; decide
  · rintro e w8 ⟨rfl, f8⟩
    go_wp2
    go_ret
    exact ⟨rfl, FF7.trans f8 (fun _ _ h => h)⟩
end Go.Proofs.Ytkcfhdnlmdndeaa
