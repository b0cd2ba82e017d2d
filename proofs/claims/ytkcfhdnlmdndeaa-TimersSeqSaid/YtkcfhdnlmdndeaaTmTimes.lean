/- TimersTimes: what was missed is counted. -/
import Derived.Test.YtkcfhdnlmdndeaaTmAlive
import Derived.Test.YtkcfhdnlmdndeaaOpen
namespace Go.Proofs.Ytkcfhdnlmdndeaa
open Go.RowKit Go.Proofs.YtkcfhdnlmdndeaaW.PrintWords Go.Proofs.YtkcfhdnlmdndeaaW.PrintLast Go.Proofs.YtkcfhdnlmdndeaaW.PrintMore PHp
set_option linter.unusedVariables false
set_option linter.unusedSimpArgs false
set_option maxRecDepth 100000
/-- One timer, of kind k. -/
def sing (k : Bool) (a : Int) : Bool → List It := upd (fun _ => []) k [⟨1, 1, a⟩]
section
variable {w : World} {x : Nat} {b : Bool → Nat} {F : Nat → Prop} {E : Bool → Int} {id seq : Int}
theorem fireS_no {k : Bool} {a mono wall : Int} (h : TS w x b F (sing k a) E id seq) (nw : Bool → Int) (hn0 : nw false = min mono MT) (hn1 : nw true = min wall MT) (hk : nw k < a) :
    Calls Try.prog 35 #[.pointer (some ⟨x, 0, none⟩), .int .i64 mono, .int .i64 wall] w fun r w' => ∃ A cap, r = .returned (.slice A 0 cap) ∧
      (∃ F', TS w' x b F' (sing k a) E id seq ∧ ∀ i, F' i → F i ∨ w.heap.size ≤ i) ∧ Fr F w w' := by
  have hnil : ∀ j y, y ∈ (fun _ : Bool => ([] : List It)) j → False := fun j y hy => by cases hy
  refine (fire_at h (fun _ => []) (sing k a) nw hn0 hn1 (fun j => List.Perm.refl _) (fun j => List.Pairwise.nil) (fun j y hy => (hnil j y hy).elim) (fun j z hz => ?_)).mono ?_
  · unfold sing at hz
    by_cases e : j = k
    · subst e; rw [upd_same] at hz
      have : z = ⟨1, 1, a⟩ := by simpa using hz
      rw [this]; exact hk
    · rw [upd_ne _ _ e] at hz; cases hz
  · rintro r w' ⟨A, n, cap, rfl, hn, _, _, _, ⟨F', ts, hF, _⟩, f⟩
    have hn : n = 0 := hn
    subst hn
    refine ⟨A, cap, rfl, ⟨F', ts.perm (fun j => ?_), hF⟩, f⟩
    unfold Nend; simp
theorem nxt_one {ev now a q : Int} (hev : 0 < ev) (hm : mss ev now ⟨1, 1, a⟩ = q) (h : a + q * ev ≤ 1000000) (h2 : ev ≤ 1000000) : nxt ev now ⟨1, 1, a⟩ = [⟨1, 1, a + (q + 1) * ev⟩] :=
  nxt_some hm (by omega) hev
theorem fireS_yes {k : Bool} {a ev now mono wall : Int} (h : TS w x b F (sing k a) E id seq) (nw : Bool → Int) (hn0 : nw false = min mono MT) (hn1 : nw true = min wall MT) (hk : nw k = now) (he : E k = ev) (hev : 0 < ev) (ha : a ≤ now) (hnow : now ≤ 1000000) (hev2 : ev ≤ 1000000) :
    Calls Try.prog 35 #[.pointer (some ⟨x, 0, none⟩), .int .i64 mono, .int .i64 wall] w fun r w' => ∃ g cap, r = .returned (.slice (some ⟨g, 0, none⟩) 1 cap) ∧ 1 ≤ cap ∧ g < w'.heap.size ∧ w'.cell? ⟨g, 0, none⟩ = some (.int .u64 1) ∧ w'.cell? ⟨g, 5, none⟩ = some (.int .i64 ((now - a) / ev)) ∧
      (∃ F', TS w' x b F' (sing k (a + ((now - a) / ev + 1) * ev)) E id seq ∧ (∀ i, F' i → F i ∨ w.heap.size ≤ i) ∧ w.heap.size ≤ g ∧ ¬ F' g) ∧ Fr F w w' := by
  have hm : mss (E k) now ⟨1, 1, a⟩ = (now - a) / ev := by rw [he]; exact mss_pos hev
  have hq : a + (now - a) / ev * ev ≤ 1000000 := by have := Int.ediv_mul_le (now - a) (b := ev) (by omega); omega
  have hx : nxt (E k) now ⟨1, 1, a⟩ = [⟨1, 1, a + ((now - a) / ev + 1) * ev⟩] := by rw [he] at hm ⊢; exact nxt_one hev hm hq hev2
  have hmem : ∀ j y, y ∈ sing k a j → j = k ∧ y = ⟨1, 1, a⟩ := fun j y hy => by
    unfold sing at hy
    by_cases e : j = k
    · subst e; rw [upd_same] at hy; exact ⟨rfl, by simpa using hy⟩
    · rw [upd_ne _ _ e] at hy; cases hy
  refine (fire_at h (sing k a) (fun _ => []) nw hn0 hn1 (fun j => by simp) (fun j => ?_) (fun j y hy => ?_) (fun j z hz => by cases hz)).mono ?_
  · unfold sing
    by_cases e : j = k
    · subst e; rw [upd_same]; exact List.pairwise_singleton _ _
    · rw [upd_ne _ _ e]; exact List.Pairwise.nil
  · obtain ⟨rfl, rfl⟩ := hmem j y hy
    rw [hk]; exact ha
  · rintro r w' ⟨A, n, cap, rfl, hn, hnc, _, hfd, ⟨F', ts, hF, hA⟩, f⟩
    have hn1 : n = 1 := by rw [hn]; unfold sing; cases k <;> rfl
    subst hn1
    have hfds : fds (sing k a) E nw false ++ fds (sing k a) E nw true = [fd k (E k) now ⟨1, 1, a⟩] := by
      subst hk
      unfold fds sing; cases k <;> rfl
    rw [hfds] at hfd
    obtain ⟨g, rfl, hg, u0, _, _, _, _, u5⟩ := hfd.at (i := 0) rfl
    have u0 : w'.cell? ⟨g, 0, none⟩ = some (.int .u64 1) := u0
    have u5 : w'.cell? ⟨g, 5, none⟩ = some (.int .i64 (mss (E k) now ⟨1, 1, a⟩)) := u5
    rw [hm] at u5
    refine ⟨g, cap, rfl, hnc, hg, u0, u5, ⟨F', ts.perm (fun j => ?_), hF, (hA g rfl).1, (hA g rfl).2⟩, f⟩
    unfold Nend sing
    by_cases e : j = k
    · subst e
      rw [upd_same, upd_same, hk]
      simp [hx]
    · rw [upd_ne _ _ e, upd_ne _ _ e]; simp
end
/-- How the count goes on. -/
theorem times_step {At ev c a now : Int} (hev : 1 ≤ ev) (hA : 0 ≤ At) (hc : 0 ≤ c) (ha : a = At + c * ev) (hn : a ≤ now) :
    c + (1 + (now - a) / ev) = 1 + (now - At) / ev ∧ At ≤ now ∧ a + ((now - a) / ev + 1) * ev = At + (c + (1 + (now - a) / ev)) * ev ∧ a + ((now - a) / ev + 1) * ev - ev ≤ now ∧ 0 ≤ (now - a) / ev ∧ (now - a) / ev ≤ now ∧ c + (1 + (now - a) / ev) ≤ 1 + now := by
  have hq0 : 0 ≤ (now - a) / ev := Int.ediv_nonneg (by omega) (by omega)
  have hq1 := Int.ediv_mul_le (now - a) (b := ev) (by omega)
  have hcc : 0 ≤ c * ev := Int.mul_nonneg hc (by omega)
  have hq3 : (now - a) / ev * 1 ≤ (now - a) / ev * ev := Int.mul_le_mul_of_nonneg_left hev hq0
  have hc3 : c * 1 ≤ c * ev := Int.mul_le_mul_of_nonneg_left hev hc
  have hs : (now - At) / ev = (now - a) / ev + c := by
    have : now - At = (now - a) + c * ev := by omega
    rw [this, Int.add_mul_ediv_right _ _ (by omega)]
  have hm : ((now - a) / ev + 1) * ev = (now - a) / ev * ev + ev := by rw [Int.add_mul, Int.one_mul]
  have hm2 : (c + (1 + (now - a) / ev)) * ev = c * ev + (ev + (now - a) / ev * ev) := by rw [Int.add_mul, Int.add_mul, Int.one_mul]
  refine ⟨by omega, by omega, by omega, by omega, hq0, by omega, by omega⟩
theorem times_stay {At ev c a now : Int} (hev : 1 ≤ ev) (hA : 0 ≤ At) (hc : 0 ≤ c) (ha : a = At + c * ev) (hn : now < a) (hb : c = 0 ∨ a - ev ≤ now) :
    (At ≤ now → c = 1 + (now - At) / ev) ∧ (¬ At ≤ now → c = 0) := by
  constructor
  · intro h
    rcases hb with h0 | h0
    · subst h0; simp at ha; omega
    · have h1 : (c - 1) * ev ≤ now - At := by rw [Int.sub_mul, Int.one_mul]; omega
      have h2 : now - At < c * ev := by omega
      have h3 : c - 1 ≤ (now - At) / ev := (Int.le_ediv_iff_mul_le (by omega)).2 h1
      have h4 : (now - At) / ev < c := (Int.ediv_lt_iff_lt_mul (by omega)).2 h2
      omega
  · intro h
    rcases hb with h0 | h0
    · exact h0
    · have : 0 ≤ (c - 1) ∨ c = 0 := by omega
      rcases this with h1 | h1
      · have : 0 ≤ (c - 1) * ev := Int.mul_nonneg h1 (by omega)
        rw [Int.sub_mul, Int.one_mul] at this
        omega
      · exact h1
end Go.Proofs.Ytkcfhdnlmdndeaa
