/- Comparing small numbers. -/
import Derived.Test.YtapagoaoglmegaaEdRow
import Derived.WalkLawsBesides
namespace Go.Proofs.Ytapagoaoglmegaa
open Go.RowKit Go.Proofs.YtapagoaoglmegaaW.PrintWords Go.Proofs.YtapagoaoglmegaaW.PrintLast Go.Proofs.YtapagoaoglmegaaW.PrintMore PCl
open Go.Sort (Holds putRow grow)
set_option linter.unusedVariables false
set_option linter.unusedSimpArgs false
set_option maxRecDepth 100000
def ordI : Ordering → Int
  | .lt => -1
  | .eq => 0
  | .gt => 1
theorem nan_at {x : Nat} (hx : FloatKind.f64.format.order x x = some .eq) (W : World) : Calls Try.prog 106 #[.float .f64 x] W fun e w' => e = .returned (.bool false) ∧ W = w' := by
  go_enter Try.func106, Try.ntmps106
  go_wp2
  go_ret
  exact ⟨rfl, rfl⟩
theorem fcmp_at {x y : Nat} {o : Ordering} (hx : FloatKind.f64.format.order x x = some .eq) (hy : FloatKind.f64.format.order y y = some .eq) (h : FloatKind.f64.format.order x y = some o) (W : World) :
    Calls Try.prog 77 #[.float .f64 x, .float .f64 y] W fun e w' => e = .returned (.int .i64 (ordI o)) ∧ W = w' := by
  have HX := hidE hx
  have HY := hidE hy
  clear hx hy
  cases o
  all_goals
    go_enter Try.func77, Try.ntmps77
    go_wp2_with fail
    refine (nan_at HX.out _).mono ?_
    rintro e w1 ⟨rfl, rfl⟩
    go_wp2_with fail
    refine (nan_at HY.out _).mono ?_
    rintro e w1 ⟨rfl, rfl⟩
    go_wp2
    go_ret
    exact ⟨rfl, rfl⟩
theorem or_at (a b : Int) (W : World) : Calls Try.prog 76 #[.slice (some ⟨W.heap.size, 0, none⟩) 2 2] (W.alloc (.cells #[.int .i64 a, .int .i64 b] 3)) fun e w' => e = .returned (.int .i64 (if a = 0 then b else a)) ∧ w' = W.alloc (.cells #[.int .i64 a, .int .i64 b] 3) := by
  by_cases ha : a = 0
  · by_cases hb : b = 0
    · rw [if_pos ha]
      subst ha hb
      go_enter Try.func76, Try.ntmps76
      go_wp2
      refine wp_loop_rounds 3 ?_
      repeat any_goals (rw [rounds_succ]; go_wp2)
      all_goals go_ret
      all_goals exact ⟨rfl, rfl⟩
    · rw [if_pos ha]
      subst ha
      have t1 : (b != 0) = true := by simp [hb]
      have t2 : (b == 0) = false := by simp [hb]
      clear hb
      go_enter Try.func76, Try.ntmps76
      go_wp2
      refine wp_loop_rounds 3 ?_
      repeat any_goals (rw [rounds_succ]; go_wp2)
      all_goals go_ret
      all_goals exact ⟨rfl, rfl⟩
  · rw [if_neg ha]
    have t1 : (a != 0) = true := by simp [ha]
    have t2 : (a == 0) = false := by simp [ha]
    clear ha
    go_enter Try.func76, Try.ntmps76
    go_wp2
    refine wp_loop_rounds 3 ?_
    repeat any_goals (rw [rounds_succ]; go_wp2)
    all_goals go_ret
    all_goals exact ⟨rfl, rfl⟩
/-- An end as a value: its rank, and 1 or -1. -/
@[reducible] def imE (b : Bool) : Nat := if b then oneE else moneE
def encE (e : Fin 64 × Bool) : Value := .complex .f64 (flE (e.1.val : Int)) (imE e.2)
def toN (e : Fin 64 × Bool) : Nat × Bool := (e.1.val, e.2)
def imO (b a : Bool) : Ordering := if b = a then .eq else if b = true then .gt else .lt
theorem im_ord (b a : Bool) : FloatKind.f64.format.order (imE b) (imE a) = some (imO b a) := by
  have h := sgn_tab
  simp only [Bool.and_eq_true, beq_iff_eq] at h
  obtain ⟨⟨⟨h1, h2⟩, h3⟩, h4⟩ := h
  cases b <;> cases a
  · exact h2
  · exact h4
  · exact h3
  · exact h1
def cfE (a b : Fin 64 × Bool) : Int := if ordI (compare a.1.val b.1.val) = 0 then ordI (imO b.2 a.2) else ordI (compare a.1.val b.1.val)
theorem cfE_at (a b : Fin 64 × Bool) (W : World) : Calls Try.prog 75 #[encE a, encE b] W fun e w' => e = .returned (.int .i64 (cfE a b)) ∧ ∃ o, w' = W.alloc o := by
  have hr : FloatKind.f64.format.order (flE (a.1.val : Int)) (flE (b.1.val : Int)) = some (compare a.1.val b.1.val) := fl_ord a.1.isLt b.1.isLt
  have hra : FloatKind.f64.format.order (flE (a.1.val : Int)) (flE (a.1.val : Int)) = some .eq := by rw [fl_ord a.1.isLt a.1.isLt]; simp
  have hrb : FloatKind.f64.format.order (flE (b.1.val : Int)) (flE (b.1.val : Int)) = some .eq := by rw [fl_ord b.1.isLt b.1.isLt]; simp
  have hia : FloatKind.f64.format.order (imE a.2) (imE a.2) = some .eq := by rw [im_ord]; simp [imO]
  have hib : FloatKind.f64.format.order (imE b.2) (imE b.2) = some .eq := by rw [im_ord]; simp [imO]
  have hi := im_ord b.2 a.2
  unfold encE cfE
  generalize compare a.1.val b.1.val = o1 at *
  generalize imO b.2 a.2 = o2 at *
  generalize flE (a.1.val : Int) = ra at *
  generalize flE (b.1.val : Int) = rb at *
  generalize imE a.2 = ia at *
  generalize imE b.2 = ib at *
  have C1 := hidE (fcmp_at hra hrb hr)
  have C2 := hidE (fcmp_at hib hia hi)
  have c3 := or_at (ordI o1) (ordI o2)
  generalize (if ordI o1 = 0 then ordI o2 else ordI o1) = r at *
  have C3 := hidE c3
  clear c3
  clear hr hra hrb hia hib hi
  go_enter Try.func75, Try.ntmps75
  go_wp2_with fail
  refine (C1.out _).mono ?_
  rintro e w1 ⟨rfl, rfl⟩
  go_wp2_with fail
  refine (C2.out _).mono ?_
  rintro e w1 ⟨rfl, rfl⟩
  go_wp2_with fail
  refine (C3.out _).mono ?_
  rintro e w1 ⟨rfl, rfl⟩
  go_wp2
  go_ret
  exact ⟨rfl, _, rfl⟩
theorem cfE_lt (a b : Fin 64 × Bool) : (Go.Proofs.ltOf cfE a b) = !leE (toN b) (toN a) := by
  obtain ⟨⟨x, hx⟩, p⟩ := a
  obtain ⟨⟨y, hy⟩, q⟩ := b
  have h : cfE (⟨x, hx⟩, p) (⟨y, hy⟩, q) = if ordI (compare x y) = 0 then ordI (imO q p) else ordI (compare x y) := rfl
  unfold ltOf
  rw [h]
  have h2 : leE (toN (⟨y, hy⟩, q)) (toN (⟨x, hx⟩, p)) = (decide (y < x) || (decide (y = x) && (q || !p))) := rfl
  rw [h2]
  rcases Nat.lt_trichotomy x y with c | c | c
  · have e : compare x y = .lt := Nat.compare_eq_lt.2 c
    rw [e]
    have a1 : ¬ y < x := by omega
    have a2 : ¬ y = x := by omega
    simp [ordI, a1, a2]
  · have e : compare x y = .eq := Nat.compare_eq_eq.2 c
    rw [e]
    subst c
    cases p <;> cases q <;> simp [ordI, imO]
  · have e : compare x y = .gt := Nat.compare_eq_gt.2 c
    rw [e]
    simp [ordI, c]
theorem swoE : Go.Sort.SWO (Go.Proofs.ltOf cfE) where
  irrefl x := by
    rw [cfE_lt]
    have := leE_total (toN x) (toN x)
    simp at this
    simp [this]
  trans x y z h1 h2 := by
    rw [cfE_lt] at *
    have t1 := leE_total (toN y) (toN x)
    have t2 := leE_total (toN z) (toN y)
    simp at h1 h2 t1 t2 ⊢
    cases hz : leE (toN z) (toN x) with
    | false => rfl
    | true =>
      have a1 : leE (toN x) (toN y) = true := by simpa [h1] using t1
      have a2 := leE_trans _ _ _ hz a1
      rw [h2] at a2; cases a2
  ntrans x y z h1 h2 := by
    rw [cfE_lt] at *
    simp at h1 h2 ⊢
    exact leE_trans _ _ _ h2 h1
theorem sortF_at {w : World} {g cap : Nat} {l : List (Fin 64 × Bool)} (h : CsE encE w g l) (hs : l.length < 4611686018427387904) :
    Calls Try.prog 74 #[.slice (some ⟨g, 0, none⟩) l.length cap, .func (.func 75) #[] #[]] w fun e w' => e = .returned (.tuple #[]) ∧ ∃ l' : List (Fin 64 × Bool), l'.length = l.length ∧ l'.map toN = (l.map toN).mergeSort (fun a b => leE a b) ∧ CsE encE w' g l' ∧ Fr (fun i => i = g) w w' := by
  have hcmp : Go.Proofs.CmpLays1 Try.prog 75 #[] encE cfE g 0 l.toArray.size w := fun m os dk hd x y =>
    (cfE_at x y _).mono fun e w' ⟨h1, o, h2⟩ => ⟨h1, 0, #[o], by rw [h2]; rfl⟩
  have hT : ∀ x y, (Go.Proofs.ltOf cfE) x y = false → (Go.Proofs.ltOf cfE) y x = false → x = y := fun x y h1 h2 => by
    rw [cfE_lt] at h1 h2
    simp at h1 h2
    rw [leE_iff] at h1 h2
    obtain ⟨⟨x, hx⟩, p⟩ := x
    obtain ⟨⟨y, hy⟩, q⟩ := y
    simp [toN] at h1 h2
    have : x = y := by omega
    subst this
    simp at h1 h2
    cases p <;> cases q <;> simp_all
  refine Calls.mono (Any.slices_SortFunc_total Ytapagoaoglmegaa.srf encE (fun _ => rfl) cfE swoE 75 #[] g 0 cap l.toArray w (enters_of Try.func75 (by kernel_rfl) rfl) hcmp h.1 h.2 (by simpa using hs) hT) ?_
  rintro e w' ⟨rfl, n, os, rfl⟩
  obtain ⟨h1, h2⟩ := cs_put (n := n) (os := os) h (m := l.toArray.toList.mergeSort fun x y => !(Go.Proofs.ltOf cfE) y x) (by rw [List.length_mergeSort])
  refine ⟨rfl, _, by rw [List.length_mergeSort], ?_, h1, h2⟩
  rw [List.map_mergeSort (s := fun a b => leE a b)]
  intro a _ b _
  rw [cfE_lt]; simp
theorem sortF_no (A : Option Addr) (cap : Nat) (w : World) : Calls Try.prog 74 #[.slice A 0 cap, .func (.func 75) #[] #[]] w fun e w' => e = .returned (.tuple #[]) ∧ w = w' := by
  refine Calls.mono (AnyF.slices_SortFunc_none { Ytapagoaoglmegaa.srf with } A cap _ w) ?_
  rintro e w' ⟨rfl, rfl⟩
  exact ⟨rfl, rfl⟩
end Go.Proofs.Ytapagoaoglmegaa
