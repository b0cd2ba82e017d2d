/- The hull of spans. -/
import Derived.Test.YtapagoaoglmegaaEdEnds
import Derived.WalkLawsBesides
namespace Go.Proofs.Ytapagoaoglmegaa
open Go.RowKit Go.Proofs.YtapagoaoglmegaaW.PrintWords Go.Proofs.YtapagoaoglmegaaW.PrintLast Go.Proofs.YtapagoaoglmegaaW.PrintMore PCl
set_option linter.unusedVariables false
set_option linter.unusedSimpArgs false
set_option maxRecDepth 100000
theorem cmp_gt {a b : Int} (h : b < a) : (some (compare a b) == some Ordering.gt) = true ∧ (some (compare a b) == some Ordering.lt || some (compare a b) == some Ordering.eq) = false := by
  have e : compare a b = .gt := Int.compare_eq_gt.2 h
  rw [e]; exact ⟨rfl, rfl⟩
theorem cmp_ngt {a b : Int} (h : ¬ b < a) : (some (compare a b) == some Ordering.gt) = false ∧ (some (compare a b) == some Ordering.lt || some (compare a b) == some Ordering.eq) = true := by
  rcases Int.lt_trichotomy a b with c | c | c
  · have e : compare a b = .lt := Int.compare_eq_lt.2 c
    rw [e]; exact ⟨rfl, rfl⟩
  · have e : compare a b = .eq := Int.compare_eq_eq.2 c
    rw [e]; exact ⟨rfl, rfl⟩
  · exact absurd c h
theorem pre_bd {E : List (Nat × Bool)} : ∀ i : Nat, -(i : Int) ≤ preE E i ∧ preE E i ≤ i
  | 0 => by rw [preE_zero]; omega
  | i + 1 => by
    have := pre_bd (E := E) i
    cases h : E[i]? with
    | none =>
      have e : preE E (i + 1) = preE E i := by unfold preE; rw [List.take_add_one, h]; simp
      omega
    | some e =>
      have h2 := preE_succ h
      unfold sgE at h2
      split at h2 <;> omega
set_option maxHeartbeats 16000000 in
theorem hull_main {w : World} {A : Option Addr} {cap : Nat} {L : List S24} (hC : Kd.C k24 w A L.length L) (hc : L.length ≤ cap) (ho : okE L = true) :
    Calls Try.prog 39 #[.slice A L.length cap] w fun e w' => e = .returned (.tuple #[.int .i64 (hullZ L).1, .int .i64 (hullZ L).2.1, .int .i64 (hullZ L).2.2]) ∧ Fr (fun _ => False) w w' := by
  have hn : L.length ≤ 16 := by unfold okE at ho; simp at ho; exact ho.1
  have hb : (L.any fun s => !mayE s) = false := by
    unfold okE at ho
    rw [Bool.and_eq_true] at ho
    rw [List.any_eq_false]
    intro s hs
    have := List.all_eq_true.1 ho.2 s hs
    simp [this]
  have B1 := bad_any hC hc
  rw [hb] at B1
  obtain ⟨p1, p2, p3⟩ := pos_ok L
  have hsw := hull_of_sweep p1 p2 (fun s hs => (ok_lohi ho s hs).2.1) (end_perm L) (end_sorted L)
  have hPl := hidE (fun (W : World) (k : Fr (fun _ => False) w W) => places_at (Kd.C_below hC k.below) hc (by omega))
  have hEn := hidE (fun (W : World) (k : Fr (fun _ => False) w W) => ends_at (Kd.C_below hC k.below) hc (by omega))
  have hlen := end_len L
  have hmem : Hid (∀ (i : Nat) e, (endE L)[i]? = some e → e.1 < 64) := hidE (fun i e he => by
    have h1 := (end_perm L).mem_iff.1 (List.mem_of_getElem? he)
    obtain ⟨s, hs, h2⟩ := un_mem (r := e.1) (b := e.2) h1
    have := rk_len (posE L) (if e.2 = true then s.f1 else s.f2)
    omega)
  have hH := hullZ_no ho
  have hH2 := fun lo hi => hullZ_is (lo := lo) (hi := hi) ho
  obtain ⟨Hz, hHz⟩ : ∃ Hz, Hz = hullZ L := ⟨_, rfl⟩
  rw [← hHz] at hH hH2 ⊢
  obtain ⟨E, hE⟩ : ∃ E, E = endE L := ⟨_, rfl⟩
  obtain ⟨P, hP⟩ : ∃ P, P = posE L := ⟨_, rfl⟩
  rw [← hE] at hsw hEn hlen hmem
  rw [← hP] at hsw hPl p3
  have HSW := hidE hsw
  have HB := hidE B1
  have HH := hidE hH
  have HH2 := hidE hH2
  have HLN := hidE hlen
  have hf1 := hf_is (n := L.length) (by omega)
  have hfo := hidE (fun (z : Int) (h1 : -40 ≤ z) (h2 : z ≤ 40) => hf_ord (n := L.length) h1 h2 (by omega))
  obtain ⟨hh, hhh⟩ : ∃ hh, hh = hfE L.length := ⟨_, rfl⟩
  rw [← hhh] at hf1 hfo
  have hq : ∀ W, (binOp .quo 75 (.float .f64 (floatOfInt .f64 (L.length : Int))) (.float .f64 4611686018427387904)).run Try.prog W = .ok (.float .f64 hh) W := fun W => run_float_arith W .quo _ .f64 _ _ _ hf1
  have hgt : (L.length : Int) ≤ 16 := by omega
  have tgt : decide ((L.length : Int) > 16) = false := decide_eq_false (by omega)
  clear hC ho hb B1 p1 p2 hsw hHz hE hP hH hH2 hhh hf1 hlen
  go_enter Try.func39, Try.ntmps39
  go_wp2_with fail
  refine HB.out.mono ?_
  rintro e w1 ⟨rfl, k1⟩
  go_wp2_with fail
  refine (hPl.out _ k1).mono ?_
  rintro e w2 ⟨vp, rfl, hp2, k2⟩
  have f2 := k1.trans k2 (fun _ _ h => h)
  have HP2 := hidE hp2
  clear k1 k2 hp2
  go_wp2_with fail
  refine (hEn.out _ f2).mono ?_
  rintro e w3 ⟨ve, rfl, he3, k3⟩
  have f3 := f2.trans k3 (fun _ _ h => h)
  have HP3 := hidE (HP2.out.fr k3)
  clear k3 HP2 f2 hPl hEn HB hq
  obtain ⟨A3, c3, hve⟩ : ∃ A3 c3, ve = .slice A3 E.length c3 := by
    rcases he3 with ⟨h1, h2⟩ | ⟨g, c, l, h1, _⟩
    · exact ⟨none, 0, by rw [h1, h2]; rfl⟩
    · exact ⟨_, c, h1⟩
  subst hve
  have HE3 := hidE he3
  have hEl : E.length ≤ 32 := by have := HLN.out; omega
  clear he3
  go_wp2_with fail
  go_loopw [7, 8, 9, 30] (fun v7 v8 v9 v30 wr => ∃ (i re : Nat), i ≤ E.length ∧ re ≤ 9218868437227405312 ∧ v30 = .int .i64 (i : Int) ∧ v7 = .complex .f64 re (flE (swE L.length E i).1) ∧ v8 = .int .i64 (swE L.length E i).2.1 ∧ v9 = .int .i64 (swE L.length E i).2.2 ∧ Fr (fun _ => False) w3 wr) (fun _ _ _ v30 _ => E.length - (intOf v30).toNat)
  case atStart => exact ⟨0, 0, Nat.zero_le _, Nat.zero_le _, rfl, by rw [swE_zero]; simp only; rw [fl_zero], by rw [swE_zero], by rw [swE_zero], Fr.refl _ _⟩
  case round =>
    obtain ⟨i, re, hi, hre, rfl, rfl, rfl, rfl, hf⟩ := hrel
    have hpb := pre_bd (E := E) i
    have hsm := (swE_inv (n := (L.length : Int)) (by omega) E i hi).sum
    by_cases hlt : i < E.length
    · obtain ⟨g, c, l, hv, hg, hm, hcs⟩ : ∃ g c l, A3 = some ⟨g, 0, none⟩ ∧ (w3.heap.size ≤ g ∨ True) ∧ l.map toN = E ∧ CsE encE w3 g l := by
        rcases HE3.out with ⟨h1, h2⟩ | ⟨g, c, l, h1, _, h2, h3⟩
        · rw [h2] at hlt; simp at hlt
        · injection h1 with h1; exact ⟨g, c, l, h1, .inr trivial, h2, h3⟩
      subst hv
      obtain ⟨x, hx⟩ : ∃ x, l[i]? = some x := ⟨l[i]'(by rw [← hm] at hlt; simpa using hlt), List.getElem?_eq_getElem _⟩
      have hEx : E[i]? = some (toN x) := by rw [← hm, List.getElem?_map, hx]; rfl
      have hcell := (hf.cell (a := ⟨g, i, none⟩) hcs.2 (fun h => h)).trans (hcs.cell hx)
      have hst := swE_succ (n := (L.length : Int)) hEx
      have hx64 := hmem.out i _ hEx
      obtain ⟨S, hS⟩ : ∃ S, S = (swE L.length E i).1 := ⟨_, rfl⟩
      obtain ⟨F, hF⟩ : ∃ F, F = (swE L.length E i).2.1 := ⟨_, rfl⟩
      obtain ⟨B, hB⟩ : ∃ B, B = (swE L.length E i).2.2 := ⟨_, rfl⟩
      have hSFB : swE L.length E i = (S, F, B) := by rw [hS, hF, hB]
      rw [← hS, ← hF, ← hB]
      rw [hSFB] at hst hsm
      simp only at hsm
      obtain ⟨r, b⟩ := x
      obtain ⟨S', hS'⟩ : ∃ S', S' = S + sgE (toN (r, b)) := ⟨_, rfl⟩
      have hsg : sgE (toN (r, b)) = if b = true then 1 else -1 := rfl
      have hSb : -32 ≤ S ∧ S ≤ 32 := by omega
      have hSb' : -33 ≤ S' ∧ S' ≤ 33 := by rw [hS', hsg]; split <;> omega
      have oA := hfo.out S (by omega) (by omega)
      have oB := hfo.out S' (by omega) (by omega)
      obtain ⟨re', hre1, hre2⟩ := re_add hre (fl_low r.isLt)
      have him : floatBits .add .f64 (flE S) (imE b) = some (flE S') := by
        rw [hS', hsg]
        cases b
        · exact (im_add (by omega) (by omega)).2
        · exact (im_add (by omega) (by omega)).1
      have hadd : ∀ W, (binOp .add 74 (.complex .f64 re (flE S)) (.complex .f64 (flE (r.val : Int)) (imE b))).run Try.prog W = .ok (.complex .f64 re' (flE S')) W := fun W => run_complex_sum W .add (.inl rfl) _ .f64 _ _ _ _ _ _ (by unfold cSumBits; rw [hre1, him]; rfl)
      have hcv : ∀ W, (convert 75 3 (.float .f64 (flE (r.val : Int)))).run Try.prog W = .ok (.int .i64 (r.val : Int)) W := fun W => run_convert_float_int W _ _ .f64 .i64 _ _ (by rw [Try.underlying75]; rfl) Try.underlying3 (fl_int r.isLt)
      unfold encE at hcell
      have hST : swE L.length E (i + 1) = if (L.length : Int) < 2 * S' ∧ F < 0 then (S', (r.val : Int), B) else if (L.length : Int) < 2 * S ∧ ¬ (L.length : Int) < 2 * S' then (S', F, (r.val : Int)) else (S', F, B) := by rw [hst, hS']; rfl
      have HST := hidE hST
      have tA : (FloatKind.f64.format.order (flE S) hh == some Ordering.gt) = decide ((L.length : Int) < 2 * S) := by
        rw [oA]
        by_cases c : (L.length : Int) < 2 * S
        · rw [(cmp_gt c).1, decide_eq_true c]
        · rw [(cmp_ngt c).1, decide_eq_false c]
      have tB : (FloatKind.f64.format.order (flE S') hh == some Ordering.gt) = decide ((L.length : Int) < 2 * S') := by
        rw [oB]
        by_cases c : (L.length : Int) < 2 * S'
        · rw [(cmp_gt c).1, decide_eq_true c]
        · rw [(cmp_ngt c).1, decide_eq_false c]
      have tC : (FloatKind.f64.format.order (flE S') hh == some Ordering.lt || FloatKind.f64.format.order (flE S') hh == some Ordering.eq) = !decide ((L.length : Int) < 2 * S') := by
        rw [oB]
        by_cases c : (L.length : Int) < 2 * S'
        · rw [(cmp_gt c).2, decide_eq_true c]; rfl
        · rw [(cmp_ngt c).2, decide_eq_false c]; rfl
      have li : (i : Int) < (E.length : Int) := by omega
      obtain ⟨IA, hIA⟩ : ∃ IA, IA = flE S := ⟨_, rfl⟩
      obtain ⟨IB, hIB⟩ : ∃ IB, IB = flE S' := ⟨_, rfl⟩
      rw [← hIA] at hadd tA ⊢
      rw [← hIB] at hadd tB tC
      have HIB := hidE hIB
      generalize flE (r.val : Int) = FR at *
      generalize imE b = IM at *
      have hri : (0 : Int) ≤ (r.val : Int) := by omega
      generalize (r.val : Int) = R at *
      clear hst him hre1 hEx hx hm hcs hsm hpb hx64 hS' hS hF hB hSFB oA oB hST hIA hIB hsg hSb hSb'
      by_cases cA : (L.length : Int) < 2 * S
      · by_cases cB : (L.length : Int) < 2 * S'
        · by_cases cF : F < 0
          · have HN := hidE (HST.out.trans (if_pos ⟨cB, cF⟩))
            rw [decide_eq_true cA] at tA
            rw [decide_eq_true cB] at tB tC
            have tF : decide (F < 0) = true := decide_eq_true cF
            simp only [Bool.not_true, Bool.not_false] at tC
            clear cA cB cF HST
            go_wp2
            go_roundw
            case rel => exact ⟨i + 1, re', by omega, hre2, by go_num, by rw [HN.out, HIB.out], by rw [HN.out], by rw [HN.out], hf⟩
            case measure => simp [intOf]; omega
          · have HN := hidE ((HST.out.trans (if_neg (fun h => cF h.2))).trans (if_neg (fun h => h.2 cB)))
            rw [decide_eq_true cA] at tA
            rw [decide_eq_true cB] at tB tC
            have tF : decide (F < 0) = false := decide_eq_false cF
            simp only [Bool.not_true, Bool.not_false] at tC
            clear cA cB cF HST
            go_wp2
            go_roundw
            case rel => exact ⟨i + 1, re', by omega, hre2, by go_num, by rw [HN.out, HIB.out], by rw [HN.out], by rw [HN.out], hf⟩
            case measure => simp [intOf]; omega
        · by_cases cF : F < 0
          · have HN := hidE ((HST.out.trans (if_neg (fun h => cB h.1))).trans (if_pos ⟨cA, cB⟩))
            rw [decide_eq_true cA] at tA
            rw [decide_eq_false cB] at tB tC
            have tF : decide (F < 0) = true := decide_eq_true cF
            simp only [Bool.not_true, Bool.not_false] at tC
            clear cA cB cF HST
            go_wp2
            go_roundw
            case rel => exact ⟨i + 1, re', by omega, hre2, by go_num, by rw [HN.out, HIB.out], by rw [HN.out], by rw [HN.out], hf⟩
            case measure => simp [intOf]; omega
          · have HN := hidE ((HST.out.trans (if_neg (fun h => cB h.1))).trans (if_pos ⟨cA, cB⟩))
            rw [decide_eq_true cA] at tA
            rw [decide_eq_false cB] at tB tC
            have tF : decide (F < 0) = false := decide_eq_false cF
            simp only [Bool.not_true, Bool.not_false] at tC
            clear cA cB cF HST
            go_wp2
            go_roundw
            case rel => exact ⟨i + 1, re', by omega, hre2, by go_num, by rw [HN.out, HIB.out], by rw [HN.out], by rw [HN.out], hf⟩
            case measure => simp [intOf]; omega
      · by_cases cB : (L.length : Int) < 2 * S'
        · by_cases cF : F < 0
          · have HN := hidE (HST.out.trans (if_pos ⟨cB, cF⟩))
            rw [decide_eq_false cA] at tA
            rw [decide_eq_true cB] at tB tC
            have tF : decide (F < 0) = true := decide_eq_true cF
            simp only [Bool.not_true, Bool.not_false] at tC
            clear cA cB cF HST
            go_wp2
            go_roundw
            case rel => exact ⟨i + 1, re', by omega, hre2, by go_num, by rw [HN.out, HIB.out], by rw [HN.out], by rw [HN.out], hf⟩
            case measure => simp [intOf]; omega
          · have HN := hidE ((HST.out.trans (if_neg (fun h => cF h.2))).trans (if_neg (fun h => cA h.1)))
            rw [decide_eq_false cA] at tA
            rw [decide_eq_true cB] at tB tC
            have tF : decide (F < 0) = false := decide_eq_false cF
            simp only [Bool.not_true, Bool.not_false] at tC
            clear cA cB cF HST
            go_wp2
            go_roundw
            case rel => exact ⟨i + 1, re', by omega, hre2, by go_num, by rw [HN.out, HIB.out], by rw [HN.out], by rw [HN.out], hf⟩
            case measure => simp [intOf]; omega
        · by_cases cF : F < 0
          · have HN := hidE ((HST.out.trans (if_neg (fun h => cB h.1))).trans (if_neg (fun h => cA h.1)))
            rw [decide_eq_false cA] at tA
            rw [decide_eq_false cB] at tB tC
            have tF : decide (F < 0) = true := decide_eq_true cF
            simp only [Bool.not_true, Bool.not_false] at tC
            clear cA cB cF HST
            go_wp2
            go_roundw
            case rel => exact ⟨i + 1, re', by omega, hre2, by go_num, by rw [HN.out, HIB.out], by rw [HN.out], by rw [HN.out], hf⟩
            case measure => simp [intOf]; omega
          · have HN := hidE ((HST.out.trans (if_neg (fun h => cB h.1))).trans (if_neg (fun h => cA h.1)))
            rw [decide_eq_false cA] at tA
            rw [decide_eq_false cB] at tB tC
            have tF : decide (F < 0) = false := decide_eq_false cF
            simp only [Bool.not_true, Bool.not_false] at tC
            clear cA cB cF HST
            go_wp2
            go_roundw
            case rel => exact ⟨i + 1, re', by omega, hre2, by go_num, by rw [HN.out, HIB.out], by rw [HN.out], by rw [HN.out], hf⟩
            case measure => simp [intOf]; omega
    · obtain rfl : i = E.length := by omega
      clear hlt
      rcases HSW.out with ⟨h1, h2⟩ | ⟨a, b, lo, hi, h1, h2, h3, h4, h5⟩
      · rw [h1]
        have hz := HH.out h2
        subst hz
        clear h1 h2 hsm hpb HSW HH HH2
        go_wp2
        go_returns
        exact ⟨rfl, f3.trans hf (fun _ _ h => h)⟩
      · rw [h1, h2]
        have hz := HH2.out lo hi h5
        subst hz
        obtain ⟨g, c, hv, hg, hcs⟩ : ∃ g c, vp = .slice (some ⟨g, 0, none⟩) P.length c ∧ w1.heap.size ≤ g ∧ CsE (Value.int .i64) w3 g P := by
          rcases HP3.out with ⟨_, e⟩ | ⟨g, c, e1, e2, e3⟩
          · rw [e] at h3; simp at h3
          · exact ⟨g, c, e1, e2, e3⟩
        subst hv
        have ca := (hf.cell (a := ⟨g, a, none⟩) hcs.2 (fun h => h)).trans (hcs.cell h3)
        have cb := (hf.cell (a := ⟨g, b, none⟩) hcs.2 (fun h => h)).trans (hcs.cell h4)
        have la := (List.getElem?_eq_some_iff.1 h3).1
        have lb := (List.getElem?_eq_some_iff.1 h4).1
        have la1 : (a : Int) < (P.length : Int) := by omega
        have lb1 : (b : Int) < (P.length : Int) := by omega
        have la0 : (0 : Int) ≤ (a : Int) := by omega
        have lb0 : (0 : Int) ≤ (b : Int) := by omega
        have ta : decide ((a : Int) < 0) = false := decide_eq_false (by omega)
        clear h1 h2 h3 h4 h5 hsm hpb HSW HH HH2 hcs
        go_wp2_with fail
        go_quiet (fail)
        go_wp2
        go_returns
        exact ⟨rfl, (f3.trans hf (fun _ _ h => h)).trans (by (repeat' (first | (with_reducible exact Fr.refl _ _) | (with_reducible assumption) | (with_reducible refine Fr.alloc ?_ _) | (with_reducible refine Fr.drew ?_) | (with_reducible refine Fr.drewN ?_ _) | (with_reducible refine Fr.setCell ?_ _ _ ?_) | (exact Or.inr rfl) | (left; simp; done) | (left; simp; omega) | (simp; done) | (simp; omega) | omega))) (fun _ _ h => h)⟩
/-- A row of spans that may not be. -/
theorem hull_bad {w : World} {A : Option Addr} {cap : Nat} {L : List S24} (hC : Kd.C k24 w A L.length L) (hc : L.length ≤ cap) (ho : ¬ okE L = true) :
    Calls Try.prog 39 #[.slice A L.length cap] w fun e w' => e = .returned (.tuple #[.int .i64 0, .int .i64 0, .int .i64 1]) ∧ Fr (fun _ => False) w w' := by
  have hsz := C24_len hC
  by_cases hn : 16 < L.length
  · have t1 : decide ((L.length : Int) > 16) = true := decide_eq_true (by omega)
    have t2 : (16 : Int) < (L.length : Int) := by omega
    clear ho hC
    go_enter Try.func39, Try.ntmps39
    go_wp2_with fail
    go_returns
    exact ⟨rfl, by (repeat' (first | (with_reducible exact Fr.refl _ _) | (with_reducible assumption) | (with_reducible refine Fr.alloc ?_ _) | (with_reducible refine Fr.drew ?_) | (with_reducible refine Fr.drewN ?_ _) | (with_reducible refine Fr.setCell ?_ _ _ ?_) | (exact Or.inr rfl) | (left; simp; done) | (left; simp; omega) | (simp; done) | (simp; omega) | omega))⟩
  · have t1 : decide ((L.length : Int) > 16) = false := decide_eq_false (by omega)
    have t2 : (L.length : Int) ≤ 16 := by omega
    have hb : (L.any fun s => !mayE s) = true := by
      cases h : (L.any fun s => !mayE s) with
      | true => rfl
      | false =>
        refine absurd ?_ ho
        unfold okE
        rw [Bool.and_eq_true]
        refine ⟨by simp; omega, List.all_eq_true.2 fun s hs => ?_⟩
        rw [List.any_eq_false] at h
        have := h s hs
        simpa using this
    have B1 := bad_any hC hc
    rw [hb] at B1
    have HB := hidE B1
    clear ho hC hb B1
    go_enter Try.func39, Try.ntmps39
    go_wp2_with fail
    refine HB.out.mono ?_
    rintro e w1 ⟨rfl, k1⟩
    go_wp2_with fail
    go_returns
    exact ⟨rfl, k1⟩
theorem hull_at {w : World} {A : Option Addr} {cap : Nat} {L : List S24} (hC : Kd.C k24 w A L.length L) (hc : L.length ≤ cap) :
    Calls Try.prog 39 #[.slice A L.length cap] w fun e w' => e = .returned (.tuple #[.int .i64 (hullZ L).1, .int .i64 (hullZ L).2.1, .int .i64 (hullZ L).2.2]) ∧ Fr (fun _ => False) w w' := by
  by_cases ho : okE L = true
  · exact hull_main hC hc ho
  · rw [hullZ_bad ho]
    exact hull_bad hC hc ho
end Go.Proofs.Ytapagoaoglmegaa
