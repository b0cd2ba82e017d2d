/- EdgesSums: the walk. -/
import Derived.Test.YtapagoaoglmegaaEdRank
import Derived.Test.YtapagoaoglmegaaEdOrdP
import Derived.WalkLawsBesides
import Derived.Deep.DeepCutAuto
namespace Go.Proofs.Ytapagoaoglmegaa
open Go.RowKit Go.Proofs.YtapagoaoglmegaaW.PrintWords Go.Proofs.YtapagoaoglmegaaW.PrintLast Go.Proofs.YtapagoaoglmegaaW.PrintMore PCl
set_option linter.unusedVariables false
set_option linter.unusedSimpArgs false
set_option maxRecDepth 100000
theorem EnV.cells {B : Nat} {w : World} {v : Value} {E : List (Nat × Bool)} (h : EnV B w v E) (h0 : 0 < E.length) : ∃ g cap, v = .slice (some ⟨g, 0, none⟩) E.length cap ∧ g < w.heap.size ∧ ∀ (i : Nat) r b, E[i]? = some (r, b) → w.cell? ⟨g, i, none⟩ = some (.complex .f64 (flE (r : Int)) (imE b)) := by
  rcases h with ⟨_, e⟩ | ⟨g, c, l, rfl, _, hm, hc⟩
  · rw [e] at h0; simp at h0
  · refine ⟨g, c, rfl, hc.2, fun i r b hi => ?_⟩
    rw [← hm, List.getElem?_map] at hi
    obtain ⟨x, hx, e⟩ := Option.map_eq_some_iff.1 hi
    have := hc.cell hx
    unfold encE at this
    injection e with e1 e2
    rw [e1, e2] at this
    exact this
theorem end_rank {L : List S24} {r : Nat} {b : Bool} (h : (r, b) ∈ endE L) : r < 2 * L.length := by
  obtain ⟨s, hs, e⟩ := un_mem ((end_perm L).mem_iff.1 h)
  obtain ⟨p1, p2, p3⟩ := pos_ok L
  have hx : (if b = true then s.f1 else s.f2) ∈ posE L := by split; exact (p2 s hs).1; exact (p2 s hs).2
  have := (List.getElem?_eq_some_iff.1 (rk_get p1 hx)).1
  omega
/-- Behind the last beginning of a rank: what has been added is that place's depth. -/
theorem last_lo {L : List S24} (hL : okR L) {i r : Nat} (h : (endE L)[i]? = some (r, true)) (hnext : ∀ r' b', (endE L)[i + 1]? = some (r', b') → b' = false ∨ r < r') {s : S24} (hs : s ∈ L) (hr : rkE (posE L) s.f1 = r) : preE (endE L) (i + 1) = (depE L s.f1 : Int) := by
  obtain ⟨m, hm, hp, hd⟩ := split_pre (end_sorted L) r
  have him : i < m := (hd i _ h).2 ((dnE_iff _ _).2 (.inr ⟨rfl, rfl⟩))
  have hil := (List.getElem?_eq_some_iff.1 h).1
  have e : m = i + 1 := by
    by_cases c : i + 1 < m
    · obtain ⟨⟨r', b'⟩, h1⟩ : ∃ x, (endE L)[i + 1]? = some x := ⟨_, List.getElem?_eq_getElem (by omega)⟩
      have h2 := (dnE_iff _ _).1 ((hd _ _ h1).1 c)
      have h3 := (leE_iff _ _).1 (end_sorted L i (i + 1) _ _ (by omega) h h1)
      have h4 := hnext _ _ h1
      simp at h3 h2
      rcases h4 with h4 | h4
      · rcases h2 with h2 | h2
        · omega
        · rw [h2.2] at h4; cases h4
      · rcases h2 with h2 | h2 <;> omega
    · omega
  rw [← e, hp, ← hr, DE_perm (end_perm L)]
  exact DE_un ((pos_ok L).2.1 s hs).1 L (pos_ok L).2.1 (fun t ht => (hL t ht).2.1)
theorem lo_ex {L : List S24} {i r : Nat} (h : (endE L)[i]? = some (r, true)) : L.any (fun s => rkE (posE L) s.f1 == r) = true := by
  obtain ⟨s, hs, e⟩ := un_mem ((end_perm L).mem_iff.1 (List.mem_of_getElem? h))
  exact List.any_eq_true.2 ⟨s, hs, by simp [e]⟩
theorem ord_lt {a b : Nat} (ha : a < 64) (hb : b < 64) (h : a < b) : FloatKind.f64.format.order (flE (a : Int)) (flE (b : Int)) = some .lt := by
  rw [fl_ord ha hb, Nat.compare_eq_lt.2 h]
theorem ord_eq {a b : Nat} (ha : a < 64) (hb : b < 64) (h : a = b) : FloatKind.f64.format.order (flE (a : Int)) (flE (b : Int)) = some .eq := by
  rw [fl_ord ha hb, Nat.compare_eq_eq.2 h]
theorem ord_gt {a b : Nat} (ha : a < 64) (hb : b < 64) (h : b < a) : FloatKind.f64.format.order (flE (a : Int)) (flE (b : Int)) = some .gt := by
  rw [fl_ord ha hb, Nat.compare_eq_gt.2 h]
set_option maxHeartbeats 16000000 in
theorem edgesSums_walk (A0 : Option Addr) (len0 cap0 : Nat) (w : World) (h0 : RdS [.i .i64, .i .i64, .i .i64] w A0 len0 cap0) :
    Calls Try.prog 12 #[.slice A0 len0 cap0] w fun e w' => e = .returned (.bool true) ∧ Fr (fun _ => False) w w' := by
  obtain ⟨l, rfl, hc, hC, _⟩ := span_open h0
  have HF := hidE (fit_at hC hc)
  clear h0 hC
  go_enter Try.func12, Try.ntmps12
  go_wp2_with fail
  refine HF.out.mono ?_
  rintro e w1 ⟨v, rfl, hv, k1⟩
  clear HF
  obtain ⟨L, hL⟩ : ∃ L, L = fitZ l := ⟨_, rfl⟩
  have hLl := fitZ_len l
  have hLo : okR (fitZ l) := fun s hs => by have := fitZ_ok l s hs; omega
  have S1 : SlS w.heap.size w1 v (fitZ l) := hv.form
  rw [← hL] at S1 hLl hLo
  obtain ⟨A, cp, hvA, _⟩ := S1.C
  subst hvA
  clear hv hL
  have HO := hidE hLo
  have HC : Hid (∀ W, Fr (fun _ => False) w1 W → Kd.C k24 W A L.length L ∧ L.length ≤ cp) := hidE (fun W k => by
    obtain ⟨A', c', e, hc', hC'⟩ := (S1.fr k).C
    injection e with e1 e2 e3
    subst e1 e3
    exact ⟨hC', hc'⟩)
  have HEn := hidE (ends_at (HC.out w1 (Fr.refl _ _)).1 (HC.out w1 (Fr.refl _ _)).2 (by omega))
  clear S1 hLo
  go_wp2_with fail
  refine HEn.out.mono ?_
  rintro e w2 ⟨ve, rfl, he, k2⟩
  have HE := hidE he
  obtain ⟨A3, c3, hve⟩ : ∃ A3 c3, ve = .slice A3 (endE L).length c3 := by
    rcases he with ⟨h1, h2⟩ | ⟨g, c, l, h1, _⟩
    · exact ⟨none, 0, by rw [h1, h2]; rfl⟩
    · exact ⟨_, c, h1⟩
  subst hve
  have hEl := end_len L
  obtain ⟨E, hEE⟩ : ∃ E, E = endE L := ⟨_, rfl⟩
  have HEE := hidE hEE
  rw [← hEE] at hEl HE ⊢
  have HEl := hidE hEl
  have tne : ((E.length : Int) != 2 * (L.length : Int)) = false := by rw [bne_eq_false_iff_eq]; omega
  have hE32 : E.length ≤ 32 := by omega
  clear he hEE hEl HEn
  go_wp2_with fail
  go_loopw [4, 5] (fun v4 v5 wr => ∃ (i re : Nat), i ≤ E.length ∧ re ≤ 9218868437227405312 ∧ v5 = .int .i64 (i : Int) ∧ v4 = .complex .f64 re (flE (preE E i)) ∧ Fr (fun _ => False) w2 wr) (fun _ v5 _ => E.length - (intOf v5).toNat)
  case atStart => exact ⟨0, 0, Nat.zero_le _, Nat.zero_le _, rfl, by rw [preE_zero, fl_zero], Fr.refl _ _⟩
  case round =>
    obtain ⟨wo, rfl⟩ : ∃ wo : World, wo = wr := ⟨_, rfl⟩
    obtain ⟨i, re, hi, hre, rfl, rfl, hf⟩ := hrel
    clear tne
    by_cases hlt : i < E.length
    · as_aux_lemma =>
        obtain ⟨g, c, hv, hg, hcs⟩ := HE.out.cells (by omega)
        obtain rfl : A3 = some ⟨g, 0, none⟩ := by injection hv
        obtain ⟨⟨r, b⟩, hx⟩ : ∃ x, E[i]? = some x := ⟨_, List.getElem?_eq_getElem hlt⟩
        have hcell := (hf.cell (a := ⟨g, i, none⟩) hg (fun h => h)).trans (hcs i r b hx)
        have hr2 : r < 2 * L.length := end_rank (b := b) (by rw [← HEE.out]; exact List.mem_of_getElem? hx)
        have hr64 : r < 64 := by omega
        have HX := hidE hx
        have HCS := hidE hcs
        have li : (i : Int) < (E.length : Int) := by omega
        -- what the tests tell
        have hpb := pre_bd (E := E) i
        obtain ⟨S, hS⟩ : ∃ S, S = preE E i := ⟨_, rfl⟩
        obtain ⟨S', hS'⟩ : ∃ S', S' = preE E (i + 1) := ⟨_, rfl⟩
        have hSS : S' = S + (if b = true then 1 else -1) := by rw [hS', preE_succ hx, hS]; rfl
        rw [← hS] at hpb ⊢
        obtain ⟨re', hre1, hre2⟩ := re_add hre (fl_low hr64)
        have him : floatBits .add .f64 (flE S) (imE b) = some (flE S') := by
          rw [hSS]
          cases b
          · exact (im_add (by omega) (by omega)).2
          · exact (im_add (by omega) (by omega)).1
        have hadd : ∀ W, (binOp .add 74 (.complex .f64 re (flE S)) (.complex .f64 (flE (r : Int)) (imE b))).run Try.prog W = .ok (.complex .f64 re' (flE S')) W := fun W => run_complex_sum W .add (.inl rfl) _ .f64 _ _ _ _ _ _ (by unfold cSumBits; rw [hre1, him]; rfl)
        have HS' := hidE hS'
        have t48 : (FloatKind.f64.format.order (flE (r : Int)) 0 == some Ordering.lt) = false := by
          have h00 : FloatKind.f64.format.order (flE (r : Int)) 0 = FloatKind.f64.format.order (flE (r : Int)) (flE ((0 : Nat) : Int)) := by rw [show flE ((0 : Nat) : Int) = 0 from fl_zero]
          rw [h00]
          by_cases c : r = 0
          · rw [ord_eq hr64 (by decide : 0 < 64) c]; rfl
          · rw [ord_gt hr64 (by decide : 0 < 64) (by omega)]; rfl
        have t57 : (FloatKind.f64.format.order (flE (r : Int)) (floatOfInt .f64 (2 * (L.length : Int))) == some Ordering.gt || FloatKind.f64.format.order (flE (r : Int)) (floatOfInt .f64 (2 * (L.length : Int))) == some Ordering.eq) = false := by
          have e : floatOfInt .f64 (2 * (L.length : Int)) = flE ((2 * L.length : Nat) : Int) := by unfold flE; first | (congr 1; done) | (congr 1; omega)
          rw [e, ord_lt hr64 (by omega) hr2]; rfl
        have t38 : (FloatKind.f64.format.order (imE b) 4607182418800017408 != some Ordering.eq) = !b := by
          have := im_ord b true
          rw [show imE true = 4607182418800017408 from rfl] at this
          rw [this]; cases b <;> rfl
        have t42 : (FloatKind.f64.format.order (imE b) 13830554455654793216 != some Ordering.eq) = b := by
          have := im_ord b false
          rw [show imE false = 13830554455654793216 from rfl] at this
          rw [this]; cases b <;> rfl
        have t93 : (FloatKind.f64.format.order (imE b) 4607182418800017408 == some Ordering.eq) = b := by
          have := im_ord b true
          rw [show imE true = 4607182418800017408 from rfl] at this
          rw [this]; cases b <;> rfl
        clear hcs hx hv hS hS' hSS hre1 him hpb
        go_upto_region 10 with fail
        go_cut [87] (fun s87 wx => s87 = .bool false ∧ Fr (fun _ => False) w2 wx)
        case first =>
          as_aux_lemma =>
            clear hcell
            by_cases hi0 : i = 0
            · have u1 : decide ((i : Int) > 0) = false := decide_eq_false (by omega)
              have u2 : ¬ (0 : Int) < (i : Int) := by omega
              clear hi0
              cases b
              all_goals
                simp only [Bool.not_true, Bool.not_false] at t38
                go_wp2
                go_meet
                exact ⟨rfl, hf⟩
            · obtain ⟨⟨rp, bp⟩, hp⟩ : ∃ x, E[i - 1]? = some x := ⟨_, List.getElem?_eq_getElem (by omega)⟩
              have hpc := (hf.cell (a := ⟨g, i - 1, none⟩) hg (fun h => h)).trans (HCS.out _ _ _ hp)
              have hle := (leE_iff _ _).1 ((show SortedE E by rw [HEE.out]; exact end_sorted L) (i - 1) i _ _ (by omega) hp HX.out)
              have hp2 : rp < 2 * L.length := end_rank (b := bp) (by rw [← HEE.out]; exact List.mem_of_getElem? hp)
              have hp64 : rp < 64 := by omega
              simp at hle
              have u1 : decide ((i : Int) > 0) = true := decide_eq_true (by omega)
              have u2 : (0 : Int) < (i : Int) := by omega
              have u3 : (1 : Int) ≤ (i : Int) := by omega
              have u4 : (i : Int) - 1 < (E.length : Int) := by omega
              have u5 : (0 : Int) ≤ (i : Int) - 1 := by omega
              have u6 : i - 1 < E.length := by omega
              clear hp hp2
              by_cases hrr : rp = r
              · have v1 : (FloatKind.f64.format.order (flE (rp : Int)) (flE (r : Int)) == some Ordering.gt) = false := by rw [ord_eq hp64 hr64 hrr]; rfl
                have v2 : (FloatKind.f64.format.order (flE (rp : Int)) (flE (r : Int)) == some Ordering.eq) = true := by rw [ord_eq hp64 hr64 hrr]; rfl
                have v3 : (FloatKind.f64.format.order (imE bp) (imE b) == some Ordering.lt) = false := by
                  rw [im_ord]
                  rcases hle with h | ⟨_, h | h⟩
                  · omega
                  · subst h; cases b <;> rfl
                  · subst h; cases bp <;> rfl
                clear hle hrr hi0
                cases b
                all_goals
                  simp only [Bool.not_true, Bool.not_false] at t38
                  go_wp2
                  go_meet
                  exact ⟨rfl, hf⟩
              · have v1 : (FloatKind.f64.format.order (flE (rp : Int)) (flE (r : Int)) == some Ordering.gt) = false := by rw [ord_lt hp64 hr64 (by omega)]; rfl
                have v2 : (FloatKind.f64.format.order (flE (rp : Int)) (flE (r : Int)) == some Ordering.eq) = false := by rw [ord_lt hp64 hr64 (by omega)]; rfl
                clear hle hrr hi0
                cases b
                all_goals
                  simp only [Bool.not_true, Bool.not_false] at t38
                  go_wp2
                  go_meet
                  exact ⟨rfl, hf⟩
        case rest =>
          obtain ⟨rfl, hf2⟩ := hcut
          clear hf hcell t48 t57 t38 t42
          go_upto_region 13 with fail
          go_cut [120] (fun s120 wx => ∃ cc, s120 = .bool cc ∧ Hid (cc = true → b = true ∧ ∀ r' b', E[i + 1]? = some (r', b') → b' = false ∨ r < r') ∧ Fr (fun _ => False) w2 wx)
          case first =>
            as_aux_lemma =>
              cases b with
              | false =>
                go_wp2
                go_meet
                exact ⟨false, rfl, hidE (fun h => by cases h), hf2⟩
              | true =>
                by_cases hN : i + 1 = E.length
                · have u1 : ((i : Int) + 1 == (E.length : Int)) = true := by rw [beq_iff_eq]; omega
                  have hno : E[i + 1]? = none := List.getElem?_eq_none (by omega)
                  have HNO := hidE hno
                  clear hN hno
                  go_wp2
                  go_meet
                  exact ⟨true, rfl, hidE (fun _ => ⟨by simp, fun r' b' h => by rw [HNO.out] at h; cases h⟩), hf2⟩
                · have u1 : ((i : Int) + 1 == (E.length : Int)) = false := by rw [beq_eq_false_iff_ne]; omega
                  obtain ⟨⟨rn, bn⟩, hn⟩ : ∃ x, E[i + 1]? = some x := ⟨_, List.getElem?_eq_getElem (by omega)⟩
                  have hnc := (hf2.cell (a := ⟨g, i + 1, none⟩) hg (fun h => h)).trans (HCS.out _ _ _ hn)
                  have hn2 : rn < 2 * L.length := end_rank (b := bn) (by rw [← HEE.out]; exact List.mem_of_getElem? hn)
                  have hn64 : rn < 64 := by omega
                  have hle := (leE_iff _ _).1 ((show SortedE E by rw [HEE.out]; exact end_sorted L) i (i + 1) _ _ (by omega) HX.out hn)
                  simp at hle
                  have u4 : (i : Int) + 1 < (E.length : Int) := by omega
                  have u6 : i + 1 < E.length := by omega
                  have t16 : (FloatKind.f64.format.order (imE bn) 13830554455654793216 == some Ordering.eq) = !bn := by
                    have := im_ord bn false
                    rw [show imE false = 13830554455654793216 from rfl] at this
                    rw [this]; cases bn <;> rfl
                  have HN := hidE hn
                  clear hn hn2 hN
                  cases bn with
                  | false =>
                    simp only [Bool.not_false] at t16
                    clear hle
                    go_wp2
                    go_meet
                    exact ⟨true, rfl, hidE (fun _ => ⟨by simp, fun r' b' h => by rw [HN.out] at h; injection h with h; injection h with h1 h2; exact .inl h2.symm⟩), hf2⟩
                  | true =>
                    simp only [Bool.not_true] at t16
                    by_cases hlt2 : r < rn
                    · have t27 : (FloatKind.f64.format.order (flE (rn : Int)) (flE (r : Int)) == some Ordering.gt) = true := by rw [ord_gt hn64 hr64 hlt2]; rfl
                      have HL2 := hidE hlt2
                      clear hle hlt2
                      go_wp2
                      go_meet
                      exact ⟨true, rfl, hidE (fun _ => ⟨by simp, fun r' b' h => by rw [HN.out] at h; injection h with h; injection h with h1 h2; exact .inr (h1 ▸ HL2.out)⟩), hf2⟩
                    · have t27 : (FloatKind.f64.format.order (flE (rn : Int)) (flE (r : Int)) == some Ordering.gt) = false := by rw [ord_eq hn64 hr64 (by omega)]; rfl
                      clear hle hlt2
                      go_wp2
                      go_meet
                      exact ⟨false, rfl, hidE (fun h => by cases h), hf2⟩
          case rest =>
            obtain ⟨cc, rfl, hcc, hf3⟩ := hcut
            clear hf2 t93
            cases cc with
            | false =>
              go_wp2
              go_roundw
              case rel => exact ⟨i + 1, re', by omega, hre2, by go_num, by rw [← HS'.out], hf3⟩
              case measure => simp [intOf]; omega
            | true =>
              obtain ⟨hb, hnx⟩ := hcc.out rfl
              subst hb
              have HLast : Hid (∀ s ∈ L, rkE (posE L) s.f1 = r → (depE L s.f1 : Int) = S') := hidE (fun s hs hr => by
                rw [HS'.out, HEE.out]
                exact (last_lo HO.out (by rw [← HEE.out]; exact HX.out) (fun r' b' h => hnx r' b' (by rw [HEE.out]; exact h)) hs hr).symm)
              have HAny : Hid (L.any (fun s => rkE (posE L) s.f1 == r) = true) := hidE (lo_ex (by rw [← HEE.out]; exact HX.out))
              clear hcc hnx
              obtain ⟨wp, rfl⟩ : ∃ wp : World, wp = wc := ⟨_, rfl⟩
              go_wp2_with fail
              go_loopw [7, 8] (fun v7 v8 wq => ∃ (k : Nat) (f : Bool), k ≤ L.length ∧ v7 = .bool f ∧ v8 = .int .i64 (k : Int) ∧ Hid (f = (L.take k).any (fun s => rkE (posE L) s.f1 == r)) ∧ Fr (fun _ => False) w2 wq) (fun _ v8 _ => L.length - (intOf v8).toNat)
              case atStart => exact ⟨0, false, Nat.zero_le _, rfl, rfl, hidE (by simp), hf3⟩
              case round =>
                clear hf3
                obtain ⟨k, f, hk, rfl, rfl, hff, hq⟩ := hrel
                by_cases hkl : k < L.length
                · as_aux_lemma =>
                    have kq := k2.trans hq (fun _ _ h => h)
                    obtain ⟨r0, off, rfl, hr0, hat⟩ := C24_open (HC.out _ kq).1 (by omega)
                    obtain ⟨s, hs⟩ : ∃ s, L[k]? = some s := ⟨_, List.getElem?_eq_getElem hkl⟩
                    obtain ⟨c0, c1, c2⟩ := hat k s hs
                    have hmem := List.mem_of_getElem? hs
                    have u1 : (k : Int) < (L.length : Int) := by omega
                    have hsn := hidE (any_snoc (fun s : S24 => rkE (posE L) s.f1 == r) hs)
                    have hRk := hidE (rank_at (HC.out _ kq).1 (HC.out _ kq).2 (by omega) HO.out s.f1)
                    have q1 : rkE (posE L) s.f1 < 64 := by
                      obtain ⟨p1, p2, p3⟩ := pos_ok L
                      have := rk_len (posE L) s.f1
                      omega
                    obtain ⟨q, hqq⟩ : ∃ q, q = rkE (posE L) s.f1 := ⟨_, rfl⟩
                    have hla := HLast.out s hmem
                    rw [← hqq] at hRk q1 hla
                    have HQ := hidE hqq
                    clear hqq hat hs hmem
                    go_wp2_with fail
                    refine hRk.out.mono ?_
                    rintro e w7 ⟨rfl, k7⟩
                    have kq7 := hq.trans k7 (fun _ _ h => h)
                    have hd7 := (k2.trans kq7 (fun _ _ h => h))
                    by_cases hqr : q = r
                    · have tq : (FloatKind.f64.format.order (floatOfInt .f64 (q : Int)) (flE (r : Int)) == some Ordering.eq) = true := by
                        have := ord_eq q1 hr64 hqr
                        unfold flE at this ⊢
                        rw [this]; rfl
                      have hfn : Hid ((L.take (k + 1)).any (fun s => rkE (posE L) s.f1 == r) = true) := hidE (by rw [hsn.out]; simp [← HQ.out, hqr])
                      have hdp := hla hqr
                      have hD := hidE (depth_at (HC.out _ hd7).1 (HC.out _ hd7).2 (by omega) s.f1)
                      have hd16 := dep_le L s.f1
                      generalize hdd : depE L s.f1 = D at hD hdp hd16
                      have tr : (FloatKind.f64.format.order (floatOfInt .f64 (D : Int)) (flE S') == some Ordering.eq) = true := by
                        have := ord_eq (a := D) (b := D) (by omega) (by omega) rfl
                        rw [← hdp]
                        unfold flE at this ⊢
                        rw [this]; rfl
                      replace c1 := (k7.cell (a := ⟨r0, off + k * 3 + 1, none⟩) (World.block_lt_of_cell? _ _ c1) (fun h => h)).trans c1
                      clear hqr hdp hdd hla c0 c2 hd16
                      go_wp2_with fail
                      refine hD.out.mono ?_
                      rintro e w8 ⟨rfl, k8⟩
                      have kq8 := kq7.trans k8 (fun _ _ h => h)
                      clear c1 hD hRk
                      go_wp2
                      go_roundw
                      case rel => exact ⟨k + 1, true, by omega, rfl, by go_num, hidE hfn.out.symm, kq8⟩
                      case measure => simp [intOf]; omega
                    · have tq : (FloatKind.f64.format.order (floatOfInt .f64 (q : Int)) (flE (r : Int)) == some Ordering.eq) = false := by
                        have := fl_ord q1 hr64
                        unfold flE at this ⊢
                        rw [this]
                        rcases Nat.lt_trichotomy q r with h | h | h
                        · rw [Nat.compare_eq_lt.2 h]; rfl
                        · exact absurd h hqr
                        · rw [Nat.compare_eq_gt.2 h]; rfl
                      have hfn : Hid ((L.take (k + 1)).any (fun s => rkE (posE L) s.f1 == r) = f) := hidE (by rw [hsn.out, ← hff.out, ← HQ.out]; simp [hqr])
                      clear hqr hla c0 c1 c2 hRk
                      go_wp2
                      go_roundw
                      case rel => exact ⟨k + 1, f, by omega, rfl, by go_num, hidE hfn.out.symm, kq7⟩
                      case measure => simp [intOf]; omega
                · as_aux_lemma =>
                    obtain rfl : k = L.length := by omega
                    have hft : f = true := by rw [hff.out, List.take_length]; exact HAny.out
                    subst hft
                    clear hkl hff
                    go_wp2
                    go_roundw
                    case rel => exact ⟨i + 1, re', by omega, hre2, by go_num, by rw [← HS'.out], hq⟩
                    case measure => simp [intOf]; omega
    · as_aux_lemma =>
        obtain rfl : i = E.length := by omega
        have h00 : preE E E.length = 0 := by rw [HEE.out]; exact pre_all (end_perm L)
        have o0 : FloatKind.f64.format.order 0 0 = some .eq := by kernel_rfl
        rw [h00, fl_zero]
        clear hlt h00
        go_wp2_with fail
        refine (alive_at _).mono ?_
        rintro e w8 ⟨rfl, k8⟩
        go_wp2
        go_ret
        exact ⟨rfl, ((k1.trans k2 (fun _ _ h => h)).trans hf (fun _ _ h => h)).trans k8 (fun _ _ h => h)⟩
end Go.Proofs.Ytapagoaoglmegaa
