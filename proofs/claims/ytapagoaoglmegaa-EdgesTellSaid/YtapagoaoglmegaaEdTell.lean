/- EdgesTell: the walk. -/
import Derived.Test.YtapagoaoglmegaaTeHull
import Derived.Test.YtapagoaoglmegaaEdSums
import Derived.Test.YtapagoaoglmegaaEdKnown
namespace Go.Proofs.Ytapagoaoglmegaa
open Go.RowKit Go.Proofs.YtapagoaoglmegaaW.PrintWords Go.Proofs.YtapagoaoglmegaaW.PrintLast Go.Proofs.YtapagoaoglmegaaW.PrintMore PCl
set_option linter.unusedVariables false
set_option linter.unusedSimpArgs false
set_option maxRecDepth 100000
theorem rds_take {ls : List Leaf} {w : World} {A : Option Addr} {len cap : Nat} (h : RdS ls w A len cap) (n : Nat) (hn : n ≤ len) : RdS ls w A n cap := by
  rcases h with ⟨rfl, hc, hm⟩ | ⟨b, off, h1, hlc, hcm, hb, R, hR⟩
  · obtain rfl : n = 0 := by omega
    exact .inl ⟨rfl, hc, hm⟩
  · exact .inr ⟨b, off, h1, by omega, hcm, hb, R, fun i hi => hR i (by omega)⟩
theorem wpList_append_no {w : World} {ops : Array Oper} {rest : List Oper} {o : Oper} {a : Act} {Q : Exit → Act → World → Prop} (hgd : o.guard = none) (s x : Operand)
    (ho : o.op = .call { callee := .builtin .append, args := #[s, x], argTypes := #[63, 63] }) (B : Option Addr) (cc : Nat)
    (hs : a.eval s = .slice none 0 0) (hx : a.eval x = .slice B 0 cc)
    (h : wpList Try.prog ops Q rest (a.put o.dst (.slice none 0 0)) w) : wpList Try.prog ops Q (o :: rest) a w := by
  refine wpList_plain hgd fun K hK => ?_
  obtain ⟨i0, hi, hzz⟩ := Option.map_eq_some_iff.1 infoS
  have hr := fun ty => run_append_zero (P := Try.prog) (w := w) 63 ty 24 i0 Try.underlying63 hi none B 0 0 cc (Nat.le_refl _)
  unfold Oper.wp execOp
  simp only [ho, resolve, invoke, builtin, Sem.run_bind, Sem.run_pure, Result.andThen_ok, List.map_toArray, List.map_cons, List.map_nil, hs, hx, hr]
  exact hK _ _ h
set_option maxHeartbeats 16000000 in
theorem edgesTell_walk (A0 : Option Addr) (len0 cap0 : Nat) (p lo hi : Int) (w : World) (h0 : RdS [.i .i64, .i .i64, .i .i64] w A0 len0 cap0) (w1 : (Lit.int .i64 p).wf = true) (w2 : (Lit.int .i64 lo).wf = true) (w3 : (Lit.int .i64 hi).wf = true) :
    Calls Try.prog 13 #[.slice A0 len0 cap0, .int .i64 p, .int .i64 lo, .int .i64 hi] w fun e w' => e = .returned (.bool true) ∧ Fr (fun _ => False) w w' := by
  have hle := RdS.len_le h0
  clear w1 w2 w3
  obtain ⟨n, hn⟩ : ∃ n, n = if len0 ≤ 20 then len0 else 20 := ⟨_, rfl⟩
  have hn20 : n ≤ 20 := by rw [hn]; split <;> omega
  have hnl : n ≤ len0 := by rw [hn]; split <;> omega
  obtain ⟨L, hLn, hc, hC, _⟩ := span_open (rds_take h0 n hnl)
  have HC : Hid (∀ W, Fr (fun _ => False) w W → Kd.C k24 W A0 L.length L) := hidE (fun W k => Kd.C_below hC k.below)
  have HLn := hidE hLn
  clear h0 hC
  have hmin : min (len0 : Int) 20 = (n : Int) := by rw [hn]; split <;> omega
  clear hn
  go_enter Try.func13, Try.ntmps13
  go_upto_region 1 with fail
  go_cut [0] (fun v0 wx => v0 = .slice A0 n cap0 ∧ wx = w)
  case first =>
    go_wp2_with fail
    go_meet
    exact ⟨rfl, rfl⟩
  case rest =>
    obtain ⟨w0, hw0⟩ : ∃ w0, w0 = wc := ⟨_, rfl⟩
    rw [← hw0] at hcut ⊢
    clear hw0
    obtain ⟨rfl, rfl⟩ := hcut
    clear hmin hle hnl
    go_upto_region 2 with fail
    go_cut [9] (fun v9 wx => OwS w0.heap.size wx v9 L ∧ Fr (fun _ => False) w0 wx)
    case first =>
      by_cases hL0 : 0 < L.length
      · obtain ⟨r, off, rfl, hr, hat⟩ := C24_open (HC.out w0 (Fr.refl _ _)) hL0
        have o0 := OwS.nil w0.heap.size w0
        have LN := hidE hat
        clear hat
        go_wp2_with (at_builtin; refine wpList_append_sp rfl _ _ rfl w0.heap.size _ [] L r off n cap0 rfl rfl o0 LN.out HLn.out.symm hL0 (by simp only [List.length_nil]; omega) (Nat.le_refl _) ?_)
        intro v7 w7 o7 g7 b7
        have f7 : Fr (fun _ => False) w0 w7 := Fr.grown (Fr.refl _ _) g7 (fun j hj => by cases hj)
        go_wp2
        go_meet
        exact ⟨o7, f7⟩
      · obtain rfl : n = 0 := by omega
        obtain rfl : L = [] := List.eq_nil_of_length_eq_zero (by omega)
        clear HC HLn hL0 hLn
        go_wp2_with (at_builtin; refine wpList_append_no rfl _ _ rfl A0 cap0 rfl rfl ?_)
        go_wp2
        go_meet
        exact ⟨OwS.nil _ _, Fr.refl _ _⟩
    case rest =>
      obtain ⟨w1, hw1⟩ : ∃ w1, w1 = wc := ⟨_, rfl⟩
      rw [← hw1] at hcut ⊢
      clear hw1
      obtain ⟨o1, f1⟩ := hcut
      have S1 : SlS w0.heap.size w1 _ L := o1.form
      obtain ⟨A9, c9, hv9, _⟩ := S1.C
      subst hv9
      have HC9 : Hid (∀ W, Fr (fun _ => False) w1 W → Kd.C k24 W A9 L.length L ∧ L.length ≤ c9) := hidE (fun W k => by
        obtain ⟨A', c', e, hc', hC'⟩ := (S1.fr k).C
        injection e with e1 e2 e3
        subst e1 e3
        exact ⟨hC', hc'⟩)
      have HC0 : Hid (∀ W, Fr (fun _ => False) w1 W → Kd.C k24 W A0 L.length L) := hidE (fun W k => HC.out W (f1.trans k (fun _ _ h => h)))
      have hcl : L.length ≤ cap0 := by omega
      clear o1 S1 HC
      subst hLn
      obtain ⟨a, b, e, hz⟩ : ∃ a b e, hullZ L = (a, b, e) := ⟨_, _, _, rfl⟩
      have H1 : Hid (∀ W, Fr (fun _ => False) w1 W → Calls Try.prog 39 #[.slice A9 L.length c9] W fun x w' => x = .returned (.tuple #[.int .i64 a, .int .i64 b, .int .i64 e]) ∧ Fr (fun _ => False) W w') := hidE (fun W k => hz_at (HC9.out W k).1 rfl (HC9.out W k).2 hz)
      have H2 : Hid (∀ W, Fr (fun _ => False) w1 W → Calls Try.prog 43 #[.slice A0 L.length cap0] W fun x w' => x = .returned (.tuple #[.int .i64 a, .int .i64 b, .int .i64 e]) ∧ Fr (fun _ => False) W w') := hidE (fun W k => by have := rhull_at (HC0.out W k) hcl (by omega); rwa [hz] at this)
      have H3 := hidE (fun (W : World) (k : Fr (fun _ => False) w1 W) => ends_at (HC9.out W k).1 (HC9.out W k).2 (by omega))
      have H4 := hidE (fun (W : World) (k : Fr (fun _ => False) w1 W) => rends_at (HC0.out W k) hcl (by omega))
      have H5 := hidE (fun (W : World) (k : Fr (fun _ => False) w1 W) => inside_at (HC9.out W k).1 (HC9.out W k).2 (by omega) lo hi)
      have H6 := hidE (fun (W : World) (k : Fr (fun _ => False) w1 W) => rinside_at (HC0.out W k) hcl (by omega) lo hi)
      have H7 := hidE (fun (W : World) (k : Fr (fun _ => False) w1 W) => depth_at (HC9.out W k).1 (HC9.out W k).2 (by omega) p)
      have H8 := hidE (fun (W : World) (k : Fr (fun _ => False) w1 W) => rdepth_at (HC0.out W k) hcl (by omega) p)
      obtain ⟨E, hE⟩ : ∃ E, E = endE L := ⟨_, rfl⟩
      obtain ⟨I, hI⟩ : ∃ I, I = insZ L lo hi := ⟨_, rfl⟩
      obtain ⟨d, hd⟩ : ∃ d, d = depE L p := ⟨_, rfl⟩
      have hEl : E.length ≤ 40 := by rw [hE, end_len]; omega
      have hEb : ∀ r b, (r, b) ∈ E → r < 64 := fun r b h => by rw [hE] at h; have := end_rank h; omega
      have hIl : I.length ≤ 20 := by rw [hI]; exact Nat.le_trans (insG_len _ _ _ _) (by omega)
      rw [← hE] at H3 H4
      rw [← hI] at H5 H6
      rw [← hd] at H7 H8
      have HEb := hidE hEb
      clear hE hI hd hz hEb
      go_wp2_with fail
      refine (H1.out w1 (Fr.refl _ _)).mono ?_
      rintro x w2 ⟨rfl, k2⟩
      clear H1
      go_wp2_with fail
      refine (H2.out w2 k2).mono ?_
      rintro x w3 ⟨rfl, k3⟩
      replace k3 := k2.trans k3 (fun _ _ h => h)
      clear H2 k2
      go_wp2_with fail
      refine (H3.out w3 k3).mono ?_
      rintro x w4 ⟨ve, rfl, he, k4⟩
      have q4 := k3.trans k4 (fun _ _ h => h)
      clear H3 k4
      go_wp2_with fail
      refine (H4.out w4 q4).mono ?_
      rintro x w5 ⟨ve', rfl, he', k5⟩
      have q5 := q4.trans k5 (fun _ _ h => h)
      have HE1 := hidE (he.fr k5)
      have HE2 := hidE he'
      clear H4 k5 k3 q4 he he'
      go_wp2_with fail
      refine (H5.out w5 q5).mono ?_
      rintro x w6 ⟨vi, rfl, hi1, k6⟩
      have q6 := q5.trans k6 (fun _ _ h => h)
      have HE1' := hidE (HE1.out.fr k6)
      have HE2' := hidE (HE2.out.fr k6)
      clear H5 HE1 HE2
      go_wp2_with fail
      refine (H6.out w6 q6).mono ?_
      rintro x w7 ⟨vi', rfl, hi2, k7⟩
      have q7 := q6.trans k7 (fun _ _ h => h)
      have HE1 := hidE (HE1'.out.fr k7)
      have HE2 := hidE (HE2'.out.fr k7)
      have HI1 := hidE (hi1.fr k7)
      have HI2 := hidE hi2
      clear H6 HE1' HE2' hi1 hi2 k6 k7 q5 q6
      obtain ⟨Ae, ce, hve⟩ : ∃ A c, ve = .slice A E.length c := by
        rcases HE1.out with ⟨h1, h2⟩ | ⟨g, c, l, h1, _⟩
        · exact ⟨none, 0, by rw [h1, h2]; rfl⟩
        · exact ⟨_, c, h1⟩
      obtain ⟨Af, cf, hvf⟩ : ∃ A c, ve' = .slice A E.length c := by
        rcases HE2.out with ⟨h1, h2⟩ | ⟨g, c, l, h1, _⟩
        · exact ⟨none, 0, by rw [h1, h2]; rfl⟩
        · exact ⟨_, c, h1⟩
      obtain ⟨Ai, ci, hvi⟩ : ∃ A c, vi = .slice A I.length c := by
        rcases HI1.out with ⟨h1, h2⟩ | ⟨g, c, h1, _⟩
        · exact ⟨none, 0, by rw [h1, h2]; rfl⟩
        · exact ⟨_, c, h1⟩
      obtain ⟨Aj, cj, hvj⟩ : ∃ A c, vi' = .slice A I.length c := by
        rcases HI2.out with ⟨h1, h2⟩ | ⟨g, c, h1, _⟩
        · exact ⟨none, 0, by rw [h1, h2]; rfl⟩
        · exact ⟨_, c, h1⟩
      subst hve hvf hvi hvj
      go_wp2_with fail
      refine (H7.out w7 q7).mono ?_
      rintro x w8 ⟨rfl, k8⟩
      have q8 := q7.trans k8 (fun _ _ h => h)
      go_wp2_with fail
      refine (H8.out w8 q8).mono ?_
      rintro x w9 ⟨rfl, k9⟩
      have q9 := q8.trans k9 (fun _ _ h => h)
      have kk := k8.trans k9 (fun _ _ h => h)
      have F1 := hidE (HE1.out.fr kk)
      have F2 := hidE (HE2.out.fr kk)
      have G1 := hidE (HI1.out.fr kk)
      have G2 := hidE (HI2.out.fr kk)
      clear H7 H8 HE1 HE2 HI1 HI2 k8 k9 q7 q8 kk
      go_wp2_with fail
      go_loopw [20] (fun v20 wr => ∃ i : Nat, i ≤ E.length ∧ v20 = .int .i64 (i : Int) ∧ Fr (fun _ => False) w9 wr) (fun v20 _ => E.length - (intOf v20).toNat)
      case atStart => exact ⟨0, Nat.zero_le _, rfl, Fr.refl _ _⟩
      case round =>
        obtain ⟨wo, rfl⟩ : ∃ wo : World, wo = wr := ⟨_, rfl⟩
        obtain ⟨i, hi0, rfl, hf⟩ := hrel
        by_cases hlt : i < E.length
        · obtain ⟨g, c, hg1, hg2, hg3⟩ := F1.out.cell (by omega)
          obtain ⟨g', c', hh1, hh2, hh3⟩ := F2.out.cell (by omega)
          obtain rfl : Ae = some ⟨g, 0, none⟩ := by injection hg1
          obtain rfl : Af = some ⟨g', 0, none⟩ := by injection hh1
          obtain ⟨⟨r, bb⟩, hx⟩ : ∃ x, E[i]? = some x := ⟨_, List.getElem?_eq_getElem hlt⟩
          have hr64 := HEb.out r bb (List.mem_of_getElem? hx)
          have z1 := (hf.cell (a := ⟨g, i, none⟩) hg2 (fun h => h)).trans (hg3 i r bb hx)
          have z2 := (hf.cell (a := ⟨g', i, none⟩) hh2 (fun h => h)).trans (hh3 i r bb hx)
          have y1 := ord_eq hr64 hr64 rfl
          have y2 : FloatKind.f64.format.order (imE bb) (imE bb) = some .eq := by rw [im_ord]; unfold imO; rw [if_pos rfl]
          obtain ⟨X, hX⟩ : ∃ X, X = flE (r : Int) := ⟨_, rfl⟩
          obtain ⟨Y, hY⟩ : ∃ Y, Y = imE bb := ⟨_, rfl⟩
          rw [← hX] at z1 z2 y1
          rw [← hY] at z1 z2 y2
          have l1 : (i : Int) < (E.length : Int) := by omega
          clear hX hY hg1 hh1 hg3 hh3 hx hg2 hh2 hr64
          go_wp2_with fail
          go_quiet (fail)
          go_wp2_with fail
          go_roundw
          case rel => exact ⟨i + 1, by omega, by go_num, hf.trans (by (repeat' (first | (with_reducible exact Fr.refl _ _) | (with_reducible assumption) | (with_reducible refine Fr.alloc ?_ _) | (with_reducible refine Fr.drew ?_) | (with_reducible refine Fr.drewN ?_ _) | (with_reducible refine Fr.setCell ?_ _ _ ?_) | (exact Or.inr rfl) | (left; simp; done) | (left; simp; omega) | (simp; done) | (simp; omega) | omega))) (fun _ _ h => h)⟩
          case measure => simp [intOf]; omega
        · obtain rfl : i = E.length := by omega
          clear hlt F1 F2 HEb
          go_wp2_with fail
          have q10 := q9.trans hf (fun _ _ h => h)
          have G1' := hidE (G1.out.fr hf)
          have G2' := hidE (G2.out.fr hf)
          clear G1 G2 hf q9
          go_loopw [21] (fun v21 wr => ∃ i : Nat, i ≤ I.length ∧ v21 = .int .i64 (i : Int) ∧ Fr (fun _ => False) wo wr) (fun v21 _ => I.length - (intOf v21).toNat)
          case atStart => exact ⟨0, Nat.zero_le _, rfl, Fr.refl _ _⟩
          case round =>
            obtain ⟨wp, rfl⟩ : ∃ wp : World, wp = wr := ⟨_, rfl⟩
            obtain ⟨i, hi0, rfl, hf⟩ := hrel
            by_cases hlt : i < I.length
            · obtain ⟨g, c, hg1, hg3⟩ : ∃ g c, Value.slice Ai I.length ci = .slice (some ⟨g, 0, none⟩) I.length c ∧ CsE (Value.int .i64) wo g I := by
                rcases G1'.out with ⟨_, h2⟩ | ⟨g, c, h1, _, h2⟩
                · rw [h2] at hlt; simp at hlt
                · exact ⟨g, c, h1, h2⟩
              obtain ⟨g', c', hh1, hh3⟩ : ∃ g c, Value.slice Aj I.length cj = .slice (some ⟨g, 0, none⟩) I.length c ∧ CsE (Value.int .i64) wo g I := by
                rcases G2'.out with ⟨_, h2⟩ | ⟨g, c, h1, _, h2⟩
                · rw [h2] at hlt; simp at hlt
                · exact ⟨g, c, h1, h2⟩
              obtain rfl : Ai = some ⟨g, 0, none⟩ := by injection hg1
              obtain rfl : Aj = some ⟨g', 0, none⟩ := by injection hh1
              obtain ⟨x, hx⟩ : ∃ x, I[i]? = some x := ⟨_, List.getElem?_eq_getElem hlt⟩
              have z1 := (hg3.fr hf (fun h => h)).cell hx
              have z2 := (hh3.fr hf (fun h => h)).cell hx
              have l1 : (i : Int) < (I.length : Int) := by omega
              clear hg1 hh1 hg3 hh3 hx
              go_wp2_with fail
              go_quiet (fail)
              go_wp2_with fail
              go_roundw
              case rel => exact ⟨i + 1, by omega, by go_num, hf.trans (by (repeat' (first | (with_reducible exact Fr.refl _ _) | (with_reducible assumption) | (with_reducible refine Fr.alloc ?_ _) | (with_reducible refine Fr.drew ?_) | (with_reducible refine Fr.drewN ?_ _) | (with_reducible refine Fr.setCell ?_ _ _ ?_) | (exact Or.inr rfl) | (left; simp; done) | (left; simp; omega) | (simp; done) | (simp; omega) | omega))) (fun _ _ h => h)⟩
              case measure => simp [intOf]; omega
            · obtain rfl : i = I.length := by omega
              clear hlt G1' G2'
              go_wp2_with fail
              have q11 := q10.trans hf (fun _ _ h => h)
              clear hf q10
              go_loopw [22] (fun v22 wr => ∃ i : Nat, i ≤ L.length ∧ v22 = .int .i64 (i : Int) ∧ Fr (fun _ => False) wp wr) (fun v22 _ => L.length - (intOf v22).toNat)
              case atStart => exact ⟨0, Nat.zero_le _, rfl, Fr.refl _ _⟩
              case round =>
                obtain ⟨wq, rfl⟩ : ∃ wq : World, wq = wr := ⟨_, rfl⟩
                obtain ⟨i, hi0, rfl, hf⟩ := hrel
                have q12 := q11.trans hf (fun _ _ h => h)
                by_cases hlt : i < L.length
                · obtain ⟨r9, off9, rfl, hr9, hat9⟩ := C24_open (HC9.out wq q12).1 (by omega)
                  obtain ⟨r0, off0, rfl, hr0, hat0⟩ := C24_open (HC0.out wq q12) (by omega)
                  obtain ⟨s, hs⟩ : ∃ s, L[i]? = some s := ⟨_, List.getElem?_eq_getElem hlt⟩
                  obtain ⟨c0, c1, c2⟩ := hat9 i s hs
                  obtain ⟨e0, e1, e2⟩ := hat0 i s hs
                  have l1 : (i : Int) < (L.length : Int) := by omega
                  clear hat9 hat0 hs
                  go_wp2_with fail
                  go_quiet (fail)
                  go_wp2_with fail
                  go_roundw
                  case rel => exact ⟨i + 1, by omega, by go_num, hf.trans (by (repeat' (first | (with_reducible exact Fr.refl _ _) | (with_reducible assumption) | (with_reducible refine Fr.alloc ?_ _) | (with_reducible refine Fr.drew ?_) | (with_reducible refine Fr.drewN ?_ _) | (with_reducible refine Fr.setCell ?_ _ _ ?_) | (exact Or.inr rfl) | (left; simp; done) | (left; simp; omega) | (simp; done) | (simp; omega) | omega))) (fun _ _ h => h)⟩
                  case measure => simp [intOf]; omega
                · obtain rfl : i = L.length := by omega
                  clear hlt
                  go_wp2_with fail
                  refine (alive_at _).mono ?_
                  rintro x w10 ⟨rfl, k10⟩
                  go_wp2
                  go_ret
                  exact ⟨rfl, (f1.trans q12 (fun _ _ h => h)).trans k10 (fun _ _ h => h)⟩
end Go.Proofs.Ytapagoaoglmegaa
