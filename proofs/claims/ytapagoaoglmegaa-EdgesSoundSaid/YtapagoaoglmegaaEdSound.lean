/- EdgesSound: the walk. -/
import Derived.Test.YtapagoaoglmegaaEdDepth
import Derived.IntWalk
import Derived.Deep.DeepCutAuto
namespace Go.Proofs.Ytapagoaoglmegaa
open Go.RowKit Go.Proofs.YtapagoaoglmegaaW.PrintWords Go.Proofs.YtapagoaoglmegaaW.PrintLast Go.Proofs.YtapagoaoglmegaaW.PrintMore PCl
attribute [local go_sem] max2_int min2_int max_two min_two
set_option linter.unusedVariables false
set_option linter.unusedSimpArgs false
set_option maxRecDepth 100000
set_option maxHeartbeats 16000000 in
theorem edgesSound_walk (A0 : Option Addr) (len0 cap0 : Nat) (a1 : Int) (A2 : Option Addr) (len2 cap2 : Nat) (w : World) (h0 : RdS [.i .i64, .i .i64, .i .i64] w A0 len0 cap0) (w1 : (Lit.int .i64 a1).wf = true) (h2 : RdS [.b] w A2 len2 cap2) :
  Calls Try.prog 11 #[.slice A0 len0 cap0, .int .i64 a1, .slice A2 len2 cap2] w fun e w' => e = .returned (.bool true) ∧ Fr (fun _ => False) w w' := by
 obtain ⟨l, rfl, hc, hC, _⟩ := span_open h0
 have hle2 := RdS.len_le h2
 have H2 := hidE h2
 have HF := hidE (fit_at hC hc)
 obtain ⟨pt, hpt⟩ : ∃ pt, pt = mskE a1 := ⟨_, rfl⟩
 have hpb := mskE_bd a1
 rw [← hpt] at hpb
 have ept : bits .and .i64 a1 4611686018427387903 = pt := hpt.symm
 clear h0 w1 h2 hC hpt
 go_enter Try.func11, Try.ntmps11
 go_wp2_with fail
 refine HF.out.mono ?_
 rintro e w1 ⟨v, rfl, hv, k1⟩
 clear HF
 obtain ⟨L, hL⟩ : ∃ L, L = fitZ l := ⟨_, rfl⟩
 have hLl := fitZ_len l
 have hLo : okR (fitZ l) := fun s hs => by have := fitZ_ok l s hs; omega
 have S1 : SlS w.heap.size w1 v (fitZ l) := hv.form
 rw [← hL] at S1 hLl hLo
 obtain ⟨A, cp, hvA, _⟩ := S1.C
 subst hvA
 clear hv hL
 go_wp2_with fail
 go_loopw [7] (fun v7 wr => ∃ (i : Nat) (M : List S24), i ≤ L.length ∧ v7 = .int .i64 (i : Int) ∧ M.length = L.length ∧ Hid (okR M) ∧ SlS w.heap.size wr (.slice A L.length cp) M ∧ Fr (fun _ => False) w wr) (fun v7 _ => L.length - (intOf v7).toNat)
 case atStart => exact ⟨0, L, Nat.zero_le _, rfl, rfl, hidE hLo, S1, k1⟩
 case round =>
  clear S1 k1 ept hLo
  obtain ⟨i, M, hi, rfl, hML, HO, hS, hf⟩ := hrel
  have HML := hidE hML
  clear hML
  by_cases hlt : i < L.length
  ·as_aux_lemma =>
    have t1 : (i : Int) < (L.length : Int) := by omega
    obtain ⟨g, c, hv, hg, hm, hr⟩ := hS.get (i := i) (by rw [HML.out]; exact hlt)
    obtain rfl : A = some ⟨g, 0, none⟩ := by injection hv
    have HCP : Hid (cp = c) := hidE (by injection hv)
    obtain ⟨s, hs⟩ : ∃ s, M[i]? = some s := ⟨_, List.getElem?_eq_getElem (by rw [HML.out]; exact hlt)⟩
    by_cases h2 : i < len2
    ·obtain ⟨bb, bo, q, rfl, hbb, hbc⟩ := bool_at H2.out h2
     have hbc' := (hf.cell (a := ⟨bb, bo + i, none⟩) hbb (fun h => h)).trans hbc
     have t2 : (i : Int) < (len2 : Int) := by omega
     have t3 : decide ((i : Int) < (len2 : Int)) = true := decide_eq_true t2
     cases q with
     | false =>
      clear hbc hs hr hm hv
      go_wp2
      go_roundw
      case rel => exact ⟨i + 1, M, by omega, by go_num, HML.out, HO, hS, hf⟩
      case measure => simp [intOf]; omega
     | true =>
      obtain ⟨d0, d1, d2⟩ := hr.at3 hs
      have q1 := hr.free (i * 3 + 1)
      have q2 := hr.free (i * 3 + 2)
      have lg := hr.lt
      have t4 : (i : Int) < (M.length : Int) := by rw [HML.out]; exact t1
      have t0 : (0 : Int) ≤ (i : Int) := by omega
      obtain ⟨n1, hn1⟩ : ∃ n1, n1 = mn s.f1 pt := ⟨_, rfl⟩
      obtain ⟨n2, hn2⟩ : ∃ n2, n2 = mx s.f2 pt := ⟨_, rfl⟩
      have e3 : (if pt < s.f1 then pt else s.f1) = n1 := hn1.symm
      have e4 : (if s.f2 < pt then pt else s.f2) = n2 := hn2.symm
      have HN1 := hidE hn1
      have HN2 := hidE hn2
      have HR := hidE hr
      have HS := hidE hs
      clear hn1 hn2 hbc hr hs hS hv
      go_wp2_with fail
      have d1d : wr.drew.cell? ⟨g, i * 3 + 1, none⟩ = some (.int .i64 s.f1) := d1
      have msd : wr.drew.cell? ⟨g, i * 3 + 2, none⟩ = some (.int .i64 s.f2) ∧ True := ⟨d2, trivial⟩
      refine start_ (n := 24) (S := fun w' => w'.cell? ⟨g, i * 3 + 2, none⟩ = some (.int .i64 s.f2) ∧ True) (ds := [23]) #[oN,oN,oN,oN,oN,oN,oN,oN,oN,oN,oN,oN,oN,oN,oN,oN,oN,oN,oN,oN,oN,oN,oN,oN] (by kernel_rfl) rfl rfl ⟨msd.1, msd.2⟩ (fun hHeld => ?_)
      refine pure_ (i := 0) (N := some 39) (v := ?_) (a' := ?_) #[oY,oN,oN,oN,oN,oN,oN,oN,oN,oN,oN,oN,oN,oN,oN,oN,oN,oN,oN,oN,oN,oN,oN,oN] rfl rfl (by kernel_rfl) (fun _ _ _ h => h) (Or.inl ⟨by rfl, ?_⟩) ?_ ?_
      rotate_left
      ·intro w'
       go_simp
       with_reducible rfl
      rotate_left
      ·simp only [Act.put, List.setIfInBounds_toArray, List.set_cons_zero, List.set_cons_succ, i64_w, i32_w]
       rfl
      refine pure_ (i := 1) (N := some 40) (v := ?_) (a' := ?_) #[oY,oY,oN,oN,oN,oN,oN,oN,oN,oN,oN,oN,oN,oN,oN,oN,oN,oN,oN,oN,oN,oN,oN,oN] rfl rfl (by kernel_rfl) (fun _ _ _ h => h) (Or.inl ⟨by rfl, ?_⟩) ?_ ?_
      rotate_left
      ·intro w'
       go_simp
       with_reducible rfl
      rotate_left
      ·simp only [Act.put, List.setIfInBounds_toArray, List.set_cons_zero, List.set_cons_succ, i64_w, i32_w]
       rfl
      refine pure_ (i := 2) (N := some 41) (v := ?_) (a' := ?_) #[oY,oY,oY,oN,oN,oN,oN,oN,oN,oN,oN,oN,oN,oN,oN,oN,oN,oN,oN,oN,oN,oN,oN,oN] rfl rfl (by kernel_rfl) (fun _ _ _ h => h) (Or.inl ⟨by rfl, ?_⟩) ?_ ?_
      rotate_left
      ·intro w'
       go_simp
       with_reducible rfl
      rotate_left
      ·simp only [Act.put, List.setIfInBounds_toArray, List.set_cons_zero, List.set_cons_succ, i64_w, i32_w]
       rfl
      refine pure_ (i := 3) (N := some 42) (v := ?_) (a' := ?_) #[oY,oY,oY,oY,oN,oN,oN,oN,oN,oN,oN,oN,oN,oN,oN,oN,oN,oN,oN,oN,oN,oN,oN,oN] rfl rfl (by kernel_rfl) (fun _ _ _ h => h) (Or.inl ⟨by rfl, ?_⟩) ?_ ?_
      rotate_left
      ·intro w'
       go_simp
       with_reducible rfl
      rotate_left
      ·simp only [Act.put, List.setIfInBounds_toArray, List.set_cons_zero, List.set_cons_succ, i64_w, i32_w]
       rfl
      refine pure_ (i := 4) (N := some 43) (v := ?_) (a' := ?_) #[oY,oY,oY,oY,oY,oN,oN,oN,oN,oN,oN,oN,oN,oN,oN,oN,oN,oN,oN,oN,oN,oN,oN,oN] rfl rfl (by kernel_rfl) (fun _ _ _ h => h) (Or.inl ⟨by rfl, ?_⟩) ?_ ?_
      rotate_left
      ·intro w'
       go_simp
       with_reducible rfl
      rotate_left
      ·simp only [Act.put, List.setIfInBounds_toArray, List.set_cons_zero, List.set_cons_succ, i64_w, i32_w]
       rfl
      refine pure_ (i := 5) (N := some 44) (v := ?_) (a' := ?_) #[oY,oY,oY,oY,oY,oY,oN,oN,oN,oN,oN,oN,oN,oN,oN,oN,oN,oN,oN,oN,oN,oN,oN,oN] rfl rfl (by kernel_rfl) (fun _ _ _ h => h) (Or.inl ⟨by rfl, ?_⟩) ?_ ?_
      rotate_left
      ·intro w'
       go_simp
       with_reducible rfl
      rotate_left
      ·simp only [Act.put, List.setIfInBounds_toArray, List.set_cons_zero, List.set_cons_succ, i64_w, i32_w]
       rfl
      refine pure_ (i := 6) (N := some 45) (v := ?_) (a' := ?_) #[oY,oY,oY,oY,oY,oY,oY,oN,oN,oN,oN,oN,oN,oN,oN,oN,oN,oN,oN,oN,oN,oN,oN,oN] rfl rfl (by kernel_rfl) (fun _ _ _ h => h) (Or.inl ⟨by rfl, ?_⟩) ?_ ?_
      rotate_left
      ·intro w'
       go_simp
       with_reducible rfl
      rotate_left
      ·simp only [Act.put, List.setIfInBounds_toArray, List.set_cons_zero, List.set_cons_succ, i64_w, i32_w]
       rfl
      refine pure_ (i := 7) (N := some 46) (v := ?_) (a' := ?_) #[oY,oY,oY,oY,oY,oY,oY,oY,oN,oN,oN,oN,oN,oN,oN,oN,oN,oN,oN,oN,oN,oN,oN,oN] rfl rfl (by kernel_rfl) (fun _ _ _ h => h) (Or.inl ⟨by rfl, ?_⟩) ?_ ?_
      rotate_left
      ·intro w'
       go_simp
       with_reducible rfl
      rotate_left
      ·simp only [Act.put, List.setIfInBounds_toArray, List.set_cons_zero, List.set_cons_succ, i64_w, i32_w]
       rfl
      refine pure_ (i := 9) (N := some 48) (v := ?_) (a' := ?_) #[oY,oY,oY,oY,oY,oY,oY,oY,oN,oY,oN,oN,oN,oN,oN,oN,oN,oN,oN,oN,oN,oN,oN,oN] rfl rfl (by kernel_rfl) (fun _ _ _ h => h) (Or.inl ⟨by rfl, ?_⟩) ?_ ?_
      rotate_left
      ·intro w'
       go_simp
       with_reducible rfl
      rotate_left
      ·simp only [Act.put, List.setIfInBounds_toArray, List.set_cons_zero, List.set_cons_succ, i64_w, i32_w]
       rfl
      refine pure_ (i := 11) (N := some 50) (v := ?_) (a' := ?_) #[oY,oY,oY,oY,oY,oY,oY,oY,oN,oY,oN,oY,oN,oN,oN,oN,oN,oN,oN,oN,oN,oN,oN,oN] rfl rfl (by kernel_rfl) (fun _ _ _ h => h) (Or.inl ⟨by rfl, ?_⟩) ?_ ?_
      rotate_left
      ·intro w'
       go_simp
       with_reducible rfl
      rotate_left
      ·simp only [Act.put, List.setIfInBounds_toArray, List.set_cons_zero, List.set_cons_succ, i64_w, i32_w]
       rfl
      refine pure_ (i := 12) (N := some 51) (v := ?_) (a' := ?_) #[oY,oY,oY,oY,oY,oY,oY,oY,oN,oY,oN,oY,oY,oN,oN,oN,oN,oN,oN,oN,oN,oN,oN,oN] rfl rfl (by kernel_rfl) (fun _ _ _ h => h) (Or.inl ⟨by rfl, ?_⟩) ?_ ?_
      rotate_left
      ·intro w'
       go_simp
       with_reducible rfl
      rotate_left
      ·simp only [Act.put, List.setIfInBounds_toArray, List.set_cons_zero, List.set_cons_succ, i64_w, i32_w]
       rfl
      refine pure_ (i := 13) (N := some 52) (v := ?_) (a' := ?_) #[oY,oY,oY,oY,oY,oY,oY,oY,oN,oY,oN,oY,oY,oY,oN,oN,oN,oN,oN,oN,oN,oN,oN,oN] rfl rfl (by kernel_rfl) (fun _ _ _ h => h) (Or.inl ⟨by rfl, ?_⟩) ?_ ?_
      rotate_left
      ·intro w'
       go_simp
       with_reducible rfl
      rotate_left
      ·simp only [Act.put, List.setIfInBounds_toArray, List.set_cons_zero, List.set_cons_succ, i64_w, i32_w]
       rfl
      refine pure_ (i := 14) (N := some 53) (v := ?_) (a' := ?_) #[oY,oY,oY,oY,oY,oY,oY,oY,oN,oY,oN,oY,oY,oY,oY,oN,oN,oN,oN,oN,oN,oN,oN,oN] rfl rfl (by kernel_rfl) (fun _ _ _ h => h) (Or.inl ⟨by rfl, ?_⟩) ?_ ?_
      rotate_left
      ·intro w'
       go_simp
       with_reducible rfl
      rotate_left
      ·simp only [Act.put, List.setIfInBounds_toArray, List.set_cons_zero, List.set_cons_succ, i64_w, i32_w]
       rfl
      refine pure_ (i := 16) (N := some 55) (v := ?_) (a' := ?_) #[oY,oY,oY,oY,oY,oY,oY,oY,oN,oY,oN,oY,oY,oY,oY,oN,oY,oN,oN,oN,oN,oN,oN,oN] rfl rfl (by kernel_rfl) (fun _ _ _ h => h) (Or.inl ⟨by rfl, ?_⟩) ?_ ?_
      rotate_left
      ·intro w'
       go_simp
       with_reducible rfl
      rotate_left
      ·simp only [Act.put, List.setIfInBounds_toArray, List.set_cons_zero, List.set_cons_succ, i64_w, i32_w]
       rfl
      refine take_ (i := 15) (N := some 54) (v := ?_) (a' := ?_) #[oY,oY,oY,oY,oY,oY,oY,oY,oN,oY,oN,oY,oY,oY,oY,oY,oY,oN,oN,oN,oN,oN,oN,oN] rfl rfl (by kernel_rfl) (fun _ _ _ h => h) (Or.inl ⟨by rfl, ?_⟩) hHeld ?_ ?_
      rotate_left
      ·rintro w' ⟨s0, s1⟩
       go_simp
       with_reducible rfl
      rotate_left
      ·simp only [Act.put, List.setIfInBounds_toArray, List.set_cons_zero, List.set_cons_succ, i64_w, i32_w]
       rfl
      refine pure_ (i := 17) (N := some 56) (v := ?_) (a' := ?_) #[oY,oY,oY,oY,oY,oY,oY,oY,oN,oY,oN,oY,oY,oY,oY,oY,oY,oY,oN,oN,oN,oN,oN,oN] rfl rfl (by kernel_rfl) (fun _ _ _ h => h) (Or.inl ⟨by rfl, ?_⟩) ?_ ?_
      rotate_left
      ·intro w'
       go_simp
       with_reducible rfl
      rotate_left
      ·simp only [Act.put, List.setIfInBounds_toArray, List.set_cons_zero, List.set_cons_succ, i64_w, i32_w]
       rfl
      refine one_ (i := 8) (N := some 47) #[oY,oY,oY,oY,oY,oY,oY,oY,oY,oY,oN,oY,oY,oY,oY,oY,oY,oY,oN,oN,oN,oN,oN,oN] rfl rfl (by kernel_rfl) (by decide) (fun K hK => ?_)
      refine value_ (w1 := ?_) (v := ?_) (by rfl) rfl ?_ ?_
      rotate_left 2
      ·go_simp
       constructor
       ·rfl
       ·rfl
      refine hK.out _ _ ⟨msd.1, msd.2⟩ (fun hHeld => ?_)
      clear hK K
      refine norm_ (a' := ?_) ?_ ?_
      rotate_left
      ·show Act.put _ (some 47) _ = _
       simp only [Act.put, List.setIfInBounds_toArray, List.set_cons_zero, List.set_cons_succ, i64_w, i32_w]
       rfl
      refine pure_ (i := 10) (N := some 49) (v := ?_) (a' := ?_) #[oY,oY,oY,oY,oY,oY,oY,oY,oY,oY,oY,oY,oY,oY,oY,oY,oY,oY,oN,oN,oN,oN,oN,oN] rfl rfl (by kernel_rfl) (fun _ _ _ h => h) (Or.inl ⟨by rfl, ?_⟩) ?_ ?_
      rotate_left
      ·intro w'
       go_simp
       with_reducible rfl
      rotate_left
      ·simp only [Act.put, List.setIfInBounds_toArray, List.set_cons_zero, List.set_cons_succ, i64_w, i32_w]
       rfl
      refine pure_ (i := 18) (N := some 57) (v := ?_) (a' := ?_) #[oY,oY,oY,oY,oY,oY,oY,oY,oY,oY,oY,oY,oY,oY,oY,oY,oY,oY,oY,oN,oN,oN,oN,oN] rfl rfl (by kernel_rfl) (fun _ _ _ h => h) (Or.inl ⟨by rfl, ?_⟩) ?_ ?_
      rotate_left
      ·intro w'
       go_simp
       with_reducible rfl
      rotate_left
      ·simp only [Act.put, List.setIfInBounds_toArray, List.set_cons_zero, List.set_cons_succ, i64_w, i32_w]
       rfl
      refine pure_ (i := 19) (N := some 58) (v := ?_) (a' := ?_) #[oY,oY,oY,oY,oY,oY,oY,oY,oY,oY,oY,oY,oY,oY,oY,oY,oY,oY,oY,oY,oN,oN,oN,oN] rfl rfl (by kernel_rfl) (fun _ _ _ h => h) (Or.inl ⟨by rfl, ?_⟩) ?_ ?_
      rotate_left
      ·intro w'
       go_simp
       with_reducible rfl
      rotate_left
      ·simp only [Act.put, List.setIfInBounds_toArray, List.set_cons_zero, List.set_cons_succ, i64_w, i32_w]
       rfl
      refine one_ (i := 20) (N := none) #[oY,oY,oY,oY,oY,oY,oY,oY,oY,oY,oY,oY,oY,oY,oY,oY,oY,oY,oY,oY,oY,oN,oN,oN] rfl rfl (by kernel_rfl) (by decide) (fun K hK => ?_)
      refine skip_ (w1 := ?_) (by rfl) rfl ?_ ?_
      rotate_left
      ·go_simp
       rfl
      generalize hW5 : World.drew (World.setCell wr _ _) = W5
      have ms5 : W5.cell? ⟨g, i * 3 + 2, none⟩ = some (.int .i64 s.f2) ∧ True := ⟨by subst hW5; (go_simp; done), trivial⟩
      have q5 : W5.frozen? ⟨g, i * 3 + 2, none⟩ = false := by subst hW5; go_simp
      refine hK.out _ _ ⟨ms5.1, ms5.2⟩ (fun hHeld => ?_)
      clear hK K
      refine pure_ (i := 21) (N := some 59) (v := ?_) (a' := ?_) #[oY,oY,oY,oY,oY,oY,oY,oY,oY,oY,oY,oY,oY,oY,oY,oY,oY,oY,oY,oY,oY,oY,oN,oN] rfl rfl (by kernel_rfl) (fun _ _ _ h => h) (Or.inl ⟨by rfl, ?_⟩) ?_ ?_
      rotate_left
      ·intro w'
       go_simp
       with_reducible rfl
      rotate_left
      ·simp only [Act.put, List.setIfInBounds_toArray, List.set_cons_zero, List.set_cons_succ, i64_w, i32_w]
       rfl
      refine pure_ (i := 22) (N := some 60) (v := ?_) (a' := ?_) #[oY,oY,oY,oY,oY,oY,oY,oY,oY,oY,oY,oY,oY,oY,oY,oY,oY,oY,oY,oY,oY,oY,oY,oN] rfl rfl (by kernel_rfl) (fun _ _ _ h => h) (Or.inl ⟨by rfl, ?_⟩) ?_ ?_
      rotate_left
      ·intro w'
       go_simp
       with_reducible rfl
      rotate_left
      ·simp only [Act.put, List.setIfInBounds_toArray, List.set_cons_zero, List.set_cons_succ, i64_w, i32_w]
       rfl
      refine last_ (i := 23) (N := none) #[oY,oY,oY,oY,oY,oY,oY,oY,oY,oY,oY,oY,oY,oY,oY,oY,oY,oY,oY,oY,oY,oY,oY,oY] rfl rfl (by kernel_rfl) (by decide) (fun K hK => ?_)
      refine skip_ (w1 := ?_) (by rfl) rfl ?_ ?_
      rotate_left
      ·go_simp
       rfl
      refine hK.out _ _ ?_
      clear hK K
      refine done_ (by kernel_rfl) ?_
      have h5 : W5 = World.drew (World.setCell wr ⟨g, i * 3 + 1, none⟩ (.int .i64 n1)) := hW5.symm
      have H5 := hidE h5
      clear hHeld ms5 q5 h5 hW5 msd d0 d1 d2 d1d q1 q2 lg e3 e4 hbc'
      generalize hW6 : World.setCell W5 _ _ = W6
      have h6 : W6 = (World.setCell (World.setCell wr ⟨g, i * 3 + 1, none⟩ (.int .i64 n1)) ⟨g, i * 3 + 2, none⟩ (.int .i64 n2)).drew := by rw [← hW6, H5.out]; rfl
      have r6 : RowS 24 W6 g c (M.set i ⟨s.f0, n1, n2⟩) := by rw [h6]; exact (HR.out.set2 HS.out n1 n2).drew
      have f6 : Fr (fun j => j = g) wr W6 := by rw [h6]; (repeat' (first | (with_reducible exact Fr.refl _ _) | (with_reducible assumption) | (with_reducible refine Fr.alloc ?_ _) | (with_reducible refine Fr.drew ?_) | (with_reducible refine Fr.drewN ?_ _) | (with_reducible refine Fr.setCell ?_ _ _ ?_) | (exact Or.inr rfl) | (left; simp; done) | (left; simp; omega) | (simp; done) | (simp; omega) | omega))
      have hwr := hf.size
      clear hW6 h6
      have hW6' : SlS w.heap.size W6 (.slice (some ⟨g, 0, none⟩) L.length cp) (M.set i ⟨s.f0, n1, n2⟩) := .inr ⟨g, c, by rw [List.length_set, HML.out]; exact congrArg _ HCP.out, hg, hm, r6⟩
      have hP := okR_stretch HO.out HS.out hpb
      rw [← HN1.out, ← HN2.out] at hP
      have HP := hidE hP
      have F6 := hf.trans f6 (fun j hj e => by omega)
      clear hP r6 f6
      go_wp2
      go_roundw
      case rel => exact ⟨i + 1, M.set i ⟨s.f0, n1, n2⟩, by omega, by go_num, by rw [List.length_set]; exact HML.out, HP, hW6', F6⟩
      case measure => simp [intOf]; omega
    ·have t2 : ¬ (i : Int) < (len2 : Int) := by omega
     have t3 : decide ((i : Int) < (len2 : Int)) = false := decide_eq_false t2
     clear hs hr hm hv
     go_wp2
     go_roundw
     case rel => exact ⟨i + 1, M, by omega, by go_num, HML.out, HO, hS, hf⟩
     case measure => simp [intOf]; omega
  ·as_aux_lemma =>
    obtain rfl : i = L.length := by omega
    clear hlt H2 hle2
    have hok : okE M = true := okE_of (by rw [HML.out]; exact hLl) (fun s hs => by have := HO.out s hs; omega)
    have HQ : Hid (∀ W, Fr (fun _ => False) wr W → Calls Try.prog 39 #[.slice A L.length cp] W fun e w' => e = .returned (.tuple #[.int .i64 (hullZ M).1, .int .i64 (hullZ M).2.1, .int .i64 (hullZ M).2.2]) ∧ Fr (fun _ => False) W w') := hidE (fun W k => by
     obtain ⟨A', c', e, hc', hC'⟩ := (hS.fr k).C
     injection e with e1 e2 e3
     subst e1 e3
     have := hull_at hC' hc'
     rwa [HML.out] at this)
    have DQ : Hid (∀ (p : Int) W, Fr (fun _ => False) wr W → Calls Try.prog 40 #[.slice A L.length cp, .int .i64 p] W fun e w' => e = .returned (.int .i64 (depE M p : Nat)) ∧ Fr (fun _ => False) W w') := hidE (fun p W k => by
     obtain ⟨A', c', e, hc', hC'⟩ := (hS.fr k).C
     injection e with e1 e2 e3
     subst e1 e3
     have := depth_at hC' hc' (by rw [HML.out]; omega) p
     rwa [HML.out] at this)
    have DL : Hid (∀ p, depE M p ≤ 16) := hidE (fun p => by have := dep_le M p; have := HML.out; omega)
    have HC : Hid (∀ i, i < L.length → ∃ g s, A = some ⟨g, 0, none⟩ ∧ M[i]? = some s ∧ g < wr.heap.size ∧ AtS wr g (i * 3) s) := hidE (fun i hi => by
     obtain ⟨g, c, hv, hg, hm, hr⟩ := hS.get (i := i) (by rw [HML.out]; exact hi)
     obtain ⟨s, hs⟩ : ∃ s, M[i]? = some s := ⟨_, List.getElem?_eq_getElem (by rw [HML.out]; exact hi)⟩
     exact ⟨g, s, by injection hv, hs, hr.lt, hr.at3 hs⟩)
    have d0 := DL.out pt
    clear hS
    obtain ⟨wo, rfl⟩ : ∃ wo : World, wo = wr := ⟨_, rfl⟩
    rcases hull_cases hok with ⟨hno, hz⟩ | ⟨lo, hi', hH, hz⟩
    ·as_aux_lemma =>
      rw [hz] at HQ
      have HN : Hid (∀ p, 2 * depE M p ≤ L.length) := hidE (fun p => by have := hno p; rwa [HML.out] at this)
      have dn := HN.out pt
      generalize hd : depE M pt = D at d0 dn
      have HD := hidE hd
      have t1 : decide (2 * (D : Int) > (L.length : Int)) = false := decide_eq_false (by omega)
      have t2 : decide ((L.length : Int) < 2 * (D : Int)) = false := decide_eq_false (by omega)
      clear hok hno hz hd
      go_wp2_with fail
      refine (HQ.out _ (Fr.refl _ _)).mono ?_
      rintro e w5 ⟨rfl, k5⟩
      go_wp2_with fail
      refine (DQ.out pt _ k5).mono ?_
      rintro e w6 ⟨rfl, k6⟩
      rw [HD.out]
      have f6 := k5.trans k6 (fun _ _ h => h)
      clear k5 k6 HQ
      go_wp2_with fail
      go_loopw [12] (fun v12 wq => ∃ i : Nat, i ≤ L.length ∧ v12 = .int .i64 (i : Int) ∧ Fr (fun _ => False) wo wq) (fun v12 _ => L.length - (intOf v12).toNat)
      case atStart => exact ⟨0, Nat.zero_le _, rfl, f6⟩
      case round =>
       clear f6
       obtain ⟨i, hi3, rfl, hq⟩ := hrel
       by_cases hlt : i < L.length
       ·obtain ⟨g, s, rfl, hs, hg, hat⟩ := HC.out i hlt
        obtain ⟨c0, c1, c2⟩ := hat.fr hq (fun h => h)
        have u1 : (i : Int) < (L.length : Int) := by omega
        have dn2 := HN.out s.f1
        have d2 := DL.out s.f1
        generalize hd2 : depE M s.f1 = E at d2 dn2
        have HD2 := hidE hd2
        have u2 : decide (2 * (E : Int) > (L.length : Int)) = false := decide_eq_false (by omega)
        have u3 : decide ((L.length : Int) < 2 * (E : Int)) = false := decide_eq_false (by omega)
        clear hd2 hs hat hg
        go_wp2_with fail
        refine (DQ.out s.f1 _ hq).mono ?_
        rintro e w7 ⟨rfl, k7⟩
        rw [HD2.out]
        have f7 := hq.trans k7 (fun _ _ h => h)
        clear k7 c0 c1 c2
        go_wp2
        go_roundw
        case rel => exact ⟨i + 1, by omega, by go_num, f7⟩
        case measure => simp [intOf]; omega
       ·obtain rfl : i = L.length := by omega
        clear hlt
        go_wp2_with fail
        refine (alive_at _).mono ?_
        rintro e w8 ⟨rfl, k8⟩
        go_wp2
        go_ret
        exact ⟨rfl, (hf.trans hq (fun _ _ h => h)).trans k8 (fun _ _ h => h)⟩
    ·as_aux_lemma =>
      rw [hz] at HQ
      have HN : Hid (∀ p, ¬ (lo ≤ p ∧ p ≤ hi') → 2 * depE M p ≤ L.length) := hidE (fun p h => by
       have := hH.all p
       have e := HML.out
       by_cases c : M.length < 2 * depE M p
       ·exact absurd (this c) h
       ·omega)
      have HLo : Hid (L.length < 2 * depE M lo) := hidE (by have := hH.lo_deep; rwa [HML.out] at this)
      have HHi : Hid (L.length < 2 * depE M hi') := hidE (by have := hH.hi_deep; rwa [HML.out] at this)
      have HMl : Hid (M.any (fun s => s.f1 == lo) = true) := hidE (by obtain ⟨s, hs, e⟩ := hH.lo_mem; exact List.any_eq_true.2 ⟨s, hs, by simp [e]⟩)
      have HMh : Hid (M.any (fun s => s.f2 == hi') = true) := hidE (by obtain ⟨s, hs, e⟩ := hH.hi_mem; exact List.any_eq_true.2 ⟨s, hs, by simp [e]⟩)
      have hlh : lo ≤ hi' := (hH.all lo hH.lo_deep).2
      obtain ⟨hlo0, hlo1⟩ : 0 ≤ lo ∧ lo ≤ 4611686018427387904 := by obtain ⟨s, hs, e⟩ := hH.lo_mem; have := HO.out s hs; omega
      obtain ⟨hhi0, hhi1⟩ : 0 ≤ hi' ∧ hi' ≤ 4611686018427387904 := by obtain ⟨s, hs, e⟩ := hH.hi_mem; have := HO.out s hs; omega
      have hdeep : Hid (L.length < 2 * depE M pt → lo ≤ pt ∧ pt ≤ hi') := hidE (fun h => hH.all pt (by rw [HML.out]; exact h))
      generalize hd : depE M pt = D at d0
      have HD := hidE hd
      clear hok hH hz hd
      go_wp2_with fail
      refine (HQ.out _ (Fr.refl _ _)).mono ?_
      rintro e w5 ⟨rfl, k5⟩
      go_wp2_with fail
      refine (DQ.out pt _ k5).mono ?_
      rintro e w6 ⟨rfl, k6⟩
      rw [HD.out]
      have f6 := k5.trans k6 (fun _ _ h => h)
      clear k5 k6 HQ
      obtain ⟨dp, hdp⟩ : ∃ dp, dp = decide ((L.length : Int) < 2 * (D : Int)) := ⟨_, rfl⟩
      have HDP := hidE hdp
      have hdp' := hdp.symm
      clear hdp
      go_upto_region 10 with fail
      go_cut [11, 88] (fun s11 s88 wx => ∃ dq, s11 = .bool dq ∧ s88 = .bool false ∧ Fr (fun _ => False) wo wx)
      case first =>
       cases hb : dp with
       | true =>
        have hlt : L.length < 2 * D := by have := HDP.out; rw [hb] at this; have := of_decide_eq_true this.symm; omega
        have hin := hdeep.out (by rw [HD.out]; exact hlt)
        have x1 : decide (pt < lo) = false := decide_eq_false (by omega)
        have x2 : decide (pt > hi') = false := decide_eq_false (by omega)
        clear hin hlt hb
        go_wp2
        go_meet
        exact ⟨_, rfl, rfl, f6⟩
       | false =>
        clear hb
        go_wp2
        go_meet
        exact ⟨_, rfl, rfl, f6⟩
      case rest =>
       obtain ⟨dq, rfl, rfl, f7⟩ := hcut
       clear f6 hdp' HDP
       go_wp2_with fail
       go_loopw [13, 14, 15] (fun v13 v14 v15 wq => ∃ (i : Nat) (b1 b2 : Bool), i ≤ L.length ∧ v13 = .bool b1 ∧ v14 = .bool b2 ∧ v15 = .int .i64 (i : Int) ∧ Hid (b1 = (M.take i).any (fun s => s.f1 == lo)) ∧ Hid (b2 = (M.take i).any (fun s => s.f2 == hi')) ∧ Fr (fun _ => False) wo wq) (fun _ _ v15 _ => L.length - (intOf v15).toNat)
       case atStart => exact ⟨0, false, false, Nat.zero_le _, rfl, rfl, rfl, hidE (by simp), hidE (by simp), f7⟩
       case round =>
        clear f7
        obtain ⟨i, b1, b2, hi3, rfl, rfl, rfl, hb1, hb2, hq⟩ := hrel
        by_cases hlt : i < L.length
        ·obtain ⟨g, s, rfl, hs, hg, hat⟩ := HC.out i hlt
         obtain ⟨c0, c1, c2⟩ := hat.fr hq (fun h => h)
         have u1 : (i : Int) < (L.length : Int) := by omega
         have hn1 : Hid ((b1 || (s.f1 == lo)) = (M.take (i + 1)).any (fun s => s.f1 == lo)) := hidE (by rw [any_snoc _ hs, hb1.out])
         have hn2 : Hid ((b2 || (s.f2 == hi')) = (M.take (i + 1)).any (fun s => s.f2 == hi')) := hidE (by rw [any_snoc _ hs, hb2.out])
         clear hb1 hb2 hs hat hg
         cases b1 <;> cases b2
         all_goals
          go_wp2
          go_roundw
          case rel => exact ⟨i + 1, _, _, by omega, rfl, rfl, by go_num, by simpa using hn1, by simpa using hn2, hq⟩
          case measure => simp [intOf]; omega
        ·obtain rfl : i = L.length := by omega
         have e1 : b1 = true := by rw [hb1.out, List.take_of_length_le (by rw [HML.out]; exact Nat.le_refl _)]; exact HMl.out
         have e2 : b2 = true := by rw [hb2.out, List.take_of_length_le (by rw [HML.out]; exact Nat.le_refl _)]; exact HMh.out
         subst e1 e2
         clear hlt hb1 hb2
         have l1 : decide (lo > hi') = false := decide_eq_false (by omega)
         have dlo := DL.out lo
         have dhi := DL.out hi'
         have mlo := HLo.out
         have mhi := HHi.out
         generalize hdl : depE M lo = Dl at dlo mlo
         generalize hdh : depE M hi' = Dh at dhi mhi
         have HDl := hidE hdl
         have HDh := hidE hdh
         have l2 : decide (2 * (Dl : Int) ≤ (L.length : Int)) = false := decide_eq_false (by omega)
         have l3 : decide (2 * (Dh : Int) ≤ (L.length : Int)) = false := decide_eq_false (by omega)
         clear hdl hdh
         go_wp2_with fail
         refine (DQ.out lo _ hq).mono ?_
         rintro e w7 ⟨rfl, k7⟩
         rw [HDl.out]
         have f7 := hq.trans k7 (fun _ _ h => h)
         go_wp2_with fail
         refine (DQ.out hi' _ f7).mono ?_
         rintro e w8 ⟨rfl, k8⟩
         rw [HDh.out]
         have f8 := f7.trans k8 (fun _ _ h => h)
         clear f7 k7 k8 hq
         go_wp2_with fail
         clear l2 l3 mlo mhi dlo dhi
         go_loopw [16] (fun v16 wq => ∃ (i : Nat), i ≤ L.length ∧ v16 = .int .i64 (i : Int) ∧ Fr (fun _ => False) wo wq) (fun v16 _ => L.length - (intOf v16).toNat)
         case atStart => exact ⟨0, Nat.zero_le _, rfl, f8⟩
         case round =>
          clear f8
          obtain ⟨i, hi3, rfl, hq⟩ := hrel
          by_cases hlt : i < L.length
          ·obtain ⟨wp, rfl⟩ : ∃ wp : World, wp = wr := ⟨_, rfl⟩
           have u1 : (i : Int) < (L.length : Int) := by omega
           go_wp2_with fail
           go_loopw [17] (fun v17 wq => ∃ (q : Nat), q ≤ 2 ∧ v17 = .int .i64 (q : Int) ∧ Fr (fun _ => False) wo wq) (fun v17 _ => 2 - (intOf v17).toNat)
           case atStart => exact ⟨0, by omega, rfl, hq⟩
           case round =>
            clear hq
            obtain ⟨q, hq2, rfl, hq⟩ := hrel
            by_cases hl2 : q < 2
            ·obtain ⟨g, s, rfl, hs, hg, hat⟩ := HC.out i hlt
             obtain ⟨c0, c1, c2⟩ := hat.fr hq (fun h => h)
             have u2 : (q : Int) < 2 := by omega
             clear hs hat hg
             have hqq : q = 0 ∨ q = 1 := by omega
             rcases hqq with rfl | rfl
             ·as_aux_lemma =>
               have dm := DL.out s.f1
               by_cases ca : s.f1 < lo
               ·have mm := HN.out s.f1 (by omega)
                generalize hde : depE M s.f1 = Dx at dm mm
                have HDx := hidE hde
                have x3 : decide (2 * (Dx : Int) > (L.length : Int)) = false := decide_eq_false (by omega)
                have x4 : decide ((L.length : Int) < 2 * (Dx : Int)) = false := decide_eq_false (by omega)
                clear hde
                have x1 : decide (s.f1 < lo) = true := decide_eq_true ca
                go_wp2_with fail
                refine (DQ.out s.f1 _ hq).mono ?_
                rintro e w9 ⟨rfl, k9⟩
                rw [HDx.out]
                have f9 := hq.trans k9 (fun _ _ h => h)
                clear k9 c0 c1 c2
                go_wp2
                go_roundw
                case rel => exact ⟨0 + 1, by omega, by go_num, f9⟩
                case measure => simp [intOf]
               ·by_cases cb : s.f1 > hi'
                ·have mm := HN.out s.f1 (by omega)
                 generalize hde : depE M s.f1 = Dx at dm mm
                 have HDx := hidE hde
                 have x3 : decide (2 * (Dx : Int) > (L.length : Int)) = false := decide_eq_false (by omega)
                 have x4 : decide ((L.length : Int) < 2 * (Dx : Int)) = false := decide_eq_false (by omega)
                 clear hde
                 have x1 : decide (s.f1 < lo) = false := decide_eq_false ca
                 have x2 : decide (s.f1 > hi') = true := decide_eq_true cb
                 go_wp2_with fail
                 refine (DQ.out s.f1 _ hq).mono ?_
                 rintro e w9 ⟨rfl, k9⟩
                 rw [HDx.out]
                 have f9 := hq.trans k9 (fun _ _ h => h)
                 clear k9 c0 c1 c2
                 go_wp2
                 go_roundw
                 case rel => exact ⟨0 + 1, by omega, by go_num, f9⟩
                 case measure => simp [intOf]
                ·have x1 : decide (s.f1 < lo) = false := decide_eq_false ca
                 have x2 : decide (s.f1 > hi') = false := decide_eq_false cb
                 clear dm
                 go_wp2
                 go_roundw
                 case rel => exact ⟨0 + 1, by omega, by go_num, hq⟩
                 case measure => simp [intOf]
             ·as_aux_lemma =>
               have dm := DL.out s.f2
               by_cases ca : s.f2 < lo
               ·have mm := HN.out s.f2 (by omega)
                generalize hde : depE M s.f2 = Dx at dm mm
                have HDx := hidE hde
                have x3 : decide (2 * (Dx : Int) > (L.length : Int)) = false := decide_eq_false (by omega)
                have x4 : decide ((L.length : Int) < 2 * (Dx : Int)) = false := decide_eq_false (by omega)
                clear hde
                have x1 : decide (s.f2 < lo) = true := decide_eq_true ca
                go_wp2_with fail
                refine (DQ.out s.f2 _ hq).mono ?_
                rintro e w9 ⟨rfl, k9⟩
                rw [HDx.out]
                have f9 := hq.trans k9 (fun _ _ h => h)
                clear k9 c0 c1 c2
                go_wp2
                go_roundw
                case rel => exact ⟨1 + 1, by omega, by go_num, f9⟩
                case measure => simp [intOf]
               ·by_cases cb : s.f2 > hi'
                ·have mm := HN.out s.f2 (by omega)
                 generalize hde : depE M s.f2 = Dx at dm mm
                 have HDx := hidE hde
                 have x3 : decide (2 * (Dx : Int) > (L.length : Int)) = false := decide_eq_false (by omega)
                 have x4 : decide ((L.length : Int) < 2 * (Dx : Int)) = false := decide_eq_false (by omega)
                 clear hde
                 have x1 : decide (s.f2 < lo) = false := decide_eq_false ca
                 have x2 : decide (s.f2 > hi') = true := decide_eq_true cb
                 go_wp2_with fail
                 refine (DQ.out s.f2 _ hq).mono ?_
                 rintro e w9 ⟨rfl, k9⟩
                 rw [HDx.out]
                 have f9 := hq.trans k9 (fun _ _ h => h)
                 clear k9 c0 c1 c2
                 go_wp2
                 go_roundw
                 case rel => exact ⟨1 + 1, by omega, by go_num, f9⟩
                 case measure => simp [intOf]
                ·have x1 : decide (s.f2 < lo) = false := decide_eq_false ca
                 have x2 : decide (s.f2 > hi') = false := decide_eq_false cb
                 clear dm
                 go_wp2
                 go_roundw
                 case rel => exact ⟨1 + 1, by omega, by go_num, hq⟩
                 case measure => simp [intOf]
            ·obtain rfl : q = 2 := by omega
             clear hl2
             go_wp2
             go_roundw
             case rel => exact ⟨i + 1, by omega, by go_num, hq⟩
             case measure => simp [intOf]; omega
          ·obtain rfl : i = L.length := by omega
           clear hlt
           have dhp := DL.out (hi' + 1)
           have mhp := HN.out (hi' + 1) (by omega)
           generalize hdp : depE M (hi' + 1) = Dp at dhp mhp
           have HDp := hidE hdp
           have l4 : decide (2 * (Dp : Int) ≤ (L.length : Int)) = true := decide_eq_true (by omega)
           clear hdp
           by_cases hz0 : lo = 0
           ·have l5 : (lo == 0) = true := by simp [hz0]
            have HZ0 := hidE hz0
            clear hz0
            go_wp2_with fail
            refine (DQ.out (hi' + 1) _ hq).mono ?_
            rintro e w9 ⟨rfl, k9⟩
            rw [HDp.out]
            go_wp2_with fail
            refine (alive_at _).mono ?_
            rintro e w10 ⟨rfl, k10⟩
            go_wp2
            go_ret
            exact ⟨rfl, ((hf.trans hq (fun _ _ h => h)).trans k9 (fun _ _ h => h)).trans k10 (fun _ _ h => h)⟩
           ·have l5 : (lo == 0) = false := by rw [beq_eq_false_iff_ne]; exact hz0
            have dlm := DL.out (lo - 1)
            have mlm := HN.out (lo - 1) (by omega)
            generalize hdm : depE M (lo - 1) = Dm at dlm mlm
            have HDm := hidE hdm
            have l6 : decide (2 * (Dm : Int) ≤ (L.length : Int)) = true := decide_eq_true (by omega)
            clear hdm
            go_wp2_with fail
            refine (DQ.out (lo - 1) _ hq).mono ?_
            rintro e w9 ⟨rfl, k9⟩
            rw [HDm.out]
            have f9 := hq.trans k9 (fun _ _ h => h)
            go_wp2_with fail
            refine (DQ.out (hi' + 1) _ f9).mono ?_
            rintro e w10 ⟨rfl, k10⟩
            rw [HDp.out]
            go_wp2_with fail
            refine (alive_at _).mono ?_
            rintro e w11 ⟨rfl, k11⟩
            go_wp2
            go_ret
            exact ⟨rfl, ((hf.trans f9 (fun _ _ h => h)).trans k10 (fun _ _ h => h)).trans k11 (fun _ _ h => h)⟩
end Go.Proofs.Ytapagoaoglmegaa
