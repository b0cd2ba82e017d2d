/- EdgesOrder: the walk. -/
import Derived.Test.YtapagoaoglmegaaEdOrdP
import Derived.IntWalk
namespace Go.Proofs.Ytapagoaoglmegaa
open Go.RowKit Go.Proofs.YtapagoaoglmegaaW.PrintWords Go.Proofs.YtapagoaoglmegaaW.PrintLast Go.Proofs.YtapagoaoglmegaaW.PrintMore PCl
attribute [local go_sem] max2_int min2_int max_two min_two
set_option linter.unusedVariables false
set_option linter.unusedSimpArgs false
set_option maxRecDepth 100000
theorem news_sp {w : World} {g off : Nat} {M : List S24} (hk : ∀ i k, M[i]? = some k → AtS w g (off + i * 3) k) : ∀ j u, (flatS M)[j]? = some u → w.cell? ((⟨g, off, none⟩ : Addr).add j) = some u := by
 intro j u hj
 rw [addE]
 have hjl : j < M.length * 3 := by have := (List.getElem?_eq_some_iff.1 hj).1; rwa [flatS_len] at this
 obtain ⟨c, hc⟩ : ∃ c, M[j / 3]? = some c := ⟨_, List.getElem?_eq_getElem (by omega)⟩
 have e : j = j / 3 * 3 + j % 3 := by omega
 have hf := flatS_get M (j / 3) (j % 3) c hc (by omega)
 rw [← e, hj] at hf
 obtain ⟨a0, a1, a2⟩ := hk _ c hc
 have hr : j % 3 = 0 ∨ j % 3 = 1 ∨ j % 3 = 2 := by omega
 rw [show off + j = off + j / 3 * 3 + j % 3 by omega]
 rcases hr with r | r | r <;> rw [r] at hf ⊢ <;> simp [encS] at hf <;> subst hf <;> assumption
theorem SlS.row {base : Nat} {w : World} {g cap : Nat} {L : List S24} {n : Nat} (h : SlS base w (.slice (some ⟨g, 0, none⟩) n cap) L) : RowS 24 w g cap L ∧ base ≤ g ∧ cap ≤ maxLen ∧ n = L.length := by
 rcases h with ⟨e, _⟩ | ⟨g', c', e, h1, h2, h3⟩
 ·cases e
 ·injection e with e1 e2 e3
  injection e1 with e1
  injection e1 with e1
  subst e1 e3
  exact ⟨h3, h1, h2, e2⟩
theorem own_room {w : World} {base g cap n s : Nat} {e : TypeId} {xs : List Value} (h : w.ownsRow base e s (.slice (some ⟨g, 0, none⟩) n cap) n xs) : n ≤ cap := by
 rcases h.2 with ⟨e, _⟩ | ⟨_, _, _, e, _, _, h, _⟩
 ·cases e
 ·injection e with _ _ e3
  omega
theorem own_row {w : World} {base g cap n : Nat} {M : List S24} (h : w.ownsRow base 24 3 (.slice (some ⟨g, 0, none⟩) n cap) n (flatS M)) (hn : n = M.length) : base ≤ g ∧ cap ≤ maxLen ∧ RowS 24 w g cap M := by
 subst hn
 rcases OwS.form (base := base) (v := .slice (some ⟨g, 0, none⟩) M.length cap) h with ⟨e, _⟩ | ⟨g', c', e, h1, h2, h3⟩
 ·cases e
 ·injection e with e1 e2 e3
  injection e1 with e1
  injection e1 with e1
  subst e1 e3
  exact ⟨h1, h2, h3⟩
set_option maxHeartbeats 16000000 in
theorem edgesOrder_walk (A0 : Option Addr) (len0 cap0 : Nat) (a1 a2 : Int) (w : World) (h0 : RdS [.i .i64, .i .i64, .i .i64] w A0 len0 cap0) (w1 : (Lit.int .u8 a1).wf = true) (w2 : (Lit.int .u32 a2).wf = true) :
  Calls Try.prog 9 #[.slice A0 len0 cap0, .int .u8 a1, .int .u32 a2] w fun e w' => e = .returned (.bool true) ∧ Fr (fun _ => False) w w' := by
 obtain ⟨l, rfl, hc, hC, _⟩ := span_open h0
 have ha1 : 0 ≤ a1 ∧ a1 ≤ 255 := by simp [Lit.wf] at w1; exact w1
 have ha2 : 0 ≤ a2 ∧ a2 ≤ 4294967295 := by simp [Lit.wf] at w2; exact w2
 obtain ⟨p1, p2⟩ := ha1
 obtain ⟨p3, p4⟩ := ha2
 have hfit := fit_at hC hc
 clear h0 w1 w2 hC
 have HF := hidE hfit
 clear hfit
 go_enter Try.func9, Try.ntmps9
 go_wp2_with fail
 refine HF.out.mono ?_
 rintro e w1 ⟨v, rfl, hv, k1⟩
 clear HF
 obtain ⟨L, hL⟩ : ∃ L, L = fitZ l := ⟨_, rfl⟩
 have hLl := fitZ_len l
 have hLo : okR (fitZ l) := fun s hs => by have := fitZ_ok l s hs; omega
 have s1 : SlS w.heap.size w1 v (fitZ l) := hv.form
 rw [← hL] at s1 hLl hLo
 clear hv hL
 by_cases hn : L.length = 0
 ·obtain ⟨A, cp, rfl, _⟩ := s1.C
  have hn0 : ((L.length : Int) == 0) = true := by simp [hn]
  generalize L.length = n at *
  obtain rfl : n = 0 := hn
  clear s1 hLo
  go_wp2_with fail
  refine (alive_at _).mono ?_
  rintro e w6 ⟨rfl, k6⟩
  go_wp2
  go_ret
  exact ⟨rfl, k1.trans k6 (fun _ _ h => h)⟩
 ·obtain ⟨g, cp, rfl, hg, hm, hr⟩ := s1.get (i := 0) (by omega)
  obtain ⟨k, hk⟩ : ∃ k : Nat, (k : Int) = a1 % (L.length : Int) := ⟨(a1 % (L.length : Int)).toNat, by rw [Int.toNat_of_nonneg (Int.emod_nonneg _ (by omega))]⟩
  have hkl : k < L.length := by have := Int.emod_lt_of_pos a1 (show (0 : Int) < (L.length : Int) by omega); omega
  have hcl := hr.len
  have n0 : ((L.length : Int) == 0) = false := by rw [beq_eq_false_iff_ne]; omega
  have n1 : ¬ (L.length : Int) = 0 := by omega
  have e1 : a1.tmod (L.length : Int) = (k : Int) := by rw [hk]; exact Int.tmod_eq_emod_of_nonneg p1
  have e2 : a1 % (L.length : Int) = (k : Int) := hk.symm
  have HR := hidE hr
  have HS1 := hidE s1
  clear hk hr s1
  go_wp2_with fail
  have q0 : (0 : Int) ≤ (k : Int) := by omega
  have q1 : (k : Int) ≤ (L.length : Int) := by omega
  have q2 : (L.length : Int) ≤ (cp : Int) := by omega
  have q3 : ¬ cp = k := by omega
  have q4 : (k : Int) ≤ (cp : Int) := by omega
  obtain ⟨i0, hi0, hz0, hsz0, hby0⟩ : ∃ i0, Try.prog.info? 24 = some i0 ∧ i0.zero = some (.agg #[.int .i64 0, .int .i64 0, .int .i64 0]) ∧ i0.size = 3 ∧ i0.bytes = 24 := by
   obtain ⟨i0, h1, h2⟩ := Option.map_eq_some_iff.1 infoS
   simp only [Prod.mk.injEq] at h2
   exact ⟨i0, h1, h2.1, h2.2.1, h2.2.2⟩
  have msd : Fr (fun _ => False) w1 w1.drew ∧ True := ⟨Fr.drew (Fr.refl _ _), trivial⟩
  go_cut [8] (fun s8 wx => ∃ g4 cap4, s8 = .slice (some ⟨g4, 0, none⟩) L.length cap4 ∧ w1.heap.size ≤ g4 ∧ cap4 ≤ maxLen ∧ RowS 24 wx g4 cap4 (L.drop k ++ L.take k) ∧ Fr (fun _ => False) w1 wx)
  case first =>
   by_cases hk0 : 0 < k
   ·have tk := hk0
    refine start_ (n := 9) (S := fun w' => Fr (fun _ => False) w1 w' ∧ True) (ds := []) #[oN,oN,oN,oN,oN,oN,oN,oN,oN] (by kernel_rfl) rfl rfl ⟨msd.1, msd.2⟩ (fun hHeld => ?_)
    refine pure_ (i := 0) (N := some 31) (v := ?_) (a' := ?_) #[oY,oN,oN,oN,oN,oN,oN,oN,oN] rfl rfl (by kernel_rfl) (fun _ _ _ h => h) (Or.inl ⟨by rfl, ?_⟩) ?_ ?_
    rotate_left
    ·intro w'
     go_simp
     with_reducible rfl
    rotate_left
    ·simp only [Act.put, List.setIfInBounds_toArray, List.set_cons_zero, List.set_cons_succ, i64_w, i32_w]
     rfl
    refine pure_ (i := 1) (N := some 32) (v := ?_) (a' := ?_) #[oY,oY,oN,oN,oN,oN,oN,oN,oN] rfl rfl (by kernel_rfl) (fun _ _ _ h => h) (Or.inl ⟨by rfl, ?_⟩) ?_ ?_
    rotate_left
    ·intro w'
     go_simp
     with_reducible rfl
    rotate_left
    ·simp only [Act.put, List.setIfInBounds_toArray, List.set_cons_zero, List.set_cons_succ, i64_w, i32_w]
     rfl
    refine pure_ (i := 2) (N := some 33) (v := ?_) (a' := ?_) #[oY,oY,oY,oN,oN,oN,oN,oN,oN] rfl rfl (by kernel_rfl) (fun _ _ _ h => h) (Or.inl ⟨by rfl, ?_⟩) ?_ ?_
    rotate_left
    ·intro w'
     go_simp
     with_reducible rfl
    rotate_left
    ·simp only [Act.put, List.setIfInBounds_toArray, List.set_cons_zero, List.set_cons_succ, i64_w, i32_w]
     rfl
    refine pure_ (i := 4) (N := some 35) (v := ?_) (a' := ?_) #[oY,oY,oY,oN,oY,oN,oN,oN,oN] rfl rfl (by kernel_rfl) (fun _ _ _ h => h) (Or.inl ⟨by rfl, ?_⟩) ?_ ?_
    rotate_left
    ·intro w'
     go_simp
     with_reducible rfl
    rotate_left
    ·simp only [Act.put, List.setIfInBounds_toArray, List.set_cons_zero, List.set_cons_succ, i64_w, i32_w]
     rfl
    refine pure_ (i := 5) (N := some 36) (v := ?_) (a' := ?_) #[oY,oY,oY,oN,oY,oY,oN,oN,oN] rfl rfl (by kernel_rfl) (fun _ _ _ h => h) (Or.inl ⟨by rfl, ?_⟩) ?_ ?_
    rotate_left
    ·intro w'
     go_simp
     with_reducible rfl
    rotate_left
    ·simp only [Act.put, List.setIfInBounds_toArray, List.set_cons_zero, List.set_cons_succ, i64_w, i32_w]
     rfl
    refine pure_ (i := 6) (N := some 37) (v := ?_) (a' := ?_) #[oY,oY,oY,oN,oY,oY,oY,oN,oN] rfl rfl (by kernel_rfl) (fun _ _ _ h => h) (Or.inl ⟨by rfl, ?_⟩) ?_ ?_
    rotate_left
    ·intro w'
     go_simp
     with_reducible rfl
    rotate_left
    ·simp only [Act.put, List.setIfInBounds_toArray, List.set_cons_zero, List.set_cons_succ, i64_w, i32_w]
     rfl
    refine one_ (i := 3) (N := some 34) #[oY,oY,oY,oY,oY,oY,oY,oN,oN] rfl rfl (by kernel_rfl) (by decide) (fun K hK => ?_)
    refine step_append_lies _ rfl (.const (.slice none 0 0)) (.tmp 33) 63 rfl w1.heap.size 24 i0 _ 3 24 Try.underlying63 hi0 hz0 hsz0 hby0 rfl (by decide) (.slice none 0 0) 0 [] rfl ⟨rfl, .inl ⟨rfl, rfl⟩⟩ ⟨g, k * 3, none⟩ (L.length - k) (cp - k) (flatS (L.drop k)) rfl (by rw [flatS_len, List.length_drop]) (news_sp (fun i s hi => by have := HR.out.drew.at3 (i := k + i) (by rw [← List.getElem?_drop]; exact hi); rwa [Nat.add_mul] at this)) (flatS_one _) (by omega) (by unfold maxLen; omega) (by omega) (Nat.le_refl _) _ rfl ?_
    intro g2 cap2 w5 hown5 hg5 hat5 hlt5
    have f5 : Fr (fun _ => False) w1 w5 := Fr.grown ((Fr.refl _ _).drew) hg5 (fun j hj => by cases hj)
    have hc2 : 0 + (L.length - k) ≤ cap2 := own_room hown5
    have ms5 : Fr (fun _ => False) w1 w5 ∧ True := ⟨f5, trivial⟩
    refine hK.out _ _ ⟨ms5.1, ms5.2⟩ (fun hHeld => ?_)
    clear hK K
    refine norm_ (a' := ?_) ?_ ?_
    rotate_left
    ·show Act.put _ (some 34) _ = _
     simp only [Act.put, List.setIfInBounds_toArray, List.set_cons_zero, List.set_cons_succ, i64_w, i32_w]
     rfl
    refine one_ (i := 7) (N := some 38) #[oY,oY,oY,oY,oY,oY,oY,oY,oN] rfl rfl (by kernel_rfl) (by decide) (fun K hK => ?_)
    refine step_append_lies _ rfl (.tmp 34) (.tmp 37) 63 rfl w1.heap.size 24 i0 _ 3 24 Try.underlying63 hi0 hz0 hsz0 hby0 rfl (by decide) (.slice (some ⟨g2, 0, none⟩) (0 + (L.length - k)) cap2) (0 + (L.length - k)) ([] ++ flatS (L.drop k)) rfl hown5 ⟨g, 0, none⟩ k cp (flatS (L.take k)) rfl (by rw [flatS_len, List.length_take]; congr 1; omega) (news_sp (off := 0) (fun i s hi => by rw [Nat.zero_add]; exact ((HR.out.fr f5 (fun h => h)).take k).at3 hi)) (flatS_one _) hk0 (by unfold maxLen; omega) (by omega) f5.size _ rfl ?_
    intro g6 cap6 w6 hown6 hg6 hat6 hlt6
    have f6 : Fr (fun _ => False) w1 w6 := Fr.grown f5 hg6 (fun j hj => .inl (by have := (hown5.lt j hj).1; omega))
    have ms6 : Fr (fun _ => False) w1 w6 ∧ True := ⟨f6, trivial⟩
    refine hK.out _ _ ⟨ms6.1, ms6.2⟩ (fun hHeld => ?_)
    clear hK K
    refine norm_ (a' := ?_) ?_ ?_
    rotate_left
    ·show Act.put _ (some 38) _ = _
     simp only [Act.put, List.setIfInBounds_toArray, List.set_cons_zero, List.set_cons_succ, i64_w, i32_w]
     rfl
    refine pure_ (i := 8) (N := some 8) (v := ?_) (a' := ?_) #[oY,oY,oY,oY,oY,oY,oY,oY,oY] rfl rfl (by kernel_rfl) (fun _ _ _ h => h) (Or.inl ⟨by rfl, ?_⟩) ?_ ?_
    rotate_left
    ·intro w'
     go_simp
     with_reducible rfl
    rotate_left
    ·simp only [Act.put, List.setIfInBounds_toArray, List.set_cons_zero, List.set_cons_succ, i64_w, i32_w]
     rfl
    refine done_ (by kernel_rfl) ?_
    have hlT : 0 + (L.length - k) + k = L.length := by omega
    rw [List.nil_append, ← flatS_app, hlT] at hown6
    have hdl : (L.drop k ++ L.take k).length = L.length := (turn_perm L k).length_eq
    obtain ⟨o1, o2, o3⟩ := own_row hown6 hdl.symm
    clear hHeld ms6 ms5 msd hown5 hown6 hg5 hg6 hat5 hat6
    go_wp2
    go_meet
    exact ⟨g6, cap6, by first | rfl | (simp; omega), o1, o2, o3, f6⟩
   ·obtain rfl : k = 0 := by omega
    refine start_ (n := 9) (S := fun w' => Fr (fun _ => False) w1 w' ∧ True) (ds := []) #[oN,oN,oN,oN,oN,oN,oN,oN,oN] (by kernel_rfl) rfl rfl ⟨msd.1, msd.2⟩ (fun hHeld => ?_)
    refine pure_ (i := 0) (N := some 31) (v := ?_) (a' := ?_) #[oY,oN,oN,oN,oN,oN,oN,oN,oN] rfl rfl (by kernel_rfl) (fun _ _ _ h => h) (Or.inl ⟨by rfl, ?_⟩) ?_ ?_
    rotate_left
    ·intro w'
     go_simp
     with_reducible rfl
    rotate_left
    ·simp only [Act.put, List.setIfInBounds_toArray, List.set_cons_zero, List.set_cons_succ, i64_w, i32_w]
     rfl
    refine pure_ (i := 1) (N := some 32) (v := ?_) (a' := ?_) #[oY,oY,oN,oN,oN,oN,oN,oN,oN] rfl rfl (by kernel_rfl) (fun _ _ _ h => h) (Or.inl ⟨by rfl, ?_⟩) ?_ ?_
    rotate_left
    ·intro w'
     go_simp
     with_reducible rfl
    rotate_left
    ·simp only [Act.put, List.setIfInBounds_toArray, List.set_cons_zero, List.set_cons_succ, i64_w, i32_w]
     rfl
    refine pure_ (i := 2) (N := some 33) (v := ?_) (a' := ?_) #[oY,oY,oY,oN,oN,oN,oN,oN,oN] rfl rfl (by kernel_rfl) (fun _ _ _ h => h) (Or.inl ⟨by rfl, ?_⟩) ?_ ?_
    rotate_left
    ·intro w'
     go_simp
     with_reducible rfl
    rotate_left
    ·simp only [Act.put, List.setIfInBounds_toArray, List.set_cons_zero, List.set_cons_succ, i64_w, i32_w]
     rfl
    refine pure_ (i := 4) (N := some 35) (v := ?_) (a' := ?_) #[oY,oY,oY,oN,oY,oN,oN,oN,oN] rfl rfl (by kernel_rfl) (fun _ _ _ h => h) (Or.inl ⟨by rfl, ?_⟩) ?_ ?_
    rotate_left
    ·intro w'
     go_simp
     with_reducible rfl
    rotate_left
    ·simp only [Act.put, List.setIfInBounds_toArray, List.set_cons_zero, List.set_cons_succ, i64_w, i32_w]
     rfl
    refine pure_ (i := 5) (N := some 36) (v := ?_) (a' := ?_) #[oY,oY,oY,oN,oY,oY,oN,oN,oN] rfl rfl (by kernel_rfl) (fun _ _ _ h => h) (Or.inl ⟨by rfl, ?_⟩) ?_ ?_
    rotate_left
    ·intro w'
     go_simp
     with_reducible rfl
    rotate_left
    ·simp only [Act.put, List.setIfInBounds_toArray, List.set_cons_zero, List.set_cons_succ, i64_w, i32_w]
     rfl
    refine pure_ (i := 6) (N := some 37) (v := ?_) (a' := ?_) #[oY,oY,oY,oN,oY,oY,oY,oN,oN] rfl rfl (by kernel_rfl) (fun _ _ _ h => h) (Or.inl ⟨by rfl, ?_⟩) ?_ ?_
    rotate_left
    ·intro w'
     go_simp
     with_reducible rfl
    rotate_left
    ·simp only [Act.put, List.setIfInBounds_toArray, List.set_cons_zero, List.set_cons_succ, i64_w, i32_w]
     rfl
    refine one_ (i := 3) (N := some 34) #[oY,oY,oY,oY,oY,oY,oY,oN,oN] rfl rfl (by kernel_rfl) (by decide) (fun K hK => ?_)
    refine step_append_lies _ rfl (.const (.slice none 0 0)) (.tmp 33) 63 rfl w1.heap.size 24 i0 _ 3 24 Try.underlying63 hi0 hz0 hsz0 hby0 rfl (by decide) (.slice none 0 0) 0 [] rfl ⟨rfl, .inl ⟨rfl, rfl⟩⟩ ⟨g, 0, none⟩ (L.length - 0) (cp - 0) (flatS (L.drop 0)) rfl (by rw [flatS_len, List.length_drop]) (news_sp (fun i s hi => by have := HR.out.drew.at3 (i := 0 + i) (by rw [← List.getElem?_drop]; exact hi); rwa [Nat.add_mul] at this)) (flatS_one _) (by omega) (by unfold maxLen; omega) (by omega) (Nat.le_refl _) _ rfl ?_
    intro g2 cap2 w5 hown5 hg5 hat5 hlt5
    have f5 : Fr (fun _ => False) w1 w5 := Fr.grown ((Fr.refl _ _).drew) hg5 (fun j hj => by cases hj)
    have hc2 : 0 + (L.length - 0) ≤ cap2 := own_room hown5
    have ms5 : Fr (fun _ => False) w1 w5 ∧ True := ⟨f5, trivial⟩
    refine hK.out _ _ ⟨ms5.1, ms5.2⟩ (fun hHeld => ?_)
    clear hK K
    refine norm_ (a' := ?_) ?_ ?_
    rotate_left
    ·show Act.put _ (some 34) _ = _
     simp only [Act.put, List.setIfInBounds_toArray, List.set_cons_zero, List.set_cons_succ, i64_w, i32_w]
     rfl
    refine one_ (i := 7) (N := some 38) #[oY,oY,oY,oY,oY,oY,oY,oY,oN] rfl rfl (by kernel_rfl) (by decide) (fun K hK => ?_)
    have hc3 : L.length ≤ cap2 := by omega
    refine value_ (w1 := ?_) (v := ?_) (by rfl) rfl ?_ ?_
    rotate_left 2
    ·go_simp
     constructor
     ·rfl
     ·rfl
    have ms6 : Fr (fun _ => False) w1 w5 ∧ True := ⟨f5, trivial⟩
    refine hK.out _ _ ⟨ms6.1, ms6.2⟩ (fun hHeld => ?_)
    clear hK K
    refine norm_ (a' := ?_) ?_ ?_
    rotate_left
    ·show Act.put _ (some 38) _ = _
     simp only [Act.put, List.setIfInBounds_toArray, List.set_cons_zero, List.set_cons_succ, i64_w, i32_w]
     rfl
    refine pure_ (i := 8) (N := some 8) (v := ?_) (a' := ?_) #[oY,oY,oY,oY,oY,oY,oY,oY,oY] rfl rfl (by kernel_rfl) (fun _ _ _ h => h) (Or.inl ⟨by rfl, ?_⟩) ?_ ?_
    rotate_left
    ·intro w'
     go_simp
     with_reducible rfl
    rotate_left
    ·simp only [Act.put, List.setIfInBounds_toArray, List.set_cons_zero, List.set_cons_succ, i64_w, i32_w]
     rfl
    refine done_ (by kernel_rfl) ?_
    have hlT : 0 + (L.length - 0) = L.length := by omega
    rw [List.nil_append, hlT] at hown5
    have hdl : (L.drop 0).length = L.length := by simp
    obtain ⟨o1, o2, o3⟩ := own_row hown5 hdl.symm
    have o3' : RowS 24 w5 g2 cap2 (L.drop 0 ++ L.take 0) := by simpa using o3
    clear hHeld ms6 ms5 msd hown5 hg5 hat5 o3
    go_wp2
    go_meet
    exact ⟨g2, cap2, by simp, o1, o2, o3', f5⟩
  case rest =>
   obtain ⟨g4, cap4, rfl, hg4, hm4, r4, f4⟩ := hcut
   have R4 := hidE r4
   clear r4 q3 q4 msd
   have hTl : (L.drop k ++ L.take k).length = L.length := (turn_perm L k).length_eq
   have HT := hidE hTl
   clear hTl
   go_wp2_with fail
   go_loopw [9] (fun v9 wr => ∃ (i : Nat) (M : List S24), i ≤ L.length ∧ v9 = .int .i64 (i : Int) ∧ M.length = L.length ∧ Hid (M.map e2E = (L.drop k ++ L.take k).map e2E) ∧ RowS 24 wr g4 cap4 M ∧ Fr (fun _ => False) w1 wr) (fun v9 _ => L.length - (intOf v9).toNat)
   case atStart => exact ⟨0, _, Nat.zero_le _, rfl, HT.out, hidE rfl, R4.out, f4⟩
   case round =>
    clear f4 R4
    obtain ⟨i, M, hi, rfl, hML, hMe, hr, hf⟩ := hrel
    have HML := hidE hML
    clear hML
    have HR4 := hidE hr
    by_cases hlt : i < L.length
    ·have t1 : (i : Int) < (L.length : Int) := by omega
     have t0 : (0 : Int) ≤ (i : Int) := by omega
     obtain ⟨s, hs⟩ : ∃ s, M[i]? = some s := ⟨_, List.getElem?_eq_getElem (by rw [HML.out]; exact hlt)⟩
     obtain ⟨d0, d1, d2⟩ := hr.at3 hs
     have q0' := hr.free (i * 3)
     have HS := hidE hs
     clear hs hr d1 d2
     go_upto_region 8 with fail
     generalize hW : World.setCell wr _ _ = W5
     have r5 : RowS 24 W5 g4 cap4 (M.set i ⟨wrap64 (s.f0 + a2), s.f1, s.f2⟩) := by subst hW; exact HR4.out.set0 HS.out _
     have f5 : Fr (fun j => j = g4) wr W5 := by subst hW; (repeat' (first | (with_reducible exact Fr.refl _ _) | (with_reducible assumption) | (with_reducible refine Fr.alloc ?_ _) | (with_reducible refine Fr.drew ?_) | (with_reducible refine Fr.drewN ?_ _) | (with_reducible refine Fr.setCell ?_ _ _ ?_) | (exact Or.inr rfl) | (left; simp; done) | (left; simp; omega) | (simp; done) | (simp; omega) | omega))
     clear hW d0 q0'
     have F5 := hf.trans f5 (fun j hj e => by omega)
     go_wp2
     go_roundw
     case rel => exact ⟨i + 1, M.set i ⟨wrap64 (s.f0 + a2), s.f1, s.f2⟩, by omega, by go_num, by rw [List.length_set]; exact HML.out, hidE ((e2_set HS.out (t := ⟨wrap64 (s.f0 + a2), s.f1, s.f2⟩) rfl).trans hMe.out), r5, F5⟩
     case measure => simp [intOf]; omega
    ·obtain rfl : i = L.length := by omega
     clear hlt
     have hME := hMe.out
     have hper : (M.map e2E).Perm (L.map e2E) := by rw [hME]; exact (turn_perm L k).map e2E
     have hzM := hull_same hper hLo hLl
     have HQ1 : Hid (∀ W, Fr (fun _ => False) w1 W → Calls Try.prog 39 #[.slice (some ⟨g, 0, none⟩) L.length cp] W fun e w' => e = .returned (.tuple #[.int .i64 (hullZ L).1, .int .i64 (hullZ L).2.1, .int .i64 (hullZ L).2.2]) ∧ Fr (fun _ => False) W w') := hidE (fun W kk => hull_at ((HR.out.fr kk (fun h => h)).toC hm) hcl)
     have HQ2 : Hid (∀ W, Fr (fun _ => False) wr W → Calls Try.prog 39 #[.slice (some ⟨g4, 0, none⟩) L.length cap4] W fun e w' => e = .returned (.tuple #[.int .i64 (hullZ L).1, .int .i64 (hullZ L).2.1, .int .i64 (hullZ L).2.2]) ∧ Fr (fun _ => False) W w') := hidE (fun W kk => by
      have h1 := HR4.out.fr kk (fun h => h)
      have := hull_at (h1.toC hm4) h1.len
      rwa [HML.out, hzM] at this)
     clear hME hper hzM hr hMe
     obtain ⟨Z, hZ⟩ : ∃ Z, Z = hullZ L := ⟨_, rfl⟩
     rw [← hZ] at HQ1 HQ2
     have HZ := hidE hZ
     clear hZ
     obtain ⟨za, zb, ze⟩ := Z
     simp only at HQ1 HQ2
     have tza : (za == za) = true := beq_self_eq_true _
     have tzb : (zb == zb) = true := beq_self_eq_true _
     have tze : (ze == ze) = true := beq_self_eq_true _
     go_wp2_with fail
     refine (HQ1.out _ hf).mono ?_
     rintro e w5 ⟨rfl, k5⟩
     have f5 := hf.trans k5 (fun _ _ h => h)
     go_wp2_with fail
     refine (HQ2.out _ k5).mono ?_
     rintro e w6 ⟨rfl, k6⟩
     have f6 := f5.trans k6 (fun _ _ h => h)
     clear HQ1 HQ2 k5 k6 f5 hf HR4
     have r6 := HR.out.fr f6 (fun h => h)
     have lN : ∀ i s, L[i]? = some s → AtS w6 g (0 + i * 3) s := fun i s hi => by rw [Nat.zero_add]; exact r6.at3 hi
     have LN := hidE lN
     clear lN r6
     go_upto_region 14 with fail
     go_cut [16] (fun s16 wx => ∃ g7 cap7, s16 = .slice (some ⟨g7, 0, none⟩) L.length cap7 ∧ w6.heap.size ≤ g7 ∧ cap7 ≤ maxLen ∧ RowS 24 wx g7 cap7 L ∧ Fr (fun _ => False) w6 wx)
     case first =>
      have o0 := OwS.nil w6.heap.size w6
      go_wp2_with (at_builtin; refine wpList_append_sp rfl _ _ rfl w6.heap.size _ [] L g 0 L.length cp rfl rfl o0 LN.out rfl (by omega) (by simp only [List.length_nil]; omega) (Nat.le_refl _) ?_)
      intro v7 w7 o7 g7 b7
      have f7 : Fr (fun _ => False) w6 w7 := Fr.grown (Fr.refl _ _) g7 (fun j hj => by cases hj)
      obtain ⟨g8, c8, rfl, h8, m8, r8⟩ : ∃ g8 c8, v7 = .slice (some ⟨g8, 0, none⟩) L.length c8 ∧ w6.heap.size ≤ g8 ∧ c8 ≤ maxLen ∧ RowS 24 w7 g8 c8 L := by
       rcases o7.form with ⟨_, e⟩ | h
       ·rw [e] at hn; exact absurd rfl hn
       ·exact h
      clear o7 g7 b7 o0 LN
      go_wp2
      go_meet
      exact ⟨g8, c8, rfl, h8, m8, r8, f7⟩
     case rest =>
      obtain ⟨g7, cap7, rfl, hg7, hm7, r7, f7⟩ := hcut
      obtain ⟨w7, hw7⟩ : ∃ w7, w7 = wc := ⟨_, rfl⟩
      rw [← hw7] at r7 f7 ⊢
      clear hw7 LN
      obtain ⟨s, hs⟩ : ∃ s, L[k]? = some s := ⟨_, List.getElem?_eq_getElem hkl⟩
      have hso := hLo s (List.mem_of_getElem? hs)
      obtain ⟨d0, d1, d2⟩ := r7.at3 hs
      have x1 := r7.free (k * 3 + 1)
      have x2 := r7.free (k * 3 + 2)
      have lg := r7.lt
      have HR7 := hidE r7
      have HS := hidE hs
      have y1 : IntKind.i64.wrap a2 = a2 := IntWalk.i64_in _ (by omega)
      have y2 : IntKind.i64.wrap (s.f1 - a2) = s.f1 - a2 := IntWalk.i64_in _ (by omega)
      have y3 : IntKind.i64.wrap (s.f2 + a2) = s.f2 + a2 := IntWalk.i64_in _ (by omega)
      obtain ⟨n1, hn1⟩ : ∃ n1, n1 = mx (s.f1 - a2) 0 := ⟨_, rfl⟩
      obtain ⟨n2, hn2⟩ : ∃ n2, n2 = mn (s.f2 + a2) 4611686018427387904 := ⟨_, rfl⟩
      have e3 : (if s.f1 - a2 < 0 then 0 else s.f1 - a2) = n1 := hn1.symm
      have e4 : (if 4611686018427387904 < s.f2 + a2 then 4611686018427387904 else s.f2 + a2) = n2 := hn2.symm
      have b1 := mx_le (s.f1 - a2) 0
      have b2 := mn_le (s.f2 + a2) 4611686018427387904
      rw [← hn1] at b1
      rw [← hn2] at b2
      have hb : Hid (0 ≤ n1 ∧ n1 ≤ s.f1 ∧ s.f2 ≤ n2 ∧ n2 ≤ 4611686018427387904) := hidE (by omega)
      have hso' := hidE hso
      clear hn1 hn2 b1 b2 hs r7
      go_wp2_with fail
      have d1d : w7.drew.cell? ⟨g7, k * 3 + 1, none⟩ = some (.int .i64 s.f1) := d1
      have msd : w7.drew.cell? ⟨g7, k * 3 + 2, none⟩ = some (.int .i64 s.f2) ∧ True := ⟨d2, trivial⟩
      refine start_ (n := 28) (S := fun w' => w'.cell? ⟨g7, k * 3 + 2, none⟩ = some (.int .i64 s.f2) ∧ True) (ds := [27]) #[oN,oN,oN,oN,oN,oN,oN,oN,oN,oN,oN,oN,oN,oN,oN,oN,oN,oN,oN,oN,oN,oN,oN,oN,oN,oN,oN,oN] (by kernel_rfl) rfl rfl ⟨msd.1, msd.2⟩ (fun hHeld => ?_)
      refine pure_ (i := 0) (N := some 82) (v := ?_) (a' := ?_) #[oY,oN,oN,oN,oN,oN,oN,oN,oN,oN,oN,oN,oN,oN,oN,oN,oN,oN,oN,oN,oN,oN,oN,oN,oN,oN,oN,oN] rfl rfl (by kernel_rfl) (fun _ _ _ h => h) (Or.inl ⟨by rfl, ?_⟩) ?_ ?_
      rotate_left
      ·intro w'
       go_simp
       with_reducible rfl
      rotate_left
      ·simp only [Act.put, List.setIfInBounds_toArray, List.set_cons_zero, List.set_cons_succ, i64_w, i32_w]
       rfl
      refine pure_ (i := 1) (N := some 83) (v := ?_) (a' := ?_) #[oY,oY,oN,oN,oN,oN,oN,oN,oN,oN,oN,oN,oN,oN,oN,oN,oN,oN,oN,oN,oN,oN,oN,oN,oN,oN,oN,oN] rfl rfl (by kernel_rfl) (fun _ _ _ h => h) (Or.inl ⟨by rfl, ?_⟩) ?_ ?_
      rotate_left
      ·intro w'
       go_simp
       with_reducible rfl
      rotate_left
      ·simp only [Act.put, List.setIfInBounds_toArray, List.set_cons_zero, List.set_cons_succ, i64_w, i32_w]
       rfl
      refine pure_ (i := 2) (N := some 84) (v := ?_) (a' := ?_) #[oY,oY,oY,oN,oN,oN,oN,oN,oN,oN,oN,oN,oN,oN,oN,oN,oN,oN,oN,oN,oN,oN,oN,oN,oN,oN,oN,oN] rfl rfl (by kernel_rfl) (fun _ _ _ h => h) (Or.inl ⟨by rfl, ?_⟩) ?_ ?_
      rotate_left
      ·intro w'
       go_simp
       with_reducible rfl
      rotate_left
      ·simp only [Act.put, List.setIfInBounds_toArray, List.set_cons_zero, List.set_cons_succ, i64_w, i32_w]
       rfl
      refine pure_ (i := 3) (N := some 85) (v := ?_) (a' := ?_) #[oY,oY,oY,oY,oN,oN,oN,oN,oN,oN,oN,oN,oN,oN,oN,oN,oN,oN,oN,oN,oN,oN,oN,oN,oN,oN,oN,oN] rfl rfl (by kernel_rfl) (fun _ _ _ h => h) (Or.inl ⟨by rfl, ?_⟩) ?_ ?_
      rotate_left
      ·intro w'
       go_simp
       with_reducible rfl
      rotate_left
      ·simp only [Act.put, List.setIfInBounds_toArray, List.set_cons_zero, List.set_cons_succ, i64_w, i32_w]
       rfl
      refine pure_ (i := 4) (N := some 86) (v := ?_) (a' := ?_) #[oY,oY,oY,oY,oY,oN,oN,oN,oN,oN,oN,oN,oN,oN,oN,oN,oN,oN,oN,oN,oN,oN,oN,oN,oN,oN,oN,oN] rfl rfl (by kernel_rfl) (fun _ _ _ h => h) (Or.inl ⟨by rfl, ?_⟩) ?_ ?_
      rotate_left
      ·intro w'
       go_simp
       with_reducible rfl
      rotate_left
      ·simp only [Act.put, List.setIfInBounds_toArray, List.set_cons_zero, List.set_cons_succ, i64_w, i32_w]
       rfl
      refine pure_ (i := 5) (N := some 87) (v := ?_) (a' := ?_) #[oY,oY,oY,oY,oY,oY,oN,oN,oN,oN,oN,oN,oN,oN,oN,oN,oN,oN,oN,oN,oN,oN,oN,oN,oN,oN,oN,oN] rfl rfl (by kernel_rfl) (fun _ _ _ h => h) (Or.inl ⟨by rfl, ?_⟩) ?_ ?_
      rotate_left
      ·intro w'
       go_simp
       with_reducible rfl
      rotate_left
      ·simp only [Act.put, List.setIfInBounds_toArray, List.set_cons_zero, List.set_cons_succ, i64_w, i32_w]
       rfl
      refine pure_ (i := 6) (N := some 88) (v := ?_) (a' := ?_) #[oY,oY,oY,oY,oY,oY,oY,oN,oN,oN,oN,oN,oN,oN,oN,oN,oN,oN,oN,oN,oN,oN,oN,oN,oN,oN,oN,oN] rfl rfl (by kernel_rfl) (fun _ _ _ h => h) (Or.inl ⟨by rfl, ?_⟩) ?_ ?_
      rotate_left
      ·intro w'
       go_simp
       with_reducible rfl
      rotate_left
      ·simp only [Act.put, List.setIfInBounds_toArray, List.set_cons_zero, List.set_cons_succ, i64_w, i32_w]
       rfl
      refine pure_ (i := 7) (N := some 89) (v := ?_) (a' := ?_) #[oY,oY,oY,oY,oY,oY,oY,oY,oN,oN,oN,oN,oN,oN,oN,oN,oN,oN,oN,oN,oN,oN,oN,oN,oN,oN,oN,oN] rfl rfl (by kernel_rfl) (fun _ _ _ h => h) (Or.inl ⟨by rfl, ?_⟩) ?_ ?_
      rotate_left
      ·intro w'
       go_simp
       with_reducible rfl
      rotate_left
      ·simp only [Act.put, List.setIfInBounds_toArray, List.set_cons_zero, List.set_cons_succ, i64_w, i32_w]
       rfl
      refine pure_ (i := 9) (N := some 91) (v := ?_) (a' := ?_) #[oY,oY,oY,oY,oY,oY,oY,oY,oN,oY,oN,oN,oN,oN,oN,oN,oN,oN,oN,oN,oN,oN,oN,oN,oN,oN,oN,oN] rfl rfl (by kernel_rfl) (fun _ _ _ h => h) (Or.inl ⟨by rfl, ?_⟩) ?_ ?_
      rotate_left
      ·intro w'
       go_simp
       with_reducible rfl
      rotate_left
      ·simp only [Act.put, List.setIfInBounds_toArray, List.set_cons_zero, List.set_cons_succ, i64_w, i32_w]
       rfl
      refine pure_ (i := 10) (N := some 92) (v := ?_) (a' := ?_) #[oY,oY,oY,oY,oY,oY,oY,oY,oN,oY,oY,oN,oN,oN,oN,oN,oN,oN,oN,oN,oN,oN,oN,oN,oN,oN,oN,oN] rfl rfl (by kernel_rfl) (fun _ _ _ h => h) (Or.inl ⟨by rfl, ?_⟩) ?_ ?_
      rotate_left
      ·intro w'
       go_simp
       with_reducible rfl
      rotate_left
      ·simp only [Act.put, List.setIfInBounds_toArray, List.set_cons_zero, List.set_cons_succ, i64_w, i32_w]
       rfl
      refine pure_ (i := 13) (N := some 95) (v := ?_) (a' := ?_) #[oY,oY,oY,oY,oY,oY,oY,oY,oN,oY,oY,oN,oN,oY,oN,oN,oN,oN,oN,oN,oN,oN,oN,oN,oN,oN,oN,oN] rfl rfl (by kernel_rfl) (fun _ _ _ h => h) (Or.inl ⟨by rfl, ?_⟩) ?_ ?_
      rotate_left
      ·intro w'
       go_simp
       with_reducible rfl
      rotate_left
      ·simp only [Act.put, List.setIfInBounds_toArray, List.set_cons_zero, List.set_cons_succ, i64_w, i32_w]
       rfl
      refine pure_ (i := 14) (N := some 96) (v := ?_) (a' := ?_) #[oY,oY,oY,oY,oY,oY,oY,oY,oN,oY,oY,oN,oN,oY,oY,oN,oN,oN,oN,oN,oN,oN,oN,oN,oN,oN,oN,oN] rfl rfl (by kernel_rfl) (fun _ _ _ h => h) (Or.inl ⟨by rfl, ?_⟩) ?_ ?_
      rotate_left
      ·intro w'
       go_simp
       with_reducible rfl
      rotate_left
      ·simp only [Act.put, List.setIfInBounds_toArray, List.set_cons_zero, List.set_cons_succ, i64_w, i32_w]
       rfl
      refine pure_ (i := 15) (N := some 97) (v := ?_) (a' := ?_) #[oY,oY,oY,oY,oY,oY,oY,oY,oN,oY,oY,oN,oN,oY,oY,oY,oN,oN,oN,oN,oN,oN,oN,oN,oN,oN,oN,oN] rfl rfl (by kernel_rfl) (fun _ _ _ h => h) (Or.inl ⟨by rfl, ?_⟩) ?_ ?_
      rotate_left
      ·intro w'
       go_simp
       with_reducible rfl
      rotate_left
      ·simp only [Act.put, List.setIfInBounds_toArray, List.set_cons_zero, List.set_cons_succ, i64_w, i32_w]
       rfl
      refine pure_ (i := 16) (N := some 98) (v := ?_) (a' := ?_) #[oY,oY,oY,oY,oY,oY,oY,oY,oN,oY,oY,oN,oN,oY,oY,oY,oY,oN,oN,oN,oN,oN,oN,oN,oN,oN,oN,oN] rfl rfl (by kernel_rfl) (fun _ _ _ h => h) (Or.inl ⟨by rfl, ?_⟩) ?_ ?_
      rotate_left
      ·intro w'
       go_simp
       with_reducible rfl
      rotate_left
      ·simp only [Act.put, List.setIfInBounds_toArray, List.set_cons_zero, List.set_cons_succ, i64_w, i32_w]
       rfl
      refine pure_ (i := 18) (N := some 100) (v := ?_) (a' := ?_) #[oY,oY,oY,oY,oY,oY,oY,oY,oN,oY,oY,oN,oN,oY,oY,oY,oY,oN,oY,oN,oN,oN,oN,oN,oN,oN,oN,oN] rfl rfl (by kernel_rfl) (fun _ _ _ h => h) (Or.inl ⟨by rfl, ?_⟩) ?_ ?_
      rotate_left
      ·intro w'
       go_simp
       with_reducible rfl
      rotate_left
      ·simp only [Act.put, List.setIfInBounds_toArray, List.set_cons_zero, List.set_cons_succ, i64_w, i32_w]
       rfl
      refine pure_ (i := 19) (N := some 101) (v := ?_) (a' := ?_) #[oY,oY,oY,oY,oY,oY,oY,oY,oN,oY,oY,oN,oN,oY,oY,oY,oY,oN,oY,oY,oN,oN,oN,oN,oN,oN,oN,oN] rfl rfl (by kernel_rfl) (fun _ _ _ h => h) (Or.inl ⟨by rfl, ?_⟩) ?_ ?_
      rotate_left
      ·intro w'
       go_simp
       with_reducible rfl
      rotate_left
      ·simp only [Act.put, List.setIfInBounds_toArray, List.set_cons_zero, List.set_cons_succ, i64_w, i32_w]
       rfl
      refine take_ (i := 17) (N := some 99) (v := ?_) (a' := ?_) #[oY,oY,oY,oY,oY,oY,oY,oY,oN,oY,oY,oN,oN,oY,oY,oY,oY,oY,oY,oY,oN,oN,oN,oN,oN,oN,oN,oN] rfl rfl (by kernel_rfl) (fun _ _ _ h => h) (Or.inl ⟨by rfl, ?_⟩) hHeld ?_ ?_
      rotate_left
      ·rintro w' ⟨s0, s1⟩
       go_simp
       with_reducible rfl
      rotate_left
      ·simp only [Act.put, List.setIfInBounds_toArray, List.set_cons_zero, List.set_cons_succ, i64_w, i32_w]
       rfl
      refine pure_ (i := 20) (N := some 102) (v := ?_) (a' := ?_) #[oY,oY,oY,oY,oY,oY,oY,oY,oN,oY,oY,oN,oN,oY,oY,oY,oY,oY,oY,oY,oY,oN,oN,oN,oN,oN,oN,oN] rfl rfl (by kernel_rfl) (fun _ _ _ h => h) (Or.inl ⟨by rfl, ?_⟩) ?_ ?_
      rotate_left
      ·intro w'
       go_simp
       with_reducible rfl
      rotate_left
      ·simp only [Act.put, List.setIfInBounds_toArray, List.set_cons_zero, List.set_cons_succ, i64_w, i32_w]
       rfl
      refine pure_ (i := 21) (N := some 103) (v := ?_) (a' := ?_) #[oY,oY,oY,oY,oY,oY,oY,oY,oN,oY,oY,oN,oN,oY,oY,oY,oY,oY,oY,oY,oY,oY,oN,oN,oN,oN,oN,oN] rfl rfl (by kernel_rfl) (fun _ _ _ h => h) (Or.inl ⟨by rfl, ?_⟩) ?_ ?_
      rotate_left
      ·intro w'
       go_simp
       with_reducible rfl
      rotate_left
      ·simp only [Act.put, List.setIfInBounds_toArray, List.set_cons_zero, List.set_cons_succ, i64_w, i32_w]
       rfl
      refine one_ (i := 8) (N := some 90) #[oY,oY,oY,oY,oY,oY,oY,oY,oY,oY,oY,oN,oN,oY,oY,oY,oY,oY,oY,oY,oY,oY,oN,oN,oN,oN,oN,oN] rfl rfl (by kernel_rfl) (by decide) (fun K hK => ?_)
      refine value_ (w1 := ?_) (v := ?_) (by rfl) rfl ?_ ?_
      rotate_left 2
      ·go_simp
       constructor
       ·rfl
       ·rfl
      refine hK.out _ _ ⟨msd.1, msd.2⟩ (fun hHeld => ?_)
      clear hK K
      refine norm_ (a' := ?_) ?_ ?_
      rotate_left
      ·show Act.put _ (some 90) _ = _
       simp only [Act.put, List.setIfInBounds_toArray, List.set_cons_zero, List.set_cons_succ, i64_w, i32_w]
       rfl
      refine pure_ (i := 11) (N := some 93) (v := ?_) (a' := ?_) #[oY,oY,oY,oY,oY,oY,oY,oY,oY,oY,oY,oY,oN,oY,oY,oY,oY,oY,oY,oY,oY,oY,oN,oN,oN,oN,oN,oN] rfl rfl (by kernel_rfl) (fun _ _ _ h => h) (Or.inl ⟨by rfl, ?_⟩) ?_ ?_
      rotate_left
      ·intro w'
       go_simp
       with_reducible rfl
      rotate_left
      ·simp only [Act.put, List.setIfInBounds_toArray, List.set_cons_zero, List.set_cons_succ, i64_w, i32_w]
       rfl
      refine pure_ (i := 12) (N := some 94) (v := ?_) (a' := ?_) #[oY,oY,oY,oY,oY,oY,oY,oY,oY,oY,oY,oY,oY,oY,oY,oY,oY,oY,oY,oY,oY,oY,oN,oN,oN,oN,oN,oN] rfl rfl (by kernel_rfl) (fun _ _ _ h => h) (Or.inl ⟨by rfl, ?_⟩) ?_ ?_
      rotate_left
      ·intro w'
       go_simp
       with_reducible rfl
      rotate_left
      ·simp only [Act.put, List.setIfInBounds_toArray, List.set_cons_zero, List.set_cons_succ, i64_w, i32_w]
       rfl
      refine pure_ (i := 22) (N := some 104) (v := ?_) (a' := ?_) #[oY,oY,oY,oY,oY,oY,oY,oY,oY,oY,oY,oY,oY,oY,oY,oY,oY,oY,oY,oY,oY,oY,oY,oN,oN,oN,oN,oN] rfl rfl (by kernel_rfl) (fun _ _ _ h => h) (Or.inl ⟨by rfl, ?_⟩) ?_ ?_
      rotate_left
      ·intro w'
       go_simp
       with_reducible rfl
      rotate_left
      ·simp only [Act.put, List.setIfInBounds_toArray, List.set_cons_zero, List.set_cons_succ, i64_w, i32_w]
       rfl
      refine pure_ (i := 23) (N := some 105) (v := ?_) (a' := ?_) #[oY,oY,oY,oY,oY,oY,oY,oY,oY,oY,oY,oY,oY,oY,oY,oY,oY,oY,oY,oY,oY,oY,oY,oY,oN,oN,oN,oN] rfl rfl (by kernel_rfl) (fun _ _ _ h => h) (Or.inl ⟨by rfl, ?_⟩) ?_ ?_
      rotate_left
      ·intro w'
       go_simp
       with_reducible rfl
      rotate_left
      ·simp only [Act.put, List.setIfInBounds_toArray, List.set_cons_zero, List.set_cons_succ, i64_w, i32_w]
       rfl
      refine one_ (i := 24) (N := none) #[oY,oY,oY,oY,oY,oY,oY,oY,oY,oY,oY,oY,oY,oY,oY,oY,oY,oY,oY,oY,oY,oY,oY,oY,oY,oN,oN,oN] rfl rfl (by kernel_rfl) (by decide) (fun K hK => ?_)
      refine skip_ (w1 := ?_) (by rfl) rfl ?_ ?_
      rotate_left
      ·go_simp
       rfl
      generalize hW5 : World.drew (World.setCell w7 _ _) = W5
      have ms5 : W5.cell? ⟨g7, k * 3 + 2, none⟩ = some (.int .i64 s.f2) ∧ True := ⟨by subst hW5; (go_simp; done), trivial⟩
      have q5 : W5.frozen? ⟨g7, k * 3 + 2, none⟩ = false := by subst hW5; go_simp
      refine hK.out _ _ ⟨ms5.1, ms5.2⟩ (fun hHeld => ?_)
      clear hK K
      refine pure_ (i := 25) (N := some 106) (v := ?_) (a' := ?_) #[oY,oY,oY,oY,oY,oY,oY,oY,oY,oY,oY,oY,oY,oY,oY,oY,oY,oY,oY,oY,oY,oY,oY,oY,oY,oY,oN,oN] rfl rfl (by kernel_rfl) (fun _ _ _ h => h) (Or.inl ⟨by rfl, ?_⟩) ?_ ?_
      rotate_left
      ·intro w'
       go_simp
       with_reducible rfl
      rotate_left
      ·simp only [Act.put, List.setIfInBounds_toArray, List.set_cons_zero, List.set_cons_succ, i64_w, i32_w]
       rfl
      refine pure_ (i := 26) (N := some 107) (v := ?_) (a' := ?_) #[oY,oY,oY,oY,oY,oY,oY,oY,oY,oY,oY,oY,oY,oY,oY,oY,oY,oY,oY,oY,oY,oY,oY,oY,oY,oY,oY,oN] rfl rfl (by kernel_rfl) (fun _ _ _ h => h) (Or.inl ⟨by rfl, ?_⟩) ?_ ?_
      rotate_left
      ·intro w'
       go_simp
       with_reducible rfl
      rotate_left
      ·simp only [Act.put, List.setIfInBounds_toArray, List.set_cons_zero, List.set_cons_succ, i64_w, i32_w]
       rfl
      refine last_ (i := 27) (N := none) #[oY,oY,oY,oY,oY,oY,oY,oY,oY,oY,oY,oY,oY,oY,oY,oY,oY,oY,oY,oY,oY,oY,oY,oY,oY,oY,oY,oY] rfl rfl (by kernel_rfl) (by decide) (fun K hK => ?_)
      refine skip_ (w1 := ?_) (by rfl) rfl ?_ ?_
      rotate_left
      ·go_simp
       rfl
      refine hK.out _ _ ?_
      clear hK K
      refine done_ (by kernel_rfl) ?_
      have h5 : W5 = World.drew (World.setCell w7 ⟨g7, k * 3 + 1, none⟩ (.int .i64 n1)) := hW5.symm
      have H5 := hidE h5
      clear hHeld ms5 q5 h5 hW5 msd d0 d1 d2 d1d x1 x2 lg e3 e4 y1 y2 y3
      generalize hW6 : World.setCell W5 _ _ = W6
      have h6 : W6 = (World.setCell (World.setCell w7 ⟨g7, k * 3 + 1, none⟩ (.int .i64 n1)) ⟨g7, k * 3 + 2, none⟩ (.int .i64 n2)).drew := by rw [← hW6, H5.out]; rfl
      have r8 : RowS 24 W6 g7 cap7 (L.set k ⟨s.f0, n1, n2⟩) := by rw [h6]; exact (HR7.out.set2 HS.out n1 n2).drew
      have f8 : Fr (fun j => j = g7) w7 W6 := by rw [h6]; (repeat' (first | (with_reducible exact Fr.refl _ _) | (with_reducible assumption) | (with_reducible refine Fr.alloc ?_ _) | (with_reducible refine Fr.drew ?_) | (with_reducible refine Fr.drewN ?_ _) | (with_reducible refine Fr.setCell ?_ _ _ ?_) | (exact Or.inr rfl) | (left; simp; done) | (left; simp; omega) | (simp; done) | (simp; omega) | omega))
      have hwr := f6.size
      have F8 : Fr (fun _ => False) w W6 := (((k1.trans f6 (fun _ _ h => h)).trans f7 (fun _ _ h => h))).trans f8 (fun j hj e => by have := k1.size; omega)
      clear hW6 h6 f8 HR7 H5
      have HQ : Hid (∀ W, Fr (fun _ => False) W6 W → Calls Try.prog 39 #[.slice (some ⟨g7, 0, none⟩) L.length cap7] W fun e w' => e = .returned (.tuple #[.int .i64 (hullZ (L.set k ⟨s.f0, n1, n2⟩)).1, .int .i64 (hullZ (L.set k ⟨s.f0, n1, n2⟩)).2.1, .int .i64 (hullZ (L.set k ⟨s.f0, n1, n2⟩)).2.2]) ∧ Fr (fun _ => False) W w') := hidE (fun W kk => by
       have h1 := r8.fr kk (fun h => h)
       have := hull_at (h1.toC hm7) h1.len
       rwa [List.length_set] at this)
      clear r8
      rcases hull_err hLo hLl with hz | ⟨lo, hi, hz⟩
      ·have e := HZ.out.trans hz
       injection e with e1 e
       injection e with e2 e3
       subst e1 e2 e3
       generalize hullZ (L.set k ⟨s.f0, n1, n2⟩) = ZZ at HQ
       obtain ⟨ya, yb, ye⟩ := ZZ
       simp only at HQ
       clear hz HZ
       go_wp2_with fail
       refine (HQ.out _ (Fr.refl _ _)).mono ?_
       rintro e w9 ⟨rfl, k9⟩
       go_wp2_with fail
       refine (alive_at _).mono ?_
       rintro e w10 ⟨rfl, k10⟩
       go_wp2
       go_ret
       exact ⟨rfl, (F8.trans k9 (fun _ _ h => h)).trans k10 (fun _ _ h => h)⟩
      ·have e := HZ.out.trans hz
       injection e with e1 e
       injection e with e2 e3
       subst e1 e2 e3
       have hbb := hb.out
       have hss := hso'.out
       obtain ⟨lo', hi', hzz, l1, l2⟩ := hull_wide HS.out (t := ⟨s.f0, n1, n2⟩) hbb.2.1 hbb.2.2.1 hLo hLl ⟨hbb.1, by simp only; omega, hbb.2.2.2⟩ hz
       rw [hzz] at HQ
       have g1 : decide (lo' ≤ za) = true := decide_eq_true l1
       have g2 : decide (hi' ≥ zb) = true := decide_eq_true l2
       clear hz HZ hzz hbb hss
       go_wp2_with fail
       refine (HQ.out _ (Fr.refl _ _)).mono ?_
       rintro e w9 ⟨rfl, k9⟩
       go_wp2_with fail
       refine (alive_at _).mono ?_
       rintro e w10 ⟨rfl, k10⟩
       go_wp2
       go_ret
       exact ⟨rfl, (F8.trans k9 (fun _ _ h => h)).trans k10 (fun _ _ h => h)⟩
end Go.Proofs.Ytapagoaoglmegaa
