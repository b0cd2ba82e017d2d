/- HeapPlays: the walk of the law. -/
import Derived.Test.YtkcfhdnlmdndeaaPlMem
import Derived.Test.YtkcfhdnlmdndeaaPHpx1
import Derived.Deep.DeepCutAuto
import Derived.Deep.CutBlock
namespace Go.Proofs.Ytkcfhdnlmdndeaa
open Go.RowKit Go.Proofs.YtkcfhdnlmdndeaaW.PrintWords Go.Proofs.YtkcfhdnlmdndeaaW.PrintLast Go.Proofs.YtkcfhdnlmdndeaaW.PrintMore PHp
set_option linter.unusedVariables false
set_option linter.unusedSimpArgs false
set_option maxRecDepth 100000
attribute [local go_sem high] eqA24
/-- An act that was handed in. -/
theorem pact_open {w : World} {A : Option Addr} {len cap i : Nat} (h : RdS [.i .i64, .i .u64, .i .u64, .i .i64] w A len cap) (hi : i < len) :
  ∃ (r off : Nat) (q : Int) (x : It), A = some ⟨r, off, none⟩ ∧ r < w.heap.size ∧ ItOk x ∧ w.cell? ⟨r, off + i * 4, none⟩ = some (.int .i64 q) ∧ w.cell? ⟨r, off + i * 4 + 1, none⟩ = some (.int .u64 x.f0) ∧ w.cell? ⟨r, off + i * 4 + 2, none⟩ = some (.int .u64 x.f1) ∧ w.cell? ⟨r, off + i * 4 + 3, none⟩ = some (.int .i64 x.f2) := by
 obtain ⟨r, off, vs, rfl, ho, hc, hr⟩ := RdS.at h hi
 obtain ⟨v0, r0, rfl, h0, ho⟩ := okAll.cons ho
 obtain ⟨v1, r1, rfl, h1, ho⟩ := okAll.cons ho
 obtain ⟨v2, r2, rfl, h2, ho⟩ := okAll.cons ho
 obtain ⟨v3, r3, rfl, h3, ho⟩ := okAll.cons ho
 have e3 := okAll.none ho
 subst e3
 obtain ⟨q, rfl, hq⟩ := h0
 obtain ⟨a, rfl, ha⟩ := h1
 obtain ⟨b, rfl, hb⟩ := h2
 obtain ⟨c, rfl, hcw⟩ := h3
 exact ⟨r, off, q, ⟨a, b, c⟩, rfl, hr, ⟨ha, hb, hcw⟩, hc 0 _ rfl, hc 1 _ rfl, hc 2 _ rfl, hc 3 _ rfl⟩
def PlS (X : Nat) (x : It) (w' : World) : Prop :=
 w'.cell? ⟨X, 1, none⟩ = some (.int .u64 x.f0) ∧ w'.cell? ⟨X, 2, none⟩ = some (.int .u64 x.f1) ∧ w'.cell? ⟨X, 3, none⟩ = some (.int .i64 x.f2) ∧
 w'.cell? ⟨X + 1, 0, none⟩ = some (.int .u64 x.f0) ∧ w'.cell? ⟨X + 1, 1, none⟩ = some (.int .u64 x.f1) ∧ w'.cell? ⟨X + 1, 2, none⟩ = some (.int .i64 x.f2)
theorem PlS.of {X : Nat} {x : It} {w' : World} {q : Int} {ta tb : TypeId} (h : Blk w' X #[.int .i64 q, .int .u64 x.f0, .int .u64 x.f1, .int .i64 x.f2] ta) (k : Blk w' (X + 1) #[.int .u64 x.f0, .int .u64 x.f1, .int .i64 x.f2] tb) : PlS X x w' :=
 ⟨h.cell 1, h.cell 2, h.cell 3, k.cell 0, k.cell 1, k.cell 2⟩
theorem pnil_push (x : It) (w : World) : Calls Try.prog 15 #[.pointer none, vI x] w fun e w' => e = .returned (.int .i64 2) ∧ Fr (fun _ => False) w w' := by
 go_enter Try.func15, Try.ntmps15
 go_wp2_with fail
 refine (none_nil _).mono ?_
 rintro e w1 ⟨rfl, k1⟩
 go_wp2
 go_ret
 exact ⟨rfl, Fr.trans (by (repeat' (first | (with_reducible exact Fr.refl _ _) | (with_reducible assumption) | (with_reducible refine Fr.alloc ?_ _) | (with_reducible refine Fr.drew ?_) | (with_reducible refine Fr.drewN ?_ _) | (with_reducible refine Fr.setCell ?_ _ _ ?_) | (exact Or.inr rfl) | (left; simp; done) | (left; simp; omega) | (simp; done) | (simp; omega) | omega))) k1 (fun _ _ h => h)⟩
theorem pnil_len (w : World) : Calls Try.prog 16 #[.pointer none] w fun e w' => e = .returned (.int .i64 0) ∧ Fr (fun _ => False) w w' := by
 go_enter Try.func16, Try.ntmps16
 go_wp2_with fail
 refine (none_nil _).mono ?_
 rintro e w1 ⟨rfl, k1⟩
 go_wp2
 go_ret
 exact ⟨rfl, k1⟩
set_option maxHeartbeats 16000000 in
theorem heapPlays_walk (a0 : Int) (a1 : Option Addr) (len1 cap1 : Nat) (w : World) (w0 : (Lit.int .i64 a0).wf = true) (h1 : RdS [.i .i64, .i .u64, .i .u64, .i .i64] w a1 len1 cap1) :
  Calls Try.prog 6 #[.int .i64 a0, .slice a1 len1 cap1] w fun e w' => e = .returned (.bool true) ∧ Fr (fun _ => False) w w' := by
 have hle := RdS.len_le h1
 have H1 := hid h1
 clear h1 w0
 by_cases hb : 1 ≤ a0 ∧ a0 ≤ 1048576
 ·obtain ⟨hb1, hb2⟩ := hb
  have HB1 := hid hb1
  have HB2 := hid hb2
  clear hb1 hb2
  go_enter Try.func6, Try.ntmps6
  go_wp2_with fail
  refine (new_at HB1.out HB2.out).mono ?_
  rintro e w2 ⟨b, m, rfl, h2, hb2, hm2, f2⟩
  go_wp2_with fail
  refine (rnew_at HB1.out HB2.out).mono ?_
  rintro e w3 ⟨rfl, r3, k3⟩
  have hp3 : PS w.heap.size w3 b m (.slice none 0 0) [] w2.heap.size (.slice none 0 0) [] a0 := ⟨h2.fr0 k3, r3, Fz.made hb2 hm2, (fun i hi => hi.elim (fun e => by have := f2.size; omega) (fun e => by cases e)), (fun i hi hj => hj.elim (fun e => by have := h2.lt i hi; omega) (fun e => by cases e))⟩
  have f3 := f2.trans k3 (fun _ _ h => h)
  obtain ⟨g, hg⟩ : ∃ g, g = w2.heap.size := ⟨_, rfl⟩
  rw [← hg] at hp3 ⊢
  clear h2 hb2 hm2 f2 r3 k3 hg
  go_wp2_with fail
  refine (awake_at _).mono ?_
  rintro e w4 ⟨rfl, k4⟩
  have hp4 := hp3.fr0 k4
  have f4 := f3.trans k4 (fun _ _ h => h)
  clear hp3 f3 k4
  go_wp2_with fail
  go_loopw [5, 65] (fun v5 v65 wr => ∃ (b i m : Nat) (v u : Value) (L : List It), i ≤ len1 ∧ i ≤ 150 ∧ v5 = .pointer (some ⟨b, 0, none⟩) ∧ v65 = .int .i64 (i : Int) ∧ PS w.heap.size wr b m v L g u L a0 ∧ Fr (fun _ => False) w wr) (fun _ v65 _ => len1 - (intOf v65).toNat)
  case atStart => exact ⟨b, 0, m, _, _, [], Nat.zero_le _, by omega, rfl, rfl, hp4, f4⟩
  case round =>
   clear hp4 f4
   obtain ⟨b, i, m, v, u, L, hi, hi4, rfl, rfl, hh, hf⟩ := hrel
   by_cases hlt : i < len1
   ·by_cases h40 : i = 150
    ·subst h40
     have l1 : (150 : Int) < (len1 : Int) := by omega
     have l2 : (150 : Nat) < len1 := by omega
     obtain ⟨r, off, q, x, rfl, hr, hox, c0, c1, c2, c3⟩ := pact_open H1.out hlt
     have c0' := (hf.cell (a := ⟨r, off + 150 * 4, none⟩) hr (fun h => h)).trans c0
     have c1' := (hf.cell (a := ⟨r, off + 150 * 4 + 1, none⟩) hr (fun h => h)).trans c1
     have c2' := (hf.cell (a := ⟨r, off + 150 * 4 + 2, none⟩) hr (fun h => h)).trans c2
     have c3' := (hf.cell (a := ⟨r, off + 150 * 4 + 3, none⟩) hr (fun h => h)).trans c3
     clear c0 c1 c2 c3
     go_wp2
     go_ret
     exact ⟨rfl, by (repeat' (first | (with_reducible exact Fr.refl _ _) | (with_reducible assumption) | (with_reducible refine Fr.alloc ?_ _) | (with_reducible refine Fr.drew ?_) | (with_reducible refine Fr.drewN ?_ _) | (with_reducible refine Fr.setCell ?_ _ _ ?_) | (exact Or.inr rfl) | (left; simp; done) | (left; simp; omega) | (simp; done) | (simp; omega) | omega))⟩
    ·obtain ⟨r, off, q, x, rfl, hr, hox, c0, c1, c2, c3⟩ := pact_open H1.out hlt
     have c0' := (hf.cell (a := ⟨r, off + i * 4, none⟩) hr (fun h => h)).trans c0
     have c1' := (hf.cell (a := ⟨r, off + i * 4 + 1, none⟩) hr (fun h => h)).trans c1
     have c2' := (hf.cell (a := ⟨r, off + i * 4 + 2, none⟩) hr (fun h => h)).trans c2
     have c3' := (hf.cell (a := ⟨r, off + i * 4 + 3, none⟩) hr (fun h => h)).trans c3
     have l1 : (i : Int) < (len1 : Int) := by omega
     have l2 : ((i : Int) == 150) = false := by rw [beq_eq_false_iff_ne]; omega
     clear c0 c1 c2 c3
     go_upto_block 2 with fail
     generalize hW : World.alloc (World.alloc wr _) _ = W0
     have j0 : Fr (fun _ => False) wr W0 := by subst hW; (repeat' (first | (with_reducible exact Fr.refl _ _) | (with_reducible assumption) | (with_reducible refine Fr.alloc ?_ _) | (with_reducible refine Fr.drew ?_) | (with_reducible refine Fr.drewN ?_ _) | (with_reducible refine Fr.setCell ?_ _ _ ?_) | (exact Or.inr rfl) | (left; simp; done) | (left; simp; omega) | (simp; done) | (simp; omega) | omega))
     have bX : Blk W0 wr.heap.size #[.int .i64 q, .int .u64 x.f0, .int .u64 x.f1, .int .i64 x.f2] 40 := by subst hW; exact (Blk.new' _ _ _ rfl).alloc _
     have bY : Blk W0 (wr.heap.size + 1) #[.int .u64 x.f0, .int .u64 x.f1, .int .i64 x.f2] 50 := by subst hW; exact Blk.new' _ _ _ (by simp)
     clear hW c0' c1' c2' c3'
     have hh0 := hh.fr0 j0
     have hf0 := hf.trans j0 (fun _ _ h => h)
     have hnX : wr.heap.size ≤ W0.heap.size := j0.size
     obtain ⟨X, hX⟩ : ∃ X, X = wr.heap.size := ⟨_, rfl⟩
     have apX : ∀ i, Ft b m v i ∨ Rt g u i → i ≠ X ∧ i ≠ X + 1 := fun i hi => by have := hh.lts i hi; omega
     have wX : w.heap.size ≤ X := by have := hf.size; omega
     rw [← hX] at bX bY ⊢
     clear hX hnX hh j0
     go_cut [5, 11, 13, 14, 15, 16, 17, 18, 19, 20, 21, 86, 96, 122, 142] (fun s5 s11 s13 s14 s15 s16 s17 s18 s19 s20 s21 s86 s96 s122 s142 wx => ∃ (b m : Nat) (v u : Value) (L : List It), s5 = .pointer (some ⟨b, 0, none⟩) ∧ s11 = .bool true ∧ PS w.heap.size wx b m v L g u L a0 ∧ Blk wx X #[.int .i64 q, .int .u64 x.f0, .int .u64 x.f1, .int .i64 x.f2] 40 ∧ Fr (fun _ => False) w wx)
     case first =>
      by_cases q0 : q = 0
      ·as_aux_lemma =>
        subst q0
        obtain ⟨pe, hpe⟩ : ∃ pe, pe = pushE L a0 x := ⟨_, rfl⟩
        have tpe : (pe == pe) = true := beq_self_eq_true _
        have HPE := hid hpe
        have hhd := hh0.fr0 (Fr.drew (Fr.refl _ _))
        have fd : Fr (fun _ => False) w W0.drew := Fr.drew hf0
        have nd : w.heap.size ≤ W0.drew.heap.size := fd.size
        have bXd : Blk W0.drew X #[.int .i64 0, .int .u64 x.f0, .int .u64 x.f1, .int .i64 x.f2] 40 := bX.drew
        have bYd : Blk W0.drew (X + 1) #[.int .u64 x.f0, .int .u64 x.f1, .int .i64 x.f2] 50 := bY.drew
        have msd := PlS.of bXd bYd
        have x0 := bX.cell 0
        simp at x0
        clear hpe hh0 hf0
        go_wp2_with fail
        refine start_ (n := 9) (S := fun w' => w'.cell? ⟨X, 1, none⟩ = some (.int .u64 x.f0) ∧ w'.cell? ⟨X, 2, none⟩ = some (.int .u64 x.f1) ∧ w'.cell? ⟨X, 3, none⟩ = some (.int .i64 x.f2) ∧ w'.cell? ⟨X + 1, 0, none⟩ = some (.int .u64 x.f0) ∧ w'.cell? ⟨X + 1, 1, none⟩ = some (.int .u64 x.f1) ∧ w'.cell? ⟨X + 1, 2, none⟩ = some (.int .i64 x.f2)) (ds := []) #[oN,oN,oN,oN,oN,oN,oN,oN,oN] (by kernel_rfl) rfl rfl ⟨msd.1, msd.2.1, msd.2.2.1, msd.2.2.2.1, msd.2.2.2.2.1, msd.2.2.2.2.2⟩ (fun hHeld => ?_)
        refine pure_ (i := 0) (N := some 78) (v := ?_) (a' := ?_) #[oY,oN,oN,oN,oN,oN,oN,oN,oN] rfl rfl (by kernel_rfl) (fun _ _ _ h => h) (Or.inl ⟨by rfl, ?_⟩) ?_ ?_
        rotate_left
        ·intro w'
         go_simp
         with_reducible rfl
        rotate_left
        ·simp only [Act.put, List.setIfInBounds_toArray, List.set_cons_zero, List.set_cons_succ, i64_w, i32_w]
         rfl
        refine pure_ (i := 1) (N := some 79) (v := ?_) (a' := ?_) #[oY,oY,oN,oN,oN,oN,oN,oN,oN] rfl rfl (by kernel_rfl) (fun _ _ _ h => h) (Or.inl ⟨by rfl, ?_⟩) ?_ ?_
        rotate_left
        ·intro w'
         go_simp
         with_reducible rfl
        rotate_left
        ·simp only [Act.put, List.setIfInBounds_toArray, List.set_cons_zero, List.set_cons_succ, i64_w, i32_w]
         rfl
        refine pure_ (i := 4) (N := some 82) (v := ?_) (a' := ?_) #[oY,oY,oN,oN,oY,oN,oN,oN,oN] rfl rfl (by kernel_rfl) (fun _ _ _ h => h) (Or.inl ⟨by rfl, ?_⟩) ?_ ?_
        rotate_left
        ·intro w'
         go_simp
         with_reducible rfl
        rotate_left
        ·simp only [Act.put, List.setIfInBounds_toArray, List.set_cons_zero, List.set_cons_succ, i64_w, i32_w]
         rfl
        refine take_ (i := 2) (N := some 80) (v := ?_) (a' := ?_) #[oY,oY,oY,oN,oY,oN,oN,oN,oN] rfl rfl (by kernel_rfl) (fun _ _ _ h => h) (Or.inl ⟨by rfl, ?_⟩) hHeld ?_ ?_
        rotate_left
        ·rintro w' ⟨s0, s1, s2, s3, s4, s5⟩
         go_simp
         with_reducible rfl
        rotate_left
        ·simp only [Act.put, List.setIfInBounds_toArray, List.set_cons_zero, List.set_cons_succ, i64_w, i32_w]
         rfl
        refine take_ (i := 5) (N := some 83) (v := ?_) (a' := ?_) #[oY,oY,oY,oN,oY,oY,oN,oN,oN] rfl rfl (by kernel_rfl) (fun _ _ _ h => h) (Or.inl ⟨by rfl, ?_⟩) hHeld ?_ ?_
        rotate_left
        ·rintro w' ⟨s0, s1, s2, s3, s4, s5⟩
         go_simp
         with_reducible rfl
        rotate_left
        ·simp only [Act.put, List.setIfInBounds_toArray, List.set_cons_zero, List.set_cons_succ, i64_w, i32_w]
         rfl
        refine one_ (i := 3) (N := some 81) #[oY,oY,oY,oY,oY,oY,oN,oN,oN] rfl rfl (by kernel_rfl) (by decide) (fun K hK => ?_)
        refine goes_ Try.func15 (by kernel_rfl) rfl #[.pointer (some ⟨b, 0, none⟩), vI x] (by rfl) rfl rfl (by simp only [List.map_toArray, List.map_cons, List.map_nil]; rfl) ?_
        refine (push_at hhd.hp hox).mono ?_
        rintro e w5 ⟨rfl, v5, h5, hv5, k5⟩
        rw [← HPE.out]
        refine ⟨_, rfl, ?_⟩
        have p5 := hhd.heap nd h5 hv5 k5
        have bX5 := bXd.fr k5 (fun e => (apX _ (.inl e)).1 rfl)
        have bY5 := bYd.fr k5 (fun e => (apX _ (.inl e)).2 rfl)
        have n5 := Nat.le_trans nd k5.size
        have f5 := fd.trans k5 (fun i hi e => by have := hhd.zh i e; omega)
        have ms5 := PlS.of bX5 bY5
        refine hK.out _ _ ⟨ms5.1, ms5.2.1, ms5.2.2.1, ms5.2.2.2.1, ms5.2.2.2.2.1, ms5.2.2.2.2.2⟩ (fun hHeld => ?_)
        clear hK K
        refine norm_ (a' := ?_) ?_ ?_
        rotate_left
        ·show Act.put _ (some 81) _ = _
         simp only [Act.put, List.setIfInBounds_toArray, List.set_cons_zero, List.set_cons_succ, i64_w, i32_w]
         rfl
        refine one_ (i := 6) (N := some 84) #[oY,oY,oY,oY,oY,oY,oY,oN,oN] rfl rfl (by kernel_rfl) (by decide) (fun K hK => ?_)
        refine goes_ Try.func24 (by kernel_rfl) rfl #[.pointer (some ⟨g, 0, none⟩), vI x] (by rfl) rfl rfl (by simp only [List.map_toArray, List.map_cons, List.map_nil]; rfl) ?_
        refine (rpush_at p5.rh).mono ?_
        rintro e w6 ⟨rfl, u6, h6, hu6, k6⟩
        rw [← HPE.out]
        refine ⟨_, rfl, ?_⟩
        have p6 := p5.ref n5 h6 hu6 k6
        have bX6 := bX5.fr k6 (fun e => (apX _ (.inr e)).1 rfl)
        have bY6 := bY5.fr k6 (fun e => (apX _ (.inr e)).2 rfl)
        have f6 := f5.trans k6 (fun i hi e => by have := p5.zr i e; omega)
        have ms6 := PlS.of bX6 bY6
        refine hK.out _ _ ⟨ms6.1, ms6.2.1, ms6.2.2.1, ms6.2.2.2.1, ms6.2.2.2.2.1, ms6.2.2.2.2.2⟩ (fun hHeld => ?_)
        clear hK K
        refine norm_ (a' := ?_) ?_ ?_
        rotate_left
        ·show Act.put _ (some 84) _ = _
         simp only [Act.put, List.setIfInBounds_toArray, List.set_cons_zero, List.set_cons_succ, i64_w, i32_w]
         rfl
        refine pure_ (i := 7) (N := some 85) (v := ?_) (a' := ?_) #[oY,oY,oY,oY,oY,oY,oY,oY,oN] rfl rfl (by kernel_rfl) (fun _ _ _ h => h) (Or.inl ⟨by rfl, ?_⟩) ?_ ?_
        rotate_left
        ·intro w'
         go_simp
         with_reducible rfl
        rotate_left
        ·simp only [Act.put, List.setIfInBounds_toArray, List.set_cons_zero, List.set_cons_succ, i64_w, i32_w]
         rfl
        refine pure_ (i := 8) (N := some 11) (v := ?_) (a' := ?_) #[oY,oY,oY,oY,oY,oY,oY,oY,oY] rfl rfl (by kernel_rfl) (fun _ _ _ h => h) (Or.inl ⟨by rfl, ?_⟩) ?_ ?_
        rotate_left
        ·intro w'
         go_simp
         with_reducible rfl
        rotate_left
        ·simp only [Act.put, List.setIfInBounds_toArray, List.set_cons_zero, List.set_cons_succ, i64_w, i32_w]
         rfl
        refine done_ (by kernel_rfl) ?_
        clear hHeld ms6 ms5 msd
        go_wp2
        all_goals (go_meet; exact ⟨b, m, v5, u6, pushL L a0 x, rfl, rfl, p6, bX6, f6⟩)
      ·by_cases q1 : q = 1
       ·as_aux_lemma =>
         obtain ⟨pe, hpe⟩ : ∃ pe, pe = setE L x := ⟨_, rfl⟩
         have tpe : (pe == pe) = true := beq_self_eq_true _
         have HPE := hid hpe
         subst q1
         have hhd := hh0.fr0 (Fr.drew (Fr.refl _ _))
         have fd : Fr (fun _ => False) w W0.drew := Fr.drew hf0
         have nd : w.heap.size ≤ W0.drew.heap.size := fd.size
         have bXd : Blk W0.drew X #[.int .i64 1, .int .u64 x.f0, .int .u64 x.f1, .int .i64 x.f2] 40 := bX.drew
         have bYd : Blk W0.drew (X + 1) #[.int .u64 x.f0, .int .u64 x.f1, .int .i64 x.f2] 50 := bY.drew
         have msd := PlS.of bXd bYd
         clear hpe hh0 hf0
         go_wp2_with fail
         refine start_ (n := 9) (S := fun w' => w'.cell? ⟨X, 1, none⟩ = some (.int .u64 x.f0) ∧ w'.cell? ⟨X, 2, none⟩ = some (.int .u64 x.f1) ∧ w'.cell? ⟨X, 3, none⟩ = some (.int .i64 x.f2) ∧ w'.cell? ⟨X + 1, 0, none⟩ = some (.int .u64 x.f0) ∧ w'.cell? ⟨X + 1, 1, none⟩ = some (.int .u64 x.f1) ∧ w'.cell? ⟨X + 1, 2, none⟩ = some (.int .i64 x.f2)) (ds := []) #[oN,oN,oN,oN,oN,oN,oN,oN,oN] (by kernel_rfl) rfl rfl ⟨msd.1, msd.2.1, msd.2.2.1, msd.2.2.2.1, msd.2.2.2.2.1, msd.2.2.2.2.2⟩ (fun hHeld => ?_)
         refine pure_ (i := 0) (N := some 88) (v := ?_) (a' := ?_) #[oY,oN,oN,oN,oN,oN,oN,oN,oN] rfl rfl (by kernel_rfl) (fun _ _ _ h => h) (Or.inl ⟨by rfl, ?_⟩) ?_ ?_
         rotate_left
         ·intro w'
          go_simp
          with_reducible rfl
         rotate_left
         ·simp only [Act.put, List.setIfInBounds_toArray, List.set_cons_zero, List.set_cons_succ, i64_w, i32_w]
          rfl
         refine pure_ (i := 1) (N := some 89) (v := ?_) (a' := ?_) #[oY,oY,oN,oN,oN,oN,oN,oN,oN] rfl rfl (by kernel_rfl) (fun _ _ _ h => h) (Or.inl ⟨by rfl, ?_⟩) ?_ ?_
         rotate_left
         ·intro w'
          go_simp
          with_reducible rfl
         rotate_left
         ·simp only [Act.put, List.setIfInBounds_toArray, List.set_cons_zero, List.set_cons_succ, i64_w, i32_w]
          rfl
         refine pure_ (i := 4) (N := some 92) (v := ?_) (a' := ?_) #[oY,oY,oN,oN,oY,oN,oN,oN,oN] rfl rfl (by kernel_rfl) (fun _ _ _ h => h) (Or.inl ⟨by rfl, ?_⟩) ?_ ?_
         rotate_left
         ·intro w'
          go_simp
          with_reducible rfl
         rotate_left
         ·simp only [Act.put, List.setIfInBounds_toArray, List.set_cons_zero, List.set_cons_succ, i64_w, i32_w]
          rfl
         refine take_ (i := 2) (N := some 90) (v := ?_) (a' := ?_) #[oY,oY,oY,oN,oY,oN,oN,oN,oN] rfl rfl (by kernel_rfl) (fun _ _ _ h => h) (Or.inl ⟨by rfl, ?_⟩) hHeld ?_ ?_
         rotate_left
         ·rintro w' ⟨s0, s1, s2, s3, s4, s5⟩
          go_simp
          with_reducible rfl
         rotate_left
         ·simp only [Act.put, List.setIfInBounds_toArray, List.set_cons_zero, List.set_cons_succ, i64_w, i32_w]
          rfl
         refine take_ (i := 5) (N := some 93) (v := ?_) (a' := ?_) #[oY,oY,oY,oN,oY,oY,oN,oN,oN] rfl rfl (by kernel_rfl) (fun _ _ _ h => h) (Or.inl ⟨by rfl, ?_⟩) hHeld ?_ ?_
         rotate_left
         ·rintro w' ⟨s0, s1, s2, s3, s4, s5⟩
          go_simp
          with_reducible rfl
         rotate_left
         ·simp only [Act.put, List.setIfInBounds_toArray, List.set_cons_zero, List.set_cons_succ, i64_w, i32_w]
          rfl
         refine one_ (i := 3) (N := some 91) #[oY,oY,oY,oY,oY,oY,oN,oN,oN] rfl rfl (by kernel_rfl) (by decide) (fun K hK => ?_)
         refine goes_ Try.func18 (by kernel_rfl) rfl #[.pointer (some ⟨b, 0, none⟩), vI x] (by rfl) rfl rfl (by simp only [List.map_toArray, List.map_cons, List.map_nil]; rfl) ?_
         refine (set_at hhd.hp hox).mono ?_
         rintro e w5 ⟨rfl, v5, h5, hv5, k5⟩
         rw [← HPE.out]
         refine ⟨_, rfl, ?_⟩
         have p5 := hhd.heap nd h5 hv5 k5
         have bX5 := bXd.fr k5 (fun e => (apX _ (.inl e)).1 rfl)
         have bY5 := bYd.fr k5 (fun e => (apX _ (.inl e)).2 rfl)
         have n5 := Nat.le_trans nd k5.size
         have f5 := fd.trans k5 (fun i hi e => by have := hhd.zh i e; omega)
         have ms5 := PlS.of bX5 bY5
         refine hK.out _ _ ⟨ms5.1, ms5.2.1, ms5.2.2.1, ms5.2.2.2.1, ms5.2.2.2.2.1, ms5.2.2.2.2.2⟩ (fun hHeld => ?_)
         clear hK K
         refine norm_ (a' := ?_) ?_ ?_
         rotate_left
         ·show Act.put _ (some 91) _ = _
          simp only [Act.put, List.setIfInBounds_toArray, List.set_cons_zero, List.set_cons_succ, i64_w, i32_w]
          rfl
         refine one_ (i := 6) (N := some 94) #[oY,oY,oY,oY,oY,oY,oY,oN,oN] rfl rfl (by kernel_rfl) (by decide) (fun K hK => ?_)
         refine goes_ Try.func25 (by kernel_rfl) rfl #[.pointer (some ⟨g, 0, none⟩), vI x] (by rfl) rfl rfl (by simp only [List.map_toArray, List.map_cons, List.map_nil]; rfl) ?_
         refine (rset_at p5.rh).mono ?_
         rintro e w6 ⟨rfl, h6, k6⟩
         rw [← HPE.out]
         refine ⟨_, rfl, ?_⟩
         have p6 := p5.ref n5 h6 (fun i e => .inl e) k6
         have bX6 := bX5.fr k6 (fun e => (apX _ (.inr e)).1 rfl)
         have bY6 := bY5.fr k6 (fun e => (apX _ (.inr e)).2 rfl)
         have f6 := f5.trans k6 (fun i hi e => by have := p5.zr i e; omega)
         have ms6 := PlS.of bX6 bY6
         refine hK.out _ _ ⟨ms6.1, ms6.2.1, ms6.2.2.1, ms6.2.2.2.1, ms6.2.2.2.2.1, ms6.2.2.2.2.2⟩ (fun hHeld => ?_)
         clear hK K
         refine norm_ (a' := ?_) ?_ ?_
         rotate_left
         ·show Act.put _ (some 94) _ = _
          simp only [Act.put, List.setIfInBounds_toArray, List.set_cons_zero, List.set_cons_succ, i64_w, i32_w]
          rfl
         refine pure_ (i := 7) (N := some 95) (v := ?_) (a' := ?_) #[oY,oY,oY,oY,oY,oY,oY,oY,oN] rfl rfl (by kernel_rfl) (fun _ _ _ h => h) (Or.inl ⟨by rfl, ?_⟩) ?_ ?_
         rotate_left
         ·intro w'
          go_simp
          with_reducible rfl
         rotate_left
         ·simp only [Act.put, List.setIfInBounds_toArray, List.set_cons_zero, List.set_cons_succ, i64_w, i32_w]
          rfl
         refine pure_ (i := 8) (N := some 11) (v := ?_) (a' := ?_) #[oY,oY,oY,oY,oY,oY,oY,oY,oY] rfl rfl (by kernel_rfl) (fun _ _ _ h => h) (Or.inl ⟨by rfl, ?_⟩) ?_ ?_
         rotate_left
         ·intro w'
          go_simp
          with_reducible rfl
         rotate_left
         ·simp only [Act.put, List.setIfInBounds_toArray, List.set_cons_zero, List.set_cons_succ, i64_w, i32_w]
          rfl
         refine done_ (by kernel_rfl) ?_
         clear hHeld ms6 ms5 msd
         go_wp2
         all_goals (go_meet; exact ⟨b, m, v5, u, setL L x, rfl, rfl, p6, bX6, f6⟩)
       ·by_cases q2 : q = 2
        ·as_aux_lemma =>
          subst q2
          have nd : w.heap.size ≤ W0.heap.size := hf0.size
          have x0 := bX.cell 0
          have x1 := bX.cell 1
          simp at x0 x1
          clear bY
          go_wp2_with fail
          refine (rem_at hh0.hp hox.1).mono ?_
          rintro e w5 ⟨rfl, v5, h5, hv5, k5⟩
          have p5 := hh0.heap nd h5 hv5 k5
          have bX5 := bX.fr k5 (fun e => (apX _ (.inl e)).1 rfl)
          have n5 := Nat.le_trans nd k5.size
          have f5 := hf0.trans k5 (fun i hi e => by have := hh0.zh i e; omega)
          clear hh0 hf0 h5 k5 bX x0 x1
          obtain ⟨z, hz⟩ : ∃ z, z = remX L x.f0 := ⟨_, rfl⟩
          obtain ⟨ze, hze⟩ : ∃ z, z = remE L x.f0 := ⟨_, rfl⟩
          rw [← hz, ← hze]
          have tz0 : (z.f0 == z.f0) = true := beq_self_eq_true _
          have tz1 : (z.f1 == z.f1) = true := beq_self_eq_true _
          have tz2 : (z.f2 == z.f2) = true := beq_self_eq_true _
          have tze : (ze == ze) = true := beq_self_eq_true _
          have HZ := hid hz
          have HZE := hid hze
          clear hz hze
          obtain ⟨x0, x1, _⟩ := (⟨bX5.cell 0, bX5.cell 1, trivial⟩ : _ ∧ _ ∧ True)
          simp at x0 x1
          have hXl := bX5.lt
          have hX8 := lt8 hXl
          go_wp2_with fail
          generalize hW : World.alloc w5 _ = w6
          have f56 : Fr (fun _ => False) w5 w6 := by subst hW; (repeat' (first | (with_reducible exact Fr.refl _ _) | (with_reducible assumption) | (with_reducible refine Fr.alloc ?_ _) | (with_reducible refine Fr.drew ?_) | (with_reducible refine Fr.drewN ?_ _) | (with_reducible refine Fr.setCell ?_ _ _ ?_) | (exact Or.inr rfl) | (left; simp; done) | (left; simp; omega) | (simp; done) | (simp; omega) | omega))
          have bZ : Blk w6 w5.heap.size #[.int .u64 z.f0, .int .u64 z.f1, .int .i64 z.f2] 24 := by subst hW; (repeat' (first | (with_reducible assumption) | (with_reducible apply Blk.drew) | (with_reducible apply Blk.drewN) | (with_reducible apply Blk.set) | (with_reducible apply Blk.other) | (exact Blk.new' _ _ _ (by first | rfl | (simp; done) | (simp; omega))) | (with_reducible apply Blk.alloc) | (with_reducible rfl) | (simp; done) | (simp; omega) | omega | rfl))
          clear hW x0 x1
          have p6 := p5.fr0 f56
          have bX6 := bX5.fr f56 (fun h => h)
          have n6 := Nat.le_trans n5 f56.size
          have f6 := f5.trans f56 (fun _ _ h => h)
          have ap6 : ∀ i, Rt g u i → i ≠ w5.heap.size := fun i hi => by have := p5.rh.lt i hi; omega
          clear p5 bX5 f5 f56
          refine (rrem_at p6.rh).mono ?_
          rintro e w7 ⟨rfl, u7, h7, hu7, k7⟩
          rw [← HZ.out, ← HZE.out]
          have p7 := p6.ref n6 h7 hu7 k7
          have bX7 := bX6.fr k7 (fun e => (apX _ (.inr e)).1 rfl)
          have bZ7 := bZ.fr k7 (fun e => ap6 _ e rfl)
          have f7 := f6.trans k7 (fun i hi e => by have := p6.zr i e; omega)
          clear p6 bX6 bZ f6 h7 k7
          obtain ⟨z0, z1, z2, _⟩ := bZ7.c3
          have hZl := bZ7.lt
          have hZ8 := lt8 hZl
          go_upto_region 21 with fail
          generalize hW : World.alloc w7 _ = w8
          have f78 : Fr (fun _ => False) w7 w8 := by subst hW; (repeat' (first | (with_reducible exact Fr.refl _ _) | (with_reducible assumption) | (with_reducible refine Fr.alloc ?_ _) | (with_reducible refine Fr.drew ?_) | (with_reducible refine Fr.drewN ?_ _) | (with_reducible refine Fr.setCell ?_ _ _ ?_) | (exact Or.inr rfl) | (left; simp; done) | (left; simp; omega) | (simp; done) | (simp; omega) | omega))
          have bV : Blk w8 w7.heap.size #[.int .u64 z.f0, .int .u64 z.f1, .int .i64 z.f2] 50 := by subst hW; (repeat' (first | (with_reducible assumption) | (with_reducible apply Blk.drew) | (with_reducible apply Blk.drewN) | (with_reducible apply Blk.set) | (with_reducible apply Blk.other) | (exact Blk.new' _ _ _ (by first | rfl | (simp; done) | (simp; omega))) | (with_reducible apply Blk.alloc) | (with_reducible rfl) | (simp; done) | (simp; omega) | omega | rfl))
          clear hW z0 z1 z2
          obtain ⟨z0, z1, z2, _⟩ := (bZ7.fr f78 (fun h => h)).c3
          obtain ⟨y0, y1, y2, _⟩ := bV.c3
          have p8 := p7.fr0 f78
          have bX8 := bX7.fr f78 (fun h => h)
          have f8 := f7.trans f78 (fun _ _ h => h)
          clear p7 bX7 f7 f78 bZ7 bV
          go_wp2
          all_goals (go_meet; exact ⟨b, m, v5, u7, remL L x.f0, rfl, rfl, p8, bX8, f8⟩)
        ·by_cases q3 : q = 3
         ·as_aux_lemma =>
           subst q3
           have nd : w.heap.size ≤ W0.heap.size := hf0.size
           have x0 := bX.cell 0
           have x1 := bX.cell 1
           simp at x0 x1
           clear bY
           go_wp2_with fail
           refine (pop_at hh0.hp).mono ?_
           rintro e w5 ⟨rfl, v5, h5, hv5, k5⟩
           have p5 := hh0.heap nd h5 hv5 k5
           have bX5 := bX.fr k5 (fun e => (apX _ (.inl e)).1 rfl)
           have n5 := Nat.le_trans nd k5.size
           have f5 := hf0.trans k5 (fun i hi e => by have := hh0.zh i e; omega)
           clear hh0 hf0 h5 k5 bX x0 x1
           obtain ⟨z, hz⟩ : ∃ z, z = popX L := ⟨_, rfl⟩
           obtain ⟨ze, hze⟩ : ∃ z, z = popE L := ⟨_, rfl⟩
           rw [← hz, ← hze]
           have tz0 : (z.f0 == z.f0) = true := beq_self_eq_true _
           have tz1 : (z.f1 == z.f1) = true := beq_self_eq_true _
           have tz2 : (z.f2 == z.f2) = true := beq_self_eq_true _
           have tze : (ze == ze) = true := beq_self_eq_true _
           have HZ := hid hz
           have HZE := hid hze
           clear hz hze
           obtain ⟨x0, x1, _⟩ := (⟨bX5.cell 0, bX5.cell 1, trivial⟩ : _ ∧ _ ∧ True)
           simp at x0 x1
           have hXl := bX5.lt
           have hX8 := lt8 hXl
           go_wp2_with fail
           generalize hW : World.alloc w5 _ = w6
           have f56 : Fr (fun _ => False) w5 w6 := by subst hW; (repeat' (first | (with_reducible exact Fr.refl _ _) | (with_reducible assumption) | (with_reducible refine Fr.alloc ?_ _) | (with_reducible refine Fr.drew ?_) | (with_reducible refine Fr.drewN ?_ _) | (with_reducible refine Fr.setCell ?_ _ _ ?_) | (exact Or.inr rfl) | (left; simp; done) | (left; simp; omega) | (simp; done) | (simp; omega) | omega))
           have bZ : Blk w6 w5.heap.size #[.int .u64 z.f0, .int .u64 z.f1, .int .i64 z.f2] 24 := by subst hW; (repeat' (first | (with_reducible assumption) | (with_reducible apply Blk.drew) | (with_reducible apply Blk.drewN) | (with_reducible apply Blk.set) | (with_reducible apply Blk.other) | (exact Blk.new' _ _ _ (by first | rfl | (simp; done) | (simp; omega))) | (with_reducible apply Blk.alloc) | (with_reducible rfl) | (simp; done) | (simp; omega) | omega | rfl))
           clear hW x0 x1
           have p6 := p5.fr0 f56
           have bX6 := bX5.fr f56 (fun h => h)
           have n6 := Nat.le_trans n5 f56.size
           have f6 := f5.trans f56 (fun _ _ h => h)
           have ap6 : ∀ i, Rt g u i → i ≠ w5.heap.size := fun i hi => by have := p5.rh.lt i hi; omega
           clear p5 bX5 f5 f56
           refine (rpop_at p6.rh).mono ?_
           rintro e w7 ⟨rfl, u7, h7, hu7, k7⟩
           rw [← HZ.out, ← HZE.out]
           have p7 := p6.ref n6 h7 hu7 k7
           have bX7 := bX6.fr k7 (fun e => (apX _ (.inr e)).1 rfl)
           have bZ7 := bZ.fr k7 (fun e => ap6 _ e rfl)
           have f7 := f6.trans k7 (fun i hi e => by have := p6.zr i e; omega)
           clear p6 bX6 bZ f6 h7 k7
           obtain ⟨z0, z1, z2, _⟩ := bZ7.c3
           have hZl := bZ7.lt
           have hZ8 := lt8 hZl
           go_upto_region 25 with fail
           generalize hW : World.alloc w7 _ = w8
           have f78 : Fr (fun _ => False) w7 w8 := by subst hW; (repeat' (first | (with_reducible exact Fr.refl _ _) | (with_reducible assumption) | (with_reducible refine Fr.alloc ?_ _) | (with_reducible refine Fr.drew ?_) | (with_reducible refine Fr.drewN ?_ _) | (with_reducible refine Fr.setCell ?_ _ _ ?_) | (exact Or.inr rfl) | (left; simp; done) | (left; simp; omega) | (simp; done) | (simp; omega) | omega))
           have bV : Blk w8 w7.heap.size #[.int .u64 z.f0, .int .u64 z.f1, .int .i64 z.f2] 50 := by subst hW; (repeat' (first | (with_reducible assumption) | (with_reducible apply Blk.drew) | (with_reducible apply Blk.drewN) | (with_reducible apply Blk.set) | (with_reducible apply Blk.other) | (exact Blk.new' _ _ _ (by first | rfl | (simp; done) | (simp; omega))) | (with_reducible apply Blk.alloc) | (with_reducible rfl) | (simp; done) | (simp; omega) | omega | rfl))
           clear hW z0 z1 z2
           obtain ⟨z0, z1, z2, _⟩ := (bZ7.fr f78 (fun h => h)).c3
           obtain ⟨y0, y1, y2, _⟩ := bV.c3
           have p8 := p7.fr0 f78
           have bX8 := bX7.fr f78 (fun h => h)
           have f8 := f7.trans f78 (fun _ _ h => h)
           clear p7 bX7 f7 f78 bZ7 bV
           go_wp2
           all_goals (go_meet; exact ⟨b, m, v5, u7, popL L, rfl, rfl, p8, bX8, f8⟩)
         ·by_cases q4 : q = 4
          ·as_aux_lemma =>
            subst q4
            have nd : w.heap.size ≤ W0.heap.size := hf0.size
            clear bY
            go_wp2_with fail
            refine (copy_at hh0.hp).mono ?_
            rintro e w5 ⟨c, m5, v5, rfl, h5, hv5, k5⟩
            obtain ⟨p5, o5⟩ := hh0.copy nd h5 hv5 k5
            have bX5 := bX.fr k5 (fun h => h)
            have n5 := Nat.le_trans nd k5.size
            have f5 := hf0.trans k5 (fun _ _ h => h)
            have apo : ∀ i, Ft b m v i → i ≠ X := fun i hi => (apX i (.inl hi)).1
            clear hh0 hf0 h5 k5 bX
            go_wp2_with fail
            refine (pop_at o5.hp).mono ?_
            rintro e w6 ⟨rfl, v6, h6, hv6, k6⟩
            have p6 := p5.old o5 k6
            have bX6 := bX5.fr k6 (fun e => apo _ e rfl)
            have o6 := o5.next n5 p5.lts h6 hv6
            have hX5 := bX5.lt
            have apo6 : ∀ i, Ft b m v6 i → i ≠ X := fun i hi => by
             rcases hi with e | e | e
             ·exact apo i (.inl e)
             ·exact apo i (.inr (.inl e))
             ·rcases hv6 i e with e | e
              ·exact apo i (.inr (.inr e))
              ·omega
            have f6 := f5.trans k6 (fun i hi e => by have := o5.z i e; omega)
            have n6 := Nat.le_trans n5 k6.size
            clear p5 o5 bX5 f5 h6 k6
            have x0 := bX6.cell 0
            have x1 := bX6.cell 1
            have x2 := bX6.cell 2
            have x3 := bX6.cell 3
            simp at x0 x1 x2 x3
            go_wp2_with fail
            refine (push_at o6.hp hox).mono ?_
            rintro e w7 ⟨rfl, v7, h7, hv7, k7⟩
            have p7 := p6.old o6 k7
            have bX7 := bX6.fr k7 (fun e => apo6 _ e rfl)
            have f7 := f6.trans k7 (fun i hi e => by have := o6.z i e; omega)
            clear x0 x1 x2 x3 p6 o6 f6 h7 k7
            go_wp2
            all_goals (go_meet; exact ⟨c, m5, v5, u, L, rfl, rfl, p7, bX7, f7⟩)
          ·as_aux_lemma =>
            have t0 : (q == 0) = false := beq_eq_false_iff_ne.2 q0
            have t1 : (q == 1) = false := beq_eq_false_iff_ne.2 q1
            have t2 : (q == 2) = false := beq_eq_false_iff_ne.2 q2
            have t3 : (q == 3) = false := beq_eq_false_iff_ne.2 q3
            have t4 : (q == 4) = false := beq_eq_false_iff_ne.2 q4
            clear q0 q1 q2 q3 q4 bY
            go_wp2
            all_goals (go_meet; exact ⟨b, m, v, u, L, rfl, rfl, hh0, bX, hf0⟩)
     case rest =>
      obtain ⟨b, m, v, u, L, rfl, rfl, hh, bX, hf⟩ := hcut
      have x1 := bX.cell 1
      simp at x1
      have hXl := bX.lt
      have hX8 := lt8 hXl
      go_wp2_with fail
      refine (find_hp hh.hp hox.1).mono ?_
      rintro e w5 ⟨rfl, k5⟩
      have h5 := hh.fr0 k5
      have bX5 := bX.fr k5 (fun h => h)
      have f5 := hf.trans k5 (fun _ _ h => h)
      clear hh bX hf k5 x1
      have x1 := bX5.cell 1
      simp at x1
      have hXl5 := bX5.lt
      have hX85 := lt8 hXl5
      obtain ⟨y, hy⟩ : ∃ y, y = findX L x.f0 := ⟨_, rfl⟩
      obtain ⟨p, hp⟩ : ∃ p, p = place L x.f0 := ⟨_, rfl⟩
      rw [← hy, ← hp]
      obtain ⟨ps, hps⟩ : ∃ ps, ps = p.isSome := ⟨_, rfl⟩
      obtain ⟨pi, hpi⟩ : ∃ pi, pi = p.getD 0 := ⟨_, rfl⟩
      rw [← hps, ← hpi]
      have HY := hid hy
      have HP0 := hid hp
      have HPS := hid hps
      have HPI := hid hpi
      clear hy hp hps hpi
      go_upto_region 32 with fail
      generalize hW : World.alloc w5 _ = w6
      have f56 : Fr (fun _ => False) w5 w6 := by subst hW; (repeat' (first | (with_reducible exact Fr.refl _ _) | (with_reducible assumption) | (with_reducible refine Fr.alloc ?_ _) | (with_reducible refine Fr.drew ?_) | (with_reducible refine Fr.drewN ?_ _) | (with_reducible refine Fr.setCell ?_ _ _ ?_) | (exact Or.inr rfl) | (left; simp; done) | (left; simp; omega) | (simp; done) | (simp; omega) | omega))
      have bF : Blk w6 w5.heap.size #[.int .u64 y.f0, .int .u64 y.f1, .int .i64 y.f2] 24 := by subst hW; (repeat' (first | (with_reducible assumption) | (with_reducible apply Blk.drew) | (with_reducible apply Blk.drewN) | (with_reducible apply Blk.set) | (with_reducible apply Blk.other) | (exact Blk.new' _ _ _ (by first | rfl | (simp; done) | (simp; omega))) | (with_reducible apply Blk.alloc) | (with_reducible rfl) | (simp; done) | (simp; omega) | omega | rfl))
      clear hW x1
      have h6 := h5.fr0 f56
      have bX6 := bX5.fr f56 (fun h => h)
      have f6 := f5.trans f56 (fun _ _ h => h)
      have x1 := bX6.cell 1
      simp at x1
      clear h5 bX5 f5 f56
      go_wp2_with fail
      refine (rplace_at h6.rh.blk h6.rh.its).mono ?_
      rintro e w7 ⟨rfl, rfl⟩
      obtain ⟨q1, hq1⟩ : ∃ q1, q1 = plI L x.f0 := ⟨_, rfl⟩
      rw [← hq1]
      have HQ1 := hid hq1
      clear hq1 x1
      go_upto_region 33 with fail
      obtain ⟨F, hF⟩ : ∃ F, F = w5.heap.size := ⟨_, rfl⟩
      rw [← hF] at bF ⊢
      clear hF
      go_cut [189] (fun s189 wx => s189 = .bool false ∧ Fr (fun _ => False) w6 wx)
      case first =>
       cases hpl : place L x.f0 with
       | none =>
        as_aux_lemma =>
         obtain rfl : ps = false := by rw [HPS.out, HP0.out, hpl]; rfl
         obtain rfl : q1 = -1 := by rw [HQ1.out]; exact plI_none hpl
         clear hpl HPS HPI HQ1 HP0 HY
         have msd : Fr (fun _ => False) w6 w6.drew ∧ True := ⟨Fr.drew (Fr.refl _ _), trivial⟩
         refine start_ (n := 23) (S := fun w' => Fr (fun _ => False) w6 w' ∧ True) (ds := []) #[oN,oN,oN,oN,oN,oN,oN,oN,oN,oN,oN,oN,oN,oN,oN,oN,oN,oN,oN,oN,oN,oN,oN] (by kernel_rfl) rfl rfl ⟨msd.1, msd.2⟩ (fun hHeld => ?_)
         refine pure_ (i := 0) (N := some 167) (v := ?_) (a' := ?_) #[oY,oN,oN,oN,oN,oN,oN,oN,oN,oN,oN,oN,oN,oN,oN,oN,oN,oN,oN,oN,oN,oN,oN] rfl rfl (by kernel_rfl) (fun _ _ _ h => h) (Or.inl ⟨by rfl, ?_⟩) ?_ ?_
         rotate_left
         ·intro w'
          go_simp
          with_reducible rfl
         rotate_left
         ·simp only [Act.put, List.setIfInBounds_toArray, List.set_cons_zero, List.set_cons_succ, i64_w, i32_w]
          rfl
         refine pure_ (i := 1) (N := some 168) (v := ?_) (a' := ?_) #[oY,oY,oN,oN,oN,oN,oN,oN,oN,oN,oN,oN,oN,oN,oN,oN,oN,oN,oN,oN,oN,oN,oN] rfl rfl (by kernel_rfl) (fun _ _ _ h => h) (Or.inl ⟨by rfl, ?_⟩) ?_ ?_
         rotate_left
         ·intro w'
          go_simp
          with_reducible rfl
         rotate_left
         ·simp only [Act.put, List.setIfInBounds_toArray, List.set_cons_zero, List.set_cons_succ, i64_w, i32_w]
          rfl
         refine pure_ (i := 2) (N := some 169) (v := ?_) (a' := ?_) #[oY,oY,oY,oN,oN,oN,oN,oN,oN,oN,oN,oN,oN,oN,oN,oN,oN,oN,oN,oN,oN,oN,oN] rfl rfl (by kernel_rfl) (fun _ _ _ h => h) (Or.inl ⟨by rfl, ?_⟩) ?_ ?_
         rotate_left
         ·intro w'
          go_simp
          with_reducible rfl
         rotate_left
         ·simp only [Act.put, List.setIfInBounds_toArray, List.set_cons_zero, List.set_cons_succ, i64_w, i32_w]
          rfl
         refine pure_ (i := 3) (N := some 170) (v := ?_) (a' := ?_) #[oY,oY,oY,oY,oN,oN,oN,oN,oN,oN,oN,oN,oN,oN,oN,oN,oN,oN,oN,oN,oN,oN,oN] rfl rfl (by kernel_rfl) (fun _ _ _ h => h) (Or.inl ⟨by rfl, ?_⟩) ?_ ?_
         rotate_left
         ·intro w'
          go_simp
          with_reducible rfl
         rotate_left
         ·simp only [Act.put, List.setIfInBounds_toArray, List.set_cons_zero, List.set_cons_succ, i64_w, i32_w]
          rfl
         refine pure_ (i := 4) (N := some 171) (v := ?_) (a' := ?_) #[oY,oY,oY,oY,oY,oN,oN,oN,oN,oN,oN,oN,oN,oN,oN,oN,oN,oN,oN,oN,oN,oN,oN] rfl rfl (by kernel_rfl) (fun _ _ _ h => h) (Or.inl ⟨by rfl, ?_⟩) ?_ ?_
         rotate_left
         ·intro w'
          go_simp
          with_reducible rfl
         rotate_left
         ·simp only [Act.put, List.setIfInBounds_toArray, List.set_cons_zero, List.set_cons_succ, i64_w, i32_w]
          rfl
         refine pure_ (i := 5) (N := some 172) (v := ?_) (a' := ?_) #[oY,oY,oY,oY,oY,oY,oN,oN,oN,oN,oN,oN,oN,oN,oN,oN,oN,oN,oN,oN,oN,oN,oN] rfl rfl (by kernel_rfl) (fun _ _ _ h => h) (Or.inl ⟨by rfl, ?_⟩) ?_ ?_
         rotate_left
         ·intro w'
          go_simp
          with_reducible rfl
         rotate_left
         ·simp only [Act.put, List.setIfInBounds_toArray, List.set_cons_zero, List.set_cons_succ, i64_w, i32_w]
          rfl
         refine pure_ (i := 6) (N := some 173) (v := ?_) (a' := ?_) #[oY,oY,oY,oY,oY,oY,oY,oN,oN,oN,oN,oN,oN,oN,oN,oN,oN,oN,oN,oN,oN,oN,oN] rfl rfl (by kernel_rfl) (fun _ _ _ h => h) (Or.inl ⟨by rfl, ?_⟩) ?_ ?_
         rotate_left
         ·intro w'
          go_simp
          with_reducible rfl
         rotate_left
         ·simp only [Act.put, List.setIfInBounds_toArray, List.set_cons_zero, List.set_cons_succ, i64_w, i32_w]
          rfl
         refine pure_ (i := 7) (N := some 174) (v := undef) (a' := ?_) #[oY,oY,oY,oY,oY,oY,oY,oY,oN,oN,oN,oN,oN,oN,oN,oN,oN,oN,oN,oN,oN,oN,oN] rfl rfl (by kernel_rfl) (fun _ _ _ h => h) (Or.inr ⟨by rfl, rfl⟩) ?_ ?_
         rotate_left
         ·simp only [Act.put, List.setIfInBounds_toArray, List.set_cons_zero, List.set_cons_succ, i64_w, i32_w]
          rfl
         refine pure_ (i := 8) (N := some 175) (v := undef) (a' := ?_) #[oY,oY,oY,oY,oY,oY,oY,oY,oY,oN,oN,oN,oN,oN,oN,oN,oN,oN,oN,oN,oN,oN,oN] rfl rfl (by kernel_rfl) (fun _ _ _ h => h) (Or.inr ⟨by rfl, rfl⟩) ?_ ?_
         rotate_left
         ·simp only [Act.put, List.setIfInBounds_toArray, List.set_cons_zero, List.set_cons_succ, i64_w, i32_w]
          rfl
         refine pure_ (i := 9) (N := some 176) (v := undef) (a' := ?_) #[oY,oY,oY,oY,oY,oY,oY,oY,oY,oY,oN,oN,oN,oN,oN,oN,oN,oN,oN,oN,oN,oN,oN] rfl rfl (by kernel_rfl) (fun _ _ _ h => h) (Or.inr ⟨by rfl, rfl⟩) ?_ ?_
         rotate_left
         ·simp only [Act.put, List.setIfInBounds_toArray, List.set_cons_zero, List.set_cons_succ, i64_w, i32_w]
          rfl
         refine pure_ (i := 10) (N := some 177) (v := undef) (a' := ?_) #[oY,oY,oY,oY,oY,oY,oY,oY,oY,oY,oY,oN,oN,oN,oN,oN,oN,oN,oN,oN,oN,oN,oN] rfl rfl (by kernel_rfl) (fun _ _ _ h => h) (Or.inr ⟨by rfl, rfl⟩) ?_ ?_
         rotate_left
         ·simp only [Act.put, List.setIfInBounds_toArray, List.set_cons_zero, List.set_cons_succ, i64_w, i32_w]
          rfl
         refine pure_ (i := 11) (N := some 178) (v := undef) (a' := ?_) #[oY,oY,oY,oY,oY,oY,oY,oY,oY,oY,oY,oY,oN,oN,oN,oN,oN,oN,oN,oN,oN,oN,oN] rfl rfl (by kernel_rfl) (fun _ _ _ h => h) (Or.inr ⟨by rfl, rfl⟩) ?_ ?_
         rotate_left
         ·simp only [Act.put, List.setIfInBounds_toArray, List.set_cons_zero, List.set_cons_succ, i64_w, i32_w]
          rfl
         refine pure_ (i := 12) (N := some 179) (v := undef) (a' := ?_) #[oY,oY,oY,oY,oY,oY,oY,oY,oY,oY,oY,oY,oY,oN,oN,oN,oN,oN,oN,oN,oN,oN,oN] rfl rfl (by kernel_rfl) (fun _ _ _ h => h) (Or.inr ⟨by rfl, rfl⟩) ?_ ?_
         rotate_left
         ·simp only [Act.put, List.setIfInBounds_toArray, List.set_cons_zero, List.set_cons_succ, i64_w, i32_w]
          rfl
         refine pure_ (i := 13) (N := some 180) (v := undef) (a' := ?_) #[oY,oY,oY,oY,oY,oY,oY,oY,oY,oY,oY,oY,oY,oY,oN,oN,oN,oN,oN,oN,oN,oN,oN] rfl rfl (by kernel_rfl) (fun _ _ _ h => h) (Or.inr ⟨by rfl, rfl⟩) ?_ ?_
         rotate_left
         ·simp only [Act.put, List.setIfInBounds_toArray, List.set_cons_zero, List.set_cons_succ, i64_w, i32_w]
          rfl
         refine pure_ (i := 14) (N := some 181) (v := undef) (a' := ?_) #[oY,oY,oY,oY,oY,oY,oY,oY,oY,oY,oY,oY,oY,oY,oY,oN,oN,oN,oN,oN,oN,oN,oN] rfl rfl (by kernel_rfl) (fun _ _ _ h => h) (Or.inr ⟨by rfl, rfl⟩) ?_ ?_
         rotate_left
         ·simp only [Act.put, List.setIfInBounds_toArray, List.set_cons_zero, List.set_cons_succ, i64_w, i32_w]
          rfl
         refine pure_ (i := 15) (N := some 182) (v := undef) (a' := ?_) #[oY,oY,oY,oY,oY,oY,oY,oY,oY,oY,oY,oY,oY,oY,oY,oY,oN,oN,oN,oN,oN,oN,oN] rfl rfl (by kernel_rfl) (fun _ _ _ h => h) (Or.inr ⟨by rfl, rfl⟩) ?_ ?_
         rotate_left
         ·simp only [Act.put, List.setIfInBounds_toArray, List.set_cons_zero, List.set_cons_succ, i64_w, i32_w]
          rfl
         refine pure_ (i := 16) (N := some 183) (v := undef) (a' := ?_) #[oY,oY,oY,oY,oY,oY,oY,oY,oY,oY,oY,oY,oY,oY,oY,oY,oY,oN,oN,oN,oN,oN,oN] rfl rfl (by kernel_rfl) (fun _ _ _ h => h) (Or.inr ⟨by rfl, rfl⟩) ?_ ?_
         rotate_left
         ·simp only [Act.put, List.setIfInBounds_toArray, List.set_cons_zero, List.set_cons_succ, i64_w, i32_w]
          rfl
         refine pure_ (i := 17) (N := some 184) (v := undef) (a' := ?_) #[oY,oY,oY,oY,oY,oY,oY,oY,oY,oY,oY,oY,oY,oY,oY,oY,oY,oY,oN,oN,oN,oN,oN] rfl rfl (by kernel_rfl) (fun _ _ _ h => h) (Or.inr ⟨by rfl, rfl⟩) ?_ ?_
         rotate_left
         ·simp only [Act.put, List.setIfInBounds_toArray, List.set_cons_zero, List.set_cons_succ, i64_w, i32_w]
          rfl
         refine pure_ (i := 18) (N := some 185) (v := undef) (a' := ?_) #[oY,oY,oY,oY,oY,oY,oY,oY,oY,oY,oY,oY,oY,oY,oY,oY,oY,oY,oY,oN,oN,oN,oN] rfl rfl (by kernel_rfl) (fun _ _ _ h => h) (Or.inr ⟨by rfl, rfl⟩) ?_ ?_
         rotate_left
         ·simp only [Act.put, List.setIfInBounds_toArray, List.set_cons_zero, List.set_cons_succ, i64_w, i32_w]
          rfl
         refine pure_ (i := 19) (N := some 186) (v := undef) (a' := ?_) #[oY,oY,oY,oY,oY,oY,oY,oY,oY,oY,oY,oY,oY,oY,oY,oY,oY,oY,oY,oY,oN,oN,oN] rfl rfl (by kernel_rfl) (fun _ _ _ h => h) (Or.inr ⟨by rfl, rfl⟩) ?_ ?_
         rotate_left
         ·simp only [Act.put, List.setIfInBounds_toArray, List.set_cons_zero, List.set_cons_succ, i64_w, i32_w]
          rfl
         refine pure_ (i := 20) (N := some 187) (v := undef) (a' := ?_) #[oY,oY,oY,oY,oY,oY,oY,oY,oY,oY,oY,oY,oY,oY,oY,oY,oY,oY,oY,oY,oY,oN,oN] rfl rfl (by kernel_rfl) (fun _ _ _ h => h) (Or.inr ⟨by rfl, rfl⟩) ?_ ?_
         rotate_left
         ·simp only [Act.put, List.setIfInBounds_toArray, List.set_cons_zero, List.set_cons_succ, i64_w, i32_w]
          rfl
         refine pure_ (i := 21) (N := some 188) (v := ?_) (a' := ?_) #[oY,oY,oY,oY,oY,oY,oY,oY,oY,oY,oY,oY,oY,oY,oY,oY,oY,oY,oY,oY,oY,oY,oN] rfl rfl (by kernel_rfl) (fun _ _ _ h => h) (Or.inl ⟨by rfl, ?_⟩) ?_ ?_
         rotate_left
         ·intro w'
          go_simp
          with_reducible rfl
         rotate_left
         ·simp only [Act.put, List.setIfInBounds_toArray, List.set_cons_zero, List.set_cons_succ, i64_w, i32_w]
          rfl
         refine pure_ (i := 22) (N := some 189) (v := ?_) (a' := ?_) #[oY,oY,oY,oY,oY,oY,oY,oY,oY,oY,oY,oY,oY,oY,oY,oY,oY,oY,oY,oY,oY,oY,oY] rfl rfl (by kernel_rfl) (fun _ _ _ h => h) (Or.inl ⟨by rfl, ?_⟩) ?_ ?_
         rotate_left
         ·intro w'
          go_simp
          with_reducible rfl
         rotate_left
         ·simp only [Act.put, List.setIfInBounds_toArray, List.set_cons_zero, List.set_cons_succ, i64_w, i32_w]
          rfl
         refine done_ (by kernel_rfl) ?_
         go_wp2
         go_meet
         exact ⟨rfl, hHeld.1⟩
       | some k =>
        as_aux_lemma =>
         have hkl : k < L.length := (place_some hpl).1
         obtain rfl : ps = true := by rw [HPS.out, HP0.out, hpl]; rfl
         obtain rfl : q1 = (k : Int) := by rw [HQ1.out]; exact plI_some hpl
         obtain rfl : k = pi := by symm; rw [HPI.out, HP0.out, hpl]; rfl
         have hyk : L[k]? = some y := by rw [HY.out]; unfold findX; rw [hpl]; exact nth_some hkl
         rcases h6.rh.form with ⟨hu, hL⟩ | ⟨r2, cap2, hu, hr2⟩
         ·subst hL; simp at hkl
         ·subst hu
          have g0 := h6.rh.blk.cell 0
          simp at g0
          obtain ⟨y0, y1, y2⟩ := hr2.row.at3 hyk
          have F0 := bF.cell 0
          have F1 := bF.cell 1
          have F2 := bF.cell 2
          simp at F0 F1 F2
          have lk0 : (0 : Int) ≤ (k : Int) := by omega
          have lk1 : (k : Int) < (L.length : Int) := by omega
          have tq0 : (k : Int) ≥ 0 := by omega
          have ty0 : (y.f0 == y.f0) = true := beq_self_eq_true _
          have ty1 : (y.f1 == y.f1) = true := beq_self_eq_true _
          have ty2 : (y.f2 == y.f2) = true := beq_self_eq_true _
          have msd : Fr (fun _ => False) w6 w6.drew ∧ w6.drew.cell? ⟨g, 0, none⟩ = some (.slice (some ⟨r2, 0, none⟩) L.length cap2) ∧ w6.drew.cell? ⟨F, 0, none⟩ = some (.int .u64 y.f0) ∧ w6.drew.cell? ⟨F, 1, none⟩ = some (.int .u64 y.f1) ∧ w6.drew.cell? ⟨F, 2, none⟩ = some (.int .i64 y.f2) ∧ w6.drew.cell? ⟨r2, k * 3, none⟩ = some (.int .u64 y.f0) ∧ w6.drew.cell? ⟨r2, k * 3 + 1, none⟩ = some (.int .u64 y.f1) ∧ w6.drew.cell? ⟨r2, k * 3 + 2, none⟩ = some (.int .i64 y.f2) := ⟨Fr.drew (Fr.refl _ _), g0, F0, F1, F2, y0, y1, y2⟩
          clear hpl HPS HPI HQ1 HP0 HY hyk hr2 g0 y0 y1 y2 F0 F1 F2
          refine start_ (n := 23) (S := fun w' => Fr (fun _ => False) w6 w' ∧ w'.cell? ⟨g, 0, none⟩ = some (.slice (some ⟨r2, 0, none⟩) L.length cap2) ∧ w'.cell? ⟨F, 0, none⟩ = some (.int .u64 y.f0) ∧ w'.cell? ⟨F, 1, none⟩ = some (.int .u64 y.f1) ∧ w'.cell? ⟨F, 2, none⟩ = some (.int .i64 y.f2) ∧ w'.cell? ⟨r2, k * 3, none⟩ = some (.int .u64 y.f0) ∧ w'.cell? ⟨r2, k * 3 + 1, none⟩ = some (.int .u64 y.f1) ∧ w'.cell? ⟨r2, k * 3 + 2, none⟩ = some (.int .i64 y.f2)) (ds := []) #[oN,oN,oN,oN,oN,oN,oN,oN,oN,oN,oN,oN,oN,oN,oN,oN,oN,oN,oN,oN,oN,oN,oN] (by kernel_rfl) rfl rfl ⟨msd.1, msd.2.1, msd.2.2.1, msd.2.2.2.1, msd.2.2.2.2.1, msd.2.2.2.2.2.1, msd.2.2.2.2.2.2.1, msd.2.2.2.2.2.2.2⟩ (fun hHeld => ?_)
          refine pure_ (i := 0) (N := some 167) (v := ?_) (a' := ?_) #[oY,oN,oN,oN,oN,oN,oN,oN,oN,oN,oN,oN,oN,oN,oN,oN,oN,oN,oN,oN,oN,oN,oN] rfl rfl (by kernel_rfl) (fun _ _ _ h => h) (Or.inl ⟨by rfl, ?_⟩) ?_ ?_
          rotate_left
          ·intro w'
           go_simp
           with_reducible rfl
          rotate_left
          ·simp only [Act.put, List.setIfInBounds_toArray, List.set_cons_zero, List.set_cons_succ, i64_w, i32_w]
           rfl
          refine pure_ (i := 1) (N := some 168) (v := ?_) (a' := ?_) #[oY,oY,oN,oN,oN,oN,oN,oN,oN,oN,oN,oN,oN,oN,oN,oN,oN,oN,oN,oN,oN,oN,oN] rfl rfl (by kernel_rfl) (fun _ _ _ h => h) (Or.inl ⟨by rfl, ?_⟩) ?_ ?_
          rotate_left
          ·intro w'
           go_simp
           with_reducible rfl
          rotate_left
          ·simp only [Act.put, List.setIfInBounds_toArray, List.set_cons_zero, List.set_cons_succ, i64_w, i32_w]
           rfl
          refine pure_ (i := 2) (N := some 169) (v := ?_) (a' := ?_) #[oY,oY,oY,oN,oN,oN,oN,oN,oN,oN,oN,oN,oN,oN,oN,oN,oN,oN,oN,oN,oN,oN,oN] rfl rfl (by kernel_rfl) (fun _ _ _ h => h) (Or.inl ⟨by rfl, ?_⟩) ?_ ?_
          rotate_left
          ·intro w'
           go_simp
           with_reducible rfl
          rotate_left
          ·simp only [Act.put, List.setIfInBounds_toArray, List.set_cons_zero, List.set_cons_succ, i64_w, i32_w]
           rfl
          refine pure_ (i := 3) (N := some 170) (v := ?_) (a' := ?_) #[oY,oY,oY,oY,oN,oN,oN,oN,oN,oN,oN,oN,oN,oN,oN,oN,oN,oN,oN,oN,oN,oN,oN] rfl rfl (by kernel_rfl) (fun _ _ _ h => h) (Or.inl ⟨by rfl, ?_⟩) ?_ ?_
          rotate_left
          ·intro w'
           go_simp
           with_reducible rfl
          rotate_left
          ·simp only [Act.put, List.setIfInBounds_toArray, List.set_cons_zero, List.set_cons_succ, i64_w, i32_w]
           rfl
          refine pure_ (i := 4) (N := some 171) (v := ?_) (a' := ?_) #[oY,oY,oY,oY,oY,oN,oN,oN,oN,oN,oN,oN,oN,oN,oN,oN,oN,oN,oN,oN,oN,oN,oN] rfl rfl (by kernel_rfl) (fun _ _ _ h => h) (Or.inl ⟨by rfl, ?_⟩) ?_ ?_
          rotate_left
          ·intro w'
           go_simp
           with_reducible rfl
          rotate_left
          ·simp only [Act.put, List.setIfInBounds_toArray, List.set_cons_zero, List.set_cons_succ, i64_w, i32_w]
           rfl
          refine pure_ (i := 5) (N := some 172) (v := ?_) (a' := ?_) #[oY,oY,oY,oY,oY,oY,oN,oN,oN,oN,oN,oN,oN,oN,oN,oN,oN,oN,oN,oN,oN,oN,oN] rfl rfl (by kernel_rfl) (fun _ _ _ h => h) (Or.inl ⟨by rfl, ?_⟩) ?_ ?_
          rotate_left
          ·intro w'
           go_simp
           with_reducible rfl
          rotate_left
          ·simp only [Act.put, List.setIfInBounds_toArray, List.set_cons_zero, List.set_cons_succ, i64_w, i32_w]
           rfl
          refine pure_ (i := 6) (N := some 173) (v := ?_) (a' := ?_) #[oY,oY,oY,oY,oY,oY,oY,oN,oN,oN,oN,oN,oN,oN,oN,oN,oN,oN,oN,oN,oN,oN,oN] rfl rfl (by kernel_rfl) (fun _ _ _ h => h) (Or.inl ⟨by rfl, ?_⟩) ?_ ?_
          rotate_left
          ·intro w'
           go_simp
           with_reducible rfl
          rotate_left
          ·simp only [Act.put, List.setIfInBounds_toArray, List.set_cons_zero, List.set_cons_succ, i64_w, i32_w]
           rfl
          refine pure_ (i := 7) (N := some 174) (v := ?_) (a' := ?_) #[oY,oY,oY,oY,oY,oY,oY,oY,oN,oN,oN,oN,oN,oN,oN,oN,oN,oN,oN,oN,oN,oN,oN] rfl rfl (by kernel_rfl) (fun _ _ _ h => h) (Or.inl ⟨by rfl, ?_⟩) ?_ ?_
          rotate_left
          ·intro w'
           go_simp
           with_reducible rfl
          rotate_left
          ·simp only [Act.put, List.setIfInBounds_toArray, List.set_cons_zero, List.set_cons_succ, i64_w, i32_w]
           rfl
          refine pure_ (i := 8) (N := some 175) (v := ?_) (a' := ?_) #[oY,oY,oY,oY,oY,oY,oY,oY,oY,oN,oN,oN,oN,oN,oN,oN,oN,oN,oN,oN,oN,oN,oN] rfl rfl (by kernel_rfl) (fun _ _ _ h => h) (Or.inl ⟨by rfl, ?_⟩) ?_ ?_
          rotate_left
          ·intro w'
           go_simp
           with_reducible rfl
          rotate_left
          ·simp only [Act.put, List.setIfInBounds_toArray, List.set_cons_zero, List.set_cons_succ, i64_w, i32_w]
           rfl
          refine pure_ (i := 9) (N := some 176) (v := ?_) (a' := ?_) #[oY,oY,oY,oY,oY,oY,oY,oY,oY,oY,oN,oN,oN,oN,oN,oN,oN,oN,oN,oN,oN,oN,oN] rfl rfl (by kernel_rfl) (fun _ _ _ h => h) (Or.inl ⟨by rfl, ?_⟩) ?_ ?_
          rotate_left
          ·intro w'
           go_simp
           with_reducible rfl
          rotate_left
          ·simp only [Act.put, List.setIfInBounds_toArray, List.set_cons_zero, List.set_cons_succ, i64_w, i32_w]
           rfl
          refine pure_ (i := 10) (N := some 177) (v := ?_) (a' := ?_) #[oY,oY,oY,oY,oY,oY,oY,oY,oY,oY,oY,oN,oN,oN,oN,oN,oN,oN,oN,oN,oN,oN,oN] rfl rfl (by kernel_rfl) (fun _ _ _ h => h) (Or.inl ⟨by rfl, ?_⟩) ?_ ?_
          rotate_left
          ·intro w'
           go_simp
           with_reducible rfl
          rotate_left
          ·simp only [Act.put, List.setIfInBounds_toArray, List.set_cons_zero, List.set_cons_succ, i64_w, i32_w]
           rfl
          refine pure_ (i := 12) (N := some 179) (v := ?_) (a' := ?_) #[oY,oY,oY,oY,oY,oY,oY,oY,oY,oY,oY,oN,oY,oN,oN,oN,oN,oN,oN,oN,oN,oN,oN] rfl rfl (by kernel_rfl) (fun _ _ _ h => h) (Or.inl ⟨by rfl, ?_⟩) ?_ ?_
          rotate_left
          ·intro w'
           go_simp
           with_reducible rfl
          rotate_left
          ·simp only [Act.put, List.setIfInBounds_toArray, List.set_cons_zero, List.set_cons_succ, i64_w, i32_w]
           rfl
          refine pure_ (i := 13) (N := some 180) (v := ?_) (a' := ?_) #[oY,oY,oY,oY,oY,oY,oY,oY,oY,oY,oY,oN,oY,oY,oN,oN,oN,oN,oN,oN,oN,oN,oN] rfl rfl (by kernel_rfl) (fun _ _ _ h => h) (Or.inl ⟨by rfl, ?_⟩) ?_ ?_
          rotate_left
          ·intro w'
           go_simp
           with_reducible rfl
          rotate_left
          ·simp only [Act.put, List.setIfInBounds_toArray, List.set_cons_zero, List.set_cons_succ, i64_w, i32_w]
           rfl
          refine pure_ (i := 14) (N := some 181) (v := ?_) (a' := ?_) #[oY,oY,oY,oY,oY,oY,oY,oY,oY,oY,oY,oN,oY,oY,oY,oN,oN,oN,oN,oN,oN,oN,oN] rfl rfl (by kernel_rfl) (fun _ _ _ h => h) (Or.inl ⟨by rfl, ?_⟩) ?_ ?_
          rotate_left
          ·intro w'
           go_simp
           with_reducible rfl
          rotate_left
          ·simp only [Act.put, List.setIfInBounds_toArray, List.set_cons_zero, List.set_cons_succ, i64_w, i32_w]
           rfl
          refine pure_ (i := 16) (N := some 183) (v := ?_) (a' := ?_) #[oY,oY,oY,oY,oY,oY,oY,oY,oY,oY,oY,oN,oY,oY,oY,oN,oY,oN,oN,oN,oN,oN,oN] rfl rfl (by kernel_rfl) (fun _ _ _ h => h) (Or.inl ⟨by rfl, ?_⟩) ?_ ?_
          rotate_left
          ·intro w'
           go_simp
           with_reducible rfl
          rotate_left
          ·simp only [Act.put, List.setIfInBounds_toArray, List.set_cons_zero, List.set_cons_succ, i64_w, i32_w]
           rfl
          refine take_ (i := 11) (N := some 178) (v := ?_) (a' := ?_) #[oY,oY,oY,oY,oY,oY,oY,oY,oY,oY,oY,oY,oY,oY,oY,oN,oY,oN,oN,oN,oN,oN,oN] rfl rfl (by kernel_rfl) (fun _ _ _ h => h) (Or.inl ⟨by rfl, ?_⟩) hHeld ?_ ?_
          rotate_left
          ·rintro w' ⟨s0, s1, s2, s3, s4, s5, s6, s7⟩
           go_simp
           with_reducible rfl
          rotate_left
          ·simp only [Act.put, List.setIfInBounds_toArray, List.set_cons_zero, List.set_cons_succ, i64_w, i32_w]
           rfl
          refine take_ (i := 15) (N := some 182) (v := ?_) (a' := ?_) #[oY,oY,oY,oY,oY,oY,oY,oY,oY,oY,oY,oY,oY,oY,oY,oY,oY,oN,oN,oN,oN,oN,oN] rfl rfl (by kernel_rfl) (fun _ _ _ h => h) (Or.inl ⟨by rfl, ?_⟩) hHeld ?_ ?_
          rotate_left
          ·rintro w' ⟨s0, s1, s2, s3, s4, s5, s6, s7⟩
           go_simp
           with_reducible rfl
          rotate_left
          ·simp only [Act.put, List.setIfInBounds_toArray, List.set_cons_zero, List.set_cons_succ, i64_w, i32_w]
           rfl
          refine pure_ (i := 17) (N := some 184) (v := ?_) (a' := ?_) #[oY,oY,oY,oY,oY,oY,oY,oY,oY,oY,oY,oY,oY,oY,oY,oY,oY,oY,oN,oN,oN,oN,oN] rfl rfl (by kernel_rfl) (fun _ _ _ h => h) (Or.inl ⟨by rfl, ?_⟩) ?_ ?_
          rotate_left
          ·intro w'
           go_simp
           with_reducible rfl
          rotate_left
          ·simp only [Act.put, List.setIfInBounds_toArray, List.set_cons_zero, List.set_cons_succ, i64_w, i32_w]
           rfl
          refine take_ (i := 18) (N := some 185) (v := ?_) (a' := ?_) #[oY,oY,oY,oY,oY,oY,oY,oY,oY,oY,oY,oY,oY,oY,oY,oY,oY,oY,oY,oN,oN,oN,oN] rfl rfl (by kernel_rfl) (fun _ _ _ h => h) (Or.inl ⟨by rfl, ?_⟩) hHeld ?_ ?_
          rotate_left
          ·rintro w' ⟨s0, s1, s2, s3, s4, s5, s6, s7⟩
           go_simp
           with_reducible rfl
          rotate_left
          ·simp only [Act.put, List.setIfInBounds_toArray, List.set_cons_zero, List.set_cons_succ, i64_w, i32_w]
           rfl
          refine pure_ (i := 19) (N := some 186) (v := ?_) (a' := ?_) #[oY,oY,oY,oY,oY,oY,oY,oY,oY,oY,oY,oY,oY,oY,oY,oY,oY,oY,oY,oY,oN,oN,oN] rfl rfl (by kernel_rfl) (fun _ _ _ h => h) (Or.inl ⟨by rfl, ?_⟩) ?_ ?_
          rotate_left
          ·intro w'
           go_simp
           with_reducible rfl
          rotate_left
          ·simp only [Act.put, List.setIfInBounds_toArray, List.set_cons_zero, List.set_cons_succ, i64_w, i32_w]
           rfl
          refine pure_ (i := 20) (N := some 187) (v := ?_) (a' := ?_) #[oY,oY,oY,oY,oY,oY,oY,oY,oY,oY,oY,oY,oY,oY,oY,oY,oY,oY,oY,oY,oY,oN,oN] rfl rfl (by kernel_rfl) (fun _ _ _ h => h) (Or.inl ⟨by rfl, ?_⟩) ?_ ?_
          rotate_left
          ·intro w'
           go_simp
           with_reducible rfl
          rotate_left
          ·simp only [Act.put, List.setIfInBounds_toArray, List.set_cons_zero, List.set_cons_succ, i64_w, i32_w]
           rfl
          refine pure_ (i := 21) (N := some 188) (v := ?_) (a' := ?_) #[oY,oY,oY,oY,oY,oY,oY,oY,oY,oY,oY,oY,oY,oY,oY,oY,oY,oY,oY,oY,oY,oY,oN] rfl rfl (by kernel_rfl) (fun _ _ _ h => h) (Or.inl ⟨by rfl, ?_⟩) ?_ ?_
          rotate_left
          ·intro w'
           go_simp
           with_reducible rfl
          rotate_left
          ·simp only [Act.put, List.setIfInBounds_toArray, List.set_cons_zero, List.set_cons_succ, i64_w, i32_w]
           rfl
          refine pure_ (i := 22) (N := some 189) (v := ?_) (a' := ?_) #[oY,oY,oY,oY,oY,oY,oY,oY,oY,oY,oY,oY,oY,oY,oY,oY,oY,oY,oY,oY,oY,oY,oY] rfl rfl (by kernel_rfl) (fun _ _ _ h => h) (Or.inl ⟨by rfl, ?_⟩) ?_ ?_
          rotate_left
          ·intro w'
           go_simp
           with_reducible rfl
          rotate_left
          ·simp only [Act.put, List.setIfInBounds_toArray, List.set_cons_zero, List.set_cons_succ, i64_w, i32_w]
           rfl
          refine done_ (by kernel_rfl) ?_
          go_wp2
          go_meet
          exact ⟨rfl, hHeld.1⟩
      case rest =>
       obtain ⟨rfl, f67⟩ := hcut
       have h7 := h6.fr0 f67
       have bX7 := bX6.fr f67 (fun h => h)
       have f7 := f6.trans f67 (fun _ _ h => h)
       clear h6 bX6 f6 f67 bF bX7
       go_wp2_with fail
       refine (min_hp h7.hp).mono ?_
       rintro e w8 ⟨rfl, k8⟩
       have h8 := h7.fr0 k8
       have f8 := f7.trans k8 (fun _ _ h => h)
       clear h7 f7 k8
       obtain ⟨z, hz⟩ : ∃ z, z = nth L 0 := ⟨_, rfl⟩
       rw [← hz]
       have HZ := hid hz
       clear hz
       go_upto_region 36 with fail
       generalize hW : World.alloc w8 _ = w9
       have f89 : Fr (fun _ => False) w8 w9 := by subst hW; (repeat' (first | (with_reducible exact Fr.refl _ _) | (with_reducible assumption) | (with_reducible refine Fr.alloc ?_ _) | (with_reducible refine Fr.drew ?_) | (with_reducible refine Fr.drewN ?_ _) | (with_reducible refine Fr.setCell ?_ _ _ ?_) | (exact Or.inr rfl) | (left; simp; done) | (left; simp; omega) | (simp; done) | (simp; omega) | omega))
       have bM : Blk w9 w8.heap.size #[.int .u64 z.f0, .int .u64 z.f1, .int .i64 z.f2] 24 := by subst hW; (repeat' (first | (with_reducible assumption) | (with_reducible apply Blk.drew) | (with_reducible apply Blk.drewN) | (with_reducible apply Blk.set) | (with_reducible apply Blk.other) | (exact Blk.new' _ _ _ (by first | rfl | (simp; done) | (simp; omega))) | (with_reducible apply Blk.alloc) | (with_reducible rfl) | (simp; done) | (simp; omega) | omega | rfl))
       clear hW
       have h9 := h8.fr0 f89
       have f9 := f8.trans f89 (fun _ _ h => h)
       obtain ⟨M, hM⟩ : ∃ M, M = w8.heap.size := ⟨_, rfl⟩
       rw [← hM] at bM ⊢
       clear h8 f8 f89 hM
       by_cases hn : 0 < L.length
       ·as_aux_lemma =>
         rcases h9.rh.form with ⟨hu, hL⟩ | ⟨r2, cap2, hu, hr2⟩
         ·subst hL; simp at hn
         subst hu
         have hz0 : L[0]? = some z := by rw [HZ.out]; exact nth_some hn
         have HZ0 := hid hz0
         have plz : ∀ {W : World}, PS w.heap.size W b m v L g (.slice (some ⟨r2, 0, none⟩) L.length cap2) L a0 → W.cell? ⟨r2, 0, none⟩ = some (.int .u64 z.f0) ∧ W.cell? ⟨r2, 1, none⟩ = some (.int .u64 z.f1) ∧ W.cell? ⟨r2, 2, none⟩ = some (.int .i64 z.f2) := fun h => by
          rcases h.rh.form with ⟨hu, hL⟩ | ⟨r3, cap3, hu, hr3⟩
          ·cases hu
          ·injection hu with e1 e2 e3
           injection e1 with e1
           injection e1 with e1
           subst e1
           have := hr3.row.at3 HZ0.out
           simpa [At3] using this
         have e0 : decide (0 < L.length) = true := decide_eq_true hn
         rw [e0]
         have ln1 : (0 : Int) < (L.length : Int) := by omega
         have tz0 : (z.f0 == z.f0) = true := beq_self_eq_true _
         have tz1 : (z.f1 == z.f1) = true := beq_self_eq_true _
         have tz2 : (z.f2 == z.f2) = true := beq_self_eq_true _
         have p9 : PS w.heap.size w9.drew b m v L g (.slice (some ⟨r2, 0, none⟩) L.length cap2) L a0 := h9.fr0 (Fr.drew (Fr.refl _ _))
         have msd : PS w.heap.size w9.drew b m v L g (.slice (some ⟨r2, 0, none⟩) L.length cap2) L a0 ∧ Fr (fun _ => False) w w9.drew ∧ w9.drew.cell? ⟨g, 0, none⟩ = some (.slice (some ⟨r2, 0, none⟩) L.length cap2) ∧ w9.drew.cell? ⟨M, 0, none⟩ = some (.int .u64 z.f0) ∧ w9.drew.cell? ⟨M, 1, none⟩ = some (.int .u64 z.f1) ∧ w9.drew.cell? ⟨M, 2, none⟩ = some (.int .i64 z.f2) ∧ w9.drew.cell? ⟨r2, 0, none⟩ = some (.int .u64 z.f0) ∧ w9.drew.cell? ⟨r2, 1, none⟩ = some (.int .u64 z.f1) ∧ w9.drew.cell? ⟨r2, 2, none⟩ = some (.int .i64 z.f2) ∧ Blk w9.drew M #[.int .u64 z.f0, .int .u64 z.f1, .int .i64 z.f2] 24 := ⟨p9, Fr.drew f9, p9.rh.blk.cell 0, bM.drew.cell 0, bM.drew.cell 1, bM.drew.cell 2, (plz p9).1, (plz p9).2.1, (plz p9).2.2, bM.drew⟩
         clear hz0 hr2 e0
         refine start_ (n := 45) (S := fun w' => PS w.heap.size w' b m v L g (.slice (some ⟨r2, 0, none⟩) L.length cap2) L a0 ∧ Fr (fun _ => False) w w' ∧ w'.cell? ⟨g, 0, none⟩ = some (.slice (some ⟨r2, 0, none⟩) L.length cap2) ∧ w'.cell? ⟨M, 0, none⟩ = some (.int .u64 z.f0) ∧ w'.cell? ⟨M, 1, none⟩ = some (.int .u64 z.f1) ∧ w'.cell? ⟨M, 2, none⟩ = some (.int .i64 z.f2) ∧ w'.cell? ⟨r2, 0, none⟩ = some (.int .u64 z.f0) ∧ w'.cell? ⟨r2, 1, none⟩ = some (.int .u64 z.f1) ∧ w'.cell? ⟨r2, 2, none⟩ = some (.int .i64 z.f2) ∧ Blk w' M #[.int .u64 z.f0, .int .u64 z.f1, .int .i64 z.f2] 24) (ds := []) #[oN,oN,oN,oN,oN,oN,oN,oN,oN,oN,oN,oN,oN,oN,oN,oN,oN,oN,oN,oN,oN,oN,oN,oN,oN,oN,oN,oN,oN,oN,oN,oN,oN,oN,oN,oN,oN,oN,oN,oN,oN,oN,oN,oN,oN] (by kernel_rfl) rfl rfl ⟨msd.1, msd.2.1, msd.2.2.1, msd.2.2.2.1, msd.2.2.2.2.1, msd.2.2.2.2.2.1, msd.2.2.2.2.2.2.1, msd.2.2.2.2.2.2.2.1, msd.2.2.2.2.2.2.2.2.1, msd.2.2.2.2.2.2.2.2.2⟩ (fun hHeld => ?_)
         refine pure_ (i := 0) (N := some 195) (v := ?_) (a' := ?_) #[oY,oN,oN,oN,oN,oN,oN,oN,oN,oN,oN,oN,oN,oN,oN,oN,oN,oN,oN,oN,oN,oN,oN,oN,oN,oN,oN,oN,oN,oN,oN,oN,oN,oN,oN,oN,oN,oN,oN,oN,oN,oN,oN,oN,oN] rfl rfl (by kernel_rfl) (fun _ _ _ h => h) (Or.inl ⟨by rfl, ?_⟩) ?_ ?_
         rotate_left
         ·intro w'
          go_simp
          with_reducible rfl
         rotate_left
         ·simp only [Act.put, List.setIfInBounds_toArray, List.set_cons_zero, List.set_cons_succ, i64_w, i32_w]
          rfl
         refine pure_ (i := 1) (N := some 196) (v := ?_) (a' := ?_) #[oY,oY,oN,oN,oN,oN,oN,oN,oN,oN,oN,oN,oN,oN,oN,oN,oN,oN,oN,oN,oN,oN,oN,oN,oN,oN,oN,oN,oN,oN,oN,oN,oN,oN,oN,oN,oN,oN,oN,oN,oN,oN,oN,oN,oN] rfl rfl (by kernel_rfl) (fun _ _ _ h => h) (Or.inl ⟨by rfl, ?_⟩) ?_ ?_
         rotate_left
         ·intro w'
          go_simp
          with_reducible rfl
         rotate_left
         ·simp only [Act.put, List.setIfInBounds_toArray, List.set_cons_zero, List.set_cons_succ, i64_w, i32_w]
          rfl
         refine pure_ (i := 2) (N := some 197) (v := ?_) (a' := ?_) #[oY,oY,oY,oN,oN,oN,oN,oN,oN,oN,oN,oN,oN,oN,oN,oN,oN,oN,oN,oN,oN,oN,oN,oN,oN,oN,oN,oN,oN,oN,oN,oN,oN,oN,oN,oN,oN,oN,oN,oN,oN,oN,oN,oN,oN] rfl rfl (by kernel_rfl) (fun _ _ _ h => h) (Or.inl ⟨by rfl, ?_⟩) ?_ ?_
         rotate_left
         ·intro w'
          go_simp
          with_reducible rfl
         rotate_left
         ·simp only [Act.put, List.setIfInBounds_toArray, List.set_cons_zero, List.set_cons_succ, i64_w, i32_w]
          rfl
         refine pure_ (i := 3) (N := some 198) (v := ?_) (a' := ?_) #[oY,oY,oY,oY,oN,oN,oN,oN,oN,oN,oN,oN,oN,oN,oN,oN,oN,oN,oN,oN,oN,oN,oN,oN,oN,oN,oN,oN,oN,oN,oN,oN,oN,oN,oN,oN,oN,oN,oN,oN,oN,oN,oN,oN,oN] rfl rfl (by kernel_rfl) (fun _ _ _ h => h) (Or.inl ⟨by rfl, ?_⟩) ?_ ?_
         rotate_left
         ·intro w'
          go_simp
          with_reducible rfl
         rotate_left
         ·simp only [Act.put, List.setIfInBounds_toArray, List.set_cons_zero, List.set_cons_succ, i64_w, i32_w]
          rfl
         refine pure_ (i := 5) (N := some 200) (v := ?_) (a' := ?_) #[oY,oY,oY,oY,oN,oY,oN,oN,oN,oN,oN,oN,oN,oN,oN,oN,oN,oN,oN,oN,oN,oN,oN,oN,oN,oN,oN,oN,oN,oN,oN,oN,oN,oN,oN,oN,oN,oN,oN,oN,oN,oN,oN,oN,oN] rfl rfl (by kernel_rfl) (fun _ _ _ h => h) (Or.inl ⟨by rfl, ?_⟩) ?_ ?_
         rotate_left
         ·intro w'
          go_simp
          with_reducible rfl
         rotate_left
         ·simp only [Act.put, List.setIfInBounds_toArray, List.set_cons_zero, List.set_cons_succ, i64_w, i32_w]
          rfl
         refine pure_ (i := 6) (N := some 201) (v := ?_) (a' := ?_) #[oY,oY,oY,oY,oN,oY,oY,oN,oN,oN,oN,oN,oN,oN,oN,oN,oN,oN,oN,oN,oN,oN,oN,oN,oN,oN,oN,oN,oN,oN,oN,oN,oN,oN,oN,oN,oN,oN,oN,oN,oN,oN,oN,oN,oN] rfl rfl (by kernel_rfl) (fun _ _ _ h => h) (Or.inl ⟨by rfl, ?_⟩) ?_ ?_
         rotate_left
         ·intro w'
          go_simp
          with_reducible rfl
         rotate_left
         ·simp only [Act.put, List.setIfInBounds_toArray, List.set_cons_zero, List.set_cons_succ, i64_w, i32_w]
          rfl
         refine pure_ (i := 7) (N := some 202) (v := ?_) (a' := ?_) #[oY,oY,oY,oY,oN,oY,oY,oY,oN,oN,oN,oN,oN,oN,oN,oN,oN,oN,oN,oN,oN,oN,oN,oN,oN,oN,oN,oN,oN,oN,oN,oN,oN,oN,oN,oN,oN,oN,oN,oN,oN,oN,oN,oN,oN] rfl rfl (by kernel_rfl) (fun _ _ _ h => h) (Or.inl ⟨by rfl, ?_⟩) ?_ ?_
         rotate_left
         ·intro w'
          go_simp
          with_reducible rfl
         rotate_left
         ·simp only [Act.put, List.setIfInBounds_toArray, List.set_cons_zero, List.set_cons_succ, i64_w, i32_w]
          rfl
         refine take_ (i := 8) (N := some 203) (v := ?_) (a' := ?_) #[oY,oY,oY,oY,oN,oY,oY,oY,oY,oN,oN,oN,oN,oN,oN,oN,oN,oN,oN,oN,oN,oN,oN,oN,oN,oN,oN,oN,oN,oN,oN,oN,oN,oN,oN,oN,oN,oN,oN,oN,oN,oN,oN,oN,oN] rfl rfl (by kernel_rfl) (fun _ _ _ h => h) (Or.inl ⟨by rfl, ?_⟩) hHeld ?_ ?_
         rotate_left
         ·rintro w' ⟨s0, s1, s2, s3, s4, s5, s6, s7, s8, s9⟩
          go_simp
          with_reducible rfl
         rotate_left
         ·simp only [Act.put, List.setIfInBounds_toArray, List.set_cons_zero, List.set_cons_succ, i64_w, i32_w]
          rfl
         refine pure_ (i := 9) (N := some 204) (v := ?_) (a' := ?_) #[oY,oY,oY,oY,oN,oY,oY,oY,oY,oY,oN,oN,oN,oN,oN,oN,oN,oN,oN,oN,oN,oN,oN,oN,oN,oN,oN,oN,oN,oN,oN,oN,oN,oN,oN,oN,oN,oN,oN,oN,oN,oN,oN,oN,oN] rfl rfl (by kernel_rfl) (fun _ _ _ h => h) (Or.inl ⟨by rfl, ?_⟩) ?_ ?_
         rotate_left
         ·intro w'
          go_simp
          with_reducible rfl
         rotate_left
         ·simp only [Act.put, List.setIfInBounds_toArray, List.set_cons_zero, List.set_cons_succ, i64_w, i32_w]
          rfl
         refine one_ (i := 4) (N := some 199) #[oY,oY,oY,oY,oY,oY,oY,oY,oY,oY,oN,oN,oN,oN,oN,oN,oN,oN,oN,oN,oN,oN,oN,oN,oN,oN,oN,oN,oN,oN,oN,oN,oN,oN,oN,oN,oN,oN,oN,oN,oN,oN,oN,oN,oN] rfl rfl (by kernel_rfl) (by decide) (fun K hK => ?_)
         refine goes_ Try.func16 (by kernel_rfl) rfl #[.pointer (some ⟨b, 0, none⟩)] (by rfl) rfl rfl (by simp only [List.map_toArray, List.map_cons, List.map_nil]; rfl) ?_
         refine (len_hp msd.1.hp).mono ?_
         rintro e w10 ⟨rfl, k10⟩
         refine ⟨_, rfl, ?_⟩
         have ms10 : PS w.heap.size w10 b m v L g (.slice (some ⟨r2, 0, none⟩) L.length cap2) L a0 ∧ Fr (fun _ => False) w w10 ∧ w10.cell? ⟨g, 0, none⟩ = some (.slice (some ⟨r2, 0, none⟩) L.length cap2) ∧ w10.cell? ⟨M, 0, none⟩ = some (.int .u64 z.f0) ∧ w10.cell? ⟨M, 1, none⟩ = some (.int .u64 z.f1) ∧ w10.cell? ⟨M, 2, none⟩ = some (.int .i64 z.f2) ∧ w10.cell? ⟨r2, 0, none⟩ = some (.int .u64 z.f0) ∧ w10.cell? ⟨r2, 1, none⟩ = some (.int .u64 z.f1) ∧ w10.cell? ⟨r2, 2, none⟩ = some (.int .i64 z.f2) ∧ Blk w10 M #[.int .u64 z.f0, .int .u64 z.f1, .int .i64 z.f2] 24 := ⟨msd.1.fr0 k10, msd.2.1.trans k10 (fun _ _ h => h), (msd.1.fr0 k10).rh.blk.cell 0, (msd.2.2.2.2.2.2.2.2.2.fr k10 (fun h => h)).cell 0, (msd.2.2.2.2.2.2.2.2.2.fr k10 (fun h => h)).cell 1, (msd.2.2.2.2.2.2.2.2.2.fr k10 (fun h => h)).cell 2, (plz (msd.1.fr0 k10)).1, (plz (msd.1.fr0 k10)).2.1, (plz (msd.1.fr0 k10)).2.2, msd.2.2.2.2.2.2.2.2.2.fr k10 (fun h => h)⟩
         refine hK.out _ _ ⟨ms10.1, ms10.2.1, ms10.2.2.1, ms10.2.2.2.1, ms10.2.2.2.2.1, ms10.2.2.2.2.2.1, ms10.2.2.2.2.2.2.1, ms10.2.2.2.2.2.2.2.1, ms10.2.2.2.2.2.2.2.2.1, ms10.2.2.2.2.2.2.2.2.2⟩ (fun hHeld => ?_)
         clear hK K
         refine norm_ (a' := ?_) ?_ ?_
         rotate_left
         ·show Act.put _ (some 199) _ = _
          simp only [Act.put, List.setIfInBounds_toArray, List.set_cons_zero, List.set_cons_succ, i64_w, i32_w]
          rfl
         refine pure_ (i := 10) (N := some 205) (v := ?_) (a' := ?_) #[oY,oY,oY,oY,oY,oY,oY,oY,oY,oY,oY,oN,oN,oN,oN,oN,oN,oN,oN,oN,oN,oN,oN,oN,oN,oN,oN,oN,oN,oN,oN,oN,oN,oN,oN,oN,oN,oN,oN,oN,oN,oN,oN,oN,oN] rfl rfl (by kernel_rfl) (fun _ _ _ h => h) (Or.inl ⟨by rfl, ?_⟩) ?_ ?_
         rotate_left
         ·intro w'
          go_simp
          with_reducible rfl
         rotate_left
         ·simp only [Act.put, List.setIfInBounds_toArray, List.set_cons_zero, List.set_cons_succ, i64_w, i32_w]
          rfl
         refine pure_ (i := 11) (N := some 206) (v := ?_) (a' := ?_) #[oY,oY,oY,oY,oY,oY,oY,oY,oY,oY,oY,oY,oN,oN,oN,oN,oN,oN,oN,oN,oN,oN,oN,oN,oN,oN,oN,oN,oN,oN,oN,oN,oN,oN,oN,oN,oN,oN,oN,oN,oN,oN,oN,oN,oN] rfl rfl (by kernel_rfl) (fun _ _ _ h => h) (Or.inl ⟨by rfl, ?_⟩) ?_ ?_
         rotate_left
         ·intro w'
          go_simp
          with_reducible rfl
         rotate_left
         ·simp only [Act.put, List.setIfInBounds_toArray, List.set_cons_zero, List.set_cons_succ, i64_w, i32_w]
          rfl
         refine pure_ (i := 12) (N := some 207) (v := ?_) (a' := ?_) #[oY,oY,oY,oY,oY,oY,oY,oY,oY,oY,oY,oY,oY,oN,oN,oN,oN,oN,oN,oN,oN,oN,oN,oN,oN,oN,oN,oN,oN,oN,oN,oN,oN,oN,oN,oN,oN,oN,oN,oN,oN,oN,oN,oN,oN] rfl rfl (by kernel_rfl) (fun _ _ _ h => h) (Or.inl ⟨by rfl, ?_⟩) ?_ ?_
         rotate_left
         ·intro w'
          go_simp
          with_reducible rfl
         rotate_left
         ·simp only [Act.put, List.setIfInBounds_toArray, List.set_cons_zero, List.set_cons_succ, i64_w, i32_w]
          rfl
         refine pure_ (i := 13) (N := some 208) (v := ?_) (a' := ?_) #[oY,oY,oY,oY,oY,oY,oY,oY,oY,oY,oY,oY,oY,oY,oN,oN,oN,oN,oN,oN,oN,oN,oN,oN,oN,oN,oN,oN,oN,oN,oN,oN,oN,oN,oN,oN,oN,oN,oN,oN,oN,oN,oN,oN,oN] rfl rfl (by kernel_rfl) (fun _ _ _ h => h) (Or.inl ⟨by rfl, ?_⟩) ?_ ?_
         rotate_left
         ·intro w'
          go_simp
          with_reducible rfl
         rotate_left
         ·simp only [Act.put, List.setIfInBounds_toArray, List.set_cons_zero, List.set_cons_succ, i64_w, i32_w]
          rfl
         refine pure_ (i := 15) (N := some 210) (v := ?_) (a' := ?_) #[oY,oY,oY,oY,oY,oY,oY,oY,oY,oY,oY,oY,oY,oY,oN,oY,oN,oN,oN,oN,oN,oN,oN,oN,oN,oN,oN,oN,oN,oN,oN,oN,oN,oN,oN,oN,oN,oN,oN,oN,oN,oN,oN,oN,oN] rfl rfl (by kernel_rfl) (fun _ _ _ h => h) (Or.inl ⟨by rfl, ?_⟩) ?_ ?_
         rotate_left
         ·intro w'
          go_simp
          with_reducible rfl
         rotate_left
         ·simp only [Act.put, List.setIfInBounds_toArray, List.set_cons_zero, List.set_cons_succ, i64_w, i32_w]
          rfl
         refine pure_ (i := 16) (N := some 211) (v := ?_) (a' := ?_) #[oY,oY,oY,oY,oY,oY,oY,oY,oY,oY,oY,oY,oY,oY,oN,oY,oY,oN,oN,oN,oN,oN,oN,oN,oN,oN,oN,oN,oN,oN,oN,oN,oN,oN,oN,oN,oN,oN,oN,oN,oN,oN,oN,oN,oN] rfl rfl (by kernel_rfl) (fun _ _ _ h => h) (Or.inl ⟨by rfl, ?_⟩) ?_ ?_
         rotate_left
         ·intro w'
          go_simp
          with_reducible rfl
         rotate_left
         ·simp only [Act.put, List.setIfInBounds_toArray, List.set_cons_zero, List.set_cons_succ, i64_w, i32_w]
          rfl
         refine pure_ (i := 17) (N := some 212) (v := ?_) (a' := ?_) #[oY,oY,oY,oY,oY,oY,oY,oY,oY,oY,oY,oY,oY,oY,oN,oY,oY,oY,oN,oN,oN,oN,oN,oN,oN,oN,oN,oN,oN,oN,oN,oN,oN,oN,oN,oN,oN,oN,oN,oN,oN,oN,oN,oN,oN] rfl rfl (by kernel_rfl) (fun _ _ _ h => h) (Or.inl ⟨by rfl, ?_⟩) ?_ ?_
         rotate_left
         ·intro w'
          go_simp
          with_reducible rfl
         rotate_left
         ·simp only [Act.put, List.setIfInBounds_toArray, List.set_cons_zero, List.set_cons_succ, i64_w, i32_w]
          rfl
         refine take_ (i := 18) (N := some 213) (v := ?_) (a' := ?_) #[oY,oY,oY,oY,oY,oY,oY,oY,oY,oY,oY,oY,oY,oY,oN,oY,oY,oY,oY,oN,oN,oN,oN,oN,oN,oN,oN,oN,oN,oN,oN,oN,oN,oN,oN,oN,oN,oN,oN,oN,oN,oN,oN,oN,oN] rfl rfl (by kernel_rfl) (fun _ _ _ h => h) (Or.inl ⟨by rfl, ?_⟩) hHeld ?_ ?_
         rotate_left
         ·rintro w' ⟨s0, s1, s2, s3, s4, s5, s6, s7, s8, s9⟩
          go_simp
          with_reducible rfl
         rotate_left
         ·simp only [Act.put, List.setIfInBounds_toArray, List.set_cons_zero, List.set_cons_succ, i64_w, i32_w]
          rfl
         refine one_ (i := 14) (N := some 209) #[oY,oY,oY,oY,oY,oY,oY,oY,oY,oY,oY,oY,oY,oY,oY,oY,oY,oY,oY,oN,oN,oN,oN,oN,oN,oN,oN,oN,oN,oN,oN,oN,oN,oN,oN,oN,oN,oN,oN,oN,oN,oN,oN,oN,oN] rfl rfl (by kernel_rfl) (by decide) (fun K hK => ?_)
         refine goes_ Try.func22 (by kernel_rfl) rfl #[.pointer (some ⟨b, 0, none⟩)] (by rfl) rfl rfl (by simp only [List.map_toArray, List.map_cons, List.map_nil]; rfl) ?_
         refine (row_at ms10.1.hp).mono ?_
         rintro e w11 ⟨A11, c11, rfl, hc11, C11, k11⟩
         refine ⟨_, rfl, ?_⟩
         have ms11 : PS w.heap.size w11 b m v L g (.slice (some ⟨r2, 0, none⟩) L.length cap2) L a0 ∧ Fr (fun _ => False) w w11 ∧ w11.cell? ⟨g, 0, none⟩ = some (.slice (some ⟨r2, 0, none⟩) L.length cap2) ∧ w11.cell? ⟨M, 0, none⟩ = some (.int .u64 z.f0) ∧ w11.cell? ⟨M, 1, none⟩ = some (.int .u64 z.f1) ∧ w11.cell? ⟨M, 2, none⟩ = some (.int .i64 z.f2) ∧ w11.cell? ⟨r2, 0, none⟩ = some (.int .u64 z.f0) ∧ w11.cell? ⟨r2, 1, none⟩ = some (.int .u64 z.f1) ∧ w11.cell? ⟨r2, 2, none⟩ = some (.int .i64 z.f2) ∧ Blk w11 M #[.int .u64 z.f0, .int .u64 z.f1, .int .i64 z.f2] 24 := ⟨ms10.1.fr0 k11, ms10.2.1.trans k11 (fun _ _ h => h), (ms10.1.fr0 k11).rh.blk.cell 0, (ms10.2.2.2.2.2.2.2.2.2.fr k11 (fun h => h)).cell 0, (ms10.2.2.2.2.2.2.2.2.2.fr k11 (fun h => h)).cell 1, (ms10.2.2.2.2.2.2.2.2.2.fr k11 (fun h => h)).cell 2, (plz (ms10.1.fr0 k11)).1, (plz (ms10.1.fr0 k11)).2.1, (plz (ms10.1.fr0 k11)).2.2, ms10.2.2.2.2.2.2.2.2.2.fr k11 (fun h => h)⟩
         refine hK.out _ _ ⟨ms11.1, ms11.2.1, ms11.2.2.1, ms11.2.2.2.1, ms11.2.2.2.2.1, ms11.2.2.2.2.2.1, ms11.2.2.2.2.2.2.1, ms11.2.2.2.2.2.2.2.1, ms11.2.2.2.2.2.2.2.2.1, ms11.2.2.2.2.2.2.2.2.2⟩ (fun hHeld => ?_)
         clear hK K
         refine norm_ (a' := ?_) ?_ ?_
         rotate_left
         ·show Act.put _ (some 209) _ = _
          simp only [Act.put, List.setIfInBounds_toArray, List.set_cons_zero, List.set_cons_succ, i64_w, i32_w]
          rfl
         refine one_ (i := 19) (N := some 214) #[oY,oY,oY,oY,oY,oY,oY,oY,oY,oY,oY,oY,oY,oY,oY,oY,oY,oY,oY,oY,oN,oN,oN,oN,oN,oN,oN,oN,oN,oN,oN,oN,oN,oN,oN,oN,oN,oN,oN,oN,oN,oN,oN,oN,oN] rfl rfl (by kernel_rfl) (by decide) (fun K hK => ?_)
         obtain ⟨Au, cu, eu, hcu, Cu⟩ := ms11.1.rh.C50
         injection eu with eu1 eu2 eu3
         subst eu1 eu3
         refine goes_ Try.func32 (by kernel_rfl) rfl #[.slice A11 L.length c11, .slice (some ⟨r2, 0, none⟩) L.length cap2] (by rfl) rfl rfl (by simp only [List.map_toArray, List.map_cons, List.map_nil]; rfl) ?_
         refine (same_at C11 hc11 Cu hcu ms11.1.rh.small).mono ?_
         rintro e w12 ⟨rfl, k12⟩
         refine ⟨_, rfl, ?_⟩
         have ms12 : PS w.heap.size w12 b m v L g (.slice (some ⟨r2, 0, none⟩) L.length cap2) L a0 ∧ Fr (fun _ => False) w w12 ∧ w12.cell? ⟨g, 0, none⟩ = some (.slice (some ⟨r2, 0, none⟩) L.length cap2) ∧ w12.cell? ⟨M, 0, none⟩ = some (.int .u64 z.f0) ∧ w12.cell? ⟨M, 1, none⟩ = some (.int .u64 z.f1) ∧ w12.cell? ⟨M, 2, none⟩ = some (.int .i64 z.f2) ∧ w12.cell? ⟨r2, 0, none⟩ = some (.int .u64 z.f0) ∧ w12.cell? ⟨r2, 1, none⟩ = some (.int .u64 z.f1) ∧ w12.cell? ⟨r2, 2, none⟩ = some (.int .i64 z.f2) ∧ Blk w12 M #[.int .u64 z.f0, .int .u64 z.f1, .int .i64 z.f2] 24 := ⟨ms11.1.fr0 k12, ms11.2.1.trans k12 (fun _ _ h => h), (ms11.1.fr0 k12).rh.blk.cell 0, (ms11.2.2.2.2.2.2.2.2.2.fr k12 (fun h => h)).cell 0, (ms11.2.2.2.2.2.2.2.2.2.fr k12 (fun h => h)).cell 1, (ms11.2.2.2.2.2.2.2.2.2.fr k12 (fun h => h)).cell 2, (plz (ms11.1.fr0 k12)).1, (plz (ms11.1.fr0 k12)).2.1, (plz (ms11.1.fr0 k12)).2.2, ms11.2.2.2.2.2.2.2.2.2.fr k12 (fun h => h)⟩
         refine hK.out _ _ ⟨ms12.1, ms12.2.1, ms12.2.2.1, ms12.2.2.2.1, ms12.2.2.2.2.1, ms12.2.2.2.2.2.1, ms12.2.2.2.2.2.2.1, ms12.2.2.2.2.2.2.2.1, ms12.2.2.2.2.2.2.2.2.1, ms12.2.2.2.2.2.2.2.2.2⟩ (fun hHeld => ?_)
         clear hK K
         refine norm_ (a' := ?_) ?_ ?_
         rotate_left
         ·show Act.put _ (some 214) _ = _
          simp only [Act.put, List.setIfInBounds_toArray, List.set_cons_zero, List.set_cons_succ, i64_w, i32_w]
          rfl
         refine pure_ (i := 20) (N := some 215) (v := ?_) (a' := ?_) #[oY,oY,oY,oY,oY,oY,oY,oY,oY,oY,oY,oY,oY,oY,oY,oY,oY,oY,oY,oY,oY,oN,oN,oN,oN,oN,oN,oN,oN,oN,oN,oN,oN,oN,oN,oN,oN,oN,oN,oN,oN,oN,oN,oN,oN] rfl rfl (by kernel_rfl) (fun _ _ _ h => h) (Or.inl ⟨by rfl, ?_⟩) ?_ ?_
         rotate_left
         ·intro w'
          go_simp
          with_reducible rfl
         rotate_left
         ·simp only [Act.put, List.setIfInBounds_toArray, List.set_cons_zero, List.set_cons_succ, i64_w, i32_w]
          rfl
         refine pure_ (i := 21) (N := some 216) (v := ?_) (a' := ?_) #[oY,oY,oY,oY,oY,oY,oY,oY,oY,oY,oY,oY,oY,oY,oY,oY,oY,oY,oY,oY,oY,oY,oN,oN,oN,oN,oN,oN,oN,oN,oN,oN,oN,oN,oN,oN,oN,oN,oN,oN,oN,oN,oN,oN,oN] rfl rfl (by kernel_rfl) (fun _ _ _ h => h) (Or.inl ⟨by rfl, ?_⟩) ?_ ?_
         rotate_left
         ·intro w'
          go_simp
          with_reducible rfl
         rotate_left
         ·simp only [Act.put, List.setIfInBounds_toArray, List.set_cons_zero, List.set_cons_succ, i64_w, i32_w]
          rfl
         refine pure_ (i := 22) (N := some 217) (v := ?_) (a' := ?_) #[oY,oY,oY,oY,oY,oY,oY,oY,oY,oY,oY,oY,oY,oY,oY,oY,oY,oY,oY,oY,oY,oY,oY,oN,oN,oN,oN,oN,oN,oN,oN,oN,oN,oN,oN,oN,oN,oN,oN,oN,oN,oN,oN,oN,oN] rfl rfl (by kernel_rfl) (fun _ _ _ h => h) (Or.inl ⟨by rfl, ?_⟩) ?_ ?_
         rotate_left
         ·intro w'
          go_simp
          with_reducible rfl
         rotate_left
         ·simp only [Act.put, List.setIfInBounds_toArray, List.set_cons_zero, List.set_cons_succ, i64_w, i32_w]
          rfl
         refine pure_ (i := 23) (N := some 218) (v := ?_) (a' := ?_) #[oY,oY,oY,oY,oY,oY,oY,oY,oY,oY,oY,oY,oY,oY,oY,oY,oY,oY,oY,oY,oY,oY,oY,oY,oN,oN,oN,oN,oN,oN,oN,oN,oN,oN,oN,oN,oN,oN,oN,oN,oN,oN,oN,oN,oN] rfl rfl (by kernel_rfl) (fun _ _ _ h => h) (Or.inl ⟨by rfl, ?_⟩) ?_ ?_
         rotate_left
         ·intro w'
          go_simp
          with_reducible rfl
         rotate_left
         ·simp only [Act.put, List.setIfInBounds_toArray, List.set_cons_zero, List.set_cons_succ, i64_w, i32_w]
          rfl
         refine pure_ (i := 24) (N := some 219) (v := ?_) (a' := ?_) #[oY,oY,oY,oY,oY,oY,oY,oY,oY,oY,oY,oY,oY,oY,oY,oY,oY,oY,oY,oY,oY,oY,oY,oY,oY,oN,oN,oN,oN,oN,oN,oN,oN,oN,oN,oN,oN,oN,oN,oN,oN,oN,oN,oN,oN] rfl rfl (by kernel_rfl) (fun _ _ _ h => h) (Or.inl ⟨by rfl, ?_⟩) ?_ ?_
         rotate_left
         ·intro w'
          go_simp
          with_reducible rfl
         rotate_left
         ·simp only [Act.put, List.setIfInBounds_toArray, List.set_cons_zero, List.set_cons_succ, i64_w, i32_w]
          rfl
         refine pure_ (i := 25) (N := some 220) (v := ?_) (a' := ?_) #[oY,oY,oY,oY,oY,oY,oY,oY,oY,oY,oY,oY,oY,oY,oY,oY,oY,oY,oY,oY,oY,oY,oY,oY,oY,oY,oN,oN,oN,oN,oN,oN,oN,oN,oN,oN,oN,oN,oN,oN,oN,oN,oN,oN,oN] rfl rfl (by kernel_rfl) (fun _ _ _ h => h) (Or.inl ⟨by rfl, ?_⟩) ?_ ?_
         rotate_left
         ·intro w'
          go_simp
          with_reducible rfl
         rotate_left
         ·simp only [Act.put, List.setIfInBounds_toArray, List.set_cons_zero, List.set_cons_succ, i64_w, i32_w]
          rfl
         refine pure_ (i := 26) (N := some 221) (v := ?_) (a' := ?_) #[oY,oY,oY,oY,oY,oY,oY,oY,oY,oY,oY,oY,oY,oY,oY,oY,oY,oY,oY,oY,oY,oY,oY,oY,oY,oY,oY,oN,oN,oN,oN,oN,oN,oN,oN,oN,oN,oN,oN,oN,oN,oN,oN,oN,oN] rfl rfl (by kernel_rfl) (fun _ _ _ h => h) (Or.inl ⟨by rfl, ?_⟩) ?_ ?_
         rotate_left
         ·intro w'
          go_simp
          with_reducible rfl
         rotate_left
         ·simp only [Act.put, List.setIfInBounds_toArray, List.set_cons_zero, List.set_cons_succ, i64_w, i32_w]
          rfl
         refine take_ (i := 27) (N := some 222) (v := ?_) (a' := ?_) #[oY,oY,oY,oY,oY,oY,oY,oY,oY,oY,oY,oY,oY,oY,oY,oY,oY,oY,oY,oY,oY,oY,oY,oY,oY,oY,oY,oY,oN,oN,oN,oN,oN,oN,oN,oN,oN,oN,oN,oN,oN,oN,oN,oN,oN] rfl rfl (by kernel_rfl) (fun _ _ _ h => h) (Or.inl ⟨by rfl, ?_⟩) hHeld ?_ ?_
         rotate_left
         ·rintro w' ⟨s0, s1, s2, s3, s4, s5, s6, s7, s8, s9⟩
          go_simp
          with_reducible rfl
         rotate_left
         ·simp only [Act.put, List.setIfInBounds_toArray, List.set_cons_zero, List.set_cons_succ, i64_w, i32_w]
          rfl
         refine pure_ (i := 28) (N := some 223) (v := ?_) (a' := ?_) #[oY,oY,oY,oY,oY,oY,oY,oY,oY,oY,oY,oY,oY,oY,oY,oY,oY,oY,oY,oY,oY,oY,oY,oY,oY,oY,oY,oY,oY,oN,oN,oN,oN,oN,oN,oN,oN,oN,oN,oN,oN,oN,oN,oN,oN] rfl rfl (by kernel_rfl) (fun _ _ _ h => h) (Or.inl ⟨by rfl, ?_⟩) ?_ ?_
         rotate_left
         ·intro w'
          go_simp
          with_reducible rfl
         rotate_left
         ·simp only [Act.put, List.setIfInBounds_toArray, List.set_cons_zero, List.set_cons_succ, i64_w, i32_w]
          rfl
         refine pure_ (i := 29) (N := some 224) (v := ?_) (a' := ?_) #[oY,oY,oY,oY,oY,oY,oY,oY,oY,oY,oY,oY,oY,oY,oY,oY,oY,oY,oY,oY,oY,oY,oY,oY,oY,oY,oY,oY,oY,oY,oN,oN,oN,oN,oN,oN,oN,oN,oN,oN,oN,oN,oN,oN,oN] rfl rfl (by kernel_rfl) (fun _ _ _ h => h) (Or.inl ⟨by rfl, ?_⟩) ?_ ?_
         rotate_left
         ·intro w'
          go_simp
          with_reducible rfl
         rotate_left
         ·simp only [Act.put, List.setIfInBounds_toArray, List.set_cons_zero, List.set_cons_succ, i64_w, i32_w]
          rfl
         refine pure_ (i := 30) (N := some 225) (v := ?_) (a' := ?_) #[oY,oY,oY,oY,oY,oY,oY,oY,oY,oY,oY,oY,oY,oY,oY,oY,oY,oY,oY,oY,oY,oY,oY,oY,oY,oY,oY,oY,oY,oY,oY,oN,oN,oN,oN,oN,oN,oN,oN,oN,oN,oN,oN,oN,oN] rfl rfl (by kernel_rfl) (fun _ _ _ h => h) (Or.inl ⟨by rfl, ?_⟩) ?_ ?_
         rotate_left
         ·intro w'
          go_simp
          with_reducible rfl
         rotate_left
         ·simp only [Act.put, List.setIfInBounds_toArray, List.set_cons_zero, List.set_cons_succ, i64_w, i32_w]
          rfl
         refine pure_ (i := 31) (N := some 226) (v := ?_) (a' := ?_) #[oY,oY,oY,oY,oY,oY,oY,oY,oY,oY,oY,oY,oY,oY,oY,oY,oY,oY,oY,oY,oY,oY,oY,oY,oY,oY,oY,oY,oY,oY,oY,oY,oN,oN,oN,oN,oN,oN,oN,oN,oN,oN,oN,oN,oN] rfl rfl (by kernel_rfl) (fun _ _ _ h => h) (Or.inl ⟨by rfl, ?_⟩) ?_ ?_
         rotate_left
         ·intro w'
          go_simp
          with_reducible rfl
         rotate_left
         ·simp only [Act.put, List.setIfInBounds_toArray, List.set_cons_zero, List.set_cons_succ, i64_w, i32_w]
          rfl
         refine pure_ (i := 32) (N := some 227) (v := ?_) (a' := ?_) #[oY,oY,oY,oY,oY,oY,oY,oY,oY,oY,oY,oY,oY,oY,oY,oY,oY,oY,oY,oY,oY,oY,oY,oY,oY,oY,oY,oY,oY,oY,oY,oY,oY,oN,oN,oN,oN,oN,oN,oN,oN,oN,oN,oN,oN] rfl rfl (by kernel_rfl) (fun _ _ _ h => h) (Or.inl ⟨by rfl, ?_⟩) ?_ ?_
         rotate_left
         ·intro w'
          go_simp
          with_reducible rfl
         rotate_left
         ·simp only [Act.put, List.setIfInBounds_toArray, List.set_cons_zero, List.set_cons_succ, i64_w, i32_w]
          rfl
         refine pure_ (i := 33) (N := some 228) (v := ?_) (a' := ?_) #[oY,oY,oY,oY,oY,oY,oY,oY,oY,oY,oY,oY,oY,oY,oY,oY,oY,oY,oY,oY,oY,oY,oY,oY,oY,oY,oY,oY,oY,oY,oY,oY,oY,oY,oN,oN,oN,oN,oN,oN,oN,oN,oN,oN,oN] rfl rfl (by kernel_rfl) (fun _ _ _ h => h) (Or.inl ⟨by rfl, ?_⟩) ?_ ?_
         rotate_left
         ·intro w'
          go_simp
          with_reducible rfl
         rotate_left
         ·simp only [Act.put, List.setIfInBounds_toArray, List.set_cons_zero, List.set_cons_succ, i64_w, i32_w]
          rfl
         refine pure_ (i := 34) (N := some 229) (v := ?_) (a' := ?_) #[oY,oY,oY,oY,oY,oY,oY,oY,oY,oY,oY,oY,oY,oY,oY,oY,oY,oY,oY,oY,oY,oY,oY,oY,oY,oY,oY,oY,oY,oY,oY,oY,oY,oY,oY,oN,oN,oN,oN,oN,oN,oN,oN,oN,oN] rfl rfl (by kernel_rfl) (fun _ _ _ h => h) (Or.inl ⟨by rfl, ?_⟩) ?_ ?_
         rotate_left
         ·intro w'
          go_simp
          with_reducible rfl
         rotate_left
         ·simp only [Act.put, List.setIfInBounds_toArray, List.set_cons_zero, List.set_cons_succ, i64_w, i32_w]
          rfl
         refine pure_ (i := 36) (N := some 231) (v := ?_) (a' := ?_) #[oY,oY,oY,oY,oY,oY,oY,oY,oY,oY,oY,oY,oY,oY,oY,oY,oY,oY,oY,oY,oY,oY,oY,oY,oY,oY,oY,oY,oY,oY,oY,oY,oY,oY,oY,oN,oY,oN,oN,oN,oN,oN,oN,oN,oN] rfl rfl (by kernel_rfl) (fun _ _ _ h => h) (Or.inl ⟨by rfl, ?_⟩) ?_ ?_
         rotate_left
         ·intro w'
          go_simp
          with_reducible rfl
         rotate_left
         ·simp only [Act.put, List.setIfInBounds_toArray, List.set_cons_zero, List.set_cons_succ, i64_w, i32_w]
          rfl
         refine pure_ (i := 37) (N := some 232) (v := ?_) (a' := ?_) #[oY,oY,oY,oY,oY,oY,oY,oY,oY,oY,oY,oY,oY,oY,oY,oY,oY,oY,oY,oY,oY,oY,oY,oY,oY,oY,oY,oY,oY,oY,oY,oY,oY,oY,oY,oN,oY,oY,oN,oN,oN,oN,oN,oN,oN] rfl rfl (by kernel_rfl) (fun _ _ _ h => h) (Or.inl ⟨by rfl, ?_⟩) ?_ ?_
         rotate_left
         ·intro w'
          go_simp
          with_reducible rfl
         rotate_left
         ·simp only [Act.put, List.setIfInBounds_toArray, List.set_cons_zero, List.set_cons_succ, i64_w, i32_w]
          rfl
         refine pure_ (i := 38) (N := some 233) (v := ?_) (a' := ?_) #[oY,oY,oY,oY,oY,oY,oY,oY,oY,oY,oY,oY,oY,oY,oY,oY,oY,oY,oY,oY,oY,oY,oY,oY,oY,oY,oY,oY,oY,oY,oY,oY,oY,oY,oY,oN,oY,oY,oY,oN,oN,oN,oN,oN,oN] rfl rfl (by kernel_rfl) (fun _ _ _ h => h) (Or.inl ⟨by rfl, ?_⟩) ?_ ?_
         rotate_left
         ·intro w'
          go_simp
          with_reducible rfl
         rotate_left
         ·simp only [Act.put, List.setIfInBounds_toArray, List.set_cons_zero, List.set_cons_succ, i64_w, i32_w]
          rfl
         refine take_ (i := 35) (N := some 230) (v := ?_) (a' := ?_) #[oY,oY,oY,oY,oY,oY,oY,oY,oY,oY,oY,oY,oY,oY,oY,oY,oY,oY,oY,oY,oY,oY,oY,oY,oY,oY,oY,oY,oY,oY,oY,oY,oY,oY,oY,oY,oY,oY,oY,oN,oN,oN,oN,oN,oN] rfl rfl (by kernel_rfl) (fun _ _ _ h => h) (Or.inl ⟨by rfl, ?_⟩) hHeld ?_ ?_
         rotate_left
         ·rintro w' ⟨s0, s1, s2, s3, s4, s5, s6, s7, s8, s9⟩
          go_simp
          with_reducible rfl
         rotate_left
         ·simp only [Act.put, List.setIfInBounds_toArray, List.set_cons_zero, List.set_cons_succ, i64_w, i32_w]
          rfl
         refine take_ (i := 39) (N := some 234) (v := ?_) (a' := ?_) #[oY,oY,oY,oY,oY,oY,oY,oY,oY,oY,oY,oY,oY,oY,oY,oY,oY,oY,oY,oY,oY,oY,oY,oY,oY,oY,oY,oY,oY,oY,oY,oY,oY,oY,oY,oY,oY,oY,oY,oY,oN,oN,oN,oN,oN] rfl rfl (by kernel_rfl) (fun _ _ _ h => h) (Or.inl ⟨by rfl, ?_⟩) hHeld ?_ ?_
         rotate_left
         ·rintro w' ⟨s0, s1, s2, s3, s4, s5, s6, s7, s8, s9⟩
          go_simp
          with_reducible rfl
         rotate_left
         ·simp only [Act.put, List.setIfInBounds_toArray, List.set_cons_zero, List.set_cons_succ, i64_w, i32_w]
          rfl
         refine pure_ (i := 40) (N := some 235) (v := ?_) (a' := ?_) #[oY,oY,oY,oY,oY,oY,oY,oY,oY,oY,oY,oY,oY,oY,oY,oY,oY,oY,oY,oY,oY,oY,oY,oY,oY,oY,oY,oY,oY,oY,oY,oY,oY,oY,oY,oY,oY,oY,oY,oY,oY,oN,oN,oN,oN] rfl rfl (by kernel_rfl) (fun _ _ _ h => h) (Or.inl ⟨by rfl, ?_⟩) ?_ ?_
         rotate_left
         ·intro w'
          go_simp
          with_reducible rfl
         rotate_left
         ·simp only [Act.put, List.setIfInBounds_toArray, List.set_cons_zero, List.set_cons_succ, i64_w, i32_w]
          rfl
         refine take_ (i := 41) (N := some 236) (v := ?_) (a' := ?_) #[oY,oY,oY,oY,oY,oY,oY,oY,oY,oY,oY,oY,oY,oY,oY,oY,oY,oY,oY,oY,oY,oY,oY,oY,oY,oY,oY,oY,oY,oY,oY,oY,oY,oY,oY,oY,oY,oY,oY,oY,oY,oY,oN,oN,oN] rfl rfl (by kernel_rfl) (fun _ _ _ h => h) (Or.inl ⟨by rfl, ?_⟩) hHeld ?_ ?_
         rotate_left
         ·rintro w' ⟨s0, s1, s2, s3, s4, s5, s6, s7, s8, s9⟩
          go_simp
          with_reducible rfl
         rotate_left
         ·simp only [Act.put, List.setIfInBounds_toArray, List.set_cons_zero, List.set_cons_succ, i64_w, i32_w]
          rfl
         refine pure_ (i := 42) (N := some 237) (v := ?_) (a' := ?_) #[oY,oY,oY,oY,oY,oY,oY,oY,oY,oY,oY,oY,oY,oY,oY,oY,oY,oY,oY,oY,oY,oY,oY,oY,oY,oY,oY,oY,oY,oY,oY,oY,oY,oY,oY,oY,oY,oY,oY,oY,oY,oY,oY,oN,oN] rfl rfl (by kernel_rfl) (fun _ _ _ h => h) (Or.inl ⟨by rfl, ?_⟩) ?_ ?_
         rotate_left
         ·intro w'
          go_simp
          with_reducible rfl
         rotate_left
         ·simp only [Act.put, List.setIfInBounds_toArray, List.set_cons_zero, List.set_cons_succ, i64_w, i32_w]
          rfl
         refine pure_ (i := 43) (N := some 238) (v := ?_) (a' := ?_) #[oY,oY,oY,oY,oY,oY,oY,oY,oY,oY,oY,oY,oY,oY,oY,oY,oY,oY,oY,oY,oY,oY,oY,oY,oY,oY,oY,oY,oY,oY,oY,oY,oY,oY,oY,oY,oY,oY,oY,oY,oY,oY,oY,oY,oN] rfl rfl (by kernel_rfl) (fun _ _ _ h => h) (Or.inl ⟨by rfl, ?_⟩) ?_ ?_
         rotate_left
         ·intro w'
          go_simp
          with_reducible rfl
         rotate_left
         ·simp only [Act.put, List.setIfInBounds_toArray, List.set_cons_zero, List.set_cons_succ, i64_w, i32_w]
          rfl
         refine pure_ (i := 44) (N := some 239) (v := ?_) (a' := ?_) #[oY,oY,oY,oY,oY,oY,oY,oY,oY,oY,oY,oY,oY,oY,oY,oY,oY,oY,oY,oY,oY,oY,oY,oY,oY,oY,oY,oY,oY,oY,oY,oY,oY,oY,oY,oY,oY,oY,oY,oY,oY,oY,oY,oY,oY] rfl rfl (by kernel_rfl) (fun _ _ _ h => h) (Or.inl ⟨by rfl, ?_⟩) ?_ ?_
         rotate_left
         ·intro w'
          go_simp
          with_reducible rfl
         rotate_left
         ·simp only [Act.put, List.setIfInBounds_toArray, List.set_cons_zero, List.set_cons_succ, i64_w, i32_w]
          rfl
         refine done_ (by kernel_rfl) ?_
         have h12 := hHeld.1
         have f12 := hHeld.2.1
         clear hHeld ms12 ms11 ms10 msd
         go_wp2
         go_roundw
         case rel => exact ⟨b, i + 1, m, v, _, L, by omega, by omega, rfl, by go_num, h12, f12⟩
         case measure => simp [intOf]; omega
       ·as_aux_lemma =>
         obtain rfl : L = [] := List.eq_nil_of_length_eq_zero (by omega)
         obtain ⟨A, c, hu⟩ : ∃ A c, u = .slice A 0 c := by
          rcases h9.rh.form with ⟨hu, hL⟩ | ⟨r2, cap2, hu, hr2⟩
          ·exact ⟨none, 0, hu⟩
          ·exact ⟨_, cap2, hu⟩
         subst hu
         have g0 := h9.rh.blk.cell 0
         simp at g0
         have e0 : decide (0 < ([] : List It).length) = false := rfl
         rw [e0]
         have msd : PS w.heap.size w9.drew b m v [] g (.slice A 0 c) [] a0 ∧ Fr (fun _ => False) w w9.drew ∧ w9.drew.cell? ⟨g, 0, none⟩ = some (.slice A 0 c) := ⟨h9.fr0 (Fr.drew (Fr.refl _ _)), Fr.drew f9, g0⟩
         clear hn g0 e0
         refine start_ (n := 45) (S := fun w' => PS w.heap.size w' b m v [] g (.slice A 0 c) [] a0 ∧ Fr (fun _ => False) w w' ∧ w'.cell? ⟨g, 0, none⟩ = some (.slice A 0 c)) (ds := []) #[oN,oN,oN,oN,oN,oN,oN,oN,oN,oN,oN,oN,oN,oN,oN,oN,oN,oN,oN,oN,oN,oN,oN,oN,oN,oN,oN,oN,oN,oN,oN,oN,oN,oN,oN,oN,oN,oN,oN,oN,oN,oN,oN,oN,oN] (by kernel_rfl) rfl rfl ⟨msd.1, msd.2.1, msd.2.2⟩ (fun hHeld => ?_)
         refine pure_ (i := 0) (N := some 195) (v := ?_) (a' := ?_) #[oY,oN,oN,oN,oN,oN,oN,oN,oN,oN,oN,oN,oN,oN,oN,oN,oN,oN,oN,oN,oN,oN,oN,oN,oN,oN,oN,oN,oN,oN,oN,oN,oN,oN,oN,oN,oN,oN,oN,oN,oN,oN,oN,oN,oN] rfl rfl (by kernel_rfl) (fun _ _ _ h => h) (Or.inl ⟨by rfl, ?_⟩) ?_ ?_
         rotate_left
         ·intro w'
          go_simp
          with_reducible rfl
         rotate_left
         ·simp only [Act.put, List.setIfInBounds_toArray, List.set_cons_zero, List.set_cons_succ, i64_w, i32_w]
          rfl
         refine pure_ (i := 1) (N := some 196) (v := ?_) (a' := ?_) #[oY,oY,oN,oN,oN,oN,oN,oN,oN,oN,oN,oN,oN,oN,oN,oN,oN,oN,oN,oN,oN,oN,oN,oN,oN,oN,oN,oN,oN,oN,oN,oN,oN,oN,oN,oN,oN,oN,oN,oN,oN,oN,oN,oN,oN] rfl rfl (by kernel_rfl) (fun _ _ _ h => h) (Or.inl ⟨by rfl, ?_⟩) ?_ ?_
         rotate_left
         ·intro w'
          go_simp
          with_reducible rfl
         rotate_left
         ·simp only [Act.put, List.setIfInBounds_toArray, List.set_cons_zero, List.set_cons_succ, i64_w, i32_w]
          rfl
         refine pure_ (i := 2) (N := some 197) (v := ?_) (a' := ?_) #[oY,oY,oY,oN,oN,oN,oN,oN,oN,oN,oN,oN,oN,oN,oN,oN,oN,oN,oN,oN,oN,oN,oN,oN,oN,oN,oN,oN,oN,oN,oN,oN,oN,oN,oN,oN,oN,oN,oN,oN,oN,oN,oN,oN,oN] rfl rfl (by kernel_rfl) (fun _ _ _ h => h) (Or.inl ⟨by rfl, ?_⟩) ?_ ?_
         rotate_left
         ·intro w'
          go_simp
          with_reducible rfl
         rotate_left
         ·simp only [Act.put, List.setIfInBounds_toArray, List.set_cons_zero, List.set_cons_succ, i64_w, i32_w]
          rfl
         refine pure_ (i := 3) (N := some 198) (v := ?_) (a' := ?_) #[oY,oY,oY,oY,oN,oN,oN,oN,oN,oN,oN,oN,oN,oN,oN,oN,oN,oN,oN,oN,oN,oN,oN,oN,oN,oN,oN,oN,oN,oN,oN,oN,oN,oN,oN,oN,oN,oN,oN,oN,oN,oN,oN,oN,oN] rfl rfl (by kernel_rfl) (fun _ _ _ h => h) (Or.inl ⟨by rfl, ?_⟩) ?_ ?_
         rotate_left
         ·intro w'
          go_simp
          with_reducible rfl
         rotate_left
         ·simp only [Act.put, List.setIfInBounds_toArray, List.set_cons_zero, List.set_cons_succ, i64_w, i32_w]
          rfl
         refine pure_ (i := 5) (N := some 200) (v := ?_) (a' := ?_) #[oY,oY,oY,oY,oN,oY,oN,oN,oN,oN,oN,oN,oN,oN,oN,oN,oN,oN,oN,oN,oN,oN,oN,oN,oN,oN,oN,oN,oN,oN,oN,oN,oN,oN,oN,oN,oN,oN,oN,oN,oN,oN,oN,oN,oN] rfl rfl (by kernel_rfl) (fun _ _ _ h => h) (Or.inl ⟨by rfl, ?_⟩) ?_ ?_
         rotate_left
         ·intro w'
          go_simp
          with_reducible rfl
         rotate_left
         ·simp only [Act.put, List.setIfInBounds_toArray, List.set_cons_zero, List.set_cons_succ, i64_w, i32_w]
          rfl
         refine pure_ (i := 6) (N := some 201) (v := ?_) (a' := ?_) #[oY,oY,oY,oY,oN,oY,oY,oN,oN,oN,oN,oN,oN,oN,oN,oN,oN,oN,oN,oN,oN,oN,oN,oN,oN,oN,oN,oN,oN,oN,oN,oN,oN,oN,oN,oN,oN,oN,oN,oN,oN,oN,oN,oN,oN] rfl rfl (by kernel_rfl) (fun _ _ _ h => h) (Or.inl ⟨by rfl, ?_⟩) ?_ ?_
         rotate_left
         ·intro w'
          go_simp
          with_reducible rfl
         rotate_left
         ·simp only [Act.put, List.setIfInBounds_toArray, List.set_cons_zero, List.set_cons_succ, i64_w, i32_w]
          rfl
         refine pure_ (i := 7) (N := some 202) (v := ?_) (a' := ?_) #[oY,oY,oY,oY,oN,oY,oY,oY,oN,oN,oN,oN,oN,oN,oN,oN,oN,oN,oN,oN,oN,oN,oN,oN,oN,oN,oN,oN,oN,oN,oN,oN,oN,oN,oN,oN,oN,oN,oN,oN,oN,oN,oN,oN,oN] rfl rfl (by kernel_rfl) (fun _ _ _ h => h) (Or.inl ⟨by rfl, ?_⟩) ?_ ?_
         rotate_left
         ·intro w'
          go_simp
          with_reducible rfl
         rotate_left
         ·simp only [Act.put, List.setIfInBounds_toArray, List.set_cons_zero, List.set_cons_succ, i64_w, i32_w]
          rfl
         refine take_ (i := 8) (N := some 203) (v := ?_) (a' := ?_) #[oY,oY,oY,oY,oN,oY,oY,oY,oY,oN,oN,oN,oN,oN,oN,oN,oN,oN,oN,oN,oN,oN,oN,oN,oN,oN,oN,oN,oN,oN,oN,oN,oN,oN,oN,oN,oN,oN,oN,oN,oN,oN,oN,oN,oN] rfl rfl (by kernel_rfl) (fun _ _ _ h => h) (Or.inl ⟨by rfl, ?_⟩) hHeld ?_ ?_
         rotate_left
         ·rintro w' ⟨s0, s1, s2⟩
          go_simp
          with_reducible rfl
         rotate_left
         ·simp only [Act.put, List.setIfInBounds_toArray, List.set_cons_zero, List.set_cons_succ, i64_w, i32_w]
          rfl
         refine pure_ (i := 9) (N := some 204) (v := ?_) (a' := ?_) #[oY,oY,oY,oY,oN,oY,oY,oY,oY,oY,oN,oN,oN,oN,oN,oN,oN,oN,oN,oN,oN,oN,oN,oN,oN,oN,oN,oN,oN,oN,oN,oN,oN,oN,oN,oN,oN,oN,oN,oN,oN,oN,oN,oN,oN] rfl rfl (by kernel_rfl) (fun _ _ _ h => h) (Or.inl ⟨by rfl, ?_⟩) ?_ ?_
         rotate_left
         ·intro w'
          go_simp
          with_reducible rfl
         rotate_left
         ·simp only [Act.put, List.setIfInBounds_toArray, List.set_cons_zero, List.set_cons_succ, i64_w, i32_w]
          rfl
         refine one_ (i := 4) (N := some 199) #[oY,oY,oY,oY,oY,oY,oY,oY,oY,oY,oN,oN,oN,oN,oN,oN,oN,oN,oN,oN,oN,oN,oN,oN,oN,oN,oN,oN,oN,oN,oN,oN,oN,oN,oN,oN,oN,oN,oN,oN,oN,oN,oN,oN,oN] rfl rfl (by kernel_rfl) (by decide) (fun K hK => ?_)
         refine goes_ Try.func16 (by kernel_rfl) rfl #[.pointer (some ⟨b, 0, none⟩)] (by rfl) rfl rfl (by simp only [List.map_toArray, List.map_cons, List.map_nil]; rfl) ?_
         refine (len_hp msd.1.hp).mono ?_
         rintro e w10 ⟨rfl, k10⟩
         refine ⟨_, rfl, ?_⟩
         have ms10 : PS w.heap.size w10 b m v [] g (.slice A 0 c) [] a0 ∧ Fr (fun _ => False) w w10 ∧ w10.cell? ⟨g, 0, none⟩ = some (.slice A 0 c) := ⟨msd.1.fr0 k10, msd.2.1.trans k10 (fun _ _ h => h), (msd.1.fr0 k10).rh.blk.cell 0⟩
         refine hK.out _ _ ⟨ms10.1, ms10.2.1, ms10.2.2⟩ (fun hHeld => ?_)
         clear hK K
         refine norm_ (a' := ?_) ?_ ?_
         rotate_left
         ·show Act.put _ (some 199) _ = _
          simp only [Act.put, List.setIfInBounds_toArray, List.set_cons_zero, List.set_cons_succ, i64_w, i32_w]
          rfl
         refine pure_ (i := 10) (N := some 205) (v := ?_) (a' := ?_) #[oY,oY,oY,oY,oY,oY,oY,oY,oY,oY,oY,oN,oN,oN,oN,oN,oN,oN,oN,oN,oN,oN,oN,oN,oN,oN,oN,oN,oN,oN,oN,oN,oN,oN,oN,oN,oN,oN,oN,oN,oN,oN,oN,oN,oN] rfl rfl (by kernel_rfl) (fun _ _ _ h => h) (Or.inl ⟨by rfl, ?_⟩) ?_ ?_
         rotate_left
         ·intro w'
          go_simp
          with_reducible rfl
         rotate_left
         ·simp only [Act.put, List.setIfInBounds_toArray, List.set_cons_zero, List.set_cons_succ, i64_w, i32_w]
          rfl
         refine pure_ (i := 11) (N := some 206) (v := ?_) (a' := ?_) #[oY,oY,oY,oY,oY,oY,oY,oY,oY,oY,oY,oY,oN,oN,oN,oN,oN,oN,oN,oN,oN,oN,oN,oN,oN,oN,oN,oN,oN,oN,oN,oN,oN,oN,oN,oN,oN,oN,oN,oN,oN,oN,oN,oN,oN] rfl rfl (by kernel_rfl) (fun _ _ _ h => h) (Or.inl ⟨by rfl, ?_⟩) ?_ ?_
         rotate_left
         ·intro w'
          go_simp
          with_reducible rfl
         rotate_left
         ·simp only [Act.put, List.setIfInBounds_toArray, List.set_cons_zero, List.set_cons_succ, i64_w, i32_w]
          rfl
         refine pure_ (i := 12) (N := some 207) (v := ?_) (a' := ?_) #[oY,oY,oY,oY,oY,oY,oY,oY,oY,oY,oY,oY,oY,oN,oN,oN,oN,oN,oN,oN,oN,oN,oN,oN,oN,oN,oN,oN,oN,oN,oN,oN,oN,oN,oN,oN,oN,oN,oN,oN,oN,oN,oN,oN,oN] rfl rfl (by kernel_rfl) (fun _ _ _ h => h) (Or.inl ⟨by rfl, ?_⟩) ?_ ?_
         rotate_left
         ·intro w'
          go_simp
          with_reducible rfl
         rotate_left
         ·simp only [Act.put, List.setIfInBounds_toArray, List.set_cons_zero, List.set_cons_succ, i64_w, i32_w]
          rfl
         refine pure_ (i := 13) (N := some 208) (v := ?_) (a' := ?_) #[oY,oY,oY,oY,oY,oY,oY,oY,oY,oY,oY,oY,oY,oY,oN,oN,oN,oN,oN,oN,oN,oN,oN,oN,oN,oN,oN,oN,oN,oN,oN,oN,oN,oN,oN,oN,oN,oN,oN,oN,oN,oN,oN,oN,oN] rfl rfl (by kernel_rfl) (fun _ _ _ h => h) (Or.inl ⟨by rfl, ?_⟩) ?_ ?_
         rotate_left
         ·intro w'
          go_simp
          with_reducible rfl
         rotate_left
         ·simp only [Act.put, List.setIfInBounds_toArray, List.set_cons_zero, List.set_cons_succ, i64_w, i32_w]
          rfl
         refine pure_ (i := 15) (N := some 210) (v := ?_) (a' := ?_) #[oY,oY,oY,oY,oY,oY,oY,oY,oY,oY,oY,oY,oY,oY,oN,oY,oN,oN,oN,oN,oN,oN,oN,oN,oN,oN,oN,oN,oN,oN,oN,oN,oN,oN,oN,oN,oN,oN,oN,oN,oN,oN,oN,oN,oN] rfl rfl (by kernel_rfl) (fun _ _ _ h => h) (Or.inl ⟨by rfl, ?_⟩) ?_ ?_
         rotate_left
         ·intro w'
          go_simp
          with_reducible rfl
         rotate_left
         ·simp only [Act.put, List.setIfInBounds_toArray, List.set_cons_zero, List.set_cons_succ, i64_w, i32_w]
          rfl
         refine pure_ (i := 16) (N := some 211) (v := ?_) (a' := ?_) #[oY,oY,oY,oY,oY,oY,oY,oY,oY,oY,oY,oY,oY,oY,oN,oY,oY,oN,oN,oN,oN,oN,oN,oN,oN,oN,oN,oN,oN,oN,oN,oN,oN,oN,oN,oN,oN,oN,oN,oN,oN,oN,oN,oN,oN] rfl rfl (by kernel_rfl) (fun _ _ _ h => h) (Or.inl ⟨by rfl, ?_⟩) ?_ ?_
         rotate_left
         ·intro w'
          go_simp
          with_reducible rfl
         rotate_left
         ·simp only [Act.put, List.setIfInBounds_toArray, List.set_cons_zero, List.set_cons_succ, i64_w, i32_w]
          rfl
         refine pure_ (i := 17) (N := some 212) (v := ?_) (a' := ?_) #[oY,oY,oY,oY,oY,oY,oY,oY,oY,oY,oY,oY,oY,oY,oN,oY,oY,oY,oN,oN,oN,oN,oN,oN,oN,oN,oN,oN,oN,oN,oN,oN,oN,oN,oN,oN,oN,oN,oN,oN,oN,oN,oN,oN,oN] rfl rfl (by kernel_rfl) (fun _ _ _ h => h) (Or.inl ⟨by rfl, ?_⟩) ?_ ?_
         rotate_left
         ·intro w'
          go_simp
          with_reducible rfl
         rotate_left
         ·simp only [Act.put, List.setIfInBounds_toArray, List.set_cons_zero, List.set_cons_succ, i64_w, i32_w]
          rfl
         refine take_ (i := 18) (N := some 213) (v := ?_) (a' := ?_) #[oY,oY,oY,oY,oY,oY,oY,oY,oY,oY,oY,oY,oY,oY,oN,oY,oY,oY,oY,oN,oN,oN,oN,oN,oN,oN,oN,oN,oN,oN,oN,oN,oN,oN,oN,oN,oN,oN,oN,oN,oN,oN,oN,oN,oN] rfl rfl (by kernel_rfl) (fun _ _ _ h => h) (Or.inl ⟨by rfl, ?_⟩) hHeld ?_ ?_
         rotate_left
         ·rintro w' ⟨s0, s1, s2⟩
          go_simp
          with_reducible rfl
         rotate_left
         ·simp only [Act.put, List.setIfInBounds_toArray, List.set_cons_zero, List.set_cons_succ, i64_w, i32_w]
          rfl
         refine one_ (i := 14) (N := some 209) #[oY,oY,oY,oY,oY,oY,oY,oY,oY,oY,oY,oY,oY,oY,oY,oY,oY,oY,oY,oN,oN,oN,oN,oN,oN,oN,oN,oN,oN,oN,oN,oN,oN,oN,oN,oN,oN,oN,oN,oN,oN,oN,oN,oN,oN] rfl rfl (by kernel_rfl) (by decide) (fun K hK => ?_)
         refine goes_ Try.func22 (by kernel_rfl) rfl #[.pointer (some ⟨b, 0, none⟩)] (by rfl) rfl rfl (by simp only [List.map_toArray, List.map_cons, List.map_nil]; rfl) ?_
         refine (row_at ms10.1.hp).mono ?_
         rintro e w11 ⟨A11, c11, rfl, hc11, C11, k11⟩
         refine ⟨_, rfl, ?_⟩
         have ms11 : PS w.heap.size w11 b m v [] g (.slice A 0 c) [] a0 ∧ Fr (fun _ => False) w w11 ∧ w11.cell? ⟨g, 0, none⟩ = some (.slice A 0 c) := ⟨ms10.1.fr0 k11, ms10.2.1.trans k11 (fun _ _ h => h), (ms10.1.fr0 k11).rh.blk.cell 0⟩
         refine hK.out _ _ ⟨ms11.1, ms11.2.1, ms11.2.2⟩ (fun hHeld => ?_)
         clear hK K
         refine norm_ (a' := ?_) ?_ ?_
         rotate_left
         ·show Act.put _ (some 209) _ = _
          simp only [Act.put, List.setIfInBounds_toArray, List.set_cons_zero, List.set_cons_succ, i64_w, i32_w]
          rfl
         refine one_ (i := 19) (N := some 214) #[oY,oY,oY,oY,oY,oY,oY,oY,oY,oY,oY,oY,oY,oY,oY,oY,oY,oY,oY,oY,oN,oN,oN,oN,oN,oN,oN,oN,oN,oN,oN,oN,oN,oN,oN,oN,oN,oN,oN,oN,oN,oN,oN,oN,oN] rfl rfl (by kernel_rfl) (by decide) (fun K hK => ?_)
         refine goes_ Try.func32 (by kernel_rfl) rfl #[.slice A11 ([] : List It).length c11, .slice A 0 c] (by rfl) rfl rfl (by simp only [List.map_toArray, List.map_cons, List.map_nil]; rfl) ?_
         refine (same_at (L := []) C11 hc11 ⟨by simp, by simp, fun h => absurd h (by simp)⟩ (Nat.zero_le _) (by simp)).mono ?_
         rintro e w12 ⟨rfl, k12⟩
         refine ⟨_, rfl, ?_⟩
         have ms12 : PS w.heap.size w12 b m v [] g (.slice A 0 c) [] a0 ∧ Fr (fun _ => False) w w12 ∧ w12.cell? ⟨g, 0, none⟩ = some (.slice A 0 c) := ⟨ms11.1.fr0 k12, ms11.2.1.trans k12 (fun _ _ h => h), (ms11.1.fr0 k12).rh.blk.cell 0⟩
         refine hK.out _ _ ⟨ms12.1, ms12.2.1, ms12.2.2⟩ (fun hHeld => ?_)
         clear hK K
         refine norm_ (a' := ?_) ?_ ?_
         rotate_left
         ·show Act.put _ (some 214) _ = _
          simp only [Act.put, List.setIfInBounds_toArray, List.set_cons_zero, List.set_cons_succ, i64_w, i32_w]
          rfl
         refine pure_ (i := 20) (N := some 215) (v := ?_) (a' := ?_) #[oY,oY,oY,oY,oY,oY,oY,oY,oY,oY,oY,oY,oY,oY,oY,oY,oY,oY,oY,oY,oY,oN,oN,oN,oN,oN,oN,oN,oN,oN,oN,oN,oN,oN,oN,oN,oN,oN,oN,oN,oN,oN,oN,oN,oN] rfl rfl (by kernel_rfl) (fun _ _ _ h => h) (Or.inl ⟨by rfl, ?_⟩) ?_ ?_
         rotate_left
         ·intro w'
          go_simp
          with_reducible rfl
         rotate_left
         ·simp only [Act.put, List.setIfInBounds_toArray, List.set_cons_zero, List.set_cons_succ, i64_w, i32_w]
          rfl
         refine pure_ (i := 21) (N := some 216) (v := ?_) (a' := ?_) #[oY,oY,oY,oY,oY,oY,oY,oY,oY,oY,oY,oY,oY,oY,oY,oY,oY,oY,oY,oY,oY,oY,oN,oN,oN,oN,oN,oN,oN,oN,oN,oN,oN,oN,oN,oN,oN,oN,oN,oN,oN,oN,oN,oN,oN] rfl rfl (by kernel_rfl) (fun _ _ _ h => h) (Or.inl ⟨by rfl, ?_⟩) ?_ ?_
         rotate_left
         ·intro w'
          go_simp
          with_reducible rfl
         rotate_left
         ·simp only [Act.put, List.setIfInBounds_toArray, List.set_cons_zero, List.set_cons_succ, i64_w, i32_w]
          rfl
         refine pure_ (i := 22) (N := some 217) (v := ?_) (a' := ?_) #[oY,oY,oY,oY,oY,oY,oY,oY,oY,oY,oY,oY,oY,oY,oY,oY,oY,oY,oY,oY,oY,oY,oY,oN,oN,oN,oN,oN,oN,oN,oN,oN,oN,oN,oN,oN,oN,oN,oN,oN,oN,oN,oN,oN,oN] rfl rfl (by kernel_rfl) (fun _ _ _ h => h) (Or.inl ⟨by rfl, ?_⟩) ?_ ?_
         rotate_left
         ·intro w'
          go_simp
          with_reducible rfl
         rotate_left
         ·simp only [Act.put, List.setIfInBounds_toArray, List.set_cons_zero, List.set_cons_succ, i64_w, i32_w]
          rfl
         refine pure_ (i := 23) (N := some 218) (v := ?_) (a' := ?_) #[oY,oY,oY,oY,oY,oY,oY,oY,oY,oY,oY,oY,oY,oY,oY,oY,oY,oY,oY,oY,oY,oY,oY,oY,oN,oN,oN,oN,oN,oN,oN,oN,oN,oN,oN,oN,oN,oN,oN,oN,oN,oN,oN,oN,oN] rfl rfl (by kernel_rfl) (fun _ _ _ h => h) (Or.inl ⟨by rfl, ?_⟩) ?_ ?_
         rotate_left
         ·intro w'
          go_simp
          with_reducible rfl
         rotate_left
         ·simp only [Act.put, List.setIfInBounds_toArray, List.set_cons_zero, List.set_cons_succ, i64_w, i32_w]
          rfl
         refine pure_ (i := 24) (N := some 219) (v := ?_) (a' := ?_) #[oY,oY,oY,oY,oY,oY,oY,oY,oY,oY,oY,oY,oY,oY,oY,oY,oY,oY,oY,oY,oY,oY,oY,oY,oY,oN,oN,oN,oN,oN,oN,oN,oN,oN,oN,oN,oN,oN,oN,oN,oN,oN,oN,oN,oN] rfl rfl (by kernel_rfl) (fun _ _ _ h => h) (Or.inl ⟨by rfl, ?_⟩) ?_ ?_
         rotate_left
         ·intro w'
          go_simp
          with_reducible rfl
         rotate_left
         ·simp only [Act.put, List.setIfInBounds_toArray, List.set_cons_zero, List.set_cons_succ, i64_w, i32_w]
          rfl
         refine pure_ (i := 25) (N := some 220) (v := ?_) (a' := ?_) #[oY,oY,oY,oY,oY,oY,oY,oY,oY,oY,oY,oY,oY,oY,oY,oY,oY,oY,oY,oY,oY,oY,oY,oY,oY,oY,oN,oN,oN,oN,oN,oN,oN,oN,oN,oN,oN,oN,oN,oN,oN,oN,oN,oN,oN] rfl rfl (by kernel_rfl) (fun _ _ _ h => h) (Or.inl ⟨by rfl, ?_⟩) ?_ ?_
         rotate_left
         ·intro w'
          go_simp
          with_reducible rfl
         rotate_left
         ·simp only [Act.put, List.setIfInBounds_toArray, List.set_cons_zero, List.set_cons_succ, i64_w, i32_w]
          rfl
         refine pure_ (i := 26) (N := some 221) (v := ?_) (a' := ?_) #[oY,oY,oY,oY,oY,oY,oY,oY,oY,oY,oY,oY,oY,oY,oY,oY,oY,oY,oY,oY,oY,oY,oY,oY,oY,oY,oY,oN,oN,oN,oN,oN,oN,oN,oN,oN,oN,oN,oN,oN,oN,oN,oN,oN,oN] rfl rfl (by kernel_rfl) (fun _ _ _ h => h) (Or.inl ⟨by rfl, ?_⟩) ?_ ?_
         rotate_left
         ·intro w'
          go_simp
          with_reducible rfl
         rotate_left
         ·simp only [Act.put, List.setIfInBounds_toArray, List.set_cons_zero, List.set_cons_succ, i64_w, i32_w]
          rfl
         refine take_ (i := 27) (N := some 222) (v := ?_) (a' := ?_) #[oY,oY,oY,oY,oY,oY,oY,oY,oY,oY,oY,oY,oY,oY,oY,oY,oY,oY,oY,oY,oY,oY,oY,oY,oY,oY,oY,oY,oN,oN,oN,oN,oN,oN,oN,oN,oN,oN,oN,oN,oN,oN,oN,oN,oN] rfl rfl (by kernel_rfl) (fun _ _ _ h => h) (Or.inl ⟨by rfl, ?_⟩) hHeld ?_ ?_
         rotate_left
         ·rintro w' ⟨s0, s1, s2⟩
          go_simp
          with_reducible rfl
         rotate_left
         ·simp only [Act.put, List.setIfInBounds_toArray, List.set_cons_zero, List.set_cons_succ, i64_w, i32_w]
          rfl
         refine pure_ (i := 28) (N := some 223) (v := ?_) (a' := ?_) #[oY,oY,oY,oY,oY,oY,oY,oY,oY,oY,oY,oY,oY,oY,oY,oY,oY,oY,oY,oY,oY,oY,oY,oY,oY,oY,oY,oY,oY,oN,oN,oN,oN,oN,oN,oN,oN,oN,oN,oN,oN,oN,oN,oN,oN] rfl rfl (by kernel_rfl) (fun _ _ _ h => h) (Or.inl ⟨by rfl, ?_⟩) ?_ ?_
         rotate_left
         ·intro w'
          go_simp
          with_reducible rfl
         rotate_left
         ·simp only [Act.put, List.setIfInBounds_toArray, List.set_cons_zero, List.set_cons_succ, i64_w, i32_w]
          rfl
         refine pure_ (i := 29) (N := some 224) (v := ?_) (a' := ?_) #[oY,oY,oY,oY,oY,oY,oY,oY,oY,oY,oY,oY,oY,oY,oY,oY,oY,oY,oY,oY,oY,oY,oY,oY,oY,oY,oY,oY,oY,oY,oN,oN,oN,oN,oN,oN,oN,oN,oN,oN,oN,oN,oN,oN,oN] rfl rfl (by kernel_rfl) (fun _ _ _ h => h) (Or.inl ⟨by rfl, ?_⟩) ?_ ?_
         rotate_left
         ·intro w'
          go_simp
          with_reducible rfl
         rotate_left
         ·simp only [Act.put, List.setIfInBounds_toArray, List.set_cons_zero, List.set_cons_succ, i64_w, i32_w]
          rfl
         refine pure_ (i := 30) (N := some 225) (v := ?_) (a' := ?_) #[oY,oY,oY,oY,oY,oY,oY,oY,oY,oY,oY,oY,oY,oY,oY,oY,oY,oY,oY,oY,oY,oY,oY,oY,oY,oY,oY,oY,oY,oY,oY,oN,oN,oN,oN,oN,oN,oN,oN,oN,oN,oN,oN,oN,oN] rfl rfl (by kernel_rfl) (fun _ _ _ h => h) (Or.inl ⟨by rfl, ?_⟩) ?_ ?_
         rotate_left
         ·intro w'
          go_simp
          with_reducible rfl
         rotate_left
         ·simp only [Act.put, List.setIfInBounds_toArray, List.set_cons_zero, List.set_cons_succ, i64_w, i32_w]
          rfl
         refine pure_ (i := 31) (N := some 226) (v := ?_) (a' := ?_) #[oY,oY,oY,oY,oY,oY,oY,oY,oY,oY,oY,oY,oY,oY,oY,oY,oY,oY,oY,oY,oY,oY,oY,oY,oY,oY,oY,oY,oY,oY,oY,oY,oN,oN,oN,oN,oN,oN,oN,oN,oN,oN,oN,oN,oN] rfl rfl (by kernel_rfl) (fun _ _ _ h => h) (Or.inl ⟨by rfl, ?_⟩) ?_ ?_
         rotate_left
         ·intro w'
          go_simp
          with_reducible rfl
         rotate_left
         ·simp only [Act.put, List.setIfInBounds_toArray, List.set_cons_zero, List.set_cons_succ, i64_w, i32_w]
          rfl
         refine pure_ (i := 32) (N := some 227) (v := ?_) (a' := ?_) #[oY,oY,oY,oY,oY,oY,oY,oY,oY,oY,oY,oY,oY,oY,oY,oY,oY,oY,oY,oY,oY,oY,oY,oY,oY,oY,oY,oY,oY,oY,oY,oY,oY,oN,oN,oN,oN,oN,oN,oN,oN,oN,oN,oN,oN] rfl rfl (by kernel_rfl) (fun _ _ _ h => h) (Or.inl ⟨by rfl, ?_⟩) ?_ ?_
         rotate_left
         ·intro w'
          go_simp
          with_reducible rfl
         rotate_left
         ·simp only [Act.put, List.setIfInBounds_toArray, List.set_cons_zero, List.set_cons_succ, i64_w, i32_w]
          rfl
         refine pure_ (i := 33) (N := some 228) (v := ?_) (a' := ?_) #[oY,oY,oY,oY,oY,oY,oY,oY,oY,oY,oY,oY,oY,oY,oY,oY,oY,oY,oY,oY,oY,oY,oY,oY,oY,oY,oY,oY,oY,oY,oY,oY,oY,oY,oN,oN,oN,oN,oN,oN,oN,oN,oN,oN,oN] rfl rfl (by kernel_rfl) (fun _ _ _ h => h) (Or.inl ⟨by rfl, ?_⟩) ?_ ?_
         rotate_left
         ·intro w'
          go_simp
          with_reducible rfl
         rotate_left
         ·simp only [Act.put, List.setIfInBounds_toArray, List.set_cons_zero, List.set_cons_succ, i64_w, i32_w]
          rfl
         refine pure_ (i := 34) (N := some 229) (v := ?_) (a' := ?_) #[oY,oY,oY,oY,oY,oY,oY,oY,oY,oY,oY,oY,oY,oY,oY,oY,oY,oY,oY,oY,oY,oY,oY,oY,oY,oY,oY,oY,oY,oY,oY,oY,oY,oY,oY,oN,oN,oN,oN,oN,oN,oN,oN,oN,oN] rfl rfl (by kernel_rfl) (fun _ _ _ h => h) (Or.inl ⟨by rfl, ?_⟩) ?_ ?_
         rotate_left
         ·intro w'
          go_simp
          with_reducible rfl
         rotate_left
         ·simp only [Act.put, List.setIfInBounds_toArray, List.set_cons_zero, List.set_cons_succ, i64_w, i32_w]
          rfl
         refine pure_ (i := 35) (N := some 230) (v := undef) (a' := ?_) #[oY,oY,oY,oY,oY,oY,oY,oY,oY,oY,oY,oY,oY,oY,oY,oY,oY,oY,oY,oY,oY,oY,oY,oY,oY,oY,oY,oY,oY,oY,oY,oY,oY,oY,oY,oY,oN,oN,oN,oN,oN,oN,oN,oN,oN] rfl rfl (by kernel_rfl) (fun _ _ _ h => h) (Or.inr ⟨by rfl, rfl⟩) ?_ ?_
         rotate_left
         ·simp only [Act.put, List.setIfInBounds_toArray, List.set_cons_zero, List.set_cons_succ, i64_w, i32_w]
          rfl
         refine pure_ (i := 36) (N := some 231) (v := undef) (a' := ?_) #[oY,oY,oY,oY,oY,oY,oY,oY,oY,oY,oY,oY,oY,oY,oY,oY,oY,oY,oY,oY,oY,oY,oY,oY,oY,oY,oY,oY,oY,oY,oY,oY,oY,oY,oY,oY,oY,oN,oN,oN,oN,oN,oN,oN,oN] rfl rfl (by kernel_rfl) (fun _ _ _ h => h) (Or.inr ⟨by rfl, rfl⟩) ?_ ?_
         rotate_left
         ·simp only [Act.put, List.setIfInBounds_toArray, List.set_cons_zero, List.set_cons_succ, i64_w, i32_w]
          rfl
         refine pure_ (i := 37) (N := some 232) (v := undef) (a' := ?_) #[oY,oY,oY,oY,oY,oY,oY,oY,oY,oY,oY,oY,oY,oY,oY,oY,oY,oY,oY,oY,oY,oY,oY,oY,oY,oY,oY,oY,oY,oY,oY,oY,oY,oY,oY,oY,oY,oY,oN,oN,oN,oN,oN,oN,oN] rfl rfl (by kernel_rfl) (fun _ _ _ h => h) (Or.inr ⟨by rfl, rfl⟩) ?_ ?_
         rotate_left
         ·simp only [Act.put, List.setIfInBounds_toArray, List.set_cons_zero, List.set_cons_succ, i64_w, i32_w]
          rfl
         refine pure_ (i := 38) (N := some 233) (v := undef) (a' := ?_) #[oY,oY,oY,oY,oY,oY,oY,oY,oY,oY,oY,oY,oY,oY,oY,oY,oY,oY,oY,oY,oY,oY,oY,oY,oY,oY,oY,oY,oY,oY,oY,oY,oY,oY,oY,oY,oY,oY,oY,oN,oN,oN,oN,oN,oN] rfl rfl (by kernel_rfl) (fun _ _ _ h => h) (Or.inr ⟨by rfl, rfl⟩) ?_ ?_
         rotate_left
         ·simp only [Act.put, List.setIfInBounds_toArray, List.set_cons_zero, List.set_cons_succ, i64_w, i32_w]
          rfl
         refine pure_ (i := 39) (N := some 234) (v := undef) (a' := ?_) #[oY,oY,oY,oY,oY,oY,oY,oY,oY,oY,oY,oY,oY,oY,oY,oY,oY,oY,oY,oY,oY,oY,oY,oY,oY,oY,oY,oY,oY,oY,oY,oY,oY,oY,oY,oY,oY,oY,oY,oY,oN,oN,oN,oN,oN] rfl rfl (by kernel_rfl) (fun _ _ _ h => h) (Or.inr ⟨by rfl, rfl⟩) ?_ ?_
         rotate_left
         ·simp only [Act.put, List.setIfInBounds_toArray, List.set_cons_zero, List.set_cons_succ, i64_w, i32_w]
          rfl
         refine pure_ (i := 40) (N := some 235) (v := undef) (a' := ?_) #[oY,oY,oY,oY,oY,oY,oY,oY,oY,oY,oY,oY,oY,oY,oY,oY,oY,oY,oY,oY,oY,oY,oY,oY,oY,oY,oY,oY,oY,oY,oY,oY,oY,oY,oY,oY,oY,oY,oY,oY,oY,oN,oN,oN,oN] rfl rfl (by kernel_rfl) (fun _ _ _ h => h) (Or.inr ⟨by rfl, rfl⟩) ?_ ?_
         rotate_left
         ·simp only [Act.put, List.setIfInBounds_toArray, List.set_cons_zero, List.set_cons_succ, i64_w, i32_w]
          rfl
         refine pure_ (i := 41) (N := some 236) (v := undef) (a' := ?_) #[oY,oY,oY,oY,oY,oY,oY,oY,oY,oY,oY,oY,oY,oY,oY,oY,oY,oY,oY,oY,oY,oY,oY,oY,oY,oY,oY,oY,oY,oY,oY,oY,oY,oY,oY,oY,oY,oY,oY,oY,oY,oY,oN,oN,oN] rfl rfl (by kernel_rfl) (fun _ _ _ h => h) (Or.inr ⟨by rfl, rfl⟩) ?_ ?_
         rotate_left
         ·simp only [Act.put, List.setIfInBounds_toArray, List.set_cons_zero, List.set_cons_succ, i64_w, i32_w]
          rfl
         refine pure_ (i := 42) (N := some 237) (v := undef) (a' := ?_) #[oY,oY,oY,oY,oY,oY,oY,oY,oY,oY,oY,oY,oY,oY,oY,oY,oY,oY,oY,oY,oY,oY,oY,oY,oY,oY,oY,oY,oY,oY,oY,oY,oY,oY,oY,oY,oY,oY,oY,oY,oY,oY,oY,oN,oN] rfl rfl (by kernel_rfl) (fun _ _ _ h => h) (Or.inr ⟨by rfl, rfl⟩) ?_ ?_
         rotate_left
         ·simp only [Act.put, List.setIfInBounds_toArray, List.set_cons_zero, List.set_cons_succ, i64_w, i32_w]
          rfl
         refine pure_ (i := 43) (N := some 238) (v := ?_) (a' := ?_) #[oY,oY,oY,oY,oY,oY,oY,oY,oY,oY,oY,oY,oY,oY,oY,oY,oY,oY,oY,oY,oY,oY,oY,oY,oY,oY,oY,oY,oY,oY,oY,oY,oY,oY,oY,oY,oY,oY,oY,oY,oY,oY,oY,oY,oN] rfl rfl (by kernel_rfl) (fun _ _ _ h => h) (Or.inl ⟨by rfl, ?_⟩) ?_ ?_
         rotate_left
         ·intro w'
          go_simp
          with_reducible rfl
         rotate_left
         ·simp only [Act.put, List.setIfInBounds_toArray, List.set_cons_zero, List.set_cons_succ, i64_w, i32_w]
          rfl
         refine pure_ (i := 44) (N := some 239) (v := ?_) (a' := ?_) #[oY,oY,oY,oY,oY,oY,oY,oY,oY,oY,oY,oY,oY,oY,oY,oY,oY,oY,oY,oY,oY,oY,oY,oY,oY,oY,oY,oY,oY,oY,oY,oY,oY,oY,oY,oY,oY,oY,oY,oY,oY,oY,oY,oY,oY] rfl rfl (by kernel_rfl) (fun _ _ _ h => h) (Or.inl ⟨by rfl, ?_⟩) ?_ ?_
         rotate_left
         ·intro w'
          go_simp
          with_reducible rfl
         rotate_left
         ·simp only [Act.put, List.setIfInBounds_toArray, List.set_cons_zero, List.set_cons_succ, i64_w, i32_w]
          rfl
         refine done_ (by kernel_rfl) ?_
         have h12 := hHeld.1
         have f12 := hHeld.2.1
         clear hHeld ms12 ms11 ms10 msd
         go_wp2
         go_roundw
         case rel => exact ⟨b, i + 1, m, v, _, [], by omega, by omega, rfl, by go_num, h12, f12⟩
         case measure => simp [intOf]; omega
   ·obtain rfl : i = len1 := by omega
    clear hlt
    go_wp2
    go_ret
    exact ⟨rfl, hf⟩
 ·have HB := hid hb
  clear hb
  go_enter Try.func6, Try.ntmps6
  go_wp2_with fail
  refine (new_no HB.out).mono ?_
  rintro e w2 ⟨rfl, f2⟩
  go_wp2_with fail
  refine (rnew_no HB.out).mono ?_
  rintro e w3 ⟨rfl, k3⟩
  have f3 := f2.trans k3 (fun _ _ h => h)
  clear f2 k3
  go_wp2_with fail
  refine (awake_at _).mono ?_
  rintro e w4 ⟨rfl, k4⟩
  have f4 := f3.trans k4 (fun _ _ h => h)
  clear f3 k4
  go_wp2_with fail
  refine (pnil_push ⟨0, 0, 0⟩ _).mono ?_
  rintro e w5 ⟨rfl, k5⟩
  have f5 := f4.trans k5 (fun _ _ h => h)
  clear f4 k5
  go_wp2_with fail
  refine (pnil_len _).mono ?_
  rintro e w6 ⟨rfl, k6⟩
  have f6 := f5.trans k6 (fun _ _ h => h)
  clear f5 k6
  go_wp2
  go_ret
  exact ⟨rfl, f6⟩
end Go.Proofs.Ytkcfhdnlmdndeaa
