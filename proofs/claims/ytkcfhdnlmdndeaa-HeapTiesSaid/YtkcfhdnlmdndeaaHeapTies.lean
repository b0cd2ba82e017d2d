/- HeapTies: the walk of the law. -/
import Derived.Test.YtkcfhdnlmdndeaaHpAwake
import Derived.Test.YtkcfhdnlmdndeaaHpLaw
namespace Go.Proofs.Ytkcfhdnlmdndeaa
open Go.RowKit Go.Proofs.YtkcfhdnlmdndeaaW.PrintWords Go.Proofs.YtkcfhdnlmdndeaaW.PrintLast Go.Proofs.YtkcfhdnlmdndeaaW.PrintMore PHp
set_option linter.unusedVariables false
set_option linter.unusedSimpArgs false
set_option maxRecDepth 100000
theorem wf_u64 {k : Int} : (Lit.int .u64 k).wf = true ↔ 0 ≤ k ∧ k ≤ 18446744073709551615 := by
  show (decide (IntKind.u64.min ≤ k) && decide (k ≤ IntKind.u64.max)) = true ↔ _
  rw [Bool.and_eq_true, decide_eq_true_eq, decide_eq_true_eq]
  exact Iff.rfl
theorem wf_rem5 {n : Int} (h : (Lit.int .u64 n).wf = true) : (Lit.int .u64 (n.tmod 5)).wf = true := by
  obtain ⟨h0, h1⟩ := wf_u64.1 h
  rw [Int.tmod_eq_emod_of_nonneg h0]
  exact wf_u64.2 (by omega)
set_option maxHeartbeats 4000000 in
theorem heapTies_walk (a0 : Option Addr) (len0 cap0 : Nat) (a1 : Int) (w : World) (h0 : RdS [.i .u64] w a0 len0 cap0) (w1 : (Lit.int .i64 a1).wf = true) :
    Calls Try.prog 4 #[.slice a0 len0 cap0, .int .i64 a1] w fun e w' => e = .returned (.bool true) ∧ Fr (fun _ => False) w w' := by
  have hle := RdS.len_le h0
  have H0 := hid h0
  clear h0
  go_enter Try.func4, Try.ntmps4
  go_wp2_with fail
  refine (new_at (size := 40) (by omega) (by omega)).mono ?_
  rintro e w2 ⟨b, m, rfl, h2, hb2, hm2, f2⟩
  have z2 : Fz w.heap.size b m (.slice none 0 0) := Fz.made hb2 hm2
  go_wp2_with fail
  refine (awake_at _).mono ?_
  rintro e w3 ⟨rfl, k3⟩
  have h3 := h2.fr0 k3
  have f3 := f2.trans k3 (fun _ _ h => h)
  clear h2 f2 k3 hb2 hm2
  go_wp2_with fail
  go_loopw [28] (fun v28 wr => ∃ (i : Nat) (L : List It) (v : Value), i ≤ len0 ∧ i ≤ 40 ∧ v28 = .int .i64 (i : Int) ∧ HP wr b m v L 40 ∧ Fz w.heap.size b m v ∧ Hid (Ok L ∧ ∀ x ∈ L, x.f2 = a1) ∧ Fr (fun _ => False) w wr) (fun v28 _ => len0 - (intOf v28).toNat)
  case atStart => exact ⟨0, [], _, Nat.zero_le _, by omega, rfl, h3, z2, hid ⟨ok_nil, fun x hx => by cases hx⟩, f3⟩
  case round =>
    clear h3 z2 f3
    obtain ⟨i, L, v, hi, hi4, rfl, hh, hz, hl, hf⟩ := hrel
    have HH := hid hh
    by_cases hlt : i < len0
    · by_cases h40 : i = 40
      · subst h40
        obtain ⟨r, off, iu, rfl, hc, hw, hr⟩ := H0.out.num hlt
        have hc' := (hf.cell (a := ⟨r, off + 40, none⟩) hr (fun h => h)).trans hc
        have l1 : (40 : Int) < (len0 : Int) := by omega
        have t1 : (((40 : Nat) : Int) == 40) = true := rfl
        clear hc
        obtain ⟨hok, hall⟩ := hl.out
        have HOK := hid hok
        have HALL := hid hall
        clear hl hok hall hi hi4
        go_wp2_with fail
        refine (len_hp HH.out).mono ?_
        rintro e w4 ⟨rfl, k4⟩
        have h4 := HH.out.fr0 k4
        have f4 := hf.trans k4 (fun _ _ h => h)
        clear hf k4 HH hh
        go_wp2_with fail
        generalize hW : World.alloc w4 _ = W
        have j4 : Fr (fun _ => False) w4 W := by subst hW; (repeat' (first | (with_reducible exact Fr.refl _ _) | (with_reducible assumption) | (with_reducible refine Fr.alloc ?_ _) | (with_reducible refine Fr.drew ?_) | (with_reducible refine Fr.drewN ?_ _) | (with_reducible refine Fr.setCell ?_ _ _ ?_) | (exact Or.inr rfl) | (left; simp; done) | (left; simp; omega) | (simp; done) | (simp; omega) | omega))
        have hs4 : ∀ j, Ft b m v j → j < w4.heap.size := h4.lt
        have bL : Blk W w4.heap.size #[.int .u64 0, .int .u64 0, .int .i64 0] 24 := by subst hW; (repeat' (first | (with_reducible assumption) | (with_reducible apply Blk.drew) | (with_reducible apply Blk.drewN) | (with_reducible apply Blk.set) | (with_reducible apply Blk.other) | (exact Blk.new' _ _ _ (by first | rfl | (simp; done) | (simp; omega))) | (with_reducible apply Blk.alloc) | (with_reducible rfl) | (simp; done) | (simp; omega) | omega | rfl))
        clear hW
        have h5 := h4.fr0 j4
        have f5 := f4.trans j4 (fun _ _ h => h)
        have hlB : w.heap.size ≤ w4.heap.size := f4.size
        generalize w4.heap.size = lB at *
        have hsm := h5.small
        obtain ⟨n, hn⟩ : ∃ n, n = L.length := ⟨_, rfl⟩
        rw [← hn] at hsm ⊢
        have HN := hid hn
        have hfl : ∀ j, Ft b m v j → j ≠ lB := fun j hj e => by have := hs4 j hj; omega
        have hbl : Hid (lB < W.heap.size) := hid bL.lt
        clear h4 j4 f4 hs4 hn
        go_loopw [47] (fun v47 wr => ∃ (k : Nat) (M : List It) (u : Value) (x : It), k + M.length = n ∧ v47 = .int .i64 (k : Int) ∧ HP wr b m u M 40 ∧ Fz w.heap.size b m u ∧ Hid (∀ j, Ft b m u j → j ≠ lB) ∧ Hid (Ok M ∧ ∀ y ∈ M, y.f2 = a1) ∧ Blk wr lB #[.int .u64 x.f0, .int .u64 x.f1, .int .i64 x.f2] 24 ∧ Hid (k = 0 ∨ (x.f2 = a1 ∧ ∀ y ∈ M, itLt x y)) ∧ Hid (lB < wr.heap.size) ∧ Fr (fun _ => False) w wr) (fun v47 _ => n - (intOf v47).toNat)
        case atStart => exact ⟨0, L, v, ⟨0, 0, 0⟩, by rw [HN.out]; omega, rfl, h5, hz, hid hfl, hid ⟨HOK.out, HALL.out⟩, bL, hid (.inl rfl), hbl, f5⟩
        case round =>
          clear h5 hz hfl HOK HALL bL hbl f5
          obtain ⟨k, M, u, x, hk, rfl, hM, zM, hfl, hok, bL, hx, hbl, hf⟩ := hrel
          have HM := hid hM
          have huM := hM.uniq
          have HK := hid hk
          by_cases hkn : k < n
          · have l1 : (k : Int) < (n : Int) := by omega
            have hM0 : M.length ≠ 0 := by omega
            have HM0 := hid hM0
            clear hM hk hM0
            go_wp2_with fail
            refine (pop_at HM.out).mono ?_
            rintro e w6 ⟨rfl, u', h6, q6, k6⟩
            have z6 := zM.next q6 hf.size
            have f6 := hf.fz zM k6
            have bL6 := bL.fr k6 (fun e => hfl.out _ e rfl)
            have hfl6 : ∀ j, Ft b m u' j → j ≠ lB := by
              rintro j (e | e | e)
              · exact hfl.out j (.inl e)
              · exact hfl.out j (.inr (.inl e))
              · rcases q6 j e with e | e
                · exact hfl.out j (.inr (.inr e))
                · have := hbl.out; omega
            obtain ⟨y, hy⟩ : ∃ y, y = popX M := ⟨_, rfl⟩
            have hyM : y ∈ M := by rw [hy]; exact nth_mem (by have := HM0.out; omega)
            have hya := hok.out.2 y hyM
            have hmin : ∀ z ∈ popL M, itLt y z := by rw [hy]; exact pop_min huM hok.out.1 HM0.out
            have hsub : ∀ z ∈ popL M, z ∈ M := fun z hz => (pop_perm huM HM0.out).subset (List.mem_cons_of_mem _ hz)
            have hpl := pop_len huM HM0.out
            have hE : popE M = 0 := if_neg HM0.out
            rw [hE, ← hy]
            have hxy : k = 0 ∨ (x.f2 = a1 ∧ itLt x y) := hx.out.imp id (fun e => ⟨e.1, e.2 y hyM⟩)
            have HXY := hid hxy
            have HYA := hid hya
            have HMIN := hid hmin
            have HSUB := hid hsub
            have HPL := hid hpl
            have hbl6 : lB < w6.heap.size := bL6.lt
            clear hE hy hxy hya hmin hsub hpl hyM hx k6 q6 zM hf bL hfl hbl
            have t2 : decide ((k : Int) > 0) = decide (k > 0) := by simp
            have t3 : (y.f2 == a1) = true := by rw [HYA.out]; simp
            have HFL6 := hid hfl6
            clear hfl6
            obtain ⟨l0, l1', l2, lq0, lq1, lq2⟩ := id bL6.c3
            have lx := lt8 hbl6
            by_cases hk0 : k = 0
            · subst hk0
              go_wp2_with fail
              generalize hW : World.alloc (World.setCell (World.setCell (World.setCell w6 _ _) _ _) _ _) _ = W9
              have f9 : Fr (fun i => i = lB) w6 W9 := by subst hW; (repeat' (first | (with_reducible exact Fr.refl _ _) | (with_reducible assumption) | (with_reducible refine Fr.alloc ?_ _) | (with_reducible refine Fr.drew ?_) | (with_reducible refine Fr.drewN ?_ _) | (with_reducible refine Fr.setCell ?_ _ _ ?_) | (exact Or.inr rfl) | (left; simp; done) | (left; simp; omega) | (simp; done) | (simp; omega) | omega))
              have bL9 : Blk W9 lB #[.int .u64 y.f0, .int .u64 y.f1, .int .i64 y.f2] 24 := by subst hW; rw [HYA.out]; exact (bL6.set3 _ _ _).alloc _
              clear hW l0 l1' l2 lq0 lq1 lq2 lx t3 l1
              go_roundw
              case rel =>
                refine ⟨0 + 1, popL M, u', y, by have := HPL.out; have := HK.out; omega, by simp, h6.fr f9 (fun j hj => HFL6.out j hj), z6, HFL6, hid ⟨ok_popL hok.out.1, fun z hz => hok.out.2 z (HSUB.out z hz)⟩, bL9, hid (.inr ⟨HYA.out, HMIN.out⟩), hid bL9.lt, f6.trans f9 (fun j hj e => by have := hlB; omega)⟩
              case measure => simp [intOf]; omega
            · have t4 : decide (k > 0) = true := decide_eq_true (by omega)
              have t4' : decide ((k : Int) > 0) = true := decide_eq_true (by omega)
              have t4n : 0 < k := by omega
              obtain ⟨hxa, hxy⟩ : x.f2 = a1 ∧ itLt x y := HXY.out.resolve_left hk0
              have hya := HYA.out
              unfold itLt at hxy
              have t5 : decide (y.f1 < x.f1) = false := decide_eq_false (by omega)
              by_cases heq : y.f1 = x.f1
              · have t6 : (y.f1 == x.f1) = true := by rw [heq]; simp
                have t7 : decide (y.f0 ≤ x.f0) = false := decide_eq_false (by omega)
                clear hxa hxy hya heq
                go_wp2_with fail
                generalize hW : World.alloc (World.setCell (World.setCell (World.setCell w6 _ _) _ _) _ _) _ = W9
                have f9 : Fr (fun i => i = lB) w6 W9 := by subst hW; (repeat' (first | (with_reducible exact Fr.refl _ _) | (with_reducible assumption) | (with_reducible refine Fr.alloc ?_ _) | (with_reducible refine Fr.drew ?_) | (with_reducible refine Fr.drewN ?_ _) | (with_reducible refine Fr.setCell ?_ _ _ ?_) | (exact Or.inr rfl) | (left; simp; done) | (left; simp; omega) | (simp; done) | (simp; omega) | omega))
                have bL9 : Blk W9 lB #[.int .u64 y.f0, .int .u64 y.f1, .int .i64 y.f2] 24 := by subst hW; rw [HYA.out]; exact (bL6.set3 _ _ _).alloc _
                clear hW l0 l1' l2 lq0 lq1 lq2 lx t3 l1 t4 t4' t5 t6 t7
                go_roundw
                case rel =>
                  refine ⟨k + 1, popL M, u', y, by have := HPL.out; have := HK.out; omega, by simp, h6.fr f9 (fun j hj => HFL6.out j hj), z6, HFL6, hid ⟨ok_popL hok.out.1, fun z hz => hok.out.2 z (HSUB.out z hz)⟩, bL9, hid (.inr ⟨HYA.out, HMIN.out⟩), hid bL9.lt, f6.trans f9 (fun j hj e => by have := hlB; omega)⟩
                case measure => simp [intOf]; omega
              · have t6 : (y.f1 == x.f1) = false := by rw [beq_eq_false_iff_ne]; exact heq
                clear hxa hxy hya heq
                go_wp2_with fail
                generalize hW : World.alloc (World.setCell (World.setCell (World.setCell w6 _ _) _ _) _ _) _ = W9
                have f9 : Fr (fun i => i = lB) w6 W9 := by subst hW; (repeat' (first | (with_reducible exact Fr.refl _ _) | (with_reducible assumption) | (with_reducible refine Fr.alloc ?_ _) | (with_reducible refine Fr.drew ?_) | (with_reducible refine Fr.drewN ?_ _) | (with_reducible refine Fr.setCell ?_ _ _ ?_) | (exact Or.inr rfl) | (left; simp; done) | (left; simp; omega) | (simp; done) | (simp; omega) | omega))
                have bL9 : Blk W9 lB #[.int .u64 y.f0, .int .u64 y.f1, .int .i64 y.f2] 24 := by subst hW; rw [HYA.out]; exact (bL6.set3 _ _ _).alloc _
                clear hW l0 l1' l2 lq0 lq1 lq2 lx t3 l1 t4 t4' t5 t6
                go_roundw
                case rel =>
                  refine ⟨k + 1, popL M, u', y, by have := HPL.out; have := HK.out; omega, by simp, h6.fr f9 (fun j hj => HFL6.out j hj), z6, HFL6, hid ⟨ok_popL hok.out.1, fun z hz => hok.out.2 z (HSUB.out z hz)⟩, bL9, hid (.inr ⟨HYA.out, HMIN.out⟩), hid bL9.lt, f6.trans f9 (fun j hj e => by have := hlB; omega)⟩
                case measure => simp [intOf]; omega
          · have l1 : ¬ (k : Int) < (n : Int) := by omega
            have hM0 : M.length = 0 := by omega
            have hE : popE M = 6 := if_pos hM0
            clear hM hk hM0
            go_wp2_with fail
            refine (pop_at HM.out).mono ?_
            rintro e w6 ⟨rfl, u', h6, q6, k6⟩
            rw [hE]
            have f6 := hf.fz zM k6
            go_wp2
            go_ret
            exact ⟨rfl, by (repeat' (first | (with_reducible exact Fr.refl _ _) | (with_reducible assumption) | (with_reducible refine Fr.alloc ?_ _) | (with_reducible refine Fr.drew ?_) | (with_reducible refine Fr.drewN ?_ _) | (with_reducible refine Fr.setCell ?_ _ _ ?_) | (exact Or.inr rfl) | (left; simp; done) | (left; simp; omega) | (simp; done) | (simp; omega) | omega))⟩
      · obtain ⟨r, off, iu, rfl, hc, hw, hr⟩ := H0.out.num hlt
        have hc' := (hf.cell (a := ⟨r, off + i, none⟩) hr (fun h => h)).trans hc
        have t1 : ((i : Int) == 40) = false := by rw [beq_eq_false_iff_ne]; omega
        have l1 : (i : Int) < (len0 : Int) := by omega
        have hw5 : (Lit.int .u64 (iu.tmod 5)).wf = true := wf_rem5 hw
        clear hh hc
        go_wp2_with fail
        refine (push_at HH.out (x := ⟨iu, iu.tmod 5, a1⟩) ⟨hw, hw5, w1⟩).mono ?_
        rintro e w5 ⟨rfl, v', h5, q5, k5⟩
        go_wp2_with fail
        go_roundw
        case rel =>
          refine ⟨i + 1, _, v', hlt, by omega, by simp, h5, hz.next q5 hf.size, hid ⟨ok_pushL hl.out.1, fun y hy => ?_⟩, hf.fz hz k5⟩
          by_cases hE : pushE L 40 ⟨iu, iu.tmod 5, a1⟩ = 0
          · rcases List.mem_cons.1 ((push_perm hE).subset hy) with e | e
            · rw [e]
            · exact hl.out.2 y e
          · unfold pushL at hy; rw [if_neg hE] at hy; exact hl.out.2 y hy
        case measure => simp [intOf]; omega
    · have l1 : ¬ (i : Int) < (len0 : Int) := by omega
      obtain ⟨hok, hall⟩ := hl.out
      have HOK := hid hok
      have HALL := hid hall
      clear hl hok hall hi hi4
      go_wp2_with fail
      refine (len_hp HH.out).mono ?_
      rintro e w4 ⟨rfl, k4⟩
      have h4 := HH.out.fr0 k4
      have f4 := hf.trans k4 (fun _ _ h => h)
      clear hf k4 HH hh
      go_wp2_with fail
      generalize hW : World.alloc w4 _ = W
      have j4 : Fr (fun _ => False) w4 W := by subst hW; (repeat' (first | (with_reducible exact Fr.refl _ _) | (with_reducible assumption) | (with_reducible refine Fr.alloc ?_ _) | (with_reducible refine Fr.drew ?_) | (with_reducible refine Fr.drewN ?_ _) | (with_reducible refine Fr.setCell ?_ _ _ ?_) | (exact Or.inr rfl) | (left; simp; done) | (left; simp; omega) | (simp; done) | (simp; omega) | omega))
      have hs4 : ∀ j, Ft b m v j → j < w4.heap.size := h4.lt
      have bL : Blk W w4.heap.size #[.int .u64 0, .int .u64 0, .int .i64 0] 24 := by subst hW; (repeat' (first | (with_reducible assumption) | (with_reducible apply Blk.drew) | (with_reducible apply Blk.drewN) | (with_reducible apply Blk.set) | (with_reducible apply Blk.other) | (exact Blk.new' _ _ _ (by first | rfl | (simp; done) | (simp; omega))) | (with_reducible apply Blk.alloc) | (with_reducible rfl) | (simp; done) | (simp; omega) | omega | rfl))
      clear hW
      have h5 := h4.fr0 j4
      have f5 := f4.trans j4 (fun _ _ h => h)
      have hlB : w.heap.size ≤ w4.heap.size := f4.size
      generalize w4.heap.size = lB at *
      have hsm := h5.small
      obtain ⟨n, hn⟩ : ∃ n, n = L.length := ⟨_, rfl⟩
      rw [← hn] at hsm ⊢
      have HN := hid hn
      have hfl : ∀ j, Ft b m v j → j ≠ lB := fun j hj e => by have := hs4 j hj; omega
      have hbl : Hid (lB < W.heap.size) := hid bL.lt
      clear h4 j4 f4 hs4 hn
      go_loopw [47] (fun v47 wr => ∃ (k : Nat) (M : List It) (u : Value) (x : It), k + M.length = n ∧ v47 = .int .i64 (k : Int) ∧ HP wr b m u M 40 ∧ Fz w.heap.size b m u ∧ Hid (∀ j, Ft b m u j → j ≠ lB) ∧ Hid (Ok M ∧ ∀ y ∈ M, y.f2 = a1) ∧ Blk wr lB #[.int .u64 x.f0, .int .u64 x.f1, .int .i64 x.f2] 24 ∧ Hid (k = 0 ∨ (x.f2 = a1 ∧ ∀ y ∈ M, itLt x y)) ∧ Hid (lB < wr.heap.size) ∧ Fr (fun _ => False) w wr) (fun v47 _ => n - (intOf v47).toNat)
      case atStart => exact ⟨0, L, v, ⟨0, 0, 0⟩, by rw [HN.out]; omega, rfl, h5, hz, hid hfl, hid ⟨HOK.out, HALL.out⟩, bL, hid (.inl rfl), hbl, f5⟩
      case round =>
        clear h5 hz hfl HOK HALL bL hbl f5
        obtain ⟨k, M, u, x, hk, rfl, hM, zM, hfl, hok, bL, hx, hbl, hf⟩ := hrel
        have HM := hid hM
        have huM := hM.uniq
        have HK := hid hk
        by_cases hkn : k < n
        · have l1 : (k : Int) < (n : Int) := by omega
          have hM0 : M.length ≠ 0 := by omega
          have HM0 := hid hM0
          clear hM hk hM0
          go_wp2_with fail
          refine (pop_at HM.out).mono ?_
          rintro e w6 ⟨rfl, u', h6, q6, k6⟩
          have z6 := zM.next q6 hf.size
          have f6 := hf.fz zM k6
          have bL6 := bL.fr k6 (fun e => hfl.out _ e rfl)
          have hfl6 : ∀ j, Ft b m u' j → j ≠ lB := by
            rintro j (e | e | e)
            · exact hfl.out j (.inl e)
            · exact hfl.out j (.inr (.inl e))
            · rcases q6 j e with e | e
              · exact hfl.out j (.inr (.inr e))
              · have := hbl.out; omega
          obtain ⟨y, hy⟩ : ∃ y, y = popX M := ⟨_, rfl⟩
          have hyM : y ∈ M := by rw [hy]; exact nth_mem (by have := HM0.out; omega)
          have hya := hok.out.2 y hyM
          have hmin : ∀ z ∈ popL M, itLt y z := by rw [hy]; exact pop_min huM hok.out.1 HM0.out
          have hsub : ∀ z ∈ popL M, z ∈ M := fun z hz => (pop_perm huM HM0.out).subset (List.mem_cons_of_mem _ hz)
          have hpl := pop_len huM HM0.out
          have hE : popE M = 0 := if_neg HM0.out
          rw [hE, ← hy]
          have hxy : k = 0 ∨ (x.f2 = a1 ∧ itLt x y) := hx.out.imp id (fun e => ⟨e.1, e.2 y hyM⟩)
          have HXY := hid hxy
          have HYA := hid hya
          have HMIN := hid hmin
          have HSUB := hid hsub
          have HPL := hid hpl
          have hbl6 : lB < w6.heap.size := bL6.lt
          clear hE hy hxy hya hmin hsub hpl hyM hx k6 q6 zM hf bL hfl hbl
          have t2 : decide ((k : Int) > 0) = decide (k > 0) := by simp
          have t3 : (y.f2 == a1) = true := by rw [HYA.out]; simp
          have HFL6 := hid hfl6
          clear hfl6
          obtain ⟨l0, l1', l2, lq0, lq1, lq2⟩ := id bL6.c3
          have lx := lt8 hbl6
          by_cases hk0 : k = 0
          · subst hk0
            go_wp2_with fail
            generalize hW : World.alloc (World.setCell (World.setCell (World.setCell w6 _ _) _ _) _ _) _ = W9
            have f9 : Fr (fun i => i = lB) w6 W9 := by subst hW; (repeat' (first | (with_reducible exact Fr.refl _ _) | (with_reducible assumption) | (with_reducible refine Fr.alloc ?_ _) | (with_reducible refine Fr.drew ?_) | (with_reducible refine Fr.drewN ?_ _) | (with_reducible refine Fr.setCell ?_ _ _ ?_) | (exact Or.inr rfl) | (left; simp; done) | (left; simp; omega) | (simp; done) | (simp; omega) | omega))
            have bL9 : Blk W9 lB #[.int .u64 y.f0, .int .u64 y.f1, .int .i64 y.f2] 24 := by subst hW; rw [HYA.out]; exact (bL6.set3 _ _ _).alloc _
            clear hW l0 l1' l2 lq0 lq1 lq2 lx t3 l1
            go_roundw
            case rel =>
              refine ⟨0 + 1, popL M, u', y, by have := HPL.out; have := HK.out; omega, by simp, h6.fr f9 (fun j hj => HFL6.out j hj), z6, HFL6, hid ⟨ok_popL hok.out.1, fun z hz => hok.out.2 z (HSUB.out z hz)⟩, bL9, hid (.inr ⟨HYA.out, HMIN.out⟩), hid bL9.lt, f6.trans f9 (fun j hj e => by have := hlB; omega)⟩
            case measure => simp [intOf]; omega
          · have t4 : decide (k > 0) = true := decide_eq_true (by omega)
            have t4' : decide ((k : Int) > 0) = true := decide_eq_true (by omega)
            have t4n : 0 < k := by omega
            obtain ⟨hxa, hxy⟩ : x.f2 = a1 ∧ itLt x y := HXY.out.resolve_left hk0
            have hya := HYA.out
            unfold itLt at hxy
            have t5 : decide (y.f1 < x.f1) = false := decide_eq_false (by omega)
            by_cases heq : y.f1 = x.f1
            · have t6 : (y.f1 == x.f1) = true := by rw [heq]; simp
              have t7 : decide (y.f0 ≤ x.f0) = false := decide_eq_false (by omega)
              clear hxa hxy hya heq
              go_wp2_with fail
              generalize hW : World.alloc (World.setCell (World.setCell (World.setCell w6 _ _) _ _) _ _) _ = W9
              have f9 : Fr (fun i => i = lB) w6 W9 := by subst hW; (repeat' (first | (with_reducible exact Fr.refl _ _) | (with_reducible assumption) | (with_reducible refine Fr.alloc ?_ _) | (with_reducible refine Fr.drew ?_) | (with_reducible refine Fr.drewN ?_ _) | (with_reducible refine Fr.setCell ?_ _ _ ?_) | (exact Or.inr rfl) | (left; simp; done) | (left; simp; omega) | (simp; done) | (simp; omega) | omega))
              have bL9 : Blk W9 lB #[.int .u64 y.f0, .int .u64 y.f1, .int .i64 y.f2] 24 := by subst hW; rw [HYA.out]; exact (bL6.set3 _ _ _).alloc _
              clear hW l0 l1' l2 lq0 lq1 lq2 lx t3 l1 t4 t4' t5 t6 t7
              go_roundw
              case rel =>
                refine ⟨k + 1, popL M, u', y, by have := HPL.out; have := HK.out; omega, by simp, h6.fr f9 (fun j hj => HFL6.out j hj), z6, HFL6, hid ⟨ok_popL hok.out.1, fun z hz => hok.out.2 z (HSUB.out z hz)⟩, bL9, hid (.inr ⟨HYA.out, HMIN.out⟩), hid bL9.lt, f6.trans f9 (fun j hj e => by have := hlB; omega)⟩
              case measure => simp [intOf]; omega
            · have t6 : (y.f1 == x.f1) = false := by rw [beq_eq_false_iff_ne]; exact heq
              clear hxa hxy hya heq
              go_wp2_with fail
              generalize hW : World.alloc (World.setCell (World.setCell (World.setCell w6 _ _) _ _) _ _) _ = W9
              have f9 : Fr (fun i => i = lB) w6 W9 := by subst hW; (repeat' (first | (with_reducible exact Fr.refl _ _) | (with_reducible assumption) | (with_reducible refine Fr.alloc ?_ _) | (with_reducible refine Fr.drew ?_) | (with_reducible refine Fr.drewN ?_ _) | (with_reducible refine Fr.setCell ?_ _ _ ?_) | (exact Or.inr rfl) | (left; simp; done) | (left; simp; omega) | (simp; done) | (simp; omega) | omega))
              have bL9 : Blk W9 lB #[.int .u64 y.f0, .int .u64 y.f1, .int .i64 y.f2] 24 := by subst hW; rw [HYA.out]; exact (bL6.set3 _ _ _).alloc _
              clear hW l0 l1' l2 lq0 lq1 lq2 lx t3 l1 t4 t4' t5 t6
              go_roundw
              case rel =>
                refine ⟨k + 1, popL M, u', y, by have := HPL.out; have := HK.out; omega, by simp, h6.fr f9 (fun j hj => HFL6.out j hj), z6, HFL6, hid ⟨ok_popL hok.out.1, fun z hz => hok.out.2 z (HSUB.out z hz)⟩, bL9, hid (.inr ⟨HYA.out, HMIN.out⟩), hid bL9.lt, f6.trans f9 (fun j hj e => by have := hlB; omega)⟩
              case measure => simp [intOf]; omega
        · have l1 : ¬ (k : Int) < (n : Int) := by omega
          have hM0 : M.length = 0 := by omega
          have hE : popE M = 6 := if_pos hM0
          clear hM hk hM0
          go_wp2_with fail
          refine (pop_at HM.out).mono ?_
          rintro e w6 ⟨rfl, u', h6, q6, k6⟩
          rw [hE]
          have f6 := hf.fz zM k6
          go_wp2
          go_ret
          exact ⟨rfl, by (repeat' (first | (with_reducible exact Fr.refl _ _) | (with_reducible assumption) | (with_reducible refine Fr.alloc ?_ _) | (with_reducible refine Fr.drew ?_) | (with_reducible refine Fr.drewN ?_ _) | (with_reducible refine Fr.setCell ?_ _ _ ?_) | (exact Or.inr rfl) | (left; simp; done) | (left; simp; omega) | (simp; done) | (simp; omega) | omega))⟩
end Go.Proofs.Ytkcfhdnlmdndeaa
