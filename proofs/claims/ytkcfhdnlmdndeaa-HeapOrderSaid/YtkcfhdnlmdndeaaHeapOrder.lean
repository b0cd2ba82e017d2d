/- HeapOrder: the walk of the law. -/
import Derived.Test.YtkcfhdnlmdndeaaHoState
import Derived.Test.YtkcfhdnlmdndeaaPHpx1
import Derived.Deep.DeepCutAuto
import Derived.Deep.CutBlock
namespace Go.Proofs.Ytkcfhdnlmdndeaa
open Go.RowKit Go.Proofs.YtkcfhdnlmdndeaaW.PrintWords Go.Proofs.YtkcfhdnlmdndeaaW.PrintLast Go.Proofs.YtkcfhdnlmdndeaaW.PrintMore PHp
set_option linter.unusedVariables false
set_option linter.unusedSimpArgs false
set_option maxRecDepth 100000
attribute [local go_sem high] eqA24
/-- An act that was handed in. -/
theorem oact_open {w : World} {A : Option Addr} {len cap i : Nat} (h : RdS [.i .i64, .i .u64, .i .u64, .i .i64] w A len cap) (hi : i < len) :
  ∃ (r off : Nat) (q : Int) (x : It), A = some ⟨r, off, none⟩ ∧ r < w.heap.size ∧ ItOk x ∧ w.cell? ⟨r, off + i * 4, none⟩ = some (.int .i64 q) ∧ w.cell? ⟨r, off + i * 4 + 1, none⟩ = some (.int .u64 x.f0) ∧ w.cell? ⟨r, off + i * 4 + 2, none⟩ = some (.int .u64 x.f1) ∧ w.cell? ⟨r, off + i * 4 + 3, none⟩ = some (.int .i64 x.f2) := by
 obtain ⟨r, off, vs, rfl, ho, hc, hr⟩ := RdS.at h hi
 obtain ⟨v0, r0, rfl, h0, ho⟩ := okAll.cons ho
 obtain ⟨v1, r1, rfl, h1, ho⟩ := okAll.cons ho
 obtain ⟨v2, r2, rfl, h2, ho⟩ := okAll.cons ho
 obtain ⟨v3, r3, rfl, h3, ho⟩ := okAll.cons ho
 have e3 := okAll.none ho
 subst e3
 obtain ⟨q, rfl, hq⟩ := h0
 obtain ⟨a, rfl, ha⟩ := h1
 obtain ⟨b, rfl, hb⟩ := h2
 obtain ⟨c, rfl, hcw⟩ := h3
 exact ⟨r, off, q, ⟨a, b, c⟩, rfl, hr, ⟨ha, hb, hcw⟩, hc 0 _ rfl, hc 1 _ rfl, hc 2 _ rfl, hc 3 _ rfl⟩
theorem parentN {k1 p n : Nat} (hp : p = k1 / 4) (h : k1 + 1 < n) (hn : n ≤ 60) :
  (p : Int) < (n : Int) ∧ (0 : Int) ≤ (p : Int) ∧ wrap64 (((k1 + 1 : Nat) : Int) - 1) = (k1 : Int) ∧ IntKind.i64.wrap (((k1 + 1 : Nat) : Int) - 1) = (k1 : Int) ∧ Int.tdiv (k1 : Int) 4 = (p : Int) ∧ (k1 : Int) / 4 = (p : Int) ∧
  wrap64 (p : Int) = (p : Int) ∧ IntKind.i64.wrap (p : Int) = (p : Int) ∧ decide ((0 : Int) < ((k1 + 1 : Nat) : Int)) = true ∧ wrap64 (k1 : Int) = (k1 : Int) := by
 have w1 : wrap64 (((k1 + 1 : Nat) : Int) - 1) = (k1 : Int) := by unfold wrap64; omega
 exact ⟨by omega, by omega, w1, (i64_w _).trans w1, tdiv4 hp, ediv4 hp, wrapN' (by omega), wrapN (by omega), decide_eq_true (by omega), wrapN' (by omega)⟩
/-- What the check of a row's place reads. -/
def HoS (ma B D : Nat) (c : It) (w' : World) : Prop :=
 w'.cell? ⟨B, 0, none⟩ = some (.int .u64 c.f0) ∧ w'.cell? ⟨B, 1, none⟩ = some (.int .u64 c.f1) ∧ w'.cell? ⟨B, 2, none⟩ = some (.int .i64 c.f2) ∧
 w'.cell? ⟨D, 0, none⟩ = some (.int .u64 c.f0) ∧ w'.cell? ⟨D, 1, none⟩ = some (.int .u64 c.f1) ∧ w'.cell? ⟨D, 2, none⟩ = some (.int .i64 c.f2) ∧
 (Instr.lookup 84 (.map (some ma)) (.int .u64 c.f0) false).run Try.prog w' = .ok (vI c) w'
theorem HoS.of {ma B D : Nat} {c : It} {w' : World} {ta tb : TypeId} {z : Value} (h : Blk w' B #[.int .u64 c.f0, .int .u64 c.f1, .int .i64 c.f2] ta) (k : Blk w' D #[.int .u64 c.f0, .int .u64 c.f1, .int .i64 c.f2] tb)
  (hl : (Instr.lookup 84 (.map (some ma)) (.int .u64 c.f0) false).run Try.prog w' = .ok z w') (e : z = vI c) : HoS ma B D c w' :=
 ⟨h.cell 0, h.cell 1, h.cell 2, k.cell 0, k.cell 1, k.cell 2, e ▸ hl⟩
def HoT (r o : Nat) (d : It) (ma B D : Nat) (c : It) (w' : World) : Prop :=
 w'.cell? ⟨r, o, none⟩ = some (.int .u64 d.f0) ∧ w'.cell? ⟨r, o + 1, none⟩ = some (.int .u64 d.f1) ∧ w'.cell? ⟨r, o + 2, none⟩ = some (.int .i64 d.f2) ∧ HoS ma B D c w'
theorem HoT.of {r o : Nat} {d : It} {ma B D : Nat} {c : It} {w' : World} (h : At3 w' r o d) (k : HoS ma B D c w') : HoT r o d ma B D c w' := ⟨h.1, h.2.1, h.2.2, k⟩
set_option maxHeartbeats 16000000 in
theorem heapOrder_walk (a0 : Option Addr) (len0 cap0 : Nat) (w : World) (h0 : RdS [.i .i64, .i .u64, .i .u64, .i .i64] w a0 len0 cap0) :
  Calls Try.prog 11 #[.slice a0 len0 cap0] w fun e w' => e = .returned (.bool true) ∧ Fr (fun _ => False) w w' := by
 have hle := RdS.len_le h0
 have H0 := hid h0
 clear h0
 have hmm := @run_makeMap Try.prog
 go_enter Try.func11, Try.ntmps11
 go_wp2_with fail
 refine (new_at (size := 60) (by omega) (by omega)).mono ?_
 rintro e w2 ⟨b, m, rfl, h2, hb2, hm2, f2⟩
 have z2 : Fz w.heap.size b m (.slice none 0 0) := Fz.made hb2 hm2
 clear hb2 hm2
 go_wp2_with fail
 refine (awake_at _).mono ?_
 rintro e w3 ⟨rfl, k3⟩
 have h3 := h2.fr0 k3
 have f3 := f2.trans k3 (fun _ _ h => h)
 clear h2 f2 k3
 go_wp2_with fail
 generalize hW : World.alloc w3 _ = w4
 have k4 : Fr (fun _ => False) w3 w4 := by subst hW; (repeat' (first | (with_reducible exact Fr.refl _ _) | (with_reducible assumption) | (with_reducible refine Fr.alloc ?_ _) | (with_reducible refine Fr.drew ?_) | (with_reducible refine Fr.drewN ?_ _) | (with_reducible refine Fr.setCell ?_ _ _ ?_) | (exact Or.inr rfl) | (left; simp; done) | (left; simp; omega) | (simp; done) | (simp; omega) | omega))
 have m4 : MF 22 .u64 w4 w3.heap.size ([] : List It).length (itF []) := by subst hW; exact (MF.made w3 rfl).congr (fun k _ => rfl)
 obtain ⟨ma, hma⟩ : ∃ ma, ma = w3.heap.size := ⟨_, rfl⟩
 rw [← hma] at m4 ⊢
 have h4 : HT w.heap.size w4 b m (.slice none 0 0) [] ma [] := ⟨h3.fr0 k4, m4, z2, by have := f3.size; omega, fun hi => by have := h3.lt _ hi; omega⟩
 have f4 := f3.trans k4 (fun _ _ h => h)
 clear hW k4 m4 hma h3 f3 z2 hmm
 go_wp2_with fail
 go_loopw [43] (fun v43 wr => ∃ (i : Nat) (L : List It) (v : Value), i ≤ len0 ∧ i ≤ 100 ∧ v43 = .int .i64 (i : Int) ∧ HT w.heap.size wr b m v L ma L ∧ Hid (Ok L) ∧ Fr (fun _ => False) w wr) (fun v43 _ => len0 - (intOf v43).toNat)
 case atStart => exact ⟨0, [], _, Nat.zero_le _, by omega, rfl, h4, hid ok_nil, f4⟩
 case round =>
  clear h4 f4
  obtain ⟨i, L, v, hi, hi4, rfl, hh, hok, hf⟩ := hrel
  by_cases hlt : i < len0
  ·by_cases h40 : i = 100
   ·subst h40
    obtain ⟨r, off, q, x, rfl, hr, hox, c0, c1, c2, c3⟩ := oact_open H0.out hlt
    have c0' := (hf.cell (a := ⟨r, off + 100 * 4, none⟩) hr (fun h => h)).trans c0
    have c1' := (hf.cell (a := ⟨r, off + 100 * 4 + 1, none⟩) hr (fun h => h)).trans c1
    have c2' := (hf.cell (a := ⟨r, off + 100 * 4 + 2, none⟩) hr (fun h => h)).trans c2
    have c3' := (hf.cell (a := ⟨r, off + 100 * 4 + 3, none⟩) hr (fun h => h)).trans c3
    have l1 : (100 : Int) < (len0 : Int) := by omega
    have l1' : 100 < len0 := hlt
    simp only [Nat.reduceMul] at c0' c1' c2' c3'
    clear c0 c1 c2 c3
    go_upto_region 48 with fail
    generalize hW : World.alloc wr _ = WF
    have j0 : Fr (fun _ => False) wr WF := by subst hW; (repeat' (first | (with_reducible exact Fr.refl _ _) | (with_reducible assumption) | (with_reducible refine Fr.alloc ?_ _) | (with_reducible refine Fr.drew ?_) | (with_reducible refine Fr.drewN ?_ _) | (with_reducible refine Fr.setCell ?_ _ _ ?_) | (exact Or.inr rfl) | (left; simp; done) | (left; simp; omega) | (simp; done) | (simp; omega) | omega))
    clear hW c0' c1' c2' c3' l1 l1'
    replace hh := hh.fr0 j0
    replace hf := hf.trans j0 (fun _ _ h => h)
    clear j0
    as_aux_lemma =>
     have hml : ∀ i, Ft b m v i ∨ i = ma → i < WF.heap.size := hh.lts
     have nw : w.heap.size ≤ WF.heap.size := hf.size
     have hm := hh.mp
     have HU := hid hh.hp.uniq
     have hsm := hh.sm
     go_wp2_with (at_range; refine wpList_range_mf _ rfl _ 84 rfl 22 24 .u64 Try.underlying22 Try.underlying84 ma _ (itF L) rfl hm ?_)
     intro w8 hr8 f9 hs8
     have p8 := hh.fr0 f9
     have f8 := hf.trans f9 (fun _ _ h => h)
     obtain ⟨rB, hR⟩ : ∃ rB, rB = WF.heap.size := ⟨_, rfl⟩
     obtain ⟨bs, hbs⟩ : ∃ bs, bs = w8.heap.size := ⟨_, rfl⟩
     have hrb : rB < bs := by omega
     have hwb : w.heap.size ≤ bs := by omega
     have hwr : w.heap.size ≤ rB := by omega
     have hF : ∀ i, Ft b m v i ∨ i = ma → i ≠ rB ∧ i < bs := fun i hi => by have := hml i hi; omega
     have hb8 : bs ≤ w8.heap.size := by omega
     rw [← hR] at hr8 ⊢
     clear hml nw hm hh hf f9 hs8 hR hbs
     have HF := hid hF
     have HG := hid (got_nil L)
     clear hF
     go_wp2_with fail
     go_loopw [23] (fun v23 wr => ∃ (left : Int → Bool) (cnt : Nat) (Z : List It), MR 22 .u64 wr ma rB L.length (itF L) left cnt ∧ HT w.heap.size wr b m v L ma L ∧ Hid (Kd.R k24 24 wr bs (fun _ => True) v23 Z) ∧ Hid (Got L Z left ∧ ∀ z ∈ Z, left z.f0 = false) ∧ bs ≤ wr.heap.size ∧ Fr (fun _ => False) w wr) (fun _ wr => wr.rangeLeft ma rB)
     case atStart => exact ⟨_, _, [], hr8, p8, hid (Kd.R_nil _ _ _ _ _), hid ⟨HG.out, fun z hz => absurd hz List.not_mem_nil⟩, hb8, f8⟩
     case round =>
      clear hr8 p8 hb8 f8 HG
      obtain ⟨left, cnt, Z, hr, pr, HZ, HGt, hbr, fr⟩ := hrel
      go_wp2_with (at_next; refine wpList_next_mr _ rfl _ rfl 22 .u64 Try.underlying22 ma rB _ _ (itF L) _ (fun _ _ _ => trivial) rfl hr ?_ ?_)
      ·intro _ hdone
       have hperm : Z.Perm L := got_all HGt.out.1 (fun y hy => hdone y.f0 (pr.hp.ok y hy).1) HU.out
       have hlz : Z.length ≤ 60 := Nat.le_trans (got_len HGt.out.1) hsm
       have HPM := hid hperm
       have HH := hid pr.hp
       have nb : ∀ i, Ft b m v i → i < bs := fun i hi => (HF.out i (.inl hi)).2
       have NB := hid nb
       have hz0 := pr.z
       clear hr pr HGt hperm HF hdone nb
       rcases Row.of_R HZ.out with ⟨rfl, rfl⟩ | ⟨g, cap, rfl, hg, hm, hrow⟩
       ·have hL : L = [] := HPM.out.symm.eq_nil
        subst hL
        clear HZ hlz hsm hbr
        go_wp2_with fail
        refine (sortI_no none 0 _).mono ?_
        rintro e w3 ⟨rfl, rfl⟩
        go_wp2_with fail
        refine wp_loop_rounds 1 ?_
        rw [rounds_succ]
        go_wp2_with fail
        refine (len_hp HH.out).mono ?_
        rintro e w4 ⟨rfl, k4⟩
        go_wp2
        go_ret
        exact ⟨rfl, fr.trans k4 (fun _ _ h => h)⟩
       ·clear HZ
        go_wp2_with fail
        refine (sortI_at hrow (by omega)).mono ?_
        rintro e w3 ⟨rfl, row3, k3⟩
        have hwg : w.heap.size ≤ g := by omega
        have q3 := HH.out.fr k3 (fun i hi e => by have := NB.out i hi; omega)
        have f3 := fr.trans k3 (fun i hi e => by omega)
        obtain ⟨S, hS⟩ : ∃ S, S = srtI Z := ⟨_, rfl⟩
        have hSl : S.length = Z.length := by rw [hS]; exact (srtI_perm Z).length_eq
        have HSP : Hid (L.Perm S) := hid (by rw [hS]; exact HPM.out.symm.trans (srtI_perm Z).symm)
        have HSS : Hid (S.Pairwise fun a b => ¬ itLt b a) := hid (by rw [hS]; exact (srtI_sorted Z).imp (fun h => h))
        have row4 : Row 24 w3 g cap S := by rw [hS]; exact row3
        have ng : ∀ i, Ft b m v i → i ≠ g := fun i hi e => by have := NB.out i hi; omega
        have NG := hid ng
        rw [← hSl]
        have hs60 : S.length ≤ 60 := by omega
        clear hS hSl row3 k3 fr hrow hg hm ng hlz HPM HH NB hbr
        go_wp2_with fail
        go_loopw [243] (fun v243 wr => ∃ (k : Nat) (K : List It) (vk : Value), k ≤ S.length ∧ v243 = .int .i64 (k : Int) ∧ HP wr b m vk K 60 ∧ Hid (Ok K) ∧ Hid (K.Perm (S.drop k)) ∧ Row 24 wr g cap S ∧ Fz w.heap.size b m vk ∧ Hid (∀ i, Ft b m vk i → i ≠ g) ∧ Fr (fun _ => False) w wr) (fun v243 _ => S.length - (intOf v243).toNat)
        case atStart => exact ⟨0, L, v, Nat.zero_le _, rfl, q3, hok, HSP, row4, hz0, NG, f3⟩
        case round =>
         clear q3 row4 f3 hz0 NG HSP
         obtain ⟨k, K, vk, hk, rfl, hq, hKo, hKP, hrw, hkz, hkg, hfk⟩ := hrel
         by_cases hkl : k < S.length
         ·obtain ⟨x, hx⟩ : ∃ x, S[k]? = some x := ⟨_, List.getElem?_eq_getElem hkl⟩
          have e1 : S.drop k = x :: S.drop (k + 1) := by
           rw [List.drop_eq_getElem_cons hkl]
           have := (List.getElem?_eq_some_iff.1 hx).2
           rw [this]
          have hph := pop_head (A := K) (x := x) (T := S.drop (k + 1)) (by rw [← e1]; exact hKP.out) (by rw [← e1]; exact HSS.out.sublist (List.drop_sublist k S)) hq.uniq hKo.out
          obtain ⟨hE, hX, hP⟩ := hph
          have HP1 := hid hP
          have HO1 := hid (ok_popL hKo.out)
          have lk : (k : Int) < (S.length : Int) := by omega
          obtain ⟨c0, c1, c2⟩ := hrw.at3 hx
          have tx0 : (x.f0 == x.f0) = true := beq_self_eq_true _
          have tx1 : (x.f1 == x.f1) = true := beq_self_eq_true _
          have tx2 : (x.f2 == x.f2) = true := beq_self_eq_true _
          clear hx e1 hP hKP hKo
          go_wp2_with fail
          generalize hW : World.alloc wr _ = w4
          have k4 : Fr (fun _ => False) wr w4 := by subst hW; (repeat' (first | (with_reducible exact Fr.refl _ _) | (with_reducible assumption) | (with_reducible refine Fr.alloc ?_ _) | (with_reducible refine Fr.drew ?_) | (with_reducible refine Fr.drewN ?_ _) | (with_reducible refine Fr.setCell ?_ _ _ ?_) | (exact Or.inr rfl) | (left; simp; done) | (left; simp; omega) | (simp; done) | (simp; omega) | omega))
          have bA : Blk w4 wr.heap.size #[.int .u64 x.f0, .int .u64 x.f1, .int .i64 x.f2] 24 := by subst hW; (repeat' (first | (with_reducible assumption) | (with_reducible apply Blk.drew) | (with_reducible apply Blk.drewN) | (with_reducible apply Blk.set) | (with_reducible apply Blk.other) | (exact Blk.new' _ _ _ (by first | rfl | (simp; done) | (simp; omega))) | (with_reducible apply Blk.alloc) | (with_reducible rfl) | (simp; done) | (simp; omega) | omega | rfl))
          obtain ⟨B, hB⟩ : ∃ B, B = wr.heap.size := ⟨_, rfl⟩
          have hBn : ∀ i, Ft b m vk i → i ≠ B := fun i hi e => by have := hq.lt i hi; omega
          rw [← hB] at bA ⊢
          clear hW hB c0 c1 c2
          refine (pop_at (hq.fr0 k4)).mono ?_
          rintro e w5 ⟨rfl, v5, h5, hv5, k5⟩
          rw [hE, hX]
          have f4 := hfk.trans k4 (fun _ _ h => h)
          have n4 : w.heap.size ≤ w4.heap.size := f4.size
          have hgl : g < w4.heap.size := Nat.lt_of_lt_of_le hrw.lt k4.size
          have r5 := (hrw.fr k4 (fun h => h)).fr k5 (fun h => hkg.out g h rfl)
          have b5 := bA.fr k5 (fun h => hBn B h rfl)
          have f5 := f4.trans k5 (fun i hi e => by have := hkz i e; omega)
          have z5 := hkz.next hv5 n4
          have g5 : Hid (∀ i, Ft b m v5 i → i ≠ g) := hid (fun i hi e => by
           rcases hi with h | h | h
           ·exact hkg.out i (.inl h) e
           ·exact hkg.out i (.inr (.inl h)) e
           ·rcases hv5 i h with h | h
            ·exact hkg.out i (.inr (.inr h)) e
            ·omega)
          clear hq k4 k5 hE hX hrw bA hfk f4 hkz hv5 hkg hBn hgl n4
          obtain ⟨a0, a1, a2, _⟩ := b5.c3
          have hBl := b5.lt
          have hB8 := lt8 hBl
          go_upto_region 58 with fail
          generalize hW : World.alloc w5 _ = w6
          have k6 : Fr (fun _ => False) w5 w6 := by subst hW; (repeat' (first | (with_reducible exact Fr.refl _ _) | (with_reducible assumption) | (with_reducible refine Fr.alloc ?_ _) | (with_reducible refine Fr.drew ?_) | (with_reducible refine Fr.drewN ?_ _) | (with_reducible refine Fr.setCell ?_ _ _ ?_) | (exact Or.inr rfl) | (left; simp; done) | (left; simp; omega) | (simp; done) | (simp; omega) | omega))
          have bC : Blk w6 w5.heap.size #[.int .u64 x.f0, .int .u64 x.f1, .int .i64 x.f2] 24 := by subst hW; (repeat' (first | (with_reducible assumption) | (with_reducible apply Blk.drew) | (with_reducible apply Blk.drewN) | (with_reducible apply Blk.set) | (with_reducible apply Blk.other) | (exact Blk.new' _ _ _ (by first | rfl | (simp; done) | (simp; omega))) | (with_reducible apply Blk.alloc) | (with_reducible rfl) | (simp; done) | (simp; omega) | omega | rfl))
          clear hW a0 a1 a2 hBl hB8
          obtain ⟨a0, a1, a2, _⟩ := (b5.fr k6 (fun h => h)).c3
          obtain ⟨d0, d1, d2, _⟩ := bC.c3
          have h6 := h5.fr0 k6
          have r6 := r5.fr k6 (fun h => h)
          have f6 := f5.trans k6 (fun _ _ h => h)
          clear h5 r5 f5 k6 b5 bC
          go_wp2
          go_roundw
          case rel => exact ⟨k + 1, popL K, v5, by omega, by go_num, h6, HO1, HP1, r6, z5, g5, f6⟩
          case measure => simp [intOf]; omega
         ·obtain rfl : k = S.length := by omega
          have hK : K = [] := by have := hKP.out; rw [List.drop_length] at this; exact this.eq_nil
          subst hK
          clear hkl hKo hKP hrw hkz hkg
          go_wp2_with fail
          refine (len_hp hq).mono ?_
          rintro e w4 ⟨rfl, k4⟩
          go_wp2
          go_ret
          exact ⟨rfl, hfk.trans k4 (fun _ _ h => h)⟩
      ·intro k u w9 cnt9 hkw hkl hfv hr9 hcnt fR hsz hen
       have hy : ∃ y ∈ L, y.f0 = k ∧ u = vI y := by
        rcases itF_cases L k with ⟨h1, _⟩ | ⟨y, h1, h2, h3⟩
        ·rw [h1] at hfv; cases hfv
        ·rw [h3] at hfv; exact ⟨y, h1, h2, (Option.some.inj hfv).symm⟩
       obtain ⟨y, hyL, rfl, rfl⟩ := hy
       have hlz : Z.length ≤ 60 := Nat.le_trans (got_len HGt.out.1) hsm
       have p9 : HT w.heap.size w9 b m v L ma L := ⟨pr.hp.fr fR (fun i hi => (HF.out i (.inl hi)).1), pr.mp.fr fR (HF.out ma (.inr rfl)).1, pr.z, pr.zm, pr.dj⟩
       have HZ9 := hid (R_frI HZ.out fR (fun i hi => by omega))
       have f9 := fr.trans fR (fun i hi e => by omega)
       have hle := hr.left_eq
       have HGN := hid (got_snoc HGt.out.1 HGt.out.2 hyL hkl HU.out)
       have hb9 : bs ≤ w9.heap.size := by omega
       clear hr pr HZ fr fR hsz hfv HGt hbr
       go_wp2_with (at_builtin; refine Kd.R_append k24 (w0 := ?w0) bs rfl _ _ 44 24 (.agg #[.int .u64 0, .int .u64 0, .int .i64 0]) 24 rfl Try.underlying44 info24b rfl (by decide) (by omega) _ Z y [.int .u64 y.f0, .int .u64 y.f1, .int .i64 y.f2] (fun _ => True) (fun _ => False) rfl ?aX (k24_mkM _ _ _ _) (fun _ hk => hk.elim) (fun _ _ => trivial) ?aO ?aB ?aS ?aL ?_; (case aX => first | (go_simp; done) | (simp [Act.eval, World.alloc]; done)); (case aO => exact R_frI HZ9.out (S := fun _ => False) (by (repeat' (first | (with_reducible exact Fr.refl _ _) | (with_reducible assumption) | (with_reducible refine Fr.alloc ?_ _) | (with_reducible refine Fr.drew ?_) | (with_reducible refine Fr.drewN ?_ _) | (with_reducible refine Fr.setCell ?_ _ _ ?_) | (exact Or.inr rfl) | (left; simp; done) | (left; simp; omega) | (simp; done) | (simp; omega) | omega))) (fun _ _ h => h)); (case aB => exact Below.refl _ _); (case aS => simp; omega); (case aL => omega))
       intro v2 w2 r2 b2 _ _
       have k2 : Fr (fun i => bs ≤ i) w9 w2 := Fr.trans (S := fun i => bs ≤ i) (b := _) (by (repeat' (first | (with_reducible exact Fr.refl _ _) | (with_reducible assumption) | (with_reducible refine Fr.alloc ?_ _) | (with_reducible refine Fr.drew ?_) | (with_reducible refine Fr.drewN ?_ _) | (with_reducible refine Fr.setCell ?_ _ _ ?_) | (exact Or.inr rfl) | (left; simp; done) | (left; simp; omega) | (simp; done) | (simp; omega) | omega))) (Fr.ofB b2) (fun i hi h => h)
       have hr2 := hr9.fr k2 (by have := (HF.out ma (.inr rfl)).2; omega) (by omega)
       have p2 : HT w.heap.size w2 b m v L ma L := ⟨p9.hp.fr k2 (fun i hi h => by have := (HF.out i (.inl hi)).2; omega), p9.mp.fr k2 (by have := (HF.out ma (.inr rfl)).2; omega), p9.z, p9.zm, p9.dj⟩
       have f2 := f9.trans k2 (fun i hi e => by omega)
       have hb2 : bs ≤ w2.heap.size := Nat.le_trans hb9 k2.size
       have R2 := hid r2
       clear b2 k2 r2 hr9 p9 HZ9 f9
       go_wp2
       go_roundw
       case rel => exact ⟨_, _, _, hr2, p2, R2, hid HGN.out, hb2, f2⟩
       case measure => rw [hr2.left_eq, hle]; exact hcnt
   ·obtain ⟨r, off, q, x, rfl, hr, hox, c0, c1, c2, c3⟩ := oact_open H0.out hlt
    have c0' := (hf.cell (a := ⟨r, off + i * 4, none⟩) hr (fun h => h)).trans c0
    have c1' := (hf.cell (a := ⟨r, off + i * 4 + 1, none⟩) hr (fun h => h)).trans c1
    have c2' := (hf.cell (a := ⟨r, off + i * 4 + 2, none⟩) hr (fun h => h)).trans c2
    have c3' := (hf.cell (a := ⟨r, off + i * 4 + 3, none⟩) hr (fun h => h)).trans c3
    have l1 : (i : Int) < (len0 : Int) := by omega
    have l2 : ((i : Int) == 100) = false := by rw [beq_eq_false_iff_ne]; omega
    clear c0 c1 c2 c3
    go_upto_region 9 with fail
    generalize hW : World.alloc wr _ = W0
    have j0 : Fr (fun _ => False) wr W0 := by subst hW; (repeat' (first | (with_reducible exact Fr.refl _ _) | (with_reducible assumption) | (with_reducible refine Fr.alloc ?_ _) | (with_reducible refine Fr.drew ?_) | (with_reducible refine Fr.drewN ?_ _) | (with_reducible refine Fr.setCell ?_ _ _ ?_) | (exact Or.inr rfl) | (left; simp; done) | (left; simp; omega) | (simp; done) | (simp; omega) | omega))
    have bX : Blk W0 wr.heap.size #[.int .i64 q, .int .u64 x.f0, .int .u64 x.f1, .int .i64 x.f2] 40 := by subst hW; exact (Blk.new' _ _ _ rfl)
    clear hW c0' c1' c2' c3'
    have hh0 := hh.fr0 j0
    have hf0 := hf.trans j0 (fun _ _ h => h)
    obtain ⟨X, hX⟩ : ∃ X, X = wr.heap.size := ⟨_, rfl⟩
    have apX : ∀ i, Ft b m v i ∨ i = ma → i ≠ X := fun i hi => by have := hh.lts i hi; omega
    have wX : w.heap.size ≤ X := by have := hf.size; omega
    rw [← hX] at bX ⊢
    clear hX hh hf j0
    obtain ⟨z, hz, hzn⟩ := look_item L x.f0
    have hlk := hh0.look_ok hox.1
    rw [hz] at hlk
    obtain ⟨is, his⟩ : ∃ is, is = (place L x.f0).isSome := ⟨_, rfl⟩
    rw [← his] at hlk
    have HIS := hid his
    have x0 := bX.cell 0
    have x1 := bX.cell 1
    simp at x0 x1
    have hXl := bX.lt
    have hX8 := lt8 hXl
    clear hz hzn his
    go_upto_block 2 with fail
    generalize hW : World.alloc W0 _ = W1
    have j1 : Fr (fun _ => False) W0 W1 := by subst hW; (repeat' (first | (with_reducible exact Fr.refl _ _) | (with_reducible assumption) | (with_reducible refine Fr.alloc ?_ _) | (with_reducible refine Fr.drew ?_) | (with_reducible refine Fr.drewN ?_ _) | (with_reducible refine Fr.setCell ?_ _ _ ?_) | (exact Or.inr rfl) | (left; simp; done) | (left; simp; omega) | (simp; done) | (simp; omega) | omega))
    clear hW x0 x1 hlk hXl hX8
    replace hh := hh0.fr0 j1
    replace hf := hf0.trans j1 (fun _ _ h => h)
    replace bX := bX.fr j1 (fun h => h)
    clear hh0 hf0 j1
    go_cut [10, 11, 12, 13, 14, 16, 60, 83, 99, 129] (fun s10 s11 s12 s13 s14 s16 s60 s83 s99 s129 wx => ∃ (v : Value) (L : List It), HT w.heap.size wx b m v L ma L ∧ Hid (Ok L) ∧ Fr (fun _ => False) w wx)
    case first =>
     have hsm := hh.sm
     have nd : w.heap.size ≤ W1.heap.size := hf.size
     have hlen : ∀ ty, (Builtin.len_ #[84] ty #[.map (some ma)]).run Try.prog W1 = .ok (.int .i64 (L.length : Int)) W1 := fun ty => hh.mp.len Try.underlying84 ty
     obtain ⟨x0, x1, x2, x3⟩ := And.intro (bX.cell 0) (And.intro (bX.cell 1) (And.intro (bX.cell 2) (bX.cell 3)))
     simp at x0 x1 x2 x3
     by_cases q0 : q = 0
     ·subst q0
      cases hpl : place L x.f0 with
      | some k =>
       as_aux_lemma =>
        obtain rfl : is = true := by rw [HIS.out, hpl]; rfl
        have hE : pushE L 60 x = 9 := by unfold pushE; rw [hpl]; rfl
        have hL : pushL L 60 x = L := by unfold pushL; rw [if_neg (by rw [hE]; decide)]
        clear hlen hpl HIS
        go_wp2_with fail
        refine (push_at hh.hp hox).mono ?_
        rintro e w5 ⟨rfl, v5, h5, hv5, k5⟩
        rw [hE]
        rw [hL] at h5
        have p5 := hh.heap nd h5 hv5 k5
        have f5 := hf.trans k5 (fun i hi e => by have := hh.z i e; omega)
        clear hh hf h5 k5 hE hL x0 x1 x2 x3
        go_wp2
        all_goals (go_meet; exact ⟨v5, L, p5, hok, f5⟩)
      | none =>
       obtain rfl : is = false := by rw [HIS.out, hpl]; rfl
       by_cases hl60 : L.length < 60
       ·as_aux_lemma =>
         have hE : pushE L 60 x = 0 := (pushE_iff L 60 x).2 ⟨hpl, by omega⟩
         have hPF := itF_push (size := 60) hh.hp.uniq hE
         have HPF : Hid ((if (itF L x.f0).isSome = true then L.length else L.length + 1) = (pushL L 60 x).length ∧ putF (itF L) x.f0 (vI x) = itF (pushL L 60 x)) := hid ⟨by rw [itF_some, hpl, hPF.2]; rfl, hPF.1.symm⟩
         have l60 : decide ((L.length : Int) < 60) = true := decide_eq_true (by omega)
         clear hPF hpl HIS
         go_wp2_with fail
         refine (push_at hh.hp hox).mono ?_
         rintro e w5 ⟨rfl, v5, h5, hv5, k5⟩
         rw [hE]
         have p5 := hh.heap nd h5 hv5 k5
         have f5 := hf.trans k5 (fun i hi e => by have := hh.z i e; omega)
         have bX5 := bX.fr k5 (fun e => apX _ (.inl e) rfl)
         have hm5 := p5.mp
         have HOK := hid (ok_pushL (size := 60) (x := x) hok.out)
         clear hh hf h5 k5 hE x0 x1 x2 x3 hlen l60
         obtain ⟨x1, x2, x3⟩ := And.intro (bX5.cell 1) (And.intro (bX5.cell 2) (bX5.cell 3))
         simp at x1 x2 x3
         go_wp2_with (at_mapUpdate; refine wpList_store_it _ rfl _ _ _ rfl ma L (pushL L 60 x) x.f0 x rfl hm5 ?_ rfl rfl hox.1 HPF.out.1 HPF.out.2 ?_; (focus (unfold maxLen; omega)))
         intro w6 hm6 f6
         have p6 := p5.same f6 hm6
         have f7 := f5.trans f6 (fun i hi e => by have := p5.zm; omega)
         clear p5 hm5 hm6 f6 f5 x1 x2 x3 bX5
         go_wp2
         all_goals (go_meet; exact ⟨v5, _, p6, HOK, f7⟩)
       ·as_aux_lemma =>
         have hE : pushE L 60 x = 7 := by unfold pushE; rw [hpl, if_neg (by simp), if_pos (by omega)]
         have hL : pushL L 60 x = L := by unfold pushL; rw [if_neg (by rw [hE]; decide)]
         have l60 : decide ((L.length : Int) < 60) = false := decide_eq_false (by omega)
         clear hpl HIS
         go_wp2_with fail
         refine (push_at hh.hp hox).mono ?_
         rintro e w5 ⟨rfl, v5, h5, hv5, k5⟩
         rw [hE]
         rw [hL] at h5
         have p5 := hh.heap nd h5 hv5 k5
         have f5 := hf.trans k5 (fun i hi e => by have := hh.z i e; omega)
         clear hh hf h5 k5 hE hL x0 x1 x2 x3 hlen
         go_wp2
         all_goals (go_meet; exact ⟨v5, L, p5, hok, f5⟩)
     ·by_cases q1 : q = 1
      ·subst q1
       cases hpl : place L x.f0 with
       | some k =>
        as_aux_lemma =>
         obtain rfl : is = true := by rw [HIS.out, hpl]; rfl
         have hE : setE L x = 0 := by unfold setE; rw [hpl]; rfl
         have hPF := itF_set hh.hp.uniq hpl
         have HPF : Hid ((if (itF L x.f0).isSome = true then L.length else L.length + 1) = (setL L x).length ∧ putF (itF L) x.f0 (vI x) = itF (setL L x)) := hid ⟨by rw [itF_some, hpl, hPF.2]; rfl, hPF.1.symm⟩
         clear hPF hpl HIS
         go_wp2_with fail
         refine (set_at hh.hp hox).mono ?_
         rintro e w5 ⟨rfl, v5, h5, hv5, k5⟩
         rw [hE]
         have p5 := hh.heap nd h5 hv5 k5
         have f5 := hf.trans k5 (fun i hi e => by have := hh.z i e; omega)
         have bX5 := bX.fr k5 (fun e => apX _ (.inl e) rfl)
         have hm5 := p5.mp
         have HOK := hid (ok_setL (x := x) hok.out)
         clear hh hf h5 k5 hE x0 x1 x2 x3
         obtain ⟨x1, x2, x3⟩ := And.intro (bX5.cell 1) (And.intro (bX5.cell 2) (bX5.cell 3))
         simp at x1 x2 x3
         go_wp2_with (at_mapUpdate; refine wpList_store_it _ rfl _ _ _ rfl ma L (setL L x) x.f0 x rfl hm5 ?_ rfl rfl hox.1 HPF.out.1 HPF.out.2 ?_; (focus (unfold maxLen; omega)))
         intro w6 hm6 f6
         have p6 := p5.same f6 hm6
         have f7 := f5.trans f6 (fun i hi e => by have := p5.zm; omega)
         clear p5 hm5 hm6 f6 f5 x1 x2 x3 bX5
         go_wp2
         all_goals (go_meet; exact ⟨v5, _, p6, HOK, f7⟩)
       | none =>
        as_aux_lemma =>
         obtain rfl : is = false := by rw [HIS.out, hpl]; rfl
         have hE : setE L x = 6 := by unfold setE; rw [hpl]; rfl
         have hL : setL L x = L := by unfold setL; rw [hpl]
         clear hpl HIS
         go_wp2_with fail
         refine (set_at hh.hp hox).mono ?_
         rintro e w5 ⟨rfl, v5, h5, hv5, k5⟩
         rw [hE]
         rw [hL] at h5
         have p5 := hh.heap nd h5 hv5 k5
         have f5 := hf.trans k5 (fun i hi e => by have := hh.z i e; omega)
         clear hh hf h5 k5 hE hL x0 x1 x2 x3
         go_wp2
         all_goals (go_meet; exact ⟨v5, L, p5, hok, f5⟩)
      ·by_cases q2 : q = 2
       ·subst q2
        clear hlen x2 x3
        cases hpl : place L x.f0 with
        | some k =>
         as_aux_lemma =>
          obtain rfl : is = true := by rw [HIS.out, hpl]; rfl
          have hE : remE L x.f0 = 0 := by unfold remE; rw [hpl]; rfl
          obtain ⟨y, hy⟩ : ∃ y, y = nth L k := ⟨_, rfl⟩
          have hX : remX L x.f0 = y := by unfold remX; rw [hpl]; exact hy.symm
          have hPF := itF_rem hh.hp.uniq hpl
          have HPF : Hid ((if (itF L x.f0).isSome = true then L.length - 1 else L.length) = (remL L x.f0).length ∧ delF (itF L) x.f0 = itF (remL L x.f0)) := hid ⟨by rw [itF_some, hpl, hPF.2]; rfl, hPF.1.symm⟩
          have HLK : Hid ((itF L x.f0).getD (vI ⟨0, 0, 0⟩) = vI y) := hid (by unfold itF; rw [hpl, hy]; rfl)
          have ty0 : (y.f0 == y.f0) = true := beq_self_eq_true _
          have ty1 : (y.f1 == y.f1) = true := beq_self_eq_true _
          have ty2 : (y.f2 == y.f2) = true := beq_self_eq_true _
          clear hPF hpl HIS hy
          go_wp2_with fail
          refine (rem_at hh.hp hox.1).mono ?_
          rintro e w5 ⟨rfl, v5, h5, hv5, k5⟩
          rw [hE, hX]
          have p5 := hh.heap nd h5 hv5 k5
          have f5 := hf.trans k5 (fun i hi e => by have := hh.z i e; omega)
          have bX5 := bX.fr k5 (fun e => apX _ (.inl e) rfl)
          have HOK := hid (ok_remL (id := x.f0) hok.out)
          clear hh hf h5 k5 hE hX x0 x1 bX
          go_upto_region 24 with fail
          generalize hW : World.alloc w5 _ = w6
          have f56 : Fr (fun _ => False) w5 w6 := by subst hW; (repeat' (first | (with_reducible exact Fr.refl _ _) | (with_reducible assumption) | (with_reducible refine Fr.alloc ?_ _) | (with_reducible refine Fr.drew ?_) | (with_reducible refine Fr.drewN ?_ _) | (with_reducible refine Fr.setCell ?_ _ _ ?_) | (exact Or.inr rfl) | (left; simp; done) | (left; simp; omega) | (simp; done) | (simp; omega) | omega))
          have bY : Blk w6 w5.heap.size #[.int .u64 y.f0, .int .u64 y.f1, .int .i64 y.f2] 24 := by subst hW; (repeat' (first | (with_reducible assumption) | (with_reducible apply Blk.drew) | (with_reducible apply Blk.drewN) | (with_reducible apply Blk.set) | (with_reducible apply Blk.other) | (exact Blk.new' _ _ _ (by first | rfl | (simp; done) | (simp; omega))) | (with_reducible apply Blk.alloc) | (with_reducible rfl) | (simp; done) | (simp; omega) | omega | rfl))
          clear hW
          have p6 := p5.fr0 f56
          have bX6 := bX5.fr f56 (fun h => h)
          have f6 := f5.trans f56 (fun _ _ h => h)
          have hlk := p6.look hox.1
          rw [HLK.out] at hlk
          have hm6 := p6.mp
          obtain ⟨y0, y1, y2, _⟩ := bY.c3
          have x1 := bX6.cell 1
          simp at x1
          clear p5 bX5 f5 f56
          go_wp2_with (at_delete; refine wpList_delete_it _ rfl _ _ rfl ma L (remL L x.f0) x.f0 rfl hm6 rfl hox.1 HPF.out.1 HPF.out.2 ?_)
          intro w7 hm7 f7
          have p7 := p6.same f7 hm7
          have f8 := f6.trans f7 (fun i hi e => by have := p6.zm; omega)
          clear p6 hm6 hm7 f7 f6 x1 bX6 hlk y0 y1 y2 bY
          go_wp2
          all_goals (go_meet; exact ⟨v5, _, p7, HOK, f8⟩)
        | none =>
         as_aux_lemma =>
          obtain rfl : is = false := by rw [HIS.out, hpl]; rfl
          have hE : remE L x.f0 = 6 := by unfold remE; rw [hpl]; rfl
          have hX : remX L x.f0 = ⟨0, 0, 0⟩ := by unfold remX; rw [hpl]
          have hL : remL L x.f0 = L := by unfold remL; rw [hpl]
          have HPF : Hid ((if (itF L x.f0).isSome = true then L.length - 1 else L.length) = L.length ∧ delF (itF L) x.f0 = itF L) := hid ⟨by rw [itF_some, hpl]; rfl, by
           funext j
           unfold delF
           by_cases e : j = x.f0
           ·subst e; rw [if_pos rfl]; unfold itF; rw [hpl]; rfl
           ·rw [if_neg e]⟩
          clear hpl HIS
          go_wp2_with fail
          refine (rem_at hh.hp hox.1).mono ?_
          rintro e w5 ⟨rfl, v5, h5, hv5, k5⟩
          rw [hE, hX]
          rw [hL] at h5
          have p5 := hh.heap nd h5 hv5 k5
          have f5 := hf.trans k5 (fun i hi e => by have := hh.z i e; omega)
          have bX5 := bX.fr k5 (fun e => apX _ (.inl e) rfl)
          clear hh hf h5 k5 hE hX hL x0 x1 bX
          go_upto_region 24 with fail
          generalize hW : World.alloc w5 _ = w6
          have f56 : Fr (fun _ => False) w5 w6 := by subst hW; (repeat' (first | (with_reducible exact Fr.refl _ _) | (with_reducible assumption) | (with_reducible refine Fr.alloc ?_ _) | (with_reducible refine Fr.drew ?_) | (with_reducible refine Fr.drewN ?_ _) | (with_reducible refine Fr.setCell ?_ _ _ ?_) | (exact Or.inr rfl) | (left; simp; done) | (left; simp; omega) | (simp; done) | (simp; omega) | omega))
          clear hW
          have p6 := p5.fr0 f56
          have bX6 := bX5.fr f56 (fun h => h)
          have f6 := f5.trans f56 (fun _ _ h => h)
          have hm6 := p6.mp
          have x1 := bX6.cell 1
          simp at x1
          clear p5 bX5 f5 f56
          go_wp2_with (at_delete; refine wpList_delete_it _ rfl _ _ rfl ma L L x.f0 rfl hm6 rfl hox.1 HPF.out.1 HPF.out.2 ?_)
          intro w7 hm7 f7
          have p7 := p6.same f7 hm7
          have f8 := f6.trans f7 (fun i hi e => by have := p6.zm; omega)
          clear p6 hm6 hm7 f7 f6 x1 bX6
          go_wp2
          all_goals (go_meet; exact ⟨v5, _, p7, hok, f8⟩)
       ·by_cases q3 : q = 3
        ·subst q3
         clear x1 x2 x3 HIS hlen
         by_cases h0 : L.length = 0
         ·as_aux_lemma =>
           obtain rfl : L = [] := List.eq_nil_of_length_eq_zero h0
           have HPF : Hid ((if (itF [] 0).isSome = true then ([] : List It).length - 1 else ([] : List It).length) = ([] : List It).length ∧ delF (itF []) 0 = itF []) := hid ⟨rfl, by funext j; unfold delF; split <;> rfl⟩
           have hE : popE [] = 6 := rfl
           have hX : popX [] = ⟨0, 0, 0⟩ := rfl
           have hL : popL [] = [] := rfl
           clear h0 hsm
           go_wp2_with fail
           refine (pop_at hh.hp).mono ?_
           rintro e w5 ⟨rfl, v5, h5, hv5, k5⟩
           rw [hE, hX]
           rw [hL] at h5
           have p5 := hh.heap nd h5 hv5 k5
           have f5 := hf.trans k5 (fun i hi e => by have := hh.z i e; omega)
           clear hh hf h5 k5 hE hX hL x0 bX
           go_upto_region 29 with fail
           generalize hW : World.alloc w5 _ = w6
           have f56 : Fr (fun _ => False) w5 w6 := by subst hW; (repeat' (first | (with_reducible exact Fr.refl _ _) | (with_reducible assumption) | (with_reducible refine Fr.alloc ?_ _) | (with_reducible refine Fr.drew ?_) | (with_reducible refine Fr.drewN ?_ _) | (with_reducible refine Fr.setCell ?_ _ _ ?_) | (exact Or.inr rfl) | (left; simp; done) | (left; simp; omega) | (simp; done) | (simp; omega) | omega))
           have bY : Blk w6 w5.heap.size #[.int .u64 0, .int .u64 0, .int .i64 0] 24 := by subst hW; (repeat' (first | (with_reducible assumption) | (with_reducible apply Blk.drew) | (with_reducible apply Blk.drewN) | (with_reducible apply Blk.set) | (with_reducible apply Blk.other) | (exact Blk.new' _ _ _ (by first | rfl | (simp; done) | (simp; omega))) | (with_reducible apply Blk.alloc) | (with_reducible rfl) | (simp; done) | (simp; omega) | omega | rfl))
           clear hW
           have p6 := p5.fr0 f56
           have f6 := f5.trans f56 (fun _ _ h => h)
           have hm6 := p6.mp
           have hlen : ∀ ty, (Builtin.len_ #[84] ty #[.map (some ma)]).run Try.prog w6 = .ok (.int .i64 ((([] : List It).length : Nat) : Int)) w6 := fun ty => p6.mp.len Try.underlying84 ty
           simp only [List.length_nil] at hlen
           have y0 := bY.cell 0
           simp at y0
           clear p5 f5 f56
           go_wp2_with (at_delete; refine wpList_delete_it _ rfl _ _ rfl ma [] [] 0 rfl hm6 rfl (by decide) HPF.out.1 HPF.out.2 ?_)
           intro w7 hm7 f7
           have p7 := p6.same (M' := []) f7 hm7
           have f8 := f6.trans f7 (fun i hi e => by have := p6.zm; omega)
           clear p6 hm6 f7 f6 y0 bY hlen
           go_wp2_with (at_range; refine wpList_range_mf _ rfl _ 84 rfl 22 24 .u64 Try.underlying22 Try.underlying84 ma _ (itF []) rfl hm7 ?_)
           intro w8 hr8 f9 hs8
           go_wp2_with fail
           have p8 := p7.fr0 f9
           have f10 := f8.trans f9 (fun _ _ h => h)
           clear hm7
           go_loopw [] (fun wr => ∃ (left : Int → Bool) (cnt : Nat), MR 22 .u64 wr ma w7.heap.size 0 (itF []) left cnt ∧ HT w.heap.size wr b m v5 [] ma [] ∧ Fr (fun _ => False) w wr) (fun wr => wr.rangeLeft ma w7.heap.size)
           case atStart => exact ⟨_, _, hr8, p8, f10⟩
           case round =>
            obtain ⟨left, cnt, hr, pr, fr⟩ := hrel
            go_wp2_with (at_next; refine wpList_next_mr _ rfl _ rfl 22 .u64 Try.underlying22 ma w7.heap.size 0 _ (itF []) _ (fun _ _ _ => trivial) rfl hr ?_ ?_)
            ·intro _ _
             go_wp2
             all_goals (go_meet; exact ⟨v5, _, pr, hok, fr⟩)
            ·intro k v w9 cnt9 _ _ hfv
             rw [itF_nil] at hfv
             cases hfv
         ·as_aux_lemma =>
           have hl0 : 0 < L.length := by omega
           obtain ⟨y, hy⟩ : ∃ y, y = popX L := ⟨_, rfl⟩
           have hpl : place L y.f0 = some 0 := by rw [hy]; exact place_is hh.hp.uniq hl0
           have hyo : ItOk y := by rw [hy]; exact hh.hp.ok _ (nth_mem hl0)
           have hE : popE L = 0 := if_neg h0
           have hPF := itF_pop hh.hp.uniq h0
           rw [← hy] at hPF
           have HPF : Hid ((if (itF L y.f0).isSome = true then L.length - 1 else L.length) = (popL L).length ∧ delF (itF L) y.f0 = itF (popL L)) := hid ⟨by rw [itF_some, hpl, hPF.2]; rfl, hPF.1.symm⟩
           have HLK : Hid ((itF L y.f0).getD (vI ⟨0, 0, 0⟩) = vI y) := hid (by unfold itF; rw [hpl, hy]; rfl)
           have HAH : Hid (∀ k u, itF (popL L) k = some u → ∃ t, u = vI t ∧ ahead y t = true) := hid (fun k u hu => by
            obtain ⟨t, e1, _, e2, _⟩ := pop_ahead hh.hp.uniq hok.out hu
            exact ⟨t, e1, by rw [hy]; exact e2⟩)
           have HOK := hid (ok_popL hok.out)
           have lpos : decide ((0 : Int) < (L.length : Int)) = true := decide_eq_true (by omega)
           have lposN : decide (0 < L.length) = true := decide_eq_true (by omega)
           have ty0 : (y.f0 == y.f0) = true := beq_self_eq_true _
           have ty1 : (y.f1 == y.f1) = true := beq_self_eq_true _
           have ty2 : (y.f2 == y.f2) = true := beq_self_eq_true _
           clear hPF hpl hsm h0 hl0
           go_wp2_with fail
           refine (pop_at hh.hp).mono ?_
           rintro e w5 ⟨rfl, v5, h5, hv5, k5⟩
           rw [hE, ← hy]
           have p5 := hh.heap nd h5 hv5 k5
           have f5 := hf.trans k5 (fun i hi e => by have := hh.z i e; omega)
           clear hh hf h5 k5 hE x0 bX hy hok
           go_upto_region 29 with fail
           generalize hW : World.alloc w5 _ = w6
           have f56 : Fr (fun _ => False) w5 w6 := by subst hW; (repeat' (first | (with_reducible exact Fr.refl _ _) | (with_reducible assumption) | (with_reducible refine Fr.alloc ?_ _) | (with_reducible refine Fr.drew ?_) | (with_reducible refine Fr.drewN ?_ _) | (with_reducible refine Fr.setCell ?_ _ _ ?_) | (exact Or.inr rfl) | (left; simp; done) | (left; simp; omega) | (simp; done) | (simp; omega) | omega))
           have bY : Blk w6 w5.heap.size #[.int .u64 y.f0, .int .u64 y.f1, .int .i64 y.f2] 24 := by subst hW; (repeat' (first | (with_reducible assumption) | (with_reducible apply Blk.drew) | (with_reducible apply Blk.drewN) | (with_reducible apply Blk.set) | (with_reducible apply Blk.other) | (exact Blk.new' _ _ _ (by first | rfl | (simp; done) | (simp; omega))) | (with_reducible apply Blk.alloc) | (with_reducible rfl) | (simp; done) | (simp; omega) | omega | rfl))
           clear hW
           obtain ⟨Y, hY⟩ : ∃ Y, Y = w5.heap.size := ⟨_, rfl⟩
           rw [← hY] at bY ⊢
           have p6 := p5.fr0 f56
           have f6 := f5.trans f56 (fun _ _ h => h)
           have hm6 := p6.mp
           have hlen : ∀ ty, (Builtin.len_ #[84] ty #[.map (some ma)]).run Try.prog w6 = .ok (.int .i64 (L.length : Int)) w6 := fun ty => p6.mp.len Try.underlying84 ty
           have hlk := p6.look hyo.1
           rw [HLK.out] at hlk
           have hYm : Y ≠ ma := by have := p5.mp.lt; omega
           obtain ⟨y0, y1, y2, _⟩ := bY.c3
           clear p5 f5 f56 hY
           go_wp2_with (at_delete; refine wpList_delete_it _ rfl _ _ rfl ma L (popL L) y.f0 rfl hm6 rfl hyo.1 HPF.out.1 HPF.out.2 ?_)
           intro w7 hm7 f7
           have p7 := p6.same f7 hm7
           have f8 := f6.trans f7 (fun i hi e => by have := p6.zm; omega)
           have bY7 := bY.fr f7 hYm
           clear p6 hm6 f7 f6 y0 y1 y2 bY hlen hlk lpos lposN HPF HLK
           go_wp2_with (at_range; refine wpList_range_mf _ rfl _ 84 rfl 22 24 .u64 Try.underlying22 Try.underlying84 ma _ (itF (popL L)) rfl hm7 ?_)
           intro w8 hr8 f9 hs8
           have p8 := p7.fr0 f9
           have f10 := f8.trans f9 (fun _ _ h => h)
           have bY8 := bY7.fr f9 (fun h => h)
           have nR : w.heap.size ≤ w7.heap.size := f8.size
           have nF : ∀ i, Ft b m v5 i ∨ i = ma → i ≠ w7.heap.size := fun i hi => by have := p7.lts i hi; omega
           have nY : Y ≠ w7.heap.size := by have := bY7.lt; omega
           obtain ⟨rB, hR⟩ : ∃ rB, rB = w7.heap.size := ⟨_, rfl⟩
           rw [← hR] at hr8 nR nF nY ⊢
           clear hm7 p7 f8 f9 hs8 hR bY7
           go_wp2_with fail
           go_loopw [] (fun wr => ∃ (left : Int → Bool) (cnt : Nat), MR 22 .u64 wr ma rB (popL L).length (itF (popL L)) left cnt ∧ HT w.heap.size wr b m v5 (popL L) ma (popL L) ∧ Blk wr Y #[.int .u64 y.f0, .int .u64 y.f1, .int .i64 y.f2] 24 ∧ Fr (fun _ => False) w wr) (fun wr => wr.rangeLeft ma rB)
           case atStart => exact ⟨_, _, hr8, p8, bY8, f10⟩
           case round =>
            clear hr8 p8 f10 bY8
            obtain ⟨left, cnt, hr, pr, br, fr⟩ := hrel
            go_wp2_with (at_next; refine wpList_next_mr _ rfl _ rfl 22 .u64 Try.underlying22 ma rB _ _ (itF (popL L)) _ (fun _ _ _ => trivial) rfl hr ?_ ?_)
            ·intro _ _
             go_wp2
             all_goals (go_meet; exact ⟨v5, _, pr, HOK, fr⟩)
            ·intro k u w9 cnt9 _ _ hfv hr9 hcnt fR hsz hen
             obtain ⟨t, rfl, hat⟩ := HAH.out k u hfv
             have p9 : HT w.heap.size w9 b m v5 (popL L) ma (popL L) := ⟨pr.hp.fr fR (fun i hi => nF i (.inl hi)), pr.mp.fr fR (nF ma (.inr rfl)), pr.z, pr.zm, pr.dj⟩
             have b9 := br.fr fR nY
             have f9 := fr.trans fR (fun i hi e => by omega)
             have hml := hr.left_eq
             clear hr pr br fr fR hsz hfv
             obtain ⟨y0, y1, y2, _⟩ := b9.c3
             have hYl := b9.lt
             have hY8 := lt8 hYl
             go_wp2_with fail
             generalize hW : World.alloc w9 _ = w10
             have j10 : Fr (fun _ => False) w9 w10 := by subst hW; (repeat' (first | (with_reducible exact Fr.refl _ _) | (with_reducible assumption) | (with_reducible refine Fr.alloc ?_ _) | (with_reducible refine Fr.drew ?_) | (with_reducible refine Fr.drewN ?_ _) | (with_reducible refine Fr.setCell ?_ _ _ ?_) | (exact Or.inr rfl) | (left; simp; done) | (left; simp; omega) | (simp; done) | (simp; omega) | omega))
             clear hW y0 y1 y2 hYl hY8 hen
             refine (ahead_at y t w10).mono ?_
             rintro e w11 ⟨rfl, k11⟩
             rw [hat]
             have j11 := j10.trans k11 (fun _ _ h => h)
             have hr11 := hr9.fr j11 (fun h => h) (fun h => h)
             have p11 := p9.fr0 j11
             have b11 := b9.fr j11 (fun h => h)
             have f11 := f9.trans j11 (fun _ _ h => h)
             clear j10 k11 j11 p9 b9 f9 hr9
             go_wp2
             go_roundw
             case rel => exact ⟨_, _, hr11, p11, b11, f11⟩
             case measure => rw [hr11.left_eq, hml]; exact hcnt
        ·as_aux_lemma =>
          have t0 : (q == 0) = false := beq_eq_false_iff_ne.2 q0
          have t1 : (q == 1) = false := beq_eq_false_iff_ne.2 q1
          have t2 : (q == 2) = false := beq_eq_false_iff_ne.2 q2
          have t3 : (q == 3) = false := beq_eq_false_iff_ne.2 q3
          clear q0 q1 q2 q3 x0 x1 x2 x3 hlen
          go_wp2
          all_goals (go_meet; exact ⟨v, L, hh, hok, hf⟩)
    case rest =>
     as_aux_lemma =>
      clear bX hox apX wX HIS hh hok hf
      obtain ⟨v, L, hh, hok, hf⟩ := hcut
      go_wp2_with fail
      refine (row_at2 hh.hp).mono ?_
      rintro e w5 ⟨A1, c1, rfl, hc1, C1, k5, hA1⟩
      have h5 := hh.fr0 k5
      have f5 := hf.trans k5 (fun _ _ h => h)
      have hsm := hh.sm
      have hlen : ∀ ty, (Builtin.len_ #[84] ty #[.map (some ma)]).run Try.prog w5 = .ok (.int .i64 (L.length : Int)) w5 := fun ty => h5.mp.len Try.underlying84 ty
      have HC1 := hid (fun h => C24_open C1 rfl h)
      clear hh hf k5 hA1 C1
      go_wp2_with fail
      go_loopw [180] (fun v180 wr => ∃ k : Nat, k ≤ L.length ∧ v180 = .int .i64 (k : Int) ∧ Fr (fun _ => False) w5 wr) (fun v180 _ => L.length - (intOf v180).toNat)
      case atStart => exact ⟨0, Nat.zero_le _, rfl, Fr.refl _ _⟩
      case round =>
       clear hlen
       obtain ⟨k, hk, rfl, fk⟩ := hrel
       by_cases hkl : k < L.length
       ·obtain ⟨rr, ro, rfl, hrr, hat⟩ := HC1.out (by omega)
        have lk : (k : Int) < (L.length : Int) := by omega
        obtain ⟨c, hc⟩ : ∃ c, c = nth L k := ⟨_, rfl⟩
        have hck : L[k]? = some c := by rw [hc]; exact nth_some hkl
        have hpl : place L c.f0 = some k := by rw [hc]; exact place_is h5.hp.uniq hkl
        have hco : ItOk c := by rw [hc]; exact h5.hp.ok _ (nth_mem hkl)
        have hfx : findX L c.f0 = c := by unfold findX; rw [hpl]; exact hc.symm
        have HLK : Hid ((itF L c.f0).getD (vI ⟨0, 0, 0⟩) = vI c) := hid (by unfold itF; rw [hpl, hc]; rfl)
        have HAT := hid hat
        have HC := hid hc
        obtain ⟨c0, c1', c2⟩ := (hat k c hck).fr fk (fun h => h)
        clear hat hc hck
        go_wp2_with fail
        generalize hW : World.alloc wr _ = w6
        have k6 : Fr (fun _ => False) w5 w6 := by subst hW; exact fk.trans (T := fun _ => False) (by (repeat' (first | (with_reducible exact Fr.refl _ _) | (with_reducible assumption) | (with_reducible refine Fr.alloc ?_ _) | (with_reducible refine Fr.drew ?_) | (with_reducible refine Fr.drewN ?_ _) | (with_reducible refine Fr.setCell ?_ _ _ ?_) | (exact Or.inr rfl) | (left; simp; done) | (left; simp; omega) | (simp; done) | (simp; omega) | omega))) (fun _ _ h => h)
        have bC : Blk w6 wr.heap.size #[.int .u64 c.f0, .int .u64 c.f1, .int .i64 c.f2] 24 := by subst hW; (repeat' (first | (with_reducible assumption) | (with_reducible apply Blk.drew) | (with_reducible apply Blk.drewN) | (with_reducible apply Blk.set) | (with_reducible apply Blk.other) | (exact Blk.new' _ _ _ (by first | rfl | (simp; done) | (simp; omega))) | (with_reducible apply Blk.alloc) | (with_reducible rfl) | (simp; done) | (simp; omega) | omega | rfl))
        obtain ⟨B, hB⟩ : ∃ B, B = wr.heap.size := ⟨_, rfl⟩
        rw [← hB] at bC ⊢
        clear hW hB c0 c1' c2 fk
        refine (find_hp (h5.fr0 k6).hp hco.1).mono ?_
        rintro e w7 ⟨rfl, k7⟩
        rw [hfx, hpl]
        simp only [Option.getD_some, Option.isSome_some]
        have f7 := k6.trans k7 (fun _ _ h => h)
        have bC7 := bC.fr k7 (fun h => h)
        clear k6 k7 bC hfx hpl
        go_upto_region 44 with fail
        generalize hW : World.alloc w7 _ = w8
        have f78 : Fr (fun _ => False) w7 w8 := by subst hW; (repeat' (first | (with_reducible exact Fr.refl _ _) | (with_reducible assumption) | (with_reducible refine Fr.alloc ?_ _) | (with_reducible refine Fr.drew ?_) | (with_reducible refine Fr.drewN ?_ _) | (with_reducible refine Fr.setCell ?_ _ _ ?_) | (exact Or.inr rfl) | (left; simp; done) | (left; simp; omega) | (simp; done) | (simp; omega) | omega))
        have bD : Blk w8 w7.heap.size #[.int .u64 c.f0, .int .u64 c.f1, .int .i64 c.f2] 24 := by subst hW; (repeat' (first | (with_reducible assumption) | (with_reducible apply Blk.drew) | (with_reducible apply Blk.drewN) | (with_reducible apply Blk.set) | (with_reducible apply Blk.other) | (exact Blk.new' _ _ _ (by first | rfl | (simp; done) | (simp; omega))) | (with_reducible apply Blk.alloc) | (with_reducible rfl) | (simp; done) | (simp; omega) | omega | rfl))
        obtain ⟨D, hD⟩ : ∃ D, D = w7.heap.size := ⟨_, rfl⟩
        rw [← hD] at bD ⊢
        have bC8 := bC7.fr f78 (fun h => h)
        have f8 := f7.trans f78 (fun _ _ h => h)
        clear hW hD f7 f78 bC7
        have tc0 : (c.f0 == c.f0) = true := beq_self_eq_true _
        have tc1 : (c.f1 == c.f1) = true := beq_self_eq_true _
        have tc2 : (c.f2 == c.f2) = true := beq_self_eq_true _
        have MK : Hid (∀ W : World, Fr (fun _ => False) w8 W → HoS ma B D c W) := hid (fun W f => HoS.of (bC8.fr f (fun h => h)) (bD.fr f (fun h => h)) (((h5.fr0 f8).fr0 f).look hco.1) HLK.out)
        have HH5 := hid h5
        have HF5 := hid f5
        have HBC := hid bC8
        have HBD := hid bD
        have HF8 := hid f8
        have HHC := hid hc1
        have HL1 := hid hle
        clear h5 f5 bC8 bD f8 hc1 hle
        by_cases hk0 : k = 0
        ·subst hk0
         have msd : Fr (fun _ => False) w8 w8.drew ∧ HoS ma B D c w8.drew := ⟨Fr.drew (Fr.refl _ _), MK.out _ (Fr.drew (Fr.refl _ _))⟩
         unfold HoS at msd
         refine start_ (n := 34) (S := fun w' => Fr (fun _ => False) w8 w' ∧ w'.cell? ⟨B, 0, none⟩ = some (.int .u64 c.f0) ∧ w'.cell? ⟨B, 1, none⟩ = some (.int .u64 c.f1) ∧ w'.cell? ⟨B, 2, none⟩ = some (.int .i64 c.f2) ∧ w'.cell? ⟨D, 0, none⟩ = some (.int .u64 c.f0) ∧ w'.cell? ⟨D, 1, none⟩ = some (.int .u64 c.f1) ∧ w'.cell? ⟨D, 2, none⟩ = some (.int .i64 c.f2) ∧ (Instr.lookup 84 (.map (some ma)) (.int .u64 c.f0) false).run Try.prog w' = .ok (vI c) w') (ds := []) #[oN,oN,oN,oN,oN,oN,oN,oN,oN,oN,oN,oN,oN,oN,oN,oN,oN,oN,oN,oN,oN,oN,oN,oN,oN,oN,oN,oN,oN,oN,oN,oN,oN,oN] (by kernel_rfl) rfl rfl ⟨msd.1, msd.2.1, msd.2.2.1, msd.2.2.2.1, msd.2.2.2.2.1, msd.2.2.2.2.2.1, msd.2.2.2.2.2.2.1, msd.2.2.2.2.2.2.2⟩ (fun hHeld => ?_)
         refine pure_ (i := 0) (N := some 193) (v := ?_) (a' := ?_) #[oY,oN,oN,oN,oN,oN,oN,oN,oN,oN,oN,oN,oN,oN,oN,oN,oN,oN,oN,oN,oN,oN,oN,oN,oN,oN,oN,oN,oN,oN,oN,oN,oN,oN] rfl rfl (by kernel_rfl) (fun _ _ _ h => h) (Or.inl ⟨by rfl, ?_⟩) ?_ ?_
         rotate_left
         ·intro w'
          go_simp
          with_reducible rfl
         rotate_left
         ·simp only [Act.put, List.setIfInBounds_toArray, List.set_cons_zero, List.set_cons_succ, i64_w, i32_w]
          rfl
         refine pure_ (i := 1) (N := some 194) (v := ?_) (a' := ?_) #[oY,oY,oN,oN,oN,oN,oN,oN,oN,oN,oN,oN,oN,oN,oN,oN,oN,oN,oN,oN,oN,oN,oN,oN,oN,oN,oN,oN,oN,oN,oN,oN,oN,oN] rfl rfl (by kernel_rfl) (fun _ _ _ h => h) (Or.inl ⟨by rfl, ?_⟩) ?_ ?_
         rotate_left
         ·intro w'
          go_simp
          with_reducible rfl
         rotate_left
         ·simp only [Act.put, List.setIfInBounds_toArray, List.set_cons_zero, List.set_cons_succ, i64_w, i32_w]
          rfl
         refine pure_ (i := 2) (N := some 195) (v := ?_) (a' := ?_) #[oY,oY,oY,oN,oN,oN,oN,oN,oN,oN,oN,oN,oN,oN,oN,oN,oN,oN,oN,oN,oN,oN,oN,oN,oN,oN,oN,oN,oN,oN,oN,oN,oN,oN] rfl rfl (by kernel_rfl) (fun _ _ _ h => h) (Or.inl ⟨by rfl, ?_⟩) ?_ ?_
         rotate_left
         ·intro w'
          go_simp
          with_reducible rfl
         rotate_left
         ·simp only [Act.put, List.setIfInBounds_toArray, List.set_cons_zero, List.set_cons_succ, i64_w, i32_w]
          rfl
         refine pure_ (i := 3) (N := some 196) (v := undef) (a' := ?_) #[oY,oY,oY,oY,oN,oN,oN,oN,oN,oN,oN,oN,oN,oN,oN,oN,oN,oN,oN,oN,oN,oN,oN,oN,oN,oN,oN,oN,oN,oN,oN,oN,oN,oN] rfl rfl (by kernel_rfl) (fun _ _ _ h => h) (Or.inr ⟨by rfl, rfl⟩) ?_ ?_
         rotate_left
         ·simp only [Act.put, List.setIfInBounds_toArray, List.set_cons_zero, List.set_cons_succ, i64_w, i32_w]
          rfl
         refine pure_ (i := 4) (N := some 197) (v := undef) (a' := ?_) #[oY,oY,oY,oY,oY,oN,oN,oN,oN,oN,oN,oN,oN,oN,oN,oN,oN,oN,oN,oN,oN,oN,oN,oN,oN,oN,oN,oN,oN,oN,oN,oN,oN,oN] rfl rfl (by kernel_rfl) (fun _ _ _ h => h) (Or.inr ⟨by rfl, rfl⟩) ?_ ?_
         rotate_left
         ·simp only [Act.put, List.setIfInBounds_toArray, List.set_cons_zero, List.set_cons_succ, i64_w, i32_w]
          rfl
         refine pure_ (i := 5) (N := some 198) (v := undef) (a' := ?_) #[oY,oY,oY,oY,oY,oY,oN,oN,oN,oN,oN,oN,oN,oN,oN,oN,oN,oN,oN,oN,oN,oN,oN,oN,oN,oN,oN,oN,oN,oN,oN,oN,oN,oN] rfl rfl (by kernel_rfl) (fun _ _ _ h => h) (Or.inr ⟨by rfl, rfl⟩) ?_ ?_
         rotate_left
         ·simp only [Act.put, List.setIfInBounds_toArray, List.set_cons_zero, List.set_cons_succ, i64_w, i32_w]
          rfl
         refine pure_ (i := 6) (N := some 199) (v := undef) (a' := ?_) #[oY,oY,oY,oY,oY,oY,oY,oN,oN,oN,oN,oN,oN,oN,oN,oN,oN,oN,oN,oN,oN,oN,oN,oN,oN,oN,oN,oN,oN,oN,oN,oN,oN,oN] rfl rfl (by kernel_rfl) (fun _ _ _ h => h) (Or.inr ⟨by rfl, rfl⟩) ?_ ?_
         rotate_left
         ·simp only [Act.put, List.setIfInBounds_toArray, List.set_cons_zero, List.set_cons_succ, i64_w, i32_w]
          rfl
         refine pure_ (i := 7) (N := some 200) (v := undef) (a' := ?_) #[oY,oY,oY,oY,oY,oY,oY,oY,oN,oN,oN,oN,oN,oN,oN,oN,oN,oN,oN,oN,oN,oN,oN,oN,oN,oN,oN,oN,oN,oN,oN,oN,oN,oN] rfl rfl (by kernel_rfl) (fun _ _ _ h => h) (Or.inr ⟨by rfl, rfl⟩) ?_ ?_
         rotate_left
         ·simp only [Act.put, List.setIfInBounds_toArray, List.set_cons_zero, List.set_cons_succ, i64_w, i32_w]
          rfl
         refine pure_ (i := 8) (N := some 201) (v := undef) (a' := ?_) #[oY,oY,oY,oY,oY,oY,oY,oY,oY,oN,oN,oN,oN,oN,oN,oN,oN,oN,oN,oN,oN,oN,oN,oN,oN,oN,oN,oN,oN,oN,oN,oN,oN,oN] rfl rfl (by kernel_rfl) (fun _ _ _ h => h) (Or.inr ⟨by rfl, rfl⟩) ?_ ?_
         rotate_left
         ·simp only [Act.put, List.setIfInBounds_toArray, List.set_cons_zero, List.set_cons_succ, i64_w, i32_w]
          rfl
         refine pure_ (i := 9) (N := some 202) (v := undef) (a' := ?_) #[oY,oY,oY,oY,oY,oY,oY,oY,oY,oY,oN,oN,oN,oN,oN,oN,oN,oN,oN,oN,oN,oN,oN,oN,oN,oN,oN,oN,oN,oN,oN,oN,oN,oN] rfl rfl (by kernel_rfl) (fun _ _ _ h => h) (Or.inr ⟨by rfl, rfl⟩) ?_ ?_
         rotate_left
         ·simp only [Act.put, List.setIfInBounds_toArray, List.set_cons_zero, List.set_cons_succ, i64_w, i32_w]
          rfl
         refine pure_ (i := 10) (N := some 203) (v := undef) (a' := ?_) #[oY,oY,oY,oY,oY,oY,oY,oY,oY,oY,oY,oN,oN,oN,oN,oN,oN,oN,oN,oN,oN,oN,oN,oN,oN,oN,oN,oN,oN,oN,oN,oN,oN,oN] rfl rfl (by kernel_rfl) (fun _ _ _ h => h) (Or.inr ⟨by rfl, rfl⟩) ?_ ?_
         rotate_left
         ·simp only [Act.put, List.setIfInBounds_toArray, List.set_cons_zero, List.set_cons_succ, i64_w, i32_w]
          rfl
         refine pure_ (i := 11) (N := some 204) (v := ?_) (a' := ?_) #[oY,oY,oY,oY,oY,oY,oY,oY,oY,oY,oY,oY,oN,oN,oN,oN,oN,oN,oN,oN,oN,oN,oN,oN,oN,oN,oN,oN,oN,oN,oN,oN,oN,oN] rfl rfl (by kernel_rfl) (fun _ _ _ h => h) (Or.inl ⟨by rfl, ?_⟩) ?_ ?_
         rotate_left
         ·intro w'
          go_simp
          with_reducible rfl
         rotate_left
         ·simp only [Act.put, List.setIfInBounds_toArray, List.set_cons_zero, List.set_cons_succ, i64_w, i32_w]
          rfl
         refine pure_ (i := 12) (N := some 205) (v := ?_) (a' := ?_) #[oY,oY,oY,oY,oY,oY,oY,oY,oY,oY,oY,oY,oY,oN,oN,oN,oN,oN,oN,oN,oN,oN,oN,oN,oN,oN,oN,oN,oN,oN,oN,oN,oN,oN] rfl rfl (by kernel_rfl) (fun _ _ _ h => h) (Or.inl ⟨by rfl, ?_⟩) ?_ ?_
         rotate_left
         ·intro w'
          go_simp
          with_reducible rfl
         rotate_left
         ·simp only [Act.put, List.setIfInBounds_toArray, List.set_cons_zero, List.set_cons_succ, i64_w, i32_w]
          rfl
         refine pure_ (i := 14) (N := some 207) (v := ?_) (a' := ?_) #[oY,oY,oY,oY,oY,oY,oY,oY,oY,oY,oY,oY,oY,oN,oY,oN,oN,oN,oN,oN,oN,oN,oN,oN,oN,oN,oN,oN,oN,oN,oN,oN,oN,oN] rfl rfl (by kernel_rfl) (fun _ _ _ h => h) (Or.inl ⟨by rfl, ?_⟩) ?_ ?_
         rotate_left
         ·intro w'
          go_simp
          with_reducible rfl
         rotate_left
         ·simp only [Act.put, List.setIfInBounds_toArray, List.set_cons_zero, List.set_cons_succ, i64_w, i32_w]
          rfl
         refine pure_ (i := 15) (N := some 208) (v := ?_) (a' := ?_) #[oY,oY,oY,oY,oY,oY,oY,oY,oY,oY,oY,oY,oY,oN,oY,oY,oN,oN,oN,oN,oN,oN,oN,oN,oN,oN,oN,oN,oN,oN,oN,oN,oN,oN] rfl rfl (by kernel_rfl) (fun _ _ _ h => h) (Or.inl ⟨by rfl, ?_⟩) ?_ ?_
         rotate_left
         ·intro w'
          go_simp
          with_reducible rfl
         rotate_left
         ·simp only [Act.put, List.setIfInBounds_toArray, List.set_cons_zero, List.set_cons_succ, i64_w, i32_w]
          rfl
         refine take_ (i := 13) (N := some 206) (v := ?_) (a' := ?_) #[oY,oY,oY,oY,oY,oY,oY,oY,oY,oY,oY,oY,oY,oY,oY,oY,oN,oN,oN,oN,oN,oN,oN,oN,oN,oN,oN,oN,oN,oN,oN,oN,oN,oN] rfl rfl (by kernel_rfl) (fun _ _ _ h => h) (Or.inl ⟨by rfl, ?_⟩) hHeld ?_ ?_
         rotate_left
         ·rintro w' ⟨s0, s1, s2, s3, s4, s5, s6, s7⟩
          go_simp
          with_reducible rfl
         rotate_left
         ·simp only [Act.put, List.setIfInBounds_toArray, List.set_cons_zero, List.set_cons_succ, i64_w, i32_w]
          rfl
         refine take_ (i := 16) (N := some 209) (v := ?_) (a' := ?_) #[oY,oY,oY,oY,oY,oY,oY,oY,oY,oY,oY,oY,oY,oY,oY,oY,oY,oN,oN,oN,oN,oN,oN,oN,oN,oN,oN,oN,oN,oN,oN,oN,oN,oN] rfl rfl (by kernel_rfl) (fun _ _ _ h => h) (Or.inl ⟨by rfl, ?_⟩) hHeld ?_ ?_
         rotate_left
         ·rintro w' ⟨s0, s1, s2, s3, s4, s5, s6, s7⟩
          go_simp
          with_reducible rfl
         rotate_left
         ·simp only [Act.put, List.setIfInBounds_toArray, List.set_cons_zero, List.set_cons_succ, i64_w, i32_w]
          rfl
         refine take_ (i := 17) (N := some 210) (v := ?_) (a' := ?_) #[oY,oY,oY,oY,oY,oY,oY,oY,oY,oY,oY,oY,oY,oY,oY,oY,oY,oY,oN,oN,oN,oN,oN,oN,oN,oN,oN,oN,oN,oN,oN,oN,oN,oN] rfl rfl (by kernel_rfl) (fun _ _ _ h => h) (Or.inl ⟨by rfl, ?_⟩) hHeld ?_ ?_
         rotate_left
         ·rintro w' ⟨s0, s1, s2, s3, s4, s5, s6, s7⟩
          go_simp
          with_reducible rfl
         rotate_left
         ·simp only [Act.put, List.setIfInBounds_toArray, List.set_cons_zero, List.set_cons_succ, i64_w, i32_w]
          rfl
         refine pure_ (i := 18) (N := some 211) (v := ?_) (a' := ?_) #[oY,oY,oY,oY,oY,oY,oY,oY,oY,oY,oY,oY,oY,oY,oY,oY,oY,oY,oY,oN,oN,oN,oN,oN,oN,oN,oN,oN,oN,oN,oN,oN,oN,oN] rfl rfl (by kernel_rfl) (fun _ _ _ h => h) (Or.inl ⟨by rfl, ?_⟩) ?_ ?_
         rotate_left
         ·intro w'
          go_simp
          with_reducible rfl
         rotate_left
         ·simp only [Act.put, List.setIfInBounds_toArray, List.set_cons_zero, List.set_cons_succ, i64_w, i32_w]
          rfl
         refine pure_ (i := 19) (N := some 212) (v := ?_) (a' := ?_) #[oY,oY,oY,oY,oY,oY,oY,oY,oY,oY,oY,oY,oY,oY,oY,oY,oY,oY,oY,oY,oN,oN,oN,oN,oN,oN,oN,oN,oN,oN,oN,oN,oN,oN] rfl rfl (by kernel_rfl) (fun _ _ _ h => h) (Or.inl ⟨by rfl, ?_⟩) ?_ ?_
         rotate_left
         ·intro w'
          go_simp
          with_reducible rfl
         rotate_left
         ·simp only [Act.put, List.setIfInBounds_toArray, List.set_cons_zero, List.set_cons_succ, i64_w, i32_w]
          rfl
         refine pure_ (i := 20) (N := some 213) (v := ?_) (a' := ?_) #[oY,oY,oY,oY,oY,oY,oY,oY,oY,oY,oY,oY,oY,oY,oY,oY,oY,oY,oY,oY,oY,oN,oN,oN,oN,oN,oN,oN,oN,oN,oN,oN,oN,oN] rfl rfl (by kernel_rfl) (fun _ _ _ h => h) (Or.inl ⟨by rfl, ?_⟩) ?_ ?_
         rotate_left
         ·intro w'
          go_simp
          with_reducible rfl
         rotate_left
         ·simp only [Act.put, List.setIfInBounds_toArray, List.set_cons_zero, List.set_cons_succ, i64_w, i32_w]
          rfl
         refine pure_ (i := 21) (N := some 214) (v := ?_) (a' := ?_) #[oY,oY,oY,oY,oY,oY,oY,oY,oY,oY,oY,oY,oY,oY,oY,oY,oY,oY,oY,oY,oY,oY,oN,oN,oN,oN,oN,oN,oN,oN,oN,oN,oN,oN] rfl rfl (by kernel_rfl) (fun _ _ _ h => h) (Or.inl ⟨by rfl, ?_⟩) ?_ ?_
         rotate_left
         ·intro w'
          go_simp
          with_reducible rfl
         rotate_left
         ·simp only [Act.put, List.setIfInBounds_toArray, List.set_cons_zero, List.set_cons_succ, i64_w, i32_w]
          rfl
         refine pure_ (i := 22) (N := some 215) (v := ?_) (a' := ?_) #[oY,oY,oY,oY,oY,oY,oY,oY,oY,oY,oY,oY,oY,oY,oY,oY,oY,oY,oY,oY,oY,oY,oY,oN,oN,oN,oN,oN,oN,oN,oN,oN,oN,oN] rfl rfl (by kernel_rfl) (fun _ _ _ h => h) (Or.inl ⟨by rfl, ?_⟩) ?_ ?_
         rotate_left
         ·intro w'
          go_simp
          with_reducible rfl
         rotate_left
         ·simp only [Act.put, List.setIfInBounds_toArray, List.set_cons_zero, List.set_cons_succ, i64_w, i32_w]
          rfl
         refine pure_ (i := 23) (N := some 216) (v := ?_) (a' := ?_) #[oY,oY,oY,oY,oY,oY,oY,oY,oY,oY,oY,oY,oY,oY,oY,oY,oY,oY,oY,oY,oY,oY,oY,oY,oN,oN,oN,oN,oN,oN,oN,oN,oN,oN] rfl rfl (by kernel_rfl) (fun _ _ _ h => h) (Or.inl ⟨by rfl, ?_⟩) ?_ ?_
         rotate_left
         ·intro w'
          go_simp
          with_reducible rfl
         rotate_left
         ·simp only [Act.put, List.setIfInBounds_toArray, List.set_cons_zero, List.set_cons_succ, i64_w, i32_w]
          rfl
         refine pure_ (i := 24) (N := some 217) (v := ?_) (a' := ?_) #[oY,oY,oY,oY,oY,oY,oY,oY,oY,oY,oY,oY,oY,oY,oY,oY,oY,oY,oY,oY,oY,oY,oY,oY,oY,oN,oN,oN,oN,oN,oN,oN,oN,oN] rfl rfl (by kernel_rfl) (fun _ _ _ h => h) (Or.inl ⟨by rfl, ?_⟩) ?_ ?_
         rotate_left
         ·intro w'
          go_simp
          with_reducible rfl
         rotate_left
         ·simp only [Act.put, List.setIfInBounds_toArray, List.set_cons_zero, List.set_cons_succ, i64_w, i32_w]
          rfl
         refine pure_ (i := 25) (N := some 218) (v := ?_) (a' := ?_) #[oY,oY,oY,oY,oY,oY,oY,oY,oY,oY,oY,oY,oY,oY,oY,oY,oY,oY,oY,oY,oY,oY,oY,oY,oY,oY,oN,oN,oN,oN,oN,oN,oN,oN] rfl rfl (by kernel_rfl) (fun _ _ _ h => h) (Or.inl ⟨by rfl, ?_⟩) ?_ ?_
         rotate_left
         ·intro w'
          go_simp
          with_reducible rfl
         rotate_left
         ·simp only [Act.put, List.setIfInBounds_toArray, List.set_cons_zero, List.set_cons_succ, i64_w, i32_w]
          rfl
         refine pure_ (i := 26) (N := some 219) (v := ?_) (a' := ?_) #[oY,oY,oY,oY,oY,oY,oY,oY,oY,oY,oY,oY,oY,oY,oY,oY,oY,oY,oY,oY,oY,oY,oY,oY,oY,oY,oY,oN,oN,oN,oN,oN,oN,oN] rfl rfl (by kernel_rfl) (fun _ _ _ h => h) (Or.inl ⟨by rfl, ?_⟩) ?_ ?_
         rotate_left
         ·intro w'
          go_simp
          with_reducible rfl
         rotate_left
         ·simp only [Act.put, List.setIfInBounds_toArray, List.set_cons_zero, List.set_cons_succ, i64_w, i32_w]
          rfl
         refine pure_ (i := 27) (N := some 220) (v := ?_) (a' := ?_) #[oY,oY,oY,oY,oY,oY,oY,oY,oY,oY,oY,oY,oY,oY,oY,oY,oY,oY,oY,oY,oY,oY,oY,oY,oY,oY,oY,oY,oN,oN,oN,oN,oN,oN] rfl rfl (by kernel_rfl) (fun _ _ _ h => h) (Or.inl ⟨by rfl, ?_⟩) ?_ ?_
         rotate_left
         ·intro w'
          go_simp
          with_reducible rfl
         rotate_left
         ·simp only [Act.put, List.setIfInBounds_toArray, List.set_cons_zero, List.set_cons_succ, i64_w, i32_w]
          rfl
         refine pure_ (i := 28) (N := some 221) (v := ?_) (a' := ?_) #[oY,oY,oY,oY,oY,oY,oY,oY,oY,oY,oY,oY,oY,oY,oY,oY,oY,oY,oY,oY,oY,oY,oY,oY,oY,oY,oY,oY,oY,oN,oN,oN,oN,oN] rfl rfl (by kernel_rfl) (fun _ _ _ h => h) (Or.inl ⟨by rfl, ?_⟩) ?_ ?_
         rotate_left
         ·intro w'
          go_simp
          with_reducible rfl
         rotate_left
         ·simp only [Act.put, List.setIfInBounds_toArray, List.set_cons_zero, List.set_cons_succ, i64_w, i32_w]
          rfl
         refine pure_ (i := 29) (N := some 222) (v := ?_) (a' := ?_) #[oY,oY,oY,oY,oY,oY,oY,oY,oY,oY,oY,oY,oY,oY,oY,oY,oY,oY,oY,oY,oY,oY,oY,oY,oY,oY,oY,oY,oY,oY,oN,oN,oN,oN] rfl rfl (by kernel_rfl) (fun _ _ _ h => h) (Or.inl ⟨by rfl, ?_⟩) ?_ ?_
         rotate_left
         ·intro w'
          go_simp
          with_reducible rfl
         rotate_left
         ·simp only [Act.put, List.setIfInBounds_toArray, List.set_cons_zero, List.set_cons_succ, i64_w, i32_w]
          rfl
         refine take_ (i := 30) (N := some 223) (v := ?_) (a' := ?_) #[oY,oY,oY,oY,oY,oY,oY,oY,oY,oY,oY,oY,oY,oY,oY,oY,oY,oY,oY,oY,oY,oY,oY,oY,oY,oY,oY,oY,oY,oY,oY,oN,oN,oN] rfl rfl (by kernel_rfl) (fun _ _ _ h => h) (Or.inl ⟨by rfl, ?_⟩) hHeld ?_ ?_
         rotate_left
         ·rintro w' ⟨s0, s1, s2, s3, s4, s5, s6, s7⟩
          go_simp
          with_reducible rfl
         rotate_left
         ·simp only [Act.put, List.setIfInBounds_toArray, List.set_cons_zero, List.set_cons_succ, i64_w, i32_w]
          rfl
         refine take_ (i := 31) (N := some 224) (v := ?_) (a' := ?_) #[oY,oY,oY,oY,oY,oY,oY,oY,oY,oY,oY,oY,oY,oY,oY,oY,oY,oY,oY,oY,oY,oY,oY,oY,oY,oY,oY,oY,oY,oY,oY,oY,oN,oN] rfl rfl (by kernel_rfl) (fun _ _ _ h => h) (Or.inl ⟨by rfl, ?_⟩) hHeld ?_ ?_
         rotate_left
         ·rintro w' ⟨s0, s1, s2, s3, s4, s5, s6, s7⟩
          go_simp
          with_reducible rfl
         rotate_left
         ·simp only [Act.put, List.setIfInBounds_toArray, List.set_cons_zero, List.set_cons_succ, i64_w, i32_w]
          rfl
         refine pure_ (i := 32) (N := some 225) (v := ?_) (a' := ?_) #[oY,oY,oY,oY,oY,oY,oY,oY,oY,oY,oY,oY,oY,oY,oY,oY,oY,oY,oY,oY,oY,oY,oY,oY,oY,oY,oY,oY,oY,oY,oY,oY,oY,oN] rfl rfl (by kernel_rfl) (fun _ _ _ h => h) (Or.inl ⟨by rfl, ?_⟩) ?_ ?_
         rotate_left
         ·intro w'
          go_simp
          with_reducible rfl
         rotate_left
         ·simp only [Act.put, List.setIfInBounds_toArray, List.set_cons_zero, List.set_cons_succ, i64_w, i32_w]
          rfl
         refine pure_ (i := 33) (N := some 226) (v := ?_) (a' := ?_) #[oY,oY,oY,oY,oY,oY,oY,oY,oY,oY,oY,oY,oY,oY,oY,oY,oY,oY,oY,oY,oY,oY,oY,oY,oY,oY,oY,oY,oY,oY,oY,oY,oY,oY] rfl rfl (by kernel_rfl) (fun _ _ _ h => h) (Or.inl ⟨by rfl, ?_⟩) ?_ ?_
         rotate_left
         ·intro w'
          go_simp
          with_reducible rfl
         rotate_left
         ·simp only [Act.put, List.setIfInBounds_toArray, List.set_cons_zero, List.set_cons_succ, i64_w, i32_w]
          rfl
         refine done_ (by kernel_rfl) ?_
         have f9 := HF8.out.trans hHeld.1 (fun _ _ h => h)
         clear hHeld msd MK
         go_wp2
         go_roundw
         case rel => exact ⟨1, by omega, by go_num, f9⟩
         case measure => simp [intOf]; omega
        ·obtain ⟨k1, rfl⟩ : ∃ k1, k = k1 + 1 := ⟨k - 1, by omega⟩
         obtain ⟨p, hp⟩ : ∃ p, p = k1 / 4 := ⟨_, rfl⟩
         obtain ⟨d, hd⟩ : ∃ d, d = nth L p := ⟨_, rfl⟩
         have hdp : L[p]? = some d := by rw [hd]; exact nth_some (by clear HAT HC HLK; omega)
         have hah : ahead c d = false := by rw [HC.out, hd]; have := ok_ahead hok.out (k := k1 + 1) (by omega) hkl; rw [show (k1 + 1 - 1) / 4 = p by omega] at this; exact this
         have HAH := hid (fun W => ahead_at c d W)
         rw [hah] at HAH
         have MD : Hid (∀ W : World, Fr (fun _ => False) w8 W → At3 W rr (ro + p * 3) d) := hid (fun W f => (HAT.out p d hdp).fr (HF8.out.trans f (fun _ _ h => h)) (fun h => h))
         have msd : Fr (fun _ => False) w8 w8.drew ∧ HoT rr (ro + p * 3) d ma B D c w8.drew := ⟨Fr.drew (Fr.refl _ _), HoT.of (MD.out _ (Fr.drew (Fr.refl _ _))) (MK.out _ (Fr.drew (Fr.refl _ _)))⟩
         have PN := parentN hp hkl hsm
         clear hd hdp hah hp
         obtain ⟨lkp, lk0, w1, w1', w2, w3, w4, w4', pos1, w5a⟩ := PN
         unfold HoT HoS at msd
         refine start_ (n := 34) (S := fun w' => Fr (fun _ => False) w8 w' ∧ w'.cell? ⟨rr, ro + p * 3, none⟩ = some (.int .u64 d.f0) ∧ w'.cell? ⟨rr, ro + p * 3 + 1, none⟩ = some (.int .u64 d.f1) ∧ w'.cell? ⟨rr, ro + p * 3 + 2, none⟩ = some (.int .i64 d.f2) ∧ w'.cell? ⟨B, 0, none⟩ = some (.int .u64 c.f0) ∧ w'.cell? ⟨B, 1, none⟩ = some (.int .u64 c.f1) ∧ w'.cell? ⟨B, 2, none⟩ = some (.int .i64 c.f2) ∧ w'.cell? ⟨D, 0, none⟩ = some (.int .u64 c.f0) ∧ w'.cell? ⟨D, 1, none⟩ = some (.int .u64 c.f1) ∧ w'.cell? ⟨D, 2, none⟩ = some (.int .i64 c.f2) ∧ (Instr.lookup 84 (.map (some ma)) (.int .u64 c.f0) false).run Try.prog w' = .ok (vI c) w') (ds := []) #[oN,oN,oN,oN,oN,oN,oN,oN,oN,oN,oN,oN,oN,oN,oN,oN,oN,oN,oN,oN,oN,oN,oN,oN,oN,oN,oN,oN,oN,oN,oN,oN,oN,oN] (by kernel_rfl) rfl rfl ⟨msd.1, msd.2.1, msd.2.2.1, msd.2.2.2.1, msd.2.2.2.2.1, msd.2.2.2.2.2.1, msd.2.2.2.2.2.2.1, msd.2.2.2.2.2.2.2.1, msd.2.2.2.2.2.2.2.2.1, msd.2.2.2.2.2.2.2.2.2.1, msd.2.2.2.2.2.2.2.2.2.2⟩ (fun hHeld => ?_)
         refine pure_ (i := 0) (N := some 193) (v := ?_) (a' := ?_) #[oY,oN,oN,oN,oN,oN,oN,oN,oN,oN,oN,oN,oN,oN,oN,oN,oN,oN,oN,oN,oN,oN,oN,oN,oN,oN,oN,oN,oN,oN,oN,oN,oN,oN] rfl rfl (by kernel_rfl) (fun _ _ _ h => h) (Or.inl ⟨by rfl, ?_⟩) ?_ ?_
         rotate_left
         ·intro w'
          go_simp
          with_reducible rfl
         rotate_left
         ·simp only [Act.put, List.setIfInBounds_toArray, List.set_cons_zero, List.set_cons_succ, i64_w, i32_w]
          rfl
         refine pure_ (i := 1) (N := some 194) (v := ?_) (a' := ?_) #[oY,oY,oN,oN,oN,oN,oN,oN,oN,oN,oN,oN,oN,oN,oN,oN,oN,oN,oN,oN,oN,oN,oN,oN,oN,oN,oN,oN,oN,oN,oN,oN,oN,oN] rfl rfl (by kernel_rfl) (fun _ _ _ h => h) (Or.inl ⟨by rfl, ?_⟩) ?_ ?_
         rotate_left
         ·intro w'
          go_simp
          with_reducible rfl
         rotate_left
         ·simp only [Act.put, List.setIfInBounds_toArray, List.set_cons_zero, List.set_cons_succ, i64_w, i32_w]
          rfl
         refine pure_ (i := 2) (N := some 195) (v := ?_) (a' := ?_) #[oY,oY,oY,oN,oN,oN,oN,oN,oN,oN,oN,oN,oN,oN,oN,oN,oN,oN,oN,oN,oN,oN,oN,oN,oN,oN,oN,oN,oN,oN,oN,oN,oN,oN] rfl rfl (by kernel_rfl) (fun _ _ _ h => h) (Or.inl ⟨by rfl, ?_⟩) ?_ ?_
         rotate_left
         ·intro w'
          go_simp
          with_reducible rfl
         rotate_left
         ·simp only [Act.put, List.setIfInBounds_toArray, List.set_cons_zero, List.set_cons_succ, i64_w, i32_w]
          rfl
         refine pure_ (i := 4) (N := some 197) (v := ?_) (a' := ?_) #[oY,oY,oY,oN,oY,oN,oN,oN,oN,oN,oN,oN,oN,oN,oN,oN,oN,oN,oN,oN,oN,oN,oN,oN,oN,oN,oN,oN,oN,oN,oN,oN,oN,oN] rfl rfl (by kernel_rfl) (fun _ _ _ h => h) (Or.inl ⟨by rfl, ?_⟩) ?_ ?_
         rotate_left
         ·intro w'
          go_simp
          with_reducible rfl
         rotate_left
         ·simp only [Act.put, List.setIfInBounds_toArray, List.set_cons_zero, List.set_cons_succ, i64_w, i32_w]
          rfl
         refine pure_ (i := 5) (N := some 198) (v := ?_) (a' := ?_) #[oY,oY,oY,oN,oY,oY,oN,oN,oN,oN,oN,oN,oN,oN,oN,oN,oN,oN,oN,oN,oN,oN,oN,oN,oN,oN,oN,oN,oN,oN,oN,oN,oN,oN] rfl rfl (by kernel_rfl) (fun _ _ _ h => h) (Or.inl ⟨by rfl, ?_⟩) ?_ ?_
         rotate_left
         ·intro w'
          go_simp
          with_reducible rfl
         rotate_left
         ·simp only [Act.put, List.setIfInBounds_toArray, List.set_cons_zero, List.set_cons_succ, i64_w, i32_w]
          rfl
         refine pure_ (i := 6) (N := some 199) (v := ?_) (a' := ?_) #[oY,oY,oY,oN,oY,oY,oY,oN,oN,oN,oN,oN,oN,oN,oN,oN,oN,oN,oN,oN,oN,oN,oN,oN,oN,oN,oN,oN,oN,oN,oN,oN,oN,oN] rfl rfl (by kernel_rfl) (fun _ _ _ h => h) (Or.inl ⟨by rfl, ?_⟩) ?_ ?_
         rotate_left
         ·intro w'
          go_simp
          with_reducible rfl
         rotate_left
         ·simp only [Act.put, List.setIfInBounds_toArray, List.set_cons_zero, List.set_cons_succ, i64_w, i32_w]
          rfl
         refine pure_ (i := 7) (N := some 200) (v := ?_) (a' := ?_) #[oY,oY,oY,oN,oY,oY,oY,oY,oN,oN,oN,oN,oN,oN,oN,oN,oN,oN,oN,oN,oN,oN,oN,oN,oN,oN,oN,oN,oN,oN,oN,oN,oN,oN] rfl rfl (by kernel_rfl) (fun _ _ _ h => h) (Or.inl ⟨by rfl, ?_⟩) ?_ ?_
         rotate_left
         ·intro w'
          go_simp
          with_reducible rfl
         rotate_left
         ·simp only [Act.put, List.setIfInBounds_toArray, List.set_cons_zero, List.set_cons_succ, i64_w, i32_w]
          rfl
         refine pure_ (i := 8) (N := some 201) (v := ?_) (a' := ?_) #[oY,oY,oY,oN,oY,oY,oY,oY,oY,oN,oN,oN,oN,oN,oN,oN,oN,oN,oN,oN,oN,oN,oN,oN,oN,oN,oN,oN,oN,oN,oN,oN,oN,oN] rfl rfl (by kernel_rfl) (fun _ _ _ h => h) (Or.inl ⟨by rfl, ?_⟩) ?_ ?_
         rotate_left
         ·intro w'
          go_simp
          with_reducible rfl
         rotate_left
         ·simp only [Act.put, List.setIfInBounds_toArray, List.set_cons_zero, List.set_cons_succ, i64_w, i32_w]
          rfl
         refine take_ (i := 3) (N := some 196) (v := ?_) (a' := ?_) #[oY,oY,oY,oY,oY,oY,oY,oY,oY,oN,oN,oN,oN,oN,oN,oN,oN,oN,oN,oN,oN,oN,oN,oN,oN,oN,oN,oN,oN,oN,oN,oN,oN,oN] rfl rfl (by kernel_rfl) (fun _ _ _ h => h) (Or.inl ⟨by rfl, ?_⟩) hHeld ?_ ?_
         rotate_left
         ·rintro w' ⟨s0, s1, s2, s3, s4, s5, s6, s7, s8, s9, s10⟩
          go_simp
          with_reducible rfl
         rotate_left
         ·simp only [Act.put, List.setIfInBounds_toArray, List.set_cons_zero, List.set_cons_succ, i64_w, i32_w]
          rfl
         refine take_ (i := 9) (N := some 202) (v := ?_) (a' := ?_) #[oY,oY,oY,oY,oY,oY,oY,oY,oY,oY,oN,oN,oN,oN,oN,oN,oN,oN,oN,oN,oN,oN,oN,oN,oN,oN,oN,oN,oN,oN,oN,oN,oN,oN] rfl rfl (by kernel_rfl) (fun _ _ _ h => h) (Or.inl ⟨by rfl, ?_⟩) hHeld ?_ ?_
         rotate_left
         ·rintro w' ⟨s0, s1, s2, s3, s4, s5, s6, s7, s8, s9, s10⟩
          go_simp
          with_reducible rfl
         rotate_left
         ·simp only [Act.put, List.setIfInBounds_toArray, List.set_cons_zero, List.set_cons_succ, i64_w, i32_w]
          rfl
         refine one_ (i := 10) (N := some 203) #[oY,oY,oY,oY,oY,oY,oY,oY,oY,oY,oY,oN,oN,oN,oN,oN,oN,oN,oN,oN,oN,oN,oN,oN,oN,oN,oN,oN,oN,oN,oN,oN,oN,oN] rfl rfl (by kernel_rfl) (by decide) (fun K hK => ?_)
         refine goes_ Try.func12 (by kernel_rfl) rfl #[vI c, vI d] (by rfl) rfl rfl (by simp only [List.map_toArray, List.map_cons, List.map_nil]; rfl) ?_
         refine (HAH.out _).mono ?_
         rintro e w9 ⟨rfl, k9⟩
         refine ⟨_, rfl, ?_⟩
         have g9 := msd.1.trans k9 (fun _ _ h => h)
         have ms9 : Fr (fun _ => False) w8 w9 ∧ HoT rr (ro + p * 3) d ma B D c w9 := ⟨g9, HoT.of (MD.out _ g9) (MK.out _ g9)⟩
         unfold HoT HoS at ms9
         refine hK.out _ _ ⟨ms9.1, ms9.2.1, ms9.2.2.1, ms9.2.2.2.1, ms9.2.2.2.2.1, ms9.2.2.2.2.2.1, ms9.2.2.2.2.2.2.1, ms9.2.2.2.2.2.2.2.1, ms9.2.2.2.2.2.2.2.2.1, ms9.2.2.2.2.2.2.2.2.2.1, ms9.2.2.2.2.2.2.2.2.2.2⟩ (fun hHeld => ?_)
         clear hK K
         refine norm_ (a' := ?_) ?_ ?_
         rotate_left
         ·show Act.put _ (some 203) _ = _
          simp only [Act.put, List.setIfInBounds_toArray, List.set_cons_zero, List.set_cons_succ, i64_w, i32_w]
          rfl
         refine pure_ (i := 11) (N := some 204) (v := ?_) (a' := ?_) #[oY,oY,oY,oY,oY,oY,oY,oY,oY,oY,oY,oY,oN,oN,oN,oN,oN,oN,oN,oN,oN,oN,oN,oN,oN,oN,oN,oN,oN,oN,oN,oN,oN,oN] rfl rfl (by kernel_rfl) (fun _ _ _ h => h) (Or.inl ⟨by rfl, ?_⟩) ?_ ?_
         rotate_left
         ·intro w'
          go_simp
          with_reducible rfl
         rotate_left
         ·simp only [Act.put, List.setIfInBounds_toArray, List.set_cons_zero, List.set_cons_succ, i64_w, i32_w]
          rfl
         refine pure_ (i := 12) (N := some 205) (v := ?_) (a' := ?_) #[oY,oY,oY,oY,oY,oY,oY,oY,oY,oY,oY,oY,oY,oN,oN,oN,oN,oN,oN,oN,oN,oN,oN,oN,oN,oN,oN,oN,oN,oN,oN,oN,oN,oN] rfl rfl (by kernel_rfl) (fun _ _ _ h => h) (Or.inl ⟨by rfl, ?_⟩) ?_ ?_
         rotate_left
         ·intro w'
          go_simp
          with_reducible rfl
         rotate_left
         ·simp only [Act.put, List.setIfInBounds_toArray, List.set_cons_zero, List.set_cons_succ, i64_w, i32_w]
          rfl
         refine pure_ (i := 14) (N := some 207) (v := ?_) (a' := ?_) #[oY,oY,oY,oY,oY,oY,oY,oY,oY,oY,oY,oY,oY,oN,oY,oN,oN,oN,oN,oN,oN,oN,oN,oN,oN,oN,oN,oN,oN,oN,oN,oN,oN,oN] rfl rfl (by kernel_rfl) (fun _ _ _ h => h) (Or.inl ⟨by rfl, ?_⟩) ?_ ?_
         rotate_left
         ·intro w'
          go_simp
          with_reducible rfl
         rotate_left
         ·simp only [Act.put, List.setIfInBounds_toArray, List.set_cons_zero, List.set_cons_succ, i64_w, i32_w]
          rfl
         refine pure_ (i := 15) (N := some 208) (v := ?_) (a' := ?_) #[oY,oY,oY,oY,oY,oY,oY,oY,oY,oY,oY,oY,oY,oN,oY,oY,oN,oN,oN,oN,oN,oN,oN,oN,oN,oN,oN,oN,oN,oN,oN,oN,oN,oN] rfl rfl (by kernel_rfl) (fun _ _ _ h => h) (Or.inl ⟨by rfl, ?_⟩) ?_ ?_
         rotate_left
         ·intro w'
          go_simp
          with_reducible rfl
         rotate_left
         ·simp only [Act.put, List.setIfInBounds_toArray, List.set_cons_zero, List.set_cons_succ, i64_w, i32_w]
          rfl
         refine take_ (i := 13) (N := some 206) (v := ?_) (a' := ?_) #[oY,oY,oY,oY,oY,oY,oY,oY,oY,oY,oY,oY,oY,oY,oY,oY,oN,oN,oN,oN,oN,oN,oN,oN,oN,oN,oN,oN,oN,oN,oN,oN,oN,oN] rfl rfl (by kernel_rfl) (fun _ _ _ h => h) (Or.inl ⟨by rfl, ?_⟩) hHeld ?_ ?_
         rotate_left
         ·rintro w' ⟨s0, s1, s2, s3, s4, s5, s6, s7, s8, s9, s10⟩
          go_simp
          with_reducible rfl
         rotate_left
         ·simp only [Act.put, List.setIfInBounds_toArray, List.set_cons_zero, List.set_cons_succ, i64_w, i32_w]
          rfl
         refine take_ (i := 16) (N := some 209) (v := ?_) (a' := ?_) #[oY,oY,oY,oY,oY,oY,oY,oY,oY,oY,oY,oY,oY,oY,oY,oY,oY,oN,oN,oN,oN,oN,oN,oN,oN,oN,oN,oN,oN,oN,oN,oN,oN,oN] rfl rfl (by kernel_rfl) (fun _ _ _ h => h) (Or.inl ⟨by rfl, ?_⟩) hHeld ?_ ?_
         rotate_left
         ·rintro w' ⟨s0, s1, s2, s3, s4, s5, s6, s7, s8, s9, s10⟩
          go_simp
          with_reducible rfl
         rotate_left
         ·simp only [Act.put, List.setIfInBounds_toArray, List.set_cons_zero, List.set_cons_succ, i64_w, i32_w]
          rfl
         refine take_ (i := 17) (N := some 210) (v := ?_) (a' := ?_) #[oY,oY,oY,oY,oY,oY,oY,oY,oY,oY,oY,oY,oY,oY,oY,oY,oY,oY,oN,oN,oN,oN,oN,oN,oN,oN,oN,oN,oN,oN,oN,oN,oN,oN] rfl rfl (by kernel_rfl) (fun _ _ _ h => h) (Or.inl ⟨by rfl, ?_⟩) hHeld ?_ ?_
         rotate_left
         ·rintro w' ⟨s0, s1, s2, s3, s4, s5, s6, s7, s8, s9, s10⟩
          go_simp
          with_reducible rfl
         rotate_left
         ·simp only [Act.put, List.setIfInBounds_toArray, List.set_cons_zero, List.set_cons_succ, i64_w, i32_w]
          rfl
         refine pure_ (i := 18) (N := some 211) (v := ?_) (a' := ?_) #[oY,oY,oY,oY,oY,oY,oY,oY,oY,oY,oY,oY,oY,oY,oY,oY,oY,oY,oY,oN,oN,oN,oN,oN,oN,oN,oN,oN,oN,oN,oN,oN,oN,oN] rfl rfl (by kernel_rfl) (fun _ _ _ h => h) (Or.inl ⟨by rfl, ?_⟩) ?_ ?_
         rotate_left
         ·intro w'
          go_simp
          with_reducible rfl
         rotate_left
         ·simp only [Act.put, List.setIfInBounds_toArray, List.set_cons_zero, List.set_cons_succ, i64_w, i32_w]
          rfl
         refine pure_ (i := 19) (N := some 212) (v := ?_) (a' := ?_) #[oY,oY,oY,oY,oY,oY,oY,oY,oY,oY,oY,oY,oY,oY,oY,oY,oY,oY,oY,oY,oN,oN,oN,oN,oN,oN,oN,oN,oN,oN,oN,oN,oN,oN] rfl rfl (by kernel_rfl) (fun _ _ _ h => h) (Or.inl ⟨by rfl, ?_⟩) ?_ ?_
         rotate_left
         ·intro w'
          go_simp
          with_reducible rfl
         rotate_left
         ·simp only [Act.put, List.setIfInBounds_toArray, List.set_cons_zero, List.set_cons_succ, i64_w, i32_w]
          rfl
         refine pure_ (i := 20) (N := some 213) (v := ?_) (a' := ?_) #[oY,oY,oY,oY,oY,oY,oY,oY,oY,oY,oY,oY,oY,oY,oY,oY,oY,oY,oY,oY,oY,oN,oN,oN,oN,oN,oN,oN,oN,oN,oN,oN,oN,oN] rfl rfl (by kernel_rfl) (fun _ _ _ h => h) (Or.inl ⟨by rfl, ?_⟩) ?_ ?_
         rotate_left
         ·intro w'
          go_simp
          with_reducible rfl
         rotate_left
         ·simp only [Act.put, List.setIfInBounds_toArray, List.set_cons_zero, List.set_cons_succ, i64_w, i32_w]
          rfl
         refine pure_ (i := 21) (N := some 214) (v := ?_) (a' := ?_) #[oY,oY,oY,oY,oY,oY,oY,oY,oY,oY,oY,oY,oY,oY,oY,oY,oY,oY,oY,oY,oY,oY,oN,oN,oN,oN,oN,oN,oN,oN,oN,oN,oN,oN] rfl rfl (by kernel_rfl) (fun _ _ _ h => h) (Or.inl ⟨by rfl, ?_⟩) ?_ ?_
         rotate_left
         ·intro w'
          go_simp
          with_reducible rfl
         rotate_left
         ·simp only [Act.put, List.setIfInBounds_toArray, List.set_cons_zero, List.set_cons_succ, i64_w, i32_w]
          rfl
         refine pure_ (i := 22) (N := some 215) (v := ?_) (a' := ?_) #[oY,oY,oY,oY,oY,oY,oY,oY,oY,oY,oY,oY,oY,oY,oY,oY,oY,oY,oY,oY,oY,oY,oY,oN,oN,oN,oN,oN,oN,oN,oN,oN,oN,oN] rfl rfl (by kernel_rfl) (fun _ _ _ h => h) (Or.inl ⟨by rfl, ?_⟩) ?_ ?_
         rotate_left
         ·intro w'
          go_simp
          with_reducible rfl
         rotate_left
         ·simp only [Act.put, List.setIfInBounds_toArray, List.set_cons_zero, List.set_cons_succ, i64_w, i32_w]
          rfl
         refine pure_ (i := 23) (N := some 216) (v := ?_) (a' := ?_) #[oY,oY,oY,oY,oY,oY,oY,oY,oY,oY,oY,oY,oY,oY,oY,oY,oY,oY,oY,oY,oY,oY,oY,oY,oN,oN,oN,oN,oN,oN,oN,oN,oN,oN] rfl rfl (by kernel_rfl) (fun _ _ _ h => h) (Or.inl ⟨by rfl, ?_⟩) ?_ ?_
         rotate_left
         ·intro w'
          go_simp
          with_reducible rfl
         rotate_left
         ·simp only [Act.put, List.setIfInBounds_toArray, List.set_cons_zero, List.set_cons_succ, i64_w, i32_w]
          rfl
         refine pure_ (i := 24) (N := some 217) (v := ?_) (a' := ?_) #[oY,oY,oY,oY,oY,oY,oY,oY,oY,oY,oY,oY,oY,oY,oY,oY,oY,oY,oY,oY,oY,oY,oY,oY,oY,oN,oN,oN,oN,oN,oN,oN,oN,oN] rfl rfl (by kernel_rfl) (fun _ _ _ h => h) (Or.inl ⟨by rfl, ?_⟩) ?_ ?_
         rotate_left
         ·intro w'
          go_simp
          with_reducible rfl
         rotate_left
         ·simp only [Act.put, List.setIfInBounds_toArray, List.set_cons_zero, List.set_cons_succ, i64_w, i32_w]
          rfl
         refine pure_ (i := 25) (N := some 218) (v := ?_) (a' := ?_) #[oY,oY,oY,oY,oY,oY,oY,oY,oY,oY,oY,oY,oY,oY,oY,oY,oY,oY,oY,oY,oY,oY,oY,oY,oY,oY,oN,oN,oN,oN,oN,oN,oN,oN] rfl rfl (by kernel_rfl) (fun _ _ _ h => h) (Or.inl ⟨by rfl, ?_⟩) ?_ ?_
         rotate_left
         ·intro w'
          go_simp
          with_reducible rfl
         rotate_left
         ·simp only [Act.put, List.setIfInBounds_toArray, List.set_cons_zero, List.set_cons_succ, i64_w, i32_w]
          rfl
         refine pure_ (i := 26) (N := some 219) (v := ?_) (a' := ?_) #[oY,oY,oY,oY,oY,oY,oY,oY,oY,oY,oY,oY,oY,oY,oY,oY,oY,oY,oY,oY,oY,oY,oY,oY,oY,oY,oY,oN,oN,oN,oN,oN,oN,oN] rfl rfl (by kernel_rfl) (fun _ _ _ h => h) (Or.inl ⟨by rfl, ?_⟩) ?_ ?_
         rotate_left
         ·intro w'
          go_simp
          with_reducible rfl
         rotate_left
         ·simp only [Act.put, List.setIfInBounds_toArray, List.set_cons_zero, List.set_cons_succ, i64_w, i32_w]
          rfl
         refine pure_ (i := 27) (N := some 220) (v := ?_) (a' := ?_) #[oY,oY,oY,oY,oY,oY,oY,oY,oY,oY,oY,oY,oY,oY,oY,oY,oY,oY,oY,oY,oY,oY,oY,oY,oY,oY,oY,oY,oN,oN,oN,oN,oN,oN] rfl rfl (by kernel_rfl) (fun _ _ _ h => h) (Or.inl ⟨by rfl, ?_⟩) ?_ ?_
         rotate_left
         ·intro w'
          go_simp
          with_reducible rfl
         rotate_left
         ·simp only [Act.put, List.setIfInBounds_toArray, List.set_cons_zero, List.set_cons_succ, i64_w, i32_w]
          rfl
         refine pure_ (i := 28) (N := some 221) (v := ?_) (a' := ?_) #[oY,oY,oY,oY,oY,oY,oY,oY,oY,oY,oY,oY,oY,oY,oY,oY,oY,oY,oY,oY,oY,oY,oY,oY,oY,oY,oY,oY,oY,oN,oN,oN,oN,oN] rfl rfl (by kernel_rfl) (fun _ _ _ h => h) (Or.inl ⟨by rfl, ?_⟩) ?_ ?_
         rotate_left
         ·intro w'
          go_simp
          with_reducible rfl
         rotate_left
         ·simp only [Act.put, List.setIfInBounds_toArray, List.set_cons_zero, List.set_cons_succ, i64_w, i32_w]
          rfl
         refine pure_ (i := 29) (N := some 222) (v := ?_) (a' := ?_) #[oY,oY,oY,oY,oY,oY,oY,oY,oY,oY,oY,oY,oY,oY,oY,oY,oY,oY,oY,oY,oY,oY,oY,oY,oY,oY,oY,oY,oY,oY,oN,oN,oN,oN] rfl rfl (by kernel_rfl) (fun _ _ _ h => h) (Or.inl ⟨by rfl, ?_⟩) ?_ ?_
         rotate_left
         ·intro w'
          go_simp
          with_reducible rfl
         rotate_left
         ·simp only [Act.put, List.setIfInBounds_toArray, List.set_cons_zero, List.set_cons_succ, i64_w, i32_w]
          rfl
         refine take_ (i := 30) (N := some 223) (v := ?_) (a' := ?_) #[oY,oY,oY,oY,oY,oY,oY,oY,oY,oY,oY,oY,oY,oY,oY,oY,oY,oY,oY,oY,oY,oY,oY,oY,oY,oY,oY,oY,oY,oY,oY,oN,oN,oN] rfl rfl (by kernel_rfl) (fun _ _ _ h => h) (Or.inl ⟨by rfl, ?_⟩) hHeld ?_ ?_
         rotate_left
         ·rintro w' ⟨s0, s1, s2, s3, s4, s5, s6, s7, s8, s9, s10⟩
          go_simp
          with_reducible rfl
         rotate_left
         ·simp only [Act.put, List.setIfInBounds_toArray, List.set_cons_zero, List.set_cons_succ, i64_w, i32_w]
          rfl
         refine take_ (i := 31) (N := some 224) (v := ?_) (a' := ?_) #[oY,oY,oY,oY,oY,oY,oY,oY,oY,oY,oY,oY,oY,oY,oY,oY,oY,oY,oY,oY,oY,oY,oY,oY,oY,oY,oY,oY,oY,oY,oY,oY,oN,oN] rfl rfl (by kernel_rfl) (fun _ _ _ h => h) (Or.inl ⟨by rfl, ?_⟩) hHeld ?_ ?_
         rotate_left
         ·rintro w' ⟨s0, s1, s2, s3, s4, s5, s6, s7, s8, s9, s10⟩
          go_simp
          with_reducible rfl
         rotate_left
         ·simp only [Act.put, List.setIfInBounds_toArray, List.set_cons_zero, List.set_cons_succ, i64_w, i32_w]
          rfl
         refine pure_ (i := 32) (N := some 225) (v := ?_) (a' := ?_) #[oY,oY,oY,oY,oY,oY,oY,oY,oY,oY,oY,oY,oY,oY,oY,oY,oY,oY,oY,oY,oY,oY,oY,oY,oY,oY,oY,oY,oY,oY,oY,oY,oY,oN] rfl rfl (by kernel_rfl) (fun _ _ _ h => h) (Or.inl ⟨by rfl, ?_⟩) ?_ ?_
         rotate_left
         ·intro w'
          go_simp
          with_reducible rfl
         rotate_left
         ·simp only [Act.put, List.setIfInBounds_toArray, List.set_cons_zero, List.set_cons_succ, i64_w, i32_w]
          rfl
         refine pure_ (i := 33) (N := some 226) (v := ?_) (a' := ?_) #[oY,oY,oY,oY,oY,oY,oY,oY,oY,oY,oY,oY,oY,oY,oY,oY,oY,oY,oY,oY,oY,oY,oY,oY,oY,oY,oY,oY,oY,oY,oY,oY,oY,oY] rfl rfl (by kernel_rfl) (fun _ _ _ h => h) (Or.inl ⟨by rfl, ?_⟩) ?_ ?_
         rotate_left
         ·intro w'
          go_simp
          with_reducible rfl
         rotate_left
         ·simp only [Act.put, List.setIfInBounds_toArray, List.set_cons_zero, List.set_cons_succ, i64_w, i32_w]
          rfl
         refine done_ (by kernel_rfl) ?_
         have f9 := HF8.out.trans hHeld.1 (fun _ _ h => h)
         clear hHeld msd ms9 MK MD w1 w1' w2 w3 w4 w4' pos1 lkp lk0 w5a
         go_wp2
         go_roundw
         case rel => exact ⟨k1 + 2, by omega, by go_num, f9⟩
         case measure => simp [intOf]; omega
       ·obtain rfl : k = L.length := by omega
        clear hkl HC1
        go_wp2
        go_roundw
        case rel => exact ⟨i + 1, L, v, by omega, by omega, by go_num, h5.fr0 fk, hok, f5.trans fk (fun _ _ h => h)⟩
        case measure => simp [intOf]; omega
  ·obtain rfl : i = len0 := by omega
   clear hlt
   go_upto_region 48 with fail
   obtain ⟨WF, hWF⟩ : ∃ W, W = wr := ⟨_, rfl⟩
   rw [← hWF] at hh hf ⊢
   clear hWF
   as_aux_lemma =>
    have hml : ∀ i, Ft b m v i ∨ i = ma → i < WF.heap.size := hh.lts
    have nw : w.heap.size ≤ WF.heap.size := hf.size
    have hm := hh.mp
    have HU := hid hh.hp.uniq
    have hsm := hh.sm
    go_wp2_with (at_range; refine wpList_range_mf _ rfl _ 84 rfl 22 24 .u64 Try.underlying22 Try.underlying84 ma _ (itF L) rfl hm ?_)
    intro w8 hr8 f9 hs8
    have p8 := hh.fr0 f9
    have f8 := hf.trans f9 (fun _ _ h => h)
    obtain ⟨rB, hR⟩ : ∃ rB, rB = WF.heap.size := ⟨_, rfl⟩
    obtain ⟨bs, hbs⟩ : ∃ bs, bs = w8.heap.size := ⟨_, rfl⟩
    have hrb : rB < bs := by omega
    have hwb : w.heap.size ≤ bs := by omega
    have hwr : w.heap.size ≤ rB := by omega
    have hF : ∀ i, Ft b m v i ∨ i = ma → i ≠ rB ∧ i < bs := fun i hi => by have := hml i hi; omega
    have hb8 : bs ≤ w8.heap.size := by omega
    rw [← hR] at hr8 ⊢
    clear hml nw hm hh hf f9 hs8 hR hbs
    have HF := hid hF
    have HG := hid (got_nil L)
    clear hF
    go_wp2_with fail
    go_loopw [23] (fun v23 wr => ∃ (left : Int → Bool) (cnt : Nat) (Z : List It), MR 22 .u64 wr ma rB L.length (itF L) left cnt ∧ HT w.heap.size wr b m v L ma L ∧ Hid (Kd.R k24 24 wr bs (fun _ => True) v23 Z) ∧ Hid (Got L Z left ∧ ∀ z ∈ Z, left z.f0 = false) ∧ bs ≤ wr.heap.size ∧ Fr (fun _ => False) w wr) (fun _ wr => wr.rangeLeft ma rB)
    case atStart => exact ⟨_, _, [], hr8, p8, hid (Kd.R_nil _ _ _ _ _), hid ⟨HG.out, fun z hz => absurd hz List.not_mem_nil⟩, hb8, f8⟩
    case round =>
     clear hr8 p8 hb8 f8 HG
     obtain ⟨left, cnt, Z, hr, pr, HZ, HGt, hbr, fr⟩ := hrel
     go_wp2_with (at_next; refine wpList_next_mr _ rfl _ rfl 22 .u64 Try.underlying22 ma rB _ _ (itF L) _ (fun _ _ _ => trivial) rfl hr ?_ ?_)
     ·intro _ hdone
      have hperm : Z.Perm L := got_all HGt.out.1 (fun y hy => hdone y.f0 (pr.hp.ok y hy).1) HU.out
      have hlz : Z.length ≤ 60 := Nat.le_trans (got_len HGt.out.1) hsm
      have HPM := hid hperm
      have HH := hid pr.hp
      have nb : ∀ i, Ft b m v i → i < bs := fun i hi => (HF.out i (.inl hi)).2
      have NB := hid nb
      have hz0 := pr.z
      clear hr pr HGt hperm HF hdone nb
      rcases Row.of_R HZ.out with ⟨rfl, rfl⟩ | ⟨g, cap, rfl, hg, hm, hrow⟩
      ·have hL : L = [] := HPM.out.symm.eq_nil
       subst hL
       clear HZ hlz hsm hbr
       go_wp2_with fail
       refine (sortI_no none 0 _).mono ?_
       rintro e w3 ⟨rfl, rfl⟩
       go_wp2_with fail
       refine wp_loop_rounds 1 ?_
       rw [rounds_succ]
       go_wp2_with fail
       refine (len_hp HH.out).mono ?_
       rintro e w4 ⟨rfl, k4⟩
       go_wp2
       go_ret
       exact ⟨rfl, fr.trans k4 (fun _ _ h => h)⟩
      ·clear HZ
       go_wp2_with fail
       refine (sortI_at hrow (by omega)).mono ?_
       rintro e w3 ⟨rfl, row3, k3⟩
       have hwg : w.heap.size ≤ g := by omega
       have q3 := HH.out.fr k3 (fun i hi e => by have := NB.out i hi; omega)
       have f3 := fr.trans k3 (fun i hi e => by omega)
       obtain ⟨S, hS⟩ : ∃ S, S = srtI Z := ⟨_, rfl⟩
       have hSl : S.length = Z.length := by rw [hS]; exact (srtI_perm Z).length_eq
       have HSP : Hid (L.Perm S) := hid (by rw [hS]; exact HPM.out.symm.trans (srtI_perm Z).symm)
       have HSS : Hid (S.Pairwise fun a b => ¬ itLt b a) := hid (by rw [hS]; exact (srtI_sorted Z).imp (fun h => h))
       have row4 : Row 24 w3 g cap S := by rw [hS]; exact row3
       have ng : ∀ i, Ft b m v i → i ≠ g := fun i hi e => by have := NB.out i hi; omega
       have NG := hid ng
       rw [← hSl]
       have hs60 : S.length ≤ 60 := by omega
       clear hS hSl row3 k3 fr hrow hg hm ng hlz HPM HH NB hbr
       go_wp2_with fail
       go_loopw [243] (fun v243 wr => ∃ (k : Nat) (K : List It) (vk : Value), k ≤ S.length ∧ v243 = .int .i64 (k : Int) ∧ HP wr b m vk K 60 ∧ Hid (Ok K) ∧ Hid (K.Perm (S.drop k)) ∧ Row 24 wr g cap S ∧ Fz w.heap.size b m vk ∧ Hid (∀ i, Ft b m vk i → i ≠ g) ∧ Fr (fun _ => False) w wr) (fun v243 _ => S.length - (intOf v243).toNat)
       case atStart => exact ⟨0, L, v, Nat.zero_le _, rfl, q3, hok, HSP, row4, hz0, NG, f3⟩
       case round =>
        clear q3 row4 f3 hz0 NG HSP
        obtain ⟨k, K, vk, hk, rfl, hq, hKo, hKP, hrw, hkz, hkg, hfk⟩ := hrel
        by_cases hkl : k < S.length
        ·obtain ⟨x, hx⟩ : ∃ x, S[k]? = some x := ⟨_, List.getElem?_eq_getElem hkl⟩
         have e1 : S.drop k = x :: S.drop (k + 1) := by
          rw [List.drop_eq_getElem_cons hkl]
          have := (List.getElem?_eq_some_iff.1 hx).2
          rw [this]
         have hph := pop_head (A := K) (x := x) (T := S.drop (k + 1)) (by rw [← e1]; exact hKP.out) (by rw [← e1]; exact HSS.out.sublist (List.drop_sublist k S)) hq.uniq hKo.out
         obtain ⟨hE, hX, hP⟩ := hph
         have HP1 := hid hP
         have HO1 := hid (ok_popL hKo.out)
         have lk : (k : Int) < (S.length : Int) := by omega
         obtain ⟨c0, c1, c2⟩ := hrw.at3 hx
         have tx0 : (x.f0 == x.f0) = true := beq_self_eq_true _
         have tx1 : (x.f1 == x.f1) = true := beq_self_eq_true _
         have tx2 : (x.f2 == x.f2) = true := beq_self_eq_true _
         clear hx e1 hP hKP hKo
         go_wp2_with fail
         generalize hW : World.alloc wr _ = w4
         have k4 : Fr (fun _ => False) wr w4 := by subst hW; (repeat' (first | (with_reducible exact Fr.refl _ _) | (with_reducible assumption) | (with_reducible refine Fr.alloc ?_ _) | (with_reducible refine Fr.drew ?_) | (with_reducible refine Fr.drewN ?_ _) | (with_reducible refine Fr.setCell ?_ _ _ ?_) | (exact Or.inr rfl) | (left; simp; done) | (left; simp; omega) | (simp; done) | (simp; omega) | omega))
         have bA : Blk w4 wr.heap.size #[.int .u64 x.f0, .int .u64 x.f1, .int .i64 x.f2] 24 := by subst hW; (repeat' (first | (with_reducible assumption) | (with_reducible apply Blk.drew) | (with_reducible apply Blk.drewN) | (with_reducible apply Blk.set) | (with_reducible apply Blk.other) | (exact Blk.new' _ _ _ (by first | rfl | (simp; done) | (simp; omega))) | (with_reducible apply Blk.alloc) | (with_reducible rfl) | (simp; done) | (simp; omega) | omega | rfl))
         obtain ⟨B, hB⟩ : ∃ B, B = wr.heap.size := ⟨_, rfl⟩
         have hBn : ∀ i, Ft b m vk i → i ≠ B := fun i hi e => by have := hq.lt i hi; omega
         rw [← hB] at bA ⊢
         clear hW hB c0 c1 c2
         refine (pop_at (hq.fr0 k4)).mono ?_
         rintro e w5 ⟨rfl, v5, h5, hv5, k5⟩
         rw [hE, hX]
         have f4 := hfk.trans k4 (fun _ _ h => h)
         have n4 : w.heap.size ≤ w4.heap.size := f4.size
         have hgl : g < w4.heap.size := Nat.lt_of_lt_of_le hrw.lt k4.size
         have r5 := (hrw.fr k4 (fun h => h)).fr k5 (fun h => hkg.out g h rfl)
         have b5 := bA.fr k5 (fun h => hBn B h rfl)
         have f5 := f4.trans k5 (fun i hi e => by have := hkz i e; omega)
         have z5 := hkz.next hv5 n4
         have g5 : Hid (∀ i, Ft b m v5 i → i ≠ g) := hid (fun i hi e => by
          rcases hi with h | h | h
          ·exact hkg.out i (.inl h) e
          ·exact hkg.out i (.inr (.inl h)) e
          ·rcases hv5 i h with h | h
           ·exact hkg.out i (.inr (.inr h)) e
           ·omega)
         clear hq k4 k5 hE hX hrw bA hfk f4 hkz hv5 hkg hBn hgl n4
         obtain ⟨a0, a1, a2, _⟩ := b5.c3
         have hBl := b5.lt
         have hB8 := lt8 hBl
         go_upto_region 58 with fail
         generalize hW : World.alloc w5 _ = w6
         have k6 : Fr (fun _ => False) w5 w6 := by subst hW; (repeat' (first | (with_reducible exact Fr.refl _ _) | (with_reducible assumption) | (with_reducible refine Fr.alloc ?_ _) | (with_reducible refine Fr.drew ?_) | (with_reducible refine Fr.drewN ?_ _) | (with_reducible refine Fr.setCell ?_ _ _ ?_) | (exact Or.inr rfl) | (left; simp; done) | (left; simp; omega) | (simp; done) | (simp; omega) | omega))
         have bC : Blk w6 w5.heap.size #[.int .u64 x.f0, .int .u64 x.f1, .int .i64 x.f2] 24 := by subst hW; (repeat' (first | (with_reducible assumption) | (with_reducible apply Blk.drew) | (with_reducible apply Blk.drewN) | (with_reducible apply Blk.set) | (with_reducible apply Blk.other) | (exact Blk.new' _ _ _ (by first | rfl | (simp; done) | (simp; omega))) | (with_reducible apply Blk.alloc) | (with_reducible rfl) | (simp; done) | (simp; omega) | omega | rfl))
         clear hW a0 a1 a2 hBl hB8
         obtain ⟨a0, a1, a2, _⟩ := (b5.fr k6 (fun h => h)).c3
         obtain ⟨d0, d1, d2, _⟩ := bC.c3
         have h6 := h5.fr0 k6
         have r6 := r5.fr k6 (fun h => h)
         have f6 := f5.trans k6 (fun _ _ h => h)
         clear h5 r5 f5 k6 b5 bC
         go_wp2
         go_roundw
         case rel => exact ⟨k + 1, popL K, v5, by omega, by go_num, h6, HO1, HP1, r6, z5, g5, f6⟩
         case measure => simp [intOf]; omega
        ·obtain rfl : k = S.length := by omega
         have hK : K = [] := by have := hKP.out; rw [List.drop_length] at this; exact this.eq_nil
         subst hK
         clear hkl hKo hKP hrw hkz hkg
         go_wp2_with fail
         refine (len_hp hq).mono ?_
         rintro e w4 ⟨rfl, k4⟩
         go_wp2
         go_ret
         exact ⟨rfl, hfk.trans k4 (fun _ _ h => h)⟩
     ·intro k u w9 cnt9 hkw hkl hfv hr9 hcnt fR hsz hen
      have hy : ∃ y ∈ L, y.f0 = k ∧ u = vI y := by
       rcases itF_cases L k with ⟨h1, _⟩ | ⟨y, h1, h2, h3⟩
       ·rw [h1] at hfv; cases hfv
       ·rw [h3] at hfv; exact ⟨y, h1, h2, (Option.some.inj hfv).symm⟩
      obtain ⟨y, hyL, rfl, rfl⟩ := hy
      have hlz : Z.length ≤ 60 := Nat.le_trans (got_len HGt.out.1) hsm
      have p9 : HT w.heap.size w9 b m v L ma L := ⟨pr.hp.fr fR (fun i hi => (HF.out i (.inl hi)).1), pr.mp.fr fR (HF.out ma (.inr rfl)).1, pr.z, pr.zm, pr.dj⟩
      have HZ9 := hid (R_frI HZ.out fR (fun i hi => by omega))
      have f9 := fr.trans fR (fun i hi e => by omega)
      have hle := hr.left_eq
      have HGN := hid (got_snoc HGt.out.1 HGt.out.2 hyL hkl HU.out)
      have hb9 : bs ≤ w9.heap.size := by omega
      clear hr pr HZ fr fR hsz hfv HGt hbr
      go_wp2_with (at_builtin; refine Kd.R_append k24 (w0 := ?w0b) bs rfl _ _ 44 24 (.agg #[.int .u64 0, .int .u64 0, .int .i64 0]) 24 rfl Try.underlying44 info24b rfl (by decide) (by omega) _ Z y [.int .u64 y.f0, .int .u64 y.f1, .int .i64 y.f2] (fun _ => True) (fun _ => False) rfl ?aX (k24_mkM _ _ _ _) (fun _ hk => hk.elim) (fun _ _ => trivial) ?aO ?aB ?aS ?aL ?_; (case aX => first | (go_simp; done) | (simp [Act.eval, World.alloc]; done)); (case aO => exact R_frI HZ9.out (S := fun _ => False) (by (repeat' (first | (with_reducible exact Fr.refl _ _) | (with_reducible assumption) | (with_reducible refine Fr.alloc ?_ _) | (with_reducible refine Fr.drew ?_) | (with_reducible refine Fr.drewN ?_ _) | (with_reducible refine Fr.setCell ?_ _ _ ?_) | (exact Or.inr rfl) | (left; simp; done) | (left; simp; omega) | (simp; done) | (simp; omega) | omega))) (fun _ _ h => h)); (case aB => exact Below.refl _ _); (case aS => simp; omega); (case aL => omega))
      intro v2 w2 r2 b2 _ _
      have k2 : Fr (fun i => bs ≤ i) w9 w2 := Fr.trans (S := fun i => bs ≤ i) (b := _) (by (repeat' (first | (with_reducible exact Fr.refl _ _) | (with_reducible assumption) | (with_reducible refine Fr.alloc ?_ _) | (with_reducible refine Fr.drew ?_) | (with_reducible refine Fr.drewN ?_ _) | (with_reducible refine Fr.setCell ?_ _ _ ?_) | (exact Or.inr rfl) | (left; simp; done) | (left; simp; omega) | (simp; done) | (simp; omega) | omega))) (Fr.ofB b2) (fun i hi h => h)
      have hr2 := hr9.fr k2 (by have := (HF.out ma (.inr rfl)).2; omega) (by omega)
      have p2 : HT w.heap.size w2 b m v L ma L := ⟨p9.hp.fr k2 (fun i hi h => by have := (HF.out i (.inl hi)).2; omega), p9.mp.fr k2 (by have := (HF.out ma (.inr rfl)).2; omega), p9.z, p9.zm, p9.dj⟩
      have f2 := f9.trans k2 (fun i hi e => by omega)
      have hb2 : bs ≤ w2.heap.size := Nat.le_trans hb9 k2.size
      have R2 := hid r2
      clear b2 k2 r2 hr9 p9 HZ9 f9
      go_wp2
      go_roundw
      case rel => exact ⟨_, _, _, hr2, p2, R2, hid HGN.out, hb2, f2⟩
      case measure => rw [hr2.left_eq, hle]; exact hcnt
end Go.Proofs.Ytkcfhdnlmdndeaa
