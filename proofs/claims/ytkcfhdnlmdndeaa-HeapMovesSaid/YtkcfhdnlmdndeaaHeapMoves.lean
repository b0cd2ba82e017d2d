/- HeapMoves: the walk of the law (printed by mv_gen.py). -/
import Derived.Test.YtkcfhdnlmdndeaaHpIds
import Derived.Test.YtkcfhdnlmdndeaaPHpx1
import Derived.Laws.BitsLemmas
namespace Go.Proofs.Ytkcfhdnlmdndeaa
open Go.RowKit Go.Proofs.YtkcfhdnlmdndeaaW.PrintWords Go.Proofs.YtkcfhdnlmdndeaaW.PrintLast Go.Proofs.YtkcfhdnlmdndeaaW.PrintMore PHp
set_option linter.unusedVariables false
set_option linter.unusedSimpArgs false
set_option maxRecDepth 100000
attribute [local go_sem high] eqA24
theorem mask40 (n : Int) : 0 ≤ bits .and .i64 n 1099511627775 ∧ bits .and .i64 n 1099511627775 ≤ 1099511627775 := by
 have h127 : (BitVec.ofInt 64 1099511627775).toNat = 2 ^ 40 - 1 := by decide
 have key : (BitVec.ofInt 64 n &&& BitVec.ofInt 64 1099511627775).toNat = (n % ((2 ^ 64 : Nat) : Int)).toNat % 2 ^ 40 := by
  rw [BitVec.toNat_and, BitVec.toNat_ofInt, h127, Nat.and_two_pow_sub_one_eq_mod]
 have e : bits .and .i64 n 1099511627775 = IntKind.i64.wrap ((BitVec.ofInt 64 n &&& BitVec.ofInt 64 1099511627775).toNat : Nat) := rfl
 rw [e, key, IntKind.wrap_i64]
 omega
/-- An act that was handed in. -/
theorem act_open {w : World} {A : Option Addr} {len cap i : Nat} (h : RdS [.i .i64, .i .u64, .i .u64, .i .i64] w A len cap) (hi : i < len) :
  ∃ (r off : Nat) (q : Int) (x : It), A = some ⟨r, off, none⟩ ∧ r < w.heap.size ∧ ItOk x ∧ w.cell? ⟨r, off + i * 4, none⟩ = some (.int .i64 q) ∧ w.cell? ⟨r, off + i * 4 + 1, none⟩ = some (.int .u64 x.f0) ∧ w.cell? ⟨r, off + i * 4 + 2, none⟩ = some (.int .u64 x.f1) ∧ w.cell? ⟨r, off + i * 4 + 3, none⟩ = some (.int .i64 x.f2) := by
 obtain ⟨r, off, vs, rfl, ho, hc, hr⟩ := RdS.at h hi
 obtain ⟨v0, r0, rfl, h0, ho⟩ := okAll.cons ho
 obtain ⟨v1, r1, rfl, h1, ho⟩ := okAll.cons ho
 obtain ⟨v2, r2, rfl, h2, ho⟩ := okAll.cons ho
 obtain ⟨v3, r3, rfl, h3, ho⟩ := okAll.cons ho
 have e3 := okAll.none ho
 subst e3
 obtain ⟨q, rfl, hq⟩ := h0
 obtain ⟨a, rfl, ha⟩ := h1
 obtain ⟨b, rfl, hb⟩ := h2
 obtain ⟨c, rfl, hcw⟩ := h3
 exact ⟨r, off, q, ⟨a, b, c⟩, rfl, hr, ⟨ha, hb, hcw⟩, hc 0 _ rfl, hc 1 _ rfl, hc 2 _ rfl, hc 3 _ rfl⟩
theorem wf_i64 {k : Int} : (Lit.int .i64 k).wf = true ↔ -9223372036854775808 ≤ k ∧ k ≤ 9223372036854775807 := by
 show (decide (IntKind.i64.min ≤ k) && decide (k ≤ IntKind.i64.max)) = true ↔ _
 rw [Bool.and_eq_true, decide_eq_true_eq, decide_eq_true_eq]
 exact Iff.rfl
theorem dis_next {b m b' m' : Nat} {v v' v2 : Value} {w : World} (hd : ∀ i, Ft b m v i → ¬ Ft b' m' v' i) (hq : ∀ g, v2.ownBlock = some g → v.ownBlock = some g ∨ w.heap.size ≤ g) (hlt : ∀ i, Ft b' m' v' i → i < w.heap.size) : ∀ i, Ft b m v2 i → ¬ Ft b' m' v' i := by
 rintro i (e | e | e) hj
 ·exact hd i (.inl e) hj
 ·exact hd i (.inr (.inl e)) hj
 ·rcases hq i e with e | e
  ·exact hd i (.inr (.inr e)) hj
  ·have := hlt i hj; omega
theorem dis_next' {b m b' m' : Nat} {v v' v2 : Value} {w : World} (hd : ∀ i, Ft b m v i → ¬ Ft b' m' v' i) (hq : ∀ g, v2.ownBlock = some g → v'.ownBlock = some g ∨ w.heap.size ≤ g) (hlt : ∀ i, Ft b m v i → i < w.heap.size) : ∀ i, Ft b m v i → ¬ Ft b' m' v2 i :=
 fun i hi hj => dis_next (fun j h1 h2 => hd j h2 h1) hq hlt i hj hi
/-- What a round reads. -/
def MvS (xB yB : Nat) (x : It) (t a1 : Int) (w' : World) : Prop :=
 (w'.cell? ⟨xB, 1, none⟩ = some (.int .u64 x.f0) ∧ w'.cell? ⟨xB, 2, none⟩ = some (.int .u64 x.f1) ∧ w'.cell? ⟨xB, 3, none⟩ = some (.int .i64 t)) ∧
 (w'.cell? ⟨yB, 0, none⟩ = some (.int .u64 x.f0) ∧ w'.cell? ⟨yB, 1, none⟩ = some (.int .u64 x.f1) ∧ w'.cell? ⟨yB, 2, none⟩ = some (.int .i64 (t + a1)))
theorem MvS.of {xB yB : Nat} {x : It} {t a1 q : Int} {w' : World} {ta tb : TypeId} (h : Blk w' xB #[.int .i64 q, .int .u64 x.f0, .int .u64 x.f1, .int .i64 t] ta) (k : Blk w' yB #[.int .u64 x.f0, .int .u64 x.f1, .int .i64 (t + a1)] tb) : MvS xB yB x t a1 w' :=
 ⟨⟨h.cell 1, h.cell 2, h.cell 3⟩, k.cell 0, k.cell 1, k.cell 2⟩
set_option maxHeartbeats 16000000 in
theorem heapMoves_walk (a0 : Option Addr) (len0 cap0 : Nat) (a1 : Int) (w : World) (h0 : RdS [.i .i64, .i .u64, .i .u64, .i .i64] w a0 len0 cap0) (w1 : (Lit.int .i32 a1).wf = true) :
  Calls Try.prog 5 #[.slice a0 len0 cap0, .int .i32 a1] w fun e w' => e = .returned (.bool true) ∧ Fr (fun _ => False) w w' := by
 have hle := RdS.len_le h0
 have hby : -2147483648 ≤ a1 ∧ a1 ≤ 2147483647 := by have := w1; simp [Lit.wf] at this; exact this
 have H0 := hid h0
 clear h0
 go_enter Try.func5, Try.ntmps5
 go_wp2_with fail
 refine (new_at (size := 60) (by omega) (by omega)).mono ?_
 rintro e w2 ⟨b, m, rfl, h2, hb2, hm2, f2⟩
 have z2 : Fz w.heap.size b m (.slice none 0 0) := Fz.made hb2 hm2
 have s2 := h2.lt
 go_wp2_with fail
 refine (new_at (size := 60) (by omega) (by omega)).mono ?_
 rintro e w3 ⟨b', m', rfl, h3', hb3, hm3, k3⟩
 have z3 : Fz w.heap.size b' m' (.slice none 0 0) := Fz.made (Nat.le_trans f2.size hb3) (Nat.le_trans f2.size hm3)
 have dis0 : ∀ i, Ft b m (.slice none 0 0) i → ¬ Ft b' m' (.slice none 0 0) i := fun i hi hj => by
  have h1 := s2 i hi
  rcases hj with e | e | e
  ·omega
  ·omega
  ·cases e
 have h3 := h2.fr0 k3
 have f3 := f2.trans k3 (fun _ _ h => h)
 clear h2 f2 k3 hb2 hm2 hb3 hm3 s2
 go_wp2_with fail
 refine (awake_at _).mono ?_
 rintro e w4 ⟨rfl, k4⟩
 have h4 := h3.fr0 k4
 have h4' := h3'.fr0 k4
 have f4 := f3.trans k4 (fun _ _ h => h)
 clear h3 h3' f3 k4
 have DIS := hid dis0
 clear dis0
 go_wp2_with fail
 go_loopw [49] (fun v49 wr => ∃ (i : Nat) (L : List It) (v v' : Value), i ≤ len0 ∧ i ≤ 80 ∧ v49 = .int .i64 (i : Int) ∧ HP wr b m v L 60 ∧ HP wr b' m' v' (shL a1 L) 60 ∧ Fz w.heap.size b m v ∧ Fz w.heap.size b' m' v' ∧ Hid (∀ i, Ft b m v i → ¬ Ft b' m' v' i) ∧ Hid (Ok L ∧ AllIn 0 1099511627775 L) ∧ Fr (fun _ => False) w wr) (fun v49 _ => len0 - (intOf v49).toNat)
 case atStart => exact ⟨0, [], _, _, Nat.zero_le _, by omega, rfl, h4, h4', z2, z3, DIS, hid ⟨ok_nil, fun x hx => by cases hx⟩, f4⟩
 case round =>
  clear h4 h4' z2 z3 f4 DIS
  obtain ⟨i, L, v, v', hi, hi4, rfl, hh, hh', hz, hz', hd, hl, hf⟩ := hrel
  by_cases hlt : i < len0
  ·by_cases h40 : i = 80
   ·subst h40
    obtain ⟨r, off, q, x, rfl, hr, hox, c0, c1, c2, c3⟩ := act_open H0.out hlt
    have c0' := (hf.cell (a := ⟨r, off + 80 * 4, none⟩) hr (fun h => h)).trans c0
    have c1' := (hf.cell (a := ⟨r, off + 80 * 4 + 1, none⟩) hr (fun h => h)).trans c1
    have c2' := (hf.cell (a := ⟨r, off + 80 * 4 + 2, none⟩) hr (fun h => h)).trans c2
    have c3' := (hf.cell (a := ⟨r, off + 80 * 4 + 3, none⟩) hr (fun h => h)).trans c3
    have l1 : (80 : Int) < (len0 : Int) := by omega
    have l1' : 80 < len0 := hlt
    simp only [Nat.reduceMul] at c0' c1' c2' c3'
    clear c0 c1 c2 c3
    go_wp2_with fail
    generalize hW : World.alloc wr _ = W0
    have j0 : Fr (fun _ => False) wr W0 := by subst hW; (repeat' (first | (with_reducible exact Fr.refl _ _) | (with_reducible assumption) | (with_reducible refine Fr.alloc ?_ _) | (with_reducible refine Fr.drew ?_) | (with_reducible refine Fr.drewN ?_ _) | (with_reducible refine Fr.setCell ?_ _ _ ?_) | (exact Or.inr rfl) | (left; simp; done) | (left; simp; omega) | (simp; done) | (simp; omega) | omega))
    clear hW c0' c1' c2' c3'
    replace hh := hh.fr0 j0
    replace hf := hf.trans j0 (fun _ _ h => h)
    clear j0
    obtain ⟨hok, _⟩ := hl.out
    have hsm := hh.small
    have hlen60 : L.length ≤ 60 := by have := hh.len; omega
    have huL := hh.uniq
    have hoL := hh.ok
    have HOK := hid hok
    clear hl hok hi hi4 hh' hz' hd
    obtain ⟨n, hn⟩ : ∃ n, n = L.length := ⟨_, rfl⟩
    rw [← hn] at hsm hlen60
    have HN := hid hn
    clear hn
    refine (new_at (size := 60) (by omega) (by omega)).mono ?_
    rintro e w5 ⟨c, mc, rfl, hC5, hcb, hcm, k5⟩
    have dC : ∀ i, Ft b m v i → ¬ Ft c mc (.slice none 0 0) i := fun i hi hj => by
     have h1 := hh.lt i hi
     rcases hj with e | e | e
     ·omega
     ·omega
     ·cases e
    have zC : Fz w.heap.size c mc (.slice none 0 0) := Fz.made (Nat.le_trans hf.size hcb) (Nat.le_trans hf.size hcm)
    have hA5 := hh.fr0 k5
    have f5 := hf.trans k5 (fun _ _ h => h)
    clear hh hf k5 hcb hcm
    go_wp2_with fail
    refine (row_at2 hA5).mono ?_
    rintro e w6 ⟨A1, c1, rfl, hc1, C1, k6, hA1⟩
    have ccl : c < w5.heap.size := hC5.lt _ (.inl rfl)
    have mcl : mc < w5.heap.size := hC5.lt _ (.inr (.inl rfl))
    have hw56 := k6.size
    have hA6 := hA5.fr0 k6
    have hC6 := hC5.fr0 k6
    have f6 := f5.trans k6 (fun _ _ h => h)
    clear hA5 hC5 f5 k6
    rw [← HN.out] at C1 hc1 ⊢
    have l60 : n ≤ 9223372036854775807 := by omega
    have DC := hid dC
    have HC1 := hid (fun h => C24_open C1 HN.out h)
    have HA1 : Hid (∀ ad, A1 = some ad → ad.block ≠ c ∧ ad.block ≠ mc) := hid (fun ad e => by have := hA1 ad e; omega)
    have hAll : Hid (∀ i, Ft b m v i → i ≠ c ∧ i ≠ mc) := hid (fun i hi => ⟨fun e => DC.out i hi (.inl e), fun e => DC.out i hi (.inr (.inl e))⟩)
    clear C1 dC hA1
    go_wp2_with fail
    go_loopw [155] (fun v155 wr => ∃ (k : Nat) (N : List It) (u : Value), k ≤ n ∧ v155 = .int .i64 (k : Int) ∧ HP wr b m v L 60 ∧ HP wr c mc u N 60 ∧ Fz w.heap.size c mc u ∧ Hid (∀ i, Ft b m v i → ¬ Ft c mc u i) ∧ Hid (Ok N ∧ N.Perm (L.drop (n - k))) ∧ Hid (∀ g, u.ownBlock = some g → w6.heap.size ≤ g) ∧ Fr (fun i => i = c ∨ i = mc) w6 wr) (fun v155 _ => n - (intOf v155).toNat)
    case atStart => exact ⟨0, [], _, Nat.zero_le _, rfl, hA6, hC6, zC, DC, hid ⟨ok_nil, by rw [Nat.sub_zero, List.drop_of_length_le (by rw [HN.out]; exact Nat.le_refl _)]⟩, hid (fun g e => by cases e), Fr.refl _ _⟩
    case round =>
     clear hA6 hC6 zC DC
     obtain ⟨k, N, u, hk, rfl, hA, hC, zC, dC, hN, hown, hf⟩ := hrel
     by_cases hkn : k < n
     ·obtain ⟨j, hj⟩ : ∃ j, n = j + 1 + k := ⟨n - 1 - k, by omega⟩
      have hjn : j < n := by omega
      have hjl : j < L.length := by rw [← HN.out]; exact hjn
      obtain ⟨r, off, rfl, hr, hcell⟩ := HC1.out (by omega)
      obtain ⟨d0, d1, d2⟩ := (hcell j _ (nth_some hjl)).fr hf (fun h => by have := HA1.out _ rfl; exact h.elim this.1 this.2)
      have hoy : ItOk (nth L j) := hoL _ (nth_mem hjl)
      have hpe : pushE N 60 (nth L j) = 0 := by
       have hlen := hN.out.2.length_eq
       have hp : place N (nth L j).f0 = none := place_not (fun i hi e => by
        have hm := hN.out.2.subset (nth_mem hi)
        obtain ⟨q, hq⟩ := List.mem_iff_getElem?.1 hm
        rw [List.getElem?_drop] at hq
        have hql := (List.getElem?_eq_some_iff.1 hq).1
        have := huL _ _ hql hjl (by rw [nth_of hq]; exact e)
        omega)
       unfold pushE
       rw [hp, if_neg (by decide), if_neg (by rw [hlen, List.length_drop, ← HN.out]; omega)]
      have hperm : (pushL N 60 (nth L j)).Perm (L.drop (n - (k + 1))) := by
       have e : L.drop (n - (k + 1)) = nth L j :: L.drop (n - k) := by
        rw [show n - (k + 1) = j by omega, show n - k = j + 1 by omega, List.drop_eq_getElem_cons hjl]
        congr 1
        exact (nth_of (List.getElem?_eq_getElem hjl)).symm
       rw [e]
       exact (push_perm hpe).trans (hN.out.2.cons _)
      have HPM := hid hperm
      have HPE := hid hpe
      have HOY := hid hoy
      have HKN := hid hkn
      obtain ⟨y, hy⟩ : ∃ y, y = nth L j := ⟨_, rfl⟩
      rw [← hy] at d0 d1 d2 HOY HPE HPM
      have l1 : (k : Int) < (n : Int) := by omega
      have l2 : (j : Int) < (n : Int) := by omega
      have jk : wrap64 ((n : Int) - 1) = ((j + k : Nat) : Int) := by unfold wrap64; omega
      have jk2 : wrap64 (((j + k : Nat) : Int) - (k : Int)) = (j : Int) := by unfold wrap64; omega
      obtain ⟨s, hs⟩ : ∃ s, s = j + k := ⟨_, rfl⟩
      rw [← hs] at jk jk2
      have jk' := (i64_w _).trans jk
      have jk2' := (i64_w _).trans jk2
      clear hs hcell hoy hpe hperm hy hj hkn hjl
      go_wp2_with fail
      refine (push_at hC (x := y) HOY.out).mono ?_
      rintro e w7 ⟨rfl, u', hC7, qC, kC⟩
      rw [HPE.out]
      have hA7 := hA.fr kC (fun i hi e => dC.out i hi e)
      have z7 := zC.next qC (Nat.le_trans f6.size hf.size)
      have d7 := dis_next' dC.out qC hA.lt
      have hown7 : ∀ g, u'.ownBlock = some g → w6.heap.size ≤ g := fun g e => (qC g e).elim (hown.out g) (fun h => Nat.le_trans hf.size h)
      have hf7 : Fr (fun i => i = c ∨ i = mc) w6 w7 := hf.trans kC (fun i hi e => e.elim .inl (fun e => e.elim .inr (fun e => absurd (hown.out i e) (by omega))))
      clear d0 d1 d2 jk jk' jk2 jk2' l1 l2
      go_wp2_with fail
      go_roundw
      case rel => exact ⟨k + 1, _, u', HKN.out, by simp, hA7, hC7, z7, hid d7, hid ⟨ok_pushL hN.out.1, HPM.out⟩, hid hown7, hf7⟩
      case measure => simp [intOf]; have := HKN.out; omega
     ·have hkn' : n - k = 0 := by omega
      have hpm := hN.out.2
      rw [hkn', List.drop_zero] at hpm
      have HPM := hid hpm
      have HON := hid hN.out.1
      have l1 : ¬ (k : Int) < (n : Int) := by omega
      have hf2 : Fr (fun _ => False) w wr := f6.trans hf (fun i hi e => by have h1 := zC c (.inl rfl); have h2 := zC mc (.inr (.inl rfl)); rcases e with e | e <;> omega)
      clear hpm hN hown hf hk hkn hkn'
      go_wp2_with fail
      go_loopw [172] (fun v172 wr => ∃ (k : Nat) (M N : List It) (u u2 : Value), k + M.length = n ∧ v172 = .int .i64 (k : Int) ∧ HP wr b m u M 60 ∧ HP wr c mc u2 N 60 ∧ Fz w.heap.size b m u ∧ Fz w.heap.size c mc u2 ∧ Hid (∀ i, Ft b m u i → ¬ Ft c mc u2 i) ∧ Hid (Ok M ∧ Ok N ∧ M.Perm N) ∧ Fr (fun _ => False) w wr) (fun v172 _ => n - (intOf v172).toNat)
      case atStart => exact ⟨0, L, N, v, u, by rw [HN.out]; omega, rfl, hA, hC, hz, zC, dC, hid ⟨HOK.out, HON.out, HPM.out.symm⟩, hf2⟩
      case round =>
       clear hA hC zC dC hf2 HPM HON
       obtain ⟨k, M, N, u, u2, hk, rfl, hA, hC, zA, zC, dC, hMN, hf⟩ := hrel
       obtain ⟨o1, o2, pMN⟩ := hMN.out
       have hlenMN := pMN.length_eq
       by_cases hkn : k < n
       ·obtain ⟨pq, hxe, hee⟩ := pop_same pMN hA.uniq hC.uniq o1 o2
        have hM0 : M.length ≠ 0 := by omega
        have hE : popE M = 0 := if_neg hM0
        have hpl := pop_len hA.uniq hM0
        have HK : Hid (k + 1 + (popL M).length = n) := hid (by omega)
        have HMN2 : Hid (Ok (popL M) ∧ Ok (popL N) ∧ (popL M).Perm (popL N)) := hid ⟨ok_popL o1, ok_popL o2, pq⟩
        have HX := hid hxe
        have HE : Hid (popE N = 0) := hid (by rw [← hee]; exact hE)
        have HKN := hid hkn
        have l1 : (k : Int) < (n : Int) := by omega
        clear pq hxe hee hM0 hpl o1 o2 pMN hlenMN hk hkn hMN
        go_wp2_with fail
        refine (pop_at hA).mono ?_
        rintro e w7 ⟨rfl, u7, hA7, qA, kA⟩
        rw [hE]
        have hC7 := hC.fr kA (fun i hi e => dC.out i e hi)
        have z7 := zA.next qA hf.size
        have d7 := dis_next dC.out qA hC.lt
        have f7 := hf.fz zA kA
        go_wp2_with fail
        generalize hW : World.alloc w7 _ = W7
        have j7 : Fr (fun _ => False) w7 W7 := by subst hW; (repeat' (first | (with_reducible exact Fr.refl _ _) | (with_reducible assumption) | (with_reducible refine Fr.alloc ?_ _) | (with_reducible refine Fr.drew ?_) | (with_reducible refine Fr.drewN ?_ _) | (with_reducible refine Fr.setCell ?_ _ _ ?_) | (exact Or.inr rfl) | (left; simp; done) | (left; simp; omega) | (simp; done) | (simp; omega) | omega))
        have bP : Blk W7 w7.heap.size #[.int .u64 (popX M).f0, .int .u64 (popX M).f1, .int .i64 (popX M).f2] 24 := by subst hW; (repeat' (first | (with_reducible assumption) | (with_reducible apply Blk.drew) | (with_reducible apply Blk.drewN) | (with_reducible apply Blk.set) | (with_reducible apply Blk.other) | (exact Blk.new' _ _ _ (by first | rfl | (simp; done) | (simp; omega))) | (with_reducible apply Blk.alloc) | (with_reducible rfl) | (simp; done) | (simp; omega) | omega | rfl))
        clear hW
        have hA8 := hA7.fr0 j7
        have hC8 := hC7.fr0 j7
        have f8 := f7.trans j7 (fun _ _ h => h)
        refine (pop_at hC8).mono ?_
        rintro e w9 ⟨rfl, u9, hC9, qC, kC⟩
        rw [HE.out, ← HX.out]
        have hA9 := hA8.fr kC (fun i hi e => d7 i hi e)
        have z9 := zC.next qC f8.size
        have d9 := dis_next' d7 qC hA8.lt
        have f9 := f8.fz zC kC
        have bP9 := bP.fr kC (fun e => by have := hC7.lt _ e; omega)
        obtain ⟨p0, p1, p2, _⟩ := id bP9.c3
        have lp := lt8 bP9.lt
        have lp0 := bP9.lt
        obtain ⟨y, hy⟩ : ∃ y, y = popX M := ⟨_, rfl⟩
        rw [← hy] at p0 p1 p2 ⊢
        clear bP bP9 hy hE hA7 hC7 hA8 hC8 f7 f8 j7 kA kC qA qC
        go_wp2_with fail
        generalize hW : World.alloc w9 _ = W9
        have j9 : Fr (fun _ => False) w9 W9 := by subst hW; (repeat' (first | (with_reducible exact Fr.refl _ _) | (with_reducible assumption) | (with_reducible refine Fr.alloc ?_ _) | (with_reducible refine Fr.drew ?_) | (with_reducible refine Fr.drewN ?_ _) | (with_reducible refine Fr.setCell ?_ _ _ ?_) | (exact Or.inr rfl) | (left; simp; done) | (left; simp; omega) | (simp; done) | (simp; omega) | omega))
        clear hW p0 p1 p2 lp lp0 l1
        go_roundw
        case rel => exact ⟨k + 1, _, _, u7, u9, HK.out, by simp, hA9.fr0 j9, hC9.fr0 j9, z7, z9, hid d9, HMN2, f9.trans j9 (fun _ _ h => h)⟩
        case measure => simp [intOf]; have := HKN.out; omega
       ·have l1 : ¬ (k : Int) < (n : Int) := by omega
        have hN0 : N.length = 0 := by omega
        have HN0 := hid hN0
        clear hk hlenMN pMN hN0
        go_wp2_with fail
        refine (len_hp hC).mono ?_
        rintro e w7 ⟨rfl, k7⟩
        rw [HN0.out]
        go_wp2
        go_ret
        exact ⟨rfl, hf.trans k7 (fun _ _ h => h)⟩
   ·obtain ⟨r, off, q, x, rfl, hr, hox, c0, c1, c2, c3⟩ := act_open H0.out hlt
    have c0' := (hf.cell (a := ⟨r, off + i * 4, none⟩) hr (fun h => h)).trans c0
    have c1' := (hf.cell (a := ⟨r, off + i * 4 + 1, none⟩) hr (fun h => h)).trans c1
    have c2' := (hf.cell (a := ⟨r, off + i * 4 + 2, none⟩) hr (fun h => h)).trans c2
    have c3' := (hf.cell (a := ⟨r, off + i * 4 + 3, none⟩) hr (fun h => h)).trans c3
    have t1 : ((i : Int) == 80) = false := by rw [beq_eq_false_iff_ne]; omega
    have l1 : (i : Int) < (len0 : Int) := by omega
    obtain ⟨t, ht⟩ : ∃ t, t = bits .and .i64 x.f2 1099511627775 := ⟨_, rfl⟩
    have htr := mask40 x.f2
    rw [← ht] at htr
    have ht' := ht.symm
    have e1' : wrap64 (t + a1) = t + a1 := by unfold wrap64; omega
    have e1 : IntKind.i64.wrap (t + a1) = t + a1 := (i64_w _).trans e1'
    have e2' : wrap64 a1 = a1 := by unfold wrap64; omega
    have e2 : IntKind.i64.wrap a1 = a1 := (i64_w _).trans e2'
    have HH := hid hh
    have HH' := hid hh'
    clear hh hh' c0 c1 c2 c3 ht
    have hwt : (Lit.int .i64 t).wf = true := wf_i64.2 (by omega)
    have hwy : (Lit.int .i64 (t + a1)).wf = true := wf_i64.2 (by omega)
    by_cases q0 : q = 0
    ·subst q0
     go_wp2_with fail
     generalize hW : World.alloc (World.alloc wr _) _ = W
     have f5 : Fr (fun _ => False) wr W := by subst hW; (repeat' (first | (with_reducible exact Fr.refl _ _) | (with_reducible assumption) | (with_reducible refine Fr.alloc ?_ _) | (with_reducible refine Fr.drew ?_) | (with_reducible refine Fr.drewN ?_ _) | (with_reducible refine Fr.setCell ?_ _ _ ?_) | (exact Or.inr rfl) | (left; simp; done) | (left; simp; omega) | (simp; done) | (simp; omega) | omega))
     have bX : Blk W wr.heap.size #[.int .i64 0, .int .u64 x.f0, .int .u64 x.f1, .int .i64 t] 40 := by subst hW; (repeat' (first | (with_reducible assumption) | (with_reducible apply Blk.drew) | (with_reducible apply Blk.drewN) | (with_reducible apply Blk.set) | (with_reducible apply Blk.other) | (exact Blk.new' _ _ _ (by first | rfl | (simp; done) | (simp; omega))) | (with_reducible apply Blk.alloc) | (with_reducible rfl) | (simp; done) | (simp; omega) | omega | rfl))
     have bY : Blk W (wr.heap.size + 1) #[.int .u64 x.f0, .int .u64 x.f1, .int .i64 (t + a1)] 24 := by subst hW; (repeat' (first | (with_reducible assumption) | (with_reducible apply Blk.drew) | (with_reducible apply Blk.drewN) | (with_reducible apply Blk.set) | (with_reducible apply Blk.other) | (exact Blk.new' _ _ _ (by first | rfl | (simp; done) | (simp; omega))) | (with_reducible apply Blk.alloc) | (with_reducible rfl) | (simp; done) | (simp; omega) | omega | rfl))
     clear hW c0' c1' c2' c3' e1 e1' e2 e2' l1 ht'
     have sA := HH.out.lt
     have sB := HH'.out.lt
     have nXA : ¬ Ft b m v wr.heap.size := fun e => by have := sA _ e; omega
     have nYA : ¬ Ft b m v (wr.heap.size + 1) := fun e => by have := sA _ e; omega
     have nXB : ¬ Ft b' m' v' wr.heap.size := fun e => by have := sB _ e; omega
     have nYB : ¬ Ft b' m' v' (wr.heap.size + 1) := fun e => by have := sB _ e; omega
     have F5 := hf.trans f5 (fun _ _ h => h)
     generalize wr.heap.size + 1 = yB at *
     generalize wr.heap.size = xB at *
     have hA5 := HH.out.fr0 (f5.trans (Fr.drew (Fr.refl _ _)) (fun _ _ h => h))
     have hB5 := HH'.out.fr0 (f5.trans (Fr.drew (Fr.refl _ _)) (fun _ _ h => h))
     have F5d := F5.trans (Fr.drew (Fr.refl _ _)) (fun _ _ h => h)
     have bXd : Blk W.drew xB _ _ := bX
     have bYd : Blk W.drew yB _ _ := bY
     have ms : MvS xB yB x t a1 W.drew := MvS.of bXd bYd
     refine start_ (n := 9) (S := fun w' => (w'.cell? ⟨xB, 1, none⟩ = some (.int .u64 x.f0) ∧ w'.cell? ⟨xB, 2, none⟩ = some (.int .u64 x.f1) ∧ w'.cell? ⟨xB, 3, none⟩ = some (.int .i64 t)) ∧ (w'.cell? ⟨yB, 0, none⟩ = some (.int .u64 x.f0) ∧ w'.cell? ⟨yB, 1, none⟩ = some (.int .u64 x.f1) ∧ w'.cell? ⟨yB, 2, none⟩ = some (.int .i64 (t + a1)))) (ds := []) #[oN,oN,oN,oN,oN,oN,oN,oN,oN] (by kernel_rfl) rfl rfl ⟨ms.1, ms.2⟩ (fun hHeld => ?_)
     refine pure_ (i := 0) (N := some 74) (v := ?_) (a' := ?_) #[oY,oN,oN,oN,oN,oN,oN,oN,oN] rfl rfl (by kernel_rfl) (fun _ _ _ h => h) (Or.inl ⟨by rfl, ?_⟩) ?_ ?_
     rotate_left
     ·intro w'
      go_simp
      with_reducible rfl
     rotate_left
     ·simp only [Act.put, List.setIfInBounds_toArray, List.set_cons_zero, List.set_cons_succ, i64_w, i32_w]
      rfl
     refine pure_ (i := 1) (N := some 75) (v := ?_) (a' := ?_) #[oY,oY,oN,oN,oN,oN,oN,oN,oN] rfl rfl (by kernel_rfl) (fun _ _ _ h => h) (Or.inl ⟨by rfl, ?_⟩) ?_ ?_
     rotate_left
     ·intro w'
      go_simp
      with_reducible rfl
     rotate_left
     ·simp only [Act.put, List.setIfInBounds_toArray, List.set_cons_zero, List.set_cons_succ, i64_w, i32_w]
      rfl
     refine pure_ (i := 4) (N := some 78) (v := ?_) (a' := ?_) #[oY,oY,oN,oN,oY,oN,oN,oN,oN] rfl rfl (by kernel_rfl) (fun _ _ _ h => h) (Or.inl ⟨by rfl, ?_⟩) ?_ ?_
     rotate_left
     ·intro w'
      go_simp
      with_reducible rfl
     rotate_left
     ·simp only [Act.put, List.setIfInBounds_toArray, List.set_cons_zero, List.set_cons_succ, i64_w, i32_w]
      rfl
     refine take_ (i := 2) (N := some 76) (v := ?_) (a' := ?_) #[oY,oY,oY,oN,oY,oN,oN,oN,oN] rfl rfl (by kernel_rfl) (fun _ _ _ h => h) (Or.inl ⟨by rfl, ?_⟩) hHeld ?_ ?_
     rotate_left
     ·rintro w' ⟨s0, s1⟩
      go_simp
      with_reducible rfl
     rotate_left
     ·simp only [Act.put, List.setIfInBounds_toArray, List.set_cons_zero, List.set_cons_succ, i64_w, i32_w]
      rfl
     refine take_ (i := 5) (N := some 79) (v := ?_) (a' := ?_) #[oY,oY,oY,oN,oY,oY,oN,oN,oN] rfl rfl (by kernel_rfl) (fun _ _ _ h => h) (Or.inl ⟨by rfl, ?_⟩) hHeld ?_ ?_
     rotate_left
     ·rintro w' ⟨s0, s1⟩
      go_simp
      with_reducible rfl
     rotate_left
     ·simp only [Act.put, List.setIfInBounds_toArray, List.set_cons_zero, List.set_cons_succ, i64_w, i32_w]
      rfl
     refine one_ (i := 3) (N := some 77) #[oY,oY,oY,oY,oY,oY,oN,oN,oN] rfl rfl (by kernel_rfl) (by decide) (fun K hK => ?_)
     refine goes_ Try.func15 (by kernel_rfl) rfl #[.pointer (some ⟨b, 0, none⟩), vI ⟨x.f0, x.f1, t⟩] (by rfl) rfl rfl (by simp only [List.map_toArray, List.map_cons, List.map_nil]; rfl) ?_
     refine (push_at hA5 (x := ⟨x.f0, x.f1, t⟩) ⟨hox.1, hox.2.1, hwt⟩).mono ?_
     rintro e w6 ⟨rfl, u, hA6, qA, kA⟩
     refine ⟨_, rfl, ?_⟩
     have bX6 := bXd.fr kA nXA
     have bY6 := bYd.fr kA nYA
     have hB6 := hB5.fr kA (fun j hj e => hd.out j e hj)
     have zA := hz.next qA F5d.size
     have D6 := dis_next hd.out qA hB5.lt
     have f6 := F5d.fz hz kA
     have ms6 : MvS xB yB x t a1 w6 := MvS.of bX6 bY6
     refine hK.out _ _ ⟨ms6.1, ms6.2⟩ (fun hHeld => ?_)
     clear hK K
     refine norm_ (a' := ?_) ?_ ?_
     rotate_left
     ·show Act.put _ (some 77) _ = _
      simp only [Act.put, List.setIfInBounds_toArray, List.set_cons_zero, List.set_cons_succ, i64_w, i32_w]
      rfl
     refine one_ (i := 6) (N := some 80) #[oY,oY,oY,oY,oY,oY,oY,oN,oN] rfl rfl (by kernel_rfl) (by decide) (fun K hK => ?_)
     refine goes_ Try.func15 (by kernel_rfl) rfl #[.pointer (some ⟨b', 0, none⟩), vI ⟨x.f0, x.f1, t + a1⟩] (by rfl) rfl rfl (by simp only [List.map_toArray, List.map_cons, List.map_nil]; rfl) ?_
     refine (push_at hB6 (x := sh a1 ⟨x.f0, x.f1, t⟩) ⟨hox.1, hox.2.1, hwy⟩).mono ?_
     rintro e w9 ⟨rfl, u', hB9, qB, kB⟩
     rw [shL_pushE]
     rw [shL_pushL] at hB9
     refine ⟨_, rfl, ?_⟩
     have bX9 := bX6.fr kB nXB
     have bY9 := bY6.fr kB nYB
     have hA9 := hA6.fr kB (fun j hj e => D6 j hj e)
     have z9' := hz'.next qB f6.size
     have D9 : Hid (∀ i, Ft b m u i → ¬ Ft b' m' u' i) := hid (dis_next' D6 qB hA6.lt)
     have f9 := f6.fz hz' kB
     have ms9 : MvS xB yB x t a1 w9 := MvS.of bX9 bY9
     refine hK.out _ _ ⟨ms9.1, ms9.2⟩ (fun hHeld => ?_)
     clear hK K
     refine norm_ (a' := ?_) ?_ ?_
     rotate_left
     ·show Act.put _ (some 80) _ = _
      simp only [Act.put, List.setIfInBounds_toArray, List.set_cons_zero, List.set_cons_succ, i64_w, i32_w]
      rfl
     refine pure_ (i := 7) (N := some 81) (v := ?_) (a' := ?_) #[oY,oY,oY,oY,oY,oY,oY,oY,oN] rfl rfl (by kernel_rfl) (fun _ _ _ h => h) (Or.inl ⟨by rfl, ?_⟩) ?_ ?_
     rotate_left
     ·intro w'
      go_simp
      with_reducible rfl
     rotate_left
     ·simp only [Act.put, List.setIfInBounds_toArray, List.set_cons_zero, List.set_cons_succ, i64_w, i32_w]
      rfl
     refine pure_ (i := 8) (N := some 12) (v := ?_) (a' := ?_) #[oY,oY,oY,oY,oY,oY,oY,oY,oY] rfl rfl (by kernel_rfl) (fun _ _ _ h => h) (Or.inl ⟨by rfl, ?_⟩) ?_ ?_
     rotate_left
     ·intro w'
      go_simp
      with_reducible rfl
     rotate_left
     ·simp only [Act.put, List.setIfInBounds_toArray, List.set_cons_zero, List.set_cons_succ, i64_w, i32_w]
      rfl
     refine done_ (by kernel_rfl) ?_
     obtain ⟨M, hM⟩ : ∃ M, M = pushL L 60 ⟨x.f0, x.f1, t⟩ := ⟨_, rfl⟩
     have HOK : Hid (Ok M ∧ AllIn 0 1099511627775 M) := hid (by rw [hM]; exact ⟨ok_pushL hl.out.1, hl.out.2.push htr⟩)
     rw [← hM] at hA9 hB9
     have z9 := zA
     clear hHeld ms9 ms6 ms bX6 bX9 bY6 bY9 hA5 hB5 hA6 hB6 kA kB qA qB bX bY bXd bYd f5 F5 F5d f6 D6 zA nXA nYA nXB nYB sA sB hM HH HH' hz hz' hd hl hf
     have hsm := hA9.small
     have hlB : (shL a1 M).length = M.length := shL_len _ _
     have HLB := hid hlB
     clear hlB
     go_wp2_with fail
     refine (row_at hA9).mono ?_
     rintro e wa ⟨A1, c1, rfl, hc1, C1, ka⟩
     have hAa := hA9.fr0 ka
     have hBa := hB9.fr0 ka
     have fa := f9.trans ka (fun _ _ h => h)
     clear hA9 hB9 f9 ka
     go_wp2_with fail
     refine (ids_at C1 hc1 hsm).mono ?_
     rintro e wb ⟨A2, c2, rfl, hc2, C2, kb⟩
     have hAb := hAa.fr0 kb
     have hBb := hBa.fr0 kb
     have fb := fa.trans kb (fun _ _ h => h)
     clear hAa hBa fa kb C1 hc1
     go_wp2_with fail
     refine (row_at hBb).mono ?_
     rintro e wc ⟨A3, c3, rfl, hc3, C3, kc⟩
     have hAc := hAb.fr0 kc
     have hBc := hBb.fr0 kc
     have C2c := Kd.C_below C2 kc.below
     have fc := fb.trans kc (fun _ _ h => h)
     clear hAb hBb fb kc C2
     go_wp2_with fail
     refine (ids_at C3 hc3 (by rw [HLB.out]; exact hsm)).mono ?_
     rintro e wd ⟨A4, c4, rfl, hc4', C4, kd⟩
     have hAd := hAc.fr0 kd
     have hBd := hBc.fr0 kd
     have C2d := Kd.C_below C2c kd.below
     have fd := fc.trans kd (fun _ _ h => h)
     rw [shL_ids, HLB.out] at C4
     rw [HLB.out] at hc4'
     clear hAc hBc fc kd C2c C3 hc3
     rw [HLB.out]
     go_wp2_with fail
     refine (equal_at C2d C4 (by simp) hc2 hc4' hsm).mono ?_
     rintro e we ⟨rfl, ke⟩
     have hAe := hAd.fr0 ke
     have hBe := hBd.fr0 ke
     have fe := fd.trans ke (fun _ _ h => h)
     clear hAd hBd fd ke C2d C4 hc2 hc4' hsm
     go_wp2_with fail
     go_roundw
     case rel => exact ⟨i + 1, M, u, u', hlt, by omega, by simp, hAe, hBe, z9, z9', D9, HOK, fe⟩
     case measure => simp [intOf]; omega
    ·have r0 : (q == 0) = false := by rw [beq_eq_false_iff_ne]; exact q0
     by_cases q1 : q = 1
     ·subst q1
      go_wp2_with fail
      generalize hW : World.alloc (World.alloc wr _) _ = W
      have f5 : Fr (fun _ => False) wr W := by subst hW; (repeat' (first | (with_reducible exact Fr.refl _ _) | (with_reducible assumption) | (with_reducible refine Fr.alloc ?_ _) | (with_reducible refine Fr.drew ?_) | (with_reducible refine Fr.drewN ?_ _) | (with_reducible refine Fr.setCell ?_ _ _ ?_) | (exact Or.inr rfl) | (left; simp; done) | (left; simp; omega) | (simp; done) | (simp; omega) | omega))
      have bX : Blk W wr.heap.size #[.int .i64 1, .int .u64 x.f0, .int .u64 x.f1, .int .i64 t] 40 := by subst hW; (repeat' (first | (with_reducible assumption) | (with_reducible apply Blk.drew) | (with_reducible apply Blk.drewN) | (with_reducible apply Blk.set) | (with_reducible apply Blk.other) | (exact Blk.new' _ _ _ (by first | rfl | (simp; done) | (simp; omega))) | (with_reducible apply Blk.alloc) | (with_reducible rfl) | (simp; done) | (simp; omega) | omega | rfl))
      have bY : Blk W (wr.heap.size + 1) #[.int .u64 x.f0, .int .u64 x.f1, .int .i64 (t + a1)] 24 := by subst hW; (repeat' (first | (with_reducible assumption) | (with_reducible apply Blk.drew) | (with_reducible apply Blk.drewN) | (with_reducible apply Blk.set) | (with_reducible apply Blk.other) | (exact Blk.new' _ _ _ (by first | rfl | (simp; done) | (simp; omega))) | (with_reducible apply Blk.alloc) | (with_reducible rfl) | (simp; done) | (simp; omega) | omega | rfl))
      clear hW c0' c1' c2' c3' e1 e1' e2 e2' l1 ht'
      have sA := HH.out.lt
      have sB := HH'.out.lt
      have nXA : ¬ Ft b m v wr.heap.size := fun e => by have := sA _ e; omega
      have nYA : ¬ Ft b m v (wr.heap.size + 1) := fun e => by have := sA _ e; omega
      have nXB : ¬ Ft b' m' v' wr.heap.size := fun e => by have := sB _ e; omega
      have nYB : ¬ Ft b' m' v' (wr.heap.size + 1) := fun e => by have := sB _ e; omega
      have F5 := hf.trans f5 (fun _ _ h => h)
      generalize wr.heap.size + 1 = yB at *
      generalize wr.heap.size = xB at *
      have hA5 := HH.out.fr0 (f5.trans (Fr.drew (Fr.refl _ _)) (fun _ _ h => h))
      have hB5 := HH'.out.fr0 (f5.trans (Fr.drew (Fr.refl _ _)) (fun _ _ h => h))
      have F5d := F5.trans (Fr.drew (Fr.refl _ _)) (fun _ _ h => h)
      have bXd : Blk W.drew xB _ _ := bX
      have bYd : Blk W.drew yB _ _ := bY
      have ms : MvS xB yB x t a1 W.drew := MvS.of bXd bYd
      refine start_ (n := 9) (S := fun w' => (w'.cell? ⟨xB, 1, none⟩ = some (.int .u64 x.f0) ∧ w'.cell? ⟨xB, 2, none⟩ = some (.int .u64 x.f1) ∧ w'.cell? ⟨xB, 3, none⟩ = some (.int .i64 t)) ∧ (w'.cell? ⟨yB, 0, none⟩ = some (.int .u64 x.f0) ∧ w'.cell? ⟨yB, 1, none⟩ = some (.int .u64 x.f1) ∧ w'.cell? ⟨yB, 2, none⟩ = some (.int .i64 (t + a1)))) (ds := []) #[oN,oN,oN,oN,oN,oN,oN,oN,oN] (by kernel_rfl) rfl rfl ⟨ms.1, ms.2⟩ (fun hHeld => ?_)
      refine pure_ (i := 0) (N := some 84) (v := ?_) (a' := ?_) #[oY,oN,oN,oN,oN,oN,oN,oN,oN] rfl rfl (by kernel_rfl) (fun _ _ _ h => h) (Or.inl ⟨by rfl, ?_⟩) ?_ ?_
      rotate_left
      ·intro w'
       go_simp
       with_reducible rfl
      rotate_left
      ·simp only [Act.put, List.setIfInBounds_toArray, List.set_cons_zero, List.set_cons_succ, i64_w, i32_w]
       rfl
      refine pure_ (i := 1) (N := some 85) (v := ?_) (a' := ?_) #[oY,oY,oN,oN,oN,oN,oN,oN,oN] rfl rfl (by kernel_rfl) (fun _ _ _ h => h) (Or.inl ⟨by rfl, ?_⟩) ?_ ?_
      rotate_left
      ·intro w'
       go_simp
       with_reducible rfl
      rotate_left
      ·simp only [Act.put, List.setIfInBounds_toArray, List.set_cons_zero, List.set_cons_succ, i64_w, i32_w]
       rfl
      refine pure_ (i := 4) (N := some 88) (v := ?_) (a' := ?_) #[oY,oY,oN,oN,oY,oN,oN,oN,oN] rfl rfl (by kernel_rfl) (fun _ _ _ h => h) (Or.inl ⟨by rfl, ?_⟩) ?_ ?_
      rotate_left
      ·intro w'
       go_simp
       with_reducible rfl
      rotate_left
      ·simp only [Act.put, List.setIfInBounds_toArray, List.set_cons_zero, List.set_cons_succ, i64_w, i32_w]
       rfl
      refine take_ (i := 2) (N := some 86) (v := ?_) (a' := ?_) #[oY,oY,oY,oN,oY,oN,oN,oN,oN] rfl rfl (by kernel_rfl) (fun _ _ _ h => h) (Or.inl ⟨by rfl, ?_⟩) hHeld ?_ ?_
      rotate_left
      ·rintro w' ⟨s0, s1⟩
       go_simp
       with_reducible rfl
      rotate_left
      ·simp only [Act.put, List.setIfInBounds_toArray, List.set_cons_zero, List.set_cons_succ, i64_w, i32_w]
       rfl
      refine take_ (i := 5) (N := some 89) (v := ?_) (a' := ?_) #[oY,oY,oY,oN,oY,oY,oN,oN,oN] rfl rfl (by kernel_rfl) (fun _ _ _ h => h) (Or.inl ⟨by rfl, ?_⟩) hHeld ?_ ?_
      rotate_left
      ·rintro w' ⟨s0, s1⟩
       go_simp
       with_reducible rfl
      rotate_left
      ·simp only [Act.put, List.setIfInBounds_toArray, List.set_cons_zero, List.set_cons_succ, i64_w, i32_w]
       rfl
      refine one_ (i := 3) (N := some 87) #[oY,oY,oY,oY,oY,oY,oN,oN,oN] rfl rfl (by kernel_rfl) (by decide) (fun K hK => ?_)
      refine goes_ Try.func18 (by kernel_rfl) rfl #[.pointer (some ⟨b, 0, none⟩), vI ⟨x.f0, x.f1, t⟩] (by rfl) rfl rfl (by simp only [List.map_toArray, List.map_cons, List.map_nil]; rfl) ?_
      refine (set_at hA5 (x := ⟨x.f0, x.f1, t⟩) ⟨hox.1, hox.2.1, hwt⟩).mono ?_
      rintro e w6 ⟨rfl, u, hA6, qA, kA⟩
      refine ⟨_, rfl, ?_⟩
      have bX6 := bXd.fr kA nXA
      have bY6 := bYd.fr kA nYA
      have hB6 := hB5.fr kA (fun j hj e => hd.out j e hj)
      have zA := hz.next qA F5d.size
      have D6 := dis_next hd.out qA hB5.lt
      have f6 := F5d.fz hz kA
      have ms6 : MvS xB yB x t a1 w6 := MvS.of bX6 bY6
      refine hK.out _ _ ⟨ms6.1, ms6.2⟩ (fun hHeld => ?_)
      clear hK K
      refine norm_ (a' := ?_) ?_ ?_
      rotate_left
      ·show Act.put _ (some 87) _ = _
       simp only [Act.put, List.setIfInBounds_toArray, List.set_cons_zero, List.set_cons_succ, i64_w, i32_w]
       rfl
      refine one_ (i := 6) (N := some 90) #[oY,oY,oY,oY,oY,oY,oY,oN,oN] rfl rfl (by kernel_rfl) (by decide) (fun K hK => ?_)
      refine goes_ Try.func18 (by kernel_rfl) rfl #[.pointer (some ⟨b', 0, none⟩), vI ⟨x.f0, x.f1, t + a1⟩] (by rfl) rfl rfl (by simp only [List.map_toArray, List.map_cons, List.map_nil]; rfl) ?_
      refine (set_at hB6 (x := sh a1 ⟨x.f0, x.f1, t⟩) ⟨hox.1, hox.2.1, hwy⟩).mono ?_
      rintro e w9 ⟨rfl, u', hB9, qB, kB⟩
      rw [shL_setE]
      rw [shL_setL] at hB9
      refine ⟨_, rfl, ?_⟩
      have bX9 := bX6.fr kB nXB
      have bY9 := bY6.fr kB nYB
      have hA9 := hA6.fr kB (fun j hj e => D6 j hj e)
      have z9' := hz'.next qB f6.size
      have D9 : Hid (∀ i, Ft b m u i → ¬ Ft b' m' u' i) := hid (dis_next' D6 qB hA6.lt)
      have f9 := f6.fz hz' kB
      have ms9 : MvS xB yB x t a1 w9 := MvS.of bX9 bY9
      refine hK.out _ _ ⟨ms9.1, ms9.2⟩ (fun hHeld => ?_)
      clear hK K
      refine norm_ (a' := ?_) ?_ ?_
      rotate_left
      ·show Act.put _ (some 90) _ = _
       simp only [Act.put, List.setIfInBounds_toArray, List.set_cons_zero, List.set_cons_succ, i64_w, i32_w]
       rfl
      refine pure_ (i := 7) (N := some 91) (v := ?_) (a' := ?_) #[oY,oY,oY,oY,oY,oY,oY,oY,oN] rfl rfl (by kernel_rfl) (fun _ _ _ h => h) (Or.inl ⟨by rfl, ?_⟩) ?_ ?_
      rotate_left
      ·intro w'
       go_simp
       with_reducible rfl
      rotate_left
      ·simp only [Act.put, List.setIfInBounds_toArray, List.set_cons_zero, List.set_cons_succ, i64_w, i32_w]
       rfl
      refine pure_ (i := 8) (N := some 12) (v := ?_) (a' := ?_) #[oY,oY,oY,oY,oY,oY,oY,oY,oY] rfl rfl (by kernel_rfl) (fun _ _ _ h => h) (Or.inl ⟨by rfl, ?_⟩) ?_ ?_
      rotate_left
      ·intro w'
       go_simp
       with_reducible rfl
      rotate_left
      ·simp only [Act.put, List.setIfInBounds_toArray, List.set_cons_zero, List.set_cons_succ, i64_w, i32_w]
       rfl
      refine done_ (by kernel_rfl) ?_
      obtain ⟨M, hM⟩ : ∃ M, M = setL L ⟨x.f0, x.f1, t⟩ := ⟨_, rfl⟩
      have HOK : Hid (Ok M ∧ AllIn 0 1099511627775 M) := hid (by rw [hM]; exact ⟨ok_setL hl.out.1, hl.out.2.set htr⟩)
      rw [← hM] at hA9 hB9
      have z9 := zA
      clear hHeld ms9 ms6 ms bX6 bX9 bY6 bY9 hA5 hB5 hA6 hB6 kA kB qA qB bX bY bXd bYd f5 F5 F5d f6 D6 zA nXA nYA nXB nYB sA sB hM HH HH' hz hz' hd hl hf
      have hsm := hA9.small
      have hlB : (shL a1 M).length = M.length := shL_len _ _
      have HLB := hid hlB
      clear hlB
      go_wp2_with fail
      refine (row_at hA9).mono ?_
      rintro e wa ⟨A1, c1, rfl, hc1, C1, ka⟩
      have hAa := hA9.fr0 ka
      have hBa := hB9.fr0 ka
      have fa := f9.trans ka (fun _ _ h => h)
      clear hA9 hB9 f9 ka
      go_wp2_with fail
      refine (ids_at C1 hc1 hsm).mono ?_
      rintro e wb ⟨A2, c2, rfl, hc2, C2, kb⟩
      have hAb := hAa.fr0 kb
      have hBb := hBa.fr0 kb
      have fb := fa.trans kb (fun _ _ h => h)
      clear hAa hBa fa kb C1 hc1
      go_wp2_with fail
      refine (row_at hBb).mono ?_
      rintro e wc ⟨A3, c3, rfl, hc3, C3, kc⟩
      have hAc := hAb.fr0 kc
      have hBc := hBb.fr0 kc
      have C2c := Kd.C_below C2 kc.below
      have fc := fb.trans kc (fun _ _ h => h)
      clear hAb hBb fb kc C2
      go_wp2_with fail
      refine (ids_at C3 hc3 (by rw [HLB.out]; exact hsm)).mono ?_
      rintro e wd ⟨A4, c4, rfl, hc4', C4, kd⟩
      have hAd := hAc.fr0 kd
      have hBd := hBc.fr0 kd
      have C2d := Kd.C_below C2c kd.below
      have fd := fc.trans kd (fun _ _ h => h)
      rw [shL_ids, HLB.out] at C4
      rw [HLB.out] at hc4'
      clear hAc hBc fc kd C2c C3 hc3
      rw [HLB.out]
      go_wp2_with fail
      refine (equal_at C2d C4 (by simp) hc2 hc4' hsm).mono ?_
      rintro e we ⟨rfl, ke⟩
      have hAe := hAd.fr0 ke
      have hBe := hBd.fr0 ke
      have fe := fd.trans ke (fun _ _ h => h)
      clear hAd hBd fd ke C2d C4 hc2 hc4' hsm
      go_wp2_with fail
      go_roundw
      case rel => exact ⟨i + 1, M, u, u', hlt, by omega, by simp, hAe, hBe, z9, z9', D9, HOK, fe⟩
      case measure => simp [intOf]; omega
     ·have r1 : (q == 1) = false := by rw [beq_eq_false_iff_ne]; exact q1
      by_cases q2 : q = 2
      ·subst q2
       go_wp2_with fail
       generalize hW : World.alloc (World.alloc wr _) _ = W
       have f5 : Fr (fun _ => False) wr W := by subst hW; (repeat' (first | (with_reducible exact Fr.refl _ _) | (with_reducible assumption) | (with_reducible refine Fr.alloc ?_ _) | (with_reducible refine Fr.drew ?_) | (with_reducible refine Fr.drewN ?_ _) | (with_reducible refine Fr.setCell ?_ _ _ ?_) | (exact Or.inr rfl) | (left; simp; done) | (left; simp; omega) | (simp; done) | (simp; omega) | omega))
       have bX : Blk W wr.heap.size #[.int .i64 2, .int .u64 x.f0, .int .u64 x.f1, .int .i64 t] 40 := by subst hW; (repeat' (first | (with_reducible assumption) | (with_reducible apply Blk.drew) | (with_reducible apply Blk.drewN) | (with_reducible apply Blk.set) | (with_reducible apply Blk.other) | (exact Blk.new' _ _ _ (by first | rfl | (simp; done) | (simp; omega))) | (with_reducible apply Blk.alloc) | (with_reducible rfl) | (simp; done) | (simp; omega) | omega | rfl))
       have bY : Blk W (wr.heap.size + 1) #[.int .u64 x.f0, .int .u64 x.f1, .int .i64 (t + a1)] 24 := by subst hW; (repeat' (first | (with_reducible assumption) | (with_reducible apply Blk.drew) | (with_reducible apply Blk.drewN) | (with_reducible apply Blk.set) | (with_reducible apply Blk.other) | (exact Blk.new' _ _ _ (by first | rfl | (simp; done) | (simp; omega))) | (with_reducible apply Blk.alloc) | (with_reducible rfl) | (simp; done) | (simp; omega) | omega | rfl))
       clear hW c0' c1' c2' c3' e1 e1' e2 e2' l1 ht'
       have sA := HH.out.lt
       have sB := HH'.out.lt
       have nXA : ¬ Ft b m v wr.heap.size := fun e => by have := sA _ e; omega
       have nYA : ¬ Ft b m v (wr.heap.size + 1) := fun e => by have := sA _ e; omega
       have nXB : ¬ Ft b' m' v' wr.heap.size := fun e => by have := sB _ e; omega
       have nYB : ¬ Ft b' m' v' (wr.heap.size + 1) := fun e => by have := sB _ e; omega
       have F5 := hf.trans f5 (fun _ _ h => h)
       generalize wr.heap.size + 1 = yB at *
       generalize wr.heap.size = xB at *
       have hA5 := HH.out.fr0 f5
       have hB5 := HH'.out.fr0 f5
       have ax := bX.cell 1
       simp at ax
       refine (rem_at hA5 (id := x.f0) hox.1).mono ?_
       rintro e w6 ⟨rfl, u, hA6, qA, kA⟩
       have hB6a := hB5.fr kA (fun j hj e => hd.out j e hj)
       have zA := hz.next qA F5.size
       have D6 := dis_next hd.out qA hB5.lt
       have f6 := F5.fz hz kA
       have bY6 := bY.fr kA nYA
       have ay := bY6.cell 0
       have ly := lt8 bY6.lt
       have ly0 := bY6.lt
       simp at ay
       clear ax
       go_wp2_with fail
       generalize hW : World.alloc w6 _ = W6
       have j6 : Fr (fun _ => False) w6 W6 := by subst hW; (repeat' (first | (with_reducible exact Fr.refl _ _) | (with_reducible assumption) | (with_reducible refine Fr.alloc ?_ _) | (with_reducible refine Fr.drew ?_) | (with_reducible refine Fr.drewN ?_ _) | (with_reducible refine Fr.setCell ?_ _ _ ?_) | (exact Or.inr rfl) | (left; simp; done) | (left; simp; omega) | (simp; done) | (simp; omega) | omega))
       have bP : Blk W6 w6.heap.size (vI (remX L x.f0)).cells 24 := by subst hW; exact Blk.new _ _ _
       clear hW ay ly ly0
       have hA7 := hA6.fr0 j6
       have hB6 := hB6a.fr0 j6
       have f7 := f6.trans j6 (fun _ _ h => h)
       refine (rem_at hB6 (id := x.f0) hox.1).mono ?_
       rintro e w9 ⟨rfl, u', hB9, qB, kB⟩
       rw [shL_remE]
       rw [shL_remL] at hB9
       have hA9 := hA7.fr kB (fun j hj e => D6 j hj e)
       have z9' := hz'.next qB f7.size
       have D9 : Hid (∀ i, Ft b m u i → ¬ Ft b' m' u' i) := hid (dis_next' D6 qB hA7.lt)
       have f9 := f7.fz hz' kB
       have bP9 := bP.fr kB (fun e => by have := hB6a.lt _ e; omega)
       obtain ⟨M, hM⟩ : ∃ M, M = remL L x.f0 := ⟨_, rfl⟩
       have HOK : Hid (Ok M ∧ AllIn 0 1099511627775 M) := hid (by rw [hM]; exact ⟨ok_remL hl.out.1, hl.out.2.rem⟩)
       rw [← hM] at hA9 hB9
       have z9 := zA
       clear hA5 hB5 hA6 hB6 hB6a hA7 kA kB qA qB bX bY bY6 f5 F5 f6 f7 D6 zA nXA nYA nXB nYB sA sB hM HH HH' hz hz' hd hl hf j6
       have lp := lt8 bP9.lt
       clear bP bP9 lp
       go_wp2_with fail
       generalize hW : World.alloc w9 _ = W9
       have j9 : Fr (fun _ => False) w9 W9 := by subst hW; (repeat' (first | (with_reducible exact Fr.refl _ _) | (with_reducible assumption) | (with_reducible refine Fr.alloc ?_ _) | (with_reducible refine Fr.drew ?_) | (with_reducible refine Fr.drewN ?_ _) | (with_reducible refine Fr.setCell ?_ _ _ ?_) | (exact Or.inr rfl) | (left; simp; done) | (left; simp; omega) | (simp; done) | (simp; omega) | omega))
       clear hW
       replace hA9 := hA9.fr0 j9
       replace hB9 := hB9.fr0 j9
       replace f9 := f9.trans j9 (fun _ _ h => h)
       clear j9
       have hsm := hA9.small
       have hlB : (shL a1 M).length = M.length := shL_len _ _
       have HLB := hid hlB
       clear hlB
       refine (row_at hA9).mono ?_
       rintro e wa ⟨A1, c1, rfl, hc1, C1, ka⟩
       have hAa := hA9.fr0 ka
       have hBa := hB9.fr0 ka
       have fa := f9.trans ka (fun _ _ h => h)
       clear hA9 hB9 f9 ka
       go_wp2_with fail
       refine (ids_at C1 hc1 hsm).mono ?_
       rintro e wb ⟨A2, c2, rfl, hc2, C2, kb⟩
       have hAb := hAa.fr0 kb
       have hBb := hBa.fr0 kb
       have fb := fa.trans kb (fun _ _ h => h)
       clear hAa hBa fa kb C1 hc1
       go_wp2_with fail
       refine (row_at hBb).mono ?_
       rintro e wc ⟨A3, c3, rfl, hc3, C3, kc⟩
       have hAc := hAb.fr0 kc
       have hBc := hBb.fr0 kc
       have C2c := Kd.C_below C2 kc.below
       have fc := fb.trans kc (fun _ _ h => h)
       clear hAb hBb fb kc C2
       go_wp2_with fail
       refine (ids_at C3 hc3 (by rw [HLB.out]; exact hsm)).mono ?_
       rintro e wd ⟨A4, c4, rfl, hc4', C4, kd⟩
       have hAd := hAc.fr0 kd
       have hBd := hBc.fr0 kd
       have C2d := Kd.C_below C2c kd.below
       have fd := fc.trans kd (fun _ _ h => h)
       rw [shL_ids, HLB.out] at C4
       rw [HLB.out] at hc4'
       clear hAc hBc fc kd C2c C3 hc3
       rw [HLB.out]
       go_wp2_with fail
       refine (equal_at C2d C4 (by simp) hc2 hc4' hsm).mono ?_
       rintro e we ⟨rfl, ke⟩
       have hAe := hAd.fr0 ke
       have hBe := hBd.fr0 ke
       have fe := fd.trans ke (fun _ _ h => h)
       clear hAd hBd fd ke C2d C4 hc2 hc4' hsm
       go_wp2_with fail
       go_roundw
       case rel => exact ⟨i + 1, M, u, u', hlt, by omega, by simp, hAe, hBe, z9, z9', D9, HOK, fe⟩
       case measure => simp [intOf]; omega
      ·have r2 : (q == 2) = false := by rw [beq_eq_false_iff_ne]; exact q2
       by_cases q3 : q = 3
       ·subst q3
        go_wp2_with fail
        generalize hW : World.alloc (World.alloc wr _) _ = W
        have f5 : Fr (fun _ => False) wr W := by subst hW; (repeat' (first | (with_reducible exact Fr.refl _ _) | (with_reducible assumption) | (with_reducible refine Fr.alloc ?_ _) | (with_reducible refine Fr.drew ?_) | (with_reducible refine Fr.drewN ?_ _) | (with_reducible refine Fr.setCell ?_ _ _ ?_) | (exact Or.inr rfl) | (left; simp; done) | (left; simp; omega) | (simp; done) | (simp; omega) | omega))
        have bX : Blk W wr.heap.size #[.int .i64 3, .int .u64 x.f0, .int .u64 x.f1, .int .i64 t] 40 := by subst hW; (repeat' (first | (with_reducible assumption) | (with_reducible apply Blk.drew) | (with_reducible apply Blk.drewN) | (with_reducible apply Blk.set) | (with_reducible apply Blk.other) | (exact Blk.new' _ _ _ (by first | rfl | (simp; done) | (simp; omega))) | (with_reducible apply Blk.alloc) | (with_reducible rfl) | (simp; done) | (simp; omega) | omega | rfl))
        have bY : Blk W (wr.heap.size + 1) #[.int .u64 x.f0, .int .u64 x.f1, .int .i64 (t + a1)] 24 := by subst hW; (repeat' (first | (with_reducible assumption) | (with_reducible apply Blk.drew) | (with_reducible apply Blk.drewN) | (with_reducible apply Blk.set) | (with_reducible apply Blk.other) | (exact Blk.new' _ _ _ (by first | rfl | (simp; done) | (simp; omega))) | (with_reducible apply Blk.alloc) | (with_reducible rfl) | (simp; done) | (simp; omega) | omega | rfl))
        clear hW c0' c1' c2' c3' e1 e1' e2 e2' l1 ht'
        have sA := HH.out.lt
        have sB := HH'.out.lt
        have nXA : ¬ Ft b m v wr.heap.size := fun e => by have := sA _ e; omega
        have nYA : ¬ Ft b m v (wr.heap.size + 1) := fun e => by have := sA _ e; omega
        have nXB : ¬ Ft b' m' v' wr.heap.size := fun e => by have := sB _ e; omega
        have nYB : ¬ Ft b' m' v' (wr.heap.size + 1) := fun e => by have := sB _ e; omega
        have F5 := hf.trans f5 (fun _ _ h => h)
        generalize wr.heap.size + 1 = yB at *
        generalize wr.heap.size = xB at *
        have hA5 := HH.out.fr0 f5
        have hB5 := HH'.out.fr0 f5
        have ax := bX.cell 1
        simp at ax
        refine (pop_at hA5).mono ?_
        rintro e w6 ⟨rfl, u, hA6, qA, kA⟩
        have hB6a := hB5.fr kA (fun j hj e => hd.out j e hj)
        have zA := hz.next qA F5.size
        have D6 := dis_next hd.out qA hB5.lt
        have f6 := F5.fz hz kA
        have bY6 := bY.fr kA nYA
        have ay := bY6.cell 0
        have ly := lt8 bY6.lt
        have ly0 := bY6.lt
        simp at ay
        clear ax
        go_wp2_with fail
        generalize hW : World.alloc w6 _ = W6
        have j6 : Fr (fun _ => False) w6 W6 := by subst hW; (repeat' (first | (with_reducible exact Fr.refl _ _) | (with_reducible assumption) | (with_reducible refine Fr.alloc ?_ _) | (with_reducible refine Fr.drew ?_) | (with_reducible refine Fr.drewN ?_ _) | (with_reducible refine Fr.setCell ?_ _ _ ?_) | (exact Or.inr rfl) | (left; simp; done) | (left; simp; omega) | (simp; done) | (simp; omega) | omega))
        have bP : Blk W6 w6.heap.size (vI (popX L)).cells 24 := by subst hW; exact Blk.new _ _ _
        clear hW ay ly ly0
        have hA7 := hA6.fr0 j6
        have hB6 := hB6a.fr0 j6
        have f7 := f6.trans j6 (fun _ _ h => h)
        refine (pop_at hB6).mono ?_
        rintro e w9 ⟨rfl, u', hB9, qB, kB⟩
        rw [shL_popE]
        rw [shL_popL] at hB9
        have hA9 := hA7.fr kB (fun j hj e => D6 j hj e)
        have z9' := hz'.next qB f7.size
        have D9 : Hid (∀ i, Ft b m u i → ¬ Ft b' m' u' i) := hid (dis_next' D6 qB hA7.lt)
        have f9 := f7.fz hz' kB
        have bP9 := bP.fr kB (fun e => by have := hB6a.lt _ e; omega)
        obtain ⟨M, hM⟩ : ∃ M, M = popL L := ⟨_, rfl⟩
        have HOK : Hid (Ok M ∧ AllIn 0 1099511627775 M) := hid (by rw [hM]; exact ⟨ok_popL hl.out.1, hl.out.2.pop⟩)
        rw [← hM] at hA9 hB9
        have z9 := zA
        clear hA5 hB5 hA6 hB6 hB6a hA7 kA kB qA qB bX bY bY6 f5 F5 f6 f7 D6 zA nXA nYA nXB nYB sA sB hM HH HH' hz hz' hd hl hf j6
        have a9 := bP9.cell 0
        have lp := lt8 bP9.lt
        have lp0 := bP9.lt
        have hpx : (popX (shL a1 L)).f0 = (popX L).f0 := shL_popX _ _
        simp [Value.cells] at a9
        obtain ⟨pi, hpi⟩ : ∃ pi, pi = (popX L).f0 := ⟨_, rfl⟩
        rw [← hpi] at a9 hpx
        obtain ⟨py, hpy⟩ : ∃ py, py = popX (shL a1 L) := ⟨_, rfl⟩
        rw [← hpy] at hpx ⊢
        obtain ⟨p0, p1, p2⟩ := py
        simp only at hpx
        subst hpx
        clear bP bP9 hpy hpi
        go_wp2_with fail
        generalize hW : World.alloc w9 _ = W9
        have j9 : Fr (fun _ => False) w9 W9 := by subst hW; (repeat' (first | (with_reducible exact Fr.refl _ _) | (with_reducible assumption) | (with_reducible refine Fr.alloc ?_ _) | (with_reducible refine Fr.drew ?_) | (with_reducible refine Fr.drewN ?_ _) | (with_reducible refine Fr.setCell ?_ _ _ ?_) | (exact Or.inr rfl) | (left; simp; done) | (left; simp; omega) | (simp; done) | (simp; omega) | omega))
        clear hW a9 lp lp0
        replace hA9 := hA9.fr0 j9
        replace hB9 := hB9.fr0 j9
        replace f9 := f9.trans j9 (fun _ _ h => h)
        clear j9
        have hsm := hA9.small
        have hlB : (shL a1 M).length = M.length := shL_len _ _
        have HLB := hid hlB
        clear hlB
        refine (row_at hA9).mono ?_
        rintro e wa ⟨A1, c1, rfl, hc1, C1, ka⟩
        have hAa := hA9.fr0 ka
        have hBa := hB9.fr0 ka
        have fa := f9.trans ka (fun _ _ h => h)
        clear hA9 hB9 f9 ka
        go_wp2_with fail
        refine (ids_at C1 hc1 hsm).mono ?_
        rintro e wb ⟨A2, c2, rfl, hc2, C2, kb⟩
        have hAb := hAa.fr0 kb
        have hBb := hBa.fr0 kb
        have fb := fa.trans kb (fun _ _ h => h)
        clear hAa hBa fa kb C1 hc1
        go_wp2_with fail
        refine (row_at hBb).mono ?_
        rintro e wc ⟨A3, c3, rfl, hc3, C3, kc⟩
        have hAc := hAb.fr0 kc
        have hBc := hBb.fr0 kc
        have C2c := Kd.C_below C2 kc.below
        have fc := fb.trans kc (fun _ _ h => h)
        clear hAb hBb fb kc C2
        go_wp2_with fail
        refine (ids_at C3 hc3 (by rw [HLB.out]; exact hsm)).mono ?_
        rintro e wd ⟨A4, c4, rfl, hc4', C4, kd⟩
        have hAd := hAc.fr0 kd
        have hBd := hBc.fr0 kd
        have C2d := Kd.C_below C2c kd.below
        have fd := fc.trans kd (fun _ _ h => h)
        rw [shL_ids, HLB.out] at C4
        rw [HLB.out] at hc4'
        clear hAc hBc fc kd C2c C3 hc3
        rw [HLB.out]
        go_wp2_with fail
        refine (equal_at C2d C4 (by simp) hc2 hc4' hsm).mono ?_
        rintro e we ⟨rfl, ke⟩
        have hAe := hAd.fr0 ke
        have hBe := hBd.fr0 ke
        have fe := fd.trans ke (fun _ _ h => h)
        clear hAd hBd fd ke C2d C4 hc2 hc4' hsm
        go_wp2_with fail
        go_roundw
        case rel => exact ⟨i + 1, M, u, u', hlt, by omega, by simp, hAe, hBe, z9, z9', D9, HOK, fe⟩
        case measure => simp [intOf]; omega
       ·have r3 : (q == 3) = false := by rw [beq_eq_false_iff_ne]; exact q3
        go_wp2_with fail
        generalize hW : World.alloc (World.alloc wr _) _ = W
        have f5 : Fr (fun _ => False) wr W := by subst hW; (repeat' (first | (with_reducible exact Fr.refl _ _) | (with_reducible assumption) | (with_reducible refine Fr.alloc ?_ _) | (with_reducible refine Fr.drew ?_) | (with_reducible refine Fr.drewN ?_ _) | (with_reducible refine Fr.setCell ?_ _ _ ?_) | (exact Or.inr rfl) | (left; simp; done) | (left; simp; omega) | (simp; done) | (simp; omega) | omega))
        have bX : Blk W wr.heap.size #[.int .i64 q, .int .u64 x.f0, .int .u64 x.f1, .int .i64 t] 40 := by subst hW; (repeat' (first | (with_reducible assumption) | (with_reducible apply Blk.drew) | (with_reducible apply Blk.drewN) | (with_reducible apply Blk.set) | (with_reducible apply Blk.other) | (exact Blk.new' _ _ _ (by first | rfl | (simp; done) | (simp; omega))) | (with_reducible apply Blk.alloc) | (with_reducible rfl) | (simp; done) | (simp; omega) | omega | rfl))
        have bY : Blk W (wr.heap.size + 1) #[.int .u64 x.f0, .int .u64 x.f1, .int .i64 (t + a1)] 24 := by subst hW; (repeat' (first | (with_reducible assumption) | (with_reducible apply Blk.drew) | (with_reducible apply Blk.drewN) | (with_reducible apply Blk.set) | (with_reducible apply Blk.other) | (exact Blk.new' _ _ _ (by first | rfl | (simp; done) | (simp; omega))) | (with_reducible apply Blk.alloc) | (with_reducible rfl) | (simp; done) | (simp; omega) | omega | rfl))
        clear hW c0' c1' c2' c3' e1 e1' e2 e2' l1 ht'
        have sA := HH.out.lt
        have sB := HH'.out.lt
        have nXA : ¬ Ft b m v wr.heap.size := fun e => by have := sA _ e; omega
        have nYA : ¬ Ft b m v (wr.heap.size + 1) := fun e => by have := sA _ e; omega
        have nXB : ¬ Ft b' m' v' wr.heap.size := fun e => by have := sB _ e; omega
        have nYB : ¬ Ft b' m' v' (wr.heap.size + 1) := fun e => by have := sB _ e; omega
        have F5 := hf.trans f5 (fun _ _ h => h)
        generalize wr.heap.size + 1 = yB at *
        generalize wr.heap.size = xB at *
        have hA9 := HH.out.fr0 f5
        have hB9 := HH'.out.fr0 f5
        have f9 := F5
        have z9 := hz
        have z9' := hz'
        have D9 := hd
        have HOK := hl
        obtain ⟨M, hM⟩ : ∃ M, M = L := ⟨_, rfl⟩
        subst hM
        obtain ⟨u, hu⟩ : ∃ u, u = v := ⟨_, rfl⟩
        obtain ⟨u', hu'⟩ : ∃ u, u = v' := ⟨_, rfl⟩
        subst hu hu'
        clear bX bY nXA nYA nXB nYB sA sB HH HH' F5 f5 hf hz hz' hd hl
        have hsm := hA9.small
        have hlB : (shL a1 M).length = M.length := shL_len _ _
        have HLB := hid hlB
        clear hlB
        refine (row_at hA9).mono ?_
        rintro e wa ⟨A1, c1, rfl, hc1, C1, ka⟩
        have hAa := hA9.fr0 ka
        have hBa := hB9.fr0 ka
        have fa := f9.trans ka (fun _ _ h => h)
        clear hA9 hB9 f9 ka
        go_wp2_with fail
        refine (ids_at C1 hc1 hsm).mono ?_
        rintro e wb ⟨A2, c2, rfl, hc2, C2, kb⟩
        have hAb := hAa.fr0 kb
        have hBb := hBa.fr0 kb
        have fb := fa.trans kb (fun _ _ h => h)
        clear hAa hBa fa kb C1 hc1
        go_wp2_with fail
        refine (row_at hBb).mono ?_
        rintro e wc ⟨A3, c3, rfl, hc3, C3, kc⟩
        have hAc := hAb.fr0 kc
        have hBc := hBb.fr0 kc
        have C2c := Kd.C_below C2 kc.below
        have fc := fb.trans kc (fun _ _ h => h)
        clear hAb hBb fb kc C2
        go_wp2_with fail
        refine (ids_at C3 hc3 (by rw [HLB.out]; exact hsm)).mono ?_
        rintro e wd ⟨A4, c4, rfl, hc4', C4, kd⟩
        have hAd := hAc.fr0 kd
        have hBd := hBc.fr0 kd
        have C2d := Kd.C_below C2c kd.below
        have fd := fc.trans kd (fun _ _ h => h)
        rw [shL_ids, HLB.out] at C4
        rw [HLB.out] at hc4'
        clear hAc hBc fc kd C2c C3 hc3
        rw [HLB.out]
        go_wp2_with fail
        refine (equal_at C2d C4 (by simp) hc2 hc4' hsm).mono ?_
        rintro e we ⟨rfl, ke⟩
        have hAe := hAd.fr0 ke
        have hBe := hBd.fr0 ke
        have fe := fd.trans ke (fun _ _ h => h)
        clear hAd hBd fd ke C2d C4 hc2 hc4' hsm
        go_wp2_with fail
        go_roundw
        case rel => exact ⟨i + 1, M, u, u', hlt, by omega, by simp, hAe, hBe, z9, z9', D9, HOK, fe⟩
        case measure => simp [intOf]; omega
  ·have l1 : ¬ (i : Int) < (len0 : Int) := by omega
   obtain ⟨hok, _⟩ := hl.out
   have hsm := hh.small
   have hlen60 : L.length ≤ 60 := by have := hh.len; omega
   have huL := hh.uniq
   have hoL := hh.ok
   have HOK := hid hok
   clear hl hok hi hi4 hh' hz' hd
   obtain ⟨n, hn⟩ : ∃ n, n = L.length := ⟨_, rfl⟩
   rw [← hn] at hsm hlen60
   have HN := hid hn
   clear hn
   go_wp2_with fail
   refine (new_at (size := 60) (by omega) (by omega)).mono ?_
   rintro e w5 ⟨c, mc, rfl, hC5, hcb, hcm, k5⟩
   have dC : ∀ i, Ft b m v i → ¬ Ft c mc (.slice none 0 0) i := fun i hi hj => by
    have h1 := hh.lt i hi
    rcases hj with e | e | e
    ·omega
    ·omega
    ·cases e
   have zC : Fz w.heap.size c mc (.slice none 0 0) := Fz.made (Nat.le_trans hf.size hcb) (Nat.le_trans hf.size hcm)
   have hA5 := hh.fr0 k5
   have f5 := hf.trans k5 (fun _ _ h => h)
   clear hh hf k5 hcb hcm
   go_wp2_with fail
   refine (row_at2 hA5).mono ?_
   rintro e w6 ⟨A1, c1, rfl, hc1, C1, k6, hA1⟩
   have ccl : c < w5.heap.size := hC5.lt _ (.inl rfl)
   have mcl : mc < w5.heap.size := hC5.lt _ (.inr (.inl rfl))
   have hw56 := k6.size
   have hA6 := hA5.fr0 k6
   have hC6 := hC5.fr0 k6
   have f6 := f5.trans k6 (fun _ _ h => h)
   clear hA5 hC5 f5 k6
   rw [← HN.out] at C1 hc1 ⊢
   have l60 : n ≤ 9223372036854775807 := by omega
   have DC := hid dC
   have HC1 := hid (fun h => C24_open C1 HN.out h)
   have HA1 : Hid (∀ ad, A1 = some ad → ad.block ≠ c ∧ ad.block ≠ mc) := hid (fun ad e => by have := hA1 ad e; omega)
   have hAll : Hid (∀ i, Ft b m v i → i ≠ c ∧ i ≠ mc) := hid (fun i hi => ⟨fun e => DC.out i hi (.inl e), fun e => DC.out i hi (.inr (.inl e))⟩)
   clear C1 dC hA1
   go_wp2_with fail
   go_loopw [155] (fun v155 wr => ∃ (k : Nat) (N : List It) (u : Value), k ≤ n ∧ v155 = .int .i64 (k : Int) ∧ HP wr b m v L 60 ∧ HP wr c mc u N 60 ∧ Fz w.heap.size c mc u ∧ Hid (∀ i, Ft b m v i → ¬ Ft c mc u i) ∧ Hid (Ok N ∧ N.Perm (L.drop (n - k))) ∧ Hid (∀ g, u.ownBlock = some g → w6.heap.size ≤ g) ∧ Fr (fun i => i = c ∨ i = mc) w6 wr) (fun v155 _ => n - (intOf v155).toNat)
   case atStart => exact ⟨0, [], _, Nat.zero_le _, rfl, hA6, hC6, zC, DC, hid ⟨ok_nil, by rw [Nat.sub_zero, List.drop_of_length_le (by rw [HN.out]; exact Nat.le_refl _)]⟩, hid (fun g e => by cases e), Fr.refl _ _⟩
   case round =>
    clear hA6 hC6 zC DC
    obtain ⟨k, N, u, hk, rfl, hA, hC, zC, dC, hN, hown, hf⟩ := hrel
    by_cases hkn : k < n
    ·obtain ⟨j, hj⟩ : ∃ j, n = j + 1 + k := ⟨n - 1 - k, by omega⟩
     have hjn : j < n := by omega
     have hjl : j < L.length := by rw [← HN.out]; exact hjn
     obtain ⟨r, off, rfl, hr, hcell⟩ := HC1.out (by omega)
     obtain ⟨d0, d1, d2⟩ := (hcell j _ (nth_some hjl)).fr hf (fun h => by have := HA1.out _ rfl; exact h.elim this.1 this.2)
     have hoy : ItOk (nth L j) := hoL _ (nth_mem hjl)
     have hpe : pushE N 60 (nth L j) = 0 := by
      have hlen := hN.out.2.length_eq
      have hp : place N (nth L j).f0 = none := place_not (fun i hi e => by
       have hm := hN.out.2.subset (nth_mem hi)
       obtain ⟨q, hq⟩ := List.mem_iff_getElem?.1 hm
       rw [List.getElem?_drop] at hq
       have hql := (List.getElem?_eq_some_iff.1 hq).1
       have := huL _ _ hql hjl (by rw [nth_of hq]; exact e)
       omega)
      unfold pushE
      rw [hp, if_neg (by decide), if_neg (by rw [hlen, List.length_drop, ← HN.out]; omega)]
     have hperm : (pushL N 60 (nth L j)).Perm (L.drop (n - (k + 1))) := by
      have e : L.drop (n - (k + 1)) = nth L j :: L.drop (n - k) := by
       rw [show n - (k + 1) = j by omega, show n - k = j + 1 by omega, List.drop_eq_getElem_cons hjl]
       congr 1
       exact (nth_of (List.getElem?_eq_getElem hjl)).symm
      rw [e]
      exact (push_perm hpe).trans (hN.out.2.cons _)
     have HPM := hid hperm
     have HPE := hid hpe
     have HOY := hid hoy
     have HKN := hid hkn
     obtain ⟨y, hy⟩ : ∃ y, y = nth L j := ⟨_, rfl⟩
     rw [← hy] at d0 d1 d2 HOY HPE HPM
     have l1 : (k : Int) < (n : Int) := by omega
     have l2 : (j : Int) < (n : Int) := by omega
     have jk : wrap64 ((n : Int) - 1) = ((j + k : Nat) : Int) := by unfold wrap64; omega
     have jk2 : wrap64 (((j + k : Nat) : Int) - (k : Int)) = (j : Int) := by unfold wrap64; omega
     obtain ⟨s, hs⟩ : ∃ s, s = j + k := ⟨_, rfl⟩
     rw [← hs] at jk jk2
     have jk' := (i64_w _).trans jk
     have jk2' := (i64_w _).trans jk2
     clear hs hcell hoy hpe hperm hy hj hkn hjl
     go_wp2_with fail
     refine (push_at hC (x := y) HOY.out).mono ?_
     rintro e w7 ⟨rfl, u', hC7, qC, kC⟩
     rw [HPE.out]
     have hA7 := hA.fr kC (fun i hi e => dC.out i hi e)
     have z7 := zC.next qC (Nat.le_trans f6.size hf.size)
     have d7 := dis_next' dC.out qC hA.lt
     have hown7 : ∀ g, u'.ownBlock = some g → w6.heap.size ≤ g := fun g e => (qC g e).elim (hown.out g) (fun h => Nat.le_trans hf.size h)
     have hf7 : Fr (fun i => i = c ∨ i = mc) w6 w7 := hf.trans kC (fun i hi e => e.elim .inl (fun e => e.elim .inr (fun e => absurd (hown.out i e) (by omega))))
     clear d0 d1 d2 jk jk' jk2 jk2' l1 l2
     go_wp2_with fail
     go_roundw
     case rel => exact ⟨k + 1, _, u', HKN.out, by simp, hA7, hC7, z7, hid d7, hid ⟨ok_pushL hN.out.1, HPM.out⟩, hid hown7, hf7⟩
     case measure => simp [intOf]; have := HKN.out; omega
    ·have hkn' : n - k = 0 := by omega
     have hpm := hN.out.2
     rw [hkn', List.drop_zero] at hpm
     have HPM := hid hpm
     have HON := hid hN.out.1
     have l1 : ¬ (k : Int) < (n : Int) := by omega
     have hf2 : Fr (fun _ => False) w wr := f6.trans hf (fun i hi e => by have h1 := zC c (.inl rfl); have h2 := zC mc (.inr (.inl rfl)); rcases e with e | e <;> omega)
     clear hpm hN hown hf hk hkn hkn'
     go_wp2_with fail
     go_loopw [172] (fun v172 wr => ∃ (k : Nat) (M N : List It) (u u2 : Value), k + M.length = n ∧ v172 = .int .i64 (k : Int) ∧ HP wr b m u M 60 ∧ HP wr c mc u2 N 60 ∧ Fz w.heap.size b m u ∧ Fz w.heap.size c mc u2 ∧ Hid (∀ i, Ft b m u i → ¬ Ft c mc u2 i) ∧ Hid (Ok M ∧ Ok N ∧ M.Perm N) ∧ Fr (fun _ => False) w wr) (fun v172 _ => n - (intOf v172).toNat)
     case atStart => exact ⟨0, L, N, v, u, by rw [HN.out]; omega, rfl, hA, hC, hz, zC, dC, hid ⟨HOK.out, HON.out, HPM.out.symm⟩, hf2⟩
     case round =>
      clear hA hC zC dC hf2 HPM HON
      obtain ⟨k, M, N, u, u2, hk, rfl, hA, hC, zA, zC, dC, hMN, hf⟩ := hrel
      obtain ⟨o1, o2, pMN⟩ := hMN.out
      have hlenMN := pMN.length_eq
      by_cases hkn : k < n
      ·obtain ⟨pq, hxe, hee⟩ := pop_same pMN hA.uniq hC.uniq o1 o2
       have hM0 : M.length ≠ 0 := by omega
       have hE : popE M = 0 := if_neg hM0
       have hpl := pop_len hA.uniq hM0
       have HK : Hid (k + 1 + (popL M).length = n) := hid (by omega)
       have HMN2 : Hid (Ok (popL M) ∧ Ok (popL N) ∧ (popL M).Perm (popL N)) := hid ⟨ok_popL o1, ok_popL o2, pq⟩
       have HX := hid hxe
       have HE : Hid (popE N = 0) := hid (by rw [← hee]; exact hE)
       have HKN := hid hkn
       have l1 : (k : Int) < (n : Int) := by omega
       clear pq hxe hee hM0 hpl o1 o2 pMN hlenMN hk hkn hMN
       go_wp2_with fail
       refine (pop_at hA).mono ?_
       rintro e w7 ⟨rfl, u7, hA7, qA, kA⟩
       rw [hE]
       have hC7 := hC.fr kA (fun i hi e => dC.out i e hi)
       have z7 := zA.next qA hf.size
       have d7 := dis_next dC.out qA hC.lt
       have f7 := hf.fz zA kA
       go_wp2_with fail
       generalize hW : World.alloc w7 _ = W7
       have j7 : Fr (fun _ => False) w7 W7 := by subst hW; (repeat' (first | (with_reducible exact Fr.refl _ _) | (with_reducible assumption) | (with_reducible refine Fr.alloc ?_ _) | (with_reducible refine Fr.drew ?_) | (with_reducible refine Fr.drewN ?_ _) | (with_reducible refine Fr.setCell ?_ _ _ ?_) | (exact Or.inr rfl) | (left; simp; done) | (left; simp; omega) | (simp; done) | (simp; omega) | omega))
       have bP : Blk W7 w7.heap.size #[.int .u64 (popX M).f0, .int .u64 (popX M).f1, .int .i64 (popX M).f2] 24 := by subst hW; (repeat' (first | (with_reducible assumption) | (with_reducible apply Blk.drew) | (with_reducible apply Blk.drewN) | (with_reducible apply Blk.set) | (with_reducible apply Blk.other) | (exact Blk.new' _ _ _ (by first | rfl | (simp; done) | (simp; omega))) | (with_reducible apply Blk.alloc) | (with_reducible rfl) | (simp; done) | (simp; omega) | omega | rfl))
       clear hW
       have hA8 := hA7.fr0 j7
       have hC8 := hC7.fr0 j7
       have f8 := f7.trans j7 (fun _ _ h => h)
       refine (pop_at hC8).mono ?_
       rintro e w9 ⟨rfl, u9, hC9, qC, kC⟩
       rw [HE.out, ← HX.out]
       have hA9 := hA8.fr kC (fun i hi e => d7 i hi e)
       have z9 := zC.next qC f8.size
       have d9 := dis_next' d7 qC hA8.lt
       have f9 := f8.fz zC kC
       have bP9 := bP.fr kC (fun e => by have := hC7.lt _ e; omega)
       obtain ⟨p0, p1, p2, _⟩ := id bP9.c3
       have lp := lt8 bP9.lt
       have lp0 := bP9.lt
       obtain ⟨y, hy⟩ : ∃ y, y = popX M := ⟨_, rfl⟩
       rw [← hy] at p0 p1 p2 ⊢
       clear bP bP9 hy hE hA7 hC7 hA8 hC8 f7 f8 j7 kA kC qA qC
       go_wp2_with fail
       generalize hW : World.alloc w9 _ = W9
       have j9 : Fr (fun _ => False) w9 W9 := by subst hW; (repeat' (first | (with_reducible exact Fr.refl _ _) | (with_reducible assumption) | (with_reducible refine Fr.alloc ?_ _) | (with_reducible refine Fr.drew ?_) | (with_reducible refine Fr.drewN ?_ _) | (with_reducible refine Fr.setCell ?_ _ _ ?_) | (exact Or.inr rfl) | (left; simp; done) | (left; simp; omega) | (simp; done) | (simp; omega) | omega))
       clear hW p0 p1 p2 lp lp0 l1
       go_roundw
       case rel => exact ⟨k + 1, _, _, u7, u9, HK.out, by simp, hA9.fr0 j9, hC9.fr0 j9, z7, z9, hid d9, HMN2, f9.trans j9 (fun _ _ h => h)⟩
       case measure => simp [intOf]; have := HKN.out; omega
      ·have l1 : ¬ (k : Int) < (n : Int) := by omega
       have hN0 : N.length = 0 := by omega
       have HN0 := hid hN0
       clear hk hlenMN pMN hN0
       go_wp2_with fail
       refine (len_hp hC).mono ?_
       rintro e w7 ⟨rfl, k7⟩
       rw [HN0.out]
       go_wp2
       go_ret
       exact ⟨rfl, hf.trans k7 (fun _ _ h => h)⟩
end Go.Proofs.Ytkcfhdnlmdndeaa
