/- EdgesWithin: the walk. -/
import Derived.Test.YtapagoaoglmegaaEdLaws
import Derived.StillTailTactics
namespace Go.Proofs.Ytapagoaoglmegaa
open Go.RowKit Go.Proofs.YtapagoaoglmegaaW.PrintWords Go.Proofs.YtapagoaoglmegaaW.PrintLast Go.Proofs.YtapagoaoglmegaaW.PrintMore PCl
attribute [local go_sem] max2_int min2_int max_two min_two
set_option linter.unusedVariables false
set_option linter.unusedSimpArgs false
set_option maxRecDepth 100000
theorem bool_at {w : World} {A : Option Addr} {len cap i : Nat} (h : RdS [.b] w A len cap) (hi : i < len) : ∃ b off x, A = some ⟨b, off, none⟩ ∧ b < w.heap.size ∧ w.cell? ⟨b, off + i, none⟩ = some (.bool x) := by
 obtain ⟨b, off, vs, rfl, ho, hc, hb⟩ := RdS.at h hi
 obtain ⟨v0, r0, rfl, h0, ho⟩ := okAll.cons ho
 obtain ⟨x, rfl⟩ := h0
 exact ⟨b, off, x, rfl, hb, by simpa using hc 0 _ rfl⟩
def winE (a b : Int) (s : S24) : Bool := decide (a ≤ s.f1) && decide (s.f2 ≤ b)
def okR (L : List S24) : Prop := ∀ s ∈ L, 0 ≤ s.f1 ∧ s.f1 ≤ s.f2 ∧ s.f2 ≤ 4611686018427387904
def WiP (a b : Int) (L : List S24) (h i : Nat) : Prop := okR L ∧ h ≤ (L.take i).countP (winE a b)
theorem okR_set {L : List S24} (h : okR L) {i : Nat} {s : S24} (hs : 0 ≤ s.f1 ∧ s.f1 ≤ s.f2 ∧ s.f2 ≤ 4611686018427387904) : okR (L.set i s) := fun t ht => by
 rcases List.mem_or_eq_of_mem_set ht with e | e
 ·exact h t e
 ·subst e; exact hs
theorem WiP.keep {a b : Int} {L : List S24} {h i : Nat} (k : WiP a b L h i) : WiP a b L h (i + 1) := by
 refine ⟨k.1, Nat.le_trans k.2 ?_⟩
 exact (List.take_sublist_take_left (Nat.le_succ i)).countP_le
theorem WiP.set {a b : Int} {L : List S24} {h i : Nat} {s : S24} (k : WiP a b L h i) (hi : L[i]? = some s) (h0 : 0 ≤ a) (hab : a ≤ b) (hb : b ≤ 4611686018427387904) : WiP a b (L.set i ⟨s.f0, mn (mx s.f1 a) b, mn (mx s.f2 a) b⟩) (h + 1) (i + 1) := by
 have hil := (List.getElem?_eq_some_iff.1 hi).1
 have hs := k.1 s (List.mem_of_getElem? hi)
 have x1 := mx_le s.f1 a
 have x2 := mx_le s.f2 a
 have n1 := mn_le (mx s.f1 a) b
 have n2 := mn_le (mx s.f2 a) b
 refine ⟨okR_set k.1 ⟨by simp only; omega, by simp only; omega, by simp only; omega⟩, ?_⟩
 have e : (L.set i ⟨s.f0, mn (mx s.f1 a) b, mn (mx s.f2 a) b⟩).take (i + 1) = L.take i ++ [⟨s.f0, mn (mx s.f1 a) b, mn (mx s.f2 a) b⟩] := by
  rw [List.take_add_one, List.getElem?_set_self hil, List.take_set_of_le (Nat.le_refl i)]
  rfl
 rw [e, List.countP_append]
 have hw : winE a b ⟨s.f0, mn (mx s.f1 a) b, mn (mx s.f2 a) b⟩ = true := by unfold winE; simp; omega
 have := k.2
 simp [hw]; omega
/-- More than half lie within: so does the hull. -/
theorem within_hull {a b lo hi : Int} {L : List S24} {h : Nat} (k : WiP a b L h L.length) (hh : L.length < 2 * h) (H : IsHull L lo hi) : a ≤ lo ∧ hi ≤ b := by
 have hc : h ≤ L.countP (winE a b) := by have := k.2; rwa [List.take_length] at this
 have h1 := H.lo_deep
 have h2 := H.hi_deep
 unfold depE at h1 h2
 obtain ⟨s, hs, p1, p2⟩ := both_ex _ (winE a b) L (show L.length < L.countP (fun s => decide (s.f1 ≤ lo) && decide (lo ≤ s.f2)) + L.countP (winE a b) by omega)
 obtain ⟨t, ht, q1, q2⟩ := both_ex _ (winE a b) L (show L.length < L.countP (fun s => decide (s.f1 ≤ hi) && decide (hi ≤ s.f2)) + L.countP (winE a b) by omega)
 unfold winE at p2 q2
 simp at p1 p2 q1 q2
 omega
def WiS (B g i : Nat) (a b hi : Int) (w' : World) : Prop :=
 w'.cell? ⟨B, 1, none⟩ = some (.int .i64 a) ∧ w'.cell? ⟨B, 2, none⟩ = some (.int .i64 b) ∧ w'.cell? ⟨g, i * 3 + 2, none⟩ = some (.int .i64 hi)
theorem C24_of {w : World} {r off : Nat} {l : List S24} (hl : l.length ≤ 9223372036854775807) (hat : ∀ i s, l[i]? = some s → AtS w r (off + i * 3) s) : Kd.C k24 w (some ⟨r, off, none⟩) l.length l := by
 refine ⟨rfl, by simpa using hl, fun _ => ⟨_, rfl, fun j p hj => ⟨_, rfl, k24_mk w p, fun i u hi => ?_⟩⟩⟩
 rw [addE, show off + (j * (k24 : Kd S24).sz + i) = off + j * 3 + i from (by show off + (j * 3 + i) = _; omega)]
 obtain ⟨a0, a1, a2⟩ := hat j p hj
 match i, hi with
 | 0, hi => have hi := Option.some.inj hi; subst hi; exact a0
 | 1, hi => have hi := Option.some.inj hi; subst hi; exact a1
 | 2, hi => have hi := Option.some.inj hi; subst hi; exact a2
set_option maxHeartbeats 16000000 in
theorem edgesWithin_walk (A0 : Option Addr) (len0 cap0 : Nat) (c1 : List Value) (A2 : Option Addr) (len2 cap2 : Nat) (w : World) (h0 : RdS [.i .i64, .i .i64, .i .i64] w A0 len0 cap0) (h1 : okAll [.i .i64, .i .i64, .i .i64] c1) (h2 : RdS [.b] w A2 len2 cap2) :
  Calls Try.prog 10 #[.slice A0 len0 cap0, .agg c1.toArray, .slice A2 len2 cap2] w fun e w' => e = .returned (.bool true) ∧ Fr (fun _ => False) w w' := by
 obtain ⟨l, rfl, hc, hC, _⟩ := span_open h0
 obtain ⟨st, rfl⟩ : ∃ st : S24, c1 = encS st := by
  obtain ⟨v0, r0, rfl, g0, h1⟩ := okAll.cons h1
  obtain ⟨v1, r1, rfl, g1, h1⟩ := okAll.cons h1
  obtain ⟨v2, r2, rfl, g2, h1⟩ := okAll.cons h1
  obtain rfl := okAll.none h1
  obtain ⟨a, rfl, _⟩ := g0
  obtain ⟨b, rfl, _⟩ := g1
  obtain ⟨c, rfl, _⟩ := g2
  exact ⟨⟨a, b, c⟩, rfl⟩
 have hle2 := RdS.len_le h2
 have HC := hidE hC
 have H2 := hidE h2
 clear h0 h1 hC h2
 simp only [encS, List.toArray]
 go_enter Try.func10, Try.ntmps10
 go_wp2_with fail
 generalize hW : World.alloc w _ = w0
 have f0 : Fr (fun _ => False) w w0 := by subst hW; (repeat' (first | (with_reducible exact Fr.refl _ _) | (with_reducible assumption) | (with_reducible refine Fr.alloc ?_ _) | (with_reducible refine Fr.drew ?_) | (with_reducible refine Fr.drewN ?_ _) | (with_reducible refine Fr.setCell ?_ _ _ ?_) | (exact Or.inr rfl) | (left; simp; done) | (left; simp; omega) | (simp; done) | (simp; omega) | omega))
 have b0 : Blk w0 w.heap.size #[.int .i64 st.f0, .int .i64 st.f1, .int .i64 st.f2] 24 := by subst hW; (repeat' (first | (with_reducible assumption) | (with_reducible apply Blk.drew) | (with_reducible apply Blk.drewN) | (with_reducible apply Blk.set) | (with_reducible apply Blk.other) | (exact Blk.new' _ _ _ (by first | rfl | (simp; done) | (simp; omega))) | (with_reducible apply Blk.alloc) | (with_reducible rfl) | (simp; done) | (simp; omega) | omega | rfl))
 clear hW
 refine (fit_at (Kd.C_below HC.out f0.below) hc).mono ?_
 rintro e w1 ⟨v, rfl, hv, k1⟩
 have f1 := f0.trans k1 (fun _ _ h => h)
 have s1 : SlS w.heap.size w1 v (fitZ l) := by
  rcases hv.form with h | ⟨g, c, e1, e2, e3, e4⟩
  ·exact .inl h
  ·exact .inr ⟨g, c, e1, Nat.le_trans f0.size e2, e3, e4⟩
 have b1 := b0.fr k1 (fun h => h)
 clear hv k1 b0 f0
 obtain ⟨x0, x1, x2, _⟩ := b1.c3
 have lB := b1.lt
 have lB8 := lt8 lB
 go_wp2_with fail
 generalize hW : World.alloc w1 _ = w2
 have f12 : Fr (fun _ => False) w1 w2 := by subst hW; (repeat' (first | (with_reducible exact Fr.refl _ _) | (with_reducible assumption) | (with_reducible refine Fr.alloc ?_ _) | (with_reducible refine Fr.drew ?_) | (with_reducible refine Fr.drewN ?_ _) | (with_reducible refine Fr.setCell ?_ _ _ ?_) | (exact Or.inr rfl) | (left; simp; done) | (left; simp; omega) | (simp; done) | (simp; omega) | omega))
 have b2 : Blk w2 w1.heap.size #[.int .i64 st.f0, .int .i64 st.f1, .int .i64 st.f2] 24 := by subst hW; (repeat' (first | (with_reducible assumption) | (with_reducible apply Blk.drew) | (with_reducible apply Blk.drewN) | (with_reducible apply Blk.set) | (with_reducible apply Blk.other) | (exact Blk.new' _ _ _ (by first | rfl | (simp; done) | (simp; omega))) | (with_reducible apply Blk.alloc) | (with_reducible rfl) | (simp; done) | (simp; omega) | omega | rfl))
 clear hW x0 x1 x2 b1 lB lB8
 have C2 : Kd.C k24 w2 (some ⟨w1.heap.size, 0, none⟩) [st].length [st] := C24_of (by simp) (fun i s hi => by
  cases i with
  | zero => simp at hi; subst hi; exact ⟨b2.cell 0, b2.cell 1, b2.cell 2⟩
  | succ i => simp at hi)
 have F2 := f1.trans f12 (fun _ _ h => h)
 have S2 := s1.fr f12
 refine (fit_at (cap := 1) C2 (by simp)).mono ?_
 rintro e w3 ⟨v3, rfl, hv3, k3⟩
 have F3 := F2.trans k3 (fun _ _ h => h)
 have S3 := S2.fr k3
 obtain ⟨x, hx⟩ : ∃ x, x = fitS st := ⟨_, rfl⟩
 have hxo := fitS_ok st
 rw [← hx] at hxo
 have hfz : fitZ [st] = [x] := by rw [hx]; rfl
 rw [hfz] at hv3
 clear C2 b2 F2 S2 k3 f12 s1 f1 hx hfz
 rcases hv3.form with ⟨_, e⟩ | ⟨g3, c3, rfl, hg3, hm3, r3⟩
 ·cases e
 obtain ⟨y0, y1, y2⟩ := r3.at3 (i := 0) (c := x) rfl
 have lg3 : g3 < w3.heap.size := r3.lt
 simp at y0 y1 y2
 clear hv3 r3
 go_wp2_with fail
 generalize hW : World.alloc w3 _ = w4
 have f4 : Fr (fun _ => False) w3 w4 := by subst hW; (repeat' (first | (with_reducible exact Fr.refl _ _) | (with_reducible assumption) | (with_reducible refine Fr.alloc ?_ _) | (with_reducible refine Fr.drew ?_) | (with_reducible refine Fr.drewN ?_ _) | (with_reducible refine Fr.setCell ?_ _ _ ?_) | (exact Or.inr rfl) | (left; simp; done) | (left; simp; omega) | (simp; done) | (simp; omega) | omega))
 have b4 : Blk w4 w3.heap.size #[.int .i64 x.f0, .int .i64 x.f1, .int .i64 x.f2] 24 := by subst hW; (repeat' (first | (with_reducible assumption) | (with_reducible apply Blk.drew) | (with_reducible apply Blk.drewN) | (with_reducible apply Blk.set) | (with_reducible apply Blk.other) | (exact Blk.new' _ _ _ (by first | rfl | (simp; done) | (simp; omega))) | (with_reducible apply Blk.alloc) | (with_reducible rfl) | (simp; done) | (simp; omega) | omega | rfl))
 clear hW y0 y1 y2 lg3
 have F4 := F3.trans f4 (fun _ _ h => h)
 have S4 := S3.fr f4
 obtain ⟨L, hL⟩ : ∃ L, L = fitZ l := ⟨_, rfl⟩
 have hLl := fitZ_len l
 have hLo : okR (fitZ l) := fun s hs => by have := fitZ_ok l s hs; omega
 rw [← hL] at S4 hLl hLo
 obtain ⟨B, hB⟩ : ∃ B, B = w3.heap.size := ⟨_, rfl⟩
 have hgB : ∀ g, (∃ c, v = .slice (some ⟨g, 0, none⟩) L.length c) → g ≠ B := fun g ⟨c, e⟩ eB => by
  rcases S3 with ⟨e1, _⟩ | ⟨g', c', e1, _, _, e2⟩
  ·rw [e1] at e; cases e
  ·rw [e1] at e; injection e with e3; injection e3 with e3; injection e3 with e3
   have := e2.lt
   omega
 have hwB : w.heap.size ≤ B := by have := F3.size; omega
 rw [← hB] at b4 ⊢
 obtain ⟨A, cp, hv, _⟩ := S4.C
 subst hv
 have hgB' := hidE hgB
 clear hB hL S3 F3 f4 hgB
 go_loopw [8, 9] (fun v8 v9 wr => ∃ (h i : Nat) (M : List S24), i ≤ L.length ∧ h ≤ i ∧ v8 = .int .i64 (h : Int) ∧ v9 = .int .i64 (i : Int) ∧ M.length = L.length ∧ WiP x.f1 x.f2 M h i ∧ SlS w.heap.size wr (.slice A L.length cp) M ∧ Blk wr B #[.int .i64 x.f0, .int .i64 x.f1, .int .i64 x.f2] 24 ∧ Fr (fun _ => False) w wr) (fun _ v9 _ => L.length - (intOf v9).toNat)
 case atStart => exact ⟨0, 0, L, Nat.zero_le _, Nat.le_refl _, rfl, rfl, rfl, ⟨hLo, Nat.zero_le _⟩, S4, b4, F4⟩
 case round =>
  clear S4 b4 F4
  obtain ⟨h, i, M, hi, hhi, rfl, rfl, hML, hW, hS, hB, hf⟩ := hrel
  have HWP := hidE hW
  have HML := hidE hML
  clear hW hML
  by_cases hlt : i < L.length
  ·have t1 : (i : Int) < (L.length : Int) := by omega
   obtain ⟨g, c, hv, hg, hm, hr⟩ := hS.get (i := i) (by rw [HML.out]; exact hlt)
   obtain rfl : A = some ⟨g, 0, none⟩ := by injection hv
   have HCP : Hid (cp = c) := hidE (by injection hv)
   obtain ⟨s, hs⟩ : ∃ s, M[i]? = some s := ⟨_, List.getElem?_eq_getElem (by rw [HML.out]; exact hlt)⟩
   have hgne : g ≠ B := hgB'.out g ⟨cp, rfl⟩
   by_cases h2 : i < len2
   ·obtain ⟨bb, bo, q, rfl, hbb, hbc⟩ := bool_at H2.out h2
    have hbc' := (hf.cell (a := ⟨bb, bo + i, none⟩) hbb (fun h => h)).trans hbc
    have t2 : (i : Int) < (len2 : Int) := by omega
    have t3 : decide ((i : Int) < (len2 : Int)) = true := decide_eq_true t2
    cases q with
    | false =>
     clear hbc hs hr hm hv
     go_wp2
     go_roundw
     case rel => exact ⟨h, i + 1, M, by omega, by omega, rfl, by go_num, HML.out, HWP.out.keep, hS, hB, hf⟩
     case measure => simp [intOf]; omega
    | true =>
     obtain ⟨d0, d1, d2⟩ := hr.at3 hs
     obtain ⟨y0, y1, y2, _⟩ := hB.c3
     have q1 := hr.free (i * 3 + 1)
     have q2 := hr.free (i * 3 + 2)
     have lg := hr.lt
     have lB := hB.lt
     have t4 : (i : Int) < (M.length : Int) := by rw [HML.out]; exact t1
     have t0 : (0 : Int) ≤ (i : Int) := by omega
     obtain ⟨m1, hm1⟩ : ∃ m1, m1 = mx s.f1 x.f1 := ⟨_, rfl⟩
     obtain ⟨m2, hm2⟩ : ∃ m2, m2 = mx s.f2 x.f1 := ⟨_, rfl⟩
     obtain ⟨n1, hn1⟩ : ∃ n1, n1 = mn m1 x.f2 := ⟨_, rfl⟩
     obtain ⟨n2, hn2⟩ : ∃ n2, n2 = mn m2 x.f2 := ⟨_, rfl⟩
     have e1 : (if s.f1 < x.f1 then x.f1 else s.f1) = m1 := hm1.symm
     have e2 : (if s.f2 < x.f1 then x.f1 else s.f2) = m2 := hm2.symm
     have e3 : (if x.f2 < m1 then x.f2 else m1) = n1 := hn1.symm
     have e4 : (if x.f2 < m2 then x.f2 else m2) = n2 := hn2.symm
     have HN1 := hidE (show n1 = mn (mx s.f1 x.f1) x.f2 by rw [hn1, hm1])
     have HN2 := hidE (show n2 = mn (mx s.f2 x.f1) x.f2 by rw [hn2, hm2])
     have HR := hidE hr
     have HS := hidE hs
     have HSb := hidE hB
     clear hm1 hm2 hn1 hn2 hbc hr hs hB hS hv
     go_wp2_with fail
     have d1d : wr.drew.cell? ⟨g, i * 3 + 1, none⟩ = some (.int .i64 s.f1) := d1
     have msd : WiS B g i x.f1 x.f2 s.f2 wr.drew := ⟨y1, y2, d2⟩
     refine start_ (n := 32) (S := fun w' => w'.cell? ⟨B, 1, none⟩ = some (.int .i64 x.f1) ∧ w'.cell? ⟨B, 2, none⟩ = some (.int .i64 x.f2) ∧ w'.cell? ⟨g, i * 3 + 2, none⟩ = some (.int .i64 s.f2)) (ds := [31]) #[oN,oN,oN,oN,oN,oN,oN,oN,oN,oN,oN,oN,oN,oN,oN,oN,oN,oN,oN,oN,oN,oN,oN,oN,oN,oN,oN,oN,oN,oN,oN,oN] (by kernel_rfl) rfl rfl ⟨msd.1, msd.2.1, msd.2.2⟩ (fun hHeld => ?_)
     refine pure_ (i := 0) (N := some 36) (v := ?_) (a' := ?_) #[oY,oN,oN,oN,oN,oN,oN,oN,oN,oN,oN,oN,oN,oN,oN,oN,oN,oN,oN,oN,oN,oN,oN,oN,oN,oN,oN,oN,oN,oN,oN,oN] rfl rfl (by kernel_rfl) (fun _ _ _ h => h) (Or.inl ⟨by rfl, ?_⟩) ?_ ?_
     rotate_left
     ·intro w'
      go_simp
      with_reducible rfl
     rotate_left
     ·simp only [Act.put, List.setIfInBounds_toArray, List.set_cons_zero, List.set_cons_succ, i64_w, i32_w]
      rfl
     refine pure_ (i := 1) (N := some 37) (v := ?_) (a' := ?_) #[oY,oY,oN,oN,oN,oN,oN,oN,oN,oN,oN,oN,oN,oN,oN,oN,oN,oN,oN,oN,oN,oN,oN,oN,oN,oN,oN,oN,oN,oN,oN,oN] rfl rfl (by kernel_rfl) (fun _ _ _ h => h) (Or.inl ⟨by rfl, ?_⟩) ?_ ?_
     rotate_left
     ·intro w'
      go_simp
      with_reducible rfl
     rotate_left
     ·simp only [Act.put, List.setIfInBounds_toArray, List.set_cons_zero, List.set_cons_succ, i64_w, i32_w]
      rfl
     refine pure_ (i := 2) (N := some 38) (v := ?_) (a' := ?_) #[oY,oY,oY,oN,oN,oN,oN,oN,oN,oN,oN,oN,oN,oN,oN,oN,oN,oN,oN,oN,oN,oN,oN,oN,oN,oN,oN,oN,oN,oN,oN,oN] rfl rfl (by kernel_rfl) (fun _ _ _ h => h) (Or.inl ⟨by rfl, ?_⟩) ?_ ?_
     rotate_left
     ·intro w'
      go_simp
      with_reducible rfl
     rotate_left
     ·simp only [Act.put, List.setIfInBounds_toArray, List.set_cons_zero, List.set_cons_succ, i64_w, i32_w]
      rfl
     refine pure_ (i := 3) (N := some 39) (v := ?_) (a' := ?_) #[oY,oY,oY,oY,oN,oN,oN,oN,oN,oN,oN,oN,oN,oN,oN,oN,oN,oN,oN,oN,oN,oN,oN,oN,oN,oN,oN,oN,oN,oN,oN,oN] rfl rfl (by kernel_rfl) (fun _ _ _ h => h) (Or.inl ⟨by rfl, ?_⟩) ?_ ?_
     rotate_left
     ·intro w'
      go_simp
      with_reducible rfl
     rotate_left
     ·simp only [Act.put, List.setIfInBounds_toArray, List.set_cons_zero, List.set_cons_succ, i64_w, i32_w]
      rfl
     refine pure_ (i := 4) (N := some 40) (v := ?_) (a' := ?_) #[oY,oY,oY,oY,oY,oN,oN,oN,oN,oN,oN,oN,oN,oN,oN,oN,oN,oN,oN,oN,oN,oN,oN,oN,oN,oN,oN,oN,oN,oN,oN,oN] rfl rfl (by kernel_rfl) (fun _ _ _ h => h) (Or.inl ⟨by rfl, ?_⟩) ?_ ?_
     rotate_left
     ·intro w'
      go_simp
      with_reducible rfl
     rotate_left
     ·simp only [Act.put, List.setIfInBounds_toArray, List.set_cons_zero, List.set_cons_succ, i64_w, i32_w]
      rfl
     refine pure_ (i := 5) (N := some 41) (v := ?_) (a' := ?_) #[oY,oY,oY,oY,oY,oY,oN,oN,oN,oN,oN,oN,oN,oN,oN,oN,oN,oN,oN,oN,oN,oN,oN,oN,oN,oN,oN,oN,oN,oN,oN,oN] rfl rfl (by kernel_rfl) (fun _ _ _ h => h) (Or.inl ⟨by rfl, ?_⟩) ?_ ?_
     rotate_left
     ·intro w'
      go_simp
      with_reducible rfl
     rotate_left
     ·simp only [Act.put, List.setIfInBounds_toArray, List.set_cons_zero, List.set_cons_succ, i64_w, i32_w]
      rfl
     refine pure_ (i := 6) (N := some 42) (v := ?_) (a' := ?_) #[oY,oY,oY,oY,oY,oY,oY,oN,oN,oN,oN,oN,oN,oN,oN,oN,oN,oN,oN,oN,oN,oN,oN,oN,oN,oN,oN,oN,oN,oN,oN,oN] rfl rfl (by kernel_rfl) (fun _ _ _ h => h) (Or.inl ⟨by rfl, ?_⟩) ?_ ?_
     rotate_left
     ·intro w'
      go_simp
      with_reducible rfl
     rotate_left
     ·simp only [Act.put, List.setIfInBounds_toArray, List.set_cons_zero, List.set_cons_succ, i64_w, i32_w]
      rfl
     refine pure_ (i := 7) (N := some 43) (v := ?_) (a' := ?_) #[oY,oY,oY,oY,oY,oY,oY,oY,oN,oN,oN,oN,oN,oN,oN,oN,oN,oN,oN,oN,oN,oN,oN,oN,oN,oN,oN,oN,oN,oN,oN,oN] rfl rfl (by kernel_rfl) (fun _ _ _ h => h) (Or.inl ⟨by rfl, ?_⟩) ?_ ?_
     rotate_left
     ·intro w'
      go_simp
      with_reducible rfl
     rotate_left
     ·simp only [Act.put, List.setIfInBounds_toArray, List.set_cons_zero, List.set_cons_succ, i64_w, i32_w]
      rfl
     refine pure_ (i := 9) (N := some 45) (v := ?_) (a' := ?_) #[oY,oY,oY,oY,oY,oY,oY,oY,oN,oY,oN,oN,oN,oN,oN,oN,oN,oN,oN,oN,oN,oN,oN,oN,oN,oN,oN,oN,oN,oN,oN,oN] rfl rfl (by kernel_rfl) (fun _ _ _ h => h) (Or.inl ⟨by rfl, ?_⟩) ?_ ?_
     rotate_left
     ·intro w'
      go_simp
      with_reducible rfl
     rotate_left
     ·simp only [Act.put, List.setIfInBounds_toArray, List.set_cons_zero, List.set_cons_succ, i64_w, i32_w]
      rfl
     refine pure_ (i := 12) (N := some 48) (v := ?_) (a' := ?_) #[oY,oY,oY,oY,oY,oY,oY,oY,oN,oY,oN,oN,oY,oN,oN,oN,oN,oN,oN,oN,oN,oN,oN,oN,oN,oN,oN,oN,oN,oN,oN,oN] rfl rfl (by kernel_rfl) (fun _ _ _ h => h) (Or.inl ⟨by rfl, ?_⟩) ?_ ?_
     rotate_left
     ·intro w'
      go_simp
      with_reducible rfl
     rotate_left
     ·simp only [Act.put, List.setIfInBounds_toArray, List.set_cons_zero, List.set_cons_succ, i64_w, i32_w]
      rfl
     refine pure_ (i := 15) (N := some 51) (v := ?_) (a' := ?_) #[oY,oY,oY,oY,oY,oY,oY,oY,oN,oY,oN,oN,oY,oN,oN,oY,oN,oN,oN,oN,oN,oN,oN,oN,oN,oN,oN,oN,oN,oN,oN,oN] rfl rfl (by kernel_rfl) (fun _ _ _ h => h) (Or.inl ⟨by rfl, ?_⟩) ?_ ?_
     rotate_left
     ·intro w'
      go_simp
      with_reducible rfl
     rotate_left
     ·simp only [Act.put, List.setIfInBounds_toArray, List.set_cons_zero, List.set_cons_succ, i64_w, i32_w]
      rfl
     refine pure_ (i := 16) (N := some 52) (v := ?_) (a' := ?_) #[oY,oY,oY,oY,oY,oY,oY,oY,oN,oY,oN,oN,oY,oN,oN,oY,oY,oN,oN,oN,oN,oN,oN,oN,oN,oN,oN,oN,oN,oN,oN,oN] rfl rfl (by kernel_rfl) (fun _ _ _ h => h) (Or.inl ⟨by rfl, ?_⟩) ?_ ?_
     rotate_left
     ·intro w'
      go_simp
      with_reducible rfl
     rotate_left
     ·simp only [Act.put, List.setIfInBounds_toArray, List.set_cons_zero, List.set_cons_succ, i64_w, i32_w]
      rfl
     refine pure_ (i := 17) (N := some 53) (v := ?_) (a' := ?_) #[oY,oY,oY,oY,oY,oY,oY,oY,oN,oY,oN,oN,oY,oN,oN,oY,oY,oY,oN,oN,oN,oN,oN,oN,oN,oN,oN,oN,oN,oN,oN,oN] rfl rfl (by kernel_rfl) (fun _ _ _ h => h) (Or.inl ⟨by rfl, ?_⟩) ?_ ?_
     rotate_left
     ·intro w'
      go_simp
      with_reducible rfl
     rotate_left
     ·simp only [Act.put, List.setIfInBounds_toArray, List.set_cons_zero, List.set_cons_succ, i64_w, i32_w]
      rfl
     refine pure_ (i := 18) (N := some 54) (v := ?_) (a' := ?_) #[oY,oY,oY,oY,oY,oY,oY,oY,oN,oY,oN,oN,oY,oN,oN,oY,oY,oY,oY,oN,oN,oN,oN,oN,oN,oN,oN,oN,oN,oN,oN,oN] rfl rfl (by kernel_rfl) (fun _ _ _ h => h) (Or.inl ⟨by rfl, ?_⟩) ?_ ?_
     rotate_left
     ·intro w'
      go_simp
      with_reducible rfl
     rotate_left
     ·simp only [Act.put, List.setIfInBounds_toArray, List.set_cons_zero, List.set_cons_succ, i64_w, i32_w]
      rfl
     refine pure_ (i := 20) (N := some 56) (v := ?_) (a' := ?_) #[oY,oY,oY,oY,oY,oY,oY,oY,oN,oY,oN,oN,oY,oN,oN,oY,oY,oY,oY,oN,oY,oN,oN,oN,oN,oN,oN,oN,oN,oN,oN,oN] rfl rfl (by kernel_rfl) (fun _ _ _ h => h) (Or.inl ⟨by rfl, ?_⟩) ?_ ?_
     rotate_left
     ·intro w'
      go_simp
      with_reducible rfl
     rotate_left
     ·simp only [Act.put, List.setIfInBounds_toArray, List.set_cons_zero, List.set_cons_succ, i64_w, i32_w]
      rfl
     refine pure_ (i := 23) (N := some 59) (v := ?_) (a' := ?_) #[oY,oY,oY,oY,oY,oY,oY,oY,oN,oY,oN,oN,oY,oN,oN,oY,oY,oY,oY,oN,oY,oN,oN,oY,oN,oN,oN,oN,oN,oN,oN,oN] rfl rfl (by kernel_rfl) (fun _ _ _ h => h) (Or.inl ⟨by rfl, ?_⟩) ?_ ?_
     rotate_left
     ·intro w'
      go_simp
      with_reducible rfl
     rotate_left
     ·simp only [Act.put, List.setIfInBounds_toArray, List.set_cons_zero, List.set_cons_succ, i64_w, i32_w]
      rfl
     refine take_ (i := 10) (N := some 46) (v := ?_) (a' := ?_) #[oY,oY,oY,oY,oY,oY,oY,oY,oN,oY,oY,oN,oY,oN,oN,oY,oY,oY,oY,oN,oY,oN,oN,oY,oN,oN,oN,oN,oN,oN,oN,oN] rfl rfl (by kernel_rfl) (fun _ _ _ h => h) (Or.inl ⟨by rfl, ?_⟩) hHeld ?_ ?_
     rotate_left
     ·rintro w' ⟨s0, s1, s2⟩
      go_simp
      with_reducible rfl
     rotate_left
     ·simp only [Act.put, List.setIfInBounds_toArray, List.set_cons_zero, List.set_cons_succ, i64_w, i32_w]
      rfl
     refine take_ (i := 13) (N := some 49) (v := ?_) (a' := ?_) #[oY,oY,oY,oY,oY,oY,oY,oY,oN,oY,oY,oN,oY,oY,oN,oY,oY,oY,oY,oN,oY,oN,oN,oY,oN,oN,oN,oN,oN,oN,oN,oN] rfl rfl (by kernel_rfl) (fun _ _ _ h => h) (Or.inl ⟨by rfl, ?_⟩) hHeld ?_ ?_
     rotate_left
     ·rintro w' ⟨s0, s1, s2⟩
      go_simp
      with_reducible rfl
     rotate_left
     ·simp only [Act.put, List.setIfInBounds_toArray, List.set_cons_zero, List.set_cons_succ, i64_w, i32_w]
      rfl
     refine take_ (i := 19) (N := some 55) (v := ?_) (a' := ?_) #[oY,oY,oY,oY,oY,oY,oY,oY,oN,oY,oY,oN,oY,oY,oN,oY,oY,oY,oY,oY,oY,oN,oN,oY,oN,oN,oN,oN,oN,oN,oN,oN] rfl rfl (by kernel_rfl) (fun _ _ _ h => h) (Or.inl ⟨by rfl, ?_⟩) hHeld ?_ ?_
     rotate_left
     ·rintro w' ⟨s0, s1, s2⟩
      go_simp
      with_reducible rfl
     rotate_left
     ·simp only [Act.put, List.setIfInBounds_toArray, List.set_cons_zero, List.set_cons_succ, i64_w, i32_w]
      rfl
     refine take_ (i := 21) (N := some 57) (v := ?_) (a' := ?_) #[oY,oY,oY,oY,oY,oY,oY,oY,oN,oY,oY,oN,oY,oY,oN,oY,oY,oY,oY,oY,oY,oY,oN,oY,oN,oN,oN,oN,oN,oN,oN,oN] rfl rfl (by kernel_rfl) (fun _ _ _ h => h) (Or.inl ⟨by rfl, ?_⟩) hHeld ?_ ?_
     rotate_left
     ·rintro w' ⟨s0, s1, s2⟩
      go_simp
      with_reducible rfl
     rotate_left
     ·simp only [Act.put, List.setIfInBounds_toArray, List.set_cons_zero, List.set_cons_succ, i64_w, i32_w]
      rfl
     refine pure_ (i := 22) (N := some 58) (v := ?_) (a' := ?_) #[oY,oY,oY,oY,oY,oY,oY,oY,oN,oY,oY,oN,oY,oY,oN,oY,oY,oY,oY,oY,oY,oY,oY,oY,oN,oN,oN,oN,oN,oN,oN,oN] rfl rfl (by kernel_rfl) (fun _ _ _ h => h) (Or.inl ⟨by rfl, ?_⟩) ?_ ?_
     rotate_left
     ·intro w'
      go_simp
      with_reducible rfl
     rotate_left
     ·simp only [Act.put, List.setIfInBounds_toArray, List.set_cons_zero, List.set_cons_succ, i64_w, i32_w]
      rfl
     refine take_ (i := 24) (N := some 60) (v := ?_) (a' := ?_) #[oY,oY,oY,oY,oY,oY,oY,oY,oN,oY,oY,oN,oY,oY,oN,oY,oY,oY,oY,oY,oY,oY,oY,oY,oY,oN,oN,oN,oN,oN,oN,oN] rfl rfl (by kernel_rfl) (fun _ _ _ h => h) (Or.inl ⟨by rfl, ?_⟩) hHeld ?_ ?_
     rotate_left
     ·rintro w' ⟨s0, s1, s2⟩
      go_simp
      with_reducible rfl
     rotate_left
     ·simp only [Act.put, List.setIfInBounds_toArray, List.set_cons_zero, List.set_cons_succ, i64_w, i32_w]
      rfl
     refine pure_ (i := 25) (N := some 61) (v := ?_) (a' := ?_) #[oY,oY,oY,oY,oY,oY,oY,oY,oN,oY,oY,oN,oY,oY,oN,oY,oY,oY,oY,oY,oY,oY,oY,oY,oY,oY,oN,oN,oN,oN,oN,oN] rfl rfl (by kernel_rfl) (fun _ _ _ h => h) (Or.inl ⟨by rfl, ?_⟩) ?_ ?_
     rotate_left
     ·intro w'
      go_simp
      with_reducible rfl
     rotate_left
     ·simp only [Act.put, List.setIfInBounds_toArray, List.set_cons_zero, List.set_cons_succ, i64_w, i32_w]
      rfl
     refine one_ (i := 8) (N := some 44) #[oY,oY,oY,oY,oY,oY,oY,oY,oY,oY,oY,oN,oY,oY,oN,oY,oY,oY,oY,oY,oY,oY,oY,oY,oY,oY,oN,oN,oN,oN,oN,oN] rfl rfl (by kernel_rfl) (by decide) (fun K hK => ?_)
     refine value_ (w1 := ?_) (v := ?_) (by rfl) rfl ?_ ?_
     rotate_left 2
     ·go_simp
      constructor
      ·rfl
      ·rfl
     refine hK.out _ _ ⟨msd.1, msd.2.1, msd.2.2⟩ (fun hHeld => ?_)
     clear hK K
     refine norm_ (a' := ?_) ?_ ?_
     rotate_left
     ·show Act.put _ (some 44) _ = _
      simp only [Act.put, List.setIfInBounds_toArray, List.set_cons_zero, List.set_cons_succ, i64_w, i32_w]
      rfl
     refine pure_ (i := 11) (N := some 47) (v := ?_) (a' := ?_) #[oY,oY,oY,oY,oY,oY,oY,oY,oY,oY,oY,oY,oY,oY,oN,oY,oY,oY,oY,oY,oY,oY,oY,oY,oY,oY,oN,oN,oN,oN,oN,oN] rfl rfl (by kernel_rfl) (fun _ _ _ h => h) (Or.inl ⟨by rfl, ?_⟩) ?_ ?_
     rotate_left
     ·intro w'
      go_simp
      with_reducible rfl
     rotate_left
     ·simp only [Act.put, List.setIfInBounds_toArray, List.set_cons_zero, List.set_cons_succ, i64_w, i32_w]
      rfl
     refine pure_ (i := 14) (N := some 50) (v := ?_) (a' := ?_) #[oY,oY,oY,oY,oY,oY,oY,oY,oY,oY,oY,oY,oY,oY,oY,oY,oY,oY,oY,oY,oY,oY,oY,oY,oY,oY,oN,oN,oN,oN,oN,oN] rfl rfl (by kernel_rfl) (fun _ _ _ h => h) (Or.inl ⟨by rfl, ?_⟩) ?_ ?_
     rotate_left
     ·intro w'
      go_simp
      with_reducible rfl
     rotate_left
     ·simp only [Act.put, List.setIfInBounds_toArray, List.set_cons_zero, List.set_cons_succ, i64_w, i32_w]
      rfl
     refine pure_ (i := 26) (N := some 62) (v := ?_) (a' := ?_) #[oY,oY,oY,oY,oY,oY,oY,oY,oY,oY,oY,oY,oY,oY,oY,oY,oY,oY,oY,oY,oY,oY,oY,oY,oY,oY,oY,oN,oN,oN,oN,oN] rfl rfl (by kernel_rfl) (fun _ _ _ h => h) (Or.inl ⟨by rfl, ?_⟩) ?_ ?_
     rotate_left
     ·intro w'
      go_simp
      with_reducible rfl
     rotate_left
     ·simp only [Act.put, List.setIfInBounds_toArray, List.set_cons_zero, List.set_cons_succ, i64_w, i32_w]
      rfl
     refine pure_ (i := 27) (N := some 63) (v := ?_) (a' := ?_) #[oY,oY,oY,oY,oY,oY,oY,oY,oY,oY,oY,oY,oY,oY,oY,oY,oY,oY,oY,oY,oY,oY,oY,oY,oY,oY,oY,oY,oN,oN,oN,oN] rfl rfl (by kernel_rfl) (fun _ _ _ h => h) (Or.inl ⟨by rfl, ?_⟩) ?_ ?_
     rotate_left
     ·intro w'
      go_simp
      with_reducible rfl
     rotate_left
     ·simp only [Act.put, List.setIfInBounds_toArray, List.set_cons_zero, List.set_cons_succ, i64_w, i32_w]
      rfl
     refine one_ (i := 28) (N := none) #[oY,oY,oY,oY,oY,oY,oY,oY,oY,oY,oY,oY,oY,oY,oY,oY,oY,oY,oY,oY,oY,oY,oY,oY,oY,oY,oY,oY,oY,oN,oN,oN] rfl rfl (by kernel_rfl) (by decide) (fun K hK => ?_)
     refine skip_ (w1 := ?_) (by rfl) rfl ?_ ?_
     rotate_left
     ·go_simp
      rfl
     generalize hW5 : World.drew (World.setCell wr _ _) = W5
     have ms5 : WiS B g i x.f1 x.f2 s.f2 W5 := by subst hW5; refine ⟨?_, ?_, ?_⟩ <;> (go_simp; done)
     have q5 : W5.frozen? ⟨g, i * 3 + 2, none⟩ = false := by subst hW5; go_simp
     refine hK.out _ _ ⟨ms5.1, ms5.2.1, ms5.2.2⟩ (fun hHeld => ?_)
     clear hK K
     refine pure_ (i := 29) (N := some 64) (v := ?_) (a' := ?_) #[oY,oY,oY,oY,oY,oY,oY,oY,oY,oY,oY,oY,oY,oY,oY,oY,oY,oY,oY,oY,oY,oY,oY,oY,oY,oY,oY,oY,oY,oY,oN,oN] rfl rfl (by kernel_rfl) (fun _ _ _ h => h) (Or.inl ⟨by rfl, ?_⟩) ?_ ?_
     rotate_left
     ·intro w'
      go_simp
      with_reducible rfl
     rotate_left
     ·simp only [Act.put, List.setIfInBounds_toArray, List.set_cons_zero, List.set_cons_succ, i64_w, i32_w]
      rfl
     refine pure_ (i := 30) (N := some 65) (v := ?_) (a' := ?_) #[oY,oY,oY,oY,oY,oY,oY,oY,oY,oY,oY,oY,oY,oY,oY,oY,oY,oY,oY,oY,oY,oY,oY,oY,oY,oY,oY,oY,oY,oY,oY,oN] rfl rfl (by kernel_rfl) (fun _ _ _ h => h) (Or.inl ⟨by rfl, ?_⟩) ?_ ?_
     rotate_left
     ·intro w'
      go_simp
      with_reducible rfl
     rotate_left
     ·simp only [Act.put, List.setIfInBounds_toArray, List.set_cons_zero, List.set_cons_succ, i64_w, i32_w]
      rfl
     refine last_ (i := 31) (N := none) #[oY,oY,oY,oY,oY,oY,oY,oY,oY,oY,oY,oY,oY,oY,oY,oY,oY,oY,oY,oY,oY,oY,oY,oY,oY,oY,oY,oY,oY,oY,oY,oY] rfl rfl (by kernel_rfl) (by decide) (fun K hK => ?_)
     refine skip_ (w1 := ?_) (by rfl) rfl ?_ ?_
     rotate_left
     ·go_simp
      rfl
     refine hK.out _ _ ?_
     clear hK K
     refine done_ (by kernel_rfl) ?_
     have h5 : W5 = World.drew (World.setCell wr ⟨g, i * 3 + 1, none⟩ (.int .i64 n1)) := hW5.symm
     have H5 := hidE h5
     clear hHeld ms5 q5 h5 hW5 msd d0 d1 d2 d1d y0 y1 y2 q1 q2 lg lB e1 e2 e3 e4 hbc'
     generalize hW6 : World.setCell W5 _ _ = W6
     have h6 : W6 = (World.setCell (World.setCell wr ⟨g, i * 3 + 1, none⟩ (.int .i64 n1)) ⟨g, i * 3 + 2, none⟩ (.int .i64 n2)).drew := by rw [← hW6, H5.out]; rfl
     have r6 : RowS 24 W6 g c (M.set i ⟨s.f0, n1, n2⟩) := by rw [h6]; exact (HR.out.set2 HS.out n1 n2).drew
     have f6 : Fr (fun j => j = g) wr W6 := by rw [h6]; (repeat' (first | (with_reducible exact Fr.refl _ _) | (with_reducible assumption) | (with_reducible refine Fr.alloc ?_ _) | (with_reducible refine Fr.drew ?_) | (with_reducible refine Fr.drewN ?_ _) | (with_reducible refine Fr.setCell ?_ _ _ ?_) | (exact Or.inr rfl) | (left; simp; done) | (left; simp; omega) | (simp; done) | (simp; omega) | omega))
     have hwr := hf.size
     clear hW6 h6
     have hW6' : SlS w.heap.size W6 (.slice (some ⟨g, 0, none⟩) L.length cp) (M.set i ⟨s.f0, n1, n2⟩) := .inr ⟨g, c, by rw [List.length_set, HML.out]; exact congrArg _ HCP.out, hg, hm, r6⟩
     have hP := HWP.out.set HS.out hxo.1 hxo.2.1 (by omega)
     rw [← HN1.out, ← HN2.out] at hP
     have HP := hidE hP
     have B6 := HSb.out.fr f6 (fun e => hgne e.symm)
     have F6 := hf.trans f6 (fun j hj e => by omega)
     clear hP r6 f6
     go_wp2
     go_roundw
     case rel => exact ⟨h + 1, i + 1, M.set i ⟨s.f0, n1, n2⟩, by omega, by omega, by go_num, by go_num, by rw [List.length_set]; exact HML.out, HP.out, hW6', B6, F6⟩
     case measure => simp [intOf]; omega
   ·have t2 : ¬ (i : Int) < (len2 : Int) := by omega
    have t3 : decide ((i : Int) < (len2 : Int)) = false := decide_eq_false t2
    clear hs hr hm hv
    go_wp2
    go_roundw
    case rel => exact ⟨h, i + 1, M, by omega, by omega, rfl, by go_num, HML.out, HWP.out.keep, hS, hB, hf⟩
    case measure => simp [intOf]; omega
  ·obtain rfl : i = L.length := by omega
   clear hlt
   have hok : okE M = true := okE_of (by rw [HML.out]; exact hLl) (fun s hs => by have := HWP.out.1 s hs; omega)
   have HQ : Hid (∀ W, Fr (fun _ => False) wr W → Calls Try.prog 39 #[.slice A L.length cp] W fun e w' => e = .returned (.tuple #[.int .i64 (hullZ M).1, .int .i64 (hullZ M).2.1, .int .i64 (hullZ M).2.2]) ∧ Fr (fun _ => False) W w') := hidE (fun W k => by
    obtain ⟨A', c', e, hc', hC'⟩ := (hS.fr k).C
    injection e with e1 e2 e3
    subst e1 e3
    have := hull_at hC' hc'
    rwa [HML.out] at this)
   obtain ⟨y0, y1, y2, _⟩ := hB.c3
   have lB := hB.lt
   have HBl := hidE hB
   have hwp := HWP.out
   rw [← HML.out] at hwp
   rcases hull_cases hok with ⟨hno, hz⟩ | ⟨lo, hi', hH, hz⟩
   ·rw [hz] at HQ
    clear hok hwp hno hz hB hS y0 y1 y2 lB
    go_wp2_with fail
    refine (HQ.out _ (Fr.refl _ _)).mono ?_
    rintro e w5 ⟨rfl, k5⟩
    have f5 := hf.trans k5 (fun _ _ h => h)
    clear k5 HQ
    by_cases hc2 : 2 * (h : Int) ≤ (L.length : Int)
    ·have t1 : decide (2 * (h : Int) ≤ (L.length : Int)) = true := decide_eq_true hc2
     go_wp2_with fail
     refine (alive_at _).mono ?_
     rintro e w6 ⟨rfl, k6⟩
     go_wp2
     go_ret
     exact ⟨rfl, f5.trans k6 (fun _ _ h => h)⟩
    ·have t1 : decide (2 * (h : Int) ≤ (L.length : Int)) = false := decide_eq_false hc2
     go_wp2_with fail
     refine (alive_at _).mono ?_
     rintro e w6 ⟨rfl, k6⟩
     go_wp2
     go_ret
     exact ⟨rfl, f5.trans k6 (fun _ _ h => h)⟩
   ·rw [hz] at HQ
    by_cases hc2 : 2 * (h : Int) ≤ (L.length : Int)
    ·have t1 : decide (2 * (h : Int) ≤ (L.length : Int)) = true := decide_eq_true hc2
     clear hok hwp hH hz hB hS y0 y1 y2 lB
     go_wp2_with fail
     refine (HQ.out _ (Fr.refl _ _)).mono ?_
     rintro e w5 ⟨rfl, k5⟩
     have f5 := hf.trans k5 (fun _ _ h => h)
     clear k5 HQ
     go_wp2_with fail
     refine (alive_at _).mono ?_
     rintro e w6 ⟨rfl, k6⟩
     go_wp2
     go_ret
     exact ⟨rfl, f5.trans k6 (fun _ _ h => h)⟩
    ·have t1 : decide (2 * (h : Int) ≤ (L.length : Int)) = false := decide_eq_false hc2
     obtain ⟨hl1, hl2⟩ := within_hull hwp (by have := HML.out; omega) hH
     have t2 : decide (lo ≥ x.f1) = true := decide_eq_true hl1
     have t3 : decide (hi' ≤ x.f2) = true := decide_eq_true hl2
     clear hok hwp hH hz hB hS y0 y1 y2 lB
     go_wp2_with fail
     refine (HQ.out _ (Fr.refl _ _)).mono ?_
     rintro e w5 ⟨rfl, k5⟩
     have f5 := hf.trans k5 (fun _ _ h => h)
     obtain ⟨y0, y1, y2, _⟩ := (HBl.out.fr k5 (fun h => h)).c3
     clear k5 HQ
     go_wp2_with fail
     refine (alive_at _).mono ?_
     rintro e w6 ⟨rfl, k6⟩
     go_wp2
     go_ret
     exact ⟨rfl, f5.trans k6 (fun _ _ h => h)⟩
end Go.Proofs.Ytapagoaoglmegaa
