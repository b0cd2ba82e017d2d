/- Texts of mine, joined by shake.py: ChLawP, ChField, ChMoreP, PClx28, PClx30, PClx31. -/
import Derived.Test.YtapagoaoglmegaaGreatMo0
import Derived.Test.YtapagoaoglmegaaGreatMo2
import Derived.Test.YtapagoaoglmegaaGreatMo17
section
namespace Go.Proofs.YtapagoaoglmegaaGreat
open Go.RowKit Go.Proofs.YtapagoaoglmegaaGreatW.PrintWords Go.Proofs.YtapagoaoglmegaaGreatW.PrintLast Go.Proofs.YtapagoaoglmegaaGreatW.PrintMore PCl
set_option linter.unusedVariables false
set_option linter.unusedSimpArgs false
structure FS (l : List S27) : Prop where
  fld : Fld l
  who : WhoWf l
  at_ : ∀ c ∈ l, c.f1.f0 = 5
  sm : ∀ c ∈ l, c.f1.f2 ≤ 68719476736
theorem FS.okE {l : List S27} (h : FS l) : okE (spansOf l) = true := by
  unfold Go.Proofs.YtapagoaoglmegaaGreat.okE
  rw [Bool.and_eq_true]
  refine ⟨by have := h.fld.len; simpa [spansOf] using this, List.all_eq_true.2 fun s hs => ?_⟩
  obtain ⟨c, hc, rfl⟩ := List.mem_map.1 hs
  obtain ⟨_, ⟨a, _⟩, ⟨_, b⟩, d⟩ := h.fld.span c hc
  unfold mayE
  unfold MT at b
  simp; exact ⟨⟨a, d⟩, b⟩
theorem mem_spans {l : List S27} {s : S25} (h : s ∈ spansOf l) : ∃ c ∈ l, c.f1 = s := by
  obtain ⟨c, hc, e⟩ := List.mem_map.1 h; exact ⟨c, hc, e⟩
theorem spans_sp {l : List S27} (h : Fld l) : ∀ s ∈ spansOf l, SpOk s := fun s hs => by
  obtain ⟨c, hc, rfl⟩ := mem_spans hs; exact h.span c hc
theorem FS.hull {l : List S27} (h : FS l) {lo hi : Int} (H : IsHull (spansOf l) lo hi) : 0 ≤ lo ∧ lo ≤ hi ∧ hi ≤ 68719476736 ∧ 0 < l.length ∧ hullOf l = ⟨5, lo, hi⟩ := by
  obtain ⟨s, hs, es⟩ := H.lo_mem
  obtain ⟨t, ht, et⟩ := H.hi_mem
  obtain ⟨c, hc, rfl⟩ := mem_spans hs
  obtain ⟨d, hd, rfl⟩ := mem_spans ht
  obtain ⟨_, ⟨a, _⟩, _, _⟩ := h.fld.span c hc
  have b := h.sm d hd
  have hl : 0 < l.length := List.length_pos_of_mem hc
  have hle := (H.all hi H.hi_deep).1
  refine ⟨by omega, hle, by omega, hl, ?_⟩
  have e0 : (rd_T27 l 0).f1.f0 = 5 := h.at_ _ (rd_mem (k := 0) hl)
  unfold hullOf
  rw [hullZ_is h.okE H, e0]
theorem hull_sp {lo hi : Int} (h0 : 0 ≤ lo) (h1 : lo ≤ hi) (h2 : hi ≤ 68719476736) : SpOk ⟨5, lo, hi⟩ := by
  unfold SpOk Tm MT; simp only; omega
theorem FS.no {l : List S27} (h : FS l) (H : NoHull (spansOf l)) : chZ l = chNo 33 := by
  unfold chZ
  rw [if_pos ((mayB_iff l).2 h.fld), hullZ_no h.okE H]
  rfl
theorem FS.left {l : List S27} (h : FS l) {lo hi : Int} (H : IsHull (spansOf l) lo hi) :
    ∃ x, pruneZ l ⟨5, lo, hi⟩ = (x, 0) ∧ x.Sublist l ∧ 0 < x.length ∧ ∀ c ∈ x, Meets c.f1 ⟨5, lo, hi⟩ := by
  obtain ⟨a0, a1, a2, hl, _⟩ := h.hull H
  have hs := hull_sp a0 a1 a2
  have ok : pruneOk l ⟨5, lo, hi⟩ = true := (pruneOk_iff _ _).2 ⟨h.fld, hs, h.at_⟩
  have P : Pruned (l.filter (keepB ⟨5, lo, hi⟩)) (leftZ l ⟨5, lo, hi⟩) := pruneGo_is _ _ (Nat.le_refl _)
  obtain ⟨s, hs', es⟩ := H.lo_mem
  obtain ⟨c, hc, rfl⟩ := mem_spans hs'
  have hm : Meets c.f1 ⟨5, lo, hi⟩ := by
    obtain ⟨_, _, _, d⟩ := h.fld.span c hc
    exact ⟨h.fld.span c hc, hs, h.at_ c hc, by simp only; omega⟩
  have hcf : c ∈ l.filter (keepB ⟨5, lo, hi⟩) := List.mem_filter.2 ⟨hc, decide_eq_true hm⟩
  have hpos := List.length_pos_of_mem hcf
  have hlow := P.low
  refine ⟨leftZ l ⟨5, lo, hi⟩, ?_, P.sub.trans List.filter_sublist, by omega, fun d hd => ?_⟩
  · unfold pruneZ
    rw [if_pos ok, if_neg (by omega)]
  · have := (List.mem_filter.1 (P.sub.subset hd)).2
    exact of_decide_eq_true this
theorem FS.yes {l : List S27} (h : FS l) {lo hi : Int} (H : IsHull (spansOf l) lo hi) {x : List S27} (hx : pruneZ l ⟨5, lo, hi⟩ = (x, 0)) :
    chZ l = ⟨5, lo, hi, meanZ (spansOf x) ⟨5, lo, hi⟩, jitZ (spansOf x) ⟨5, lo, hi⟩, x.map (fun c => c.f0), 0⟩ := by
  obtain ⟨a0, a1, a2, hl, e⟩ := h.hull H
  unfold chZ
  rw [if_pos ((mayB_iff l).2 h.fld), hullZ_is h.okE H, e, hx]
  rfl
theorem FS.mean {l : List S27} (h : FS l) {lo hi : Int} (H : IsHull (spansOf l) lo hi) {x : List S27} (hs : x.Sublist l) (h0 : 0 < x.length) :
    lo ≤ meanZ (spansOf x) ⟨5, lo, hi⟩ ∧ meanZ (spansOf x) ⟨5, lo, hi⟩ ≤ hi := by
  obtain ⟨a0, a1, a2, hl, e⟩ := h.hull H
  exact mean_in (fun s hs' => spans_sp (h.fld.sub hs) s hs') (hull_sp a0 a1 a2) (by simpa [spansOf] using h0)
theorem small_div {L : List S25} {h : S25} (hL : ∀ s ∈ L, SpOk s ∧ s.f2 ≤ 68719476736) (hn : L.length ≤ 16) (hh : SpOk h) (h2 : h.f2 ≤ 68719476736) (h0 : 0 < L.length) : DivL L h := by
  have hsp : ∀ s ∈ L, SpOk s := fun s hs => (hL s hs).1
  have hbr : ∀ s ∈ L, 1 ≤ brZ s ∧ brZ s ≤ 68719476737 := fun s hs => by
    obtain ⟨⟨_, ⟨a, _⟩, _, d⟩, b⟩ := hL s hs
    unfold brZ; omega
  have hw : 0 ≤ wideZ L ∧ wideZ L ≤ 68719476737 := by
    obtain ⟨a, b, c⟩ := foldl_mx brZ L 0
    refine ⟨a, ?_⟩
    show L.foldl (fun m s => max m (brZ s)) 0 ≤ _
    rcases c with c | ⟨s, hs, c⟩
    · rw [c]; omega
    · rw [c]; exact (hbr s hs).2
  obtain ⟨b1, b2⟩ := all_bd hsp h0
  have hn16 : (L.length : Int) ≤ 16 := by omega
  have ball : 1024 ≤ allZ L ∧ allZ L ≤ 16777216 := ⟨b1, by omega⟩
  obtain ⟨_, ⟨q0, _⟩, _, q1⟩ := id hh
  have hmd : ∀ s, h.f1 ≤ mdZ h s ∧ mdZ h s ≤ h.f2 := fun s => md_in hh s
  have hmn := mean_in hsp hh h0
  have mulb : ∀ a b : Int, 0 ≤ a → a ≤ 68719476737 → 0 ≤ b → b ≤ 1048576 → a.toNat * b.toNat < 18446744073709551616 := fun a b ha ha' hb hb' => by
    have x1 : a.toNat ≤ 68719476737 := by omega
    have x2 : b.toNat ≤ 1048576 := by omega
    exact Nat.lt_of_le_of_lt (Nat.mul_le_mul x1 x2) (by decide)
  refine ⟨fun s hs => ?_, fun s hs => ?_, fun s hs => ?_⟩
  · obtain ⟨c1, c2⟩ := hbr s hs
    exact divOk_0 (by omega) (by omega) (mulb (wideZ L) 1024 hw.1 hw.2 (by omega) (by omega))
  · obtain ⟨c1, c2⟩ := wt_in hsp hs
    have := hmd s
    exact divOk_0 (by omega) (by omega) (mulb _ _ (by omega) (by omega) (by omega) (by omega))
  · obtain ⟨c1, c2⟩ := wt_in hsp hs
    have d := dist_in (hmd s) hmn
    exact divOk_0 (by omega) (by omega) (mulb _ _ (by omega) (by omega) (by omega) (by omega))
theorem FS.div {l : List S27} (h : FS l) : ∀ x, pruneZ l (hullOf l) = (x, 0) → DivL (spansOf x) (hullOf l) := fun x hx => by
  obtain ⟨_, hsp, hsub, h0⟩ := prune_in hx
  have hlen := hsub.length_le
  have hl := h.fld.len
  refine small_div (fun s hs => ?_) (by simp [spansOf]; omega) hsp ?_ (by simpa [spansOf] using h0)
  · obtain ⟨c, hc, rfl⟩ := mem_spans hs
    exact ⟨h.fld.span c (hsub.subset hc), h.sm c (hsub.subset hc)⟩
  · rcases hull_cases h.okE with ⟨_, e⟩ | ⟨lo, hi, H, e⟩
    · unfold hullOf; rw [e]; show (0 : Int) ≤ 68719476736; decide
    · obtain ⟨_, _, a, _, e'⟩ := h.hull H
      rw [e']; exact a
def SaidOk (n : S78) : Prop := 0 ≤ n.f1 ∧ n.f1 < 4294967296 ∧ 0 ≤ n.f2 ∧ n.f2 < 4294967296 ∧ 0 ≤ n.f3 ∧ n.f3 < 65536
def candS (t : Int) (i : Nat) (n : S78) : S27 := if n.f0 = true then ⟨i, ⟨5, n.f1 * 4, n.f1 * 4 + n.f2 / 256⟩, n.f3⟩ else ⟨i, ⟨5, t - n.f1, t + n.f2⟩, n.f3⟩
def sfTo (t : Int) (l : List S78) (i : Nat) : List S27 := (List.range i).map fun j => candS t j (rd_T78 l j)
def sfZ (t : Int) (l : List S78) : List S27 := sfTo t l (min l.length 16)
def honTo (l : List S78) (i : Nat) : Nat := (List.range i).countP fun (j : Nat) => !(rd_T78 l (j : Int)).f0
def honZ (l : List S78) : Nat := honTo l (min l.length 16)
theorem sfTo_len (t : Int) (l : List S78) (i : Nat) : (sfTo t l i).length = i := by simp [sfTo]
theorem sfTo_succ (t : Int) (l : List S78) (i : Nat) : sfTo t l (i + 1) = sfTo t l i ++ [candS t i (rd_T78 l i)] := by
  unfold sfTo; rw [List.range_succ, List.map_append]; rfl
theorem honTo_succ (l : List S78) (i : Nat) : honTo l (i + 1) = honTo l i + (if (rd_T78 l i).f0 = true then 0 else 1) := by
  unfold honTo; rw [List.range_succ, List.countP_append]; cases h : (rd_T78 l (i : Int)).f0 <;> simp [h]
theorem honTo_le (l : List S78) (i : Nat) : honTo l i ≤ i := by unfold honTo; have := List.countP_le_length (p := fun (j : Nat) => !(rd_T78 l (j : Int)).f0) (l := List.range i); simpa using this
theorem rd78_mem {l : List S78} {i : Nat} (h : i < l.length) : rd_T78 l (i : Int) ∈ l := by
  unfold rd_T78
  have : l.getD (i : Int).toNat z78 = l[i] := by simp [h]
  rw [this]; exact List.getElem_mem h
theorem C78_open {w : World} {A : Option Addr} {l : List S78} (h : Kd.C k78 w A l.length l) (hn : 0 < l.length) : ∃ r off, A = some ⟨r, off, none⟩ ∧ r < w.heap.size ∧ ∀ i : Nat, i < l.length →
    w.cell? ⟨r, off + i * 4, none⟩ = some (.bool (rd_T78 l i).f0) ∧ w.cell? ⟨r, off + i * 4 + 1, none⟩ = some (.int .u32 (rd_T78 l i).f1) ∧ w.cell? ⟨r, off + i * 4 + 2, none⟩ = some (.int .u32 (rd_T78 l i).f2) ∧ w.cell? ⟨r, off + i * 4 + 3, none⟩ = some (.int .u16 (rd_T78 l i).f3) := by
  obtain ⟨ad, rfl, h0, _⟩ := at_T78 h 0 (by omega) (by omega)
  rw [show (0 : Int).toNat * 4 = 0 from rfl, add_zero'] at h0
  obtain ⟨r, off, rfl⟩ := spot_none h0
  refine ⟨r, off, rfl, World.block_lt_of_cell? w _ h0, fun i hi => ?_⟩
  obtain ⟨ad, e, h1, h2, h3, h4⟩ := at_T78 h (i : Int) (by omega) (by omega)
  obtain rfl := Option.some.inj e
  rw [Int.toNat_natCast, add_none] at h1 h2 h3 h4
  exact ⟨h1, h2, h3, h4⟩
theorem saidN {t a b c : Int} {i : Nat} (ht : 8589934592 ≤ t ∧ t < 12884901888) (a0 : 0 ≤ a) (a1 : a < 4294967296) (b0 : 0 ≤ b) (b1 : b < 4294967296) (c0 : 0 ≤ c) (c1 : c < 65536) (hi : i < 16) :
    wrap64 a = a ∧ wrap64 b = b ∧ wrap64 c = c ∧ wrap64 (t - a) = t - a ∧ wrap64 (t + b) = t + b ∧ wrap64 (a * 4) = a * 4 ∧ wrap64 (a * 4 + b / 256) = a * 4 + b / 256 := by
  refine ⟨?_, ?_, ?_, ?_, ?_, ?_, ?_⟩ <;> unfold wrap64 <;> omega
set_option maxHeartbeats 4000000 in
theorem field_at {w : World} {A : Option Addr} {cap : Nat} {l : List S78} {at_ : Int} (hC : Kd.C k78 w A l.length l) (hc : l.length ≤ cap) (hN : ∀ n ∈ l, SaidOk n) (ha : 0 ≤ at_ ∧ at_ < 4294967296) :
    Calls Tryz.prog 14 #[.slice A l.length cap, .int .u32 at_] w fun e w' => ∃ v, e = .returned (.tuple #[v, .int .i64 (honZ l : Nat), .int .i64 (at_ + 8589934592)]) ∧ Kd.R k27 27 w' w.heap.size (fun _ => True) v (sfZ (at_ + 8589934592) l) ∧ Below w.heap.size w w' := by
  have hlen := hC.2.1
  have HC := hidE (fun h => C78_open hC h)
  have HN := hidE hN
  obtain ⟨T, hT⟩ : ∃ T, T = at_ + 8589934592 := ⟨_, rfl⟩
  have hTl : 8589934592 ≤ T ∧ T < 12884901888 := by omega
  rw [← hT]
  have w0 : wrap64 at_ = at_ := by unfold wrap64; omega
  have w0' : IntKind.i64.wrap at_ = at_ := (i64_w _).trans w0
  have w1 : wrap64 (at_ + 8589934592) = T := by unfold wrap64; omega
  have w1' : IntKind.i64.wrap (at_ + 8589934592) = T := (i64_w _).trans w1
  have HT := hidE hTl
  clear hC hN ha hT hTl
  go_enter Tryz.func14, Tryz.ntmps14
  go_wp2_with fail
  clear w0 w0' w1 w1'
  go_loopw [8, 9, 18] (fun v8 v9 v18 wr => ∃ i : Nat, i ≤ l.length ∧ i ≤ 16 ∧ v18 = .int .i64 (i : Int) ∧ v9 = .int .i64 (honTo l i : Nat) ∧ Hid (Kd.R k27 27 wr w.heap.size (fun _ => True) v8 (sfTo T l i)) ∧ Below w.heap.size w wr) (fun _ _ v18 _ => l.length - (intOf v18).toNat)
  case atStart => exact ⟨0, Nat.zero_le _, by omega, rfl, rfl, hidE (Kd.R_nil _ _ _ _ _), Below.refl _ _⟩
  case round =>
    obtain ⟨i, hi, hi16, rfl, rfl, HR, hb⟩ := hrel
    have hsz := hb.size
    have HB := hidE hb
    have k := Fr.of_below hb (Nat.le_refl _) (fun _ => False)
    clear hb
    by_cases hlt : i < l.length
    · obtain ⟨r, off, rfl, hr, hat⟩ := HC.out (by omega)
      obtain ⟨c0, c1, c2, c3⟩ := hat i hlt
      have hcr : ∀ o, wr.cell? ⟨r, o, none⟩ = w.cell? ⟨r, o, none⟩ := fun o => k.cell (a := ⟨r, o, none⟩) hr (fun h => h)
      rw [← hcr] at c0 c1 c2 c3
      obtain ⟨n, hn⟩ : ∃ n, n = rd_T78 l (i : Int) := ⟨_, rfl⟩
      rw [← hn] at c0 c1 c2 c3
      have l1 : (i : Int) < (l.length : Int) := by omega
      have K := hidE k
      by_cases h16 : i = 16
      · subst h16
        have e16 : sfTo T l 16 = sfZ T l := by unfold sfZ; rw [show min l.length 16 = 16 by omega]
        have e17 : honTo l 16 = honZ l := by unfold honZ; rw [show min l.length 16 = 16 by omega]
        rw [e16] at HR
        rw [e17]
        clear e16 e17 hcr hat hn k
        simp only [Nat.reduceMul] at c0 c1 c2 c3
        go_wp2
        go_returns
        exact ⟨_, rfl, Kd.R_alloc HR.out _, HB.out.alloc hsz _⟩
      · have l2 : ((i : Int) == 16) = false := by rw [beq_eq_false_iff_ne]; omega
        have hno := HN.out _ (rd78_mem hlt)
        rw [← hn] at hno
        obtain ⟨a0, a1, b0, b1, d0, d1⟩ := hno
        obtain ⟨x1, x2, x3, x4, x5, x6, x7⟩ := saidN (i := i) HT.out a0 a1 b0 b1 d0 d1 (by omega)
        have hh := honTo_le l i
        have x8 : wrap64 ((honTo l i : Nat) + 1 : Int) = ((honTo l i + 1 : Nat) : Int) := by unfold wrap64; omega
        have HS := hidE (sfTo_succ T l i)
        have HO := hidE (honTo_succ l i)
        have hlS : (sfTo T l i).length = i := sfTo_len T l i
        have HLS := hidE hlS
        rw [← hn] at HS HO
        unfold candS at HS
        obtain ⟨hq, hhq⟩ : ∃ hq, hq = honTo l i := ⟨_, rfl⟩
        rw [← hhq] at x8 HO ⊢
        clear hhq hh hcr hat hn k hlS a0 a1 b0 b1 d0 d1
        obtain ⟨Z, hZ⟩ : ∃ Z, Z = sfTo T l i := ⟨_, rfl⟩
        rw [← hZ] at HR HS HLS
        clear hZ
        cases hf : n.f0 with
        | true =>
          rw [hf] at c0
          go_wp2_with (at_builtin; refine Kd.R_append k27 (w0 := w) w.heap.size rfl _ _ 22 27 (.agg #[.int .i64 0, .int .i64 0, .int .i64 0, .int .i64 0, .int .i64 0]) 40 rfl Tryz.underlying22 info27 rfl (by decide) (by omega) _ Z (⟨i, ⟨5, n.f1 * 4, n.f1 * 4 + n.f2 / 256⟩, n.f3⟩ : S27) [.int .i64 i, .int .i64 5, .int .i64 (n.f1 * 4), .int .i64 (n.f1 * 4 + n.f2 / 256), .int .i64 n.f3] (fun _ => True) (fun _ => False) rfl ?aX (k27_mkM _ _ _ _) (fun _ hk => hk.elim) (fun _ _ => trivial) ?aO ?aB ?aS ?aL ?_; (case aX => first | (go_simp; done) | (simp [Act.eval, World.alloc]; done)); (case aO => exact R_fr1 HR.out (by (repeat' (first | (with_reducible exact Fr.refl _ _) | (with_reducible assumption) | (with_reducible refine Fr.alloc ?_ _) | (with_reducible refine Fr.drew ?_) | (with_reducible refine Fr.drewN ?_ _) | (with_reducible refine Fr.setCell ?_ _ _ ?_) | (exact Or.inr rfl) | (left; simp; done) | (left; simp; omega) | (simp; done) | (simp; omega) | omega)))); (case aB => exact (K.out.trans (T := fun _ => False) (by (repeat' (first | (with_reducible exact Fr.refl _ _) | (with_reducible assumption) | (with_reducible refine Fr.alloc ?_ _) | (with_reducible refine Fr.drew ?_) | (with_reducible refine Fr.drewN ?_ _) | (with_reducible refine Fr.setCell ?_ _ _ ?_) | (exact Or.inr rfl) | (left; simp; done) | (left; simp; omega) | (simp; done) | (simp; omega) | omega))) (fun _ _ h => h)).below); (case aS => simp; omega); (case aL => (have := HLS.out); omega))
          intro v2 w2 r2 b2 _ _
          have R2 := hidE r2
          clear r2 HR K c0 c1 c2 c3
          go_wp2
          go_roundw
          case rel => exact ⟨i + 1, by omega, by omega, by go_num, by rw [HO.out, hf]; rfl, hidE (by rw [HS.out, hf]; exact R2.out), b2⟩
          case measure => simp [intOf]; omega
        | false =>
          rw [hf] at c0
          go_wp2_with (at_builtin; refine Kd.R_append k27 (w0 := w) w.heap.size rfl _ _ 22 27 (.agg #[.int .i64 0, .int .i64 0, .int .i64 0, .int .i64 0, .int .i64 0]) 40 rfl Tryz.underlying22 info27 rfl (by decide) (by omega) _ Z (⟨i, ⟨5, T - n.f1, T + n.f2⟩, n.f3⟩ : S27) [.int .i64 i, .int .i64 5, .int .i64 (T - n.f1), .int .i64 (T + n.f2), .int .i64 n.f3] (fun _ => True) (fun _ => False) rfl ?aX (k27_mkM _ _ _ _) (fun _ hk => hk.elim) (fun _ _ => trivial) ?aO ?aB ?aS ?aL ?_; (case aX => first | (go_simp; done) | (simp [Act.eval, World.alloc]; done)); (case aO => exact R_fr1 HR.out (by (repeat' (first | (with_reducible exact Fr.refl _ _) | (with_reducible assumption) | (with_reducible refine Fr.alloc ?_ _) | (with_reducible refine Fr.drew ?_) | (with_reducible refine Fr.drewN ?_ _) | (with_reducible refine Fr.setCell ?_ _ _ ?_) | (exact Or.inr rfl) | (left; simp; done) | (left; simp; omega) | (simp; done) | (simp; omega) | omega)))); (case aB => exact (K.out.trans (T := fun _ => False) (by (repeat' (first | (with_reducible exact Fr.refl _ _) | (with_reducible assumption) | (with_reducible refine Fr.alloc ?_ _) | (with_reducible refine Fr.drew ?_) | (with_reducible refine Fr.drewN ?_ _) | (with_reducible refine Fr.setCell ?_ _ _ ?_) | (exact Or.inr rfl) | (left; simp; done) | (left; simp; omega) | (simp; done) | (simp; omega) | omega))) (fun _ _ h => h)).below); (case aS => simp; omega); (case aL => (have := HLS.out); omega))
          intro v2 w2 r2 b2 _ _
          have R2 := hidE r2
          clear r2 HR K c0 c1 c2 c3
          go_wp2
          go_roundw
          case rel => exact ⟨i + 1, by omega, by omega, by go_num, by rw [HO.out, hf]; rfl, hidE (by rw [HS.out, hf]; exact R2.out), b2⟩
          case measure => simp [intOf]; omega
    · have e1 : sfTo T l i = sfZ T l := by unfold sfZ; rw [show min l.length 16 = i by omega]
      have e2 : honTo l i = honZ l := by unfold honZ; rw [show min l.length 16 = i by omega]
      obtain rfl : i = l.length := by omega
      rw [e1] at HR
      rw [e2]
      clear e1 e2 hlt
      go_wp2
      go_returns
      exact ⟨_, rfl, HR.out, HB.out⟩
theorem sfZ_len (t : Int) (l : List S78) : (sfZ t l).length = min l.length 16 := sfTo_len _ _ _
theorem sfZ_get {t : Int} {l : List S78} {i : Nat} {c : S27} (h : (sfZ t l)[i]? = some c) : i < l.length ∧ i < 16 ∧ c = candS t i (rd_T78 l i) := by
  have hi := (List.getElem?_eq_some_iff.1 h).1
  rw [sfZ_len] at hi
  refine ⟨by omega, by omega, ?_⟩
  unfold sfZ sfTo at h
  rw [List.getElem?_map, List.getElem?_range hi] at h
  simpa using h.symm
theorem sfZ_mem {t : Int} {l : List S78} {c : S27} (h : c ∈ sfZ t l) : ∃ i, i < l.length ∧ i < 16 ∧ c = candS t i (rd_T78 l i) := by
  obtain ⟨i, hi⟩ := List.mem_iff_getElem?.1 h
  exact ⟨i, sfZ_get hi⟩
theorem candS_who (t : Int) (i : Nat) (n : S78) : (candS t i n).f0 = i := by unfold candS; split <;> rfl
theorem candS_in {t : Int} (ht : 8589934592 ≤ t ∧ t < 12884901888) (i : Nat) {n : S78} (h : SaidOk n) : SpOk (candS t i n).f1 ∧ (candS t i n).f1.f0 = 5 ∧ (candS t i n).f1.f2 ≤ 34359738368 ∧ Tm (candS t i n).f2 := by
  obtain ⟨a0, a1, b0, b1, c0, c1⟩ := h
  cases hf : n.f0 with
  | true =>
    have e : candS t i n = ⟨i, ⟨5, n.f1 * 4, n.f1 * 4 + n.f2 / 256⟩, n.f3⟩ := by unfold candS; rw [hf]; rfl
    rw [e]; refine ⟨⟨⟨?_, ?_⟩, ⟨?_, ?_⟩, ⟨?_, ?_⟩, ?_⟩, rfl, ?_, ⟨?_, ?_⟩⟩ <;> (try unfold MT) <;> dsimp only <;> omega
  | false =>
    have e : candS t i n = ⟨i, ⟨5, t - n.f1, t + n.f2⟩, n.f3⟩ := by unfold candS; rw [hf]; rfl
    rw [e]; refine ⟨⟨⟨?_, ?_⟩, ⟨?_, ?_⟩, ⟨?_, ?_⟩, ?_⟩, rfl, ?_, ⟨?_, ?_⟩⟩ <;> (try unfold MT) <;> dsimp only <;> omega
theorem sfZ_fs {t : Int} {l : List S78} (ht : 8589934592 ≤ t ∧ t < 12884901888) (hw : ∀ n ∈ l, SaidOk n) : FS (sfZ t l) := by
  have key : ∀ c ∈ sfZ t l, SpOk c.f1 ∧ c.f1.f0 = 5 ∧ c.f1.f2 ≤ 34359738368 ∧ Tm c.f2 := fun c hc => by
    obtain ⟨i, hi, _, rfl⟩ := sfZ_mem hc
    exact candS_in ht i (hw _ (rd78_mem hi))
  refine ⟨⟨by rw [sfZ_len]; omega, fun c hc => ?_, fun c hc => (key c hc).1, fun c hc d hd => by rw [(key c hc).2.1, (key d hd).2.1], fun c hc => (key c hc).2.2.2, ?_⟩, fun c hc => ?_, fun c hc => (key c hc).2.1, fun c hc => by have := (key c hc).2.2.1; omega⟩
  · obtain ⟨i, _, _, rfl⟩ := sfZ_mem hc
    rw [candS_who]; omega
  · unfold sfZ sfTo
    rw [List.pairwise_map]
    exact List.nodup_range.imp fun h e => h (by rw [candS_who, candS_who] at e; omega)
  · obtain ⟨i, _, hi, rfl⟩ := sfZ_mem hc
    rw [candS_who]
    show (decide (IntKind.i64.min ≤ (i : Int)) && decide ((i : Int) ≤ IntKind.i64.max)) = true
    rw [decide_eq_true (by show (-9223372036854775808 : Int) ≤ i; omega), decide_eq_true (by show (i : Int) ≤ 9223372036854775807; omega)]
    rfl
theorem said_open {w : World} {A : Option Addr} {len cap : Nat} (h : RdS [.b, .i .u32, .i .u32, .i .u16] w A len cap) :
    ∃ l : List S78, l.length = len ∧ len ≤ cap ∧ Kd.C k78 w A l.length l ∧ ∀ n ∈ l, SaidOk n := by
  have hle := RdS.len_le h
  rcases h with ⟨rfl, hc, _⟩ | ⟨b, off, rfl, hlc, hcm, hb, R, hR⟩
  · exact ⟨[], rfl, hc, ⟨rfl, by simp, fun h => absurd h (by simp)⟩, fun n hn => by cases hn⟩
  · have hN : ∀ i, ∃ n : S78, i < len → R i = [.bool n.f0, .int .u32 n.f1, .int .u32 n.f2, .int .u16 n.f3] ∧ SaidOk n := by
      intro i
      by_cases hi : i < len
      · obtain ⟨ho, _⟩ := hR i hi
        obtain ⟨v0, r0, e0, h0, ho⟩ := okAll.cons ho
        obtain ⟨v1, r1, e1, h1, ho⟩ := okAll.cons ho
        obtain ⟨v2, r2, e2, h2, ho⟩ := okAll.cons ho
        obtain ⟨v3, r3, e3, h3, ho⟩ := okAll.cons ho
        have e4 := okAll.none ho
        obtain ⟨z, rfl⟩ := h0
        obtain ⟨a, rfl, ha⟩ := h1
        obtain ⟨c, rfl, hc⟩ := h2
        obtain ⟨d, rfl, hd⟩ := h3
        refine ⟨⟨z, a, c, d⟩, fun _ => ⟨by rw [e0, e1, e2, e3, e4], ?_⟩⟩
        have q0 : (0 : Int) ≤ a ∧ a ≤ 4294967295 := by have := ha; simp [Lit.wf] at this; exact this
        have q1 : (0 : Int) ≤ c ∧ c ≤ 4294967295 := by have := hc; simp [Lit.wf] at this; exact this
        have q2 : (0 : Int) ≤ d ∧ d ≤ 65535 := by have := hd; simp [Lit.wf] at this; exact this
        unfold SaidOk; simp only; omega
      · exact ⟨z78, fun h => absurd h hi⟩
    obtain ⟨N, hN⟩ := Classical.axiomOfChoice hN
    have hg : ∀ j p, ((List.range len).map N)[j]? = some p → j < len ∧ p = N j := by
      intro j p hj
      have hjl := (List.getElem?_eq_some_iff.1 hj).1
      simp at hjl
      rw [List.getElem?_map, List.getElem?_range hjl] at hj
      exact ⟨hjl, by simpa using hj.symm⟩
    refine ⟨(List.range len).map N, by simp, hlc, ⟨rfl, by simpa using hle, fun _ => ⟨_, rfl, fun j p hj => ?_⟩⟩, fun n hn => ?_⟩
    · obtain ⟨hjl, rfl⟩ := hg j p hj
      obtain ⟨hr, _⟩ := hN j hjl
      refine ⟨_, rfl, k78_mk w (N j), fun i u hi => ?_⟩
      have := (hR j hjl).2 i u (by rw [hr]; exact hi)
      rw [add_none, show off + (j * (k78 : Kd S78).sz + i) = off + j * 4 + i from (by show off + (j * 4 + i) = _; omega)]
      exact this
    · obtain ⟨j, hj⟩ := List.mem_iff_getElem?.1 hn
      obtain ⟨hjl, rfl⟩ := hg j n hj
      exact (hN j hjl).2
def moreC (lo hi : Int) : S27 := ⟨99, ⟨5, lo, hi⟩, 0⟩
theorem sfZ_who {t : Int} {l : List S78} {j : Nat} {c : S27} (h : (sfZ t l)[j]? = some c) : c.f0 = (j : Int) := by
  obtain ⟨_, _, rfl⟩ := sfZ_get h
  exact candS_who _ _ _
theorem dep_more (F : List S27) (lo hi p : Int) : depE (spansOf (F ++ [moreC lo hi])) p = depE (spansOf F) p + (if lo ≤ p ∧ p ≤ hi then 1 else 0) := by
  unfold depE spansOf
  rw [List.map_append, List.countP_append]
  by_cases h : lo ≤ p ∧ p ≤ hi
  · simp [moreC, h.1, h.2]
  · rw [if_neg h]
    have : ¬ (lo ≤ p ∧ p ≤ hi) := h
    by_cases h1 : lo ≤ p
    · have h2 : ¬ p ≤ hi := fun h2 => h ⟨h1, h2⟩
      simp [moreC, h2]
    · simp [moreC, h1]
theorem more_fs {F : List S27} (h : FS F) (hl : F.length ≤ 15) (hw : ∀ c ∈ F, c.f0 < 16) {lo hi : Int} (H : IsHull (spansOf F) lo hi) : FS (F ++ [moreC lo hi]) := by
  obtain ⟨a0, a1, a2, _, _⟩ := h.hull H
  have hsp : SpOk (moreC lo hi).f1 := hull_sp a0 a1 a2
  have mem : ∀ {P : S27 → Prop}, (∀ c ∈ F, P c) → P (moreC lo hi) → ∀ c ∈ F ++ [moreC lo hi], P c := fun h1 h2 c hc => by
    rcases List.mem_append.1 hc with hc | hc
    · exact h1 c hc
    · rw [List.mem_singleton.1 hc]; exact h2
  refine ⟨⟨by simp; omega, mem h.fld.who (by show (0 : Int) ≤ 99; decide), mem h.fld.span hsp, ?_, mem h.fld.jit (by show Tm 0; unfold Tm MT; decide), ?_⟩, mem h.who rfl, mem h.at_ rfl, mem h.sm a2⟩
  · have h5 : ∀ c ∈ F ++ [moreC lo hi], c.f1.f0 = 5 := mem h.at_ rfl
    exact fun c hc d hd => by rw [h5 c hc, h5 d hd]
  · rw [List.pairwise_append]
    refine ⟨h.fld.one, List.pairwise_singleton _ _, fun c hc d hd e => ?_⟩
    rw [List.mem_singleton.1 hd] at e
    have := hw c hc
    have e' : c.f0 = 99 := e
    omega
theorem more_hull {F : List S27} (h : FS F) (hl : F.length ≤ 15) (hw : ∀ c ∈ F, c.f0 < 16) {lo hi : Int} (H : IsHull (spansOf F) lo hi) :
    ∃ lo' hi', IsHull (spansOf (F ++ [moreC lo hi])) lo' hi' ∧ lo ≤ lo' ∧ hi' ≤ hi := by
  have h' := more_fs h hl hw H
  obtain ⟨a0, a1, a2, _, _⟩ := h.hull H
  have hlen : (spansOf (F ++ [moreC lo hi])).length = (spansOf F).length + 1 := by simp [spansOf]
  have inside : ∀ p, (spansOf (F ++ [moreC lo hi])).length < 2 * depE (spansOf (F ++ [moreC lo hi])) p → lo ≤ p ∧ p ≤ hi := fun p hp => by
    rw [hlen, dep_more] at hp
    by_cases c : lo ≤ p ∧ p ≤ hi
    · exact c
    · rw [if_neg c] at hp
      exact H.all p (by omega)
  rcases hull_cases h'.okE with ⟨N, _⟩ | ⟨lo', hi', H', _⟩
  · have h1 := N lo
    have h2 := H.lo_deep
    rw [hlen, dep_more, if_pos ⟨Int.le_refl _, a1⟩] at h1
    omega
  · exact ⟨lo', hi', H', (inside lo' H'.lo_deep).1, (inside hi' H'.hi_deep).2⟩
theorem who_in {t : Int} {l : List S78} {x : List S27} (hs : x.Sublist (sfZ t l)) {h : S25} (hm : ∀ c ∈ x, Meets c.f1 h) : ∀ u ∈ x.map (fun c => c.f0), ∃ (j : Nat) (c : S27), u = (j : Int) ∧ (sfZ t l)[j]? = some c ∧ Meets c.f1 h := fun u hu => by
  obtain ⟨c, hc, rfl⟩ := List.mem_map.1 hu
  obtain ⟨j, hj⟩ := List.mem_iff_getElem?.1 (hs.subset hc)
  exact ⟨j, c, sfZ_who hj, hj, hm c hc⟩
end Go.Proofs.YtapagoaoglmegaaGreat
namespace Go.Proofs.YtapagoaoglmegaaGreat.PCl
open Go.RowKit Go.Proofs.YtapagoaoglmegaaGreatW.PrintWords Go.Proofs.YtapagoaoglmegaaGreatW.PrintLast Go.Proofs.YtapagoaoglmegaaGreatW.PrintMore
attribute [local go_sem] max2_int min2_int max_two min_two max_three min_three max_four min_four
set_option linter.unusedVariables false
set_option linter.unusedSimpArgs false
def slices_Equal_int_int.l0 : Nat → List Int → List Int → Int → Int → Option (Bool)
 | 0, _, _, _, _ => none
 | k + 1, x0, x1, x12, x13 => if x13 < x12 then (if 0 ≤ x13 then (if x13 < (x0.length : Int) then (if x13 < (x1.length : Int) then (if (rd x0 x13) = (rd x1 x13) then (slices_Equal_int_int.l0 k x0 x1 x12 (wrap64 (x13 + 1))) else (some false)) else (none)) else (none)) else (none)) else (some true)
def slices_Equal_int_int.f (k : Nat) (l0 : List Int) (l1 : List Int) : Option (Bool) := if (l0.length : Int) = (l1.length : Int) then (slices_Equal_int_int.l0 k l0 l1 (l0.length : Int) 0) else (some false)
theorem slices_Equal_int_int.mono_l : ∀ k, (∀ y0 y1 y2 y3, LeO (slices_Equal_int_int.l0 k y0 y1 y2 y3) (slices_Equal_int_int.l0 (k + 1) y0 y1 y2 y3))
 | 0 => fun _ _ _ _ r h => by simp [slices_Equal_int_int.l0] at h
 | k + 1 => by
  have ih0 := slices_Equal_int_int.mono_l k
  ·intro y0 y1 y2 y3
   unfold slices_Equal_int_int.l0
   repeat' first
   | (with_reducible exact ih0 _ _ _ _)
   | (with_reducible exact LeO.refl _)
   | (with_reducible exact LeO.none _)
   | (with_reducible refine LeO.ite ?_ ?_)
   | (with_reducible refine LeO.bind ?_ (fun _ => ?_))
   | exact ih0 _ _ _ _
   | exact LeO.none _
   | refine LeO.ite ?_ ?_
   | refine LeO.bind ?_ (fun _ => ?_)
theorem slices_Equal_int_int.mono : ∀ a0 a1 k, LeO (slices_Equal_int_int.f k a0 a1) (slices_Equal_int_int.f (k + 1) a0 a1) := by
 intro a0 a1 k
 have ih0 := slices_Equal_int_int.mono_l k
 unfold slices_Equal_int_int.f
 repeat' first
   | (with_reducible exact ih0 _ _ _ _)
   | (with_reducible exact LeO.refl _)
   | (with_reducible exact LeO.none _)
   | (with_reducible refine LeO.ite ?_ ?_)
   | (with_reducible refine LeO.bind ?_ (fun _ => ?_))
   | exact ih0 _ _ _ _
   | exact LeO.none _
   | refine LeO.ite ?_ ?_
   | refine LeO.bind ?_ (fun _ => ?_)
set_option maxHeartbeats 8000000 in
set_option maxRecDepth 100000 in
theorem slices_Equal_int_int.calls (k : Nat) (A0 : Option Addr) (c0 : Nat) (l0 : List Int) (A1 : Option Addr) (c1 : Nat) (l1 : List Int) (r : Bool) (w : World) (hr0 : Kd.C (Kd.int .i64) w A0 l0.length l0) (hc0 : l0.length ≤ c0) (hr1 : Kd.C (Kd.int .i64) w A1 l1.length l1) (hc1 : l1.length ≤ c1) (h : slices_Equal_int_int.f k l0 l1 = some r) :
  Calls Tryz.prog 11 #[.slice A0 l0.length c0, .slice A1 l1.length c1] w fun e w' => e = .returned (.bool r) ∧ Drawn0 w w' := by
 have HR0 := Aside0.mk hr0
 have HC0 := Aside0.mk hc0
 clear hr0 hc0
 have HR1 := Aside0.mk hr1
 have HC1 := Aside0.mk hc1
 clear hr1 hc1
 have H : (if (l0.length : Int) = (l1.length : Int) then (slices_Equal_int_int.l0 k l0 l1 (l0.length : Int) 0) else (some false)) = some r := h
 clear h
 by_cases c3 : (l0.length : Int) = (l1.length : Int)
 ·rw [if_pos c3] at H
  have c3b0 : ((l0.length : Int) == (l1.length : Int)) = true := beq_iff_eq.mpr c3
  have c3b1 : ((l0.length : Int) != (l1.length : Int)) = false := bne_eq_false_iff_eq.mpr c3
  have c3b2 : (l0.length == l1.length) = true := by first | simpa using c3 | (simp at c3 ⊢; omega)
  clear c3
  have H' := Aside0.mk H
  clear H
  go_enter Tryz.func11, Tryz.ntmps11
  go_wp2
  repeat (go_quiet (fail); try go_wp2)
  go_loopg [13] k (fun kq v13 w' => ∃ (x13_1 : Int), v13 = .int .i64 x13_1 ∧ Aside0 (slices_Equal_int_int.l0 kq l0 l1 (l0.length : Int) x13_1 = some r) ∧ Aside0 (kq ≤ k) ∧ Drawn0 w w')
  case atStart => exact ⟨(0), (by first | rfl | (simp; done) | (simp [*]; done)), H', ⟨Nat.le_refl _⟩, by repeat (first | exact Drawn0.refl _ | apply Drawn0.step)⟩
  case round =>
   clear H'
   try clear c1
   try clear p2
   try clear c3
   try clear c3b0
   try clear c3b1
   try clear c3b2
   obtain ⟨x13_1, rfl, HA, HK1, ⟨m1, rfl⟩⟩ := hrel
   cases gk with
   | zero => exact absurd HA.out (by simp [slices_Equal_int_int.l0])
   | succ k1 =>
    have H := HA.out
    clear HA
    simp only [slices_Equal_int_int.l0] at H
    by_cases c4 : x13_1 < (l0.length : Int)
    ·rw [if_pos c4] at H
     have c4b0 : decide (x13_1 < (l0.length : Int)) = true := decide_eq_true c4
     clear c4
     by_cases c5 : 0 ≤ x13_1
     ·rw [if_pos c5] at H
      have c5b0 : decide (0 ≤ x13_1) = true := decide_eq_true c5
      clear c5
      by_cases c6 : x13_1 < (l0.length : Int)
      ·rw [if_pos c6] at H
       have c6b0 : decide (x13_1 < (l0.length : Int)) = true := decide_eq_true c6
       clear c6
       by_cases c7 : x13_1 < (l1.length : Int)
       ·rw [if_pos c7] at H
        have c7b0 : decide (x13_1 < (l1.length : Int)) = true := decide_eq_true c7
        clear c7
        by_cases c8 : (rd l0 x13_1) = (rd l1 x13_1)
        ·rw [if_pos c8] at H
         have c8b0 : ((rd l0 x13_1) == (rd l1 x13_1)) = true := beq_iff_eq.mpr c8
         have c8b1 : ((rd l0 x13_1) != (rd l1 x13_1)) = false := bne_eq_false_iff_eq.mpr c8
         clear c8
         have H' := Aside0.mk H
         clear H
         have p274 : 0 ≤ (x13_1 : Int) := of_decide_eq_true (by first | (with_reducible assumption) | assumption)
         have q274 : x13_1 < (l0.length : Int) := of_decide_eq_true (by first | (with_reducible assumption) | assumption)
         obtain ⟨ad274, e274, hx274_0⟩ := Kd.at_int HR0.out x13_1 p274 q274
         cases e274
         replace p274 := eq_true p274
         replace q274 := eq_true q274
         have p275 : 0 ≤ (x13_1 : Int) := of_decide_eq_true (by first | (with_reducible assumption) | assumption)
         have q275 : x13_1 < (l1.length : Int) := of_decide_eq_true (by first | (with_reducible assumption) | assumption)
         obtain ⟨ad275, e275, hx275_0⟩ := Kd.at_int HR1.out x13_1 p275 q275
         cases e275
         replace p275 := eq_true p275
         replace q275 := eq_true q275
         go_wp2
         repeat (go_quiet (fail); try go_wp2)
         go_roundg k1
         case measure => have := HK1.out; omega
         case rel => exact ⟨(wrap64 (x13_1 + 1)), (by first | rfl | (simp; done) | (simp [*]; done)), H', ⟨by have := HK1.out; omega⟩, by repeat (first | exact Drawn0.refl _ | apply Drawn0.step)⟩
        ·rw [if_neg c8] at H
         have c8b0 : ((rd l0 x13_1) == (rd l1 x13_1)) = false := beq_eq_false_iff_ne.mpr c8
         have c8b1 : ((rd l0 x13_1) != (rd l1 x13_1)) = true := bne_iff_ne.mpr c8
         obtain rfl := Option.some.inj H
         have p274 : 0 ≤ (x13_1 : Int) := of_decide_eq_true (by first | (with_reducible assumption) | assumption)
         have q274 : x13_1 < (l0.length : Int) := of_decide_eq_true (by first | (with_reducible assumption) | assumption)
         obtain ⟨ad274, e274, hx274_0⟩ := Kd.at_int HR0.out x13_1 p274 q274
         cases e274
         replace p274 := eq_true p274
         replace q274 := eq_true q274
         have p275 : 0 ≤ (x13_1 : Int) := of_decide_eq_true (by first | (with_reducible assumption) | assumption)
         have q275 : x13_1 < (l1.length : Int) := of_decide_eq_true (by first | (with_reducible assumption) | assumption)
         obtain ⟨ad275, e275, hx275_0⟩ := Kd.at_int HR1.out x13_1 p275 q275
         cases e275
         replace p275 := eq_true p275
         replace q275 := eq_true q275
         go_wp2
         repeat (go_quiet (fail); try go_wp2)
         go_ret
         exact ⟨by first | rfl | (simp; done) | (simp [*]; done), by repeat (first | exact Drawn0.refl _ | apply Drawn0.step)⟩
       ·rw [if_neg c7] at H
        exact absurd H (by simp)
      ·rw [if_neg c6] at H
       exact absurd H (by simp)
     ·rw [if_neg c5] at H
      exact absurd H (by simp)
    ·rw [if_neg c4] at H
     have c4b0 : decide (x13_1 < (l0.length : Int)) = false := decide_eq_false c4
     clear c4
     obtain rfl := Option.some.inj H
     go_wp2
     repeat (go_quiet (fail); try go_wp2)
     go_ret
     exact ⟨by first | rfl | (simp; done) | (simp [*]; done), by repeat (first | exact Drawn0.refl _ | apply Drawn0.step)⟩
 ·rw [if_neg c3] at H
  have c3b0 : ((l0.length : Int) == (l1.length : Int)) = false := beq_eq_false_iff_ne.mpr c3
  have c3b1 : ((l0.length : Int) != (l1.length : Int)) = true := bne_iff_ne.mpr c3
  have c3b2 : (l0.length == l1.length) = false := by first | simpa using c3 | (simp at c3 ⊢; omega)
  obtain rfl := Option.some.inj H
  go_enter Tryz.func11, Tryz.ntmps11
  go_wp2
  repeat (go_quiet (fail); try go_wp2)
  go_ret
  exact ⟨by first | rfl | (simp; done) | (simp [*]; done), by repeat (first | exact Drawn0.refl _ | apply Drawn0.step)⟩
end Go.Proofs.YtapagoaoglmegaaGreat.PCl
end
