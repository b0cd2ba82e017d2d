/- Len, Min, Find, New, Row of a heap, whatever it holds. -/
import Derived.Test.YtkcfhdnlmdndeaaHpPop
namespace Go.Proofs.Ytkcfhdnlmdndeaa
open Go.RowKit Go.Proofs.YtkcfhdnlmdndeaaW.PrintWords Go.Proofs.YtkcfhdnlmdndeaaW.PrintLast Go.Proofs.YtkcfhdnlmdndeaaW.PrintMore PHp
set_option linter.unusedVariables false
set_option linter.unusedSimpArgs false
set_option maxRecDepth 100000
theorem len_hp {w : World} {b m : Nat} {v : Value} {L : List It} {size : Int} (h : HP w b m v L size) :
    Calls Try.prog 16 #[.pointer (some ⟨b, 0, none⟩)] w fun e w' => e = .returned (.int .i64 L.length) ∧ Fr (fun _ => False) w w' := by
  have hlen : ∃ n c a, v = .slice a n c ∧ n = L.length := by
    rcases h.form with ⟨rfl, rfl⟩ | ⟨g, cap, rfl, _⟩
    · exact ⟨0, 0, none, rfl, rfl⟩
    · exact ⟨L.length, cap, _, rfl, rfl⟩
  obtain ⟨n, c, a, hv, hn⟩ := hlen
  have H := hid h
  have HV := hid hv
  rw [← hn]
  clear h hv hn
  go_enter Try.func16, Try.ntmps16
  go_wp2_with fail
  refine (none_blk H.out.blk).mono ?_
  rintro e w1 ⟨rfl, k1⟩
  have b0 := (H.out.blk.fr k1 (fun h => h)).cell 0
  rw [HV.out] at b0
  simp at b0
  go_wp2
  go_ret
  exact ⟨rfl, by (repeat' (first | (with_reducible exact Fr.refl _ _) | (with_reducible assumption) | (with_reducible refine Fr.alloc ?_ _) | (with_reducible refine Fr.drew ?_) | (with_reducible refine Fr.drewN ?_ _) | (with_reducible refine Fr.setCell ?_ _ _ ?_) | (exact Or.inr rfl) | (left; simp; done) | (left; simp; omega) | (simp; done) | (simp; omega) | omega))⟩
theorem min_hp {w : World} {b m : Nat} {v : Value} {L : List It} {size : Int} (h : HP w b m v L size) :
    Calls Try.prog 31 #[.pointer (some ⟨b, 0, none⟩)] w fun e w' => e = .returned (.tuple #[vI (nth L 0), .bool (decide (0 < L.length))]) ∧ Fr (fun _ => False) w w' := by
  rcases h.form with ⟨hv, hnil⟩ | ⟨g, cap, hv, hp⟩
  · have e1 : nth L 0 = ⟨0, 0, 0⟩ := by rw [hnil]; rfl
    have e2 : decide (0 < L.length) = false := by rw [hnil]; rfl
    rw [e1, e2]
    have H := hid h
    have HV := hid hv
    clear h hv hnil e1 e2
    go_enter Try.func31, Try.ntmps31
    go_wp2_with fail
    generalize hW : World.alloc w _ = W
    have f0 : Fr (fun _ => False) w W := by subst hW; (repeat' (first | (with_reducible exact Fr.refl _ _) | (with_reducible assumption) | (with_reducible refine Fr.alloc ?_ _) | (with_reducible refine Fr.drew ?_) | (with_reducible refine Fr.drewN ?_ _) | (with_reducible refine Fr.setCell ?_ _ _ ?_) | (exact Or.inr rfl) | (left; simp; done) | (left; simp; omega) | (simp; done) | (simp; omega) | omega))
    have bR : Blk W w.heap.size #[.int .u64 0, .int .u64 0, .int .i64 0] 24 := by subst hW; (repeat' (first | (with_reducible assumption) | (with_reducible apply Blk.drew) | (with_reducible apply Blk.drewN) | (with_reducible apply Blk.set) | (with_reducible apply Blk.other) | (exact Blk.new' _ _ _ (by first | rfl | (simp; done) | (simp; omega))) | (with_reducible apply Blk.alloc) | (with_reducible rfl) | (simp; done) | (simp; omega) | omega | rfl))
    clear hW
    refine (none_blk (H.out.fr0 f0).blk).mono ?_
    rintro e w1 ⟨rfl, k1⟩
    have k2 := f0.trans k1 (fun _ _ h => h)
    have b0 := (H.out.fr0 k2).blk.cell 0
    rw [HV.out] at b0
    simp at b0
    obtain ⟨r0, r1, r2, q0, q1, q2⟩ := (bR.fr k1 (fun h => h)).c3
    clear f0
    go_wp2_with fail
    generalize hW : World.setCell (World.setCell _ _ _) _ _ = W3
    have b3 : Blk W3 w.heap.size #[.int .u64 0, .int .u64 0, .int .i64 0] 24 := by subst hW; exact (bR.fr k1 (fun h => h)).set3 _ _ _
    have f3 : Fr (fun _ => False) w W3 := by subst hW; (repeat' (first | (with_reducible exact Fr.refl _ _) | (with_reducible assumption) | (with_reducible refine Fr.alloc ?_ _) | (with_reducible refine Fr.drew ?_) | (with_reducible refine Fr.drewN ?_ _) | (with_reducible refine Fr.setCell ?_ _ _ ?_) | (exact Or.inr rfl) | (left; simp; done) | (left; simp; omega) | (simp; done) | (simp; omega) | omega))
    refine bodyPost_ret (results_ct rfl _ _ _ 24 _ (0, 0) _ rfl b3 Try.underlying24 rfl (by kernel_rfl)) rfl ?_
    exact ⟨rfl, f3⟩
  · exact min_at hp
def findX (L : List It) (id : Int) : It := match place L id with | some i => nth L i | none => ⟨0, 0, 0⟩
theorem find_hp {w : World} {b m : Nat} {v : Value} {L : List It} {size : Int} (h : HP w b m v L size) {id : Int} (hid0 : (Lit.int .u64 id).wf = true) :
    Calls Try.prog 29 #[.pointer (some ⟨b, 0, none⟩), .int .u64 id] w fun e w' => e = .returned (.tuple #[vI (findX L id), .int .i64 ((place L id).getD 0 : Nat), .bool (place L id).isSome]) ∧ Fr (fun _ => False) w w' := by
  rcases h.form with ⟨hv, hnil⟩ | ⟨g, cap, hv, hp⟩
  · have e0 : place L id = none := by rw [hnil]; rfl
    have e1 : findX L id = ⟨0, 0, 0⟩ := by unfold findX; rw [e0]
    have hlk0 := h.look hid0
    have HLK : Hid (∀ W, HP W b m v L size → (Instr.lookup 92 (.map (some m)) (.int .u64 id) true).run Try.prog W = .ok (.tuple #[.int .i64 0, .bool false]) W) := hid (fun W hW => by have := hW.look hid0; rw [e0] at this; exact this)
    rw [e1, e0]
    have H := hid h
    clear h hv hnil e0 e1 hlk0
    go_enter Try.func29, Try.ntmps29
    go_wp2_with fail
    generalize hW : World.alloc w _ = W
    have f0 : Fr (fun _ => False) w W := by subst hW; (repeat' (first | (with_reducible exact Fr.refl _ _) | (with_reducible assumption) | (with_reducible refine Fr.alloc ?_ _) | (with_reducible refine Fr.drew ?_) | (with_reducible refine Fr.drewN ?_ _) | (with_reducible refine Fr.setCell ?_ _ _ ?_) | (exact Or.inr rfl) | (left; simp; done) | (left; simp; omega) | (simp; done) | (simp; omega) | omega))
    have bR : Blk W w.heap.size #[.int .u64 0, .int .u64 0, .int .i64 0] 24 := by subst hW; (repeat' (first | (with_reducible assumption) | (with_reducible apply Blk.drew) | (with_reducible apply Blk.drewN) | (with_reducible apply Blk.set) | (with_reducible apply Blk.other) | (exact Blk.new' _ _ _ (by first | rfl | (simp; done) | (simp; omega))) | (with_reducible apply Blk.alloc) | (with_reducible rfl) | (simp; done) | (simp; omega) | omega | rfl))
    clear hW
    refine (none_blk (H.out.fr0 f0).blk).mono ?_
    rintro e w1 ⟨rfl, k1⟩
    have k2 := f0.trans k1 (fun _ _ h => h)
    have h1 := H.out.fr0 k2
    have b1 := h1.blk.cell 1
    simp at b1
    have hlk := HLK.out _ h1
    obtain ⟨r0, r1, r2, q0, q1, q2⟩ := (bR.fr k1 (fun h => h)).c3
    clear f0 h1
    go_wp2_with (simp only [hlk])
    generalize hW : World.setCell (World.setCell _ _ _) _ _ = W3
    have b3 : Blk W3 w.heap.size #[.int .u64 0, .int .u64 0, .int .i64 0] 24 := by subst hW; exact (bR.fr k1 (fun h => h)).set3 _ _ _
    have f3 : Fr (fun _ => False) w W3 := by subst hW; (repeat' (first | (with_reducible exact Fr.refl _ _) | (with_reducible assumption) | (with_reducible refine Fr.alloc ?_ _) | (with_reducible refine Fr.drew ?_) | (with_reducible refine Fr.drewN ?_ _) | (with_reducible refine Fr.setCell ?_ _ _ ?_) | (exact Or.inr rfl) | (left; simp; done) | (left; simp; omega) | (simp; done) | (simp; omega) | omega))
    refine bodyPost_ret (results_ctt rfl _ _ _ 24 _ (0, 0) _ rfl b3 Try.underlying24 rfl (by kernel_rfl)) rfl ?_
    exact ⟨rfl, f3⟩
  · exact find_at hp hid0 (fun i e => (place_some e).1)
theorem uniq_nil : Uniq [] := fun i j hi => by simp at hi
theorem new_at {w : World} {size : Int} (h1 : 1 ≤ size) (h2 : size ≤ 1048576) :
    Calls Try.prog 14 #[.int .i64 size] w fun e w' => ∃ b m, e = .returned (.tuple #[.pointer (some ⟨b, 0, none⟩), .int .i64 0]) ∧ HP w' b m (.slice none 0 0) [] size ∧ w.heap.size ≤ b ∧ w.heap.size ≤ m ∧ Fr (fun _ => False) w w' := by
  have t1 : decide (size < 1) = false := decide_eq_false (by omega)
  have t2 : decide (1048576 < size) = false := decide_eq_false (by omega)
  have hmm := @run_makeMap Try.prog
  go_enter Try.func14, Try.ntmps14
  go_wp2_with fail
  go_returns
  have hm0 : MF 22 .u64 (w.alloc (.map #[] 0)) w.heap.size 0 (plF (place [])) := (MF.made w rfl).congr (fun k _ => rfl)
  have hm1 : MF 22 .u64 ((w.alloc (.map #[] 0)).alloc (.cells #[.slice none 0 0, .map (some w.heap.size), .int .i64 size] 94)) w.heap.size 0 (plF (place [])) := hm0.fr (S := fun _ => False) ((Fr.refl _ _).alloc _) (fun h => h)
  have hb1 : Blk ((w.alloc (.map #[] 0)).alloc (.cells #[.slice none 0 0, .map (some w.heap.size), .int .i64 size] 94)) (w.heap.size + 1) #[.slice none 0 0, .map (some w.heap.size), .int .i64 size] 94 := by (repeat' (first | (with_reducible assumption) | (with_reducible apply Blk.drew) | (with_reducible apply Blk.drewN) | (with_reducible apply Blk.set) | (with_reducible apply Blk.other) | (exact Blk.new' _ _ _ (by first | rfl | (simp; done) | (simp; omega))) | (with_reducible apply Blk.alloc) | (with_reducible rfl) | (simp; done) | (simp; omega) | omega | rfl))
  have f1 : Fr (fun _ => False) w ((w.alloc (.map #[] 0)).alloc (.cells #[.slice none 0 0, .map (some w.heap.size), .int .i64 size] 94)) := by (repeat' (first | (with_reducible exact Fr.refl _ _) | (with_reducible assumption) | (with_reducible refine Fr.alloc ?_ _) | (with_reducible refine Fr.drew ?_) | (with_reducible refine Fr.drewN ?_ _) | (with_reducible refine Fr.setCell ?_ _ _ ?_) | (exact Or.inr rfl) | (left; simp; done) | (left; simp; omega) | (simp; done) | (simp; omega) | omega))
  refine ⟨w.heap.size + 1, w.heap.size, rfl, ⟨hb1, World.ownsRow_nil _ _ _ _, hm1, ?_, uniq_nil, ?_, ?_, h2⟩, ?_, Nat.le_refl _, f1⟩
  · omega
  · intro x hx; cases hx
  · show ((0 : Nat) : Int) ≤ size; omega
  · omega
theorem new_no {w : World} {size : Int} (h : ¬ (1 ≤ size ∧ size ≤ 1048576)) :
    Calls Try.prog 14 #[.int .i64 size] w fun e w' => e = .returned (.tuple #[.pointer none, .int .i64 1]) ∧ Fr (fun _ => False) w w' := by
  by_cases h1 : size < 1
  · go_enter Try.func14, Try.ntmps14
    go_wp2
    go_returns
    exact ⟨rfl, by (repeat' (first | (with_reducible exact Fr.refl _ _) | (with_reducible assumption) | (with_reducible refine Fr.alloc ?_ _) | (with_reducible refine Fr.drew ?_) | (with_reducible refine Fr.drewN ?_ _) | (with_reducible refine Fr.setCell ?_ _ _ ?_) | (exact Or.inr rfl) | (left; simp; done) | (left; simp; omega) | (simp; done) | (simp; omega) | omega))⟩
  · have h2 : 1048576 < size := by omega
    have t1 : decide (size < 1) = false := decide_eq_false (by omega)
    have t2 : decide (1048576 < size) = true := decide_eq_true (by omega)
    clear h h1 h2
    go_enter Try.func14, Try.ntmps14
    go_wp2
    go_returns
    exact ⟨rfl, by (repeat' (first | (with_reducible exact Fr.refl _ _) | (with_reducible assumption) | (with_reducible refine Fr.alloc ?_ _) | (with_reducible refine Fr.drew ?_) | (with_reducible refine Fr.drewN ?_ _) | (with_reducible refine Fr.setCell ?_ _ _ ?_) | (exact Or.inr rfl) | (left; simp; done) | (left; simp; omega) | (simp; done) | (simp; omega) | omega))⟩
theorem app24 {ops : Array Oper} {rest : List Oper} {o : Oper} {a : Act} {Q : Exit → Act → World → Prop} {w w1 : World} {v1 : Value} {ad : Addr} {cap : Nat} {l : List S24} (hgd : o.guard = none) (s x : Operand)
    (ho : o.op = .call { callee := .builtin .append, args := #[s, x], argTypes := #[44, 44] })
    (hs : a.eval s = v1) (hx : a.eval x = .slice (some ad) l.length cap) (ho1 : Kd.R k24 24 w1 w.heap.size (fun _ => True) v1 []) (hb1 : Below w.heap.size w w1) (hC : Kd.C k24 w (some ad) l.length l) (hl : l.length ≤ 2000000)
    (h : ∀ v2 w2, Kd.R k24 24 w2 w.heap.size (fun _ => True) v2 l → Below w.heap.size w w2 → wpList Try.prog ops Q rest (a.put o.dst v2) w2) : wpList Try.prog ops Q (o :: rest) a w1 := by
  refine Kd.R_append_rows k24 (Rr := k24.K w) (w0 := w) w.heap.size hgd s x 44 24 (.agg #[.int .u64 0, .int .u64 0, .int .i64 0]) 24 ho Try.underlying44 info24b rfl (by decide) (by omega) v1 [] l (some ad) l.length cap (fun _ => True) (fun _ => False) hs hx ho1 ?_ (fun _ _ h => (k24_open h) ▸ k24_mkM _ _ _ _) (fun _ h => h.elim) (fun _ _ => trivial) hb1 hb1.size (by simp; omega) ?_
  · exact Kd.C_below hC hb1
  · intro v2 w2 r b _ _
    exact h v2 w2 r b

set_option maxHeartbeats 8000000 in
theorem cloneI_at {w : World} {A : Option Addr} {cap : Nat} {l : List S24} (hC : Kd.C k24 w A l.length l) (hcap : l.length ≤ cap) (hs : l.length ≤ 2000000) :
    Calls Try.prog 48 #[.slice A l.length cap] w fun e w' => ∃ v0_ : Value, e = .returned v0_ ∧ Kd.R k24 24 w' w.heap.size (fun _ => True) v0_ l ∧ Below w.heap.size w w' := by
  have HC := hid hC
  have hnil := hC.2.2
  clear hC
  cases A with
  | none =>
    have h0 : l = [] := by
      rcases Nat.eq_zero_or_pos l.length with h | h
      · exact List.eq_nil_of_length_eq_zero h
      · obtain ⟨ad, e, _⟩ := hnil h; cases e
    subst h0
    have hq : ∀ c' : Nat, (binOp .eql 44 (.slice none 0 cap) (.slice none 0 c')).run Try.prog w = .ok (.bool true) w := fun c' => Lib.run_eql_slice_nil w _ _ none 0 cap 0 c' Try.underlying44
    clear hnil
    go_enter Try.func48, Try.ntmps48
    go_wp2_with (simp only [hq])
    go_ret
    exact ⟨_, rfl, Kd.R_nil _ _ _ _ _, Below.refl _ _⟩
  | some ad =>
    have hq : ∀ c' : Nat, (binOp .eql 44 (.slice (some ad) l.length cap) (.slice none 0 c')).run Try.prog w = .ok (.bool false) w := fun c' => Lib.run_eql_slice_nil w _ _ (some ad) l.length cap 0 c' Try.underlying44
    clear hnil
    have HB := hid (Below.refl w.heap.size w)
    go_enter Try.func48, Try.ntmps48
    go_wp2_with (first | (simp only [hq]) | ((with_reducible refine gate_dst (N := 5) rfl ?_); refine Kd.R_lit k24 w.heap.size 24 ?hg (N := 5) ?hd (xs := ([] : List S24)) (inner := []) (ok := fun _ => True) (okp := fun _ => True) ?hr ?hp (fun _ hk => hk) trivial HB.out (Nat.le_refl _) (by simp) ?_; (case hd => rfl); (case hg => rfl); (case hr => first | (go_simp; done) | (go_simp; rfl)); (case hp => exact Reps.none _ _); intro v1 w1 ho1 hb1 hg1 hn1) | ((with_reducible refine gate_builtin (b := .append) (xs := #[.tmp 5, .tmp 6]) rfl ?_); at_builtin; refine app24 rfl (.tmp 5) (.tmp 6) rfl rfl rfl ho1 hb1 HC.out hs ?_; intro v2 w2 ho2 hb2))
    go_ret
    exact ⟨_, rfl, ho2, hb2⟩
/-- A slice of the call's own, opened. -/
theorem R_open {w : World} {base : Nat} {v : Value} {L : List It} (h : Kd.R k24 24 w base (fun _ => True) v L) : ∃ A cap, v = .slice A L.length cap ∧ L.length ≤ cap ∧ Kd.C k24 w A L.length L ∧ ∀ ad, A = some ad → base ≤ ad.block := by
  rcases Row.of_R h with ⟨rfl, rfl⟩ | ⟨g, cap, rfl, hg, hm, hr⟩
  · exact ⟨none, 0, rfl, by simp, ⟨rfl, by simp, fun h => absurd h (by simp)⟩, fun ad e => by cases e⟩
  · exact ⟨_, cap, rfl, hr.len, hr.toC hm, fun ad e => by injection e with e; subst e; exact hg⟩
/-- The row, copied. -/
theorem row_at2 {w : World} {b m : Nat} {v : Value} {L : List It} {size : Int} (h : HP w b m v L size) :
    Calls Try.prog 22 #[.pointer (some ⟨b, 0, none⟩)] w fun e w' => ∃ A cap, e = .returned (.slice A L.length cap) ∧ L.length ≤ cap ∧ Kd.C k24 w' A L.length L ∧ Fr (fun _ => False) w w' ∧ ∀ ad, A = some ad → w.heap.size ≤ ad.block := by
  have hsm := h.small
  have hC : ∃ A c, v = .slice A L.length c ∧ L.length ≤ c ∧ ∀ W, HP W b m v L size → Kd.C k24 W A L.length L := by
    rcases h.form with ⟨hv, hn⟩ | ⟨g, cap, hv, hp⟩
    · subst hn; exact ⟨none, 0, hv, by simp, fun W _ => ⟨rfl, by simp, fun h => absurd h (by simp)⟩⟩
    · refine ⟨_, cap, hv, hp.row.len, fun W hW => ?_⟩
      rcases hW.form with ⟨hv', hn⟩ | ⟨g', cap', hv', hp'⟩
      · rw [hv] at hv'; cases hv'
      · rw [hv] at hv'; injection hv' with e1 e2 e3; injection e1 with e1; injection e1 with e1; subst e1
        exact hp'.row.toC hp'.cap
  obtain ⟨A, c, hv, hc, hC⟩ := hC
  have H := hid h
  have HV := hid hv
  have HC := hid hC
  clear h hv hC
  go_enter Try.func22, Try.ntmps22
  go_wp2_with fail
  refine (none_blk H.out.blk).mono ?_
  rintro e w1 ⟨rfl, k1⟩
  have h1 := H.out.fr0 k1
  have b0 := h1.blk.cell 0
  rw [HV.out] at b0
  simp at b0
  go_wp2_with fail
  refine (cloneI_at (HC.out _ h1) hc (by omega)).mono ?_
  rintro e w2 ⟨v2, rfl, r2, k2⟩
  go_wp2
  go_ret
  obtain ⟨A', c', rfl, hc', hC', hb'⟩ := R_open r2
  exact ⟨A', c', rfl, hc', hC', k1.trans (Fr.of_below k2 (Nat.le_refl _) _) (fun _ _ h => h), fun ad e => Nat.le_trans k1.size (hb' ad e)⟩
theorem row_at {w : World} {b m : Nat} {v : Value} {L : List It} {size : Int} (h : HP w b m v L size) :
    Calls Try.prog 22 #[.pointer (some ⟨b, 0, none⟩)] w fun e w' => ∃ A cap, e = .returned (.slice A L.length cap) ∧ L.length ≤ cap ∧ Kd.C k24 w' A L.length L ∧ Fr (fun _ => False) w w' :=
  (row_at2 h).mono fun _ _ ⟨A, c, h1, h2, h3, h4, _⟩ => ⟨A, c, h1, h2, h3, h4⟩
/-- A row that came in, opened. -/
theorem C24_open {w : World} {A : Option Addr} {n : Nat} {l : List It} (h : Kd.C k24 w A n l) (hl : n = l.length) (hn : 0 < n) : ∃ r off, A = some ⟨r, off, none⟩ ∧ r < w.heap.size ∧ ∀ i c, l[i]? = some c → At3 w r (off + i * 3) c := by
  subst hl
  obtain ⟨ad, rfl, h0, _⟩ := at_T24 h 0 (by omega) (by omega)
  rw [show (0 : Int).toNat * 3 = 0 from rfl, add_zero'] at h0
  obtain ⟨r, off, rfl⟩ := spot_none h0
  refine ⟨r, off, rfl, World.block_lt_of_cell? w _ h0, fun i c hi => ?_⟩
  have hil := (List.getElem?_eq_some_iff.1 hi).1
  obtain ⟨ad, e, h1, h2, h3⟩ := at_T24 h (i : Int) (by omega) (by omega)
  obtain rfl := Option.some.inj e
  have hrd : rd_T24 l (i : Int) = c := by unfold rd_T24; simp [hi]
  rw [hrd, Int.toNat_natCast, add_none] at h1 h2 h3
  exact ⟨h1, h2, h3⟩
end Go.Proofs.Ytkcfhdnlmdndeaa
