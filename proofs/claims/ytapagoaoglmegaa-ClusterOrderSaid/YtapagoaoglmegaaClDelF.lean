/- slices.DeleteFunc over candidates. -/
import Derived.Test.YtapagoaoglmegaaClDel
namespace Go.Proofs.Ytapagoaoglmegaa
open Go.RowKit Go.Proofs.YtapagoaoglmegaaW.PrintWords Go.Proofs.YtapagoaoglmegaaW.PrintLast Go.Proofs.YtapagoaoglmegaaW.PrintMore PCl
set_option linter.unusedVariables false
set_option linter.unusedSimpArgs false
set_option maxRecDepth 100000

theorem Row.free {w : World} {g cap : Nat} {L : List S27} (h : Row w g cap L) (o : Nat) : w.frozen? ⟨g, o, none⟩ = false := by
  obtain ⟨cur, hb, _⟩ := h; exact hb.free o
/-- How far slices.DeleteFunc has come. -/
structure DelI (keep : S27 → Bool) (M M' : List S27) (i j : Nat) : Prop where
  len : M'.length = M.length
  lt : i < j
  le : j ≤ M.length
  low : M'.take i = (M.take j).filter keep
  high : M'.drop j = M.drop j
theorem DelI.get {keep : S27 → Bool} {M M' : List S27} {i j : Nat} (h : DelI keep M M' i j) {c : S27} (hc : M[j]? = some c) : M'[j]? = some c := by
  have e := h.high
  have : (M'.drop j)[0]? = (M.drop j)[0]? := by rw [e]
  simp only [List.getElem?_drop, Nat.add_zero] at this
  rw [this, hc]
theorem DelI.skip {keep : S27 → Bool} {M M' : List S27} {i j : Nat} (h : DelI keep M M' i j) {c : S27} (hc : M[j]? = some c) (hk : keep c = false) : DelI keep M M' i (j + 1) := by
  have hj := (List.getElem?_eq_some_iff.1 hc).1
  refine ⟨h.len, by have := h.lt; omega, by omega, ?_, ?_⟩
  · rw [h.low, take_snoc hc, List.filter_append]
    simp [hk]
  · have e := h.high
    have e2 : (M'.drop j).drop 1 = (M.drop j).drop 1 := by rw [e]
    simpa using e2
theorem DelI.keeps {keep : S27 → Bool} {M M' : List S27} {i j : Nat} (h : DelI keep M M' i j) {c : S27} (hc : M[j]? = some c) (hk : keep c = true) : DelI keep M (M'.set i c) (i + 1) (j + 1) := by
  have hj := (List.getElem?_eq_some_iff.1 hc).1
  have h1 := h.lt
  have h2 := h.len
  refine ⟨by simpa using h2, by omega, by omega, ?_, ?_⟩
  · have e : (M'.set i c)[i]? = some c := by rw [List.getElem?_set, if_pos rfl, if_pos (by omega)]
    rw [take_snoc e, take_snoc hc, List.filter_append, ← h.low]
    congr 1
    · rw [List.take_set_of_le (Nat.le_refl _)]
    · simp [hk]
  · have e := h.high
    have e2 : (M'.drop j).drop 1 = (M.drop j).drop 1 := by rw [e]
    rw [List.drop_set_of_lt (by omega)]
    simpa using e2
theorem filter_all {α : Type} {p : α → Bool} {l : List α} (h : ∀ d ∈ l, p d = true) : l.filter p = l := by
  induction l with
  | nil => rfl
  | cons a r ih => rw [List.filter_cons, if_pos (h a List.mem_cons_self), ih (fun d hd => h d (List.mem_cons_of_mem _ hd))]
theorem DelI.start {keep : S27 → Bool} {M : List S27} {i : Nat} {c : S27} (hc : M[i]? = some c) (hk : keep c = false) (h : ∀ j, j < i → ∀ d, M[j]? = some d → keep d = true) : DelI keep M M i (i + 1) := by
  have hj := (List.getElem?_eq_some_iff.1 hc).1
  refine ⟨rfl, by omega, by omega, ?_, rfl⟩
  rw [take_snoc hc, List.filter_append]
  have : List.filter keep (M.take i) = M.take i := filter_all fun d hd => by
    obtain ⟨j, hj⟩ := List.mem_iff_getElem?.1 hd
    rw [List.getElem?_take] at hj
    split at hj
    · exact h j (by omega) d hj
    · cases hj
  rw [this]
  simp [hk]

set_option maxHeartbeats 4000000 in
theorem delF_at {w : World} {g cap hB : Nat} {M : List S27} {h : S24} (hR : Row w g cap M) (hcm : cap ≤ maxLen) (hM : ∀ c ∈ M, SpOk c.f1) (hh : SpOk h) (h3 : At3 w hB 0 h) (hne : hB ≠ g) :
    Calls Try.prog 49 #[.slice (some ⟨g, 0, none⟩) M.length cap, .func (.func 50) #[] #[.pointer (some ⟨hB, 0, none⟩)]] w
      fun e w' => e = .returned (.slice (some ⟨g, 0, none⟩) (M.filter (keepB h)).length cap) ∧ Row w' g cap (M.filter (keepB h)) ∧ Fr (fun i => i = g) w w' := by
  have hl : M.length ≤ 9223372036854775807 := by have := hR.len; unfold maxLen at hcm; omega
  have hlc := hR.len
  have hhb := World.block_lt_of_cell? w _ h3.1
  have hgb := hR.lt
  have HI := hid (@idx_at w g cap hB M h hR hcm hM hh h3)
  have HR := hid hR
  have H3 := hid h3
  have HM := hid hM
  clear hR h3 hM
  go_enter Try.func49, Try.ntmps49
  go_wp2_with fail
  refine HI.out.mono ?_
  rintro e w1 ⟨h0, k1⟩
  rcases h0 with ⟨i0, c0, hc0, hk0, hall, rfl⟩ | ⟨hall, rfl⟩
  · have hi0 := (List.getElem?_eq_some_iff.1 hc0).1
    have D0 := hid (DelI.start hc0 hk0 hall)
    have bne : ((i0 : Int) == -1) = false := by rw [beq_eq_false_iff_ne]; omega
    have HR1 := hid (HR.out.fr k1 (fun h => h))
    clear hc0 hk0 hall HI
    go_wp2_with fail
    go_loopw [5, 6, 7] (fun vi vj _ wr => ∃ (i j : Nat) (M' : List S27), vi = .int .i64 i ∧ vj = .int .i64 j ∧ Hid (DelI (keepB h) M M' i j) ∧ Row wr g cap M' ∧ Fr (fun i => i = g) w wr) (fun _ vj _ _ => M.length - (intOf vj).toNat)
    case atStart => exact ⟨i0, i0 + 1, M, rfl, by go_num, D0, HR1.out, Fr.mono k1 (fun _ _ h => h.elim)⟩
    case round =>
      clear D0 HR1
      obtain ⟨i, j, M', rfl, rfl, D, hRr, hf⟩ := hrel
      have hij := D.out.lt
      have hjl := D.out.le
      have hml := D.out.len
      have HRr := hid hRr
      clear hRr
      by_cases hlt : j < M.length
      · obtain ⟨c, hc⟩ : ∃ c, M[j]? = some c := ⟨M[j], List.getElem?_eq_getElem hlt⟩
        obtain ⟨d, hd⟩ : ∃ d, M'[i]? = some d := ⟨M'[i], List.getElem?_eq_getElem (by omega)⟩
        obtain ⟨c1, c2, c3, c4, c5⟩ := HRr.out.at5 (D.out.get hc)
        have hcok := HM.out c (List.mem_of_getElem? hc)
        have HA := hid (H3.out.fr hf hne)
        have HC := hid hc
        have HD := hid hd
        clear hc hd
        go_wp2_with fail
        generalize hW : World.alloc wr _ = W2
        have f2 : Fr (fun _ => False) wr W2 := by subst hW; (repeat' (first | (with_reducible exact Fr.refl _ _) | (with_reducible assumption) | (with_reducible refine Fr.alloc ?_ _) | (with_reducible refine Fr.drew ?_) | (with_reducible refine Fr.drewN ?_ _) | (with_reducible refine Fr.setCell ?_ _ _ ?_) | (exact Or.inr rfl) | (left; simp; done) | (left; simp; omega) | (simp; done) | (simp; omega) | omega))
        have bV : Blk W2 wr.heap.size #[.int .i64 c.f0, .int .i64 c.f1.f0, .int .i64 c.f1.f1, .int .i64 c.f1.f2, .int .i64 c.f2] 27 := by subst hW; (repeat' (first | (with_reducible assumption) | (with_reducible apply Blk.drew) | (with_reducible apply Blk.drewN) | (with_reducible apply Blk.set) | (with_reducible apply Blk.other) | (exact Blk.new' _ _ _ (by first | rfl | (simp; done) | (simp; omega))) | (with_reducible apply Blk.alloc) | (with_reducible rfl) | (simp; done) | (simp; omega) | omega | rfl))
        clear hW
        refine (del_at hcok hh (HA.out.fr f2 (fun h => h))).mono ?_
        rintro e w3 ⟨rfl, k3⟩
        have bV3 := bV.fr k3 (fun h => h)
        have HR3 := hid ((HRr.out.fr f2 (fun h => h)).fr k3 (fun h => h))
        have k4 : Fr (fun i => i = g) w w3 := (hf.trans f2 (fun _ _ h => h.elim)).trans k3 (fun _ _ h => h.elim)
        clear k3 c1 c2 c3 c4 c5 HA hf f2 bV
        cases hq : keepB h c with
        | false =>
          have HQ := hid hq
          clear hq
          go_wp2_with fail
          go_roundw
          case rel => exact ⟨i, j + 1, M', rfl, by go_num, hid (D.out.skip HC.out HQ.out), HR3.out, k4⟩
          case measure => simp [intOf]; omega
        | true =>
          have HQ := hid hq
          have hgs : g < w3.heap.size := HR3.out.lt
          have v0 := bV3.cell 0
          have v1 := bV3.cell 1
          have v2 := bV3.cell 2
          have v3 := bV3.cell 3
          have v4 := bV3.cell 4
          simp at v0 v1 v2 v3 v4
          obtain ⟨d1, d2, d3, d4, d5⟩ := HR3.out.at5 HD.out
          have q0 := HR3.out.free (i * 5)
          have q1 := HR3.out.free (i * 5 + 1)
          have q2 := HR3.out.free (i * 5 + 2)
          have q3 := HR3.out.free (i * 5 + 3)
          have q4 := HR3.out.free (i * 5 + 4)
          clear hq bV3
          go_wp2_with fail
          go_roundw
          case rel => exact ⟨i + 1, j + 1, M'.set i c, by go_num, by go_num, hid (D.out.keeps HC.out HQ.out), HR3.out.set5 (by omega) c, by (repeat' (first | (with_reducible exact Fr.refl _ _) | (with_reducible assumption) | (with_reducible refine Fr.alloc ?_ _) | (with_reducible refine Fr.drew ?_) | (with_reducible refine Fr.drewN ?_ _) | (with_reducible refine Fr.setCell ?_ _ _ ?_) | (exact Or.inr rfl) | (left; simp; done) | (left; simp; omega) | (simp; done) | (simp; omega) | omega))⟩
          case measure => simp [intOf]; omega
      · obtain rfl : j = M.length := by omega
        have hcl := clear27 (o := i) (n := M.length - i) (c := cap - i) HRr.out (by omega)
        go_wp2_with fail
        go_ret
        have e := D.out.low
        rw [List.take_length] at e
        have el : (M.filter (keepB h)).length = i := by rw [← e]; simp; omega
        rw [el]
        refine ⟨rfl, ?_, Fr.setCells (S := fun i => i = g) g (.inr rfl) _ _ _ hf⟩
        rw [← e]
        exact HRr.out.setCells i _
  · have e : M.filter (keepB h) = M := filter_all hall
    have E := hid e
    clear e hall HI
    have HR1 := hid (HR.out.fr k1 (fun h => h))
    go_wp2
    go_ret
    rw [E.out]
    exact ⟨rfl, HR1.out, Fr.mono k1 (fun _ _ h => h.elim)⟩
/-- An empty slice comes back as it is. -/
theorem idx_nil {w : World} (a : Option Addr) (cap : Nat) (fv : Value) :
    Calls Try.prog 80 #[.slice a 0 cap, fv] w fun e w' => e = .returned (.int .i64 (-1)) ∧ Fr (fun _ => False) w w' := by
  go_enter Try.func80, Try.ntmps80
  go_wp2_with fail
  go_loopw [5, 8] (fun _ vi wr => vi = .int .i64 0 ∧ Fr (fun _ => False) w wr) (fun _ vi _ => 0)
  case atStart => exact ⟨rfl, Fr.refl _ _⟩
  case round =>
    obtain ⟨rfl, hf⟩ := hrel
    go_wp2
    go_ret
    exact ⟨rfl, by (repeat' (first | (with_reducible exact Fr.refl _ _) | (with_reducible assumption) | (with_reducible refine Fr.alloc ?_ _) | (with_reducible refine Fr.drew ?_) | (with_reducible refine Fr.drewN ?_ _) | (with_reducible refine Fr.setCell ?_ _ _ ?_) | (exact Or.inr rfl) | (left; simp; done) | (left; simp; omega) | (simp; done) | (simp; omega) | omega))⟩
theorem delF_nil {w : World} (a : Option Addr) (cap : Nat) (fv : Value) :
    Calls Try.prog 49 #[.slice a 0 cap, fv] w fun e w' => e = .returned (.slice a 0 cap) ∧ Fr (fun _ => False) w w' := by
  go_enter Try.func49, Try.ntmps49
  go_wp2_with fail
  refine (idx_nil a cap fv).mono ?_
  rintro e w1 ⟨rfl, k1⟩
  go_wp2
  go_ret
  exact ⟨rfl, k1⟩
end Go.Proofs.Ytapagoaoglmegaa
