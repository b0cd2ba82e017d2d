/- The cluster's field, its spreads and who is left, as plain Lean; what the printed span functions come to. -/
import Derived.Test.YtapagoaoglmegaaPClx3
import Derived.Test.YtapagoaoglmegaaPClx23
namespace Go.Proofs.Ytapagoaoglmegaa
open Go.RowKit Go.Proofs.YtapagoaoglmegaaW.PrintWords Go.Proofs.YtapagoaoglmegaaW.PrintLast Go.Proofs.YtapagoaoglmegaaW.PrintMore PCl
set_option linter.unusedVariables false

/-- The greatest time. -/
def MT : Int := 4611686018427387904
def Tm (t : Int) : Prop := 0 ≤ t ∧ t ≤ MT
instance (t : Int) : Decidable (Tm t) := by unfold Tm; infer_instance
/-- May a span be? -/
def SpOk (s : S24) : Prop := Tm s.f0 ∧ Tm s.f1 ∧ Tm s.f2 ∧ s.f1 ≤ s.f2
instance (s : S24) : Decidable (SpOk s) := by unfold SpOk; infer_instance
def midZ (s : S24) : Int := s.f1 + (s.f2 - s.f1) / 2
theorem midZ_tm {s : S24} (h : SpOk s) : Tm (midZ s) ∧ s.f1 ≤ midZ s ∧ midZ s ≤ s.f2 := by
  unfold SpOk Tm at h; unfold Tm midZ; omega

theorem brought_f (t : Int) : span_brought.f t = some (if t < 0 then 0 else if t > MT then MT else t) := by
  unfold span_brought.f fix_Clamp.f MT
  split
  · rfl
  · split <;> rfl
theorem brought_eq (t : Int) : (t = (if t < 0 then 0 else if t > MT then MT else t)) ↔ Tm t := by
  unfold Tm MT
  split
  · omega
  · split <;> omega
theorem times_f (a b c : Int) (k : Nat) (hk : 4 ≤ k) : span_times.f k [a, b, c] = some (decide (Tm a ∧ Tm b ∧ Tm c)) := by
  obtain ⟨k, rfl⟩ : ∃ m, k = m + 4 := ⟨k - 4, by omega⟩
  unfold span_times.f
  have w1 : wrap64 (0 + 1) = 1 := by unfold wrap64; omega
  have w2 : wrap64 (1 + 1) = 2 := by unfold wrap64; omega
  have w3 : wrap64 (2 + 1) = 3 := by unfold wrap64; omega
  have r0 : rd [a, b, c] 0 = a := rfl
  have r1 : rd [a, b, c] 1 = b := rfl
  have r2 : rd [a, b, c] 2 = c := rfl
  simp only [span_times.l0, List.length_cons, List.length_nil, r0, brought_f, Option.bind_some]
  rw [if_pos (by decide), if_pos (by decide), if_pos (by decide)]
  by_cases h0 : Tm a
  · rw [if_pos ((brought_eq a).2 h0), w1, if_pos (by decide), if_pos (by decide), if_pos (by decide), r1]
    by_cases h1 : Tm b
    · rw [if_pos ((brought_eq b).2 h1), w2, if_pos (by decide), if_pos (by decide), if_pos (by decide), r2]
      by_cases h2 : Tm c
      · rw [if_pos ((brought_eq c).2 h2), w3, if_neg (by decide)]
        simp [h0, h1, h2]
      · rw [if_neg (fun e => h2 ((brought_eq c).1 e))]
        simp [h2]
    · rw [if_neg (fun e => h1 ((brought_eq b).1 e))]
      simp [h1]
  · rw [if_neg (fun e => h0 ((brought_eq a).1 e))]
    simp [h0]
theorem spMay_f (a b c : Int) (k : Nat) (hk : 4 ≤ k) : span_May.f k a b c = some (decide (SpOk ⟨a, b, c⟩)) := by
  unfold span_May.f
  rw [times_f a b c k hk]
  simp only [Option.bind_some, decide_eq_true_eq]
  unfold SpOk
  by_cases h : Tm a ∧ Tm b ∧ Tm c
  · rw [if_pos h]; simp [h.1, h.2.1, h.2.2]
  · rw [if_neg h]
    have : ¬ (Tm a ∧ Tm b ∧ Tm c ∧ b ≤ c) := fun e => h ⟨e.1, e.2.1, e.2.2.1⟩
    simp [this]
theorem width_f (a b c : Int) (k : Nat) (hk : 4 ≤ k) (h : SpOk ⟨a, b, c⟩) : span_Width.f k a b c = some (c - b) := by
  unfold span_Width.f
  rw [spMay_f a b c k hk]
  simp only [Option.bind_some, decide_eq_true h, if_true]
  have e : wrap64 (c - b) = c - b := by unfold SpOk Tm MT at h; simp only at h; unfold wrap64; omega
  rw [e]
theorem mid_f (a b c : Int) (k : Nat) (hk : 4 ≤ k) (h : SpOk ⟨a, b, c⟩) : span_Mid.f k a b c = some (midZ ⟨a, b, c⟩) := by
  unfold span_Mid.f
  rw [spMay_f a b c k hk]
  simp only [Option.bind_some, decide_eq_true h, if_true]
  rw [width_f a b c k hk h]
  simp only [Option.bind_some]
  unfold SpOk Tm MT at h
  simp only at h
  have e0 : Int.tdiv (c - b) 2 = (c - b) / 2 := Int.tdiv_eq_ediv_of_nonneg (by omega)
  rw [e0]
  have e1 : wrap64 ((c - b) / 2) = (c - b) / 2 := by unfold wrap64; omega
  rw [e1]
  have e2 : wrap64 (b + (c - b) / 2) = b + (c - b) / 2 := by unfold wrap64; omega
  rw [e2]
  rfl
/-- Have two spans something in common? -/
def Meets (s h : S24) : Prop := SpOk s ∧ SpOk h ∧ s.f0 = h.f0 ∧ max s.f1 h.f1 ≤ min s.f2 h.f2
instance (s h : S24) : Decidable (Meets s h) := by unfold Meets; infer_instance
/-! ### the field -/
/-- A field of candidates: each is one that may be, all of one At, each number once. -/
structure Fld (l : List S27) : Prop where
  len : l.length ≤ 16
  who : ∀ c ∈ l, 0 ≤ c.f0
  span : ∀ c ∈ l, SpOk c.f1
  at_ : ∀ c ∈ l, ∀ d ∈ l, c.f1.f0 = d.f1.f0
  jit : ∀ c ∈ l, Tm c.f2
  one : l.Pairwise (fun c d => c.f0 ≠ d.f0)
/-- Is a candidate no good, behind those that have come? -/
def badC (first : Int) (seen : List Int) (c : S27) : Bool := decide (c.f0 < 0) || seen.contains c.f0 || !decide (SpOk c.f1) || (c.f1.f0 != first) || decide (c.f2 < 0) || decide (MT < c.f2)
def mayGo (first : Int) : List Int → List S27 → Bool
  | _, [] => true
  | seen, c :: r => if badC first seen c = true then false else mayGo first (c.f0 :: seen) r
def mayB (l : List S27) : Bool := mayGo (rd_T27 l 0).f1.f0 [] l && decide (l.length ≤ 16)
theorem badC_no {first : Int} {seen : List Int} {c : S27} : badC first seen c = false ↔ (0 ≤ c.f0 ∧ c.f0 ∉ seen ∧ SpOk c.f1 ∧ c.f1.f0 = first ∧ Tm c.f2) := by
  unfold badC Tm
  simp
  constructor
  · rintro ⟨⟨⟨⟨⟨h1, h2⟩, h3⟩, h4⟩, h5⟩, h6⟩; exact ⟨h1, h2, h3, h4, h5, h6⟩
  · rintro ⟨h1, h2, h3, h4, h5, h6⟩; exact ⟨⟨⟨⟨⟨h1, h2⟩, h3⟩, h4⟩, h5⟩, h6⟩
theorem mayGo_iff (first : Int) : ∀ (l : List S27) (seen : List Int), mayGo first seen l = true ↔
    (∀ c ∈ l, 0 ≤ c.f0 ∧ c.f0 ∉ seen ∧ SpOk c.f1 ∧ c.f1.f0 = first ∧ Tm c.f2) ∧ l.Pairwise (fun c d => c.f0 ≠ d.f0)
  | [], seen => by simp [mayGo]
  | c :: l, seen => by
    unfold mayGo
    by_cases hb : badC first seen c = true
    · rw [if_pos hb]
      simp only [Bool.false_eq_true, false_iff]
      rintro ⟨h, _⟩
      have := badC_no.2 (h c List.mem_cons_self)
      rw [hb] at this; cases this
    · rw [if_neg hb, mayGo_iff first l]
      have hb' := badC_no.1 (by simpa using hb)
      constructor
      · rintro ⟨h, hp⟩
        refine ⟨fun d hd => ?_, List.pairwise_cons.2 ⟨fun d hd e => ?_, hp⟩⟩
        · rcases List.mem_cons.1 hd with rfl | hd
          · exact hb'
          · obtain ⟨h1, h2, h3⟩ := h d hd
            exact ⟨h1, fun e => h2 (List.mem_cons_of_mem _ e), h3⟩
        · exact (h d hd).2.1 (by rw [← e]; exact List.mem_cons_self)
      · rintro ⟨h, hp⟩
        obtain ⟨hp1, hp2⟩ := List.pairwise_cons.1 hp
        refine ⟨fun d hd => ?_, hp2⟩
        obtain ⟨h1, h2, h3⟩ := h d (List.mem_cons_of_mem _ hd)
        refine ⟨h1, fun e => ?_, h3⟩
        rcases List.mem_cons.1 e with e | e
        · exact hp1 d hd e.symm
        · exact h2 e
theorem mayB_iff (l : List S27) : mayB l = true ↔ Fld l := by
  unfold mayB
  rw [Bool.and_eq_true, mayGo_iff, decide_eq_true_eq]
  constructor
  · rintro ⟨⟨h, hp⟩, hl⟩
    exact ⟨hl, fun c hc => (h c hc).1, fun c hc => (h c hc).2.2.1, fun c hc d hd => by rw [(h c hc).2.2.2.1, (h d hd).2.2.2.1], fun c hc => (h c hc).2.2.2.2, hp⟩
  · intro h
    refine ⟨⟨fun c hc => ⟨h.who c hc, by simp, h.span c hc, ?_, h.jit c hc⟩, h.one⟩, h.len⟩
    cases l with
    | nil => cases hc
    | cons d l => exact h.at_ c hc d List.mem_cons_self
theorem Fld.sub {l m : List S27} (h : Fld l) (hs : m.Sublist l) : Fld m :=
  ⟨Nat.le_trans hs.length_le h.len, fun c hc => h.who c (hs.subset hc), fun c hc => h.span c (hs.subset hc), fun c hc d hd => h.at_ c (hs.subset hc) d (hs.subset hd), fun c hc => h.jit c (hs.subset hc), h.one.sublist hs⟩

/-! ### spreads -/
def mids (l : List S27) : List Int := l.map (fun c => midZ c.f1)
def dist (a b : Int) : Int := if a - b < 0 then -(a - b) else a - b
def dists (l : List S27) (k : Nat) : List Int := l.map (fun c => dist (midZ c.f1) (midZ (rd_T27 l (k : Int)).f1))
/-- The sum of the distances, divided by how many others there are. -/
def spreadZ (l : List S27) (k : Nat) : Int := if l.length < 2 then 0 else (dists l k).sum / ((l.length : Int) - 1)
theorem dist_tm {a b : Int} (ha : Tm a) (hb : Tm b) : Tm (dist a b) := by
  unfold dist Tm MT at *; split <;> omega
theorem rd_mem {l : List S27} {k : Nat} (h : k < l.length) : rd_T27 l (k : Int) ∈ l := by
  unfold rd_T27
  have : l.getD (k : Int).toNat z27 = l[k] := by simp [h]
  rw [this]; exact List.getElem_mem h
theorem rd_get {l : List S27} {k : Nat} {c : S27} (h : l[k]? = some c) : rd_T27 l (k : Int) = c := by
  unfold rd_T27; simp [h]
theorem dists_tm {l : List S27} (h : Fld l) {k : Nat} (hk : k < l.length) : ∀ d ∈ dists l k, Tm d := by
  intro d hd
  obtain ⟨c, hc, rfl⟩ := List.mem_map.1 hd
  exact dist_tm (midZ_tm (h.span c hc)).1 (midZ_tm (h.span _ (rd_mem hk))).1
/-- Whole parts and rests, added apart. -/
def sumD (o : Int) (l : List Int) : Int := (l.map (· / o)).sum
def sumR (o : Int) (l : List Int) : Int := (l.map (· % o)).sum
theorem sum_parts (o : Int) (ho : 0 < o) (l : List Int) : sumD o l * o + sumR o l = l.sum := by
  induction l with
  | nil => simp [sumD, sumR]
  | cons d l ih =>
    unfold sumD sumR at *
    simp only [List.map_cons, List.sum_cons]
    have := Int.emod_add_mul_ediv d o
    rw [Int.add_mul]
    have e : d / o * o = o * (d / o) := Int.mul_comm _ _
    omega
theorem parts_div (o : Int) (ho : 0 < o) (l : List Int) : sumD o l + sumR o l / o = l.sum / o := by
  rw [← sum_parts o ho l, Int.add_comm (sumD o l * o), Int.add_mul_ediv_right _ _ (by omega)]
  omega
theorem sum_le (B : Int) (hB : 0 ≤ B) (l : List Int) (h : ∀ d ∈ l, 0 ≤ d ∧ d ≤ B) : 0 ≤ l.sum ∧ l.sum ≤ l.length * B := by
  induction l with
  | nil => simp
  | cons d l ih =>
    have h1 := ih (fun x hx => h x (List.mem_cons_of_mem _ hx))
    have h2 := h d List.mem_cons_self
    simp only [List.sum_cons, List.length_cons]
    have e : ((l.length + 1 : Nat) : Int) * B = (l.length : Int) * B + B := by rw [Int.natCast_add, Int.add_mul]; simp
    rw [e]
    omega
theorem sumR_le (o : Int) (ho : 0 < o) (l : List Int) : 0 ≤ sumR o l ∧ sumR o l ≤ l.length * o := by
  have := sum_le o (by omega) (l.map (· % o)) (fun d hd => by
    obtain ⟨x, _, rfl⟩ := List.mem_map.1 hd
    have := Int.emod_nonneg x (by omega : o ≠ 0)
    have := Int.emod_lt_of_pos x ho
    omega)
  simpa [sumR] using this
theorem sumD_le (o : Int) (ho : 0 < o) (l : List Int) (hd : ∀ d ∈ l, Tm d) : 0 ≤ sumD o l ∧ sumD o l ≤ l.length * (MT / o) := by
  have := sum_le (MT / o) (Int.ediv_nonneg (by unfold MT; omega) (by omega)) (l.map (· / o)) (fun d hx => by
    obtain ⟨x, hx', rfl⟩ := List.mem_map.1 hx
    have := hd x hx'
    unfold Tm at this
    exact ⟨Int.ediv_nonneg this.1 (by omega), Int.ediv_le_ediv ho this.2⟩)
  simpa [sumD] using this
end Go.Proofs.Ytapagoaoglmegaa
