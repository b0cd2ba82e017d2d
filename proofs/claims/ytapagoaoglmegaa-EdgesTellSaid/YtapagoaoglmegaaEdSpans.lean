/- Spans: ranks of their ends, in how many a point is, their hull. Plain. -/
import Derived.Test.YtapagoaoglmegaaPClx0
import Derived.Test.YtapagoaoglmegaaEdSweep
import Derived.Lib.SlicesCompact
namespace Go.Proofs.Ytapagoaoglmegaa
open PCl
set_option linter.unusedVariables false
set_option linter.unusedSimpArgs false
/-- How many places are below x. -/
def rkE (P : List Int) (x : Int) : Nat := P.countP (fun y => decide (y < x))
theorem rk_le (P : List Int) {x y : Int} (h : x ≤ y) : rkE P x ≤ rkE P y := by
  refine List.countP_mono_left fun z _ hz => ?_
  simp at hz ⊢; omega
theorem rk_lt : ∀ {P : List Int} {x y : Int}, x ∈ P → x < y → rkE P x < rkE P y
  | a :: t, x, y, hx, h => by
    unfold rkE
    rw [List.countP_cons, List.countP_cons]
    have ht := rk_le t (Int.le_of_lt h)
    unfold rkE at ht
    rcases List.mem_cons.1 hx with e | e
    · subst e
      simp [h]; omega
    · have := rk_lt e h
      unfold rkE at this
      by_cases c : a < x
      · have c' : a < y := by omega
        simp [c, c']; omega
      · by_cases c' : a < y <;> simp [c, c'] <;> omega
theorem rk_lt_iff {P : List Int} {x y : Int} (hx : x ∈ P) (hy : y ∈ P) : rkE P x < rkE P y ↔ x < y := by
  constructor
  · intro h
    by_cases c : x < y
    · exact c
    · have := rk_le P (x := y) (y := x) (by omega); omega
  · exact rk_lt hx
theorem rk_le_iff {P : List Int} {x y : Int} (hx : x ∈ P) (hy : y ∈ P) : rkE P x ≤ rkE P y ↔ x ≤ y := by
  have := rk_lt_iff hy hx; omega
theorem rk_get : ∀ {P : List Int} {x : Int}, P.Pairwise (· < ·) → x ∈ P → P[rkE P x]? = some x
  | a :: t, x, hs, hx => by
    obtain ⟨h1, h2⟩ := List.pairwise_cons.1 hs
    unfold rkE
    rw [List.countP_cons]
    rcases List.mem_cons.1 hx with e | e
    · subst e
      have : t.countP (fun y => decide (y < x)) = 0 := by
        rw [List.countP_eq_zero]
        intro z hz
        have := h1 z hz
        simp; omega
      rw [this]; simp
    · have hlt := h1 x e
      have ih := rk_get h2 e
      unfold rkE at ih
      simp [hlt, ih]
theorem rk_len (P : List Int) (x : Int) : rkE P x ≤ P.length := List.countP_le_length
/-- In how many spans a point is. -/
def depE (L : List S24) (p : Int) : Nat := L.countP (fun s => decide (s.f1 ≤ p) && decide (p ≤ s.f2))
/-- The ends, as the spans stand. -/
def unE (P : List Int) (L : List S24) : List (Nat × Bool) := L.flatMap (fun s => [(rkE P s.f1, true), (rkE P s.f2, false)])
theorem DE_un {P : List Int} {p : Int} (hp : p ∈ P) : ∀ L : List S24, (∀ s ∈ L, s.f1 ∈ P ∧ s.f2 ∈ P) → (∀ s ∈ L, s.f1 ≤ s.f2) → DE (unE P L) (rkE P p) = depE L p
  | [], _, _ => rfl
  | s :: L, hm, hv => by
    have ih := DE_un hp L (fun t h => hm t (List.mem_cons_of_mem _ h)) (fun t h => hv t (List.mem_cons_of_mem _ h))
    obtain ⟨m1, m2⟩ := hm s List.mem_cons_self
    have v := hv s List.mem_cons_self
    have c1 := rk_le_iff m1 hp
    have c2 := rk_lt_iff m2 hp
    unfold DE depE unE at ih ⊢
    rw [List.flatMap_cons]
    simp only [List.cons_append, List.nil_append, List.countP_cons]
    simp only [Bool.true_and, Bool.false_and, Bool.not_true, Bool.not_false, decide_eq_true_eq, c1, c2, Bool.false_eq_true, if_false, Bool.and_eq_true]
    by_cases a : s.f1 ≤ p <;> by_cases b : s.f2 < p
    · have b' : ¬ p ≤ s.f2 := by omega
      simp only [a, b, b', if_true, if_false, and_false, and_true]; omega
    · have b' : p ≤ s.f2 := by omega
      simp only [a, b, b', if_true, if_false, and_true]; omega
    · omega
    · simp only [a, b, if_false, false_and]; omega
theorem sum_count : ∀ E : List (Nat × Bool), (E.map sgE).sum = (E.countP (fun e => e.2) : Int) - (E.countP (fun e => !e.2) : Int)
  | [] => rfl
  | (r, b) :: t => by
    rw [List.map_cons, List.sum_cons, sum_count t, List.countP_cons, List.countP_cons]
    cases b <;> simp [sgE] <;> omega
theorem un_true (P : List Int) : ∀ L : List S24, (unE P L).countP (fun e => e.2) = L.length ∧ (unE P L).countP (fun e => !e.2) = L.length
  | [] => ⟨rfl, rfl⟩
  | s :: L => by
    obtain ⟨h1, h2⟩ := un_true P L
    unfold unE at *
    rw [List.flatMap_cons]
    simp only [List.cons_append, List.nil_append, List.countP_cons, h1, h2]
    simp
theorem DE_perm {E F : List (Nat × Bool)} (h : E.Perm F) (k : Nat) : DE E k = DE F k := by
  unfold DE; rw [h.countP_eq, h.countP_eq]
theorem pre_all {P : List Int} {L : List S24} {E : List (Nat × Bool)} (h : E.Perm (unE P L)) : preE E E.length = 0 := by
  unfold preE
  rw [List.take_length, sum_count, h.countP_eq, h.countP_eq, (un_true P L).1, (un_true P L).2]
  omega
structure IsHull (L : List S24) (lo hi : Int) : Prop where
  lo_mem : ∃ s ∈ L, s.f1 = lo
  hi_mem : ∃ s ∈ L, s.f2 = hi
  lo_deep : L.length < 2 * depE L lo
  hi_deep : L.length < 2 * depE L hi
  all : ∀ p, L.length < 2 * depE L p → lo ≤ p ∧ p ≤ hi
def NoHull (L : List S24) : Prop := ∀ p, 2 * depE L p ≤ L.length
theorem max_ex {α : Type} (f : α → Int) : ∀ M : List α, M ≠ [] → ∃ s ∈ M, ∀ t ∈ M, f t ≤ f s
  | [], h => absurd rfl h
  | [a], _ => ⟨a, List.mem_cons_self, fun t ht => by obtain rfl : t = a := by simpa using ht
                                                     exact Int.le_refl _⟩
  | a :: b :: t, _ => by
    obtain ⟨s, hs, hm⟩ := max_ex f (b :: t) (by simp)
    by_cases c : f a ≤ f s
    · exact ⟨s, List.mem_cons_of_mem _ hs, fun x hx => by rcases List.mem_cons.1 hx with e | e; · subst e; exact c
                                                          · exact hm x e⟩
    · exact ⟨a, List.mem_cons_self, fun x hx => by rcases List.mem_cons.1 hx with e | e; · subst e; exact Int.le_refl _
                                                   · have := hm x e; omega⟩
theorem has_iff (s : S24) (p : Int) : (decide (s.f1 ≤ p) && decide (p ≤ s.f2)) = true ↔ s.f1 ≤ p ∧ p ≤ s.f2 := by simp
theorem dep_lo {L : List S24} {p : Int} (h : 0 < depE L p) : ∃ s ∈ L, s.f1 ≤ p ∧ p ≤ s.f2 ∧ depE L p ≤ depE L s.f1 := by
  obtain ⟨s0, h0, h1⟩ := List.countP_pos_iff.1 h
  have hne : L.filter (fun s => decide (s.f1 ≤ p) && decide (p ≤ s.f2)) ≠ [] := fun e => by
    have : s0 ∈ L.filter (fun s => decide (s.f1 ≤ p) && decide (p ≤ s.f2)) := List.mem_filter.2 ⟨h0, h1⟩
    rw [e] at this; cases this
  obtain ⟨s, hs, hm⟩ := max_ex (fun s : S24 => s.f1) _ hne
  obtain ⟨hs1, hs2⟩ := List.mem_filter.1 hs
  rw [has_iff] at hs2
  refine ⟨s, hs1, hs2.1, hs2.2, List.countP_mono_left fun t ht h2 => ?_⟩
  have h3 := hm t (List.mem_filter.2 ⟨ht, h2⟩)
  rw [has_iff] at h2 ⊢
  omega
theorem dep_hi {L : List S24} {p : Int} (h : 0 < depE L p) : ∃ s ∈ L, s.f1 ≤ p ∧ p ≤ s.f2 ∧ depE L p ≤ depE L s.f2 := by
  obtain ⟨s0, h0, h1⟩ := List.countP_pos_iff.1 h
  have hne : L.filter (fun s => decide (s.f1 ≤ p) && decide (p ≤ s.f2)) ≠ [] := fun e => by
    have : s0 ∈ L.filter (fun s => decide (s.f1 ≤ p) && decide (p ≤ s.f2)) := List.mem_filter.2 ⟨h0, h1⟩
    rw [e] at this; cases this
  obtain ⟨s, hs, hm⟩ := max_ex (fun s : S24 => -s.f2) _ hne
  obtain ⟨hs1, hs2⟩ := List.mem_filter.1 hs
  rw [has_iff] at hs2
  refine ⟨s, hs1, hs2.1, hs2.2, List.countP_mono_left fun t ht h2 => ?_⟩
  have h3 := hm t (List.mem_filter.2 ⟨ht, h2⟩)
  rw [has_iff] at h2 ⊢
  omega
theorem un_mem {P : List Int} {L : List S24} {r : Nat} {b : Bool} (h : (r, b) ∈ unE P L) : ∃ s ∈ L, r = rkE P (if b = true then s.f1 else s.f2) := by
  unfold unE at h
  obtain ⟨s, hs, h⟩ := List.mem_flatMap.1 h
  refine ⟨s, hs, ?_⟩
  rcases List.mem_cons.1 h with e | e
  · injection e with e1 e2; subst e1 e2; rfl
  · rcases List.mem_cons.1 e with e | e
    · injection e with e1 e2; subst e1 e2; rfl
    · cases e
/-- What the sweep over the ends in order finds, of spans. -/
theorem hull_of_sweep {L : List S24} {P : List Int} {E : List (Nat × Bool)} (hP : P.Pairwise (· < ·)) (hm : ∀ s ∈ L, s.f1 ∈ P ∧ s.f2 ∈ P) (hv : ∀ s ∈ L, s.f1 ≤ s.f2) (hE : E.Perm (unE P L)) (hs : SortedE E) :
    ((swE L.length E E.length).2.1 = -1 ∧ NoHull L) ∨
    ∃ (a b : Nat) (lo hi : Int), (swE L.length E E.length).2.1 = a ∧ (swE L.length E E.length).2.2 = b ∧ P[a]? = some lo ∧ P[b]? = some hi ∧ IsHull L lo hi := by
  have hD : ∀ p, p ∈ P → DE E (rkE P p) = depE L p := fun p hp => by rw [DE_perm hE]; exact DE_un hp L hm hv
  rcases sweep (n := (L.length : Int)) (by omega) hs (pre_all hE) with ⟨h1, h2⟩ | ⟨a, b, h1, h2, ha, hb, da, db, hall⟩
  · refine .inl ⟨h1, fun p => ?_⟩
    by_cases c : 0 < depE L p
    · obtain ⟨s, hs, _, _, hd⟩ := dep_lo c
      have := h2 (rkE P s.f1)
      rw [hD _ (hm s hs).1] at this
      omega
    · omega
  · obtain ⟨s, hs1, es⟩ := un_mem (hE.mem_iff.1 ha)
    obtain ⟨t, ht1, et⟩ := un_mem (hE.mem_iff.1 hb)
    simp only [if_true] at es
    simp only [Bool.false_eq_true, if_false] at et
    rw [es, hD _ (hm s hs1).1] at da
    rw [et, hD _ (hm t ht1).2] at db
    refine .inr ⟨a, b, s.f1, t.f2, h1, h2, by rw [es]; exact rk_get hP (hm s hs1).1, by rw [et]; exact rk_get hP (hm t ht1).2, ⟨s, hs1, rfl⟩, ⟨t, ht1, rfl⟩, by omega, by omega, fun p hp => ?_⟩
    have c : 0 < depE L p := by omega
    obtain ⟨x, hx, x1, x2, xd⟩ := dep_lo c
    obtain ⟨y, hy, y1, y2, yd⟩ := dep_hi c
    have k1 := (hall (rkE P x.f1) (by rw [hD _ (hm x hx).1]; omega)).1
    have k2 := (hall (rkE P y.f2) (by rw [hD _ (hm y hy).2]; omega)).2
    rw [es, rk_le_iff (hm s hs1).1 (hm x hx).1] at k1
    rw [et, rk_le_iff (hm y hy).2 (hm t ht1).2] at k2
    omega
/-- Places, rising, each once. -/
theorem compact_inv (d : Array Int) (hs : ∀ i j, i ≤ j → j < d.size → d[i]! ≤ d[j]!) : ∀ m, m ≤ d.size →
    (Lib.compactUpTo d m).Pairwise (· < ·) ∧ (∀ x ∈ Lib.compactUpTo d m, ∃ j, j < m ∧ x = d[j]!) ∧ ∀ j, j < m → d[j]! ∈ Lib.compactUpTo d m
  | 0, _ => ⟨by simp [Lib.compactUpTo], by simp [Lib.compactUpTo], fun j h => by omega⟩
  | m + 1, h => by
    obtain ⟨h1, h2, h3⟩ := compact_inv d hs m (by omega)
    rw [Lib.compactUpTo_succ]
    by_cases c : m = 0 ∨ d[m]! ≠ d[m - 1]!
    · have e : Lib.keeps d m = true := by simp [Lib.keeps, c]
      rw [e, if_pos rfl]
      refine ⟨List.pairwise_append.2 ⟨h1, by simp, fun x hx y hy => ?_⟩, fun x hx => ?_, fun j hj => ?_⟩
      · obtain rfl : y = d[m]! := by simpa using hy
        obtain ⟨j, hj, rfl⟩ := h2 x hx
        rcases c with c | c
        · omega
        · have a1 := hs j (m - 1) (by omega) (by omega)
          have a2 := hs (m - 1) m (by omega) (by omega)
          omega
      · rcases List.mem_append.1 hx with e | e
        · obtain ⟨j, hj, e⟩ := h2 x e; exact ⟨j, by omega, e⟩
        · exact ⟨m, by omega, by simpa using e⟩
      · by_cases q : j = m
        · subst q; simp
        · exact List.mem_append_left _ (h3 j (by omega))
    · have c1 : ¬ m = 0 := fun q => c (.inl q)
      have c2 : d[m]! = d[m - 1]! := by
        by_cases q : d[m]! = d[m - 1]!
        · exact q
        · exact absurd (.inr q) c
      have e : Lib.keeps d m = false := by simp [Lib.keeps, c1, c2]
      rw [e]
      simp only [Bool.false_eq_true, if_false, List.append_nil]
      refine ⟨h1, fun x hx => ?_, fun j hj => ?_⟩
      · obtain ⟨j, hj, e⟩ := h2 x hx; exact ⟨j, by omega, e⟩
      · by_cases q : j = m
        · subst q; rw [c2]; exact h3 _ (by omega)
        · exact h3 j (by omega)
/-- The ends' places, as the spans stand. -/
def plE (L : List S24) : List Int := L.flatMap (fun s => [s.f1, s.f2])
def srtE (L : List S24) : List Int := (plE L).mergeSort fun x y => decide (x ≤ y)
/-- The places of ends, rising, each once. -/
def posE (L : List S24) : List Int := Lib.compact (srtE L)
theorem srt_perm (L : List S24) : (srtE L).Perm (plE L) := List.mergeSort_perm _ _
theorem srt_sorted (L : List S24) : (srtE L).Pairwise (· ≤ ·) := by
  have := List.pairwise_mergeSort (le := fun x y : Int => decide (x ≤ y)) (fun a b c h1 h2 => by simp at *; omega) (fun a b => by simp; omega) (plE L)
  exact this.imp (by simp)
theorem pos_ok (L : List S24) : (posE L).Pairwise (· < ·) ∧ (∀ s ∈ L, s.f1 ∈ posE L ∧ s.f2 ∈ posE L) ∧ (posE L).length ≤ 2 * L.length := by
  have hs : ∀ i j, i ≤ j → j < (srtE L).toArray.size → (srtE L).toArray[i]! ≤ (srtE L).toArray[j]! := fun i j hij hj => by
    have hj' : j < (srtE L).length := by simpa using hj
    rw [getElem!_pos _ i (by simp; omega), getElem!_pos _ j (by simpa using hj')]
    simp only [List.getElem_toArray]
    by_cases e : i = j
    · subst e; exact Int.le_refl _
    · exact List.pairwise_iff_getElem.1 (srt_sorted L) i j (by omega) hj' (by omega)
  obtain ⟨h1, h2, h3⟩ := compact_inv (srtE L).toArray hs (srtE L).length (by simp)
  have hmem : ∀ x, x ∈ plE L → x ∈ posE L := fun x hx => by
    obtain ⟨j, hj⟩ := List.getElem?_of_mem ((srt_perm L).mem_iff.2 hx)
    obtain ⟨hjl, rfl⟩ := List.getElem?_eq_some_iff.1 hj
    have := h3 j hjl
    rw [getElem!_pos _ j (by simpa using hjl)] at this
    simpa [posE, Lib.compact] using this
  refine ⟨h1, fun s hs => ⟨hmem _ ?_, hmem _ ?_⟩, ?_⟩
  · exact List.mem_flatMap.2 ⟨s, hs, by simp⟩
  · exact List.mem_flatMap.2 ⟨s, hs, by simp⟩
  · have a : (Lib.compactUpTo (srtE L).toArray (srtE L).length).length ≤ (srtE L).length := by
      unfold Lib.compactUpTo
      rw [List.length_map]
      exact Nat.le_trans (List.length_filter_le _ _) (by simp)
    have b : (srtE L).length = (plE L).length := (srt_perm L).length_eq
    have c : (plE L).length = 2 * L.length := by
      unfold plE
      clear a b hmem hs h1 h2 h3
      induction L with
      | nil => rfl
      | cons s L ih => rw [List.flatMap_cons]; simp at ih ⊢; omega
    unfold posE Lib.compact
    omega
def mayE (s : S24) : Bool := decide (0 ≤ s.f1) && decide (s.f1 ≤ s.f2) && decide (s.f2 ≤ 4611686018427387904)
def okE (L : List S24) : Bool := decide (L.length ≤ 16) && L.all mayE
def mnE (L : List S24) : Option Int := ((L.map (·.f1)).filter (fun p => decide (L.length < 2 * depE L p))).min?
def mxE (L : List S24) : Option Int := ((L.map (·.f2)).filter (fun p => decide (L.length < 2 * depE L p))).max?
/-- The hull: from, to, an error. -/
def hullZ (L : List S24) : Int × Int × Int := if okE L = true then (match mnE L, mxE L with | some lo, some hi => (lo, hi, 0) | _, _ => (0, 0, 33)) else (0, 0, 1)
theorem hullZ_is {L : List S24} {lo hi : Int} (ho : okE L = true) (h : IsHull L lo hi) : hullZ L = (lo, hi, 0) := by
  have h1 : mnE L = some lo := by
    unfold mnE
    rw [List.min?_eq_some_iff]
    refine ⟨List.mem_filter.2 ⟨?_, by simpa using h.lo_deep⟩, fun b hb => ?_⟩
    · obtain ⟨s, hs, e⟩ := h.lo_mem; exact List.mem_map.2 ⟨s, hs, e⟩
    · exact (h.all b (by simpa using (List.mem_filter.1 hb).2)).1
  have h2 : mxE L = some hi := by
    unfold mxE
    rw [List.max?_eq_some_iff]
    refine ⟨List.mem_filter.2 ⟨?_, by simpa using h.hi_deep⟩, fun b hb => ?_⟩
    · obtain ⟨s, hs, e⟩ := h.hi_mem; exact List.mem_map.2 ⟨s, hs, e⟩
    · exact (h.all b (by simpa using (List.mem_filter.1 hb).2)).2
  unfold hullZ
  rw [if_pos ho, h1, h2]
theorem hullZ_no {L : List S24} (ho : okE L = true) (h : NoHull L) : hullZ L = (0, 0, 33) := by
  have h1 : mnE L = none := by
    unfold mnE
    rw [List.min?_eq_none_iff, List.filter_eq_nil_iff]
    intro p _
    have := h p
    simp; omega
  unfold hullZ
  rw [if_pos ho, h1]
theorem hullZ_bad {L : List S24} (ho : ¬ okE L = true) : hullZ L = (0, 0, 1) := if_neg ho
/-- The ends in order. -/
def ltEn (a b : Nat × Bool) : Bool := !leE b a
def endE (L : List S24) : List (Nat × Bool) := (unE (posE L) L).mergeSort fun a b => leE a b
theorem leE_trans (a b c : Nat × Bool) (h1 : leE a b = true) (h2 : leE b c = true) : leE a c = true := by
  rw [leE_iff] at *
  rcases h1 with h1 | ⟨h1, h1' | h1'⟩ <;> rcases h2 with h2 | ⟨h2, h2' | h2'⟩
  · left; omega
  · left; omega
  · left; omega
  · left; omega
  · right; exact ⟨by omega, .inl h1'⟩
  · right; exact ⟨by omega, .inl h1'⟩
  · left; omega
  · rw [h1'] at h2'; cases h2'
  · right; exact ⟨by omega, .inr h2'⟩
theorem leE_total (a b : Nat × Bool) : (leE a b || leE b a) = true := by
  rw [Bool.or_eq_true, leE_iff, leE_iff]
  by_cases h : a.1 = b.1
  · cases ha : a.2 <;> cases hb : b.2 <;> simp [h]
  · omega
theorem end_perm (L : List S24) : (endE L).Perm (unE (posE L) L) := List.mergeSort_perm _ _
theorem end_sorted (L : List S24) : SortedE (endE L) := SortedE.of (List.pairwise_mergeSort leE_trans leE_total _)
theorem un_len (P : List Int) : ∀ L : List S24, (unE P L).length = 2 * L.length
  | [] => rfl
  | s :: L => by have := un_len P L; unfold unE at *; rw [List.flatMap_cons]; simp at this ⊢; omega
theorem end_len (L : List S24) : (endE L).length = 2 * L.length := (end_perm L).length_eq.trans (un_len _ L)
theorem ok_lohi {L : List S24} (ho : okE L = true) : ∀ s ∈ L, 0 ≤ s.f1 ∧ s.f1 ≤ s.f2 ∧ s.f2 ≤ 4611686018427387904 := fun s hs => by
  unfold okE at ho
  rw [Bool.and_eq_true] at ho
  have := List.all_eq_true.1 ho.2 s hs
  unfold mayE at this
  simp at this
  omega
/-- There is a hull or there is none. -/
theorem hull_cases {L : List S24} (ho : okE L = true) : (NoHull L ∧ hullZ L = (0, 0, 33)) ∨ ∃ lo hi, IsHull L lo hi ∧ hullZ L = (lo, hi, 0) := by
  obtain ⟨p1, p2, _⟩ := pos_ok L
  rcases hull_of_sweep p1 p2 (fun s hs => (ok_lohi ho s hs).2.1) (end_perm L) (end_sorted L) with ⟨_, h⟩ | ⟨a, b, lo, hi, _, _, _, _, h⟩
  · exact .inl ⟨h, hullZ_no ho h⟩
  · exact .inr ⟨lo, hi, h, hullZ_is ho h⟩
end Go.Proofs.Ytapagoaoglmegaa
