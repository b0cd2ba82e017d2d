/- Who is left, in whatever order, and moved. Plain. -/
import Derived.Test.YtapagoaoglmegaaClPrunePlain
namespace Go.Proofs.Ytapagoaoglmegaa
open PCl
set_option linter.unusedVariables false
set_option linter.unusedSimpArgs false
theorem perm_sum {l m : List Int} (h : l.Perm m) : l.sum = m.sum := by
  induction h with
  | nil => rfl
  | cons x _ ih => simp [ih]
  | swap x y l => simp; omega
  | trans _ _ h1 h2 => exact h1.trans h2
/-- A candidate's spread, by the candidate. -/
def spreadC (L : List S27) (c : S27) : Int := if L.length < 2 then 0 else (L.map (fun d => dist (midZ d.f1) (midZ c.f1))).sum / ((L.length : Int) - 1)
theorem spreadC_is {L : List S27} {k : Nat} {c : S27} (h : L[k]? = some c) : spreadZ L k = spreadC L c := by
  unfold spreadZ spreadC dists; rw [rd_get h]
theorem spreadC_perm {L M : List S27} (h : L.Perm M) (c : S27) : spreadC L c = spreadC M c := by
  unfold spreadC; rw [h.length_eq, perm_sum (h.map _)]
/-- The worst one, by the candidate. -/
def WorstC (L : List S27) (c : S27) : Prop := c ∈ L ∧ ∀ d ∈ L, ¬ (spreadC L c < spreadC L d ∨ (spreadC L d = spreadC L c ∧ c.f0 < d.f0))
theorem WorstC.perm {L M : List S27} (h : L.Perm M) {c : S27} (hc : WorstC L c) : WorstC M c := by
  refine ⟨h.subset hc.1, fun d hd => ?_⟩
  rw [← spreadC_perm h, ← spreadC_perm h]
  exact hc.2 d (h.symm.subset hd)
theorem worst_is {L : List S27} (h : 0 < L.length) : ∃ c, L[worstZ L]? = some c ∧ WorstC L c := by
  have hw := worstZ_lt h
  obtain ⟨c, hc⟩ : ∃ c, L[worstZ L]? = some c := ⟨_, List.getElem?_eq_getElem hw⟩
  refine ⟨c, hc, List.mem_of_getElem? hc, fun d hd => ?_⟩
  obtain ⟨j, hj, e⟩ := List.mem_iff_getElem.1 hd
  have hd' : L[j]? = some d := by rw [List.getElem?_eq_getElem hj, e]
  have := worst_max L _ (Nat.le_refl _) j hj
  unfold Worse at this
  rw [show worstTo L L.length = worstZ L from rfl, spreadC_is hd', spreadC_is hc, rd_get hd', rd_get hc] at this
  exact this
theorem one_inj {L : List S27} (h : L.Pairwise (fun c d => c.f0 ≠ d.f0)) {c d : S27} (hc : c ∈ L) (hd : d ∈ L) (e : c.f0 = d.f0) : c = d := by
  induction L with
  | nil => cases hc
  | cons x L ih =>
    obtain ⟨h1, h2⟩ := List.pairwise_cons.1 h
    rcases List.mem_cons.1 hc with rfl | hc'
    · rcases List.mem_cons.1 hd with rfl | hd
      · rfl
      · exact absurd e (h1 d hd)
    · rcases List.mem_cons.1 hd with rfl | hd
      · exact absurd e.symm (h1 c hc')
      · exact ih h2 hc' hd
theorem WorstC.one {L : List S27} (h : L.Pairwise (fun c d => c.f0 ≠ d.f0)) {c d : S27} (hc : WorstC L c) (hd : WorstC L d) : c = d := by
  have h1 := hc.2 d hd.1
  have h2 := hd.2 c hc.1
  refine one_inj h hc.1 hd.1 ?_
  omega
theorem minJ_perm {L M : List S27} (h : L.Perm M) : minJ L = minJ M := by
  by_cases h0 : 0 < L.length
  · obtain ⟨d, hd, e⟩ := minJ_mem L h0
    obtain ⟨d', hd', e'⟩ := minJ_mem M (by rw [← h.length_eq]; exact h0)
    have := minJ_le L d' (h.symm.subset hd')
    have := minJ_le M d (h.subset hd)
    omega
  · have e : L = [] := List.eq_nil_of_length_eq_zero (by omega)
    have e2 : M = [] := List.eq_nil_of_length_eq_zero (by rw [← h.length_eq]; omega)
    rw [e, e2]
theorem erase_perm {L : List S27} {k : Nat} {c : S27} (h : L[k]? = some c) : L.Perm (c :: L.eraseIdx k) := by
  have hk := (List.getElem?_eq_some_iff.1 h).1
  have e : L[k] = c := (List.getElem?_eq_some_iff.1 h).2
  rw [List.eraseIdx_eq_take_drop_succ]
  have e2 : L = L.take k ++ c :: L.drop (k + 1) := by
    have := List.take_append_drop k L
    rw [List.drop_eq_getElem_cons hk, e] at this
    exact this.symm
  have : (L.take k ++ c :: L.drop (k + 1)).Perm (c :: (L.take k ++ L.drop (k + 1))) := List.perm_middle
  rw [← e2] at this
  exact this
theorem prune_perm : ∀ (n : Nat) (L M : List S27), L.Perm M → L.Pairwise (fun c d => c.f0 ≠ d.f0) → (pruneGo n L).Perm (pruneGo n M)
  | 0, L, M, h, _ => h
  | n + 1, L, M, h, h1 => by
    have hl := h.length_eq
    unfold pruneGo
    by_cases h3 : 3 < L.length
    · obtain ⟨c, hc, wc⟩ := worst_is (L := L) (by omega)
      obtain ⟨d, hd, wd⟩ := worst_is (L := M) (by omega)
      have h1M : M.Pairwise (fun c d => c.f0 ≠ d.f0) := h.pairwise h1 (fun e => Ne.symm e)
      obtain rfl : c = d := WorstC.one h1M (wc.perm h) wd
      have es : spreadZ L (worstZ L) = spreadZ M (worstZ M) := by rw [spreadC_is hc, spreadC_is hd, spreadC_perm h]
      have em := minJ_perm h
      by_cases hs : spreadZ L (worstZ L) ≤ minJ L
      · rw [if_neg (fun q => q.2 hs), if_neg (fun q => q.2 (by rw [← es, ← em]; exact hs))]
        exact h
      · rw [if_pos ⟨h3, hs⟩, if_pos ⟨by omega, by rw [← es, ← em]; exact hs⟩]
        have p1 := erase_perm hc
        have p2 := erase_perm hd
        have p3 : (c :: L.eraseIdx (worstZ L)).Perm (c :: M.eraseIdx (worstZ M)) := (p1.symm.trans h).trans p2
        exact prune_perm n _ _ p3.cons_inv (h1.sublist (List.eraseIdx_sublist _ _))
    · rw [if_neg (fun q => h3 q.1), if_neg (fun q => h3 (by omega))]
      exact h
theorem Fld.perm {L M : List S27} (h : L.Perm M) (hF : Fld L) : Fld M :=
  ⟨by rw [← h.length_eq]; exact hF.len, fun c hc => hF.who c (h.symm.subset hc), fun c hc => hF.span c (h.symm.subset hc), fun c hc d hd => hF.at_ c (h.symm.subset hc) d (h.symm.subset hd),
    fun c hc => hF.jit c (h.symm.subset hc), h.pairwise hF.one (fun e => Ne.symm e)⟩
theorem pruneOk_iff (l : List S27) (h : S24) : pruneOk l h = true ↔ Fld l ∧ SpOk h ∧ ∀ c ∈ l, c.f1.f0 = h.f0 := by
  unfold pruneOk
  rw [Bool.and_eq_true, Bool.and_eq_true, mayB_iff, decide_eq_true_eq, Bool.or_eq_true, decide_eq_true_eq, beq_iff_eq]
  constructor
  · rintro ⟨⟨h1, h2⟩, h3⟩
    refine ⟨h1, h2, fun c hc => ?_⟩
    have hl := List.length_pos_of_mem hc
    rcases h3 with h3 | h3
    · omega
    · rw [← h3]; exact h1.at_ c hc _ (rd_mem (k := 0) hl)
  · rintro ⟨h1, h2, h3⟩
    refine ⟨⟨h1, h2⟩, ?_⟩
    by_cases h0 : l.length = 0
    · exact .inl h0
    · exact .inr (h3 _ (rd_mem (k := 0) (by omega)))
theorem left_perm {L M : List S27} (h : L.Perm M) (hF : Fld L) (H : S24) : (leftZ L H).Perm (leftZ M H) := by
  unfold leftZ
  have p := h.filter (keepB H)
  rw [← p.length_eq]
  exact prune_perm _ _ _ p (hF.one.sublist List.filter_sublist)
theorem pruneZ_perm {L M : List S27} (h : L.Perm M) (H : S24) : (pruneZ M H).2 = (pruneZ L H).2 ∧ (pruneZ L H).1.Perm (pruneZ M H).1 := by
  have eo : pruneOk M H = pruneOk L H := by
    rw [Bool.eq_iff_iff, pruneOk_iff, pruneOk_iff]
    exact ⟨fun ⟨a, b, c⟩ => ⟨a.perm h.symm, b, fun x hx => c x (h.subset hx)⟩, fun ⟨a, b, c⟩ => ⟨a.perm h, b, fun x hx => c x (h.symm.subset hx)⟩⟩
  unfold pruneZ
  rw [eo]
  by_cases ho : pruneOk L H = true
  · have p := left_perm h ((pruneOk_iff L H).1 ho).1 H
    rw [if_pos ho, if_pos ho, p.length_eq]
    by_cases e : (leftZ M H).length = 0
    · rw [if_pos e, if_pos e]; exact ⟨rfl, List.Perm.refl _⟩
    · rw [if_neg e, if_neg e]; exact ⟨rfl, p⟩
  · rw [if_neg ho, if_neg ho]; exact ⟨rfl, List.Perm.refl _⟩
/-! ### moved -/
def mvS (by_ : Int) (s : S24) : S24 := ⟨s.f0, s.f1 + by_, s.f2 + by_⟩
def mvC (by_ : Int) (c : S27) : S27 := ⟨c.f0, mvS by_ c.f1, c.f2⟩
theorem mid_mv (b : Int) (s : S24) : midZ (mvS b s) = midZ s + b := by
  unfold midZ mvS; simp only
  have : s.f2 + b - (s.f1 + b) = s.f2 - s.f1 := by omega
  rw [this]; omega
theorem dist_mv (x y b : Int) : dist (x + b) (y + b) = dist x y := by
  unfold dist
  have : x + b - (y + b) = x - y := by omega
  rw [this]
theorem spreadC_mv (b : Int) (L : List S27) (c : S27) : spreadC (L.map (mvC b)) (mvC b c) = spreadC L c := by
  unfold spreadC
  rw [List.length_map, List.map_map]
  have : (fun d : S27 => dist (midZ d.f1) (midZ (mvC b c).f1)) ∘ mvC b = fun d => dist (midZ d.f1) (midZ c.f1) := by
    funext d
    show dist (midZ (mvS b d.f1)) (midZ (mvS b c.f1)) = _
    rw [mid_mv, mid_mv, dist_mv]
  rw [this]
theorem worst_mv (b : Int) (L : List S27) : ∀ i, i ≤ L.length → worstTo (L.map (mvC b)) i = worstTo L i
  | 0, _ => rfl
  | i + 1, hi => by
    unfold worstTo
    rw [worst_mv b L i (by omega)]
    have hw := worstTo_lt L (by omega) i (by omega)
    obtain ⟨c, hc⟩ : ∃ c, L[i]? = some c := ⟨_, List.getElem?_eq_getElem (by omega)⟩
    obtain ⟨d, hd⟩ : ∃ d, L[worstTo L i]? = some d := ⟨_, List.getElem?_eq_getElem hw⟩
    have hc' : (L.map (mvC b))[i]? = some (mvC b c) := by rw [List.getElem?_map, hc]; rfl
    have hd' : (L.map (mvC b))[worstTo L i]? = some (mvC b d) := by rw [List.getElem?_map, hd]; rfl
    have : Worse (L.map (mvC b)) i (worstTo L i) ↔ Worse L i (worstTo L i) := by
      unfold Worse
      rw [spreadC_is hc, spreadC_is hd, spreadC_is hc', spreadC_is hd', spreadC_mv, spreadC_mv, rd_get hc, rd_get hd, rd_get hc', rd_get hd']
      exact Iff.rfl
    by_cases h : Worse L i (worstTo L i)
    · rw [if_pos h, if_pos (this.2 h)]
    · rw [if_neg h, if_neg (fun q => h (this.1 q))]
theorem minJ_mv (b : Int) : ∀ L : List S27, minJ (L.map (mvC b)) = minJ L
  | [] => rfl
  | [c] => rfl
  | c :: d :: r => by
    have := minJ_mv b (d :: r)
    simp only [List.map_cons] at this ⊢
    unfold minJ
    rw [this]; rfl
theorem prune_mv (b : Int) : ∀ (n : Nat) (L : List S27), pruneGo n (L.map (mvC b)) = (pruneGo n L).map (mvC b)
  | 0, L => rfl
  | n + 1, L => by
    unfold pruneGo
    rw [minJ_mv, List.length_map]
    by_cases h3 : 3 < L.length
    · have ew : worstZ (L.map (mvC b)) = worstZ L := by
        unfold worstZ; rw [List.length_map]; exact worst_mv b L _ (Nat.le_refl _)
      rw [ew]
      obtain ⟨c, hc⟩ : ∃ c, L[worstZ L]? = some c := ⟨_, List.getElem?_eq_getElem (worstZ_lt (by omega))⟩
      have hc' : (L.map (mvC b))[worstZ L]? = some (mvC b c) := by rw [List.getElem?_map, hc]; rfl
      have es : spreadZ (L.map (mvC b)) (worstZ L) = spreadZ L (worstZ L) := by rw [spreadC_is hc, spreadC_is hc', spreadC_mv]
      rw [es]
      split
      · rw [← prune_mv b n]; congr 1; rw [List.eraseIdx_eq_take_drop_succ, List.eraseIdx_eq_take_drop_succ, List.map_append, List.map_take, List.map_drop]
      · rfl
    · rw [if_neg (fun q => h3 q.1), if_neg (fun q => h3 q.1)]
theorem meets_mv {b : Int} {s h : S24} (hs : SpOk s) (hh : SpOk h) (hs' : SpOk (mvS b s)) (hh' : SpOk (mvS b h)) : Meets (mvS b s) (mvS b h) ↔ Meets s h := by
  unfold Meets
  have e : max (mvS b s).f1 (mvS b h).f1 ≤ min (mvS b s).f2 (mvS b h).f2 ↔ max s.f1 h.f1 ≤ min s.f2 h.f2 := by unfold mvS; simp only; omega
  rw [e]
  exact ⟨fun ⟨_, _, q, r⟩ => ⟨hs, hh, q, r⟩, fun ⟨_, _, q, r⟩ => ⟨hs', hh', q, r⟩⟩
/-- All moved by as much, the hull too: the same are left. -/
theorem pruneZ_mv {b : Int} {L : List S27} {H : S24} (hF : Fld L) (hM : Fld (L.map (mvC b))) (hH : SpOk H) (hH' : SpOk (mvS b H)) :
    pruneZ (L.map (mvC b)) (mvS b H) = ((pruneZ L H).1.map (mvC b), (pruneZ L H).2) := by
  have eo : pruneOk (L.map (mvC b)) (mvS b H) = pruneOk L H := by
    rw [Bool.eq_iff_iff, pruneOk_iff, pruneOk_iff]
    constructor
    · rintro ⟨_, _, h⟩
      exact ⟨hF, hH, fun c hc => h (mvC b c) (List.mem_map_of_mem hc)⟩
    · rintro ⟨_, _, h⟩
      refine ⟨hM, hH', fun c hc => ?_⟩
      obtain ⟨d, hd, rfl⟩ := List.mem_map.1 hc
      exact h d hd
  have ef : (L.map (mvC b)).filter (keepB (mvS b H)) = (L.filter (keepB H)).map (mvC b) := by
    rw [List.filter_map]
    congr 1
    apply List.filter_congr
    intro c hc
    show decide (Meets (mvS b c.f1) (mvS b H)) = decide (Meets c.f1 H)
    exact decide_eq_decide.2 (meets_mv (hF.span c hc) hH (hM.span _ (List.mem_map_of_mem (f := mvC b) hc)) hH')
  have el : leftZ (L.map (mvC b)) (mvS b H) = (leftZ L H).map (mvC b) := by
    unfold leftZ
    rw [ef, List.length_map, prune_mv]
  unfold pruneZ
  rw [eo, el, List.length_map]
  split
  · split <;> rfl
  · rfl
end Go.Proofs.Ytapagoaoglmegaa
