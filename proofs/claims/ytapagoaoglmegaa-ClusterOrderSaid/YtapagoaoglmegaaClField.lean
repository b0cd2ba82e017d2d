/- The laws' field of candidates, as plain Lean; cluster.Worst and cluster.Spread on a field. -/
import Derived.Test.YtapagoaoglmegaaPClx21
import Derived.Test.YtapagoaoglmegaaPClx17
import Derived.Test.YtapagoaoglmegaaClWorst
import Derived.Test.YtapagoaoglmegaaGClMay
import Derived.Test.YtapagoaoglmegaaOpen
import Derived.Test.YtapagoaoglmegaaClMem
namespace Go.Proofs.Ytapagoaoglmegaa
open Go.RowKit Go.Proofs.YtapagoaoglmegaaW.PrintWords Go.Proofs.YtapagoaoglmegaaW.PrintLast Go.Proofs.YtapagoaoglmegaaW.PrintMore PCl
set_option linter.unusedVariables false

/-- What is handed in is of its types. -/
def NearOk (n : S102) : Prop := 0 ≤ n.f0 ∧ n.f0 < 4294967296 ∧ 0 ≤ n.f1 ∧ n.f1 < 65536 ∧ 0 ≤ n.f2 ∧ n.f2 < 65536
def candOf (i : Nat) (n : S102) : S27 := ⟨i, ⟨9, n.f0 + 1048576 - n.f1, n.f0 + 1048576 + n.f1⟩, n.f2⟩
def fieldTo (l : List S102) (i : Nat) : List S27 := (List.range i).map fun j => candOf j (rd_T102 l j)
def fieldZ (l : List S102) : List S27 := fieldTo l (min l.length 16)
theorem fieldTo_len (l : List S102) (i : Nat) : (fieldTo l i).length = i := by simp [fieldTo]
theorem fieldTo_succ (l : List S102) (i : Nat) : fieldTo l (i + 1) = fieldTo l i ++ [candOf i (rd_T102 l i)] := by
  unfold fieldTo; rw [List.range_succ, List.map_append]; rfl
theorem rd102_mem {l : List S102} {i : Nat} (h : i < l.length) : rd_T102 l (i : Int) ∈ l := by
  unfold rd_T102
  have : l.getD (i : Int).toNat z102 = l[i] := by simp [h]
  rw [this]; exact List.getElem_mem h
theorem field_l0 {l : List S102} (hw : ∀ n ∈ l, NearOk n) (hl : l.length ≤ 9223372036854775807) : ∀ (d i k : Nat), i ≤ min l.length 16 → 17 - i = d → d + 1 ≤ k → ephemerislaw23_field.l0 k (fieldTo l i) l (l.length : Int) (i : Int) = some (fieldZ l)
  | 0, i, k, hi, hd, hk => by omega
  | d + 1, i, k, hi, hd, hk => by
    obtain ⟨k, rfl⟩ : ∃ m, k = m + 1 := ⟨k - 1, by omega⟩
    simp only [ephemerislaw23_field.l0]
    by_cases hlt : i < l.length
    · rw [if_pos (by omega), if_pos (by omega), if_pos (by omega)]
      by_cases h16 : i = 16
      · rw [if_pos (by omega)]
        unfold fieldZ
        rw [show min l.length 16 = i by omega]
      · rw [if_neg (by omega), if_pos (by rw [fieldTo_len]; omega)]
        obtain ⟨a0, a1, b0, b1, c0, c1⟩ := hw _ (rd102_mem hlt)
        have e1 : wrap64 ((i : Int) + 1) = ((i + 1 : Nat) : Int) := by unfold wrap64; omega
        have e2 : wrap64 ((wrap64 ((wrap64 ((rd_T102 l i).f0)) + 1048576)) - (wrap64 ((rd_T102 l i).f1))) = (rd_T102 l i).f0 + 1048576 - (rd_T102 l i).f1 := by unfold wrap64; omega
        have e3 : wrap64 ((wrap64 ((wrap64 ((rd_T102 l i).f0)) + 1048576)) + (wrap64 ((rd_T102 l i).f1))) = (rd_T102 l i).f0 + 1048576 + (rd_T102 l i).f1 := by unfold wrap64; omega
        have e4 : wrap64 ((rd_T102 l i).f2) = (rd_T102 l i).f2 := by unfold wrap64; omega
        rw [e1, e2, e3, e4]
        have := field_l0 hw hl d (i + 1) k (by omega) (by omega) (by omega)
        rw [fieldTo_succ] at this
        exact this
    · rw [if_neg (by omega)]
      unfold fieldZ
      rw [show min l.length 16 = i by omega]
theorem field_f {l : List S102} (hw : ∀ n ∈ l, NearOk n) (hl : l.length ≤ 9223372036854775807) (k : Nat) (hk : 18 ≤ k) : ephemerislaw23_field.f k l = some (fieldZ l) :=
  field_l0 hw hl 17 0 k (by omega) (by omega) (by omega)
theorem fieldZ_len (l : List S102) : (fieldZ l).length = min l.length 16 := fieldTo_len _ _
theorem fieldZ_get {l : List S102} {i : Nat} {c : S27} (h : (fieldZ l)[i]? = some c) : i < l.length ∧ i < 16 ∧ c = candOf i (rd_T102 l i) := by
  have hi := (List.getElem?_eq_some_iff.1 h).1
  rw [fieldZ_len] at hi
  refine ⟨by omega, by omega, ?_⟩
  unfold fieldZ fieldTo at h
  rw [List.getElem?_map, List.getElem?_range hi] at h
  simpa using h.symm
theorem fieldZ_mem {l : List S102} {c : S27} (h : c ∈ fieldZ l) : ∃ i, i < l.length ∧ i < 16 ∧ c = candOf i (rd_T102 l i) := by
  obtain ⟨i, hi⟩ := List.mem_iff_getElem?.1 h
  exact ⟨i, fieldZ_get hi⟩
theorem fieldZ_fld {l : List S102} (hw : ∀ n ∈ l, NearOk n) : Fld (fieldZ l) := by
  refine ⟨by rw [fieldZ_len]; omega, fun c hc => ?_, fun c hc => ?_, fun c hc d hd => ?_, fun c hc => ?_, ?_⟩
  · obtain ⟨i, _, _, rfl⟩ := fieldZ_mem hc
    show (0 : Int) ≤ (i : Int); omega
  · obtain ⟨i, hi, _, rfl⟩ := fieldZ_mem hc
    obtain ⟨a0, a1, b0, b1, c0, c1⟩ := hw _ (rd102_mem hi)
    unfold candOf SpOk Tm MT; simp only; omega
  · obtain ⟨i, _, _, rfl⟩ := fieldZ_mem hc
    obtain ⟨j, _, _, rfl⟩ := fieldZ_mem hd
    rfl
  · obtain ⟨i, hi, _, rfl⟩ := fieldZ_mem hc
    obtain ⟨a0, a1, b0, b1, c0, c1⟩ := hw _ (rd102_mem hi)
    unfold candOf Tm MT; simp only; omega
  · unfold fieldZ fieldTo
    rw [List.pairwise_map]
    exact List.nodup_range.imp fun h e => h (by have : ((_ : Nat) : Int) = ((_ : Nat) : Int) := e; omega)
theorem fieldZ_who (l : List S102) : WhoWf (fieldZ l) := by
  intro c hc
  obtain ⟨i, _, hi, rfl⟩ := fieldZ_mem hc
  show (decide (IntKind.i64.min ≤ (i : Int)) && decide ((i : Int) ≤ IntKind.i64.max)) = true
  rw [decide_eq_true (by show (-9223372036854775808 : Int) ≤ i; omega), decide_eq_true (by show (i : Int) ≤ 9223372036854775807; omega)]
  rfl

theorem may_f {l : List S27} (hF : Fld l) (hw : WhoWf l) : cluster_May.f l = some true := by
  unfold cluster_May.f; rw [if_pos hw, (mayB_iff l).2 hF]
theorem Worst_f {l : List S27} (hF : Fld l) (hw : WhoWf l) (k : Nat) (hk : l.length + 4 ≤ k) : cluster_Worst.f k l = some (if l.length = 0 then (0, false) else ((worstZ l : Int), true)) := by
  unfold cluster_Worst.f
  rw [may_f hF hw]
  simp only [Option.bind_some, if_true]
  by_cases h : l.length = 0
  · rw [if_pos (by omega), if_pos h]
  · rw [if_neg (by omega), if_neg h, worst_f ((mayB_iff l).2 hF) (by omega) k hk]
    rfl
theorem Spread_f {l : List S27} (hF : Fld l) (hw : WhoWf l) {i : Nat} (hi : i < l.length) : cluster_Spread.f l (i : Int) = some (spreadZ l i) := by
  unfold cluster_Spread.f
  rw [may_f hF hw]
  simp only [Option.bind_some, if_true]
  rw [if_neg (by omega), if_neg (by omega), spread_f ((mayB_iff l).2 hF) hi]
  rfl

theorem mx_dist (a b : Int) (ha : -4611686018427387904 ≤ a - b) (hb : a - b ≤ 4611686018427387904) : mx (wrap64 (a - b)) (wrap64 (-(wrap64 (a - b)))) = dist a b := by
  have e1 : wrap64 (a - b) = a - b := by unfold wrap64; omega
  rw [e1]
  have e2 : wrap64 (-(a - b)) = -(a - b) := by unfold wrap64; omega
  rw [e2]
  unfold mx dist
  split <;> split <;> omega
theorem mid_candOf (i : Nat) (n : S102) : midZ (candOf i n).f1 = n.f0 + 1048576 := by
  unfold midZ candOf; simp only; omega
theorem dist_sym (a b : Int) : dist a b = dist b a := by unfold dist; split <;> split <;> omega
theorem field_mid {l : List S102} (hw : ∀ n ∈ l, NearOk n) {i : Nat} {c : S27} (h : (fieldZ l)[i]? = some c) : 0 ≤ midZ c.f1 ∧ midZ c.f1 ≤ 4297064447 := by
  obtain ⟨hi, _, rfl⟩ := fieldZ_get h
  obtain ⟨a0, a1, _⟩ := hw _ (rd102_mem hi)
  rw [mid_candOf]; omega
theorem dists_small {l : List S102} (hw : ∀ n ∈ l, NearOk n) {i : Nat} {c : S27} (h : (fieldZ l)[i]? = some c) : ∀ x ∈ dists (fieldZ l) i, 0 ≤ x ∧ x ≤ 4297064447 := by
  intro x hx
  obtain ⟨d, hd, rfl⟩ := List.mem_map.1 hx
  obtain ⟨j, hj⟩ := List.mem_iff_getElem?.1 hd
  have h1 := field_mid hw h
  have h2 := field_mid hw hj
  rw [rd_get h]
  unfold dist; split <;> omega
theorem dists_get' {l : List S27} {i j : Nat} {c d : S27} (hj : l[j]? = some d) (hi : l[i]? = some c) : (dists l i)[j]? = some (dist (midZ d.f1) (midZ c.f1)) := by
  unfold dists; rw [List.getElem?_map, hj, rd_get hi]; rfl
theorem dists_len' (l : List S27) (i : Nat) : (dists l i).length = l.length := by unfold dists; simp
theorem sum_snoc (l : List Int) (x : Int) : (l ++ [x]).sum = l.sum + x := by simp [List.sum_append]
theorem spread_bounds {l : List S27} {i : Nat} {c : S27} (h : l[i]? = some c) (hnn : ∀ x ∈ dists l i, 0 ≤ x ∧ x ≤ 4297064447) (hl : l.length ≤ 16) :
    0 ≤ spreadZ l i ∧ spreadZ l i * max ((l.length : Int) - 1) 1 ≤ (dists l i).sum ∧ (dists l i).sum - spreadZ l i * max ((l.length : Int) - 1) 1 < max ((l.length : Int) - 1) 1 := by
  have hi := (List.getElem?_eq_some_iff.1 h).1
  have hs := sum_le 4297064447 (by omega) _ hnn
  by_cases h2 : l.length < 2
  · obtain ⟨d, rfl⟩ : ∃ d, l = [d] := List.length_eq_one_iff.1 (by omega)
    have e0 : i = 0 := by simp at hi; omega
    subst e0
    simp at h; subst h
    have e : (dists [d] 0).sum = 0 := by
      unfold dists; simp [rd_T27, dist]
    rw [e]
    have e2 : spreadZ [d] 0 = 0 := rfl
    rw [e2]
    show (0 : Int) ≤ 0 ∧ (0 : Int) * _ ≤ 0 ∧ (0 : Int) - 0 * _ < max ((([d].length : Nat) : Int) - 1) 1
    simp only [List.length_cons, List.length_nil, Int.zero_mul]
    omega
  · have e1 : max ((l.length : Int) - 1) 1 = (l.length : Int) - 1 := by omega
    have e2 : spreadZ l i = (dists l i).sum / ((l.length : Int) - 1) := by unfold spreadZ; rw [if_neg h2]
    rw [e1, e2]
    have p : 0 < (l.length : Int) - 1 := by omega
    have q := Int.emod_add_mul_ediv (dists l i).sum ((l.length : Int) - 1)
    have r0 := Int.emod_nonneg (dists l i).sum (by omega : (l.length : Int) - 1 ≠ 0)
    have r1 := Int.emod_lt_of_pos (dists l i).sum p
    rw [Int.mul_comm ((l.length : Int) - 1)] at q
    exact ⟨Int.ediv_nonneg hs.1 (by omega), by omega, by omega⟩
theorem spr_two {F : List S27} (h : F.length = 2) : spreadZ F 0 = spreadZ F 1 := by
  match F, h with
  | [a, b], _ => unfold spreadZ dists; simp [rd_T27, dist_sym (midZ b.f1) (midZ a.f1)]; unfold dist; simp
theorem w64 {x : Int} (h0 : -4611686018427387904 ≤ x) (h1 : x ≤ 4611686018427387904) : wrap64 x = x := by unfold wrap64; omega
theorem tie {s sw i w : Int} (h : ¬ (sw < s ∨ (s = sw ∧ w < i))) : ¬ s > sw ∧ (s = sw → ¬ i > w) := by omega
theorem two_no {so S o : Int} (h1 : so ≤ S) (h2 : S - so < o) : ¬ so > S ∧ ¬ S - so ≥ o := by omega
/-- A field as the law makes it. -/
structure Fz (F : List S27) : Prop where
  fld : Fld F
  who : WhoWf F
  mid : ∀ c ∈ F, 0 ≤ midZ c.f1 ∧ midZ c.f1 ≤ 4297064447
  no : ∀ (i : Nat) c, F[i]? = some c → c.f0 = i
theorem Fz.dsm {F : List S27} (h : Fz F) {i : Nat} {c : S27} (hc : F[i]? = some c) : ∀ x ∈ dists F i, 0 ≤ x ∧ x ≤ 4297064447 := by
  intro x hx
  obtain ⟨d, hd, rfl⟩ := List.mem_map.1 hx
  have h1 := h.mid c (List.mem_of_getElem? hc)
  have h2 := h.mid d hd
  rw [rd_get hc]
  unfold dist; split <;> omega
theorem fieldZ_fz {l : List S102} (hw : ∀ n ∈ l, NearOk n) : Fz (fieldZ l) :=
  ⟨fieldZ_fld hw, fieldZ_who l, fun c hc => by obtain ⟨i, hi⟩ := List.mem_iff_getElem?.1 hc; exact field_mid hw hi, fun i c h => by obtain ⟨_, _, rfl⟩ := fieldZ_get h; rfl⟩

theorem near_open {w : World} {A : Option Addr} {len cap : Nat} (h : RdS [.i .u32, .i .u16, .i .u16] w A len cap) :
    ∃ l : List S102, l.length = len ∧ len ≤ cap ∧ Kd.C k102 w A l.length l ∧ ∀ n ∈ l, NearOk n := by
  have hle := RdS.len_le h
  rcases h with ⟨rfl, hc, _⟩ | ⟨b, off, rfl, hlc, hcm, hb, R, hR⟩
  · exact ⟨[], rfl, hc, ⟨rfl, by simp, fun h => absurd h (by simp)⟩, fun n hn => by cases hn⟩
  · have hN : ∀ i, ∃ n : S102, i < len → R i = [.int .u32 n.f0, .int .u16 n.f1, .int .u16 n.f2] ∧ NearOk n := by
      intro i
      by_cases hi : i < len
      · obtain ⟨ho, _⟩ := hR i hi
        obtain ⟨v0, r0, e0, h0, ho⟩ := okAll.cons ho
        obtain ⟨v1, r1, e1, h1, ho⟩ := okAll.cons ho
        obtain ⟨v2, r2, e2, h2, ho⟩ := okAll.cons ho
        have e3 := okAll.none ho
        obtain ⟨a, rfl, ha⟩ := h0
        obtain ⟨c, rfl, hc⟩ := h1
        obtain ⟨d, rfl, hd⟩ := h2
        refine ⟨⟨a, c, d⟩, fun _ => ⟨by rw [e0, e1, e2, e3], ?_⟩⟩
        have q0 : (0 : Int) ≤ a ∧ a ≤ 4294967295 := by have := ha; simp [Lit.wf] at this; exact this
        have q1 : (0 : Int) ≤ c ∧ c ≤ 65535 := by have := hc; simp [Lit.wf] at this; exact this
        have q2 : (0 : Int) ≤ d ∧ d ≤ 65535 := by have := hd; simp [Lit.wf] at this; exact this
        unfold NearOk; simp only; omega
      · exact ⟨z102, fun h => absurd h hi⟩
    obtain ⟨N, hN⟩ := Classical.axiomOfChoice hN
    have hg : ∀ j p, ((List.range len).map N)[j]? = some p → j < len ∧ p = N j := by
      intro j p hj
      have hjl := (List.getElem?_eq_some_iff.1 hj).1
      simp at hjl
      rw [List.getElem?_map, List.getElem?_range hjl] at hj
      exact ⟨hjl, by simpa using hj.symm⟩
    refine ⟨(List.range len).map N, by simp, hlc, ⟨rfl, by simpa using hle, fun _ => ⟨_, rfl, fun j p hj => ?_⟩⟩, fun n hn => ?_⟩
    · obtain ⟨hjl, rfl⟩ := hg j p hj
      obtain ⟨hr, _⟩ := hN j hjl
      refine ⟨_, rfl, k102_mk w (N j), fun i u hi => ?_⟩
      have := (hR j hjl).2 i u (by rw [hr]; exact hi)
      rw [add_none, show off + (j * (k102 : Kd S102).sz + i) = off + j * 3 + i from (by show off + (j * 3 + i) = _; omega)]
      exact this
    · obtain ⟨j, hj⟩ := List.mem_iff_getElem?.1 hn
      obtain ⟨hjl, rfl⟩ := hg j n hj
      exact (hN j hjl).2
end Go.Proofs.Ytapagoaoglmegaa
