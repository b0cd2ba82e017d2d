/- ClusterSpreads is true of every input: what its printed function comes to. -/
import Derived.Test.YtapagoaoglmegaaClField
import Derived.Test.YtapagoaoglmegaaClAwake
import Derived.Test.YtapagoaoglmegaaPClx24
namespace Go.Proofs.Ytapagoaoglmegaa
open Go.RowKit Go.Proofs.YtapagoaoglmegaaW.PrintWords Go.Proofs.YtapagoaoglmegaaW.PrintLast Go.Proofs.YtapagoaoglmegaaW.PrintMore PCl
set_option linter.unusedVariables false

theorem mx_dist (a b : Int) (ha : -4611686018427387904 ≤ a - b) (hb : a - b ≤ 4611686018427387904) : mx (wrap64 (a - b)) (wrap64 (-(wrap64 (a - b)))) = dist a b := by
  have e1 : wrap64 (a - b) = a - b := by unfold wrap64; omega
  rw [e1]
  have e2 : wrap64 (-(a - b)) = -(a - b) := by unfold wrap64; omega
  rw [e2]
  unfold mx dist
  split <;> split <;> omega
theorem mid_candOf (i : Nat) (n : S102) : midZ (candOf i n).f1 = n.f0 + 1048576 := by
  unfold midZ candOf; simp only; omega
theorem dist_sym (a b : Int) : dist a b = dist b a := by unfold dist; split <;> split <;> omega
theorem field_mid {l : List S102} (hw : ∀ n ∈ l, NearOk n) {i : Nat} {c : S27} (h : (fieldZ l)[i]? = some c) : 0 ≤ midZ c.f1 ∧ midZ c.f1 ≤ 4297064447 := by
  obtain ⟨hi, _, rfl⟩ := fieldZ_get h
  obtain ⟨a0, a1, _⟩ := hw _ (rd102_mem hi)
  rw [mid_candOf]; omega
theorem dists_small {l : List S102} (hw : ∀ n ∈ l, NearOk n) {i : Nat} {c : S27} (h : (fieldZ l)[i]? = some c) : ∀ x ∈ dists (fieldZ l) i, 0 ≤ x ∧ x ≤ 4297064447 := by
  intro x hx
  obtain ⟨d, hd, rfl⟩ := List.mem_map.1 hx
  obtain ⟨j, hj⟩ := List.mem_iff_getElem?.1 hd
  have h1 := field_mid hw h
  have h2 := field_mid hw hj
  rw [rd_get h]
  unfold dist; split <;> omega
theorem dists_get' {l : List S27} {i j : Nat} {c d : S27} (hj : l[j]? = some d) (hi : l[i]? = some c) : (dists l i)[j]? = some (dist (midZ d.f1) (midZ c.f1)) := by
  unfold dists; rw [List.getElem?_map, hj, rd_get hi]; rfl
theorem dists_len' (l : List S27) (i : Nat) : (dists l i).length = l.length := by unfold dists; simp
theorem sum_snoc (l : List Int) (x : Int) : (l ++ [x]).sum = l.sum + x := by simp [List.sum_append]
theorem spread_bounds {l : List S27} {i : Nat} {c : S27} (h : l[i]? = some c) (hnn : ∀ x ∈ dists l i, 0 ≤ x ∧ x ≤ 4297064447) (hl : l.length ≤ 16) :
    0 ≤ spreadZ l i ∧ spreadZ l i * max ((l.length : Int) - 1) 1 ≤ (dists l i).sum ∧ (dists l i).sum - spreadZ l i * max ((l.length : Int) - 1) 1 < max ((l.length : Int) - 1) 1 := by
  have hi := (List.getElem?_eq_some_iff.1 h).1
  have hs := sum_le 4297064447 (by omega) _ hnn
  by_cases h2 : l.length < 2
  · obtain ⟨d, rfl⟩ : ∃ d, l = [d] := List.length_eq_one_iff.1 (by omega)
    have e0 : i = 0 := by simp at hi; omega
    subst e0
    simp at h; subst h
    have e : (dists [d] 0).sum = 0 := by
      unfold dists; simp [rd_T27, dist]
    rw [e]
    have e2 : spreadZ [d] 0 = 0 := rfl
    rw [e2]
    show (0 : Int) ≤ 0 ∧ (0 : Int) * _ ≤ 0 ∧ (0 : Int) - 0 * _ < max ((([d].length : Nat) : Int) - 1) 1
    simp only [List.length_cons, List.length_nil, Int.zero_mul]
    omega
  · have e1 : max ((l.length : Int) - 1) 1 = (l.length : Int) - 1 := by omega
    have e2 : spreadZ l i = (dists l i).sum / ((l.length : Int) - 1) := by unfold spreadZ; rw [if_neg h2]
    rw [e1, e2]
    have p : 0 < (l.length : Int) - 1 := by omega
    have q := Int.emod_add_mul_ediv (dists l i).sum ((l.length : Int) - 1)
    have r0 := Int.emod_nonneg (dists l i).sum (by omega : (l.length : Int) - 1 ≠ 0)
    have r1 := Int.emod_lt_of_pos (dists l i).sum p
    rw [Int.mul_comm ((l.length : Int) - 1)] at q
    exact ⟨Int.ediv_nonneg hs.1 (by omega), by omega, by omega⟩
theorem spr_two {F : List S27} (h : F.length = 2) : spreadZ F 0 = spreadZ F 1 := by
  match F, h with
  | [a, b], _ => unfold spreadZ dists; simp [rd_T27, dist_sym (midZ b.f1) (midZ a.f1)]; unfold dist; simp
theorem w64 {x : Int} (h0 : -4611686018427387904 ≤ x) (h1 : x ≤ 4611686018427387904) : wrap64 x = x := by unfold wrap64; omega
theorem tie {s sw i w : Int} (h : ¬ (sw < s ∨ (s = sw ∧ w < i))) : ¬ s > sw ∧ (s = sw → ¬ i > w) := by omega
theorem two_no {so S o : Int} (h1 : so ≤ S) (h2 : S - so < o) : ¬ so > S ∧ ¬ S - so ≥ o := by omega
/-- A field as the law makes it. -/
structure Fz (F : List S27) : Prop where
  fld : Fld F
  who : WhoWf F
  mid : ∀ c ∈ F, 0 ≤ midZ c.f1 ∧ midZ c.f1 ≤ 4297064447
  no : ∀ (i : Nat) c, F[i]? = some c → c.f0 = i
theorem Fz.dsm {F : List S27} (h : Fz F) {i : Nat} {c : S27} (hc : F[i]? = some c) : ∀ x ∈ dists F i, 0 ≤ x ∧ x ≤ 4297064447 := by
  intro x hx
  obtain ⟨d, hd, rfl⟩ := List.mem_map.1 hx
  have h1 := h.mid c (List.mem_of_getElem? hc)
  have h2 := h.mid d hd
  rw [rd_get hc]
  unfold dist; split <;> omega
theorem fieldZ_fz {l : List S102} (hw : ∀ n ∈ l, NearOk n) : Fz (fieldZ l) :=
  ⟨fieldZ_fld hw, fieldZ_who l, fun c hc => by obtain ⟨i, hi⟩ := List.mem_iff_getElem?.1 hc; exact field_mid hw hi, fun i c h => by obtain ⟨_, _, rfl⟩ := fieldZ_get h; rfl⟩
section
variable {F : List S27} (hz : Fz F)
include hz
set_option maxHeartbeats 4000000
theorem spr_l1_base {i : Nat} {c : S27} (hc : F[i]? = some c) (k : Nat) (hk : 5 ≤ k) :
    ephemerislaw23_ClusterSpreads.l1 (k + 1) F (worstZ F : Int) (i : Int) (((dists F i).take F.length).sum) F (F.length : Int) (i : Int) F (F.length : Int) (F.length : Int) c.f0 c.f1.f0 c.f1.f1 c.f1.f2 c.f2
      = ephemerislaw23_ClusterSpreads.l0 k F (worstZ F : Int) F (F.length : Int) ((i + 1 : Nat) : Int) := by
  have hF := hz.fld
  have hwf := hz.who
  have hi := (List.getElem?_eq_some_iff.1 hc).1
  have h16 := hF.len
  have hwz := worstZ_lt (l := F) (by omega)
  have ht : (dists F i).take F.length = dists F i := List.take_of_length_le (by rw [dists_len']; omega)
  rw [ht]
  have hds := hz.dsm hc
  obtain ⟨b0, b1, b2⟩ := spread_bounds hc hds h16
  have hs := sum_le 4297064447 (by omega) _ hds
  rw [dists_len'] at hs
  have hmax := worst_max F _ (Nat.le_refl _) i hi
  have hmax2 : ¬ Worse F i (worstZ F) := hmax
  unfold Worse at hmax2
  have f1 : (rd_T27 F (i : Int)).f0 = i := by rw [rd_get hc]; exact hz.no i c hc
  obtain ⟨cw, hcw⟩ : ∃ cw, F[worstZ F]? = some cw := ⟨_, List.getElem?_eq_getElem hwz⟩
  have f2 : (rd_T27 F (worstZ F : Int)).f0 = worstZ F := by rw [rd_get hcw]; exact hz.no _ _ hcw
  rw [f1, f2] at hmax2
  simp only [ephemerislaw23_ClusterSpreads.l1]
  rw [if_neg (by omega), Spread_f hF hwf hi, Spread_f hF hwf hwz]
  simp only [Option.bind_some]
  have e1 : mx (wrap64 ((F.length : Int) - 1)) 1 = max ((F.length : Int) - 1) 1 := by
    rw [w64 (x := (F.length : Int) - 1) (by omega) (by omega)]; unfold mx; split <;> omega
  rw [e1]
  generalize max ((F.length : Int) - 1) 1 = o at *
  generalize (dists F i).sum = S at *
  generalize hsp : spreadZ F i = s at *
  generalize spreadZ F (worstZ F) = sw at *
  have hS : S ≤ 16 * 4297064447 := by omega
  generalize hso : s * o = so at *
  have e3 : wrap64 ((i : Int) + 1) = ((i + 1 : Nat) : Int) := (w64 (by omega) (by omega)).trans (by omega)
  have hso0 : 0 ≤ so := by rw [← hso]; exact Int.mul_nonneg b0 (by omega)
  clear hmax hso hs hds ht
  have e2 : wrap64 so = so := w64 (by omega) (by omega)
  have e4 : wrap64 (S - so) = S - so := w64 (by omega) (by omega)
  obtain ⟨t1, t2⟩ := tie hmax2
  obtain ⟨t3, t4⟩ := two_no b1 b2
  rw [e2, e3, e4, if_neg t3, if_neg t4, if_neg t1]
  by_cases h : s = sw
  · rw [if_pos h, if_neg (t2 h)]
  · rw [if_neg h]
theorem spr_l1_step {i : Nat} {c : S27} (hc : F[i]? = some c) (d j k : Nat) (hj : j ≤ F.length) (hd : F.length - j = d + 1) (hk : 5 ≤ k)
    (ih : ephemerislaw23_ClusterSpreads.l1 (k + d + 1) F (worstZ F : Int) (i : Int) (((dists F i).take (j + 1)).sum) F (F.length : Int) (i : Int) F (F.length : Int) ((j + 1 : Nat) : Int) c.f0 c.f1.f0 c.f1.f1 c.f1.f2 c.f2
      = ephemerislaw23_ClusterSpreads.l0 k F (worstZ F : Int) F (F.length : Int) ((i + 1 : Nat) : Int)) :
    ephemerislaw23_ClusterSpreads.l1 (k + (d + 1) + 1) F (worstZ F : Int) (i : Int) (((dists F i).take j).sum) F (F.length : Int) (i : Int) F (F.length : Int) (j : Int) c.f0 c.f1.f0 c.f1.f1 c.f1.f2 c.f2
      = ephemerislaw23_ClusterSpreads.l0 k F (worstZ F : Int) F (F.length : Int) ((i + 1 : Nat) : Int) := by
  have hF := hz.fld
  have hlt : j < F.length := by omega
  obtain ⟨e, he⟩ : ∃ e, F[j]? = some e := ⟨_, List.getElem?_eq_getElem hlt⟩
  have h16 := hF.len
  rw [show k + (d + 1) + 1 = (k + d + 1) + 1 by omega]
  obtain ⟨m, hm⟩ : ∃ m, m = k + d + 1 := ⟨_, rfl⟩
  rw [← hm] at ih ⊢
  simp only [ephemerislaw23_ClusterSpreads.l1]
  rw [if_pos (by omega), if_pos (by omega), if_pos (by omega), rd_get he]
  have hse := hF.span e (List.mem_of_getElem? he)
  have hsc := hF.span c (List.mem_of_getElem? hc)
  rw [mid_f _ _ _ _ (by omega) hse, mid_f _ _ _ _ (by omega) hsc]
  simp only [Option.bind_some]
  have m1 := hz.mid e (List.mem_of_getElem? he)
  have m2 := hz.mid c (List.mem_of_getElem? hc)
  rw [show midZ ⟨e.f1.f0, e.f1.f1, e.f1.f2⟩ = midZ e.f1 from rfl, show midZ ⟨c.f1.f0, c.f1.f1, c.f1.f2⟩ = midZ c.f1 from rfl, mx_dist _ _ (by omega) (by omega)]
  have e1 : wrap64 ((j : Int) + 1) = ((j + 1 : Nat) : Int) := (w64 (by omega) (by omega)).trans (by omega)
  have hg := dists_get' he hc
  have e2 : ((dists F i).take (j + 1)).sum = ((dists F i).take j).sum + dist (midZ e.f1) (midZ c.f1) := by
    rw [take_snoc hg, sum_snoc]
  have hb := sum_le 4297064447 (by omega) ((dists F i).take (j + 1)) (fun x hx => hz.dsm hc x (List.mem_of_mem_take hx))
  have hlen : ((dists F i).take (j + 1)).length ≤ 16 := by rw [List.length_take, dists_len']; omega
  have e3 : wrap64 (((dists F i).take j).sum + dist (midZ e.f1) (midZ c.f1)) = ((dists F i).take (j + 1)).sum := by
    rw [← e2]; exact w64 (by omega) (by omega)
  rw [e1, e3]
  exact ih
theorem spr_l1 {i : Nat} {c : S27} (hc : F[i]? = some c) (d j k : Nat) (hj : j ≤ F.length) (hd : F.length - j = d) (hk : 5 ≤ k) :
    ephemerislaw23_ClusterSpreads.l1 (k + d + 1) F (worstZ F : Int) (i : Int) (((dists F i).take j).sum) F (F.length : Int) (i : Int) F (F.length : Int) (j : Int) c.f0 c.f1.f0 c.f1.f1 c.f1.f2 c.f2
      = ephemerislaw23_ClusterSpreads.l0 k F (worstZ F : Int) F (F.length : Int) ((i + 1 : Nat) : Int) := by
  induction d generalizing j with
  | zero =>
    obtain rfl : j = F.length := by omega
    exact spr_l1_base hz hc k hk
  | succ d ih => exact spr_l1_step hz hc d j k hj hd hk (ih (j + 1) (by omega) (by omega))
theorem spr_l0 (d i k : Nat) (hi : i ≤ F.length) (hd : F.length - i = d) (hk : 40 ≤ k) :
    ephemerislaw23_ClusterSpreads.l0 (k + d * (F.length + 2) + 1) F (worstZ F : Int) F (F.length : Int) (i : Int) = some true := by
  induction d generalizing i with
  | zero =>
    have hF := hz.fld
    have hwf := hz.who
    obtain rfl : i = F.length := by omega
    rw [Nat.zero_mul, Nat.add_zero]
    simp only [ephemerislaw23_ClusterSpreads.l0]
    rw [if_neg (by omega), awake_f k (by omega)]
    simp only [Option.bind_some]
    by_cases h2 : F.length = 2
    · rw [if_pos (by omega), show (0 : Int) = ((0 : Nat) : Int) from rfl, show (1 : Int) = ((1 : Nat) : Int) from rfl, Spread_f hF hwf (by omega), Spread_f hF hwf (by omega)]
      simp only [Option.bind_some]
      rw [if_pos (spr_two h2)]
    · rw [if_neg (by omega)]
  | succ d ih =>
    have hlt : i < F.length := by omega
    obtain ⟨c, hc⟩ : ∃ c, F[i]? = some c := ⟨_, List.getElem?_eq_getElem hlt⟩
    have ih := ih (i + 1) (by omega) (by omega)
    have e : k + (d + 1) * (F.length + 2) + 1 = ((k + d * (F.length + 2) + 1) + F.length + 1) + 1 := by
      rw [Nat.succ_mul]; omega
    rw [e]
    have hl1 := spr_l1 hz hc F.length 0 (k + d * (F.length + 2) + 1) (by omega) (by omega) (by omega)
    rw [ih] at hl1
    simp only [List.take_zero, List.sum_nil] at hl1
    obtain ⟨m, hm⟩ : ∃ m, m = k + d * (F.length + 2) + 1 + F.length + 1 := ⟨_, rfl⟩
    rw [← hm] at hl1 ⊢
    simp only [ephemerislaw23_ClusterSpreads.l0]
    rw [if_pos (by omega), if_pos (by omega), if_pos (by omega), rd_get hc]
    exact hl1
end
theorem clusterSpreads_f {l : List S102} (hw : ∀ n ∈ l, NearOk n) (hl : l.length ≤ 9223372036854775807) : ephemerislaw23_ClusterSpreads.f 400 l = some true := by
  have hF := fieldZ_fld hw
  have h16 := hF.len
  unfold ephemerislaw23_ClusterSpreads.f
  rw [field_f hw hl 400 (by omega)]
  simp only [Option.bind_some]
  rw [Worst_f hF (fieldZ_who l) 400 (by omega)]
  simp only [Option.bind_some]
  by_cases h0 : (fieldZ l).length = 0
  · rw [if_pos h0]
    have e : (decide (((fieldZ l).length : Int) > 0)) = false := decide_eq_false (by omega)
    show (if (false != decide (((fieldZ l).length : Int) > 0)) = true then _ else _) = _
    rw [e, if_neg (by decide)]
    have hn : fieldZ l = [] := List.eq_nil_of_length_eq_zero h0
    rw [hn]
    simp only [ephemerislaw23_ClusterSpreads.l0]
    rw [if_neg (by decide), if_neg (by decide), awake_f 399 (by omega)]
    rfl
  · rw [if_neg h0]
    have e : (decide (((fieldZ l).length : Int) > 0)) = true := decide_eq_true (by omega)
    show (if (true != decide (((fieldZ l).length : Int) > 0)) = true then _ else _) = _
    rw [e, if_neg (by decide)]
    have hm : (fieldZ l).length * ((fieldZ l).length + 2) ≤ 16 * 18 := Nat.mul_le_mul h16 (by omega)
    obtain ⟨k, hk⟩ : ∃ k, 400 = k + (fieldZ l).length * ((fieldZ l).length + 2) + 1 := ⟨399 - (fieldZ l).length * ((fieldZ l).length + 2), by omega⟩
    rw [hk]
    exact spr_l0 (fieldZ_fz hw) (fieldZ l).length 0 k (by omega) (by omega) (by omega)
end Go.Proofs.Ytapagoaoglmegaa
