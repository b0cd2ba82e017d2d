/- ClusterCalm is true of every input: what its printed function comes to. -/
import Derived.Test.YtapagoaoglmegaaClPrunePlain
import Derived.Test.YtapagoaoglmegaaClAwake
import Derived.Test.YtapagoaoglmegaaClField
import Derived.Test.YtapagoaoglmegaaPClx25
namespace Go.Proofs.Ytapagoaoglmegaa
open Go.RowKit Go.Proofs.YtapagoaoglmegaaW.PrintWords Go.Proofs.YtapagoaoglmegaaW.PrintLast Go.Proofs.YtapagoaoglmegaaW.PrintMore PCl
set_option linter.unusedVariables false

/-- A candidate of another jitter. -/
def setJ (j : Int) (c : S27) : S27 := ⟨c.f0, ⟨c.f1.f0, c.f1.f1, c.f1.f2⟩, j⟩
/-- The first i of another jitter. -/
def setTo (j : Int) (F : List S27) (i : Nat) : List S27 := (F.take i).map (setJ j) ++ F.drop i
theorem setTo_len (j : Int) (F : List S27) (i : Nat) : (setTo j F i).length = F.length := by
  unfold setTo; simp; omega
theorem setTo_get {j : Int} {F : List S27} {i : Nat} {c : S27} (h : F[i]? = some c) : (setTo j F i)[i]? = some c := by
  have hi := (List.getElem?_eq_some_iff.1 h).1
  unfold setTo
  rw [List.getElem?_append_right (by simp; omega)]
  simp only [List.length_map, List.length_take, List.getElem?_drop]
  rw [show i + (i - min i F.length) = i by omega]; exact h
theorem setTo_succ {j : Int} {F : List S27} {i : Nat} {c : S27} (h : F[i]? = some c) : (setTo j F i).set i (setJ j c) = setTo j F (i + 1) := by
  have hi := (List.getElem?_eq_some_iff.1 h).1
  unfold setTo
  rw [take_snoc h, List.map_append, List.set_append_right _ _ (by simp; omega)]
  have e : (List.map (setJ j) (F.take i)).length = i := by simp; omega
  rw [e, Nat.sub_self]
  have e2 : F.drop i = c :: F.drop (i + 1) := by
    rw [List.drop_eq_getElem_cons hi]
    have : F[i] = c := (List.getElem?_eq_some_iff.1 h).2
    rw [this]
  rw [e2, List.set_cons_zero]
  simp
theorem setTo_zero (j : Int) (F : List S27) : setTo j F 0 = F := by simp [setTo]
theorem setTo_all (j : Int) (F : List S27) : setTo j F F.length = F.map (setJ j) := by simp [setTo]
theorem setJ_span (j : Int) (c : S27) : (setJ j c).f1 = c.f1 := rfl
theorem rd_map {F : List S27} (j : Int) {i : Nat} (hi : i < F.length) : rd_T27 (F.map (setJ j)) (i : Int) = setJ j (rd_T27 F (i : Int)) := by
  obtain ⟨c, hc⟩ : ∃ c, F[i]? = some c := ⟨_, List.getElem?_eq_getElem hi⟩
  rw [rd_get hc, rd_get (l := F.map (setJ j)) (k := i) (c := setJ j c) (by rw [List.getElem?_map, hc]; rfl)]
/-- A field of another jitter is a field. -/
theorem setJ_fld {F : List S27} (h : Fld F) {j : Int} (hj : Tm j) : Fld (F.map (setJ j)) := by
  refine ⟨by simpa using h.len, fun c hc => ?_, fun c hc => ?_, fun c hc d hd => ?_, fun c hc => ?_, ?_⟩
  · obtain ⟨d, hd, rfl⟩ := List.mem_map.1 hc; exact h.who d hd
  · obtain ⟨d, hd, rfl⟩ := List.mem_map.1 hc; exact h.span d hd
  · obtain ⟨c', hc', rfl⟩ := List.mem_map.1 hc; obtain ⟨d', hd', rfl⟩ := List.mem_map.1 hd; exact h.at_ c' hc' d' hd'
  · obtain ⟨d, hd, rfl⟩ := List.mem_map.1 hc; exact hj
  · rw [List.pairwise_map]; exact h.one
theorem setJ_who {F : List S27} (h : WhoWf F) (j : Int) : WhoWf (F.map (setJ j)) := by
  intro c hc; obtain ⟨d, hd, rfl⟩ := List.mem_map.1 hc; exact h d hd
/-- Each of a law's field meets the hull. -/
theorem field_meets {l : List S102} (hw : ∀ n ∈ l, NearOk n) {c : S27} (hc : c ∈ fieldZ l) : Meets c.f1 ⟨9, 0, 1099511627776⟩ := by
  obtain ⟨i, hi, _, rfl⟩ := fieldZ_mem hc
  obtain ⟨a0, a1, b0, b1, c0, c1⟩ := hw _ (rd102_mem hi)
  refine ⟨?_, ?_, rfl, ?_⟩
  · unfold candOf SpOk Tm MT; simp only; omega
  · unfold SpOk Tm MT; simp only; omega
  · unfold candOf; simp only; omega
theorem keep_field {l : List S102} (hw : ∀ n ∈ l, NearOk n) (j : Int) : ∀ c ∈ (fieldZ l).map (setJ j), keepB ⟨9, 0, 1099511627776⟩ c = true := by
  intro c hc
  obtain ⟨d, hd, rfl⟩ := List.mem_map.1 hc
  unfold keepB
  rw [setJ_span]
  exact decide_eq_true (field_meets hw hd)
theorem hull_ok : SpOk ⟨9, 0, 1099511627776⟩ := by unfold SpOk Tm MT; simp only; omega
theorem prune_ok {l : List S102} (hw : ∀ n ∈ l, NearOk n) (h0 : 0 < (fieldZ l).length) {j : Int} (hj : Tm j) : pruneOk ((fieldZ l).map (setJ j)) ⟨9, 0, 1099511627776⟩ = true := by
  unfold pruneOk
  rw [(mayB_iff _).2 (setJ_fld (fieldZ_fld hw) hj), decide_eq_true hull_ok]
  simp only [Bool.true_and, Bool.or_eq_true]
  right
  have h1 := rd_map (F := fieldZ l) j h0
  rw [show ((0 : Nat) : Int) = 0 from rfl] at h1
  rw [h1]
  obtain ⟨c, hc⟩ : ∃ c, (fieldZ l)[0]? = some c := ⟨_, List.getElem?_eq_getElem h0⟩
  have e := rd_get hc
  rw [show ((0 : Nat) : Int) = 0 from rfl] at e
  rw [e]
  obtain ⟨_, _, rfl⟩ := fieldZ_get hc
  rfl
theorem left_is {l : List S102} (hw : ∀ n ∈ l, NearOk n) (j : Int) : Pruned ((fieldZ l).map (setJ j)) (leftZ ((fieldZ l).map (setJ j)) ⟨9, 0, 1099511627776⟩) := by
  unfold leftZ
  rw [List.filter_eq_self.2 (keep_field hw j)]
  exact pruneGo_is _ _ (Nat.le_refl _)
theorem mid_setJ (j : Int) (l : List S27) (k : Nat) (hk : k < l.length) : dists (l.map (setJ j)) k = dists l k := by
  unfold dists
  rw [rd_map j hk, List.map_map]
  rfl
theorem spread_setJ (j : Int) (l : List S27) (k : Nat) (hk : k < l.length) : spreadZ (l.map (setJ j)) k = spreadZ l k := by
  unfold spreadZ
  rw [mid_setJ j l k hk]; simp
theorem minJ_all {L : List S27} {j : Int} (h0 : 0 < L.length) (h : ∀ c ∈ L, c.f2 = j) : minJ L = j := by
  obtain ⟨d, hd, e⟩ := minJ_mem L h0
  rw [e, h d hd]
/-- Nobody goes from a calm field. -/
theorem calm_all {l : List S102} (hw : ∀ n ∈ l, NearOk n) : leftZ ((fieldZ l).map (setJ 1099511627776)) ⟨9, 0, 1099511627776⟩ = (fieldZ l).map (setJ 1099511627776) := by
  unfold leftZ
  rw [List.filter_eq_self.2 (keep_field hw _)]
  obtain ⟨L, hL⟩ : ∃ L, L = (fieldZ l).map (setJ 1099511627776) := ⟨_, rfl⟩
  rw [← hL]
  refine pruneGo_stop ?_
  rintro ⟨h3, h⟩
  apply h
  have hwl := worstZ_lt (l := L) (by omega)
  have hmin : minJ L = 1099511627776 := minJ_all (by omega) (fun c hc => by rw [hL] at hc; obtain ⟨d, _, rfl⟩ := List.mem_map.1 hc; rfl)
  rw [hmin]
  have hlen : L.length = (fieldZ l).length := by rw [hL]; simp
  have hz := fieldZ_fz hw
  obtain ⟨c, hc⟩ : ∃ c, (fieldZ l)[worstZ L]? = some c := ⟨_, List.getElem?_eq_getElem (by omega)⟩
  obtain ⟨b0, b1, b2⟩ := spread_bounds hc (hz.dsm hc) hz.fld.len
  have e : spreadZ L (worstZ L) = spreadZ (fieldZ l) (worstZ L) := by
    generalize worstZ L = k at *
    rw [hL]; exact spread_setJ _ _ _ (by omega)
  rw [e]
  have hs := (sum_le 4297064447 (by omega) _ (hz.dsm hc)).2
  rw [dists_len'] at hs
  have h16 := hz.fld.len
  generalize spreadZ (fieldZ l) (worstZ L) = s at *
  generalize (dists (fieldZ l) (worstZ L)).sum = S at *
  have e1 : max (((fieldZ l).length : Int) - 1) 1 = ((fieldZ l).length : Int) - 1 := by omega
  rw [e1] at b1
  have : s ≤ s * (((fieldZ l).length : Int) - 1) := by
    have := Int.mul_le_mul_of_nonneg_left (by omega : (1 : Int) ≤ ((fieldZ l).length : Int) - 1) b0
    omega
  omega
theorem calm_l0 {l : List S102} (hw : ∀ n ∈ l, NearOk n) (K : Nat) (R : Option Bool)
    (hR : ((cluster_Prune.f ((fieldZ l).map (setJ 1099511627776)) 9 0 1099511627776).bind fun bt489 => ((cluster_Prune.f ((fieldZ l).map (setJ 0)) 9 0 1099511627776).bind fun bt493 => (if bt489.2 = 0 then (if bt493.2 = 0 then (ephemerislaw23_ClusterCalm.j1 K (fieldZ l) bt493.1 ((bt489.1.length : Int) != ((fieldZ l).length : Int))) else (ephemerislaw23_ClusterCalm.j1 K (fieldZ l) bt493.1 true)) else (ephemerislaw23_ClusterCalm.j1 K (fieldZ l) bt493.1 true)))) = R) :
    ∀ (d i : Nat), i ≤ (fieldZ l).length → (fieldZ l).length - i = d → ephemerislaw23_ClusterCalm.l0 (K + d + 1) (fieldZ l) (setTo 1099511627776 (fieldZ l) i) (setTo 0 (fieldZ l) i) ((fieldZ l).length : Int) (i : Int) 9 0 1099511627776 = R
  | 0, i, hi, hd => by
    obtain rfl : i = (fieldZ l).length := by omega
    rw [setTo_all, setTo_all]
    show ephemerislaw23_ClusterCalm.l0 (K + 1) _ _ _ _ _ _ _ _ = R
    simp only [ephemerislaw23_ClusterCalm.l0]
    rw [if_neg (by omega)]
    exact hR
  | d + 1, i, hi, hd => by
    have hlt : i < (fieldZ l).length := by omega
    have h16 := (fieldZ_fld hw).len
    obtain ⟨c, hc⟩ : ∃ c, (fieldZ l)[i]? = some c := ⟨_, List.getElem?_eq_getElem hlt⟩
    have ih := calm_l0 hw K R hR d (i + 1) (by omega) (by omega)
    rw [show K + (d + 1) + 1 = (K + d + 1) + 1 by omega]
    obtain ⟨m, hm⟩ : ∃ m, m = K + d + 1 := ⟨_, rfl⟩
    rw [← hm] at ih ⊢
    simp only [ephemerislaw23_ClusterCalm.l0]
    rw [if_pos (by omega), if_pos (by omega), if_pos (by rw [setTo_len]; omega), if_pos (by rw [setTo_len]; omega)]
    rw [rd_get (setTo_get (j := 1099511627776) hc), rd_get (setTo_get (j := 0) hc), Int.toNat_natCast]
    have e1 : wrap64 ((i : Int) + 1) = ((i + 1 : Nat) : Int) := (w64 (by omega) (by omega)).trans (by omega)
    rw [e1]
    have s1 := setTo_succ (j := 1099511627776) hc
    have s0 := setTo_succ (j := 0) hc
    unfold setJ at s1 s0
    rw [s1, s0]
    exact ih
theorem calm_l1 {x : List S27} (hF : Fld x) (hw : WhoWf x) (h0 : ∀ i, i < x.length → spreadZ x i = 0) (F : List S27) (hl : 3 ≤ x.length) : ∀ (d i K : Nat), i ≤ x.length → x.length - i = d → 30 ≤ K → ephemerislaw23_ClusterCalm.l1 (K + d + 1) F x (x.length : Int) (i : Int) = some true
  | 0, i, K, hi, hd, hK => by
    obtain rfl : i = x.length := by omega
    show ephemerislaw23_ClusterCalm.l1 (K + 1) _ _ _ _ = _
    simp only [ephemerislaw23_ClusterCalm.l1]
    rw [if_neg (by omega), awake_f K hK]
    simp only [Option.bind_some, if_true]
    rw [decide_eq_true (by unfold mn; split <;> omega)]
  | d + 1, i, K, hi, hd, hK => by
    have hlt : i < x.length := by omega
    have h16 := hF.len
    have ih := calm_l1 hF hw h0 F hl d (i + 1) K (by omega) (by omega) hK
    rw [show K + (d + 1) + 1 = (K + d + 1) + 1 by omega]
    obtain ⟨m, hm⟩ : ∃ m, m = K + d + 1 := ⟨_, rfl⟩
    rw [← hm] at ih ⊢
    simp only [ephemerislaw23_ClusterCalm.l1]
    rw [if_pos (by omega), Spread_f hF hw hlt]
    simp only [Option.bind_some]
    rw [if_pos (h0 i hlt)]
    have e1 : wrap64 ((i : Int) + 1) = ((i + 1 : Nat) : Int) := (w64 (by omega) (by omega)).trans (by omega)
    rw [e1]
    exact ih
theorem clusterCalm_f {l : List S102} (hw : ∀ n ∈ l, NearOk n) (hl : l.length ≤ 9223372036854775807) : ephemerislaw23_ClusterCalm.f 400 l = some true := by
  have hF := fieldZ_fld hw
  have h16 := hF.len
  have hwho := fieldZ_who l
  unfold ephemerislaw23_ClusterCalm.f
  rw [field_f hw hl 400 (by omega)]
  simp only [Option.bind_some]
  by_cases h0 : (fieldZ l).length = 0
  · rw [if_pos (by omega), awake_f 400 (by omega)]
    rfl
  · rw [if_neg (by omega)]
    have hc : cluster_Cand_15.f (fieldZ l) = some (fieldZ l) := by unfold cluster_Cand_15.f; rw [if_pos (by omega)]
    rw [hc]
    simp only [Option.bind_some]
    obtain ⟨y, hy⟩ : ∃ y, y = leftZ ((fieldZ l).map (setJ 0)) ⟨9, 0, 1099511627776⟩ := ⟨_, rfl⟩
    have hP := left_is hw 0
    rw [← hy] at hP
    have hyF : Fld y := (setJ_fld hF (j := 0) (by unfold Tm MT; omega)).sub hP.sub
    have hyW : WhoWf y := (setJ_who hwho 0).sub hP.sub
    have hy0 : ∀ c ∈ y, c.f2 = 0 := fun c hc => by obtain ⟨d, _, rfl⟩ := List.mem_map.1 (hP.sub.subset hc); rfl
    have hlow := hP.low
    simp only [List.length_map] at hlow
    have hyn : y.length ≠ 0 := by omega
    have hfin : ∀ K, 60 ≤ K → ephemerislaw23_ClusterCalm.j1 K (fieldZ l) y false = some true := by
      intro K hK
      obtain ⟨K, rfl⟩ : ∃ m, K = m + 1 := ⟨K - 1, by omega⟩
      simp only [ephemerislaw23_ClusterCalm.j1]
      rw [if_neg (by decide)]
      by_cases h3 : 3 < y.length
      · rw [if_pos (by omega)]
        have hsp : ∀ i, i < y.length → spreadZ y i = 0 := by
          intro i hi
          have h1 := hP.calm h3
          rw [minJ_all (by omega) hy0] at h1
          have h2 := spread_worst hi
          have h4 := spread_nn hyF hi
          omega
        have h16' := hyF.len
        obtain ⟨m, rfl⟩ : ∃ m, K = m + y.length + 1 := ⟨K - y.length - 1, by omega⟩
        exact calm_l1 hyF hyW hsp (fieldZ l) (by omega) y.length 0 m (by omega) (by omega) (by omega)
      · rw [if_neg (by omega), awake_f K (by omega)]
        simp only [Option.bind_some, if_true]
        rw [decide_eq_true (by unfold mn; split <;> omega)]
    obtain ⟨K, hK⟩ : ∃ K, 400 = K + (fieldZ l).length + 1 := ⟨399 - (fieldZ l).length, by omega⟩
    have := calm_l0 hw K (some true) (by
      rw [pruneZ_f (h := ⟨9, 0, 1099511627776⟩) (setJ_who hwho _), pruneZ_f (h := ⟨9, 0, 1099511627776⟩) (setJ_who hwho _)]
      simp only [Option.bind_some]
      have e1 : pruneZ ((fieldZ l).map (setJ 1099511627776)) ⟨9, 0, 1099511627776⟩ = ((fieldZ l).map (setJ 1099511627776), 0) := by
        unfold pruneZ
        rw [if_pos (prune_ok hw (by omega) (by unfold Tm MT; omega)), calm_all hw, if_neg (by simp; exact fun e => h0 (by rw [e]; rfl))]
      have e2 : pruneZ ((fieldZ l).map (setJ 0)) ⟨9, 0, 1099511627776⟩ = (y, 0) := by
        unfold pruneZ
        rw [if_pos (prune_ok hw (by omega) (by unfold Tm MT; omega)), ← hy, if_neg hyn]
      rw [e1, e2]
      simp only [if_true, List.length_map]
      have e3 : (((fieldZ l).length : Int) != ((fieldZ l).length : Int)) = false := by simp
      rw [e3]
      exact hfin K (by omega)) (fieldZ l).length 0 (by omega) (by omega)
    rw [setTo_zero, setTo_zero, ← hK] at this
    exact this
theorem clusterCalm_walk (A : Option Addr) (len cap : Nat) (w : World) (h : RdS [.i .u32, .i .u16, .i .u16] w A len cap) :
    Calls Try.prog 6 #[.slice A len cap] w fun e w' => e = .returned (.bool true) ∧ Fr (fun _ => False) w w' := by
  obtain ⟨l, rfl, hc, hC, hN⟩ := near_open h
  exact (ephemerislaw23_ClusterCalm.calls 400 A cap l true w hC hc (clusterCalm_f hN hC.2.1)).mono fun _ _ q => ⟨q.1, Fr.of_below q.2 (Nat.le_refl _) _⟩
end Go.Proofs.Ytapagoaoglmegaa
