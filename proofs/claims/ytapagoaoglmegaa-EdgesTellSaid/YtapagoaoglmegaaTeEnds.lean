/- The document's Ends. -/
import Derived.Test.YtapagoaoglmegaaTeRank
namespace Go.Proofs.Ytapagoaoglmegaa
open Go.RowKit Go.Proofs.YtapagoaoglmegaaW.PrintWords Go.Proofs.YtapagoaoglmegaaW.PrintLast Go.Proofs.YtapagoaoglmegaaW.PrintMore PCl
set_option linter.unusedVariables false
set_option linter.unusedSimpArgs false
set_option maxRecDepth 100000
def atE (b : Bool) (s : S24) : Int := if b = true then s.f1 else s.f2
/-- How many spans have an end of that rank. -/
def cntE (P : List Int) (r : Nat) (b : Bool) (L : List S24) : Nat := L.countP (fun s => decide (rkE P (atE b s) = r))
def grpE (P : List Int) (L : List S24) : Nat → List (Nat × Bool)
  | 0 => []
  | r + 1 => grpE P L r ++ (List.replicate (cntE P r true L) (r, true) ++ List.replicate (cntE P r false L) (r, false))
theorem cnt_un (P : List Int) (r : Nat) (b : Bool) : ∀ L : List S24, (unE P L).count (r, b) = cntE P r b L
  | [] => rfl
  | s :: L => by
    have ih := cnt_un P r b L
    have e : unE P (s :: L) = (rkE P s.f1, true) :: (rkE P s.f2, false) :: unE P L := by unfold unE; rw [List.flatMap_cons]; rfl
    rw [e, List.count_cons, List.count_cons, ih]
    unfold cntE
    rw [List.countP_cons]
    cases b <;> simp [atE, Prod.ext_iff]
theorem grp_lt (P : List Int) (L : List S24) : ∀ R x, x ∈ grpE P L R → x.1 < R
  | 0, x, h => by simp [grpE] at h
  | R + 1, x, h => by
    unfold grpE at h
    rcases List.mem_append.1 h with h | h
    · have := grp_lt P L R x h; omega
    · rcases List.mem_append.1 h with h | h
      · rw [(List.mem_replicate.1 h).2]; exact Nat.lt_succ_self R
      · rw [(List.mem_replicate.1 h).2]; exact Nat.lt_succ_self R
theorem grp_sorted (P : List Int) (L : List S24) : ∀ R, (grpE P L R).Pairwise (fun a b => leE a b = true)
  | 0 => List.Pairwise.nil
  | R + 1 => by
    unfold grpE
    refine List.pairwise_append.2 ⟨grp_sorted P L R, List.pairwise_append.2 ⟨?_, ?_, ?_⟩, ?_⟩
    · exact List.pairwise_replicate.2 (.inr ((leE_iff _ _).2 (.inr ⟨rfl, .inl rfl⟩)))
    · exact List.pairwise_replicate.2 (.inr ((leE_iff _ _).2 (.inr ⟨rfl, .inr rfl⟩)))
    · intro a ha b hb
      rw [(List.mem_replicate.1 ha).2, (List.mem_replicate.1 hb).2]
      exact (leE_iff _ _).2 (.inr ⟨rfl, .inl rfl⟩)
    · intro a ha b hb
      have h1 := grp_lt P L R a ha
      have h2 : b.1 = R := by
        rcases List.mem_append.1 hb with h | h <;> rw [(List.mem_replicate.1 h).2]
      exact (leE_iff _ _).2 (.inl (by omega))
theorem grp_count (P : List Int) (L : List S24) (r : Nat) (b : Bool) : ∀ R, (grpE P L R).count (r, b) = if r < R then cntE P r b L else 0
  | 0 => rfl
  | R + 1 => by
    unfold grpE
    rw [List.count_append, List.count_append, grp_count P L r b R, List.count_replicate, List.count_replicate]
    by_cases e : r = R
    · subst e
      cases b <;> simp
    · have hq : ¬ R = r := fun q => e q.symm
      by_cases h : r < R
      · have h' : r < R + 1 := by omega
        cases b <;> simp [h, h', hq]
      · have h' : ¬ r < R + 1 := by omega
        cases b <;> simp [h, h', hq]
theorem le_anti (a b : Nat × Bool) (h1 : leE a b = true) (h2 : leE b a = true) : a = b := by
  rw [leE_iff] at h1 h2
  obtain ⟨a1, a2⟩ := a
  obtain ⟨b1, b2⟩ := b
  simp only at h1 h2
  cases a2 <;> cases b2 <;> simp at h1 h2 ⊢ <;> omega
theorem end_grp (L : List S24) : endE L = grpE (posE L) L (2 * L.length) := by
  refine List.Perm.eq_of_pairwise (le := fun a b => leE a b = true) (fun a b _ _ => le_anti a b) (List.pairwise_mergeSort leE_trans leE_total _) (grp_sorted _ _ _) ?_
  refine (end_perm L).trans (List.perm_iff_count.2 fun x => ?_)
  obtain ⟨r, b⟩ := x
  rw [cnt_un, grp_count]
  split
  · rfl
  · rename_i h
    unfold cntE
    rw [List.countP_eq_zero]
    intro s hs
    obtain ⟨p1, p2, p3⟩ := pos_ok L
    have hm : atE b s ∈ posE L := by unfold atE; split; exact (p2 s hs).1; exact (p2 s hs).2
    have h1 := rk_get p1 hm
    have h2 := (List.getElem?_eq_some_iff.1 h1).1
    simp; omega
theorem cnt_snoc {L : List S24} {k : Nat} {s : S24} (h : L[k]? = some s) (P : List Int) (r : Nat) (b : Bool) : cntE P r b (L.take (k + 1)) = cntE P r b (L.take k) + if rkE P (atE b s) = r then 1 else 0 := by
  unfold cntE
  rw [List.take_add_one, h, List.countP_append]
  by_cases c : rkE P (atE b s) = r <;> simp [c]
theorem grp_len (P : List Int) (L : List S24) : ∀ R, (grpE P L R).length ≤ 2 * L.length * R
  | 0 => by simp [grpE]
  | R + 1 => by
    unfold grpE
    have := grp_len P L R
    have h1 : cntE P R true L ≤ L.length := List.countP_le_length
    have h2 : cntE P R false L ≤ L.length := List.countP_le_length
    rw [List.length_append, List.length_append, List.length_replicate, List.length_replicate, Nat.mul_add]
    omega
def vE (x : Nat × Bool) : Value := .complex .f64 (flE (x.1 : Int)) (imE x.2)
theorem rep_snoc (n : Nat) (x : Nat × Bool) : List.replicate (n + 1) x = List.replicate n x ++ [x] := List.replicate_succ'
def finT (x : Nat × Bool) : Fin 64 × Bool := (finE x.1, x.2)
theorem finT_map : ∀ E : List (Nat × Bool), (∀ x ∈ E, x.1 < 64) → (E.map finT).map toN = E ∧ (E.map finT).map encE = E.map vE
  | [], _ => ⟨rfl, rfl⟩
  | x :: E, h => by
    obtain ⟨h1, h2⟩ := finT_map E (fun y hy => h y (List.mem_cons_of_mem _ hy))
    have hx := finE_val (h x List.mem_cons_self)
    rw [List.map_cons, List.map_cons, List.map_cons, List.map_cons, h1, h2]
    refine ⟨?_, ?_⟩
    · unfold toN finT; rw [hx]
    · unfold encE finT vE; rw [hx]
def OwE (B : Nat) (w : World) (v : Value) (E : List (Nat × Bool)) : Prop := w.ownsRow B 74 1 v (E.map vE).length (E.map vE)
theorem OwE.fr {B : Nat} {w w' : World} {v : Value} {E : List (Nat × Bool)} (h : OwE B w v E) (k : Fr (fun _ => False) w w') : OwE B w' v E := own_fr0 h k (fun _ _ h => h)
theorem OwE.env {B : Nat} {w : World} {v : Value} {E : List (Nat × Bool)} (h : OwE B w v E) (hb : ∀ x ∈ E, x.1 < 64) : EnV B w v E := by
  obtain ⟨h1, h2⟩ := finT_map E hb
  unfold OwE at h
  rw [← h2, List.length_map] at h
  have hl : (E.map finT).length = E.length := List.length_map _
  rcases own_cs h with ⟨hv, h0⟩ | ⟨g, cp, hv, h3, h4, h5, h6⟩
  · exact .inl ⟨hv, by simpa using h0⟩
  · exact .inr ⟨g, cp, E.map finT, by rw [hv, hl], h5, h1, h6⟩
set_option maxHeartbeats 8000000 in
theorem rends_at {w : World} {A : Option Addr} {cap : Nat} {L : List S24} (hC : Kd.C k24 w A L.length L) (hc : L.length ≤ cap) (hn : L.length ≤ 20) :
    Calls Try.prog 44 #[.slice A L.length cap] w fun e w' => ∃ v, e = .returned v ∧ EnV w.heap.size w' v (endE L) ∧ Fr (fun _ => False) w w' := by
  obtain ⟨E, hE⟩ : ∃ E, E = endE L := ⟨_, rfl⟩
  rw [← hE]
  obtain ⟨P, hP⟩ : ∃ P, P = posE L := ⟨_, rfl⟩
  have HEE := hidE (show E = grpE P L (2 * L.length) by rw [hE, hP, end_grp])
  have HR : Hid (∀ (W : World) (p : Int), Fr (fun _ => False) w W → Calls Try.prog 78 #[.slice A L.length cap, .int .i64 p] W fun e w' => e = .returned (.int .i64 (rkE P p : Nat)) ∧ Fr (fun _ => False) W w') := hidE (fun W p k => by rw [hP]; exact rrank_at (Kd.C_below hC k.below) hc (by omega) p)
  have HC := hidE hC
  clear hC hE hP
  go_enter Try.func44, Try.ntmps44
  go_wp2_with fail
  go_loopw [3, 4, 5, 6] (fun v3 v4 v5 v6 wr => ∃ r : Nat, r ≤ 2 * L.length ∧ v4 = .int .i64 (r : Int) ∧ OwE w.heap.size wr v3 (grpE P L r) ∧ Fr (fun _ => False) w wr) (fun _ v4 _ _ _ => 2 * L.length - (intOf v4).toNat)
  case atStart => exact ⟨0, Nat.zero_le _, rfl, by simpa [grpE, OwE] using World.ownsRow_nil _ _ _ _, Fr.refl _ _⟩
  case round =>
    obtain ⟨wo, rfl⟩ : ∃ wo : World, wo = wr := ⟨_, rfl⟩
    obtain ⟨r, hr, rfl, hown, hf⟩ := hrel
    have HO := hidE hown
    clear hown
    by_cases hlt : r < 2 * L.length
    · have l0 : (r : Int) < 2 * (L.length : Int) := by omega
      have hG := grp_len P L r
      have hG2 : (grpE P L r).length ≤ 1600 := Nat.le_trans hG (by have := Nat.mul_le_mul (show 2 * L.length ≤ 40 by omega) (show r ≤ 40 by omega); omega)
      obtain ⟨G, hGe⟩ : ∃ G, G = grpE P L r := ⟨_, rfl⟩
      have HG := hidE (show grpE P L (r + 1) = G ++ (List.replicate (cntE P r true L) (r, true) ++ List.replicate (cntE P r false L) (r, false)) by rw [hGe]; rfl)
      rw [← hGe] at HO hG2
      clear hG hGe
      go_wp2_with fail
      go_loopw [3, 5] (fun v3 vi wr => ∃ k : Nat, k ≤ L.length ∧ vi = .int .i64 (k : Int) ∧ OwE w.heap.size wr v3 (G ++ List.replicate (cntE P r true (L.take k)) (r, true)) ∧ Fr (fun _ => False) w wr) (fun _ vi _ => L.length - (intOf vi).toNat)
      case atStart => exact ⟨0, Nat.zero_le _, rfl, by simpa [cntE] using HO.out, by assumption⟩
      case round =>
        obtain ⟨wq, rfl⟩ : ∃ wq : World, wq = wr := ⟨_, rfl⟩
        clear HO hf
        obtain ⟨k, hk, rfl, hown, hf⟩ := hrel
        have HO := hidE hown
        clear hown
        by_cases hkl : k < L.length
        · obtain ⟨rb, off, rfl, hrb, hat⟩ := C24_open HC.out (by omega)
          obtain ⟨s, hs⟩ : ∃ s, L[k]? = some s := ⟨_, List.getElem?_eq_getElem hkl⟩
          obtain ⟨c0, c1, c2⟩ := (hat k s hs).fr hf (fun h => h)
          have l1 : (k : Int) < (L.length : Int) := by omega
          have hcl : cntE P r true (L.take k) ≤ 20 := Nat.le_trans List.countP_le_length (by rw [List.length_take]; omega)
          have HS := hidE (cnt_snoc hs P r true)
          obtain ⟨n, hne⟩ : ∃ n, n = cntE P r true (L.take k) := ⟨_, rfl⟩
          rw [← hne] at HO hcl HS
          have HK := hidE (HR.out wq s.f1 hf)
          obtain ⟨q, hq⟩ : ∃ q, q = rkE P s.f1 := ⟨_, rfl⟩
          have HS' : Hid (cntE P r true (L.take (k + 1)) = n + if q = r then 1 else 0) := hidE (by rw [HS.out, hq]; rfl)
          rw [← hq] at HK
          clear hat hs hne hq HS
          go_wp2_with fail
          refine HK.out.mono ?_
          rintro e w2 ⟨rfl, k2⟩
          clear HK
          have f2 := hf.trans k2 (fun _ _ h => h)
          have HO2 := hidE (HO.out.fr k2)
          have hsz := f2.size
          clear hf k2 HO c0 c1 c2
          by_cases hqr : q = r
          · subst hqr
            have hnx : Hid (cntE P q true (L.take (k + 1)) = n + 1) := hidE (by rw [HS'.out, if_pos rfl])
            clear HS'
            have lN : Lst (w2.alloc (.cells #[.complex .f64 (flE (q : Int)) 4607182418800017408] 74)) 74 (.slice (some ⟨w2.heap.size, 0, none⟩) 1 1) [.complex .f64 (flE (q : Int)) 4607182418800017408] := Lst.new w2 74 [.complex .f64 (flE (q : Int)) 4607182418800017408] (by simp) (by simp [maxLen])
            have o2 := HO2.out
            unfold OwE at o2
            replace o2 := o2.alloc (.cells #[.complex .f64 (flE (q : Int)) 4607182418800017408] 74)
            have s2 : w.heap.size ≤ (w2.alloc (.cells #[.complex .f64 (flE (q : Int)) 4607182418800017408] 74)).heap.size := by simp; omega
            have hxl : ((G ++ List.replicate n (q, true)).map vE).length ≤ 1640 := by rw [List.length_map, List.length_append, List.length_replicate]; omega
            have hX1 := hidE (show (G ++ List.replicate (n + 1) (q, true)).map vE = (G ++ List.replicate n (q, true)).map vE ++ [.complex .f64 (flE (q : Int)) 4607182418800017408] by rw [rep_snoc, ← List.append_assoc, List.map_append]; rfl)
            obtain ⟨xs, hxs⟩ : ∃ xs, xs = (G ++ List.replicate n (q, true)).map vE := ⟨_, rfl⟩
            rw [← hxs] at o2 hxl hX1
            clear hxs HO2
            go_wp2_with (at_builtin; refine wpList_append_lst rfl _ _ 72 rfl w.heap.size 74 (.complex .f64 0 0) 16 Try.underlying72 infoC rfl _ _ _ [.complex .f64 (flE (q : Int)) 4607182418800017408] rfl rfl o2 lN (by simp [Value.oneCell']) (by simp [maxLen]; omega) (by simp; omega) s2 ?_)
            intro v' w3 o3 g3 b3
            have f3 : Fr (fun _ => False) w w3 := Fr.grown (f2.alloc _) g3 (fun j hj => .inl (o2.lt j hj).1)
            clear o2 lN s2
            go_wp2
            go_roundw
            case rel => exact ⟨k + 1, by omega, by go_num, by rw [hnx.out]; unfold OwE; rw [hX1.out]; simpa using o3, f3⟩
            case measure => simp [intOf]; omega
          · have hne1 : ¬ (q : Int) = (r : Int) := by omega
            have hnx : Hid (cntE P r true (L.take (k + 1)) = n) := hidE (by rw [HS'.out, if_neg hqr]; rfl)
            clear HS' hqr
            go_wp2
            go_roundw
            case rel => exact ⟨k + 1, by omega, by go_num, by rw [hnx.out]; exact HO2.out, f2⟩
            case measure => simp [intOf]; omega
        · obtain rfl : k = L.length := by omega
          rw [List.take_length] at HO
          clear hkl
          obtain ⟨G1, hG1⟩ : ∃ G1, G1 = G ++ List.replicate (cntE P r true L) (r, true) := ⟨_, rfl⟩
          have hcl : cntE P r true L ≤ 20 := Nat.le_trans List.countP_le_length (by omega)
          have hG2' : G1.length ≤ 1620 := by rw [hG1, List.length_append, List.length_replicate]; omega
          have HG' := hidE (show grpE P L (r + 1) = G1 ++ List.replicate (cntE P r false L) (r, false) by rw [HG.out, hG1, List.append_assoc])
          rw [← hG1] at HO
          clear hG1 hcl HG hG2
          go_wp2_with fail
          go_loopw [3, 6] (fun v3 vi wr => ∃ k : Nat, k ≤ L.length ∧ vi = .int .i64 (k : Int) ∧ OwE w.heap.size wr v3 (G1 ++ List.replicate (cntE P r false (L.take k)) (r, false)) ∧ Fr (fun _ => False) w wr) (fun _ vi _ => L.length - (intOf vi).toNat)
          case atStart => exact ⟨0, Nat.zero_le _, rfl, by simpa [cntE] using HO.out, by assumption⟩
          case round =>
            obtain ⟨wq, rfl⟩ : ∃ wq : World, wq = wr := ⟨_, rfl⟩
            clear HO hf
            obtain ⟨k, hk, rfl, hown, hf⟩ := hrel
            have HO := hidE hown
            clear hown
            by_cases hkl : k < L.length
            · obtain ⟨rb, off, rfl, hrb, hat⟩ := C24_open HC.out (by omega)
              obtain ⟨s, hs⟩ : ∃ s, L[k]? = some s := ⟨_, List.getElem?_eq_getElem hkl⟩
              obtain ⟨c0, c1, c2⟩ := (hat k s hs).fr hf (fun h => h)
              have l1 : (k : Int) < (L.length : Int) := by omega
              have hcl : cntE P r false (L.take k) ≤ 20 := Nat.le_trans List.countP_le_length (by rw [List.length_take]; omega)
              have HS := hidE (cnt_snoc hs P r false)
              obtain ⟨n, hne⟩ : ∃ n, n = cntE P r false (L.take k) := ⟨_, rfl⟩
              rw [← hne] at HO hcl HS
              have HK := hidE (HR.out wq s.f2 hf)
              obtain ⟨q, hq⟩ : ∃ q, q = rkE P s.f2 := ⟨_, rfl⟩
              have HS' : Hid (cntE P r false (L.take (k + 1)) = n + if q = r then 1 else 0) := hidE (by rw [HS.out, hq]; rfl)
              rw [← hq] at HK
              clear hat hs hne hq HS
              go_wp2_with fail
              refine HK.out.mono ?_
              rintro e w2 ⟨rfl, k2⟩
              clear HK
              have f2 := hf.trans k2 (fun _ _ h => h)
              have HO2 := hidE (HO.out.fr k2)
              have hsz := f2.size
              clear hf k2 HO c0 c1 c2
              by_cases hqr : q = r
              · subst hqr
                have hnx : Hid (cntE P q false (L.take (k + 1)) = n + 1) := hidE (by rw [HS'.out, if_pos rfl])
                clear HS'
                have lN : Lst (w2.alloc (.cells #[.complex .f64 (flE (q : Int)) 13830554455654793216] 74)) 74 (.slice (some ⟨w2.heap.size, 0, none⟩) 1 1) [.complex .f64 (flE (q : Int)) 13830554455654793216] := Lst.new w2 74 [.complex .f64 (flE (q : Int)) 13830554455654793216] (by simp) (by simp [maxLen])
                have o2 := HO2.out
                unfold OwE at o2
                replace o2 := o2.alloc (.cells #[.complex .f64 (flE (q : Int)) 13830554455654793216] 74)
                have s2 : w.heap.size ≤ (w2.alloc (.cells #[.complex .f64 (flE (q : Int)) 13830554455654793216] 74)).heap.size := by simp; omega
                have hxl : ((G1 ++ List.replicate n (q, false)).map vE).length ≤ 1640 := by rw [List.length_map, List.length_append, List.length_replicate]; omega
                have hX1 := hidE (show (G1 ++ List.replicate (n + 1) (q, false)).map vE = (G1 ++ List.replicate n (q, false)).map vE ++ [.complex .f64 (flE (q : Int)) 13830554455654793216] by rw [rep_snoc, ← List.append_assoc, List.map_append]; rfl)
                obtain ⟨xs, hxs⟩ : ∃ xs, xs = (G1 ++ List.replicate n (q, false)).map vE := ⟨_, rfl⟩
                rw [← hxs] at o2 hxl hX1
                clear hxs HO2
                go_wp2_with (at_builtin; refine wpList_append_lst rfl _ _ 72 rfl w.heap.size 74 (.complex .f64 0 0) 16 Try.underlying72 infoC rfl _ _ _ [.complex .f64 (flE (q : Int)) 13830554455654793216] rfl rfl o2 lN (by simp [Value.oneCell']) (by simp [maxLen]; omega) (by simp; omega) s2 ?_)
                intro v' w3 o3 g3 b3
                have f3 : Fr (fun _ => False) w w3 := Fr.grown (f2.alloc _) g3 (fun j hj => .inl (o2.lt j hj).1)
                clear o2 lN s2
                go_wp2
                go_roundw
                case rel => exact ⟨k + 1, by omega, by go_num, by rw [hnx.out]; unfold OwE; rw [hX1.out]; simpa using o3, f3⟩
                case measure => simp [intOf]; omega
              · have hne1 : ¬ (q : Int) = (r : Int) := by omega
                have hnx : Hid (cntE P r false (L.take (k + 1)) = n) := hidE (by rw [HS'.out, if_neg hqr]; rfl)
                clear HS' hqr
                go_wp2
                go_roundw
                case rel => exact ⟨k + 1, by omega, by go_num, by rw [hnx.out]; exact HO2.out, f2⟩
                case measure => simp [intOf]; omega
            · obtain rfl : k = L.length := by omega
              rw [List.take_length] at HO
              clear hkl
              go_wp2
              go_roundw
              case rel => exact ⟨r + 1, by omega, by go_num, by rw [HG'.out]; exact HO.out, hf⟩
              case measure => simp [intOf]; omega
    · obtain rfl : r = 2 * L.length := by omega
      have HV := hidE (HO.out.env (fun x hx => by have := grp_lt P L _ x hx; omega))
      rw [← HEE.out] at HV
      clear hlt HO
      go_wp2_with fail
      go_ret
      exact ⟨_, rfl, HV.out, hf⟩
end Go.Proofs.Ytapagoaoglmegaa
