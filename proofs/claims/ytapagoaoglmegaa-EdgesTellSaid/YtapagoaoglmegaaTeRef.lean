/- The document's Depth, Inside and rank. -/
import Derived.Test.YtapagoaoglmegaaEdInside
import Derived.Test.YtapagoaoglmegaaEdRank
namespace Go.Proofs.Ytapagoaoglmegaa
open Go.RowKit Go.Proofs.YtapagoaoglmegaaW.PrintWords Go.Proofs.YtapagoaoglmegaaW.PrintLast Go.Proofs.YtapagoaoglmegaaW.PrintMore PCl
set_option linter.unusedVariables false
set_option linter.unusedSimpArgs false
set_option maxRecDepth 100000
theorem dep_snoc {L : List S24} {k : Nat} {s : S24} (h : L[k]? = some s) (p : Int) : depE (L.take (k + 1)) p = depE (L.take k) p + if s.f1 ≤ p ∧ p ≤ s.f2 then 1 else 0 := by
  unfold depE
  rw [List.take_add_one, h, List.countP_append]
  by_cases c : s.f1 ≤ p ∧ p ≤ s.f2
  · simp [c.1, c.2]
  · rw [if_neg c]
    by_cases c1 : s.f1 ≤ p
    · have c2 : ¬ p ≤ s.f2 := fun e => c ⟨c1, e⟩
      simp [c1, c2]
    · simp [c1]
set_option maxHeartbeats 4000000 in
theorem rdepth_at {w : World} {A : Option Addr} {cap : Nat} {L : List S24} (hC : Kd.C k24 w A L.length L) (hc : L.length ≤ cap) (hn : L.length ≤ 100) (p : Int) :
    Calls Try.prog 47 #[.slice A L.length cap, .int .i64 p] w fun e w' => e = .returned (.int .i64 (depE L p : Nat)) ∧ Fr (fun _ => False) w w' := by
  have HC := hidE hC
  clear hC
  obtain ⟨R, hR⟩ : ∃ R, R = depE L p := ⟨_, rfl⟩
  rw [← hR]
  have HR := hidE hR
  clear hR
  go_enter Try.func47, Try.ntmps47
  go_wp2
  go_loop [5, 6] (fun v5 v6 => ∃ (k c : Nat), k ≤ L.length ∧ c ≤ k ∧ v5 = .int .i64 (c : Int) ∧ v6 = .int .i64 (k : Int) ∧ Hid (c = depE (L.take k) p)) (fun _ v6 => L.length - (intOf v6).toNat)
  case atStart => exact ⟨0, 0, Nat.zero_le _, Nat.le_refl _, rfl, rfl, hidE (by simp [depE])⟩
  case round =>
    obtain ⟨k, c, hk, hck, rfl, rfl, hcc⟩ := hrel
    by_cases hlt : k < L.length
    · obtain ⟨r, off, rfl, hr, hat⟩ := C24_open HC.out (by omega)
      obtain ⟨s, hs⟩ : ∃ s, L[k]? = some s := ⟨_, List.getElem?_eq_getElem hlt⟩
      obtain ⟨c0, c1, c2⟩ := hat k s hs
      have HS := hidE (dep_snoc hs p)
      have l1 : (k : Int) < (L.length : Int) := by omega
      clear hat hs
      by_cases h1 : s.f1 ≤ p
      · have t1 : decide (p ≥ s.f1) = true := decide_eq_true h1
        by_cases h2 : p ≤ s.f2
        · have t2 : decide (p ≤ s.f2) = true := decide_eq_true h2
          have hn1 : Hid (c + 1 = depE (L.take (k + 1)) p) := hidE (by rw [HS.out, if_pos ⟨h1, h2⟩, ← hcc.out])
          clear h1 h2 hcc HS
          go_wp2
          go_round
          case rel => exact ⟨k + 1, c + 1, by omega, by omega, by go_num, by go_num, hn1⟩
          case measure => simp [intOf]; omega
        · have t2 : decide (p ≤ s.f2) = false := decide_eq_false h2
          have hn1 : Hid (c = depE (L.take (k + 1)) p) := hidE (by rw [HS.out, if_neg (fun e => h2 e.2), ← hcc.out]; rfl)
          clear h1 h2 hcc HS
          go_wp2
          go_round
          case rel => exact ⟨k + 1, c, by omega, by omega, rfl, by go_num, hn1⟩
          case measure => simp [intOf]; omega
      · have t1 : decide (p ≥ s.f1) = false := decide_eq_false h1
        have hn1 : Hid (c = depE (L.take (k + 1)) p) := hidE (by rw [HS.out, if_neg (fun e => h1 e.1), ← hcc.out]; rfl)
        clear h1 hcc HS
        go_wp2
        go_round
        case rel => exact ⟨k + 1, c, by omega, by omega, rfl, by go_num, hn1⟩
        case measure => simp [intOf]; omega
    · obtain rfl : k = L.length := by omega
      have e1 : c = R := by rw [hcc.out, HR.out, List.take_length]
      subst e1
      clear hlt hcc HR
      go_wp2
      go_ret
      exact ⟨rfl, Fr.refl _ _⟩
set_option maxHeartbeats 4000000 in
theorem rinside_at {w : World} {A : Option Addr} {cap : Nat} {L : List S24} (hC : Kd.C k24 w A L.length L) (hc : L.length ≤ cap) (hn : L.length ≤ 100) (lo hi : Int) :
    Calls Try.prog 46 #[.slice A L.length cap, .int .i64 lo, .int .i64 hi] w fun e w' => ∃ v, e = .returned v ∧ PlV w.heap.size w' v (insZ L lo hi) ∧ Fr (fun _ => False) w w' := by
  have HC := hidE hC
  clear hC
  obtain ⟨P, hP⟩ : ∃ P, P = insZ L lo hi := ⟨_, rfl⟩
  rw [← hP]
  have HP := hidE hP
  clear hP
  go_enter Try.func46, Try.ntmps46
  go_wp2
  go_loopw [7, 8] (fun v i wr => ∃ k : Nat, k ≤ L.length ∧ i = .int .i64 (k : Int) ∧ wr.ownsRow w.heap.size 3 1 v ((insZ (L.take k) lo hi).map (Value.int .i64)).length ((insZ (L.take k) lo hi).map (Value.int .i64)) ∧ Fr (fun _ => False) w wr) (fun _ i _ => L.length - (intOf i).toNat)
  case atStart => exact ⟨0, Nat.zero_le _, rfl, by simpa [insZ, insG] using World.ownsRow_nil _ _ _ _, Fr.refl _ _⟩
  case round =>
    obtain ⟨k, hk, rfl, hown, hf⟩ := hrel
    have HO := hidE hown
    clear hown
    by_cases hlt : k < L.length
    · obtain ⟨r, off, rfl, hr, hat⟩ := C24_open HC.out (by omega)
      obtain ⟨s, hs⟩ : ∃ s, L[k]? = some s := ⟨_, List.getElem?_eq_getElem hlt⟩
      obtain ⟨c0, c1, c2⟩ := (hat k s hs).fr hf (fun h => h)
      have HS := hidE hs
      have l1 : (k : Int) < (L.length : Int) := by omega
      have hsz : w.heap.size ≤ wr.heap.size := hf.size
      have hlen : (insZ (L.take k) lo hi).length ≤ 100 := Nat.le_trans (insG_len _ _ _ _) (by rw [List.length_take]; omega)
      have o1 := HO.out
      clear hat hs
      clear HO
      by_cases ca : lo > s.f1
      · by_cases cb : hi < s.f2
        · have t1 : decide (lo > s.f1) = true := decide_eq_true ca
          have t2 : decide (hi < s.f2) = true := decide_eq_true cb
          have e1 : mx s.f1 lo = lo := by unfold mx; split <;> omega
          have e2 : mn s.f2 hi = hi := by unfold mn; split <;> omega
          have HI := ins_snoc HS.out lo hi
          unfold hitE at HI
          rw [e1, e2] at HI
          have HI' := hidE HI
          clear HI e1 e2
          by_cases hh : lo ≤ hi
          · have t3 : decide (lo ≤ hi) = true := decide_eq_true hh
            have hit : Hid (insZ (L.take (k + 1)) lo hi = insZ (L.take k) lo hi ++ [(k : Int)]) := hidE (by rw [HI'.out, decide_eq_true hh]; rfl)
            have lN : Lst (wr.alloc (.cells #[.int .i64 (k : Int)] 3)) 3 (.slice (some ⟨wr.heap.size, 0, none⟩) 1 1) [.int .i64 (k : Int)] := Lst.new wr 3 [.int .i64 (k : Int)] (by simp) (by simp [maxLen])
            have o2 := o1.alloc (.cells #[.int .i64 (k : Int)] 3)
            have s2 : w.heap.size ≤ (wr.alloc (.cells #[.int .i64 (k : Int)] 3)).heap.size := by simp; omega
            clear o1 HI' hh ca cb
            go_wp2_with (at_builtin; refine wpList_append_lst rfl _ _ 58 rfl w.heap.size 3 (.int .i64 0) 8 Try.underlying58 infoI rfl _ _ _ [.int .i64 (k : Int)] rfl rfl o2 lN (by simp [Value.oneCell']) (by simp [maxLen]; omega) (by simp; omega) s2 ?_)
            intro v' w3 o3 g3 b3
            have f3 : Fr (fun _ => False) w w3 := Fr.grown (hf.alloc _) g3 (fun j hj => .inl (o2.lt j hj).1)
            clear o2 lN s2
            go_wp2
            go_roundw
            case rel => exact ⟨k + 1, by omega, by go_num, by rw [hit.out, List.map_append]; simpa using o3, f3⟩
            case measure => simp [intOf]; omega
          · have t3 : decide (lo ≤ hi) = false := decide_eq_false hh
            have hit : Hid (insZ (L.take (k + 1)) lo hi = insZ (L.take k) lo hi) := hidE (by rw [HI'.out, decide_eq_false hh]; simp)
            have O1 := hidE o1
            clear o1 HI' hh ca cb
            go_wp2
            go_roundw
            case rel => exact ⟨k + 1, by omega, by go_num, by rw [hit.out]; exact O1.out, hf⟩
            case measure => simp [intOf]; omega
        · have t1 : decide (lo > s.f1) = true := decide_eq_true ca
          have t2 : decide (hi < s.f2) = false := decide_eq_false cb
          have e1 : mx s.f1 lo = lo := by unfold mx; split <;> omega
          have e2 : mn s.f2 hi = s.f2 := by unfold mn; split <;> omega
          have HI := ins_snoc HS.out lo hi
          unfold hitE at HI
          rw [e1, e2] at HI
          have HI' := hidE HI
          clear HI e1 e2
          by_cases hh : lo ≤ s.f2
          · have t3 : decide (lo ≤ s.f2) = true := decide_eq_true hh
            have hit : Hid (insZ (L.take (k + 1)) lo hi = insZ (L.take k) lo hi ++ [(k : Int)]) := hidE (by rw [HI'.out, decide_eq_true hh]; rfl)
            have lN : Lst (wr.alloc (.cells #[.int .i64 (k : Int)] 3)) 3 (.slice (some ⟨wr.heap.size, 0, none⟩) 1 1) [.int .i64 (k : Int)] := Lst.new wr 3 [.int .i64 (k : Int)] (by simp) (by simp [maxLen])
            have o2 := o1.alloc (.cells #[.int .i64 (k : Int)] 3)
            have s2 : w.heap.size ≤ (wr.alloc (.cells #[.int .i64 (k : Int)] 3)).heap.size := by simp; omega
            clear o1 HI' hh ca cb
            go_wp2_with (at_builtin; refine wpList_append_lst rfl _ _ 58 rfl w.heap.size 3 (.int .i64 0) 8 Try.underlying58 infoI rfl _ _ _ [.int .i64 (k : Int)] rfl rfl o2 lN (by simp [Value.oneCell']) (by simp [maxLen]; omega) (by simp; omega) s2 ?_)
            intro v' w3 o3 g3 b3
            have f3 : Fr (fun _ => False) w w3 := Fr.grown (hf.alloc _) g3 (fun j hj => .inl (o2.lt j hj).1)
            clear o2 lN s2
            go_wp2
            go_roundw
            case rel => exact ⟨k + 1, by omega, by go_num, by rw [hit.out, List.map_append]; simpa using o3, f3⟩
            case measure => simp [intOf]; omega
          · have t3 : decide (lo ≤ s.f2) = false := decide_eq_false hh
            have hit : Hid (insZ (L.take (k + 1)) lo hi = insZ (L.take k) lo hi) := hidE (by rw [HI'.out, decide_eq_false hh]; simp)
            have O1 := hidE o1
            clear o1 HI' hh ca cb
            go_wp2
            go_roundw
            case rel => exact ⟨k + 1, by omega, by go_num, by rw [hit.out]; exact O1.out, hf⟩
            case measure => simp [intOf]; omega
      · by_cases cb : hi < s.f2
        · have t1 : decide (lo > s.f1) = false := decide_eq_false ca
          have t2 : decide (hi < s.f2) = true := decide_eq_true cb
          have e1 : mx s.f1 lo = s.f1 := by unfold mx; split <;> omega
          have e2 : mn s.f2 hi = hi := by unfold mn; split <;> omega
          have HI := ins_snoc HS.out lo hi
          unfold hitE at HI
          rw [e1, e2] at HI
          have HI' := hidE HI
          clear HI e1 e2
          by_cases hh : s.f1 ≤ hi
          · have t3 : decide (s.f1 ≤ hi) = true := decide_eq_true hh
            have hit : Hid (insZ (L.take (k + 1)) lo hi = insZ (L.take k) lo hi ++ [(k : Int)]) := hidE (by rw [HI'.out, decide_eq_true hh]; rfl)
            have lN : Lst (wr.alloc (.cells #[.int .i64 (k : Int)] 3)) 3 (.slice (some ⟨wr.heap.size, 0, none⟩) 1 1) [.int .i64 (k : Int)] := Lst.new wr 3 [.int .i64 (k : Int)] (by simp) (by simp [maxLen])
            have o2 := o1.alloc (.cells #[.int .i64 (k : Int)] 3)
            have s2 : w.heap.size ≤ (wr.alloc (.cells #[.int .i64 (k : Int)] 3)).heap.size := by simp; omega
            clear o1 HI' hh ca cb
            go_wp2_with (at_builtin; refine wpList_append_lst rfl _ _ 58 rfl w.heap.size 3 (.int .i64 0) 8 Try.underlying58 infoI rfl _ _ _ [.int .i64 (k : Int)] rfl rfl o2 lN (by simp [Value.oneCell']) (by simp [maxLen]; omega) (by simp; omega) s2 ?_)
            intro v' w3 o3 g3 b3
            have f3 : Fr (fun _ => False) w w3 := Fr.grown (hf.alloc _) g3 (fun j hj => .inl (o2.lt j hj).1)
            clear o2 lN s2
            go_wp2
            go_roundw
            case rel => exact ⟨k + 1, by omega, by go_num, by rw [hit.out, List.map_append]; simpa using o3, f3⟩
            case measure => simp [intOf]; omega
          · have t3 : decide (s.f1 ≤ hi) = false := decide_eq_false hh
            have hit : Hid (insZ (L.take (k + 1)) lo hi = insZ (L.take k) lo hi) := hidE (by rw [HI'.out, decide_eq_false hh]; simp)
            have O1 := hidE o1
            clear o1 HI' hh ca cb
            go_wp2
            go_roundw
            case rel => exact ⟨k + 1, by omega, by go_num, by rw [hit.out]; exact O1.out, hf⟩
            case measure => simp [intOf]; omega
        · have t1 : decide (lo > s.f1) = false := decide_eq_false ca
          have t2 : decide (hi < s.f2) = false := decide_eq_false cb
          have e1 : mx s.f1 lo = s.f1 := by unfold mx; split <;> omega
          have e2 : mn s.f2 hi = s.f2 := by unfold mn; split <;> omega
          have HI := ins_snoc HS.out lo hi
          unfold hitE at HI
          rw [e1, e2] at HI
          have HI' := hidE HI
          clear HI e1 e2
          by_cases hh : s.f1 ≤ s.f2
          · have t3 : decide (s.f1 ≤ s.f2) = true := decide_eq_true hh
            have hit : Hid (insZ (L.take (k + 1)) lo hi = insZ (L.take k) lo hi ++ [(k : Int)]) := hidE (by rw [HI'.out, decide_eq_true hh]; rfl)
            have lN : Lst (wr.alloc (.cells #[.int .i64 (k : Int)] 3)) 3 (.slice (some ⟨wr.heap.size, 0, none⟩) 1 1) [.int .i64 (k : Int)] := Lst.new wr 3 [.int .i64 (k : Int)] (by simp) (by simp [maxLen])
            have o2 := o1.alloc (.cells #[.int .i64 (k : Int)] 3)
            have s2 : w.heap.size ≤ (wr.alloc (.cells #[.int .i64 (k : Int)] 3)).heap.size := by simp; omega
            clear o1 HI' hh ca cb
            go_wp2_with (at_builtin; refine wpList_append_lst rfl _ _ 58 rfl w.heap.size 3 (.int .i64 0) 8 Try.underlying58 infoI rfl _ _ _ [.int .i64 (k : Int)] rfl rfl o2 lN (by simp [Value.oneCell']) (by simp [maxLen]; omega) (by simp; omega) s2 ?_)
            intro v' w3 o3 g3 b3
            have f3 : Fr (fun _ => False) w w3 := Fr.grown (hf.alloc _) g3 (fun j hj => .inl (o2.lt j hj).1)
            clear o2 lN s2
            go_wp2
            go_roundw
            case rel => exact ⟨k + 1, by omega, by go_num, by rw [hit.out, List.map_append]; simpa using o3, f3⟩
            case measure => simp [intOf]; omega
          · have t3 : decide (s.f1 ≤ s.f2) = false := decide_eq_false hh
            have hit : Hid (insZ (L.take (k + 1)) lo hi = insZ (L.take k) lo hi) := hidE (by rw [HI'.out, decide_eq_false hh]; simp)
            have O1 := hidE o1
            clear o1 HI' hh ca cb
            go_wp2
            go_roundw
            case rel => exact ⟨k + 1, by omega, by go_num, by rw [hit.out]; exact O1.out, hf⟩
            case measure => simp [intOf]; omega
    · obtain rfl : k = L.length := by omega
      clear hlt
      have ho := HO.out
      rw [List.take_length, List.length_map, ← HP.out] at ho
      have HPV : Hid (PlV w.heap.size wr u7 P) := hidE (by
        rcases own_cs ho with ⟨hv, h0⟩ | ⟨g, cp, hv, h3, h4, h5, h6⟩
        · exact .inl ⟨hv, h0⟩
        · exact .inr ⟨g, cp, hv, h5, h6⟩)
      clear ho HO
      go_wp2
      go_ret
      exact ⟨_, rfl, HPV.out, hf⟩
end Go.Proofs.Ytapagoaoglmegaa
