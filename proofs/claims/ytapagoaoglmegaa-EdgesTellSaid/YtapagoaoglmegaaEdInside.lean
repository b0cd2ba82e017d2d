/- edges.Inside: which spans have a point of a stretch. -/
import Derived.Test.YtapagoaoglmegaaEdDepth
namespace Go.Proofs.Ytapagoaoglmegaa
open Go.RowKit Go.Proofs.YtapagoaoglmegaaW.PrintWords Go.Proofs.YtapagoaoglmegaaW.PrintLast Go.Proofs.YtapagoaoglmegaaW.PrintMore PCl
attribute [local go_sem] max2_int min2_int max_two min_two
set_option linter.unusedVariables false
set_option linter.unusedSimpArgs false
set_option maxRecDepth 100000
/-- Does a span have a point of a stretch. -/
def hitE (lo hi : Int) (s : S24) : Bool := decide (mx s.f1 lo ≤ mn s.f2 hi)
/-- The places of those that do, from place k on. -/
def insG (lo hi : Int) : Nat → List S24 → List Int
  | _, [] => []
  | k, s :: t => if hitE lo hi s = true then (k : Int) :: insG lo hi (k + 1) t else insG lo hi (k + 1) t
def insZ (L : List S24) (lo hi : Int) : List Int := insG lo hi 0 L
theorem insG_app (lo hi : Int) : ∀ (A : List S24) (k : Nat) (s : S24), insG lo hi k (A ++ [s]) = insG lo hi k A ++ if hitE lo hi s = true then [((k + A.length : Nat) : Int)] else []
  | [], k, s => by simp [insG]
  | a :: A, k, s => by
    have := insG_app lo hi A (k + 1) s
    rw [List.cons_append, insG, insG, this]
    have e : k + 1 + A.length = k + (a :: A).length := by simp; omega
    rw [e]
    by_cases h : hitE lo hi a = true
    · rw [if_pos h, if_pos h]; rfl
    · rw [if_neg h, if_neg h]
theorem ins_snoc {L : List S24} {k : Nat} {s : S24} (h : L[k]? = some s) (lo hi : Int) : insZ (L.take (k + 1)) lo hi = insZ (L.take k) lo hi ++ if hitE lo hi s = true then [(k : Int)] else [] := by
  have hk := (List.getElem?_eq_some_iff.1 h).1
  unfold insZ
  rw [List.take_add_one, h]
  have := insG_app lo hi (L.take k) 0 s
  rw [List.length_take, Nat.min_eq_left (by omega), Nat.zero_add] at this
  exact this
theorem insG_len (lo hi : Int) : ∀ (A : List S24) (k : Nat), (insG lo hi k A).length ≤ A.length
  | [], _ => Nat.le_refl _
  | a :: A, k => by
    have := insG_len lo hi A (k + 1)
    unfold insG
    split <;> simp <;> omega
theorem infoI : (Try.prog.info? 3).map (fun i => (i.zero, i.size, i.bytes)) = some (some (.int .i64 0), 1, 8) := by kernel_rfl
set_option maxHeartbeats 4000000 in
theorem inside_at {w : World} {A : Option Addr} {cap : Nat} {L : List S24} (hC : Kd.C k24 w A L.length L) (hc : L.length ≤ cap) (hn : L.length ≤ 100) (lo hi : Int) :
    Calls Try.prog 45 #[.slice A L.length cap, .int .i64 lo, .int .i64 hi] w fun e w' => ∃ v, e = .returned v ∧ PlV w.heap.size w' v (insZ L lo hi) ∧ Fr (fun _ => False) w w' := by
  have HC := hidE hC
  clear hC
  obtain ⟨P, hP⟩ : ∃ P, P = insZ L lo hi := ⟨_, rfl⟩
  rw [← hP]
  have HP := hidE hP
  clear hP
  go_enter Try.func45, Try.ntmps45
  go_wp2
  go_loopw [7, 12] (fun v i wr => ∃ k : Nat, k ≤ L.length ∧ i = .int .i64 (k : Int) ∧ wr.ownsRow w.heap.size 3 1 v ((insZ (L.take k) lo hi).map (Value.int .i64)).length ((insZ (L.take k) lo hi).map (Value.int .i64)) ∧ Fr (fun _ => False) w wr) (fun _ i _ => L.length - (intOf i).toNat)
  case atStart => exact ⟨0, Nat.zero_le _, rfl, by simpa [insZ, insG] using World.ownsRow_nil _ _ _ _, Fr.refl _ _⟩
  case round =>
    obtain ⟨k, hk, rfl, hown, hf⟩ := hrel
    have HO := hidE hown
    clear hown
    by_cases hlt : k < L.length
    · obtain ⟨r, off, rfl, hr, hat⟩ := C24_open HC.out (by omega)
      obtain ⟨s, hs⟩ : ∃ s, L[k]? = some s := ⟨_, List.getElem?_eq_getElem hlt⟩
      obtain ⟨c0, c1, c2⟩ := (hat k s hs).fr hf (fun h => h)
      have HS := hidE hs
      have l1 : (k : Int) < (L.length : Int) := by omega
      clear hat hs
      go_upto_region 5 with fail
      generalize hW : World.alloc wr _ = W1
      have f1 : Fr (fun _ => False) wr W1 := by subst hW; (repeat' (first | (with_reducible exact Fr.refl _ _) | (with_reducible assumption) | (with_reducible refine Fr.alloc ?_ _) | (with_reducible refine Fr.drew ?_) | (with_reducible refine Fr.drewN ?_ _) | (with_reducible refine Fr.setCell ?_ _ _ ?_) | (exact Or.inr rfl) | (left; simp; done) | (left; simp; omega) | (simp; done) | (simp; omega) | omega))
      have o1 := own_fr0 HO.out f1 (fun _ _ h => h)
      have bB : Blk W1 wr.heap.size #[.int .i64 s.f0, .int .i64 s.f1, .int .i64 s.f2] 24 := by subst hW; (repeat' (first | (with_reducible assumption) | (with_reducible apply Blk.drew) | (with_reducible apply Blk.drewN) | (with_reducible apply Blk.set) | (with_reducible apply Blk.other) | (exact Blk.new' _ _ _ (by first | rfl | (simp; done) | (simp; omega))) | (with_reducible apply Blk.alloc) | (with_reducible rfl) | (simp; done) | (simp; omega) | omega | rfl))
      clear hW c0 c1 c2 HO
      have b1 := bB.cell 1
      have b2 := bB.cell 2
      simp at b1 b2
      have F1 := hf.trans f1 (fun _ _ h => h)
      have hsz : w.heap.size ≤ W1.heap.size := F1.size
      obtain ⟨m1, hm1⟩ : ∃ m1, m1 = mx s.f1 lo := ⟨_, rfl⟩
      obtain ⟨m2, hm2⟩ : ∃ m2, m2 = mn s.f2 hi := ⟨_, rfl⟩
      have e1 : (if s.f1 < lo then lo else s.f1) = m1 := hm1.symm
      have e2 : (if hi < s.f2 then hi else s.f2) = m2 := hm2.symm
      have hlen : (insZ (L.take k) lo hi).length ≤ 100 := Nat.le_trans (insG_len _ _ _ _) (by rw [List.length_take]; omega)
      by_cases hh : m1 ≤ m2
      · have hit : Hid (insZ (L.take (k + 1)) lo hi = insZ (L.take k) lo hi ++ [(k : Int)]) := hidE (by rw [ins_snoc HS.out]; unfold hitE; rw [← hm1, ← hm2, decide_eq_true hh]; rfl)
        have t1 : decide (m1 ≤ m2) = true := decide_eq_true hh
        have lN : Lst (W1.alloc (.cells #[.int .i64 (k : Int)] 3)) 3 (.slice (some ⟨W1.heap.size, 0, none⟩) 1 1) [.int .i64 (k : Int)] := Lst.new W1 3 [.int .i64 (k : Int)] (by simp) (by simp [maxLen])
        have o2 := o1.alloc (.cells #[.int .i64 (k : Int)] 3)
        have s2 : w.heap.size ≤ (W1.alloc (.cells #[.int .i64 (k : Int)] 3)).heap.size := by simp; omega
        clear o1 hm1 hm2
        go_wp2_with (at_builtin; refine wpList_append_lst rfl _ _ 58 rfl w.heap.size 3 (.int .i64 0) 8 Try.underlying58 infoI rfl _ _ _ [.int .i64 (k : Int)] rfl rfl o2 lN (by simp [Value.oneCell']) (by simp [maxLen]; omega) (by simp; omega) s2 ?_)
        intro v' w3 o3 g3 b3
        have f3 : Fr (fun _ => False) w w3 := Fr.grown (F1.alloc _) g3 (fun j hj => .inl (o2.lt j hj).1)
        clear o2 lN s2
        go_wp2
        go_roundw
        case rel => exact ⟨k + 1, by omega, by go_num, by rw [hit.out, List.map_append]; simpa using o3, f3⟩
        case measure => simp [intOf]; omega
      · have hit : Hid (insZ (L.take (k + 1)) lo hi = insZ (L.take k) lo hi) := hidE (by rw [ins_snoc HS.out]; unfold hitE; rw [← hm1, ← hm2, decide_eq_false hh]; simp)
        have t1 : decide (m1 ≤ m2) = false := decide_eq_false hh
        have O1 := hidE o1
        clear o1 hm1 hm2
        go_wp2
        go_roundw
        case rel => exact ⟨k + 1, by omega, by go_num, by rw [hit.out]; exact O1.out, F1⟩
        case measure => simp [intOf]; omega
    · obtain rfl : k = L.length := by omega
      clear hlt
      have ho := HO.out
      rw [List.take_length, List.length_map, ← HP.out] at ho
      have HPV : Hid (PlV w.heap.size wr u7 P) := hidE (by
        rcases own_cs ho with ⟨hv, h0⟩ | ⟨g, cp, hv, h3, h4, h5, h6⟩
        · exact .inl ⟨hv, h0⟩
        · exact .inr ⟨g, cp, hv, h5, h6⟩)
      clear ho HO
      go_wp2
      go_ret
      exact ⟨_, rfl, HPV.out, hf⟩
end Go.Proofs.Ytapagoaoglmegaa
