/- The chapter's key, the counted bytes, and that the rows wake. -/
import Derived.Test.YtnphjhignhmhaaaMacTag
import Derived.Test.YtnphjhignhmhaaaLists
namespace Go.Proofs.Ytnphjhignhmhaaa
open Go.RowKit
set_option linter.unusedVariables false
set_option linter.unusedSimpArgs false
set_option maxRecDepth 100000

theorem own_fr {w w' : World} {base : Nat} {e : TypeId} {v : Value} {n : Nat} {l : List Value} (h : w.ownsRow base e 1 v n l) (k : Fr (fun _ => False) w w') : w'.ownsRow base e 1 v n l := by
  obtain ⟨hl, h⟩ := h
  refine ⟨hl, ?_⟩
  rcases h with h | ⟨g, cap, cur, rfl, hg, hh, r⟩
  · exact .inl h
  · exact .inr ⟨g, cap, cur, rfl, hg, (k.block g (Array.getElem?_eq_some_iff.1 hh).1 (fun h => h)).trans hh, r⟩
def bys (l : List Int) : List Value := l.map (.int .u8)
theorem bys_length (l : List Int) : (bys l).length = l.length := by simp [bys]
theorem bys_one (l : List Int) : ∀ u ∈ bys l, u.oneCell' = true := by
  intro u hu
  obtain ⟨n, _, rfl⟩ := List.mem_map.1 hu
  rfl
theorem Byt.of_lst {w : World} {v : Value} {l : List Int} (h : Lst w 5 v (bys l)) (hb : ∀ c ∈ l, Byte c) : Byt w v l := by
  obtain ⟨A, cap, rfl, h1, h2, h3⟩ := h
  rw [bys_length] at h1 ⊢
  refine ⟨A, cap, rfl, h1, h2, hb, ?_⟩
  rcases h3 with h3 | ⟨r, off, cs, hA, hbk, hc⟩
  · exact .inl (by simpa [bys] using h3)
  · exact .inr ⟨r, off, hA, hbk.lt, fun i c hi => by rw [hbk.cell]; exact hc i _ (by simp [bys, hi])⟩
theorem infoU8 : (Try.prog.info? 5).map (fun i => (i.zero, i.size, i.bytes)) = some (some (.int .u8 0), 1, 1) := by kernel_rfl

theorem known_at (w : World) : Calls Try.prog 18 #[] w fun e w' => e = .returned (.agg #[.int .u32 1, .int .u64 506097522914230528, .int .u64 1084818905618843912]) ∧ Fr (fun _ => False) w w' := by
  go_enter Try.func18, Try.ntmps18
  go_wp2
  go_returns
  exact ⟨rfl, by (repeat' (first | (with_reducible exact Fr.refl _ _) | (with_reducible assumption) | (with_reducible refine Fr.alloc ?_ _) | (with_reducible refine Fr.drew ?_) | (with_reducible refine Fr.drewN ?_ _) | (with_reducible refine Fr.setCell ?_ _ _ ?_) | (exact Or.inr rfl) | (left; simp; done) | (left; simp; omega) | (simp; done) | (simp; omega) | omega))⟩

def count (n : Nat) : List Int := (List.range n).map (fun i : Nat => (i : Int))
theorem count_succ (n : Nat) : bys (count (n + 1)) = bys (count n) ++ [.int .u8 n] := by
  unfold bys count; rw [List.range_succ]; simp
theorem count_length (n : Nat) : (count n).length = n := by simp [count]
theorem count_byte {n : Nat} (hn : n ≤ 200) : ∀ c ∈ count n, Byte c := by
  intro c hc
  obtain ⟨i, hi, rfl⟩ := List.mem_map.1 hc
  have := List.mem_range.1 hi
  unfold Byte
  omega

theorem counting_at (n : Nat) (hn : n ≤ 200) (w : World) : Calls Try.prog 19 #[.int .i64 n] w fun e w' => ∃ v, e = .returned v ∧ Byt w' v (count n) ∧ Fr (fun _ => False) w w' := by
  go_enter Try.func19, Try.ntmps19
  go_wp2_with fail
  go_loopw [3, 4] (fun vs vi wr => ∃ i : Nat, i ≤ n ∧ vi = .int .i64 i ∧ wr.ownsRow w.heap.size 5 1 vs i (bys (count i)) ∧ Fr (fun _ => False) w wr) (fun _ vi _ => n - (intOf vi).toNat)
  case atStart => exact ⟨0, by omega, rfl, World.ownsRow_nil w _ _ _, Fr.refl _ _⟩
  case round =>
    obtain ⟨i, hi, rfl, ho, hf⟩ := hrel
    by_cases hlt : i < n
    · have hs := hf.size
      go_wp2_with (first
        | (at_builtin
           generalize hW : World.alloc wr _ = W
           have o1 : W.ownsRow w.heap.size 5 1 u3 i (bys (count i)) := own_fr ho (by subst hW; (repeat' (first | (with_reducible exact Fr.refl _ _) | (with_reducible assumption) | (with_reducible refine Fr.alloc ?_ _) | (with_reducible refine Fr.drew ?_) | (with_reducible refine Fr.drewN ?_ _) | (with_reducible refine Fr.setCell ?_ _ _ ?_) | (exact Or.inr rfl) | (left; simp; done) | (left; simp; omega) | (simp; done) | (simp; omega) | omega)))
           have f1 : Fr (fun _ => False) w W := by subst hW; (repeat' (first | (with_reducible exact Fr.refl _ _) | (with_reducible assumption) | (with_reducible refine Fr.alloc ?_ _) | (with_reducible refine Fr.drew ?_) | (with_reducible refine Fr.drewN ?_ _) | (with_reducible refine Fr.setCell ?_ _ _ ?_) | (exact Or.inr rfl) | (left; simp; done) | (left; simp; omega) | (simp; done) | (simp; omega) | omega))
           have l1 : Lst W 5 (.slice (some ⟨wr.heap.size, 0, none⟩) 1 1) [.int .u8 i] := by subst hW; exact Lst.new wr 5 [.int .u8 i] (by simp) (by simp [maxLen])
           have s1 := f1.size
           clear hW ho hf hs
           refine wpList_append_lst rfl _ _ 28 rfl w.heap.size 5 (.int .u8 0) 1 Try.underlying28 infoU8 rfl u3 _ (bys (count i)) [.int .u8 i] rfl rfl (by rw [bys_length, count_length]; exact o1) l1 (by simp [Value.oneCell']) (by rw [bys_length, count_length]; simp [maxLen]; omega) (by rw [bys_length, count_length]; simp; omega) s1 ?_
           intro va w2 o2 g2 _
           have f2 : Fr (fun _ => False) w w2 := f1.grown g2 (fun k hk => by
             rcases o1.2 with ⟨rfl, _⟩ | ⟨g', _, _, rfl, hg', _⟩
             · simp [Value.ownBlock] at hk
             · simp [Value.ownBlock] at hk; omega)
           rw [← count_succ, bys_length, count_length] at o2
           clear g2 o1 f1 l1 s1))
      go_roundw
      case rel => exact ⟨i + 1, by omega, by go_num, o2, f2⟩
      case measure => simp [intOf]; omega
    · have hin : i = n := by omega
      subst hin
      go_wp2
      go_ret
      exact ⟨_, rfl, Byt.of_lst (Lst.of_own ho) (count_byte hn), hf⟩
end Go.Proofs.Ytnphjhignhmhaaa
