/- Rows of one-cell values: sorted, made compact, searched. -/
import Derived.Test.YtapagoaoglmegaaEdBad
import Derived.Test.YtapagoaoglmegaaEdFloat
import Derived.Shelf.SlGeneric
import Derived.Shelf.SortM.Plain
import Derived.Shelf.SortM.SortNone
import Derived.Shelf.SlicesG.CompactI
import Derived.Shelf.SlicesG.SearchI
import Derived.Shelf.SlSortCmp.NoneTotal
import Derived.Ground.SlgnProg
import Derived.Ground.SlgmProg
namespace Go.Proofs
open Go.Shelf
shelf_lay_g SlLaysM.n5 Slgm 5 at Try 102 as Ytapagoaoglmegaa.srt
shelf_lay_g SlLaysN.n43 Slgn 43 at Try 103 as Ytapagoaoglmegaa.cpt
shelf_lay_g SlLaysN.n49 Slgn 49 at Try 104 as Ytapagoaoglmegaa.bsr
shelf_lay_g SlLaysF.n6 Slsf 6 at Try 74 as Ytapagoaoglmegaa.srf
end Go.Proofs
namespace Go.Proofs.Ytapagoaoglmegaa
open Go.RowKit Go.Proofs.YtapagoaoglmegaaW.PrintWords Go.Proofs.YtapagoaoglmegaaW.PrintLast Go.Proofs.YtapagoaoglmegaaW.PrintMore PCl
open Go.Sort (Holds putRow grow)
set_option linter.unusedVariables false
set_option linter.unusedSimpArgs false
set_option maxRecDepth 100000
section
variable {α : Type} [Inhabited α] {enc : α → Value}
/-- The head of block g holds l. -/
def CsE (enc : α → Value) (w : World) (g : Nat) (l : List α) : Prop := Holds enc w g 0 l.toArray ∧ g < w.heap.size
theorem CsE.cell {w : World} {g : Nat} {l : List α} (h : CsE enc w g l) {i : Nat} {x : α} (hi : l[i]? = some x) : w.cell? ⟨g, i, none⟩ = some (enc x) := by
  obtain ⟨hl, rfl⟩ := List.getElem?_eq_some_iff.1 hi
  have := (h.1 i (by simpa using hl)).1
  rw [Nat.zero_add, getElem!_pos _ i (by simpa using hl)] at this
  simpa using this
theorem CsE.of {w : World} {g : Nat} {l : List α} (h : ∀ i x, l[i]? = some x → w.cell? ⟨g, i, none⟩ = some (enc x) ∧ w.frozen? ⟨g, i, none⟩ = false) (hg : g < w.heap.size) : CsE enc w g l := by
  refine ⟨fun j hj => ?_, hg⟩
  have hl : j < l.length := by simpa using hj
  rw [Nat.zero_add, getElem!_pos _ j hj]
  simpa using h j l[j] (List.getElem?_eq_getElem hl)
theorem CsE.get {w : World} {g : Nat} {l : List α} (h : CsE enc w g l) {i : Nat} {x : α} (hi : l[i]? = some x) : w.cell? ⟨g, i, none⟩ = some (enc x) ∧ w.frozen? ⟨g, i, none⟩ = false := by
  obtain ⟨hl, _⟩ := List.getElem?_eq_some_iff.1 hi
  have := (h.1 i (by simpa using hl)).2
  rw [Nat.zero_add] at this
  exact ⟨h.cell hi, this⟩
theorem CsE.fr {S : Nat → Prop} {w w' : World} {g : Nat} {l : List α} (h : CsE enc w g l) (k : Fr S w w') (hs : ¬ S g) : CsE enc w' g l := by
  refine CsE.of (fun i x hi => ?_) (k.lt h.2)
  obtain ⟨h1, h2⟩ := h.get hi
  have hb := k.block g h.2 hs
  refine ⟨(k.cell (a := ⟨g, i, none⟩) h.2 hs).trans h1, ?_⟩
  rw [← h2]
  simp only [World.frozen?, hb]
theorem CsE.head {w : World} {g : Nat} {a b : List α} (h : CsE enc w g (a ++ b)) : CsE enc w g a :=
  CsE.of (fun i x hi => h.get (by rw [List.getElem?_append_left (List.getElem?_eq_some_iff.1 hi).1]; exact hi)) h.2
theorem own_cs {w : World} {base : Nat} {e : TypeId} {v : Value} {l : List α} (h : w.ownsRow base e 1 v l.length (l.map enc)) :
    (v = .slice none 0 0 ∧ l = []) ∨ ∃ g cap, v = .slice (some ⟨g, 0, none⟩) l.length cap ∧ l.length ≤ cap ∧ cap ≤ maxLen ∧ base ≤ g ∧ CsE enc w g l := by
  rcases h.2 with ⟨rfl, e⟩ | ⟨g, cap, cur, rfl, hg, hb, hc, hm, hs, ht⟩
  · exact .inl ⟨rfl, List.eq_nil_of_length_eq_zero e⟩
  · refine .inr ⟨g, cap, rfl, hc, hm, hg, CsE.of (fun i x hi => ⟨?_, by simp [World.frozen?, hb]⟩) (Array.getElem?_eq_some_iff.1 hb).1⟩
    have hl := (List.getElem?_eq_some_iff.1 hi).1
    have h1 : (cur.toList.take (l.length * 1))[i]? = (l.map enc)[i]? := by rw [ht]
    rw [List.getElem?_take_of_lt (by omega), List.getElem?_map, hi] at h1
    simp only [World.cell?, hb]
    simpa using h1
/-- A row rewritten. -/
theorem cs_put {w : World} {g n : Nat} {os : Array Obj} {l m : List α} (h : CsE enc w g l) (hl : m.length = l.length) :
    CsE enc (grow (putRow enc (Sort.ahead w n) g 0 m.toArray) os) g m ∧ Fr (fun i => i = g) w (grow (putRow enc (Sort.ahead w n) g 0 m.toArray) os) := by
  have h0 : Holds enc (Sort.ahead w n) g 0 l.toArray := h.1
  have h1 := Sort.holds_putRow enc (Sort.ahead w n) g 0 l.toArray m.toArray h0 (by simp [hl])
  have hf : Fr (fun i => i = g) w (grow (putRow enc (Sort.ahead w n) g 0 m.toArray) os) := by
    refine ⟨rfl, rfl, rfl, by simp, fun k hk hne => ?_⟩
    rw [Sort.heap_grow_old _ _ (by simpa using hk)]
    have : ¬ g = k := fun e => hne e.symm
    simp [putRow, Sort.mapBlock, Sort.ahead, Array.getElem?_modify, this]
  refine ⟨CsE.of (fun i x hi => ?_) (hf.lt h.2), hf⟩
  have hl1 := (List.getElem?_eq_some_iff.1 hi).1
  obtain ⟨a1, a2⟩ := h1 i (by simpa using hl1)
  have hgs : g < (putRow enc (Sort.ahead w n) g 0 m.toArray).heap.size := by simpa using h.2
  have hb := Sort.heap_grow_old (putRow enc (Sort.ahead w n) g 0 m.toArray) os hgs
  rw [Nat.zero_add] at a1 a2
  rw [getElem!_pos _ i (by simpa using hl1)] at a1
  refine ⟨?_, ?_⟩
  · rw [← (List.getElem?_eq_some_iff.1 hi).2]
    refine Eq.trans ?_ (by simpa using a1)
    simp only [World.cell?, hb]
  · rw [← a2]
    simp only [World.frozen?, hb]
end
theorem sort_at {w : World} {g cap : Nat} {l : List Int} (h : CsE (Value.int .i64) w g l) (hs : l.length < 4611686018427387904) :
    Calls Try.prog 102 #[.slice (some ⟨g, 0, none⟩) l.length cap] w fun e w' => e = .returned (.tuple #[]) ∧ CsE (Value.int .i64) w' g (l.mergeSort fun x y => decide (x ≤ y)) ∧ Fr (fun i => i = g) w w' := by
  refine Calls.mono (AnyM.slices_Sort_int Ytapagoaoglmegaa.srt g 0 cap l w h.1 h.2 hs) ?_
  rintro e w' ⟨rfl, n, os, rfl⟩
  obtain ⟨h1, h2⟩ := cs_put (n := n) (os := os) h (m := l.mergeSort fun x y => decide (x ≤ y)) (List.length_mergeSort _)
  exact ⟨rfl, h1, h2⟩
theorem sort_no (A : Option Addr) (cap : Nat) (w : World) : Calls Try.prog 102 #[.slice A 0 cap] w fun e w' => e = .returned (.tuple #[]) ∧ w = w' := by
  refine Calls.mono (AnyM.slices_Sort_int_none Ytapagoaoglmegaa.srt A cap w) ?_
  rintro e w' ⟨rfl, rfl⟩
  exact ⟨rfl, rfl⟩
theorem compact_le (l : List Int) : (Lib.compact l).length ≤ l.length := by
  unfold Lib.compact Lib.compactUpTo
  rw [List.length_map]
  exact Nat.le_trans (List.length_filter_le _ _) (by simp)
theorem compact_at {w : World} {g cap : Nat} {l : List Int} (h : CsE (Value.int .i64) w g l) (hs : l.length ≤ 9223372036854775807) (hc : l.length ≤ cap) :
    Calls Try.prog 103 #[.slice (some ⟨g, 0, none⟩) l.length cap] w fun e w' => e = .returned (.slice (some ⟨g, 0, none⟩) (Lib.compact l).length cap) ∧ CsE (Value.int .i64) w' g (Lib.compact l) ∧ Fr (fun i => i = g) w w' := by
  refine Calls.mono (AnyG.slices_Compact_int Ytapagoaoglmegaa.cpt g 0 cap l w h.1 hs hc) ?_
  rintro e w' ⟨rfl, n, rfl⟩
  have hlen := compact_le l
  obtain ⟨h1, h2⟩ := cs_put (n := n) (os := #[]) h (m := Lib.compact l ++ List.replicate (l.length - (Lib.compact l).length) 0) (by rw [List.length_append, List.length_replicate]; omega)
  rw [Sort.grow_empty] at h1 h2
  exact ⟨rfl, h1.head, h2⟩
theorem compact_no (A : Option Addr) (cap : Nat) (w : World) : Calls Try.prog 103 #[.slice A 0 cap] w fun e w' => e = .returned (.slice A 0 cap) ∧ w = w' := by
  refine Calls.mono (AnyG.slices_Compact_int_empty Ytapagoaoglmegaa.cpt A cap w) ?_
  rintro e w' ⟨rfl, rfl⟩
  exact ⟨rfl, rfl⟩
theorem search_at {w : World} {g cap : Nat} {l : List Int} (h : CsE (Value.int .i64) w g l) (hs : l.length < 4611686018427387904) (hp : l.Pairwise (· ≤ ·)) (x : Int) :
    Calls Try.prog 104 #[.slice (some ⟨g, 0, none⟩) l.length cap, .int .i64 x] w fun e w' => e = .returned (.tuple #[.int .i64 (rkE l x : Nat), .bool (l.contains x)]) ∧ ∃ q, w' = w.drewN q := by
  have hc : ∀ j, j < l.length → w.cell? ⟨g, 0 + j, none⟩ = some (.int .i64 (l.getD j 0)) := fun j hj => by
    rw [Nat.zero_add, List.getD_eq_getElem?_getD, List.getElem?_eq_getElem hj]
    exact h.cell (List.getElem?_eq_getElem hj)
  have := AnyG.slices_BinarySearch_int Ytapagoaoglmegaa.bsr g 0 l.length cap l x w (Nat.le_refl _) hs hc (by rw [List.take_length]; exact hp)
  rw [List.take_length] at this
  exact this
end Go.Proofs.Ytapagoaoglmegaa
