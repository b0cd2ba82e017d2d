/- ClusterOrder: the walk. -/
import Derived.Test.YtapagoaoglmegaaClPermP
import Derived.Test.YtapagoaoglmegaaClConcat
import Derived.Test.YtapagoaoglmegaaClKnown
import Derived.Test.YtapagoaoglmegaaPClx17
import Derived.Shelf.SlGeneric
import Derived.Shelf.SortM.Plain
import Derived.Shelf.SortM.SortNone
namespace Go.Proofs
open Go.Shelf
shelf_lay_g SlLaysM.n5 Slgm 5 at Try 35 as Ytapagoaoglmegaa.srti
end Go.Proofs
namespace Go.Proofs.Ytapagoaoglmegaa
open Go.RowKit Go.Proofs.YtapagoaoglmegaaW.PrintWords Go.Proofs.YtapagoaoglmegaaW.PrintLast Go.Proofs.YtapagoaoglmegaaW.PrintMore PCl
open Go.Sort (Holds putRow grow)
set_option linter.unusedVariables false
set_option linter.unusedSimpArgs false
set_option maxRecDepth 100000
/-! ### plain -/
theorem field_lt (l : List S102) : (fieldZ l).Pairwise (fun c d => c.f0 < d.f0) := by
 unfold fieldZ fieldTo
 rw [List.pairwise_map]
 refine List.Pairwise.imp ?_ List.pairwise_lt_range
 intro a b h
 show (a : Int) < (b : Int)
 omega
theorem sort_is {a b : List Int} (h : a.Perm b) (hs : b.Pairwise (· < ·)) : a.mergeSort (fun x y => decide (x ≤ y)) = b := by
 have h1 := List.pairwise_mergeSort (le := fun x y : Int => decide (x ≤ y)) (fun x y z h1 h2 => by simp at *; omega) (fun x y => by simp; omega) a
 have h2 := (List.mergeSort_perm a (fun x y => decide (x ≤ y))).trans h
 refine List.Perm.eq_of_pairwise (le := fun x y => x ≤ y) (fun x y _ _ h1 h2 => by omega) ?_ ?_ h2
 ·exact h1.imp (fun h => by simpa using h)
 ·exact hs.imp (fun h => by omega)
def hullO : S24 := ⟨9, 0, 1099511627776⟩
theorem mv_fld {l : List S102} (hw : ∀ n ∈ l, NearOk n) {by_ : Int} (h : 0 ≤ by_ ∧ by_ < 4294967296) : Fld ((fieldZ l).map (mvC by_)) := by
 have hF := fieldZ_fld hw
 refine ⟨by simpa using hF.len, fun c hc => ?_, fun c hc => ?_, fun c hc d hd => ?_, fun c hc => ?_, ?_⟩
 ·obtain ⟨d, hd, rfl⟩ := List.mem_map.1 hc; exact hF.who d hd
 ·obtain ⟨d, hd, rfl⟩ := List.mem_map.1 hc
  obtain ⟨i, hi, _, rfl⟩ := fieldZ_mem hd
  obtain ⟨a0, a1, b0, b1, c0, c1⟩ := hw _ (rd102_mem hi)
  unfold mvC mvS candOf SpOk Tm MT; simp only; omega
 ·obtain ⟨c', hc', rfl⟩ := List.mem_map.1 hc
  obtain ⟨d', hd', rfl⟩ := List.mem_map.1 hd
  exact hF.at_ c' hc' d' hd'
 ·obtain ⟨d, hd, rfl⟩ := List.mem_map.1 hc; exact hF.jit d hd
 ·rw [List.pairwise_map]; exact hF.one
theorem whoWf_perm {L M : List S27} (h : L.Perm M) (hw : WhoWf L) : WhoWf M := fun c hc => hw c (h.symm.subset hc)
theorem whoWf_mv {L : List S27} (b : Int) (hw : WhoWf L) : WhoWf (L.map (mvC b)) := fun c hc => by
 obtain ⟨d, hd, rfl⟩ := List.mem_map.1 hc; exact hw d hd
/-- What the law asks. -/
structure OrdS (F x : List S27) (by_ : Int) : Prop where
 fst : pruneZ F hullO = (x, 0)
 pos : 0 < x.length
 len : x.length ≤ 16
 turned : ∀ T, F.Perm T → ∃ y, pruneZ T hullO = (y, 0) ∧ y.length = x.length ∧ (y.map (·.f0)).mergeSort (fun a b => decide (a ≤ b)) = x.map (·.f0)
 moved : pruneZ (F.map (mvC by_)) (mvS by_ hullO) = (x.map (mvC by_), 0)
theorem ord_is {l : List S102} (hw : ∀ n ∈ l, NearOk n) {by_ : Int} (h : 0 ≤ by_ ∧ by_ < 4294967296) (h0 : 0 < (fieldZ l).length) : ∃ x, OrdS (fieldZ l) x by_ := by
 have hF := fieldZ_fld hw
 have hH : SpOk hullO := by unfold hullO SpOk Tm MT; simp only; omega
 have hH' : SpOk (mvS by_ hullO) := by unfold mvS hullO SpOk Tm MT; simp only; omega
 have hk : ∀ c ∈ fieldZ l, keepB hullO c = true := fun c hc => by
  obtain ⟨i, hi, _, rfl⟩ := fieldZ_mem hc
  obtain ⟨a0, a1, b0, b1, c0, c1⟩ := hw _ (rd102_mem hi)
  unfold keepB
  refine decide_eq_true ⟨?_, hH, rfl, ?_⟩
  ·unfold candOf SpOk Tm MT; simp only; omega
  ·unfold candOf hullO; simp only; omega
 have hok : pruneOk (fieldZ l) hullO = true := (pruneOk_iff _ _).2 ⟨hF, hH, fun c hc => by
  obtain ⟨i, hi, _, rfl⟩ := fieldZ_mem hc
  rfl⟩
 have P : Pruned (fieldZ l) (leftZ (fieldZ l) hullO) := by
  unfold leftZ
  rw [List.filter_eq_self.2 hk]
  exact pruneGo_is _ _ (Nat.le_refl _)
 obtain ⟨x, hx⟩ : ∃ x, x = leftZ (fieldZ l) hullO := ⟨_, rfl⟩
 rw [← hx] at P
 have hlow := P.low
 have h16 := hF.len
 have hle := P.sub.length_le
 have h1 : pruneZ (fieldZ l) hullO = (x, 0) := by
  unfold pruneZ
  rw [if_pos hok, ← hx, if_neg (by omega)]
 have hsx : (x.map (·.f0)).Pairwise (· < ·) := by
  rw [List.pairwise_map]; exact (field_lt l).sublist P.sub
 refine ⟨x, h1, by omega, by omega, fun T hT => ?_, ?_⟩
 ·obtain ⟨e1, e2⟩ := pruneZ_perm hT hullO
  rw [h1] at e1 e2
  refine ⟨(pruneZ T hullO).1, ?_, e2.length_eq.symm, sort_is (e2.symm.map _) hsx⟩
  exact Prod.ext rfl e1
 ·rw [pruneZ_mv hF (mv_fld hw h) hH hH', h1]
/-! ### rows of whole numbers -/
/-- The head of block g holds l. -/
def CsI (w : World) (g : Nat) (l : List Int) : Prop := Holds (Value.int .i64) w g 0 l.toArray ∧ g < w.heap.size
theorem CsI.get {w : World} {g : Nat} {l : List Int} (h : CsI w g l) {i : Nat} {x : Int} (hi : l[i]? = some x) : w.cell? ⟨g, i, none⟩ = some (.int .i64 x) ∧ w.frozen? ⟨g, i, none⟩ = false := by
 obtain ⟨hl, rfl⟩ := List.getElem?_eq_some_iff.1 hi
 have := h.1 i (by simpa using hl)
 rw [Nat.zero_add, getElem!_pos _ i (by simpa using hl)] at this
 simpa using this
theorem CsI.of {w : World} {g : Nat} {l : List Int} (h : ∀ i x, l[i]? = some x → w.cell? ⟨g, i, none⟩ = some (.int .i64 x) ∧ w.frozen? ⟨g, i, none⟩ = false) (hg : g < w.heap.size) : CsI w g l := by
 refine ⟨fun j hj => ?_, hg⟩
 have hl : j < l.length := by simpa using hj
 rw [Nat.zero_add, getElem!_pos _ j hj]
 simpa using h j l[j] (List.getElem?_eq_getElem hl)
theorem CsI.fr {S : Nat → Prop} {w w' : World} {g : Nat} {l : List Int} (h : CsI w g l) (k : Fr S w w') (hs : ¬ S g) : CsI w' g l := by
 refine CsI.of (fun i x hi => ?_) (k.lt h.2)
 obtain ⟨h1, h2⟩ := h.get hi
 have hb := k.block g h.2 hs
 refine ⟨(k.cell (a := ⟨g, i, none⟩) h.2 hs).trans h1, ?_⟩
 rw [← h2]
 simp only [World.frozen?, hb]
theorem CsI.C {w : World} {g : Nat} {l : List Int} (h : CsI w g l) (hl : l.length ≤ 1000) : Kd.C (Kd.int .i64) w (some ⟨g, 0, none⟩) l.length l := by
 refine ⟨rfl, by omega, fun _ => ⟨_, rfl, fun j p hj => ⟨[.int .i64 p], rfl, by rfl, fun i u hi => ?_⟩⟩⟩
 have hsz : (Kd.int .i64 : Kd Int).sz = 1 := rfl
 have hi0 : i = 0 := by have := (List.getElem?_eq_some_iff.1 hi).1; simpa using this
 subst hi0
 rw [add_none, hsz, Nat.zero_add, Nat.mul_one, Nat.add_zero]
 refine (h.get hj).1.trans ?_
 simpa using hi
theorem RI_open {w : World} {base : Nat} {v : Value} {l : List Int} (h : Kd.R (Kd.int .i64) 3 w base (fun _ => True) v l) (h0 : 0 < l.length) : ∃ g cap, v = .slice (some ⟨g, 0, none⟩) l.length cap ∧ l.length ≤ cap ∧ base ≤ g ∧ CsI w g l := by
 obtain ⟨_, inner, ⟨hl, ho⟩, hr⟩ := h
 rcases ho with ⟨rfl, hn⟩ | ⟨g, cap, cur, rfl, hg, hh, hnc, hcm, hsz, hin⟩
 ·omega
 ·have hsz1 : (Kd.int .i64 : Kd Int).sz = 1 := rfl
  refine ⟨g, cap, rfl, hnc, hg, CsI.of (fun i x hi => ?_) (Array.getElem?_eq_some_iff.1 hh).1⟩
  refine ⟨?_, by simp [World.frozen?, hh]⟩
  have hk : (inner.drop (i * 1)).take 1 = [.int .i64 x] := hr.2 i x hi
  have hil := (List.getElem?_eq_some_iff.1 hi).1
  have e1 : ((inner.drop (i * 1)).take 1)[0]? = some (.int .i64 x) := by rw [hk]; rfl
  rw [hsz1] at hin
  rw [List.getElem?_take_of_lt (by omega), List.getElem?_drop, ← hin, List.getElem?_take_of_lt (by omega)] at e1
  simp only [World.cell?, hh]
  simpa using e1
theorem sortI_at {w : World} {g cap : Nat} {l : List Int} (h : CsI w g l) (hs : l.length < 4611686018427387904) :
  Calls Try.prog 35 #[.slice (some ⟨g, 0, none⟩) l.length cap] w fun e w' => e = .returned (.tuple #[]) ∧ CsI w' g (l.mergeSort fun x y => decide (x ≤ y)) ∧ Fr (fun i => i = g) w w' := by
 refine Calls.mono (AnyM.slices_Sort_int Ytapagoaoglmegaa.srti g 0 cap l w h.1 h.2 hs) ?_
 rintro e w' ⟨rfl, n, os, rfl⟩
 have h0 : Holds (Value.int .i64) (Sort.ahead w n) g 0 l.toArray := h.1
 have h1 := Sort.holds_putRow (Value.int .i64) (Sort.ahead w n) g 0 l.toArray (l.mergeSort fun x y => decide (x ≤ y)).toArray h0 (by simp [List.length_mergeSort])
 have hf : Fr (fun i => i = g) w (grow (putRow (Value.int .i64) (Sort.ahead w n) g 0 (l.mergeSort fun x y => decide (x ≤ y)).toArray) os) := by
  refine ⟨rfl, rfl, rfl, by simp, fun k hk hne => ?_⟩
  rw [Sort.heap_grow_old _ _ (by simpa using hk)]
  have : ¬ g = k := fun e => hne e.symm
  simp [putRow, Sort.mapBlock, Sort.ahead, Array.getElem?_modify, this]
 refine ⟨rfl, CsI.of (fun i x hi => ?_) (hf.lt h.2), hf⟩
 have hl1 := (List.getElem?_eq_some_iff.1 hi).1
 obtain ⟨a1, a2⟩ := h1 i (by simpa using hl1)
 have hgs : g < (putRow (Value.int .i64) (Sort.ahead w n) g 0 (l.mergeSort fun x y => decide (x ≤ y)).toArray).heap.size := by simpa using h.2
 have hb := Sort.heap_grow_old (putRow (Value.int .i64) (Sort.ahead w n) g 0 (l.mergeSort fun x y => decide (x ≤ y)).toArray) os hgs
 rw [Nat.zero_add] at a1 a2
 rw [getElem!_pos _ i (by simpa using hl1)] at a1
 refine ⟨?_, ?_⟩
 ·rw [← (List.getElem?_eq_some_iff.1 hi).2]
  refine Eq.trans ?_ (by simpa using a1)
  simp only [World.cell?, hb]
 ·rw [← a2]
  simp only [World.frozen?, hb]
/-! ### numbers of candidates -/
theorem whos_l0 {L : List S27} (hl : L.length ≤ 1048576) : ∀ (d i k : Nat), i ≤ L.length → L.length - i = d → d < k → ephemerislaw23_whos.l0 k ((L.take i).map (·.f0)) L (L.length : Int) (i : Int) = some (L.map (·.f0))
 | 0, i, k, hi, hd, hk => by
  obtain ⟨k, rfl⟩ : ∃ m, k = m + 1 := ⟨k - 1, by omega⟩
  simp only [ephemerislaw23_whos.l0]
  rw [if_neg (by omega), List.take_of_length_le (by omega)]
 | d + 1, i, k, hi, hd, hk => by
  obtain ⟨k, rfl⟩ : ∃ m, k = m + 1 := ⟨k - 1, by omega⟩
  obtain ⟨c, hc⟩ : ∃ c, L[i]? = some c := ⟨_, List.getElem?_eq_getElem (by omega)⟩
  simp only [ephemerislaw23_whos.l0]
  rw [if_pos (by omega), if_pos (by omega), if_pos (by omega), if_pos (by simp; omega), rd_get hc]
  have e : wrap64 ((i : Int) + 1) = ((i + 1 : Nat) : Int) := by unfold wrap64; omega
  have := whos_l0 hl d (i + 1) k (by omega) (by omega) (by omega)
  rw [take_snoc hc, List.map_append] at this
  rw [e]
  exact this
theorem whos_f {L : List S27} (hl : L.length ≤ 1048576) : ephemerislaw23_whos.f (L.length + 1) L = some (L.map (·.f0)) := by
 have := whos_l0 hl L.length 0 (L.length + 1) (by omega) (by omega) (by omega)
 unfold ephemerislaw23_whos.f
 simpa using this
theorem equalI_l0 {l : List Int} (hl : l.length ≤ 1048576) : ∀ (d i k : Nat), i ≤ l.length → l.length - i = d → d < k → slices_Equal_int_int.l0 k l l (l.length : Int) (i : Int) = some true
 | 0, i, k, hi, hd, hk => by
  obtain ⟨k, rfl⟩ : ∃ m, k = m + 1 := ⟨k - 1, by omega⟩
  simp only [slices_Equal_int_int.l0]
  rw [if_neg (by omega)]
 | d + 1, i, k, hi, hd, hk => by
  obtain ⟨k, rfl⟩ : ∃ m, k = m + 1 := ⟨k - 1, by omega⟩
  simp only [slices_Equal_int_int.l0]
  have e : wrap64 ((i : Int) + 1) = ((i + 1 : Nat) : Int) := by unfold wrap64; omega
  rw [if_pos (by omega), if_pos (by omega), if_pos (by omega), if_pos (by omega), if_pos trivial, e]
  exact equalI_l0 hl d (i + 1) k (by omega) (by omega) (by omega)
theorem equalI_f {l : List Int} (hl : l.length ≤ 1048576) : slices_Equal_int_int.f (l.length + 1) l l = some true := by
 unfold slices_Equal_int_int.f
 rw [if_pos rfl]
 exact equalI_l0 hl l.length 0 _ (by omega) (by omega) (by omega)
theorem drawnI_fr {w w' : World} (h : Drawn0 w w') : Fr (fun _ => False) w w' := by
 obtain ⟨n, rfl⟩ := h.out
 exact (Fr.refl _ _).drewN n
theorem whos_at {w : World} {A : Option Addr} {c n : Nat} {L : List S27} (hC : Kd.C k27 w A n L) (hn : n = L.length) (hc : n ≤ c) (h0 : 0 < n) (hl : n ≤ 16) :
  Calls Try.prog 34 #[.slice A n c] w fun e w' => ∃ g c', e = .returned (.slice (some ⟨g, 0, none⟩) n c') ∧ n ≤ c' ∧ w.heap.size ≤ g ∧ CsI w' g (L.map (·.f0)) ∧ Fr (fun _ => False) w w' := by
 subst hn
 refine (ephemerislaw23_whos.calls (L.length + 1) A c L _ w hC hc (whos_f (by omega))).mono ?_
 rintro e w' ⟨v, rfl, hr, hb⟩
 obtain ⟨g, c', rfl, h1, h2, h3⟩ := RI_open hr (by simpa using h0)
 simp only [List.length_map] at h1 ⊢
 exact ⟨g, c', rfl, h1, h2, h3, Fr.of_below hb (Nat.le_refl _) _⟩
theorem equalI_at {w : World} {g h c d n : Nat} {l : List Int} (h1 : CsI w g l) (h2 : CsI w h l) (hn : n = l.length) (hc : n ≤ c) (hd : n ≤ d) (hl : n ≤ 16) :
  Calls Try.prog 36 #[.slice (some ⟨g, 0, none⟩) n c, .slice (some ⟨h, 0, none⟩) n d] w fun e w' => e = .returned (.bool true) ∧ Fr (fun _ => False) w w' := by
 subst hn
 exact (slices_Equal_int_int.calls (l.length + 1) (some ⟨g, 0, none⟩) c l (some ⟨h, 0, none⟩) d l true w (h1.C (by omega)) hc (h2.C (by omega)) hd (equalI_f (by omega))).mono fun _ _ q => ⟨q.1, drawnI_fr q.2⟩
/-- Candidates that lie in a row are a row that is read. -/
theorem C27_of {w : World} {r off : Nat} {l : List S27} (h : ∀ i c, l[i]? = some c → At5 w r (off + i * 5) c) (hl : l.length ≤ 1000) : Kd.C k27 w (some ⟨r, off, none⟩) l.length l := by
 refine ⟨rfl, by omega, fun _ => ⟨_, rfl, fun j p hj => ⟨encC p, rfl, k27_mk w p, fun i u hi => ?_⟩⟩⟩
 obtain ⟨a0, a1, a2, a3, a4⟩ := h j p hj
 have hsz : (k27 : Kd S27).sz = 5 := rfl
 have hi5 : i < 5 := by have := (List.getElem?_eq_some_iff.1 hi).1; simpa [encC] using this
 rw [add_none, hsz, ← Nat.add_assoc]
 match i, hi5, hi with
 | 0, _, hi => rw [← hi]; exact a0
 | 1, _, hi => rw [← hi]; exact a1
 | 2, _, hi => rw [← hi]; exact a2
 | 3, _, hi => rw [← hi]; exact a3
 | 4, _, hi => rw [← hi]; exact a4
def mvTo (b : Int) (F : List S27) (i : Nat) : List S27 := (F.take i).map (mvC b) ++ F.drop i
theorem mvTo_get {b : Int} {F : List S27} {i : Nat} {c : S27} (h : F[i]? = some c) : (mvTo b F i)[i]? = some c := by
 have hi := (List.getElem?_eq_some_iff.1 h).1
 unfold mvTo
 rw [List.getElem?_append_right (by simp; omega)]
 simp only [List.length_map, List.length_take, List.getElem?_drop]
 rw [show i + (i - min i F.length) = i by omega]; exact h
theorem mvTo_succ {b : Int} {F : List S27} {i : Nat} {c : S27} (h : F[i]? = some c) : (mvTo b F i).set i (mvC b c) = mvTo b F (i + 1) := by
 have hi := (List.getElem?_eq_some_iff.1 h).1
 unfold mvTo
 rw [take_snoc h, List.map_append, List.set_append_right _ _ (by simp; omega)]
 have e : (List.map (mvC b) (F.take i)).length = i := by simp; omega
 rw [e, Nat.sub_self]
 have e2 : F.drop i = c :: F.drop (i + 1) := by
  rw [List.drop_eq_getElem_cons hi]
  have : F[i] = c := (List.getElem?_eq_some_iff.1 h).2
  rw [this]
 rw [e2, List.set_cons_zero]
 simp
theorem Row.mv {w : World} {g cap i : Nat} {b : Int} {F : List S27} {c : S27} (h : Row w g cap (mvTo b F i)) (hc : F[i]? = some c) :
  Row ((w.setCell ⟨g, i * 5 + 2, none⟩ (.int .i64 (c.f1.f1 + b))).setCell ⟨g, i * 5 + 3, none⟩ (.int .i64 (c.f1.f2 + b))) g cap (mvTo b F (i + 1)) := by
 have h1 := h.set1 (j := 2) (c' := ⟨c.f0, ⟨c.f1.f0, c.f1.f1 + b, c.f1.f2⟩, c.f2⟩) (mvTo_get hc) (by omega) rfl
 have hil := (List.getElem?_eq_some_iff.1 (mvTo_get (b := b) hc)).1
 have h2 := h1.set1 (i := i) (j := 3) (c := ⟨c.f0, ⟨c.f1.f0, c.f1.f1 + b, c.f1.f2⟩, c.f2⟩) (c' := mvC b c) (v := .int .i64 (c.f1.f2 + b)) (by rw [List.getElem?_set, if_pos rfl, if_pos hil]) (by omega) rfl
 rw [List.set_set, mvTo_succ hc] at h2
 exact h2
theorem turn_perm27 (L : List S27) (k : Nat) : L.Perm (L.drop k ++ L.take k) := by
 have := List.perm_append_comm (l₁ := L.take k) (l₂ := L.drop k)
 rwa [List.take_append_drop] at this
theorem concat2_at {W : World} {b g cF k : Nat} {F : List S27} (hb : Blk W b #[.slice (some ⟨g, k * 5, none⟩) (F.length - k) (cF - k), .slice (some ⟨g, 0, none⟩) k cF] 22) (hr : Row W g cF F) (hk : k < F.length) (h16 : F.length ≤ 16) :
  Calls Try.prog 32 #[.slice (some ⟨b, 0, none⟩) 2 2] W fun e w' => ∃ g' cap, e = .returned (.slice (some ⟨g', 0, none⟩) F.length cap) ∧ W.heap.size ≤ g' ∧ cap ≤ maxLen ∧ Row w' g' cap (F.drop k ++ F.take k) ∧ Fr (fun _ => False) W w' := by
 have h1 : Kd.C k27 W (some ⟨g, k * 5, none⟩) (F.drop k).length (F.drop k) := C27_of (fun i c hi => by
  rw [List.getElem?_drop] at hi
  have := hr.at5 hi
  rwa [Nat.add_mul] at this) (by simp; omega)
 have h2 : Kd.C k27 W (some ⟨g, 0, none⟩) (F.take k).length (F.take k) := C27_of (fun i c hi => by
  rw [Nat.zero_add]
  exact (hr.take k).at5 hi) (by simp; omega)
 have e1 : (F.drop k).length = F.length - k := List.length_drop
 have e2 : (F.take k).length = k := by rw [List.length_take]; omega
 have := concat_at (w := W) (b := b) (c0 := 2) (c1 := cF - k) (c2 := cF) (L1 := F.drop k) (L2 := F.take k) (by rw [e1, e2]; exact hb) h1 h2 (by omega) (by omega)
 have e3 : (F.drop k ++ F.take k).length = F.length := by rw [List.length_append, e1, e2]; omega
 rw [e3] at this
 exact this
set_option maxHeartbeats 16000000 in
theorem clusterOrder_walk (A : Option Addr) (len cap : Nat) (turn by_ : Int) (w : World) (h0 : RdS [.i .u32, .i .u16, .i .u16] w A len cap) (v1 : (Lit.int .u8 turn).wf = true) (v2 : (Lit.int .u32 by_).wf = true) :
  Calls Try.prog 8 #[.slice A len cap, .int .u8 turn, .int .u32 by_] w fun e w' => e = .returned (.bool true) ∧ Fr (fun _ => False) w w' := by
 obtain ⟨l, rfl, hc, hC, hN⟩ := near_open h0
 have htu : 0 ≤ turn ∧ turn ≤ 255 := by have := v1; simp [Lit.wf] at this; exact this
 have hby : 0 ≤ by_ ∧ by_ ≤ 4294967295 := by have := v2; simp [Lit.wf] at this; exact this
 have HFd := hid (ephemerislaw23_field.calls 400 A cap l (fieldZ l) w hC hc (field_f hN hC.2.1 400 (by omega)))
 have hwho := fieldZ_who l
 have h16 := (fieldZ_fld hN).len
 have HO := hid (fun h0 => ord_is hN (by_ := by_) (by omega) h0)
 have HE := hid (fun h0 : (fieldZ l).length = 0 => (show pruneZ (fieldZ l) hullO = ([], 33) by rw [List.eq_nil_of_length_eq_zero h0]; rfl))
 have HM := hid (mv_fld hN (by_ := by_) (by omega))
 have HS := hid (fun c (hc : c ∈ fieldZ l) => (fieldZ_fld hN).span c hc)
 obtain ⟨F, hF⟩ : ∃ F, F = fieldZ l := ⟨_, rfl⟩
 rw [← hF] at HFd HO HE hwho h16 HM HS
 have HWho := hid hwho
 clear h0 v1 v2 hC hc hN hF hwho
 go_enter Try.func8, Try.ntmps8
 go_wp2_with fail
 refine HFd.out.mono ?_
 rintro e w1 ⟨vF, rfl, hR1, k1'⟩
 have k1 := Fr.of_below k1' (Nat.le_refl _) (fun _ => False)
 clear HFd k1'
 by_cases hn : F.length = 0
 ·have hp := HE.out hn
  obtain rfl : F = [] := List.eq_nil_of_length_eq_zero hn
  obtain ⟨AF, cF, rfl, hcF, hCF⟩ := R_C hR1
  have HCF := hid hCF
  clear hR1 HO HE HM hn h16 hCF
  simp only [List.length_nil] at *
  go_wp2_with fail
  generalize hW : World.alloc w1 _ = W2
  have fW : Fr (fun _ => False) w1 W2 := by subst hW; (repeat' (first | (with_reducible exact Fr.refl _ _) | (with_reducible assumption) | (with_reducible refine Fr.alloc ?_ _) | (with_reducible refine Fr.drew ?_) | (with_reducible refine Fr.drewN ?_ _) | (with_reducible refine Fr.setCell ?_ _ _ ?_) | (exact Or.inr rfl) | (left; simp; done) | (left; simp; omega) | (simp; done) | (simp; omega) | omega))
  clear hW
  refine (pr_at (HCF.out W2 fW) rfl hcF HWho.out hp).mono ?_
  rintro e w3 ⟨vx, rfl, hR, k3⟩
  obtain ⟨Ax, cx, rfl, _, _⟩ := R_C hR
  clear hR
  simp only [List.length_nil]
  go_wp2_with fail
  refine (awk_at _).mono ?_
  rintro e w4 ⟨rfl, k4⟩
  go_wp2_with fail
  go_ret
  exact ⟨rfl, ((k1.trans fW (fun _ _ h => h)).trans k3 (fun _ _ h => h)).trans k4 (fun _ _ h => h)⟩
 ·obtain ⟨g, cF, rfl, hg, hcm, hr⟩ := row_R hR1 (by omega)
  have hcl := hr.len
  obtain ⟨x, hx⟩ := HO.out (by omega)
  have HX := hid hx
  have HR := hid hr
  have hxp := hx.pos
  have hxl := hx.len
  obtain ⟨k, hk⟩ : ∃ k : Nat, (k : Int) = turn % (F.length : Int) := ⟨(turn % (F.length : Int)).toNat, by rw [Int.toNat_of_nonneg (Int.emod_nonneg _ (by omega))]⟩
  have hkl : k < F.length := by have := Int.emod_lt_of_pos turn (show (0 : Int) < (F.length : Int) by omega); omega
  have n0 : ((F.length : Int) == 0) = false := by rw [beq_eq_false_iff_ne]; omega
  have n1 : ¬ (F.length : Int) = 0 := by omega
  have e1 : turn.tmod (F.length : Int) = (k : Int) := by rw [hk]; exact Int.tmod_eq_emod_of_nonneg htu.1
  have e2 : turn % (F.length : Int) = (k : Int) := hk.symm
  have y0 : IntKind.i64.wrap turn = turn := IntWalk.i64_in _ (by omega)
  clear hR1 hx hr HE HO hk hn
  go_wp2_with fail
  generalize hW : World.alloc w1 _ = W2
  have fW : Fr (fun _ => False) w1 W2 := by subst hW; (repeat' (first | (with_reducible exact Fr.refl _ _) | (with_reducible assumption) | (with_reducible refine Fr.alloc ?_ _) | (with_reducible refine Fr.drew ?_) | (with_reducible refine Fr.drewN ?_ _) | (with_reducible refine Fr.setCell ?_ _ _ ?_) | (exact Or.inr rfl) | (left; simp; done) | (left; simp; omega) | (simp; done) | (simp; omega) | omega))
  have bB : Blk W2 w1.heap.size #[.int .i64 9, .int .i64 0, .int .i64 1099511627776] 24 := by subst hW; (repeat' (first | (with_reducible assumption) | (with_reducible apply Blk.drew) | (with_reducible apply Blk.drewN) | (with_reducible apply Blk.set) | (with_reducible apply Blk.other) | (exact Blk.new' _ _ _ (by first | rfl | (simp; done) | (simp; omega))) | (with_reducible apply Blk.alloc) | (with_reducible rfl) | (simp; done) | (simp; omega) | omega | rfl))
  clear hW
  obtain ⟨B, hB⟩ : ∃ B, B = w1.heap.size := ⟨_, rfl⟩
  rw [← hB] at bB ⊢
  refine (pr_at (h := hullO) ((HR.out.fr fW (fun h => h)).toC hcm) rfl hcl HWho.out HX.out.fst).mono ?_
  rintro e w3 ⟨vx, rfl, hRx, k3⟩
  obtain ⟨gx, cx, rfl, hgx, hmx, hrx⟩ := row_R hRx hxp
  have f3 := fW.trans k3 (fun _ _ h => h)
  have HRx := hid hrx
  have HB := hid (bB.fr k3 (fun h => h))
  have HR3 := hid (HR.out.fr f3 (fun h => h))
  have g3 : g < w3.heap.size := HR3.out.lt
  have F3 := k1.trans f3 (fun _ _ h => h)
  have hxc := hrx.len
  clear hRx hrx bB hB k3 fW HR k1 f3
  go_wp2_with fail
  have q0 : (0 : Int) ≤ (k : Int) := by omega
  have q1 : (k : Int) ≤ (F.length : Int) := by omega
  have q2 : (F.length : Int) ≤ (cF : Int) := by omega
  have q3 : ¬ cF = k := by omega
  have q4 : (k : Int) ≤ (cF : Int) := by omega
  have msd : Fr (fun _ => False) w3 w3.drew ∧ True := ⟨Fr.drew (Fr.refl _ _), trivial⟩
  refine start_ (n := 9) (S := fun w' => Fr (fun _ => False) w3 w' ∧ True) (ds := []) #[oN,oN,oN,oN,oN,oN,oN,oN,oN] (by kernel_rfl) rfl rfl ⟨msd.1, msd.2⟩ (fun hHeld => ?_)
  refine pure_ (i := 0) (N := some 43) (v := ?_) (a' := ?_) #[oY,oN,oN,oN,oN,oN,oN,oN,oN] rfl rfl (by kernel_rfl) (fun _ _ _ h => h) (Or.inl ⟨by rfl, ?_⟩) ?_ ?_
  rotate_left
  ·intro w'
   go_simp
   with_reducible rfl
  rotate_left
  ·simp only [Act.put, List.setIfInBounds_toArray, List.set_cons_zero, List.set_cons_succ, i64_w, i32_w]
   rfl
  refine pure_ (i := 1) (N := some 44) (v := ?_) (a' := ?_) #[oY,oY,oN,oN,oN,oN,oN,oN,oN] rfl rfl (by kernel_rfl) (fun _ _ _ h => h) (Or.inl ⟨by rfl, ?_⟩) ?_ ?_
  rotate_left
  ·intro w'
   go_simp
   with_reducible rfl
  rotate_left
  ·simp only [Act.put, List.setIfInBounds_toArray, List.set_cons_zero, List.set_cons_succ, i64_w, i32_w]
   rfl
  refine pure_ (i := 2) (N := some 45) (v := ?_) (a' := ?_) #[oY,oY,oY,oN,oN,oN,oN,oN,oN] rfl rfl (by kernel_rfl) (fun _ _ _ h => h) (Or.inl ⟨by rfl, ?_⟩) ?_ ?_
  rotate_left
  ·intro w'
   go_simp
   with_reducible rfl
  rotate_left
  ·simp only [Act.put, List.setIfInBounds_toArray, List.set_cons_zero, List.set_cons_succ, i64_w, i32_w]
   rfl
  refine pure_ (i := 3) (N := some 46) (v := ?_) (a' := ?_) #[oY,oY,oY,oY,oN,oN,oN,oN,oN] rfl rfl (by kernel_rfl) (fun _ _ _ h => h) (Or.inl ⟨by rfl, ?_⟩) ?_ ?_
  rotate_left
  ·intro w'
   go_simp
   with_reducible rfl
  rotate_left
  ·simp only [Act.put, List.setIfInBounds_toArray, List.set_cons_zero, List.set_cons_succ, i64_w, i32_w]
   rfl
  refine pure_ (i := 4) (N := some 47) (v := ?_) (a' := ?_) #[oY,oY,oY,oY,oY,oN,oN,oN,oN] rfl rfl (by kernel_rfl) (fun _ _ _ h => h) (Or.inl ⟨by rfl, ?_⟩) ?_ ?_
  rotate_left
  ·intro w'
   go_simp
   with_reducible rfl
  rotate_left
  ·simp only [Act.put, List.setIfInBounds_toArray, List.set_cons_zero, List.set_cons_succ, i64_w, i32_w]
   rfl
  refine pure_ (i := 5) (N := some 48) (v := ?_) (a' := ?_) #[oY,oY,oY,oY,oY,oY,oN,oN,oN] rfl rfl (by kernel_rfl) (fun _ _ _ h => h) (Or.inl ⟨by rfl, ?_⟩) ?_ ?_
  rotate_left
  ·intro w'
   go_simp
   with_reducible rfl
  rotate_left
  ·simp only [Act.put, List.setIfInBounds_toArray, List.set_cons_zero, List.set_cons_succ, i64_w, i32_w]
   rfl
  refine one_ (i := 6) (N := some 49) #[oY,oY,oY,oY,oY,oY,oY,oN,oN] rfl rfl (by kernel_rfl) (by decide) (fun K hK => ?_)
  refine value_ (w1 := ?_) (v := ?_) (by rfl) rfl ?_ ?_
  rotate_left 2
  ·go_simp
   constructor
   ·rfl
   ·rfl
  generalize hW4 : World.drew _ = W4
  have f4 : Fr (fun _ => False) w3 W4 := by subst hW4; (repeat' (first | (with_reducible exact Fr.refl _ _) | (with_reducible assumption) | (with_reducible refine Fr.alloc ?_ _) | (with_reducible refine Fr.drew ?_) | (with_reducible refine Fr.drewN ?_ _) | (with_reducible refine Fr.setCell ?_ _ _ ?_) | (exact Or.inr rfl) | (left; simp; done) | (left; simp; omega) | (simp; done) | (simp; omega) | omega))
  have b4 : Blk W4 w3.heap.size #[.slice (some ⟨g, k * 5, none⟩) (F.length - k) (cF - k), .slice (some ⟨g, 0, none⟩) k cF] 22 := by subst hW4; (repeat' (first | (with_reducible assumption) | (with_reducible apply Blk.drew) | (with_reducible apply Blk.drewN) | (with_reducible apply Blk.set) | (with_reducible apply Blk.other) | (exact Blk.new' _ _ _ (by first | rfl | (simp; done) | (simp; omega))) | (with_reducible apply Blk.alloc) | (with_reducible rfl) | (simp; done) | (simp; omega) | omega | rfl))
  clear hW4
  have ms4 : Fr (fun _ => False) w3 W4 ∧ True := ⟨f4, trivial⟩
  refine hK.out _ _ ⟨ms4.1, ms4.2⟩ (fun hHeld => ?_)
  clear hK K
  refine norm_ (a' := ?_) ?_ ?_
  rotate_left
  ·show Act.put _ (some 49) _ = _
   simp only [Act.put, List.setIfInBounds_toArray, List.set_cons_zero, List.set_cons_succ, i64_w, i32_w]
   rfl
  refine one_ (i := 7) (N := some 50) #[oY,oY,oY,oY,oY,oY,oY,oY,oN] rfl rfl (by kernel_rfl) (by decide) (fun K hK => ?_)
  refine goes_ Try.func32 (by kernel_rfl) rfl #[.slice (some ⟨w3.heap.size, 0, none⟩) 2 2] (by rfl) rfl rfl (by simp only [List.map_toArray, List.map_cons, List.map_nil]; rfl) ?_
  refine (concat2_at (by exact b4) (by exact (HR3.out.fr f4 (fun h => h))) hkl h16).mono ?_
  rintro e w5 ⟨g4, cap4, rfl, hg4, hm4, r4, k5⟩
  refine ⟨_, rfl, ?_⟩
  have f5 : Fr (fun _ => False) w3 w5 := f4.trans k5 (fun _ _ h => h)
  have ms5 : Fr (fun _ => False) w3 w5 ∧ True := ⟨f5, trivial⟩
  refine hK.out _ _ ⟨ms5.1, ms5.2⟩ (fun hHeld => ?_)
  clear hK K
  refine norm_ (a' := ?_) ?_ ?_
  rotate_left
  ·show Act.put _ (some 50) _ = _
   simp only [Act.put, List.setIfInBounds_toArray, List.set_cons_zero, List.set_cons_succ, i64_w, i32_w]
   rfl
  refine pure_ (i := 8) (N := some 12) (v := ?_) (a' := ?_) #[oY,oY,oY,oY,oY,oY,oY,oY,oY] rfl rfl (by kernel_rfl) (fun _ _ _ h => h) (Or.inl ⟨by rfl, ?_⟩) ?_ ?_
  rotate_left
  ·intro w'
   go_simp
   with_reducible rfl
  rotate_left
  ·simp only [Act.put, List.setIfInBounds_toArray, List.set_cons_zero, List.set_cons_succ, i64_w, i32_w]
   rfl
  refine done_ (by kernel_rfl) ?_
  have hg4' : w3.heap.size ≤ g4 := Nat.le_trans f4.size hg4
  clear hHeld ms4 ms5 msd b4 k5 f4 hg4 q0 q1 q2 q3 q4 e1 e2
  have hTl : (F.drop k ++ F.take k).length = F.length := (turn_perm27 F k).length_eq.symm
  have hm2 : (turn % 2 == 1) = true ∨ (turn % 2 == 1) = false := by cases (turn % 2 == 1) <;> simp
  have HV := hid (reverse_at (c := cap4) r4 (by omega))
  rw [hTl] at HV
  have HR4 := hid r4
  have HTl := hid hTl
  clear r4 hTl
  go_upto_if 53 with fail
  go_cut [12] (fun v12 wx => v12 = .slice (some ⟨g4, 0, none⟩) F.length cap4 ∧ ∃ T, Hid (F.Perm T) ∧ Row wx g4 cap4 T ∧ Fr (fun _ => False) w3 wx)
  case first =>
   rcases hm2 with hm2 | hm2
   ·go_wp2_with fail
    refine HV.out.mono ?_
    rintro e w6 ⟨rfl, r6, k6⟩
    clear HV
    go_wp2
    go_meet
    exact ⟨rfl, _, hid ((turn_perm27 F k).trans (List.reverse_perm _).symm), r6, f5.trans k6 (fun i hi e => by omega)⟩
   ·clear HV
    go_wp2
    go_meet
    exact ⟨rfl, _, hid (turn_perm27 F k), HR4.out, f5⟩
  case rest =>
   obtain ⟨w6, hw6⟩ : ∃ w6, w6 = wc := ⟨_, rfl⟩
   rw [← hw6] at hcut ⊢
   clear hw6 HV HR4 HTl hm2 f5
   obtain ⟨rfl, T, HP, r6, f6⟩ := hcut
   obtain ⟨y, hy1, hy2, hy3⟩ := HX.out.turned T HP.out
   have hTn := HP.out.length_eq
   have bB6 := HB.out.fr f6 (fun h => h)
   have b0 : w6.cell? ⟨B, 0, none⟩ = some (.int .i64 9) := bB6.cell 0
   have b1 : w6.cell? ⟨B, 1, none⟩ = some (.int .i64 0) := bB6.cell 1
   have b2 : w6.cell? ⟨B, 2, none⟩ = some (.int .i64 1099511627776) := bB6.cell 2
   have hBl := bB6.lt
   have HP2 := hid (pr_at (h := hullO) (n := F.length) (by have := r6.toC hm4; rwa [← hTn] at this) hTn (by rw [hTn]; exact r6.len) (whoWf_perm HP.out HWho.out) hy1)
   have HY3 := hid hy3
   have HY2 := hid hy2
   clear bB6 hy1 hy2 hy3 hTn
   go_wp2_with fail
   refine HP2.out.mono ?_
   rintro e w7 ⟨vy, rfl, hRy, k7⟩
   clear HP2
   obtain ⟨gy, cy, rfl, hgy, hmy, hry⟩ := row_R hRy (by rw [HY2.out]; exact hxp)
   rw [HY2.out]
   have HRy := hid hry
   have hyc := hry.len
   rw [HY2.out] at hyc
   have f7 := f6.trans k7 (fun _ _ h => h)
   clear hRy hry b0 b1 b2 hBl k7 f6 r6
   go_wp2_with fail
   refine (clone_at ((HR3.out.fr f7 (fun h => h)).toC hcm) hcl (by omega)).mono ?_
   rintro e w8 ⟨vm, rfl, hRm, k8'⟩
   have k8 := Fr.of_below k8' (Nat.le_refl _) (fun _ => False)
   obtain ⟨gm, cm, rfl, hgm, hmm, hrm⟩ := row_R hRm (by omega)
   have hmc := hrm.len
   have f8 := f7.trans k8 (fun _ _ h => h)
   have HRm := hid hrm
   have HRy8 := hid (HRy.out.fr k8 (fun h => h))
   have HRx8 := hid (HRx.out.fr f8 (fun h => h))
   have hgx8 : gx < w7.heap.size := Nat.lt_of_lt_of_le HRx.out.lt f7.size
   have hgy8 : gy < w7.heap.size := HRy.out.lt
   have hgm3 : w3.heap.size ≤ gm := Nat.le_trans f7.size hgm
   have y1 : IntKind.i64.wrap by_ = by_ := IntWalk.i64_in _ (by omega)
   have y4 : IntKind.i64.wrap (1099511627776 + by_) = 1099511627776 + by_ := IntWalk.i64_in _ (by omega)
   clear hRm hrm k8 k8' f7 HRy
   go_wp2_with fail
   go_loopw [66] (fun v66 wr => ∃ i : Nat, i ≤ F.length ∧ v66 = .int .i64 (i : Int) ∧ Row wr gm cm (mvTo by_ F i) ∧ Fr (fun j => j = gm) w8 wr) (fun v66 _ => F.length - (intOf v66).toNat)
   case atStart => exact ⟨0, Nat.zero_le _, rfl, by simpa [mvTo] using HRm.out, Fr.refl _ _⟩
   case round =>
    obtain ⟨wq, rfl⟩ : ∃ wq : World, wq = wr := ⟨_, rfl⟩
    obtain ⟨i, hi, rfl, hr, hf⟩ := hrel
    by_cases hlt : i < F.length
    ·obtain ⟨c, hc⟩ : ∃ c, F[i]? = some c := ⟨_, List.getElem?_eq_getElem hlt⟩
     obtain ⟨d1, d2, d3, d4, d5⟩ := hr.at5 (mvTo_get (b := by_) hc)
     have q2 := hr.free (i * 5 + 2)
     have q3 := hr.free (i * 5 + 3)
     have hsp := HS.out c (List.mem_of_getElem? hc)
     unfold SpOk Tm MT at hsp
     have y2 : IntKind.i64.wrap (c.f1.f1 + by_) = c.f1.f1 + by_ := IntWalk.i64_in _ (by omega)
     have y3 : IntKind.i64.wrap (c.f1.f2 + by_) = c.f1.f2 + by_ := IntWalk.i64_in _ (by omega)
     have t1 : (i : Int) < (F.length : Int) := by omega
     have HRr := hid hr
     have HC := hid hc
     have lgm := hr.lt
     clear hr hc hsp d1 d2 d5
     go_wp2_with fail
     go_roundw
     case rel => exact ⟨i + 1, by omega, by go_num, HRr.out.mv HC.out, hf.trans (by (repeat' (first | (with_reducible exact Fr.refl _ _) | (with_reducible assumption) | (with_reducible refine Fr.alloc ?_ _) | (with_reducible refine Fr.drew ?_) | (with_reducible refine Fr.drewN ?_ _) | (with_reducible refine Fr.setCell ?_ _ _ ?_) | (exact Or.inr rfl) | (left; simp; done) | (left; simp; omega) | (simp; done) | (simp; omega) | omega))) (fun _ _ h => h)⟩
     case measure => simp [intOf]; omega
    ·obtain rfl : i = F.length := by omega
     have hrM : Row wq gm cm (F.map (mvC by_)) := by
      have : mvTo by_ F F.length = F.map (mvC by_) := by simp [mvTo]
      rw [← this]; exact hr
     have HP3 := hid (pr_at (h := ⟨9, by_, 1099511627776 + by_⟩) (n := F.length) (l := F.map (mvC by_)) (r := x.map (mvC by_)) (e := 0) (by have := hrM.toC hmm; rwa [List.length_map] at this) (by simp) hmc (whoWf_mv by_ HWho.out) (by
      have e : (⟨9, by_, 1099511627776 + by_⟩ : S24) = mvS by_ hullO := by unfold mvS hullO; simp
      rw [e]; exact HX.out.moved))
     have f9 : Fr (fun _ => False) w3 wq := f8.trans hf (fun j hj e => by omega)
     have HRx9 := hid (HRx8.out.fr hf (fun e => by omega))
     have HRy9 := hid (HRy8.out.fr hf (fun e => by omega))
     clear hlt hr hrM hf HRm HRx8 HRy8 hi
     go_wp2_with fail
     refine HP3.out.mono ?_
     rintro e w10 ⟨vz, rfl, hRz, k10⟩
     clear HP3
     obtain ⟨gz, cz, rfl, hgz, hmz, hrz⟩ := row_R hRz (by simpa using hxp)
     simp only [List.length_map]
     have HRz := hid hrz
     have hzc := hrz.len
     rw [List.length_map] at hzc
     have HCx := hid ((HRx9.out.fr k10 (fun h => h)).toC hmx)
     have HRy10 := hid (HRy9.out.fr k10 (fun h => h))
     have f10 := f9.trans k10 (fun _ _ h => h)
     clear hRz hrz f9 HRx9 HRy9 k10
     go_wp2_with fail
     refine (whos_at HCx.out rfl hxc hxp hxl).mono ?_
     rintro e w11 ⟨ga, ca, rfl, hca, hga, csa, k11⟩
     have HCy : Hid (Kd.C k27 w11 (some ⟨gy, 0, none⟩) x.length y) := hid (by have := (HRy10.out.fr k11 (fun h => h)).toC hmy; rwa [HY2.out] at this)
     have CSa := hid csa
     have lga := csa.2
     have f11 := f10.trans k11 (fun _ _ h => h)
     have HRz11 := hid (HRz.out.fr k11 (fun h => h))
     clear csa HRy10 HCx f10 HRz k11
     go_wp2_with fail
     refine (whos_at HCy.out HY2.out.symm hyc hxp hxl).mono ?_
     rintro e w12 ⟨gb, cb, rfl, hcb, hgb, csb, k12⟩
     have hsb := sortI_at (cap := cb) csb (by rw [List.length_map, HY2.out]; omega)
     rw [List.length_map, HY2.out, HY3.out] at hsb
     have HSB := hid hsb
     have CSa12 := hid (CSa.out.fr k12 (fun h => h))
     have f12 := f11.trans k12 (fun _ _ h => h)
     have HRz12 := hid (HRz11.out.fr k12 (fun h => h))
     have hgb3 : w3.heap.size ≤ gb := Nat.le_trans f11.size hgb
     have gab : gb ≠ ga := by omega
     have gzb : gb ≠ gz := by have := HRz11.out.lt; omega
     clear hsb csb CSa f11 HRz11 k12 HCy
     go_wp2_with fail
     refine HSB.out.mono ?_
     rintro e w13 ⟨rfl, csb, k13⟩
     clear HSB
     have CSb := hid csb
     have CSa13 := hid (CSa12.out.fr k13 gab.symm)
     have HRz13 := hid (HRz12.out.fr k13 gzb.symm)
     have f13 : Fr (fun _ => False) w3 w13 := f12.trans k13 (fun j hj e => by omega)
     clear csb CSa12 HRz12 f12 k13
     go_wp2_with fail
     refine (awk_at _).mono ?_
     rintro e w14 ⟨rfl, k14⟩
     have CSa14 := hid (CSa13.out.fr k14 (fun h => h))
     have HEq := hid (equalI_at (n := x.length) (c := ca) (d := cb) CSa14.out (CSb.out.fr k14 (fun h => h)) (by simp) hca hcb hxl)
     have HRz14 := hid (HRz13.out.fr k14 (fun h => h))
     have f14 := f13.trans k14 (fun _ _ h => h)
     clear CSa13 CSb HRz13 f13 k14
     go_wp2_with fail
     refine HEq.out.mono ?_
     rintro e w15 ⟨rfl, k15⟩
     clear HEq
     have HCz : Hid (Kd.C k27 w15 (some ⟨gz, 0, none⟩) x.length (x.map (mvC by_))) := hid (by have := (HRz14.out.fr k15 (fun h => h)).toC hmz; rwa [List.length_map] at this)
     have CSa15 := hid (CSa14.out.fr k15 (fun h => h))
     have f15 := f14.trans k15 (fun _ _ h => h)
     clear CSa14 HRz14 f14 k15
     go_wp2_with fail
     refine (whos_at HCz.out (by simp) hzc hxp hxl).mono ?_
     rintro e w16 ⟨gc, cc, rfl, hcc, hgc, csc, k16⟩
     have ec : (x.map (mvC by_)).map (·.f0) = x.map (·.f0) := by rw [List.map_map]; rfl
     rw [ec] at csc
     have HEq := hid (equalI_at (n := x.length) (c := ca) (d := cc) (CSa15.out.fr k16 (fun h => h)) csc (by simp) hca hcc hxl)
     have f16 := f15.trans k16 (fun _ _ h => h)
     clear csc ec HCz CSa15 f15 k16
     go_wp2_with fail
     refine HEq.out.mono ?_
     rintro e w17 ⟨rfl, k17⟩
     go_wp2_with fail
     go_ret
     exact ⟨rfl, F3.trans (f16.trans k17 (fun _ _ h => h)) (fun _ _ h => h)⟩
end Go.Proofs.Ytapagoaoglmegaa
