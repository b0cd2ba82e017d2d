/- Items in memory: a row of them, the heap's three cells, its map of places. -/
import Derived.Test.YtkcfhdnlmdndeaaMapF
import Derived.Test.YtkcfhdnlmdndeaaHeapIdx
import Derived.Test.YtkcfhdnlmdndeaaOpen
import Derived.Deep.RegionHeld3
namespace Go.Proofs.Ytkcfhdnlmdndeaa
open Go.RowKit Go.Proofs.YtkcfhdnlmdndeaaW.PrintWords Go.Proofs.YtkcfhdnlmdndeaaW.PrintLast Go.Proofs.YtkcfhdnlmdndeaaW.PrintMore PHp
set_option linter.unusedVariables false
set_option linter.unusedSimpArgs false

@[reducible] def oY : Bool := true
@[reducible] def oN : Bool := false
theorem hid {p : Prop} (h : p) : Hid p := h
theorem spot_none {w : World} {ad : Addr} {v : Value} (h : w.cell? ad = some v) : ∃ r off, ad = ⟨r, off, none⟩ := by
  obtain ⟨r, off, spot⟩ := ad
  cases spot with
  | none => exact ⟨r, off, rfl⟩
  | some s => simp only [World.cell?] at h; split at h <;> simp_all
theorem add_zero' (ad : Addr) : ad.add 0 = ad := by unfold Addr.add; simp
theorem add_none (r off k : Nat) : (⟨r, off, none⟩ : Addr).add k = ⟨r, off + k, none⟩ := by unfold Addr.add; split <;> simp_all
theorem take_snoc {α : Type} {l : List α} {i : Nat} {x : α} (h : l[i]? = some x) : l.take (i + 1) = l.take i ++ [x] := by
  rw [List.take_add_one, h]; rfl
def encI (c : It) : List Value := [.int .u64 c.f0, .int .u64 c.f1, .int .i64 c.f2]
/-- An item as a value. -/
@[reducible] def vI (c : It) : Value := .agg #[.int .u64 c.f0, .int .u64 c.f1, .int .i64 c.f2]
def ItOk (c : It) : Prop := (Lit.int .u64 c.f0).wf = true ∧ (Lit.int .u64 c.f1).wf = true ∧ (Lit.int .i64 c.f2).wf = true
/-- The three cells of an item. -/
def At3 (w : World) (r o : Nat) (c : It) : Prop :=
  w.cell? ⟨r, o, none⟩ = some (.int .u64 c.f0) ∧ w.cell? ⟨r, o + 1, none⟩ = some (.int .u64 c.f1) ∧ w.cell? ⟨r, o + 2, none⟩ = some (.int .i64 c.f2)
theorem At3.fr {w w' : World} {r o : Nat} {c : It} {S : Nat → Prop} (h : At3 w r o c) (k : Fr S w w') (hs : ¬ S r) : At3 w' r o c := by
  have hb := World.block_lt_of_cell? w _ h.1
  exact ⟨(k.cell (a := ⟨r, o, none⟩) hb hs).trans h.1, (k.cell (a := ⟨r, o + 1, none⟩) hb hs).trans h.2.1, (k.cell (a := ⟨r, o + 2, none⟩) hb hs).trans h.2.2⟩

/-- Block g is a row of type t, of room for cap items, of which the first are L. -/
def Row (t : TypeId) (w : World) (g cap : Nat) (L : List It) : Prop :=
  ∃ cur : Array Value, Blk w g cur t ∧ cur.size = cap * 3 ∧ L.length ≤ cap ∧ ∀ i c, L[i]? = some c → ∀ j v, (encI c)[j]? = some v → cur[i * 3 + j]? = some v
section
variable {t : TypeId} {w w' : World} {g cap : Nat} {L : List It}
theorem Row.lt (h : Row t w g cap L) : g < w.heap.size := by obtain ⟨cur, hb, _⟩ := h; exact hb.lt
theorem Row.len (h : Row t w g cap L) : L.length ≤ cap := by obtain ⟨cur, _, _, h, _⟩ := h; exact h
theorem Row.fr {S : Nat → Prop} (h : Row t w g cap L) (k : Fr S w w') (hs : ¬ S g) : Row t w' g cap L := by
  obtain ⟨cur, hb, h1, h2, h3⟩ := h
  exact ⟨cur, hb.fr k hs, h1, h2, h3⟩
theorem Row.drew (h : Row t w g cap L) : Row t w.drew g cap L := h
theorem Row.ne {b : Nat} {cs : Array Value} {u : TypeId} (h : Row t w g cap L) (k : Blk w b cs u) (e : t ≠ u) : g ≠ b := by
  rintro rfl
  obtain ⟨cur, hb, _⟩ := h
  exact e (hb.one k).2
theorem Row.at3 (h : Row t w g cap L) {i : Nat} {c : It} (hi : L[i]? = some c) : At3 w g (i * 3) c := by
  obtain ⟨cur, hb, h1, h2, h3⟩ := h
  have k := h3 i c hi
  exact ⟨(hb.cell _).trans (k 0 _ rfl), (hb.cell _).trans (k 1 _ rfl), (hb.cell _).trans (k 2 _ rfl)⟩
theorem Row.free (h : Row t w g cap L) (o : Nat) : w.frozen? ⟨g, o, none⟩ = false := by
  obtain ⟨cur, hb, _⟩ := h; exact hb.free o
theorem Row.there (h : Row t w g cap L) {o : Nat} (ho : o < cap * 3) : ∃ v, w.cell? ⟨g, o, none⟩ = some v ∧ w.frozen? ⟨g, o, none⟩ = false := by
  obtain ⟨cur, hb, h1, h2, h3⟩ := h
  exact ⟨cur[o]'(by omega), by rw [hb.cell, Array.getElem?_eq_getElem (by omega)], hb.free o⟩
theorem Row.take (h : Row t w g cap L) (n : Nat) : Row t w g cap (L.take n) := by
  obtain ⟨cur, hb, h1, h2, h3⟩ := h
  refine ⟨cur, hb, h1, by simp; omega, fun i c hi => h3 i c ?_⟩
  rw [List.getElem?_take] at hi
  split at hi
  · exact hi
  · cases hi
/-- An item is laid in a place. -/
theorem Row.set3 (h : Row t w g cap L) {i : Nat} (hi : i < L.length) (c : It) :
    Row t (((w.setCell ⟨g, i * 3, none⟩ (.int .u64 c.f0)).setCell ⟨g, i * 3 + 1, none⟩ (.int .u64 c.f1)).setCell ⟨g, i * 3 + 2, none⟩ (.int .i64 c.f2)) g cap (L.set i c) := by
  obtain ⟨cur, hb, h1, h2, h3⟩ := h
  refine ⟨_, (((hb.set rfl).set rfl).set rfl), by simpa using h1, by simpa using h2, fun m d hm j v hj => ?_⟩
  have hlt : i * 3 + 2 < cur.size := by omega
  have hj5 : j < 3 := by have := (List.getElem?_eq_some_iff.1 hj).1; simpa [encI] using this
  rw [List.getElem?_set] at hm
  by_cases e : i = m
  · subst e
    rw [if_pos rfl, if_pos hi] at hm
    obtain rfl := Option.some.inj hm
    simp only [Array.getElem?_setIfInBounds, Array.size_setIfInBounds]
    match j, hj5, hj with
    | 0, _, hj => simp [encI] at hj ⊢; exact ⟨by omega, hj⟩
    | 1, _, hj => simp [encI] at hj ⊢; exact ⟨by omega, hj⟩
    | 2, _, hj => simp [encI] at hj ⊢; exact ⟨by omega, hj⟩
  · rw [if_neg e] at hm
    have := h3 m d hm j v hj
    have ne : ∀ q, q < 3 → i * 3 + q ≠ m * 3 + j := by intro q hq; omega
    have n0 : i * 3 ≠ m * 3 + j := by omega
    simp only [Array.getElem?_setIfInBounds]
    rw [if_neg (ne 2 (by omega)), if_neg (ne 1 (by omega)), if_neg n0]
    exact this
end
theorem k24_enc (w : World) (x : It) : k24.K w x (encI x) := k24_mk w x
theorem Row.toC {t : TypeId} {w : World} {g cap : Nat} {L : List It} (h : Row t w g cap L) (hm : cap ≤ maxLen) : Kd.C k24 w (some ⟨g, 0, none⟩) L.length L := by
  refine ⟨rfl, by have := h.len; unfold maxLen at hm; omega, fun _ => ⟨_, rfl, fun j p hj => ⟨encI p, rfl, k24_mk w p, fun i u hi => ?_⟩⟩⟩
  obtain ⟨cur, hb, h1, h2, h3⟩ := h
  rw [add_none, Nat.zero_add]
  exact (hb.cell _).trans (h3 j p hj i u hi)
/-- A slice of the call's own, as the print tells it. -/
theorem Row.of_R {w : World} {base : Nat} {ok : Nat → Prop} {v : Value} {xs : List It} (h : Kd.R k24 24 w base ok v xs) :
    (v = .slice none 0 0 ∧ xs = []) ∨ ∃ g cap, v = .slice (some ⟨g, 0, none⟩) xs.length cap ∧ base ≤ g ∧ cap ≤ maxLen ∧ Row 24 w g cap xs := by
  obtain ⟨h0, inner, ⟨hl, ho⟩, hr⟩ := h
  rcases ho with ⟨rfl, hn⟩ | ⟨g, cap, cur, rfl, hg, hh, hnc, hcm, hsz, hin⟩
  · exact .inl ⟨rfl, List.eq_nil_of_length_eq_zero hn⟩
  · refine .inr ⟨g, cap, rfl, hg, hcm, cur, hh, hsz, hnc, fun i c hi j v hj => ?_⟩
    have hk := hr.2 i c hi
    have he := k24_openM hk
    have hil := (List.getElem?_eq_some_iff.1 hi).1
    have hj5 : j < 3 := by have := (List.getElem?_eq_some_iff.1 hj).1; simpa [encI] using this
    have hsz5 : (k24 : Kd S24).sz = 3 := rfl
    rw [hsz5] at he hin
    have e1 : (List.take 3 (List.drop (i * 3) inner))[j]? = some v := by rw [he]; exact hj
    rw [List.getElem?_take_of_lt hj5, List.getElem?_drop, ← hin, List.getElem?_take_of_lt (by omega)] at e1
    simpa using e1
theorem Row.to_R {w : World} {g cap : Nat} {L : List It} (h : Row 24 w g cap L) {base : Nat} (hb : base ≤ g) (hm : cap ≤ maxLen) : Kd.R k24 24 w base (fun _ => True) (.slice (some ⟨g, 0, none⟩) L.length cap) L := by
  obtain ⟨cur, hblk, h1, h2, h3⟩ := h
  refine ⟨fun _ _ => trivial, cur.toList.take (L.length * 3), ⟨?_, .inr ⟨g, cap, cur, rfl, hb, hblk, h2, hm, h1, rfl⟩⟩, ?_, fun j p hj => ?_⟩
  · have : (k24 : Kd S24).sz = 3 := rfl
    rw [this, List.length_take]; simp; omega
  · have : (k24 : Kd S24).sz = 3 := rfl
    rw [this, List.length_take]; simp; omega
  · have hsz5 : (k24 : Kd S24).sz = 3 := rfl
    rw [hsz5]
    have hjl := (List.getElem?_eq_some_iff.1 hj).1
    have e : List.take 3 (List.drop (j * 3) (List.take (L.length * 3) cur.toList)) = encI p := by
      apply List.ext_getElem?
      intro i
      by_cases hi : i < 3
      · rw [List.getElem?_take_of_lt hi, List.getElem?_drop, List.getElem?_take_of_lt (by omega)]
        obtain ⟨v, hv⟩ : ∃ v, (encI p)[i]? = some v := ⟨(encI p)[i]'(by simpa [encI] using hi), List.getElem?_eq_getElem _⟩
        rw [hv]
        simpa using h3 j p hj i v hv
      · rw [List.getElem?_eq_none (by simp; omega), List.getElem?_eq_none (by simp [encI]; omega)]
    rw [e]
    exact k24_mkM w base _ p
theorem MF.ne {K : TypeId} {q : IntKind} {w : World} {m n b : Nat} {f : Int → Option Value} {cs : Array Value} {t : TypeId} (h : MF K q w m n f) (k : Blk w b cs t) : m ≠ b := by
  rintro rfl
  obtain ⟨D, ⟨es, clock, hb, _⟩, _⟩ := h
  unfold Blk at k
  rw [hb] at k
  cases k
theorem MF.ner {K : TypeId} {q : IntKind} {w : World} {m n g cap : Nat} {f : Int → Option Value} {L : List It} {t : TypeId} (h : MF K q w m n f) (k : Row t w g cap L) : m ≠ g := by
  obtain ⟨cur, hb, _⟩ := k
  exact h.ne hb
/-- Places as a map's values. -/
def plF (g : Int → Option Nat) : Int → Option Value := fun k => (g k).map (fun i => .int .i64 (i : Int))
theorem plF_put (g : Int → Option Nat) (k : Int) (i : Nat) : putF (plF g) k (.int .i64 (i : Int)) = plF (put g k i) := by
  funext j; unfold putF plF put; split <;> rfl
theorem plF_del (g : Int → Option Nat) (k : Int) : delF (plF g) k = plF (del g k) := by
  funext j; unfold delF plF del; split <;> rfl
theorem Blk.c3 {w : World} {b : Nat} {x y z : Value} {t : TypeId} (h : Blk w b #[x, y, z] t) : w.cell? ⟨b, 0, none⟩ = some x ∧ w.cell? ⟨b, 1, none⟩ = some y ∧ w.cell? ⟨b, 2, none⟩ = some z ∧ w.frozen? ⟨b, 0, none⟩ = false ∧ w.frozen? ⟨b, 1, none⟩ = false ∧ w.frozen? ⟨b, 2, none⟩ = false :=
  ⟨h.cell 0, h.cell 1, h.cell 2, h.free 0, h.free 1, h.free 2⟩
theorem Blk.set3 {w : World} {b : Nat} {x y z : Value} {t : TypeId} (h : Blk w b #[x, y, z] t) (x' y' z' : Value) : Blk (((w.setCell ⟨b, 0, none⟩ x').setCell ⟨b, 1, none⟩ y').setCell ⟨b, 2, none⟩ z') b #[x', y', z'] t :=
  ((h.set rfl).set rfl).set rfl
/-- A heap: its struct is block b, its row's block g, its map's block m. -/
structure Hp (w : World) (b g m cap : Nat) (L : List It) (f : Int → Option Nat) (n : Nat) (size : Int) : Prop where
  blk : Blk w b #[.slice (some ⟨g, 0, none⟩) L.length cap, .map (some m), .int .i64 size] 94
  row : Row 24 w g cap L
  cap : cap ≤ maxLen
  map : MF 22 .u64 w m n (plF f)
  gb : g ≠ b
  mb : m ≠ b
  mg : m ≠ g
theorem Hp.fr {S : Nat → Prop} {w w' : World} {b g m cap n : Nat} {L : List It} {f : Int → Option Nat} {size : Int} (h : Hp w b g m cap L f n size) (k : Fr S w w') (hb : ¬ S b) (hg : ¬ S g) (hm : ¬ S m) : Hp w' b g m cap L f n size :=
  ⟨h.blk.fr k hb, h.row.fr k hg, h.cap, h.map.fr k hm, h.gb, h.mb, h.mg⟩
theorem Hp.fr0 {w w' : World} {b g m cap n : Nat} {L : List It} {f : Int → Option Nat} {size : Int} (h : Hp w b g m cap L f n size) (k : Fr (fun _ => False) w w') : Hp w' b g m cap L f n size :=
  h.fr k (fun h => h) (fun h => h) (fun h => h)
theorem Hp.small {w : World} {b g m cap n : Nat} {L : List It} {f : Int → Option Nat} {size : Int} (h : Hp w b g m cap L f n size) : L.length ≤ 9223372036854775807 := by
  have := h.cap; have := h.row.len; unfold maxLen at *; omega
end Go.Proofs.Ytkcfhdnlmdndeaa
