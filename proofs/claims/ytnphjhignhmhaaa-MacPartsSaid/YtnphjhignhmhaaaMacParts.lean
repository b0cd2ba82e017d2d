/- MacParts: how bytes are parted does not matter. -/
import Derived.Test.YtnphjhignhmhaaaMacWords
namespace Go.Proofs.Ytnphjhignhmhaaa
open Go.RowKit
set_option linter.unusedVariables false
set_option linter.unusedSimpArgs false
set_option maxRecDepth 100000

/-- A row of bytes that is read. -/
theorem Byt.of_rds {w : World} {A : Option Addr} {len cap : Nat} (h : RdS [.i .u8] w A len cap) : ∃ l : List Int, l.length = len ∧ Byt w (.slice A len cap) l := by
  have hle : len ≤ cap ∧ cap ≤ maxLen := by
    rcases h with ⟨_, h1, h2⟩ | ⟨_, _, _, h1, h2, _⟩ <;> exact ⟨h1, h2⟩
  have hx : ∀ i, ∃ c : Int, i < len → Byte c ∧ ∃ b off, A = some ⟨b, off, none⟩ ∧ w.cell? ⟨b, off + i, none⟩ = some (.int .u8 c) ∧ b < w.heap.size := by
    intro i
    by_cases hi : i < len
    · obtain ⟨b, off, n, hA, hc, hn, hb⟩ := h.num hi
      have hm' : 0 ≤ n ∧ n ≤ 255 := by simp [Lit.wf, IntKind.min, IntKind.max, IntKind.bits, IntKind.signed] at hn; omega
      exact ⟨n, fun _ => ⟨hm', b, off, hA, hc, hb⟩⟩
    · exact ⟨0, fun h => absurd h hi⟩
  obtain ⟨f, hf⟩ := Classical.axiomOfChoice hx
  refine ⟨(List.range len).map f, by simp, ?_⟩
  refine ⟨A, cap, by simp, by simpa using hle.1, hle.2, ?_, ?_⟩
  · intro c hc
    obtain ⟨i, hi, rfl⟩ := List.mem_map.1 hc
    exact (hf i (List.mem_range.1 hi)).1
  · rcases Nat.eq_zero_or_pos len with h0 | h0
    · exact .inl (by subst h0; rfl)
    · obtain ⟨_, b, off, hA, _, hb⟩ := hf 0 h0
      refine .inr ⟨b, off, hA, hb, fun i c hi => ?_⟩
      rw [List.getElem?_map] at hi
      obtain ⟨j, hj, rfl⟩ := Option.map_eq_some_iff.1 hi
      have hj' := List.getElem?_eq_some_iff.1 hj
      obtain ⟨h1, h2⟩ := hj'
      simp at h1 h2
      subst h2
      obtain ⟨_, b', off', hA', hc', _⟩ := hf i h1
      rw [hA] at hA'
      injection hA' with e
      injection e with e1 e2
      subst e1 e2
      exact hc'
theorem add_none (r off k : Nat) : (⟨r, off, none⟩ : Addr).add k = ⟨r, off + k, none⟩ := by unfold Addr.add; split <;> simp_all
/-- A part of a row of bytes. -/
theorem Byt.sub {w : World} {a : Addr} {len cap : Nat} {l : List Int} (h : Byt w (.slice (some a) len cap) l) (i n : Nat) (hn : i + n ≤ len) : Byt w (.slice (some (a.add i)) n (cap - i)) ((l.drop i).take n) := by
  obtain ⟨A, cap', hv, h1, h2, h3, h4⟩ := h
  injection hv with e1 e2 e3
  subst e1 e2 e3
  have e : ((l.drop i).take n).length = n := by simp; omega
  refine ⟨_, cap - i, by rw [e], by rw [e]; omega, by omega, fun c hc => h3 c (List.mem_of_mem_drop (List.mem_of_mem_take hc)), ?_⟩
  rcases h4 with h4 | ⟨r, off, hA, hr, hc⟩
  · exact .inl (by subst h4; simp)
  · injection hA with hA
    subst hA
    refine .inr ⟨r, off + i, by rw [add_none], hr, fun j c hj => ?_⟩
    rw [List.getElem?_take] at hj
    split at hj
    · rw [List.getElem?_drop] at hj
      have := hc (i + j) c hj
      rwa [← Nat.add_assoc] at this
    · cases hj
theorem ByteDrop {w : World} {a : Addr} {len cap : Nat} {l : List Int} (h : Byt w (.slice (some a) len cap) l) (i : Nat) (hn : i ≤ len) : Byt w (.slice (some (a.add i)) (len - i) (cap - i)) (l.drop i) := by
  have hl : l.length = len := by obtain ⟨_, _, hv, _⟩ := h; injection hv with _ e2 _; exact e2.symm
  have := h.sub i (len - i) (by omega)
  rwa [List.take_of_length_le (by simp; omega)] at this
theorem Byt.subI {w : World} {a : Addr} {len cap : Nat} {l : List Int} (h : Byt w (.slice (some a) len cap) l) (i n : Nat) (hn : i + n ≤ len) : Byt w (.slice (if cap = i then some a else some (a.add i)) n (cap - i)) ((l.drop i).take n) := by
  split
  · have h' := h.sub i n hn
    have hl : l.length = len ∧ len ≤ cap := by obtain ⟨_, _, hv, h1, _⟩ := h; injection hv with _ e2 e3; omega
    have hn0 : n = 0 := by omega
    subst hn0
    obtain ⟨A, c, hv, h1, h2, h3, h4⟩ := h'
    injection hv with _ e2 e3
    exact ⟨some a, cap - i, by simp, by simp, by omega, h3, .inl (by simp)⟩
  · exact h.sub i n hn
theorem ByteDropI {w : World} {a : Addr} {len cap : Nat} {l : List Int} (h : Byt w (.slice (some a) len cap) l) (i : Nat) (hn : i ≤ len) : Byt w (.slice (if cap = i then some a else some (a.add i)) (len - i) (cap - i)) (l.drop i) := by
  have hl : l.length = len := by obtain ⟨_, _, hv, _⟩ := h; injection hv with _ e2 _; exact e2.symm
  have := h.subI i (len - i) (by omega)
  rwa [List.take_of_length_le (by simp; omega)] at this
theorem Byt.pre {w : World} {A : Option Addr} {len cap : Nat} {l : List Int} (h : Byt w (.slice A len cap) l) (n : Nat) (hn : n ≤ len) : Byt w (.slice A n cap) (l.take n) := by
  obtain ⟨A', cap', hv, h1, h2, h3, h4⟩ := h
  injection hv with e1 e2 e3
  subst e1 e2 e3
  have e : (l.take n).length = n := by simp; omega
  refine ⟨_, cap, by rw [e], by rw [e]; omega, h2, fun c hc => h3 c (List.mem_of_mem_take hc), ?_⟩
  rcases h4 with h4 | ⟨r, off, hA, hr, hc⟩
  · exact .inl (by subst h4; simp)
  · refine .inr ⟨r, off, hA, hr, fun j c hj => ?_⟩
    rw [List.getElem?_take] at hj
    split at hj
    · exact hc j c hj
    · cases hj

theorem Byt.one_of {w : World} {ad : Addr} {len cap i : Nat} {l : List Int} {c : Int} (h : Byt w (.slice (some ad) len cap) l) (hc : l[i]? = some c) : Byt w (.slice (some (ad.add i)) 1 (cap - i)) [c] := by
  have hl : l.length = len := by obtain ⟨_, _, hv, _⟩ := h; injection hv with _ e2 _; exact e2.symm
  have hi := (List.getElem?_eq_some_iff.1 hc).1
  have := h.sub i 1 (by omega)
  have e : (l.drop i).take 1 = [c] := by
    rw [List.drop_eq_getElem_cons hi]
    obtain ⟨_, h2⟩ := List.getElem?_eq_some_iff.1 hc
    simp [h2]
  rwa [e] at this
/-- Values that read as parts. -/
def Alls (w : World) (vals : List Value) (ls : List (List Int)) : Prop := vals.length = ls.length ∧ ∀ (i : Nat) (l : List Int), ls[i]? = some l → ∃ u, vals[i]? = some u ∧ Byt w u l
theorem Alls.nil (w : World) : Alls w [] [] := ⟨rfl, by simp⟩
theorem Alls.snoc2 {w : World} {vals : List Value} {ls : List (List Int)} {u v : Value} {l m : List Int} (h : Alls w vals ls) (hu : Byt w u l) (hv : Byt w v m) : Alls w (vals ++ [u, v]) (ls ++ [l, m]) := by
  refine ⟨by simp [h.1], fun i l' hi => ?_⟩
  rw [List.getElem?_append] at hi
  split at hi
  · rename_i hlt
    rw [List.getElem?_append_left (by rw [h.1]; exact hlt)]
    exact h.2 i l' hi
  · rename_i hlt
    rw [List.getElem?_append_right (by rw [h.1]; omega), h.1]
    generalize i - ls.length = j at *
    match j, hi with
    | 0, hi => simp at hi; subst hi; exact ⟨u, rfl, hu⟩
    | 1, hi => simp at hi; subst hi; exact ⟨v, rfl, hv⟩
theorem Parts.of_alls {w w' : World} {v : Value} {vals : List Value} {ls : List (List Int)} (h : Lst w' 28 v vals) (ha : Alls w vals ls) (f : Fr (fun _ => False) w w') : Parts w' v ls := by
  obtain ⟨A, cap, rfl, h1, h2, h3⟩ := h
  rw [ha.1] at h1 ⊢
  refine ⟨A, cap, rfl, h1, h2, ?_⟩
  rcases h3 with h3 | ⟨r, off, cs, hA, hb, hc⟩
  · left
    apply List.eq_nil_of_length_eq_zero
    rw [← ha.1, h3]; rfl
  · refine .inr ⟨r, off, hA, hb.lt, fun i l' hi => ?_⟩
    obtain ⟨u, hu, hy⟩ := ha.2 i l' hi
    exact ⟨u, by rw [hb.cell]; exact hc i u hu, hy.fr f (fun _ _ h => h)⟩
def eachL (l : List Int) (i : Nat) : List (List Int) := (l.take i).flatMap fun c => [[c], []]
theorem eachL_succ {l : List Int} {i : Nat} {c : Int} (h : l[i]? = some c) : eachL l (i + 1) = eachL l i ++ [[c], []] := by
  unfold eachL; rw [take_snoc h, List.flatMap_append]; rfl
theorem eachL_length {l : List Int} {i : Nat} (h : i ≤ l.length) : (eachL l i).length = 2 * i := by
  have key : ∀ m : List Int, (m.flatMap fun c => [[c], ([] : List Int)]).length = 2 * m.length := by
    intro m
    induction m with
    | nil => rfl
    | cons c m ih => rw [List.flatMap_cons, List.length_append, ih]; simp; omega
  unfold eachL
  rw [key, List.length_take]
  omega
theorem eachL_flat (l : List Int) (n : Nat) : (eachL l n).flatten = l.take n := by
  unfold eachL
  generalize l.take n = m
  induction m with
  | nil => rfl
  | cons c m ih => rw [List.flatMap_cons, List.flatten_append, ih]; simp
theorem infoBytes : (Try.prog.info? 28).map (fun i => (i.zero, i.size, i.bytes)) = some (some (.slice none 0 0), 1, 24) := by kernel_rfl
theorem Parts.five {w : World} {g : Nat} {u0 u1 u2 u3 u4 : Value} {l0 l1 l2 l3 l4 : List Int} (h0 : w.cell? ⟨g, 0, none⟩ = some u0) (h1 : w.cell? ⟨g, 1, none⟩ = some u1) (h2 : w.cell? ⟨g, 2, none⟩ = some u2) (h3 : w.cell? ⟨g, 3, none⟩ = some u3) (h4 : w.cell? ⟨g, 4, none⟩ = some u4)
    (hg : g < w.heap.size) (b0 : Byt w u0 l0) (b1 : Byt w u1 l1) (b2 : Byt w u2 l2) (b3 : Byt w u3 l3) (b4 : Byt w u4 l4) : Parts w (.slice (some ⟨g, 0, none⟩) 5 5) [l0, l1, l2, l3, l4] :=
  ⟨_, 5, rfl, by simp, by simp [maxLen], .inr ⟨g, 0, rfl, hg, fun i l' hi => by
    match i, hi with
    | 0, hi => simp at hi; subst hi; exact ⟨_, h0, b0⟩
    | 1, hi => simp at hi; subst hi; exact ⟨_, h1, b1⟩
    | 2, hi => simp at hi; subst hi; exact ⟨_, h2, b2⟩
    | 3, hi => simp at hi; subst hi; exact ⟨_, h3, b3⟩
    | 4, hi => simp at hi; subst hi; exact ⟨_, h4, b4⟩⟩⟩
theorem tag_u64 (a b : Int) (l : List Int) : U64 (tagOf a b l) := by unfold tagOf close; exact U64.xr _ _
theorem right_no {w : World} {k a b : Int} {v : Value} {ls : List (List Int)} {T T1 : Int} (h1 : IntKind.u64.wrap (T + 1) = T1) (hp : Parts w v ls) (hT : T = tagOf a b ls.flatten) (hs : ls.flatten.length ≤ 4611686018427387904) :
    Calls Try.prog 11 #[.agg #[.int .u32 k, .int .u64 a, .int .u64 b], .int .u64 T1, v] w fun e w' => e = .returned (.bool false) ∧ Fr (fun _ => False) w w' := by
  have h := right_at (k := k) (a := a) (b := b) (t := T1) hp hs
  have hu := tag_u64 a b ls.flatten
  rw [← hT] at h hu
  unfold U64 at hu
  have e : (T == T1) = false := by rw [← h1, wrap_u64]; simp; omega
  rw [e] at h
  exact h
theorem parts5 {l : List Int} {x y : Nat} (h : x ≤ y) : [[], l.take x, (l.drop x).take (y - x), [], l.drop y].flatten = l := by
  simp only [List.flatten_cons, List.flatten_nil, List.nil_append, List.append_nil]
  have e : l.drop y = (l.drop x).drop (y - x) := by rw [List.drop_drop]; congr 1; omega
  rw [e, List.take_append_drop, List.take_append_drop]
theorem parts2 {l : List Int} {x : Nat} : [l.take x, l.drop x].flatten = l := by
  simp [List.take_append_drop]
/-- What the calls of MacParts find. -/
def MP (W : World) (g0 : Nat) (k a b : Int) (p0 p1 p2 p3 p4 p5 va : Value) (l : List Int) (le : List (List Int)) (x y : Nat) (w' : World) : Prop :=
  w'.cell? ⟨g0, 0, none⟩ = some (.int .u32 k) ∧ w'.cell? ⟨g0, 1, none⟩ = some (.int .u64 a) ∧ w'.cell? ⟨g0, 2, none⟩ = some (.int .u64 b) ∧
  Byt w' p0 (l.take x) ∧ Byt w' p1 (l.drop x) ∧ Byt w' p2 ((l.drop x).take (y - x)) ∧ Byt w' p3 (l.drop y) ∧ Byt w' p4 (l.take y) ∧ Byt w' p5 l ∧ Byt w' (.slice none 0 0) [] ∧ Parts w' va le ∧ Fr (fun _ => False) W w'
theorem MP.fr {W : World} {g0 : Nat} {k a b : Int} {p0 p1 p2 p3 p4 p5 va : Value} {l : List Int} {le : List (List Int)} {x y : Nat} {w w' : World} (f : Fr (fun _ => False) w w') (h : MP W g0 k a b p0 p1 p2 p3 p4 p5 va l le x y w) : MP W g0 k a b p0 p1 p2 p3 p4 p5 va l le x y w' := by
  obtain ⟨a0, a1, a2, b0, b1, b2, b3, b4, b5, b6, b7, hf⟩ := h
  have key : ∀ {g i : Nat} {v : Value}, w.cell? ⟨g, i, none⟩ = some v → w'.cell? ⟨g, i, none⟩ = some v := fun h => (f.cell (World.block_lt_of_cell? w _ h) (fun h => h)).trans h
  exact ⟨key a0, key a1, key a2, b0.fr f (fun _ _ h => h), b1.fr f (fun _ _ h => h), b2.fr f (fun _ _ h => h), b3.fr f (fun _ _ h => h), b4.fr f (fun _ _ h => h), b5.fr f (fun _ _ h => h), b6.fr f (fun _ _ h => h), b7.fr f (fun _ _ h => h), hf.trans f (fun _ _ h => h)⟩
end Go.Proofs.Ytnphjhignhmhaaa
