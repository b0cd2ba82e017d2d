/- MacWords: a key's number does not matter. -/
import Derived.Test.YtnphjhignhmhaaaMacWakes2
import Derived.Test.YtnphjhignhmhaaaOpen
import Derived.Deep.RegionHeld3
namespace Go.Proofs.Ytnphjhignhmhaaa
open Go.RowKit
set_option linter.unusedVariables false
set_option linter.unusedSimpArgs false
set_option maxRecDepth 100000

theorem key_of {c : List Value} (h : okAll [.i .u32, .i .u64, .i .u64] c) : ∃ k a b : Int, c = [.int .u32 k, .int .u64 a, .int .u64 b] := by
  match c, h with
  | [u, v, x], h =>
    obtain ⟨⟨n, rfl, _⟩, ⟨m, rfl, _⟩, ⟨o, rfl, _⟩, _⟩ := h
    exact ⟨n, m, o, rfl⟩
theorem bytes_of : ∀ (n : Nat) (c : List Value), okAll (List.replicate n (.i .u8)) c → ∃ l : List Int, c = bys l ∧ l.length = n ∧ ∀ c ∈ l, Byte c
  | 0, [], _ => ⟨[], rfl, rfl, by simp⟩
  | n + 1, v :: vs, h => by
    rw [List.replicate_succ] at h
    obtain ⟨⟨m, rfl, hm⟩, h⟩ := h
    obtain ⟨l, rfl, h1, h2⟩ := bytes_of n vs h
    have hm' : 0 ≤ m ∧ m ≤ 255 := by simp [Lit.wf, IntKind.min, IntKind.max, IntKind.bits, IntKind.signed] at hm; omega
    refine ⟨m :: l, rfl, by simp [h1], ?_⟩
    intro c hc
    rcases List.mem_cons.1 hc with rfl | hc
    · unfold Byte; omega
    · exact h2 c hc

/-- A part of a block of bytes. -/
theorem Byt.blk {w : World} {g : Nat} {t : TypeId} {l : List Int} (h : Blk w g (bys l).toArray t) (hb : ∀ c ∈ l, Byte c) (off n cap : Nat) (hn : off + n ≤ l.length) (hc : n ≤ cap) (hm : cap ≤ maxLen) :
    Byt w (.slice (some ⟨g, off, none⟩) n cap) ((l.drop off).take n) := by
  have e : ((l.drop off).take n).length = n := by simp; omega
  refine ⟨_, cap, by rw [e], by rw [e]; exact hc, hm, fun c hc => hb c (List.mem_of_mem_drop (List.mem_of_mem_take hc)), .inr ⟨g, off, rfl, h.lt, fun i c hi => ?_⟩⟩
  rw [h.cell]
  rw [List.getElem?_take] at hi
  split at hi
  · rw [List.getElem?_drop] at hi
    simp [bys, hi]
  · cases hi
theorem Parts.two {w : World} {g : Nat} {u v : Value} {l l' : List Int} (h : w.cell? ⟨g, 0, none⟩ = some u) (h' : w.cell? ⟨g, 1, none⟩ = some v) (hg : g < w.heap.size) (hb : Byt w u l) (hb' : Byt w v l') :
    Parts w (.slice (some ⟨g, 0, none⟩) 2 2) [l, l'] :=
  ⟨_, 2, rfl, by simp, by simp [maxLen], .inr ⟨g, 0, rfl, hg, fun i l' hi => by
    match i, hi with
    | 0, hi => simp at hi; subst hi; exact ⟨u, h, hb⟩
    | 1, hi => simp at hi; subst hi; exact ⟨v, h', hb'⟩⟩⟩

theorem get8 (b0 b1 b2 b3 b4 b5 b6 b7 : Int) (hb : ∀ c ∈ [b0, b1, b2, b3, b4, b5, b6, b7], Byte c) : ∀ (e : Nat) (he : e < 8),
    ∃ x : Int, [Value.int .u8 b0, .int .u8 b1, .int .u8 b2, .int .u8 b3, .int .u8 b4, .int .u8 b5, .int .u8 b6, .int .u8 b7][e]'(by simpa using he) = .int .u8 x ∧ Byte x
  | 0, _ => ⟨b0, rfl, hb _ (by simp)⟩
  | 1, _ => ⟨b1, rfl, hb _ (by simp)⟩
  | 2, _ => ⟨b2, rfl, hb _ (by simp)⟩
  | 3, _ => ⟨b3, rfl, hb _ (by simp)⟩
  | 4, _ => ⟨b4, rfl, hb _ (by simp)⟩
  | 5, _ => ⟨b5, rfl, hb _ (by simp)⟩
  | 6, _ => ⟨b6, rfl, hb _ (by simp)⟩
  | 7, _ => ⟨b7, rfl, hb _ (by simp)⟩
theorem tag_is {w : World} {k a b : Int} {v : Value} {ls : List (List Int)} {T : Int} (hp : Parts w v ls) (hT : T = tagOf a b ls.flatten) (hs : ls.flatten.length ≤ 4611686018427387904) :
    Calls Try.prog 10 #[.agg #[.int .u32 k, .int .u64 a, .int .u64 b], v] w fun e w' => e = .returned (.int .u64 T) ∧ Fr (fun _ => False) w w' := by
  subst hT
  exact tag_at hp hs
theorem right_is {w : World} {k a b : Int} {v : Value} {ls : List (List Int)} {T : Int} (hp : Parts w v ls) (hT : T = tagOf a b ls.flatten) (hs : ls.flatten.length ≤ 4611686018427387904) :
    Calls Try.prog 11 #[.agg #[.int .u32 k, .int .u64 a, .int .u64 b], .int .u64 T, v] w fun e w' => e = .returned (.bool true) ∧ Fr (fun _ => False) w w' := by
  subst hT
  have := right_at (k := k) (a := a) (b := b) (t := tagOf a b ls.flatten) hp hs
  simpa using this

/-- What the calls of MacWords find. -/
def MW (W : World) (g0 g1 g2 g3 : Nat) (k id a b : Int) (l m : List Int) (w' : World) : Prop :=
  w'.cell? ⟨g0, 0, none⟩ = some (.int .u32 k) ∧ w'.cell? ⟨g0, 1, none⟩ = some (.int .u64 a) ∧ w'.cell? ⟨g0, 2, none⟩ = some (.int .u64 b) ∧
  w'.cell? ⟨g2, 0, none⟩ = some (.int .u32 id) ∧ w'.cell? ⟨g2, 1, none⟩ = some (.int .u64 a) ∧ w'.cell? ⟨g2, 2, none⟩ = some (.int .u64 b) ∧
  Byt w' (.slice (some ⟨g1, 0, none⟩) 8 8) l ∧ Byt w' (.slice (some ⟨g1, 0, none⟩) 4 8) (l.take 4) ∧ Byt w' (.slice (some ⟨g1, 4, none⟩) 4 4) (l.drop 4) ∧
  Byt w' (.slice (some ⟨g3, 0, none⟩) 8 8) m ∧ Byt w' (.slice (some ⟨g3, 0, none⟩) 7 8) (m.take 7) ∧ Byt w' (.slice (some ⟨g3, 7, none⟩) 1 1) (m.drop 7) ∧ Fr (fun _ => False) W w'
theorem MW.mk {W : World} {g0 g1 g2 g3 : Nat} {k id a b : Int} {l m : List Int} (h0 : Blk W g0 #[.int .u32 k, .int .u64 a, .int .u64 b] 25) (h2 : Blk W g2 #[.int .u32 id, .int .u64 a, .int .u64 b] 25)
    (h1 : Blk W g1 (bys l).toArray 36) (h3 : Blk W g3 (bys m).toArray 36) (hl : l.length = 8) (hm : m.length = 8) (hlb : ∀ c ∈ l, Byte c) (hmb : ∀ c ∈ m, Byte c) : MW W g0 g1 g2 g3 k id a b l m W := by
  refine ⟨h0.cell 0, h0.cell 1, h0.cell 2, h2.cell 0, h2.cell 1, h2.cell 2, ?_, ?_, ?_, ?_, ?_, ?_, Fr.refl _ _⟩
  · have := Byt.blk h1 hlb 0 8 8 (by omega) (by omega) (by simp [maxLen]); rwa [List.drop_zero, List.take_of_length_le (by omega)] at this
  · exact Byt.blk h1 hlb 0 4 8 (by omega) (by omega) (by simp [maxLen])
  · have := Byt.blk h1 hlb 4 4 4 (by omega) (by omega) (by simp [maxLen]); rwa [List.take_of_length_le (by simp; omega)] at this
  · have := Byt.blk h3 hmb 0 8 8 (by omega) (by omega) (by simp [maxLen]); rwa [List.drop_zero, List.take_of_length_le (by omega)] at this
  · exact Byt.blk h3 hmb 0 7 8 (by omega) (by omega) (by simp [maxLen])
  · have := Byt.blk h3 hmb 7 1 1 (by omega) (by omega) (by simp [maxLen]); rwa [List.take_of_length_le (by simp; omega)] at this
theorem MW.fr {W : World} {g0 g1 g2 g3 : Nat} {k id a b : Int} {l m : List Int} {w w' : World} (f : Fr (fun _ => False) w w') (h : MW W g0 g1 g2 g3 k id a b l m w) : MW W g0 g1 g2 g3 k id a b l m w' := by
  obtain ⟨a0, a1, a2, a3, a4, a5, b0, b1, b2, b3, b4, b5, hf⟩ := h
  have key : ∀ {g i : Nat} {v : Value}, w.cell? ⟨g, i, none⟩ = some v → w'.cell? ⟨g, i, none⟩ = some v := fun h => (f.cell (World.block_lt_of_cell? w _ h) (fun h => h)).trans h
  exact ⟨key a0, key a1, key a2, key a3, key a4, key a5, b0.fr f (fun _ _ h => h), b1.fr f (fun _ _ h => h), b2.fr f (fun _ _ h => h), b3.fr f (fun _ _ h => h), b4.fr f (fun _ _ h => h), b5.fr f (fun _ _ h => h), hf.trans f (fun _ _ h => h)⟩

set_option maxHeartbeats 2000000 in
theorem macWords_walk (c0 : List Value) (id : Int) (c2 : List Value) (bit : Int) (w : World) (h0 : okAll [.i .u32, .i .u64, .i .u64] c0) (w1 : (Lit.int .u32 id).wf = true)
    (h2 : okAll [.i .u8, .i .u8, .i .u8, .i .u8, .i .u8, .i .u8, .i .u8, .i .u8] c2) (w3 : (Lit.int .u8 bit).wf = true) :
    Calls Try.prog 5 #[.agg c0.toArray, .int .u32 id, .agg c2.toArray, .int .u8 bit] w fun e w' => e = .returned (.bool true) ∧ Fr (fun _ => False) w w' := by
  obtain ⟨k, a, b, rfl⟩ := key_of h0
  obtain ⟨l, rfl, hl, hb⟩ := bytes_of 8 c2 h2
  clear h0 h2 w1
  have hbit : 0 ≤ bit ∧ bit ≤ 255 := by simp [Lit.wf, IntKind.min, IntKind.max, IntKind.bits, IntKind.signed] at w3; omega
  clear w3
  match l, hl with
  | [b0, b1, b2, b3, b4, b5, b6, b7], hl =>
  obtain ⟨hi0, hi1⟩ : 0 ≤ bit % 64 / 8 ∧ bit % 64 / 8 < 8 := by omega
  obtain ⟨hbit0, hbit1⟩ := hbit
  clear hl
  obtain ⟨x, hx, hxb⟩ := get8 b0 b1 b2 b3 b4 b5 b6 b7 hb (bit % 64 / 8).toNat (by omega)
  simp only [bys, List.map_cons, List.map_nil]
  go_enter Try.func5, Try.ntmps5
  go_wp2_with fail
  generalize hW : World.alloc (World.alloc (World.alloc (World.alloc w _) _) _) _ = W
  obtain ⟨l, hl⟩ : ∃ l, l = [b0, b1, b2, b3, b4, b5, b6, b7] := ⟨_, rfl⟩
  obtain ⟨m, hm⟩ : ∃ m, m = l.set (bit % 64 / 8).toNat (bits .xor .u8 x (2 ^ (bit % 8).toNat % 256)) := ⟨_, rfl⟩
  have h0 : Blk W w.heap.size #[.int .u32 k, .int .u64 a, .int .u64 b] 25 := by subst hW; (repeat' (first | (with_reducible assumption) | (with_reducible apply Blk.drew) | (with_reducible apply Blk.drewN) | (with_reducible apply Blk.set) | (with_reducible apply Blk.other) | (exact Blk.new' _ _ _ (by first | rfl | (simp; done) | (simp; omega))) | (with_reducible apply Blk.alloc) | (with_reducible rfl) | (simp; done) | (simp; omega) | omega | rfl))
  have h1 : Blk W (w.heap.size + 1) (bys l).toArray 36 := by subst hW hl; (repeat' (first | (with_reducible assumption) | (with_reducible apply Blk.drew) | (with_reducible apply Blk.drewN) | (with_reducible apply Blk.set) | (with_reducible apply Blk.other) | (exact Blk.new' _ _ _ (by first | rfl | (simp; done) | (simp; omega))) | (with_reducible apply Blk.alloc) | (with_reducible rfl) | (simp; done) | (simp; omega) | omega | rfl))
  have h2 : Blk W (w.heap.size + 1 + 1) #[.int .u32 id, .int .u64 a, .int .u64 b] 25 := by subst hW; (repeat' (first | (with_reducible assumption) | (with_reducible apply Blk.drew) | (with_reducible apply Blk.drewN) | (with_reducible apply Blk.set) | (with_reducible apply Blk.other) | (exact Blk.new' _ _ _ (by first | rfl | (simp; done) | (simp; omega))) | (with_reducible apply Blk.alloc) | (with_reducible rfl) | (simp; done) | (simp; omega) | omega | rfl))
  have h3 : Blk W (w.heap.size + 1 + 1 + 1) (bys m).toArray 36 := by
    subst hW hm hl
    have e : bys ([b0, b1, b2, b3, b4, b5, b6, b7].set (bit % 64 / 8).toNat (bits .xor .u8 x (2 ^ (bit % 8).toNat % 256))) = [Value.int .u8 b0, .int .u8 b1, .int .u8 b2, .int .u8 b3, .int .u8 b4, .int .u8 b5, .int .u8 b6, .int .u8 b7].set (bit % 64 / 8).toNat (Value.int .u8 (bits .xor .u8 x (2 ^ (bit % 8).toNat % 256))) := by
      unfold bys; rw [List.map_set]; rfl
    rw [e]
    exact Blk.new' _ _ _ (by simp)
  have f0 : Fr (fun _ => False) w W := by subst hW; (repeat' (first | (with_reducible exact Fr.refl _ _) | (with_reducible assumption) | (with_reducible refine Fr.alloc ?_ _) | (with_reducible refine Fr.drew ?_) | (with_reducible refine Fr.drewN ?_ _) | (with_reducible refine Fr.setCell ?_ _ _ ?_) | (exact Or.inr rfl) | (left; simp; done) | (left; simp; omega) | (simp; done) | (simp; omega) | omega))
  have hll : l.length = 8 := by rw [hl]; rfl
  have hml : m.length = 8 := by rw [hm, List.length_set, hll]
  have hmb : ∀ c ∈ m, Byte c := by
    intro c hc
    rw [hm] at hc
    rcases List.mem_or_eq_of_mem_set hc with hc | rfl
    · exact hb c (hl ▸ hc)
    · unfold Byte bits; simp only [IntKind.wrap, IntKind.bits, IntKind.signed]; simp; omega
  have hlb : ∀ c ∈ l, Byte c := by rw [hl]; exact hb
  have mw := MW.mk h0 h2 h1 h3 hll hml hlb hmb
  have mwd : MW W w.heap.size (w.heap.size + 1) (w.heap.size + 1 + 1) (w.heap.size + 1 + 1 + 1) k id a b l m W.drew := mw.fr ((Fr.refl _ _).drew)
  obtain ⟨T, hT⟩ : ∃ T, T = tagOf a b l := ⟨_, rfl⟩
  obtain ⟨T2, hT2⟩ : ∃ T, T = tagOf a b m := ⟨_, rfl⟩
  have HT := hid hT
  have HT2 := hid hT2
  have HL := hid hll
  have HM := hid hml
  clear hW h0 h1 h2 h3 hml hll hlb hmb hl hm hT hT2 hx hxb hb hi0 hi1 hbit0 hbit1
  generalize (bit % 64 / 8) = e8 at *
  generalize w.heap.size = g0 at *
  generalize g0 + 1 = g1 at *
  generalize g1 + 1 = g2 at *
  generalize g2 + 1 = g3 at *
  go_region_held3 (fun w' => w'.cell? ⟨g0, 0, none⟩ = some (.int .u32 k) ∧ w'.cell? ⟨g0, 1, none⟩ = some (.int .u64 a) ∧ w'.cell? ⟨g0, 2, none⟩ = some (.int .u64 b) ∧
      w'.cell? ⟨g2, 0, none⟩ = some (.int .u32 id) ∧ w'.cell? ⟨g2, 1, none⟩ = some (.int .u64 a) ∧ w'.cell? ⟨g2, 2, none⟩ = some (.int .u64 b) ∧
      Byt w' (.slice (some ⟨g1, 0, none⟩) 8 8) l ∧ Byt w' (.slice (some ⟨g1, 0, none⟩) 4 8) (l.take 4) ∧ Byt w' (.slice (some ⟨g1, 4, none⟩) 4 4) (l.drop 4) ∧
      Byt w' (.slice (some ⟨g3, 0, none⟩) 8 8) m ∧ Byt w' (.slice (some ⟨g3, 0, none⟩) 7 8) (m.take 7) ∧ Byt w' (.slice (some ⟨g3, 7, none⟩) 1 1) (m.drop 7) ∧ Fr (fun _ => False) W w')
    (first | exact mwd | assumption | exact MW.fr ((Fr.refl _ _).alloc _) (by assumption) | exact MW.fr (by assumption) (by assumption))
    (first
      | (go_at_call 10; refine (tag_is (T := T) (ls := [l]) ?_ ?_ ?_).mono ?_; (focus ((try dsimp only at *); go_split_ands; refine Parts.one (v := (.slice (some ⟨g1, 0, none⟩) 8 8)) ?_ ?_ ?_; (focus (first | (refine (cell_new ?_).trans rfl; (first | rfl | (simp; done))) | (refine (World.cell?_alloc_lt _ _ _ ?_).trans ?_; (focus (first | (simp; done) | (simp; omega))); (refine (cell_new ?_).trans rfl; (first | rfl | (simp; done)))) | (refine (Fr.cell k1 ?_ (fun h => h)).trans ?_; (focus (first | (simp; done) | (simp; omega))); (refine (cell_new ?_).trans rfl; (first | rfl | (simp; done)))) | (refine (Fr.cell k1 ?_ (fun h => h)).trans ((World.cell?_alloc_lt _ _ _ ?_).trans ?_); (focus (first | (simp; done) | (simp; omega))); (focus (first | (simp; done) | (simp; omega))); (refine (cell_new ?_).trans rfl; (first | rfl | (simp; done)))))); (focus (first | (simp; done) | (simp; omega) | (refine Fr.lt k1 ?_; (first | (simp; done) | (simp; omega))))); (focus assumption))); (focus (simp [HT.out]; done)); (focus (simp [HL.out]; done)); rintro e w1 ⟨rfl, k1⟩))
  have mw1 : MW W g0 g1 g2 g3 k id a b l m w1 := by assumption
  have mw1d : MW W g0 g1 g2 g3 k id a b l m w1.drew := mw1.fr ((Fr.refl _ _).drew)
  clear k1 mw mwd
  go_wp2_with fail
  go_region_held3 (fun w' => w'.cell? ⟨g0, 0, none⟩ = some (.int .u32 k) ∧ w'.cell? ⟨g0, 1, none⟩ = some (.int .u64 a) ∧ w'.cell? ⟨g0, 2, none⟩ = some (.int .u64 b) ∧
      w'.cell? ⟨g2, 0, none⟩ = some (.int .u32 id) ∧ w'.cell? ⟨g2, 1, none⟩ = some (.int .u64 a) ∧ w'.cell? ⟨g2, 2, none⟩ = some (.int .u64 b) ∧
      Byt w' (.slice (some ⟨g1, 0, none⟩) 8 8) l ∧ Byt w' (.slice (some ⟨g1, 0, none⟩) 4 8) (l.take 4) ∧ Byt w' (.slice (some ⟨g1, 4, none⟩) 4 4) (l.drop 4) ∧
      Byt w' (.slice (some ⟨g3, 0, none⟩) 8 8) m ∧ Byt w' (.slice (some ⟨g3, 0, none⟩) 7 8) (m.take 7) ∧ Byt w' (.slice (some ⟨g3, 7, none⟩) 1 1) (m.drop 7) ∧ Fr (fun _ => False) W w')
    (first | exact mw1d | assumption | exact MW.fr ((Fr.refl _ _).alloc _) (by assumption) | exact MW.fr (by assumption) (by assumption))
    (first
      | (go_at_call 10; refine (tag_is (T := T) (ls := [l]) ?_ ?_ ?_).mono ?_; (focus ((try dsimp only at *); go_split_ands; refine Parts.one (v := (.slice (some ⟨g1, 0, none⟩) 8 8)) ?_ ?_ ?_; (focus (first | (refine (cell_new ?_).trans rfl; (first | rfl | (simp; done))) | (refine (World.cell?_alloc_lt _ _ _ ?_).trans ?_; (focus (first | (simp; done) | (simp; omega))); (refine (cell_new ?_).trans rfl; (first | rfl | (simp; done)))) | (refine (Fr.cell k1 ?_ (fun h => h)).trans ?_; (focus (first | (simp; done) | (simp; omega))); (refine (cell_new ?_).trans rfl; (first | rfl | (simp; done)))) | (refine (Fr.cell k1 ?_ (fun h => h)).trans ((World.cell?_alloc_lt _ _ _ ?_).trans ?_); (focus (first | (simp; done) | (simp; omega))); (focus (first | (simp; done) | (simp; omega))); (refine (cell_new ?_).trans rfl; (first | rfl | (simp; done)))))); (focus (first | (simp; done) | (simp; omega) | (refine Fr.lt k1 ?_; (first | (simp; done) | (simp; omega))))); (focus assumption))); (focus (simp [HT.out]; done)); (focus (simp [HL.out]; done)); rintro e w1 ⟨rfl, k1⟩)
      | (go_at_call 10; refine (tag_is (T := T) (ls := [l.take 4, l.drop 4]) ?_ ?_ ?_).mono ?_; (focus ((try dsimp only at *); go_split_ands; refine Parts.two (u := (.slice (some ⟨g1, 0, none⟩) 4 8)) (v := (.slice (some ⟨g1, 4, none⟩) 4 4)) ?_ ?_ ?_ ?_ ?_; (focus (first | (refine (cell_new ?_).trans rfl; (first | rfl | (simp; done))) | (refine (World.cell?_alloc_lt _ _ _ ?_).trans ?_; (focus (first | (simp; done) | (simp; omega))); (refine (cell_new ?_).trans rfl; (first | rfl | (simp; done)))) | (refine (Fr.cell k1 ?_ (fun h => h)).trans ?_; (focus (first | (simp; done) | (simp; omega))); (refine (cell_new ?_).trans rfl; (first | rfl | (simp; done)))) | (refine (Fr.cell k1 ?_ (fun h => h)).trans ((World.cell?_alloc_lt _ _ _ ?_).trans ?_); (focus (first | (simp; done) | (simp; omega))); (focus (first | (simp; done) | (simp; omega))); (refine (cell_new ?_).trans rfl; (first | rfl | (simp; done)))))); (focus (first | (refine (cell_new ?_).trans rfl; (first | rfl | (simp; done))) | (refine (World.cell?_alloc_lt _ _ _ ?_).trans ?_; (focus (first | (simp; done) | (simp; omega))); (refine (cell_new ?_).trans rfl; (first | rfl | (simp; done)))) | (refine (Fr.cell k1 ?_ (fun h => h)).trans ?_; (focus (first | (simp; done) | (simp; omega))); (refine (cell_new ?_).trans rfl; (first | rfl | (simp; done)))) | (refine (Fr.cell k1 ?_ (fun h => h)).trans ((World.cell?_alloc_lt _ _ _ ?_).trans ?_); (focus (first | (simp; done) | (simp; omega))); (focus (first | (simp; done) | (simp; omega))); (refine (cell_new ?_).trans rfl; (first | rfl | (simp; done)))))); (focus (first | (simp; done) | (simp; omega) | (refine Fr.lt k1 ?_; (first | (simp; done) | (simp; omega))))); (focus assumption); (focus assumption))); (focus (simp [HT.out]; done)); (focus (simp [HL.out]; done)); rintro e w1 ⟨rfl, k1⟩)
      | (go_at_call 10; refine (tag_is (T := T2) (ls := [m]) ?_ ?_ ?_).mono ?_; (focus ((try dsimp only at *); go_split_ands; refine Parts.one (v := (.slice (some ⟨g3, 0, none⟩) 8 8)) ?_ ?_ ?_; (focus (first | (refine (cell_new ?_).trans rfl; (first | rfl | (simp; done))) | (refine (World.cell?_alloc_lt _ _ _ ?_).trans ?_; (focus (first | (simp; done) | (simp; omega))); (refine (cell_new ?_).trans rfl; (first | rfl | (simp; done)))) | (refine (Fr.cell k1 ?_ (fun h => h)).trans ?_; (focus (first | (simp; done) | (simp; omega))); (refine (cell_new ?_).trans rfl; (first | rfl | (simp; done)))) | (refine (Fr.cell k1 ?_ (fun h => h)).trans ((World.cell?_alloc_lt _ _ _ ?_).trans ?_); (focus (first | (simp; done) | (simp; omega))); (focus (first | (simp; done) | (simp; omega))); (refine (cell_new ?_).trans rfl; (first | rfl | (simp; done)))))); (focus (first | (simp; done) | (simp; omega) | (refine Fr.lt k1 ?_; (first | (simp; done) | (simp; omega))))); (focus assumption))); (focus (simp [HT2.out]; done)); (focus (simp [HM.out]; done)); rintro e w1 ⟨rfl, k1⟩)
      | (go_at_call 10; refine (tag_is (T := T2) (ls := [m.take 7, m.drop 7]) ?_ ?_ ?_).mono ?_; (focus ((try dsimp only at *); go_split_ands; refine Parts.two (u := (.slice (some ⟨g3, 0, none⟩) 7 8)) (v := (.slice (some ⟨g3, 7, none⟩) 1 1)) ?_ ?_ ?_ ?_ ?_; (focus (first | (refine (cell_new ?_).trans rfl; (first | rfl | (simp; done))) | (refine (World.cell?_alloc_lt _ _ _ ?_).trans ?_; (focus (first | (simp; done) | (simp; omega))); (refine (cell_new ?_).trans rfl; (first | rfl | (simp; done)))) | (refine (Fr.cell k1 ?_ (fun h => h)).trans ?_; (focus (first | (simp; done) | (simp; omega))); (refine (cell_new ?_).trans rfl; (first | rfl | (simp; done)))) | (refine (Fr.cell k1 ?_ (fun h => h)).trans ((World.cell?_alloc_lt _ _ _ ?_).trans ?_); (focus (first | (simp; done) | (simp; omega))); (focus (first | (simp; done) | (simp; omega))); (refine (cell_new ?_).trans rfl; (first | rfl | (simp; done)))))); (focus (first | (refine (cell_new ?_).trans rfl; (first | rfl | (simp; done))) | (refine (World.cell?_alloc_lt _ _ _ ?_).trans ?_; (focus (first | (simp; done) | (simp; omega))); (refine (cell_new ?_).trans rfl; (first | rfl | (simp; done)))) | (refine (Fr.cell k1 ?_ (fun h => h)).trans ?_; (focus (first | (simp; done) | (simp; omega))); (refine (cell_new ?_).trans rfl; (first | rfl | (simp; done)))) | (refine (Fr.cell k1 ?_ (fun h => h)).trans ((World.cell?_alloc_lt _ _ _ ?_).trans ?_); (focus (first | (simp; done) | (simp; omega))); (focus (first | (simp; done) | (simp; omega))); (refine (cell_new ?_).trans rfl; (first | rfl | (simp; done)))))); (focus (first | (simp; done) | (simp; omega) | (refine Fr.lt k1 ?_; (first | (simp; done) | (simp; omega))))); (focus assumption); (focus assumption))); (focus (simp [HT2.out]; done)); (focus (simp [HM.out]; done)); rintro e w1 ⟨rfl, k1⟩)
      | (go_at_call 11; refine (right_is (T := T) (ls := [l]) ?_ ?_ ?_).mono ?_; (focus ((try dsimp only at *); go_split_ands; refine Parts.one (v := (.slice (some ⟨g1, 0, none⟩) 8 8)) ?_ ?_ ?_; (focus (first | (refine (cell_new ?_).trans rfl; (first | rfl | (simp; done))) | (refine (World.cell?_alloc_lt _ _ _ ?_).trans ?_; (focus (first | (simp; done) | (simp; omega))); (refine (cell_new ?_).trans rfl; (first | rfl | (simp; done)))) | (refine (Fr.cell k1 ?_ (fun h => h)).trans ?_; (focus (first | (simp; done) | (simp; omega))); (refine (cell_new ?_).trans rfl; (first | rfl | (simp; done)))) | (refine (Fr.cell k1 ?_ (fun h => h)).trans ((World.cell?_alloc_lt _ _ _ ?_).trans ?_); (focus (first | (simp; done) | (simp; omega))); (focus (first | (simp; done) | (simp; omega))); (refine (cell_new ?_).trans rfl; (first | rfl | (simp; done)))))); (focus (first | (simp; done) | (simp; omega) | (refine Fr.lt k1 ?_; (first | (simp; done) | (simp; omega))))); (focus assumption))); (focus (simp [HT.out]; done)); (focus (simp [HL.out]; done)); rintro e w1 ⟨rfl, k1⟩)
      | (go_at_call 12; refine (wakes_at _).mono ?_; rintro e w1 ⟨rfl, k1⟩))
  all_goals go_wp2
  all_goals go_ret
  all_goals (refine ⟨rfl, f0.trans ?_ (fun _ _ h => h)⟩; go_split_ands; assumption)
end Go.Proofs.Ytnphjhignhmhaaa
