/- Slices of bytes and parts as lists; the tag of parts. -/
import Derived.Test.YtnphjhignhmhaaaMacTake
namespace Go.Proofs.Ytnphjhignhmhaaa
open Go.RowKit
set_option linter.unusedVariables false
set_option linter.unusedSimpArgs false
set_option maxRecDepth 100000

/-- The slice v reads as these bytes. -/
def Byt (w : World) (v : Value) (l : List Int) : Prop :=
  ∃ A cap, v = .slice A l.length cap ∧ l.length ≤ cap ∧ cap ≤ maxLen ∧ (∀ c ∈ l, Byte c) ∧
    (l = [] ∨ ∃ r off, A = some ⟨r, off, none⟩ ∧ r < w.heap.size ∧ ∀ (i : Nat) (c : Int), l[i]? = some c → w.cell? ⟨r, off + i, none⟩ = some (.int .u8 c))
theorem Byt.fr {w w' : World} {v : Value} {l : List Int} {S : Nat → Prop} (h : Byt w v l) (k : Fr S w w') (hS : ∀ i, i < w.heap.size → ¬ S i) : Byt w' v l := by
  obtain ⟨A, cap, hv, h1, h2, h3, h4⟩ := h
  refine ⟨A, cap, hv, h1, h2, h3, ?_⟩
  rcases h4 with h4 | ⟨r, off, hA, hr, hc⟩
  · exact .inl h4
  · exact .inr ⟨r, off, hA, k.lt hr, fun i c hi => (k.cell (a := ⟨r, off + i, none⟩) hr (hS r hr)).trans (hc i c hi)⟩
theorem Byt.nil (w : World) : Byt w (.slice none 0 0) [] := ⟨none, 0, rfl, by simp, by simp, by simp, .inl rfl⟩
/-- The slice v reads as these parts. -/
def Parts (w : World) (v : Value) (ls : List (List Int)) : Prop :=
  ∃ A cap, v = .slice A ls.length cap ∧ ls.length ≤ cap ∧ cap ≤ maxLen ∧
    (ls = [] ∨ ∃ r off, A = some ⟨r, off, none⟩ ∧ r < w.heap.size ∧ ∀ (i : Nat) (l : List Int), ls[i]? = some l → ∃ u, w.cell? ⟨r, off + i, none⟩ = some u ∧ Byt w u l)
theorem Parts.fr {w w' : World} {v : Value} {ls : List (List Int)} {S : Nat → Prop} (h : Parts w v ls) (k : Fr S w w') (hS : ∀ i, i < w.heap.size → ¬ S i) : Parts w' v ls := by
  obtain ⟨A, cap, hv, h1, h2, h4⟩ := h
  refine ⟨A, cap, hv, h1, h2, ?_⟩
  rcases h4 with h4 | ⟨r, off, hA, hr, hc⟩
  · exact .inl h4
  · refine .inr ⟨r, off, hA, k.lt hr, fun i l hi => ?_⟩
    obtain ⟨u, hu, hb⟩ := hc i l hi
    exact ⟨u, (k.cell (a := ⟨r, off + i, none⟩) hr (hS r hr)).trans hu, hb.fr k hS⟩
theorem Parts.nil (w : World) : Parts w (.slice none 0 0) [] := ⟨none, 0, rfl, by simp, by simp, .inl rfl⟩

theorem eat_count (l : List Int) : ∀ s, (l.foldl eat s).2.2 = s.2.2 + l.length := by
  induction l with
  | nil => intro s; simp
  | cons c l ih =>
    intro s
    rw [List.foldl_cons, ih]
    unfold eat
    simp only []
    split <;> simp <;> omega
def eats (s : S4 × Int × Int) (l : List Int) : S4 × Int × Int := l.foldl eat s

theorem hid {p : Prop} (h : p) : Hid p := h
theorem take_snoc {α : Type} {l : List α} {i : Nat} {x : α} (h : l[i]? = some x) : l.take (i + 1) = l.take i ++ [x] := by
  rw [List.take_add_one, h]; rfl
theorem eat_le {ls : List (List Int)} (hs : ls.flatten.length ≤ 4611686018427387904) {i j : Nat} {l : List Int} (hi : ls[i]? = some l) (hj : j ≤ l.length) (v : S4) :
    0 ≤ ((l.take j).foldl eat ((ls.take i).flatten.foldl eat (v, 0, 0))).2.2 ∧ ((l.take j).foldl eat ((ls.take i).flatten.foldl eat (v, 0, 0))).2.2 ≤ 4611686018427387904 - l.length + j := by
  rw [eat_count, eat_count]
  have e : ls = ls.take i ++ l :: ls.drop (i + 1) := by
    obtain ⟨h, hh⟩ := List.getElem?_eq_some_iff.1 hi
    rw [← hh, ← List.drop_eq_getElem_cons h, List.take_append_drop]
  rw [e] at hs
  simp only [List.flatten_append, List.flatten_cons, List.length_append] at hs
  have e2 : (l.take j).length = j := by rw [List.length_take]; omega
  rw [e2]
  show 0 ≤ (0 : Int) + _ + _ ∧ (0 : Int) + _ + _ ≤ _
  omega
theorem eatw {w c n : Int} (hn : 0 ≤ n) : bits .or .u64 w (IntKind.u64.wrap (c * 2 ^ min (IntKind.u64.wrap (8 * n.tmod 8)).toNat 64)) = bits .or .u64 w (IntKind.u64.wrap (c * 2 ^ (8 * (n % 8)).toNat)) := by
  have e1 : n.tmod 8 = n % 8 := Int.tmod_eq_emod_of_nonneg hn
  have e2 : IntKind.u64.wrap (8 * (n % 8)) = 8 * (n % 8) := by rw [wrap_u64]; omega
  rw [e1, e2]
  have e3 : min (8 * (n % 8)).toNat 64 = (8 * (n % 8)).toNat := by omega
  rw [e3]
theorem eat_no {v : S4} {w n c : Int} (h : (n + 1) % 8 ≠ 0) : eat (v, w, n) c = (v, bits .or .u64 w (IntKind.u64.wrap (c * 2 ^ (8 * (n % 8)).toNat)), n + 1) := by
  unfold eat; simp only []; rw [if_neg h]
theorem eat_yes {v : S4} {w n c : Int} (h : (n + 1) % 8 = 0) : eat (v, w, n) c = (takes (bits .or .u64 w (IntKind.u64.wrap (c * 2 ^ (8 * (n % 8)).toNat))) v, 0, n + 1) := by
  unfold eat; simp only []; rw [if_pos h]

set_option maxHeartbeats 2000000 in
theorem tag_at {w : World} {k a b : Int} {v : Value} {ls : List (List Int)} (hp : Parts w v ls) (hs : ls.flatten.length ≤ 4611686018427387904) :
    Calls Try.prog 10 #[.agg #[.int .u32 k, .int .u64 a, .int .u64 b], v] w fun e w' => e = .returned (.int .u64 (tagOf a b ls.flatten)) ∧ Fr (fun _ => False) w w' := by
  have hp0 := hp
  obtain ⟨A, cap, rfl, h1, h2, h3⟩ := hp
  have hmx : ls.length ≤ 9223372036854775807 := by unfold maxLen at h2; omega
  clear h1 h2
  go_enter Try.func10, Try.ntmps10
  go_wp2_with fail
  generalize hW : World.alloc (World.alloc w _) _ = W
  have hb : St W (w.heap.size + 1) (key0 a b) := by subst hW; exact Blk.new' _ _ _ (by simp)
  have f0 : Fr (fun _ => False) w W := by subst hW; (repeat' (first | (with_reducible exact Fr.refl _ _) | (with_reducible assumption) | (with_reducible refine Fr.alloc ?_ _) | (with_reducible refine Fr.drew ?_) | (with_reducible refine Fr.drewN ?_ _) | (with_reducible refine Fr.setCell ?_ _ _ ?_) | (exact Or.inr rfl) | (left; simp; done) | (left; simp; omega) | (simp; done) | (simp; omega) | omega))
  clear hW
  generalize hB : w.heap.size + 1 = B at *
  have hBw : ¬ B < w.heap.size := by omega
  clear hB
  go_loopw [6, 7, 28] (fun vw vn vi wr => ∃ (i : Nat) (s : S4 × Int × Int), i ≤ ls.length ∧ vi = .int .i64 i ∧ vw = .int .u64 s.2.1 ∧ vn = .int .u64 s.2.2 ∧ s = (ls.take i).flatten.foldl eat (key0 a b, 0, 0) ∧ St wr B s.1 ∧ Fr (fun _ => False) w wr) (fun _ _ vi _ => ls.length - (intOf vi).toNat)
  case atStart => exact ⟨0, (key0 a b, 0, 0), by omega, rfl, rfl, rfl, rfl, hb, f0⟩
  case round =>
    clear hb f0
    obtain ⟨i, ⟨sv, sw, sn⟩, hi, rfl, rfl, rfl, hse, hb, hf⟩ := hrel
    by_cases hlt : i < ls.length
    · obtain ⟨l, hl⟩ : ∃ l, ls[i]? = some l := ⟨ls[i], List.getElem?_eq_getElem hlt⟩
      rcases h3 with rfl | ⟨r, off, rfl, hr, hc⟩
      · simp at hlt
      obtain ⟨u, hu, hy⟩ := hc i l hl
      have hu' := (hf.cell (a := ⟨r, off + i, none⟩) hr (fun h => h)).trans hu
      obtain ⟨A2, cap2, rfl, g1, g2, g3, g4⟩ := hy
      have gmx : l.length ≤ 9223372036854775807 := by unfold maxLen at g2; omega
      clear g1 g2 hu hc
      have hle := fun j hj => eat_le hs hl (j := j) hj (key0 a b)
      simp only [← hse] at hle
      have Hse : Hid ((sv, sw, sn) = (ls.take i).flatten.foldl eat (key0 a b, 0, 0)) := hse
      have Hle := hid hle
      clear hse hle
      go_wp2_with fail
      go_loopw [6, 7, 34] (fun vw vn vj wr => ∃ (j : Nat) (t : S4 × Int × Int), j ≤ l.length ∧ vj = .int .i64 j ∧ vw = .int .u64 t.2.1 ∧ vn = .int .u64 t.2.2 ∧ t = (l.take j).foldl eat (sv, sw, sn) ∧ St wr B t.1 ∧ Fr (fun _ => False) w wr) (fun _ _ vj _ => l.length - (intOf vj).toNat)
      case atStart => exact ⟨0, (sv, sw, sn), by omega, rfl, rfl, rfl, rfl, hb, hf⟩
      case round =>
        clear hb hf hu'
        obtain ⟨j, ⟨tv, tw, tn⟩, hj, rfl, rfl, rfl, hte, hb, hf⟩ := hrel
        by_cases hltj : j < l.length
        · obtain ⟨c, hc⟩ : ∃ c, l[j]? = some c := ⟨l[j], List.getElem?_eq_getElem hltj⟩
          rcases g4 with rfl | ⟨r2, off2, rfl, hr2, hc2⟩
          · simp at hltj
          have hcc := (hf.cell (a := ⟨r2, off2 + j, none⟩) hr2 (fun h => h)).trans (hc2 j c hc)
          have hby := g3 c (List.mem_of_getElem? hc)
          unfold Byte at hby
          have hn := Hle.out j hj
          rw [← hte] at hn
          have hne : tn ≤ 4611686018427387903 := by simp only at hn; omega
          have hn0 : 0 ≤ tn := hn.1
          have Hte : Hid ((tv, tw, tn) = (l.take j).foldl eat (sv, sw, sn)) := hte
          have Hc : Hid (l[j]? = some c) := hc
          clear hn Hle hc2 g3 hte hc
          have hm : (tn + 1).tmod 8 = (tn + 1) % 8 := Int.tmod_eq_emod_of_nonneg (by omega)
          have next : ∀ t, t = eat (tv, tw, tn) c → t = (l.take (j + 1)).foldl eat (sv, sw, sn) := by
            intro t ht
            rw [take_snoc Hc.out, List.foldl_append, ← Hte.out]
            exact ht
          by_cases h8 : (tn + 1) % 8 = 0
          · go_wp2_with fail
            refine (take_at _ hb).mono ?_
            rintro e w2 ⟨rfl, hb2, hf2⟩
            have hf3 := hf.trans hf2 (fun i hi hi2 => (hBw (by subst hi2; exact hi)).elim)
            clear hf2 hf hb
            go_wp2_with fail
            go_roundw
            case rel => exact ⟨j + 1, (takes (bits .or .u64 tw (IntKind.u64.wrap (c * 2 ^ (8 * (tn % 8)).toNat))) tv, 0, tn + 1), by omega, by go_num, rfl, by go_num, next _ (by rw [eat_yes h8]), hb2, hf3⟩
            case measure => simp [intOf]; omega
          · go_wp2_with fail
            go_roundw
            case rel => exact ⟨j + 1, (tv, bits .or .u64 tw (IntKind.u64.wrap (c * 2 ^ (8 * (tn % 8)).toNat)), tn + 1), by omega, by go_num, rfl, by go_num, next _ (by rw [eat_no h8]), hb, hf⟩
            case measure => simp [intOf]; omega
        · have hjl : j = l.length := by omega
          subst hjl
          rw [List.take_length] at hte
          have nexti : (tv, tw, tn) = (ls.take (i + 1)).flatten.foldl eat (key0 a b, 0, 0) := by
            rw [take_snoc hl, List.flatten_append, List.foldl_append, ← Hse.out, hte]
            simp
          have Hn := hid nexti
          clear nexti hte Hse Hle
          go_wp2_with fail
          go_roundw
          case rel => exact ⟨i + 1, _, by omega, by go_num, rfl, rfl, Hn.out, hb, hf⟩
          case measure => simp [intOf]; omega
    · have hin : i = ls.length := by omega
      subst hin
      rw [List.take_length] at hse
      have hcnt : sn = ls.flatten.length := by
        have := eat_count ls.flatten (key0 a b, 0, 0)
        rw [← hse] at this
        simpa using this
      have hsn0 : 0 ≤ sn := by omega
      have Hse := hid hse
      have Hcnt := hid hcnt
      clear hse hcnt
      go_wp2_with fail
      refine (take_at _ hb).mono ?_
      rintro e w2 ⟨rfl, hb2, hf2⟩
      have hf3 := hf.trans hf2 (fun i hi hi2 => (hBw (by subst hi2; exact hi)).elim)
      clear hf hf2 hb
      have e56 : bits .or .u64 sw (IntKind.u64.wrap (sn * 72057594037927936)) = endw sw sn := rfl
      rw [e56] at hb2
      obtain ⟨r, hr⟩ : ∃ r, r = takes (endw sw sn) sv := ⟨_, rfl⟩
      rw [← hr] at hb2
      have Hr := hid hr
      clear hr e56
      obtain ⟨r0, r1, r2, r3⟩ := r
      have c0 := hb2.cell 2
      have g0 := hb2.free 2
      simp at c0
      go_wp2_with fail
      go_still_tail 7, (by kernel_rfl)
      change wpList _ _ _ _ _ w2.drew
      go_wp2_with fail
      generalize hW : World.drew (World.setCell w2 _ _) = W3
      have h3 : St W3 B (r0, r1, xr r2 255, r3) := by subst hW; unfold St at *; (repeat' (first | (with_reducible assumption) | (with_reducible apply Blk.drew) | (with_reducible apply Blk.drewN) | (with_reducible apply Blk.set) | (with_reducible apply Blk.other) | (exact Blk.new' _ _ _ (by first | rfl | (simp; done) | (simp; omega))) | (with_reducible apply Blk.alloc) | (with_reducible rfl) | (simp; done) | (simp; omega) | omega | rfl))
      have f3 : Fr (fun k => k = B) w2 W3 := by subst hW; (repeat' (first | (with_reducible exact Fr.refl _ _) | (with_reducible assumption) | (with_reducible refine Fr.alloc ?_ _) | (with_reducible refine Fr.drew ?_) | (with_reducible refine Fr.drewN ?_ _) | (with_reducible refine Fr.setCell ?_ _ _ ?_) | (exact Or.inr rfl) | (left; simp; done) | (left; simp; omega) | (simp; done) | (simp; omega) | omega))
      clear hW
      have f4 := hf3.trans f3 (fun i hi hi2 => (hBw (by subst hi2; exact hi)).elim)
      clear hf3 f3 c0 g0 hb2
      refine (rounds_at 4 (by omega) h3).mono ?_
      rintro e W4 ⟨rfl, h5, f5⟩
      have f6 := f4.trans f5 (fun i hi hi2 => (hBw (by subst hi2; exact hi)).elim)
      clear f4 f5 h3
      obtain ⟨q, hq⟩ : ∃ q, q = rnds 4 (r0, r1, xr r2 255, r3) := ⟨_, rfl⟩
      rw [← hq] at h5
      have Hq := hid hq
      clear hq
      obtain ⟨q0, q1, q2, q3⟩ := q
      have c0 := h5.cell 0
      have c1 := h5.cell 1
      have c2 := h5.cell 2
      have c3 := h5.cell 3
      simp at c0 c1 c2 c3
      go_wp2_with fail
      go_still (by kernel_rfl)
      change Exit.then _ _ _ _ W4.drew
      go_wp2
      go_ret
      refine ⟨?_, f6.drew⟩
      have E1 := Hse.out
      have E2 := Hcnt.out
      have E3 := Hr.out
      have E4 := Hq.out
      unfold tagOf close
      simp only [← E1, ← E3, ← E4]
      rfl
end Go.Proofs.Ytnphjhignhmhaaa
