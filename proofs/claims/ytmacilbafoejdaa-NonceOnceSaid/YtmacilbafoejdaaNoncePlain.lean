/- A book of nonces on numbers: what the program's calls make of it, and the document's lists. No program in sight. -/
import Derived.WalkKit
namespace Go.Proofs.Ytmacilbafoejdaa

/-- What is out (0: none), since when, the last that was answered, those given up, the latest one first. -/
structure BS where
  out : Int
  since : Int
  last : Int
  s0 : Int
  s1 : Int
  s2 : Int
  s3 : Int
  deriving DecidableEq
namespace BS
def empty : BS := ⟨0, 0, 0, 0, 0, 0, 0⟩
def has (x : BS) (n : Int) : Bool := n == x.s0 || n == x.s1 || n == x.s2 || n == x.s3
def known (x : BS) (n : Int) : Int := if n = 0 then 30 else if n = x.out then 0 else if n = x.last then 31 else if x.has n = true then 32 else 30
def giveUp (x : BS) : BS := if x.out = 0 then x else ⟨0, 0, x.last, x.out, x.s0, x.s1, x.s2⟩
def badAsk (n raw : Int) : Bool := n == 0 || decide (raw < 0) || decide (4611686018427387904 < raw)
def askE (x : BS) (n raw : Int) : Int := if badAsk n raw = true then 1 else if x.known n = 30 then 0 else 9
def askS (x : BS) (n raw : Int) : BS := if x.askE n raw = 0 then { x.giveUp with out := n, since := raw } else x
def takeS (x : BS) (n : Int) : BS := if x.known n = 0 then ⟨0, 0, n, x.s0, x.s1, x.s2, x.s3⟩ else x
def takeV (x : BS) (n : Int) : Int := if x.known n = 0 then x.since else 0
def dropB (x : BS) (raw most : Int) : Bool := !(x.out == 0 || decide (raw < x.since) || decide (raw - x.since ≤ max most 0))
def dropS (x : BS) (raw most : Int) : BS := if x.dropB raw most = true then x.giveUp else x
/-- What holds of every book that the calls make. -/
def ok (x : BS) : Prop := 0 ≤ x.since ∧ x.since ≤ 4611686018427387904
theorem ok_empty : ok empty := by unfold ok empty; simp
theorem ok_giveUp {x : BS} (h : x.ok) : x.giveUp.ok := by
  unfold giveUp; split
  · exact h
  · unfold ok; simp
theorem ok_ask {x : BS} (h : x.ok) (n raw : Int) : (x.askS n raw).ok := by
  unfold askS
  by_cases h1 : x.askE n raw = 0
  · rw [if_pos h1]
    have hb : ¬ badAsk n raw = true := by intro hb; unfold askE at h1; rw [if_pos hb] at h1; omega
    simp [badAsk] at hb
    unfold ok
    simp
    omega
  · rw [if_neg h1]; exact h
theorem ok_take {x : BS} (h : x.ok) (n : Int) : (x.takeS n).ok := by
  unfold takeS; split
  · unfold ok; simp
  · exact h
theorem ok_drop {x : BS} (h : x.ok) (raw most : Int) : (x.dropS raw most).ok := by
  unfold dropS; split
  · exact ok_giveUp h
  · exact h
end BS

/-- The document's book. -/
structure RS where
  out : List Int
  ans : List Int
  stale : List Int
  since : Int
namespace RS
def empty : RS := ⟨[], [], [], 0⟩
def last4 (l : List Int) : List Int := l.drop (l.length - 4)
def up (x : RS) : RS := { x with stale := last4 (x.stale ++ x.out), out := [] }
def askE (x : RS) (n raw : Int) : Int := if BS.badAsk n raw = true then 1 else if (x.out.contains n || x.ans.contains n || x.stale.contains n) = true then 9 else 0
def askS (x : RS) (n raw : Int) : RS := if x.askE n raw = 0 then { x.up with out := [n], since := raw } else x
def takeE (x : RS) (n : Int) : Int := if x.out.contains n = true then 0 else if x.ans.contains n = true then 31 else if x.stale.contains n = true then 32 else 30
def takeV (x : RS) (n : Int) : Int := if x.out.contains n = true then x.since else 0
def takeS (x : RS) (n : Int) : RS := if x.out.contains n = true then { x with out := [], ans := [n] } else x
def dropB (x : RS) (raw most : Int) : Bool := !(x.out.isEmpty || decide (raw ≤ x.since)) && !(decide (0 < most) && decide (raw - x.since ≤ most))
def dropS (x : RS) (raw most : Int) : RS := if x.dropB raw most = true then x.up else x
end RS

/-- The two books tell the same. -/
structure Same (x : BS) (y : RS) : Prop where
  out : y.out = if x.out = 0 then [] else [x.out]
  ans : y.ans = if x.last = 0 then [] else [x.last]
  stale : y.stale = if x.s0 = 0 then [] else if x.s1 = 0 then [x.s0] else if x.s2 = 0 then [x.s1, x.s0] else if x.s3 = 0 then [x.s2, x.s1, x.s0] else [x.s3, x.s2, x.s1, x.s0]
  z0 : x.s0 = 0 → x.s1 = 0
  z1 : x.s1 = 0 → x.s2 = 0
  z2 : x.s2 = 0 → x.s3 = 0
  since : x.out ≠ 0 → y.since = x.since
theorem Same.empty : Same BS.empty RS.empty := by constructor <;> simp [BS.empty, RS.empty]
section
variable {x : BS} {y : RS} (h : Same x y)
include h
theorem Same.out_has (n : Int) (hn : n ≠ 0) : y.out.contains n = (n == x.out) := by
  rw [h.out]; split
  · rename_i h0; rw [h0]; simp; exact hn
  · rw [Bool.eq_iff_iff]; simp
theorem Same.ans_has (n : Int) (hn : n ≠ 0) : y.ans.contains n = (n == x.last) := by
  rw [h.ans]; split
  · rename_i h0; rw [h0]; simp; exact hn
  · rw [Bool.eq_iff_iff]; simp
theorem Same.stale_has (n : Int) (hn : n ≠ 0) : y.stale.contains n = x.has n := by
  rw [h.stale]
  have z0 := h.z0; have z1 := h.z1; have z2 := h.z2
  unfold BS.has
  rw [Bool.eq_iff_iff]
  split
  · simp; omega
  · split
    · simp; omega
    · split
      · simp; omega
      · split <;> (simp; omega)
theorem Same.zero (n : Int) (hn : n = 0) : y.out.contains n = false ∧ y.ans.contains n = false ∧ y.stale.contains n = false := by
  have z0 := h.z0; have z1 := h.z1; have z2 := h.z2
  rw [h.out, h.ans, h.stale]
  subst hn
  refine ⟨by split <;> simp; omega, by split <;> simp; omega, ?_⟩
  split
  · simp
  · split
    · simp; omega
    · split
      · simp; omega
      · split <;> (simp; omega)
theorem Same.takeE (n : Int) : y.takeE n = x.known n := by
  unfold RS.takeE BS.known
  by_cases hn : n = 0
  · obtain ⟨a, b, c⟩ := h.zero n hn
    rw [a, b, c, if_pos hn]; simp
  · rw [h.out_has n hn, h.ans_has n hn, h.stale_has n hn, if_neg hn]
    simp
theorem Same.takeV (n : Int) : y.takeV n = x.takeV n := by
  unfold RS.takeV BS.takeV BS.known
  by_cases hn : n = 0
  · obtain ⟨a, _, _⟩ := h.zero n hn
    rw [a, if_pos hn]; simp
  · rw [h.out_has n hn, if_neg hn]
    by_cases ho : n = x.out
    · simp [ho]; exact h.since (by rw [← ho]; exact hn)
    · rw [if_neg (by simpa using ho), if_neg ho]
      split <;> simp
      split <;> simp
theorem Same.takeS (n : Int) : Same (x.takeS n) (y.takeS n) := by
  have hk : x.known n = 0 ↔ y.out.contains n = true := by
    rw [← h.takeE n]
    unfold RS.takeE
    by_cases ho : y.out.contains n = true
    · rw [if_pos ho]; exact ⟨fun _ => ho, fun _ => rfl⟩
    · rw [if_neg ho]
      refine ⟨fun h' => ?_, fun h' => absurd h' ho⟩
      by_cases ha : y.ans.contains n = true
      · rw [if_pos ha] at h'; omega
      · rw [if_neg ha] at h'
        by_cases hs : y.stale.contains n = true
        · rw [if_pos hs] at h'; omega
        · rw [if_neg hs] at h'; omega
  unfold RS.takeS BS.takeS
  by_cases ho : y.out.contains n = true
  · rw [if_pos (hk.2 ho), if_pos ho]
    have hn : n ≠ 0 := by
      intro h0
      rw [(h.zero n h0).1] at ho; cases ho
    exact ⟨by simp, by simp [hn], h.stale, h.z0, h.z1, h.z2, by simp⟩
  · rw [if_neg (fun h' => ho (hk.1 h')), if_neg ho]; exact h
theorem Same.up : Same x.giveUp y.up := by
  have z0 := h.z0; have z1 := h.z1; have z2 := h.z2
  unfold BS.giveUp RS.up RS.last4
  rw [h.out, h.stale]
  by_cases ho : x.out = 0
  · rw [if_pos ho, if_pos ho]
    refine ⟨by simp [ho], h.ans, ?_, h.z0, h.z1, h.z2, h.since⟩
    simp only [List.append_nil]
    split
    · simp
    · split
      · simp
      · split
        · simp
        · split <;> simp
  · rw [if_neg ho, if_neg ho]
    refine ⟨by simp, h.ans, ?_, fun h' => absurd h' ho, h.z0, h.z1, by simp⟩
    simp only [ho, if_false]
    by_cases h0 : x.s0 = 0
    · have := z0 h0; have := z1 this; simp [*]
    · by_cases h1 : x.s1 = 0
      · have := z1 h1; simp [*]
      · by_cases h2 : x.s2 = 0
        · simp [*]
        · by_cases h3 : x.s3 = 0 <;> simp [*]
theorem Same.askE (n raw : Int) : y.askE n raw = x.askE n raw := by
  unfold RS.askE BS.askE BS.known
  by_cases hb : BS.badAsk n raw = true
  · rw [if_pos hb, if_pos hb]
  · rw [if_neg hb, if_neg hb]
    have hn : n ≠ 0 := by intro h0; subst h0; simp [BS.badAsk] at hb
    rw [h.out_has n hn, h.ans_has n hn, h.stale_has n hn, if_neg hn]
    by_cases h1 : n = x.out
    · simp [h1]
    · rw [if_neg h1]
      by_cases h2 : n = x.last
      · simp [h2]
      · rw [if_neg h2]
        by_cases h3 : x.has n = true <;> simp [h1, h2, h3]
theorem Same.askS (n raw : Int) : Same (x.askS n raw) (y.askS n raw) := by
  unfold RS.askS BS.askS
  rw [h.askE]
  by_cases he : x.askE n raw = 0
  · rw [if_pos he, if_pos he]
    have hn : n ≠ 0 := by
      intro h0; subst h0
      simp [BS.askE, BS.badAsk] at he
    have u := h.up
    exact ⟨by simp [hn], u.ans, u.stale, u.z0, u.z1, u.z2, by simp⟩
  · rw [if_neg he, if_neg he]; exact h
theorem Same.dropB (raw most : Int) : y.dropB raw most = x.dropB raw most := by
  unfold RS.dropB BS.dropB
  rw [h.out]
  by_cases ho : x.out = 0
  · simp [ho]
  · rw [if_neg ho, h.since ho, Bool.eq_iff_iff]
    simp [ho]
    omega
theorem Same.dropS (raw most : Int) : Same (x.dropS raw most) (y.dropS raw most) := by
  unfold RS.dropS BS.dropS
  rw [h.dropB]
  split
  · exact h.up
  · exact h
end
end Go.Proofs.Ytmacilbafoejdaa
