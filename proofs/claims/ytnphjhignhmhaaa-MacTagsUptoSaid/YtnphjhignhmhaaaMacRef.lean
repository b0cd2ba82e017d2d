/- What the document's words and tag come to. -/
import Derived.Test.YtnphjhignhmhaaaPTgx1
import Derived.Test.YtnphjhignhmhaaaMacPlain
namespace Go.Proofs.Ytnphjhignhmhaaa
open Go.RowKit Go.Proofs.YtnphjhignhmhaaaW.PrintWords Go.Proofs.YtnphjhignhmhaaaW.PrintLast Go.Proofs.YtnphjhignhmhaaaW.PrintMore PTg
set_option linter.unusedVariables false

theorem drop_nth (p : List Int) (i : Nat) (h : i < p.length) : p.drop i = rd p i :: p.drop (i + 1) := by
  rw [List.drop_eq_getElem_cons h]
  unfold rd
  simp [h]
theorem word_l0 (p : List Int) (hp : ∀ c ∈ p, Byte c) (hl : p.length ≤ 8) : ∀ (i k : Nat), i ≤ p.length → i < k →
    ephemerisref06_word.l0 k p (wordOf (p.drop i)) ((i : Int) - 1) = some (wordOf p)
  | 0, k, h, hk => by
    obtain ⟨k, rfl⟩ : ∃ m, k = m + 1 := ⟨k - 1, by omega⟩
    simp only [ephemerisref06_word.l0]
    rw [if_neg (by omega)]
    simp
  | i + 1, k, h, hk => by
    obtain ⟨k, rfl⟩ : ∃ m, k = m + 1 := ⟨k - 1, by omega⟩
    simp only [ephemerisref06_word.l0]
    rw [if_pos (by omega), if_pos (by omega), if_pos (by omega)]
    have e1 : (((i + 1 : Nat) : Int) - 1) = (i : Int) := by omega
    have e2 : wrap64 ((i : Int) - 1) = (i : Int) - 1 := by unfold wrap64; omega
    rw [e1, e2]
    have hb : Byte (rd p i) := by
      unfold rd
      have : p.getD (i : Int).toNat 0 = p[i]'(by omega) := by simp [show i < p.length by omega]
      rw [this]
      exact hp _ (List.getElem_mem _)
    have hw := wordOf_lt (p.drop (i + 1)) (fun c hc => hp c (List.mem_of_mem_drop hc))
    have hpw : (256 : Int) ^ (p.drop (i + 1)).length ≤ 72057594037927936 := by
      have h1 : (p.drop (i + 1)).length ≤ 7 := by simp; omega
      have : 256 ^ (p.drop (i + 1)).length ≤ 256 ^ 7 := Nat.pow_le_pow_right (by decide) h1
      have h2 : (256 : Int) ^ (p.drop (i + 1)).length = ((256 ^ (p.drop (i + 1)).length : Nat) : Int) := by rw [Int.natCast_pow]; rfl
      rw [h2]; omega
    unfold Byte at hb
    have e3 : IntKind.u64.wrap ((IntKind.u64.wrap (wordOf (p.drop (i + 1)) * 256)) + (IntKind.u64.wrap (rd p i))) = wordOf (p.drop i) := by
      rw [drop_nth p i (by omega)]
      simp only [wordOf, wrap_u64]
      omega
    rw [e3]
    exact word_l0 p hp hl i k (by omega) (by omega)
theorem word_f (p : List Int) (hp : ∀ c ∈ p, Byte c) (hl : p.length ≤ 8) (k : Nat) (hk : p.length < k) : ephemerisref06_word.f k p = some (wordOf p) := by
  unfold ephemerisref06_word.f
  have e2 : wrap64 ((p.length : Int) - 1) = (p.length : Int) - 1 := by unfold wrap64; omega
  rw [e2]
  have := word_l0 p hp hl p.length k (Nat.le_refl _) hk
  rw [List.drop_length] at this
  simpa [wordOf] using this
/-- The last word of bytes of which n have come. -/
def lastw (r : List Int) (n : Nat) : Int := IntKind.u64.wrap (wordOf r + ((n : Int) % 256) * 72057594037927936)
theorem words_l0 (b : List Int) (hb : ∀ c ∈ b, Byte c) (hl : b.length ≤ 4611686018427387904) : ∀ (m k q : Nat) (acc : List Int), 8 * q ≤ b.length → b.length - 8 * q ≤ m → m + 9 < k → acc.length + m < 17592186044415 →
    ephemerisref06_Words.l0 k b acc ((8 * q : Nat) : Int) = some (acc ++ (wordsOf m (b.drop (8 * q))).1 ++ [lastw (wordsOf m (b.drop (8 * q))).2 b.length])
  | m, k, q, acc, hq, hm, hk, ha => by
    obtain ⟨k, rfl⟩ : ∃ m, k = m + 1 := ⟨k - 1, by omega⟩
    simp only [ephemerisref06_Words.l0]
    have e1 : wrap64 (((8 * q : Nat) : Int) + 8) = ((8 * (q + 1) : Nat) : Int) := by unfold wrap64; omega
    rw [e1]
    by_cases h8 : 8 * (q + 1) ≤ b.length
    · rw [if_pos (by omega), if_pos (by omega), if_pos (by omega)]
      have e2 : (b.take ((8 * (q + 1) : Nat) : Int).toNat).drop ((8 * q : Nat) : Int).toNat = (b.drop (8 * q)).take 8 := by
        rw [Int.toNat_natCast, Int.toNat_natCast, List.drop_take]
        congr 1
        omega
      rw [e2, word_f _ (fun c hc => hb c (List.mem_of_mem_drop (List.mem_of_mem_take hc))) (by simp; omega) k (by simp; omega)]
      simp only [Option.bind_some]
      rw [if_pos (by omega)]
      obtain ⟨m, rfl⟩ : ∃ n, m = n + 1 := ⟨m - 1, by omega⟩
      rw [words_l0 b hb hl m k (q + 1) _ h8 (by omega) (by omega) (by simp; omega)]
      have e3 : wordsOf (m + 1) (b.drop (8 * q)) = (wordOf ((b.drop (8 * q)).take 8) :: (wordsOf m (b.drop (8 * (q + 1)))).1, (wordsOf m (b.drop (8 * (q + 1)))).2) := by
        rw [wordsOf, if_pos (by simp; omega), List.drop_drop]
        rfl
      rw [e3]
      simp
    · rw [if_neg (by omega), if_pos (by omega), if_pos (by omega)]
      rw [Int.toNat_natCast, word_f _ (fun c hc => hb c (List.mem_of_mem_drop hc)) (by simp; omega) k (by simp; omega)]
      simp only [Option.bind_some]
      rw [if_pos (by omega)]
      have e3 : wordsOf m (b.drop (8 * q)) = ([], b.drop (8 * q)) := by
        cases m with
        | zero => rfl
        | succ m => rw [wordsOf, if_neg (by simp; omega)]
      rw [e3]
      simp [lastw]
def refWords (b : List Int) : List Int := (wordsOf b.length b).1 ++ [lastw (wordsOf b.length b).2 b.length]
theorem words_f (b : List Int) (hb : ∀ c ∈ b, Byte c) (hl : b.length < 17592186044415) : ephemerisref06_Words.f (b.length + 10) b = some (refWords b) := by
  have := words_l0 b hb (by omega) b.length (b.length + 10) 0 [] (by omega) (by omega) (by omega) (by simpa using hl)
  unfold ephemerisref06_Words.f refWords
  simpa using this
/-- The document's tag is the program's. -/
theorem tag_ref (a b : Int) (l : List Int) (h : ∀ c ∈ l, Byte c) : tagOf a b l = close ((refWords l).foldl (fun v m => takes m v) (key0 a b)) := by
  obtain ⟨q', e1, e2, e3, e4⟩ := eat_words l.length l (key0 a b) 0 (Nat.le_refl _) h
  unfold tagOf refWords
  have e0 : ((8 * 0 : Nat) : Int) = 0 := rfl
  rw [e0] at e1
  rw [List.foldl_append]
  simp only [e1]
  rw [List.foldl_cons, List.foldl_nil]
  congr 2
  rw [show ((8 * 0 + l.length : Nat) : Int) = (l.length : Int) by omega, endw_eq _ _ e4 e2]
  unfold lastw
  congr 1
  congr 1
  rw [wrap_u64]
  omega
end Go.Proofs.Ytnphjhignhmhaaa
