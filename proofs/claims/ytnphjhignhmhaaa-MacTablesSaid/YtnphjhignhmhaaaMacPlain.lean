/- SipHash on numbers: the program's rounds, the document's turns, words of bytes; no program in sight. -/
import Derived.WalkKit
namespace Go.Proofs.Ytnphjhignhmhaaa

def U64 (x : Int) : Prop := 0 ≤ x ∧ x ≤ 18446744073709551615
def add (a b : Int) : Int := IntKind.u64.wrap (a + b)
def xr (a b : Int) : Int := bits .xor .u64 a b
def rot (n : Nat) (x : Int) : Int := bits .or .u64 (IntKind.u64.wrap (x * 2 ^ n)) (x / 2 ^ (64 - n))
abbrev S4 := Int × Int × Int × Int
def rnd (v : S4) : S4 :=
  let a0 := add v.1 v.2.1
  let a2 := add v.2.2.1 v.2.2.2
  let a1 := xr (rot 13 v.2.1) a0
  let a3 := xr (rot 16 v.2.2.2) a2
  let b0 := rot 32 a0
  let c2 := add a2 a1
  let c0 := add b0 a3
  let c1 := xr (rot 17 a1) c2
  let c3 := xr (rot 21 a3) c0
  (c0, c1, rot 32 c2, c3)
def rnds : Nat → S4 → S4
  | 0, v => v
  | n + 1, v => rnds n (rnd v)
theorem rnds_succ' (n : Nat) (v : S4) : rnds (n + 1) v = rnd (rnds n v) := by
  induction n generalizing v with
  | zero => rfl
  | succ n ih => rw [rnds, ih]; rfl
def takes (m : Int) (v : S4) : S4 :=
  let r := rnds 2 (v.1, v.2.1, v.2.2.1, xr v.2.2.2 m)
  (xr r.1 m, r.2.1, r.2.2.1, r.2.2.2)
/-- The program's reading of bytes: the four numbers, the word so far, how many. -/
def eat (s : S4 × Int × Int) (c : Int) : S4 × Int × Int :=
  let w := bits .or .u64 s.2.1 (IntKind.u64.wrap (c * 2 ^ (8 * (s.2.2 % 8)).toNat))
  if (s.2.2 + 1) % 8 = 0 then (takes w s.1, 0, s.2.2 + 1) else (s.1, w, s.2.2 + 1)
def key0 (a b : Int) : S4 := (xr a 8317987319222330741, xr b 7237128888997146477, xr a 7816392313619706465, xr b 8387220255154660723)
def close (v : S4) : Int :=
  let r := rnds 4 (v.1, v.2.1, xr v.2.2.1 255, v.2.2.2)
  xr (xr (xr r.1 r.2.1) r.2.2.1) r.2.2.2
def endw (w n : Int) : Int := bits .or .u64 w (IntKind.u64.wrap (n * 2 ^ 56))
def tagOf (a b : Int) (l : List Int) : Int :=
  let s := l.foldl eat (key0 a b, 0, 0)
  close (takes (endw s.2.1 s.2.2) s.1)

theorem wrap_u64 (x : Int) : IntKind.u64.wrap x = x % 18446744073709551616 := by
  simp [IntKind.wrap, IntKind.bits, IntKind.signed]
theorem U64.wrap (x : Int) : U64 (IntKind.u64.wrap x) := by
  rw [wrap_u64]; unfold U64; omega
theorem U64.bits (op : BinOp) (a b : Int) : U64 (bits op .u64 a b) := by
  unfold Go.bits; exact U64.wrap _
theorem U64.add (a b : Int) : U64 (add a b) := U64.wrap _
theorem U64.xr (a b : Int) : U64 (xr a b) := U64.bits _ _ _
theorem U64.rot (n : Nat) (x : Int) : U64 (rot n x) := U64.bits _ _ _
def U4 (v : S4) : Prop := U64 v.1 ∧ U64 v.2.1 ∧ U64 v.2.2.1 ∧ U64 v.2.2.2
theorem U4.rnd (v : S4) : U4 (rnd v) := ⟨U64.add _ _, U64.xr _ _, U64.rot _ _, U64.xr _ _⟩

/-! ### A number turned round -/
def turn1 (x : Int) : Int := IntKind.u64.wrap (IntKind.u64.wrap (2 * x) + x / 9223372036854775808)
def turnN : Nat → Int → Int
  | 0, x => x
  | n + 1, x => turnN n (turn1 x)
theorem turnN_succ' (n : Nat) (x : Int) : turnN (n + 1) x = turn1 (turnN n x) := by
  induction n generalizing x with
  | zero => rfl
  | succ n ih => rw [turnN, ih]; rfl

theorem turn1_nat (y : Nat) (hy : y < 18446744073709551616) : turn1 (y : Int) = ((2 * y % 18446744073709551616 + y / 9223372036854775808 : Nat) : Int) := by
  unfold turn1
  simp only [wrap_u64]
  omega
theorem turn_nat (x : Nat) (hx : x < 2 ^ 64) (n : Nat) (hn : n ≤ 64) : turnN n (x : Int) = ((x % 2 ^ (64 - n) * 2 ^ n + x / 2 ^ (64 - n) : Nat) : Int) := by
  induction n with
  | zero => simp [turnN]; omega
  | succ n ih =>
    rw [turnN_succ', ih (by omega)]
    have hp : 2 ^ (64 - n) = 2 * 2 ^ (64 - (n + 1)) := by rw [← Nat.pow_succ']; congr 1; omega
    generalize hq : 2 ^ (64 - (n + 1)) = q at *
    have hqp : 0 < q := by rw [← hq]; exact Nat.pow_pos (by decide)
    have hqn : q * 2 ^ n = 9223372036854775808 := by
      rw [← hq, ← Nat.pow_add, show 64 - (n + 1) + n = 63 from by omega]
    rw [hp]
    generalize hr : 2 ^ n = r at *
    have hr2 : 2 ^ (n + 1) = 2 * r := by rw [Nat.pow_succ', hr]
    rw [hr2]
    -- x = a * (2 q) + t * q + b
    obtain ⟨a, t, b, ht, hb, hxe⟩ : ∃ a t b, t < 2 ∧ b < q ∧ x = a * (2 * q) + t * q + b := by
      refine ⟨x / (2 * q), x % (2 * q) / q, x % (2 * q) % q, ?_, Nat.mod_lt _ hqp, ?_⟩
      · exact Nat.div_lt_of_lt_mul (by rw [Nat.mul_comm q 2]; exact Nat.mod_lt _ (by omega))
      · have h1 := Nat.div_add_mod x (2 * q)
        have h2 := Nat.div_add_mod (x % (2 * q)) q
        rw [Nat.mul_comm] at h1
        rw [Nat.mul_comm] at h2
        omega
    have hx1 : x % (2 * q) = t * q + b := by
      rw [hxe, Nat.add_assoc, Nat.add_comm, Nat.add_mul_mod_self_right]
      apply Nat.mod_eq_of_lt
      have : t * q ≤ 1 * q := Nat.mul_le_mul_right q (by omega)
      omega
    have hx2 : x / (2 * q) = a := by
      rw [hxe, Nat.add_assoc, Nat.add_comm, Nat.add_mul_div_right _ _ (by omega), Nat.div_eq_of_lt, Nat.zero_add]
      have : t * q ≤ 1 * q := Nat.mul_le_mul_right q (by omega)
      omega
    have hx3 : x % q = b := by
      rw [hxe, show a * (2 * q) + t * q + b = b + (a * 2 + t) * q from by rw [Nat.add_mul, Nat.mul_assoc]; omega, Nat.add_mul_mod_self_right]
      exact Nat.mod_eq_of_lt hb
    have hx4 : x / q = a * 2 + t := by
      rw [hxe, show a * (2 * q) + t * q + b = b + (a * 2 + t) * q from by rw [Nat.add_mul, Nat.mul_assoc]; omega, Nat.add_mul_div_right _ _ hqp, Nat.div_eq_of_lt hb, Nat.zero_add]
    have har : a < r := by
      have h1 : a * (2 * q) ≤ x := by omega
      have h2 : x < r * (2 * q) := by
        rw [show r * (2 * q) = 2 * (q * r) from by rw [Nat.mul_left_comm, Nat.mul_comm r q], hqn]; exact hx
      exact Nat.lt_of_mul_lt_mul_right (Nat.lt_of_le_of_lt h1 h2)
    have hbr : b * r + r ≤ 9223372036854775808 := by
      rw [← hqn, ← Nat.succ_mul]; exact Nat.mul_le_mul_right r hb
    rw [hx1, hx2, hx3, hx4]
    have htr : (t * q + b) * r = t * 9223372036854775808 + b * r := by rw [Nat.add_mul, Nat.mul_assoc, hqn]
    rw [htr, show b * (2 * r) = 2 * (b * r) from by rw [Nat.mul_left_comm]]
    generalize b * r = z at *
    rw [turn1_nat _ (by omega)]
    congr 1
    have : t = 0 ∨ t = 1 := by omega
    rcases this with rfl | rfl <;> omega
theorem or_add (a b n : Nat) (hb : b < 2 ^ n) : (a * 2 ^ n) ||| b = a * 2 ^ n + b := by
  rw [Nat.mul_comm, Nat.two_pow_add_eq_or_of_lt hb]
theorem rot_turn (n : Nat) (hn : n ≤ 64) (x : Int) (hx : U64 x) : rot n x = turnN n x := by
  obtain ⟨y, rfl⟩ := Int.eq_ofNat_of_zero_le hx.1
  have hy : y < 2 ^ 64 := by have := hx.2; omega
  rw [turn_nat y hy n hn]
  unfold rot
  have hlt : y % 2 ^ (64 - n) * 2 ^ n < 2 ^ 64 := by
    have h := Nat.mod_lt y (show 0 < 2 ^ (64 - n) from Nat.pow_pos (by decide))
    calc y % 2 ^ (64 - n) * 2 ^ n < 2 ^ (64 - n) * 2 ^ n := Nat.mul_lt_mul_of_pos_right h (Nat.pow_pos (by decide))
      _ = 2 ^ 64 := by rw [← Nat.pow_add, show 64 - n + n = 64 from by omega]
  have e1 : IntKind.u64.wrap ((y : Int) * 2 ^ n) = ((y % 2 ^ (64 - n) * 2 ^ n : Nat) : Int) := by
    rw [wrap_u64]
    have : ((y : Int) * 2 ^ n) = ((y * 2 ^ n : Nat) : Int) := by push_cast; rfl
    rw [this, show (18446744073709551616 : Int) = ((2 ^ 64 : Nat) : Int) from rfl, ← Int.natCast_emod]
    congr 1
    have : (2 : Nat) ^ 64 = 2 ^ (64 - n) * 2 ^ n := by rw [← Nat.pow_add, show 64 - n + n = 64 from by omega]
    rw [this, Nat.mul_mod_mul_right]
  have e2 : (y : Int) / 2 ^ (64 - n) = ((y / 2 ^ (64 - n) : Nat) : Int) := by push_cast; rfl
  have h2 : y / 2 ^ (64 - n) < 2 ^ n := by
    apply Nat.div_lt_of_lt_mul
    rw [← Nat.pow_add, show 64 - n + n = 64 from by omega]; exact hy
  have h2' : (2 : Nat) ^ n ≤ 2 ^ 64 := Nat.pow_le_pow_right (by decide) hn
  rw [e1, e2, bits_or_u64_nat _ _ (by omega) (by omega), or_add _ _ _ h2]

/-! ### Words of bytes -/
def Byte (c : Int) : Prop := 0 ≤ c ∧ c ≤ 255
def wordOf : List Int → Int
  | [] => 0
  | c :: l => wordOf l * 256 + c
theorem wordOf_snoc (p : List Int) (c : Int) : wordOf (p ++ [c]) = wordOf p + c * 256 ^ p.length := by
  induction p with
  | nil => simp [wordOf]
  | cons d p ih =>
    simp only [List.cons_append, wordOf, ih, List.length_cons]
    rw [Int.add_mul, Int.pow_succ, Int.mul_assoc]
    omega
theorem wordOf_lt (p : List Int) (h : ∀ c ∈ p, Byte c) : 0 ≤ wordOf p ∧ wordOf p < 256 ^ p.length := by
  induction p with
  | nil => simp [wordOf]
  | cons d p ih =>
    have h1 := ih (fun c hc => h c (List.mem_cons_of_mem _ hc))
    have h2 := h d List.mem_cons_self
    unfold Byte at h2
    simp only [wordOf, List.length_cons]
    rw [Int.pow_succ]
    omega
theorem or_word (p : List Int) (c : Int) (hp : ∀ c ∈ p, Byte c) (hc : Byte c) (hj : p.length ≤ 7) :
    bits .or .u64 (wordOf p) (IntKind.u64.wrap (c * 2 ^ (8 * p.length))) = wordOf (p ++ [c]) := by
  have hw := wordOf_lt p hp
  rw [wordOf_snoc]
  obtain ⟨x, hx⟩ := Int.eq_ofNat_of_zero_le hw.1
  obtain ⟨y, rfl⟩ := Int.eq_ofNat_of_zero_le hc.1
  have hy : y ≤ 255 := by have := hc.2; omega
  have e256 : (256 : Int) ^ p.length = ((2 ^ (8 * p.length) : Nat) : Int) := by
    rw [Nat.pow_mul, Int.natCast_pow]; rfl
  have e2 : (2 : Int) ^ (8 * p.length) = ((2 ^ (8 * p.length) : Nat) : Int) := by rw [Int.natCast_pow]; rfl
  rw [hx] at hw ⊢
  rw [e256] at hw ⊢
  rw [e2]
  have hpow : 2 ^ (8 * p.length) ≤ 2 ^ 56 := Nat.pow_le_pow_right (by decide) (by omega)
  have hym : y * 2 ^ (8 * p.length) ≤ 255 * 2 ^ 56 := Nat.mul_le_mul hy hpow
  have ec : ((y : Int) * ((2 ^ (8 * p.length) : Nat) : Int)) = ((y * 2 ^ (8 * p.length) : Nat) : Int) := by push_cast; rfl
  rw [ec, wrap_u64, Int.emod_eq_of_lt (by omega) (by omega), bits_or_u64_nat _ _ (by omega) (by omega), Nat.or_comm, or_add _ _ _ (by omega)]
  push_cast
  omega
theorem eat_part (v : S4) (p : List Int) (c : Int) (q : Nat) (hp : ∀ c ∈ p, Byte c) (hc : Byte c) (hj : p.length < 7) :
    eat (v, wordOf p, ((8 * q + p.length : Nat) : Int)) c = (v, wordOf (p ++ [c]), ((8 * q + (p ++ [c]).length : Nat) : Int)) := by
  unfold eat
  have e1 : (8 * (((8 * q + p.length : Nat) : Int) % 8)).toNat = 8 * p.length := by omega
  simp only [e1]
  rw [if_neg (by omega), or_word p c hp hc (by omega)]
  simp
  omega
theorem eat_full (v : S4) (p : List Int) (c : Int) (q : Nat) (hp : ∀ c ∈ p, Byte c) (hc : Byte c) (hj : p.length = 7) :
    eat (v, wordOf p, ((8 * q + p.length : Nat) : Int)) c = (takes (wordOf (p ++ [c])) v, 0, ((8 * (q + 1) : Nat) : Int)) := by
  unfold eat
  have e1 : (8 * (((8 * q + p.length : Nat) : Int) % 8)).toNat = 8 * p.length := by omega
  simp only [e1]
  rw [if_pos (by omega), or_word p c hp hc (by omega)]
  have e : ((8 * q + p.length : Nat) : Int) + 1 = ((8 * (q + 1) : Nat) : Int) := by omega
  rw [e]
/-- Fewer than eight bytes stay in the word. -/
theorem eat_few (v : S4) (q : Nat) (r : List Int) : ∀ (p : List Int), (∀ c ∈ p ++ r, Byte c) → (p ++ r).length < 8 →
    r.foldl eat (v, wordOf p, ((8 * q + p.length : Nat) : Int)) = (v, wordOf (p ++ r), ((8 * q + (p ++ r).length : Nat) : Int)) := by
  induction r with
  | nil => intro p _ _; simp
  | cons c r ih =>
    intro p h hl
    simp only [List.length_append, List.length_cons] at hl
    rw [List.foldl_cons, eat_part v p c q (fun d hd => h d (by simp [hd])) (h c (by simp)) (by omega), ih (p ++ [c]) (by simpa using h) (by simp; omega)]
    simp
/-- Eight bytes make a word, which is taken. -/
theorem eat_eight (v : S4) (q : Nat) (a : List Int) (h : ∀ c ∈ a, Byte c) (ha : a.length = 8) :
    a.foldl eat (v, 0, ((8 * q : Nat) : Int)) = (takes (wordOf a) v, 0, ((8 * (q + 1) : Nat) : Int)) := by
  obtain ⟨p, c, rfl⟩ : ∃ p c, a = p ++ [c] := ⟨a.dropLast, a.getLast (by intro h; simp [h] at ha), (List.dropLast_concat_getLast _).symm⟩
  simp at ha
  rw [List.foldl_append]
  have := eat_few v q p [] (fun d hd => h d (by simpa using Or.inl hd)) (by simp; omega)
  simp only [wordOf, List.length_nil, Nat.add_zero, List.nil_append] at this
  rw [this]
  exact eat_full v p c q (fun d hd => h d (by simp [hd])) (h c (by simp)) ha
/-- The document's words: of eight bytes each, and the rest. -/
def wordsOf : Nat → List Int → List Int × List Int
  | 0, l => ([], l)
  | k + 1, l => if 8 ≤ l.length then (wordOf (l.take 8) :: (wordsOf k (l.drop 8)).1, (wordsOf k (l.drop 8)).2) else ([], l)
theorem eat_words (k : Nat) : ∀ (l : List Int) (v : S4) (q : Nat), l.length ≤ k → (∀ c ∈ l, Byte c) →
    ∃ q', l.foldl eat (v, 0, ((8 * q : Nat) : Int)) = ((wordsOf k l).1.foldl (fun v m => takes m v) v, wordOf (wordsOf k l).2, ((8 * q + l.length : Nat) : Int)) ∧ (wordsOf k l).2.length < 8 ∧
      8 * q + l.length = 8 * q' + (wordsOf k l).2.length ∧ (∀ c ∈ (wordsOf k l).2, Byte c) := by
  induction k with
  | zero =>
    intro l v q hl h
    have : l = [] := List.eq_nil_of_length_eq_zero (by omega)
    subst this
    exact ⟨q, by simp [wordsOf, wordOf], by simp [wordsOf], by simp [wordsOf], by simp [wordsOf]⟩
  | succ k ih =>
    intro l v q hl h
    unfold wordsOf
    by_cases h8 : 8 ≤ l.length
    · rw [if_pos h8]
      have e : l = l.take 8 ++ l.drop 8 := (List.take_append_drop 8 l).symm
      obtain ⟨q', e1, e2, e3, e4⟩ := ih (l.drop 8) (takes (wordOf (l.take 8)) v) (q + 1) (by simp; omega) (fun c hc => h c (List.mem_of_mem_drop hc))
      refine ⟨q', ?_, e2, by simp at e3 ⊢; omega, e4⟩
      rw [show l.foldl eat (v, 0, ((8 * q : Nat) : Int)) = (l.drop 8).foldl eat ((l.take 8).foldl eat (v, 0, ((8 * q : Nat) : Int))) from by
        rw [← List.foldl_append, List.take_append_drop]]
      rw [eat_eight v q _ (fun c hc => h c (List.mem_of_mem_take hc)) (by simp; omega), e1]
      refine Prod.ext rfl (Prod.ext rfl ?_)
      simp
      omega
    · rw [if_neg h8]
      refine ⟨q, ?_, by simpa using (by omega : l.length < 8), rfl, h⟩
      have := eat_few v q l [] (by simpa using h) (by simp; omega)
      simpa [wordOf] using this
/-- The last word bears how many bytes there are. -/
theorem endw_eq (r : List Int) (n : Nat) (h : ∀ c ∈ r, Byte c) (hr : r.length < 8) : endw (wordOf r) (n : Int) = IntKind.u64.wrap (wordOf r + IntKind.u64.wrap (((n % 256 : Nat) : Int) * 72057594037927936)) := by
  have hw := wordOf_lt r h
  have hp : (256 : Int) ^ r.length ≤ 72057594037927936 := by
    have : 256 ^ r.length ≤ 256 ^ 7 := Nat.pow_le_pow_right (by decide) (by omega)
    have h2 : (256 : Int) ^ r.length = ((256 ^ r.length : Nat) : Int) := by rw [Int.natCast_pow]; rfl
    rw [h2]; omega
  obtain ⟨x, hx⟩ := Int.eq_ofNat_of_zero_le hw.1
  unfold endw
  rw [hx] at hw ⊢
  have e1 : IntKind.u64.wrap ((n : Int) * 2 ^ 56) = ((n % 256 * 2 ^ 56 : Nat) : Int) := by
    rw [wrap_u64]
    have : (2 : Int) ^ 56 = 72057594037927936 := rfl
    rw [this]
    omega
  rw [e1, bits_or_u64_nat _ _ (by omega) (by omega), Nat.or_comm, or_add _ _ _ (by omega)]
  simp only [wrap_u64]
  omega
end Go.Proofs.Ytnphjhignhmhaaa
