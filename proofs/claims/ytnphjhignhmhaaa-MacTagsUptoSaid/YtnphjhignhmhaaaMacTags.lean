/- MacTags: the pure side, and what the parts are to the walk. -/
import Derived.Test.YtnphjhignhmhaaaPTgx4
import Derived.Test.YtnphjhignhmhaaaOpen
import Derived.Test.YtnphjhignhmhaaaRows
import Derived.Test.YtnphjhignhmhaaaMacWords
namespace Go.Proofs.Ytnphjhignhmhaaa
open Go.RowKit Go.ChangeShapes Go.WideShapes Go.ChangeAt Go.Proofs.YtnphjhignhmhaaaW.PrintWords Go.Proofs.YtnphjhignhmhaaaW.PrintLast Go.Proofs.YtnphjhignhmhaaaW.PrintMore PTg
set_option linter.unusedVariables false

theorem join_l0 (ls : List (List Int)) (hl : ls.length ≤ 4611686018427387904) : ∀ (d k i : Nat) (acc : List Int), i ≤ ls.length → ls.length - i = d → d < k → acc.length + (ls.drop i).flatten.length < 140737488355328 →
    ephemerisref06_Join.l0 k ls acc (i : Int) = some (acc ++ (ls.drop i).flatten)
  | 0, k, i, acc, hi, hd, hk, hs => by
    obtain ⟨k, rfl⟩ : ∃ m, k = m + 1 := ⟨k - 1, by omega⟩
    simp only [ephemerisref06_Join.l0]
    rw [if_neg (by omega), List.drop_eq_nil_of_le (by omega)]
    simp
  | d + 1, k, i, acc, hi, hd, hk, hs => by
    obtain ⟨k, rfl⟩ : ∃ m, k = m + 1 := ⟨k - 1, by omega⟩
    simp only [ephemerisref06_Join.l0]
    have hil : i < ls.length := by omega
    have e1 : rd_L4 ls (i : Int) = ls[i] := by unfold rd_L4; simp [hil]
    have e2 : wrap64 ((i : Int) + 1) = ((i + 1 : Nat) : Int) := by unfold wrap64; omega
    rw [List.drop_eq_getElem_cons hil] at hs ⊢
    simp only [List.flatten_cons, List.length_append] at hs ⊢
    rw [if_pos (by omega), if_pos (by omega), e1, if_pos (by omega), e2, join_l0 ls hl d k (i + 1) _ (by omega) (by omega) (by omega) (by rw [List.length_append]; omega)]
    simp
theorem join_f (ls : List (List Int)) (hl : ls.length ≤ 4611686018427387904) (hs : ls.flatten.length < 140737488355328) : ephemerisref06_Join.f (ls.length + 1) ls = some ls.flatten := by
  have := join_l0 ls hl ls.length (ls.length + 1) 0 [] (by omega) (by omega) (by omega) (by simpa using hs)
  unfold ephemerisref06_Join.f
  simpa using this
theorem tag_f (k a b : Int) (ls : List (List Int)) (h : PTg.Good ls) : mac_Tag.f k a b ls = some (tagOf a b ls.flatten) := by unfold mac_Tag.f; rw [if_pos h]
theorem right_f (k a b o : Int) (ls : List (List Int)) (h : PTg.Good ls) : mac_Right.f k a b o ls = some (tagOf a b ls.flatten == o) := by unfold mac_Right.f; rw [if_pos h]
theorem rtag_f (k a b : Int) (l : List Int) (h : PTg.GoodB l) : ephemerisref06_Tag.f k a b l = some (tagOf a b l) := by unfold ephemerisref06_Tag.f; rw [if_pos h]
theorem macTags_pure (k a b : Int) (ls : List (List Int)) (other : Int) (hb : ∀ l ∈ ls, ∀ x ∈ l, Byte x) (hs : (ls.take 30).flatten.length ≤ 1048576) :
    ∃ n, ephemerislaw06_MacTags.f n k a b ls other = some true := by
  have hl : (ls.take 30).length ≤ 30 := by simp; omega
  refine ⟨(ls.take 30).length + 1, ?_⟩
  have e0 : ls.take (mn (ls.length : Int) 30).toNat = ls.take 30 := by
    unfold mn
    split
    · rfl
    · rw [Int.toNat_natCast, List.take_length, List.take_of_length_le (by omega)]
  have hb' : ∀ l ∈ ls.take 30, ∀ x ∈ l, Byte x := fun l h => hb l (List.mem_of_mem_take h)
  have hbf : ∀ x ∈ (ls.take 30).flatten, Byte x := by
    intro x hx
    obtain ⟨l, h1, h2⟩ := List.mem_flatten.1 hx
    exact hb' l h1 x h2
  unfold ephemerislaw06_MacTags.f
  rw [if_pos (by unfold mn; split <;> omega), if_pos (by unfold mn; split <;> omega), e0]
  simp only [Option.bind_some]
  rw [join_f _ (by omega) (by omega)]
  simp only [Option.bind_some]
  have hg : PTg.Good (ls.take 30) := ⟨hb', by omega⟩
  have hgb : PTg.GoodB (ls.take 30).flatten := ⟨hbf, by omega⟩
  have eT := tag_f k a b _ hg
  have eR := fun o => right_f k a b o _ hg
  have eD := rtag_f k a b _ hgb
  clear hg hgb hbf hb'
  obtain ⟨T, hT⟩ : ∃ T, T = tagOf a b (ls.take 30).flatten := ⟨_, rfl⟩
  rw [← hT] at eT eD
  simp only [← hT] at eR
  clear hT
  rw [eD]
  simp only [Option.bind_some]
  rw [eT]
  simp only [Option.bind_some]
  rw [if_pos trivial, eR]
  simp only [Option.bind_some]
  rw [beq_self_eq_true, if_pos rfl, eR]
  simp only [Option.bind_some]
  have e3 : ((T == other) == (other == T)) = true := by
    by_cases h : T = other
    · subst h; simp
    · have h' : ¬ other = T := fun e => h e.symm
      rw [beq_eq_false_iff_ne.2 h, beq_eq_false_iff_ne.2 h']
      rfl
  rw [if_pos e3]
  simp only [ephemerislaw06_wakes.f, Option.bind_some]

section
variable {H : Type} {enc : TypeId × Value → H} {P : Program} {w : World} {base : Nat} {spare : Nat → Bool} {held : Bool}
theorem bulk_len (l : List (DataW H)) : l.length ≤ Rows.uptoBulkAll l := by
  induction l with
  | nil => simp [Rows.uptoBulkAll]
  | cons x r ih =>
    have : 1 ≤ Rows.uptoBulk x := by
      cases x with
      | lit l => cases l <;> simp [Rows.uptoBulk]
      | nil => simp [Rows.uptoBulk]
      | ptr d => simp [Rows.uptoBulk]
      | slice elems spare => simp [Rows.uptoBulk]
      | agg parts => simp [Rows.uptoBulk]
      | iface t d => simp [Rows.uptoBulk]
      | map entries => simp [Rows.uptoBulk]
      | held h => simp [Rows.uptoBulk]
    simp only [Rows.uptoBulkAll, List.length_cons]; omega
theorem open_bytes {t e : TypeId} {fuel : Nat} {cs : List Value} {x : DataW H × List MemPlace} (ht : P.underlying t = some (.slice e)) (he : P.underlying e = some (.int .u8)) (hc : P.cellsOf e = 1) (h : DataW.trod enc P w base spare held fuel t cs = some x) :
    ∃ A l c, cs = [.slice A (l : List Int).length c] ∧ l.length ≤ c ∧ Kd.C (Kd.int .u8) w A l.length l ∧ (∀ b ∈ l, Byte b) ∧ l.length ≤ Rows.uptoBulk x.1 := by
  rcases Go.Deep.open_slice1 ht hc h with ⟨rfl, rfl⟩ | ⟨a, len, cap, m, n, V, D, Pl, rfl, _, hl, hm, hmm, rfl, hx⟩
  · exact ⟨none, [], 0, rfl, by simp, ⟨rfl, by simp, fun h => by simp at h⟩, by simp, by simp⟩
  · have hlm : len ≤ m := by rw [hmm]; split <;> omega
    have hV : ∀ i, ∃ z : Int, i < len → w.cell? (a.add i) = some (.int .u8 z) ∧ Byte z := by
      intro i
      by_cases hi : i < len
      · obtain ⟨h1, h2⟩ := hx i (by omega)
        obtain ⟨z, e0, _, hz⟩ := DataW.trod_int he h2
        have e1 : V i = .int .u8 z := by simpa using e0
        refine ⟨z, fun _ => ⟨by rw [h1, e1], ?_⟩⟩
        simp [Lit.wf, IntKind.min, IntKind.max, IntKind.bits, IntKind.signed] at hz
        unfold Byte; omega
      · exact ⟨0, fun h => absurd h hi⟩
    obtain ⟨f, hf⟩ := Classical.axiomOfChoice hV
    refine ⟨some a, (List.range len).map f, cap, by simp, by simp; exact hl, ?_, ?_, ?_⟩
    · refine ⟨rfl, by simp; unfold maxLen at hm; omega, fun _ => ⟨a, rfl, fun j p hj => ?_⟩⟩
      have hjl : j < len := by have := (List.getElem?_eq_some_iff.1 hj).1; simpa using this
      have e1 : p = f j := by
        rw [List.getElem?_map, List.getElem?_range hjl] at hj
        simpa using hj.symm
      subst e1
      refine ⟨[.int .u8 (f j)], rfl, rfl, fun i u hi => ?_⟩
      cases i with
      | zero =>
        simp at hi
        subst hi
        have := (hf j hjl).1
        rwa [show (Kd.int .u8).sz = 1 from rfl, Nat.mul_one, Nat.add_zero]
      | succ i => simp at hi
    · intro b hb
      obtain ⟨i, hi, rfl⟩ := List.mem_map.1 hb
      exact (hf i (by simpa using hi)).2
    · have := bulk_len ((List.range len).map D)
      simp only [Rows.uptoBulk, List.length_map, List.length_range] at this ⊢
      omega
theorem take_bulk (L : List (List Int)) (D : Nat → DataW H) : ∀ (n : Nat), (∀ i l, L[i]? = some l → l.length ≤ Rows.uptoBulk (D i)) → (L.take n).flatten.length ≤ Rows.uptoBulkAll ((List.range L.length).map D) := by
  induction L generalizing D with
  | nil => intro n _; simp
  | cons l L ih =>
    intro n h
    cases n with
    | zero => simp
    | succ n =>
      have h0 := h 0 l rfl
      have h1 := ih (fun i => D (i + 1)) n (fun i l' hi => h (i + 1) l' (by simpa using hi))
      rw [List.length_cons, List.range_succ_eq_map, List.map_cons, List.map_map]
      simp only [List.take_succ_cons, List.flatten_cons, List.length_append, Rows.uptoBulkAll]
      have e : (D ∘ Nat.succ) = fun i => D (i + 1) := rfl
      rw [e]
      omega
theorem open_parts {t e u : TypeId} {A : Option Addr} {len cap : Nat} {d : DataW H} {p : List MemPlace} (ht : P.underlying t = some (.slice e)) (hc : P.cellsOf e = 1) (he : P.underlying e = some (.slice u)) (hu : P.underlying u = some (.int .u8)) (hcu : P.cellsOf u = 1)
    (h : DataW.Trod enc P w base spare held t (.slice A len cap) d p) :
    ∃ ls : List (List Int), ls.length = len ∧ len ≤ cap ∧ Kd.C (Kd.slice u (Kd.int .u8)) w A len ls ∧ (∀ l ∈ ls, ∀ b ∈ l, Byte b) ∧ ∀ n, (ls.take n).flatten.length ≤ Rows.uptoBulk d := by
  obtain ⟨fuel, hf⟩ := h
  rcases Go.Deep.open_slice1 ht hc hf with ⟨hcs, _⟩ | ⟨a, l, c, m, n, V, D, Pl, hcs, _, hl, hm, hmm, hxx, hx⟩
  · simp [Value.cells] at hcs
    obtain ⟨rfl, rfl, rfl⟩ := hcs
    exact ⟨[], rfl, by simp, ⟨rfl, by simp, fun h => by simp at h⟩, by simp, by simp⟩
  · simp [Value.cells] at hcs
    obtain ⟨rfl, rfl, rfl⟩ := hcs
    have hd : d = (DataW.slice ((List.range len).map D) ((List.range (m - len)).map fun j => D (len + j))) := congrArg Prod.fst hxx
    have hlm : len ≤ m := by rw [hmm]; split <;> omega
    have hV : ∀ i, ∃ z : List Int, i < len → ∃ A' c', w.cell? (a.add i) = some (.slice A' z.length c') ∧ z.length ≤ c' ∧ Kd.C (Kd.int .u8) w A' z.length z ∧ (∀ b ∈ z, Byte b) ∧ z.length ≤ Rows.uptoBulk (D i) := by
      intro i
      by_cases hi : i < len
      · obtain ⟨h1, h2⟩ := hx i (by omega)
        obtain ⟨A', z, c', e1, e2, e3, e4, e5⟩ := open_bytes he hu hcu h2
        refine ⟨z, fun _ => ⟨A', c', ?_, e2, e3, e4, e5⟩⟩
        rw [h1]
        simpa using e1
      · exact ⟨[], fun h => absurd h hi⟩
    obtain ⟨f, hf⟩ := Classical.axiomOfChoice hV
    have hget : ∀ j p, ((List.range len).map f)[j]? = some p → j < len ∧ p = f j := by
      intro j p hj
      have hjl : j < len := by have := (List.getElem?_eq_some_iff.1 hj).1; simpa using this
      rw [List.getElem?_map, List.getElem?_range hjl] at hj
      exact ⟨hjl, by simpa using hj.symm⟩
    refine ⟨(List.range len).map f, by simp, hl, ⟨by simp, by unfold maxLen at hm; omega, fun _ => ⟨a, rfl, fun j p hj => ?_⟩⟩, ?_, fun n => ?_⟩
    · obtain ⟨hjl, rfl⟩ := hget j p hj
      obtain ⟨A', c', h1, h2, h3, _⟩ := hf j hjl
      refine ⟨[.slice A' (f j).length c'], rfl, ⟨A', c', rfl, h2, h3⟩, fun i v hi => ?_⟩
      cases i with
      | zero =>
        simp at hi
        subst hi
        rwa [show (Kd.slice u (Kd.int .u8)).sz = 1 from rfl, Nat.mul_one, Nat.add_zero]
      | succ i => simp at hi
    · intro l hl b hb
      obtain ⟨i, hi, rfl⟩ := List.mem_map.1 hl
      obtain ⟨_, _, _, _, _, h4, _⟩ := hf i (by simpa using hi)
      exact h4 b hb
    · have := take_bulk ((List.range len).map f) D n (fun i l hi => by
        obtain ⟨hil, rfl⟩ := hget i l hi
        obtain ⟨_, _, _, _, _, _, h5⟩ := hf i hil
        exact h5)
      rw [hd]
      simp only [Rows.uptoBulk, List.length_map, List.length_range] at this ⊢
      omega
end
theorem macTags_walk (c0 : List Value) (A : Option Addr) (len cap : Nat) (ls : List (List Int)) (o : Int) (w : World) (h0 : okAll [.i .u32, .i .u64, .i .u64] c0) (hlen : ls.length = len) (hcap : len ≤ cap) (hC : Kd.C (Kd.slice 5 (Kd.int .u8)) w A len ls)
    (hb : ∀ l ∈ ls, ∀ b ∈ l, Byte b) (hs : (ls.take 30).flatten.length ≤ 1048576) :
    Calls Try.prog 3 #[.agg c0.toArray, .slice A len cap, .int .u64 o] w fun e w' => e = .returned (.bool true) ∧ Below w.heap.size w w' := by
  obtain ⟨k, a, b, rfl⟩ := key_of h0
  subst hlen
  obtain ⟨n, hn⟩ := macTags_pure k a b ls o hb hs
  exact ephemerislaw06_MacTags.calls n k a b A cap ls o true w hC hcap hn
end Go.Proofs.Ytnphjhignhmhaaa
