/- Keys: a row of keys as a plain list, what finds a key by its number, and how they lie in memory. -/
import Derived.Test.YtnphjhignhmhaaaMapF
import Derived.Test.YtnphjhignhmhaaaOpen
import Derived.Test.YtnphjhignhmhaaaLists
import Derived.Test.YtnphjhignhmhaaaMacTag
namespace Go.Proofs.Ytnphjhignhmhaaa
open Go.RowKit
set_option linter.unusedVariables false
set_option linter.unusedSimpArgs false

abbrev K3 := Int × Int × Int
def kv (k : K3) : Value := .agg #[.int .u32 k.1, .int .u64 k.2.1, .int .u64 k.2.2]
def enc3 (k : K3) : List Value := [.int .u32 k.1, .int .u64 k.2.1, .int .u64 k.2.2]
def KOk (k : K3) : Prop := (Lit.int .u32 k.1).wf = true
def fnd (l : List K3) (id : Int) : Option K3 := l.find? (fun k => k.1 == id)
def keysF (l : List K3) : Int → Option Value := fun id => (fnd l id).map kv
def fz (l : List K3) (id : Int) : K3 := (fnd l id).getD (0, 0, 0)
def newE (l : List K3) : Int := if l.any (fun k => k.1 == 0) = true then 1 else if ¬ (l.map (·.1)).Nodup then 9 else if 16 < l.length then 7 else 0

theorem fnd_nil (id : Int) : fnd [] id = none := rfl
theorem fnd_snoc (l : List K3) (k : K3) (id : Int) : fnd (l ++ [k]) id = (fnd l id).or (if k.1 = id then some k else none) := by
  unfold fnd
  rw [List.find?_append]
  by_cases h : k.1 = id
  · simp [List.find?_cons, h]
  · simp [List.find?_cons, h]
theorem fnd_none {l : List K3} {id : Int} (h : fnd l id = none) : ∀ k ∈ l, k.1 ≠ id := by
  unfold fnd at h; rw [List.find?_eq_none] at h
  intro k hk e; exact h k hk (by simp [e])
theorem fnd_some {l : List K3} {id : Int} {k : K3} (h : fnd l id = some k) : k ∈ l ∧ k.1 = id := by
  unfold fnd at h
  exact ⟨List.mem_of_find?_eq_some h, by have := List.find?_some h; simpa using this⟩
theorem keysF_nil : keysF [] = fun _ => none := rfl
theorem keysF_put {l : List K3} {k : K3} (h : fnd l k.1 = none) : putF (keysF l) k.1 (kv k) = keysF (l ++ [k]) := by
  funext id
  unfold putF keysF
  rw [fnd_snoc]
  by_cases e : id = k.1
  · subst e; simp [h]
  · rw [if_neg e, if_neg (Ne.symm e)]; simp
theorem keysF_some (l : List K3) (id : Int) : (keysF l id).isSome = (fnd l id).isSome := by unfold keysF; simp
theorem keysF_getD (l : List K3) (id : Int) : (keysF l id).getD (.agg #[.int .u32 0, .int .u64 0, .int .u64 0]) = kv (fz l id) := by
  unfold keysF fz kv; cases fnd l id <;> rfl
/-- No number twice in the first i. -/
def Nd (l : List K3) (i : Nat) : Prop := ((l.take i).map (·.1)).Nodup
theorem Nd.zero (l : List K3) : Nd l 0 := by simp [Nd]
theorem Nd.succ {l : List K3} {i : Nat} {k : K3} (h : Nd l i) (hi : l[i]? = some k) (hf : fnd (l.take i) k.1 = none) : Nd l (i + 1) := by
  unfold Nd at *
  rw [take_snoc hi, List.map_append, List.nodup_append]
  refine ⟨h, by simp, ?_⟩
  intro a ha b hb
  simp at hb
  obtain ⟨c, hc, rfl⟩ := List.mem_map.1 ha
  rw [hb]
  exact fnd_none hf c hc
theorem Nd.no {l : List K3} {i : Nat} {k q : K3} (hi : l[i]? = some k) (hf : fnd (l.take i) k.1 = some q) : ¬ (l.map (·.1)).Nodup := by
  intro h
  obtain ⟨hq, e⟩ := fnd_some hf
  have h2 : ((l.take (i + 1)).map (·.1)).Nodup := h.sublist ((List.take_sublist _ _).map _)
  rw [take_snoc hi, List.map_append, List.nodup_append] at h2
  exact h2.2.2 q.1 (List.mem_map.2 ⟨q, hq, rfl⟩) k.1 (by simp) e
theorem Nd.all {l : List K3} (h : Nd l l.length) : (l.map (·.1)).Nodup := by unfold Nd at h; rwa [List.take_length] at h
theorem newE_arg {l : List K3} {i : Nat} {k : K3} (hi : l[i]? = some k) (h0 : k.1 = 0) : newE l = 1 := by
  unfold newE
  rw [if_pos (List.any_eq_true.2 ⟨k, List.mem_of_getElem? hi, by simp [h0]⟩)]
/-- None of the first i is 0. -/
def Nz (l : List K3) (i : Nat) : Prop := ∀ j k, j < i → l[j]? = some k → k.1 ≠ 0
theorem Nz.any {l : List K3} (h : Nz l l.length) : l.any (fun k => k.1 == 0) = false := by
  rw [Bool.eq_false_iff]
  intro e
  obtain ⟨k, hk, h0⟩ := List.any_eq_true.1 e
  obtain ⟨j, hj, rfl⟩ := List.getElem_of_mem hk
  exact h j _ hj (List.getElem?_eq_getElem hj) (by simpa using h0)
theorem newE_there {l : List K3} (h : Nz l l.length) (hn : ¬ (l.map (·.1)).Nodup) : newE l = 9 := by
  unfold newE; rw [h.any, if_neg (by simp), if_pos hn]
theorem newE_full {l : List K3} (h : Nz l l.length) (hn : (l.map (·.1)).Nodup) (hl : 16 < l.length) : newE l = 7 := by
  unfold newE; rw [h.any, if_neg (by simp), if_neg (by simpa using hn), if_pos hl]
theorem newE_ok {l : List K3} (h : Nz l l.length) (hn : (l.map (·.1)).Nodup) (hl : ¬ 16 < l.length) : newE l = 0 := by
  unfold newE; rw [h.any, if_neg (by simp), if_neg (by simpa using hn), if_neg hl]
theorem newE_ne {l : List K3} (h : newE l ≠ 0) : newE l = 1 ∨ newE l = 9 ∨ newE l = 7 := by
  unfold newE at *; split
  · exact .inl rfl
  · split
    · exact .inr (.inl rfl)
    · split
      · exact .inr (.inr rfl)
      · rename_i a b c; rw [if_neg a, if_neg b, if_neg c] at h; exact absurd rfl h

/-- The three cells of a key. -/
def At3 (w : World) (r o : Nat) (k : K3) : Prop := w.cell? ⟨r, o, none⟩ = some (.int .u32 k.1) ∧ w.cell? ⟨r, o + 1, none⟩ = some (.int .u64 k.2.1) ∧ w.cell? ⟨r, o + 2, none⟩ = some (.int .u64 k.2.2)
theorem At3.fr {w w' : World} {r o : Nat} {k : K3} {S : Nat → Prop} (h : At3 w r o k) (f : Fr S w w') (hs : ¬ S r) : At3 w' r o k := by
  have hb := World.block_lt_of_cell? w _ h.1
  exact ⟨(f.cell (a := ⟨r, o, none⟩) hb hs).trans h.1, (f.cell (a := ⟨r, o + 1, none⟩) hb hs).trans h.2.1, (f.cell (a := ⟨r, o + 2, none⟩) hb hs).trans h.2.2⟩
/-- A slice's address at which the keys l lie. -/
def Ks (w : World) (A : Option Addr) (l : List K3) : Prop :=
  (∀ k ∈ l, KOk k) ∧ (0 < l.length → ∃ b off, A = some ⟨b, off, none⟩ ∧ b < w.heap.size ∧ ∀ i k, l[i]? = some k → At3 w b (off + i * 3) k)
theorem Ks.fr {w w' : World} {A : Option Addr} {l : List K3} {S : Nat → Prop} (h : Ks w A l) (f : Fr S w w') (hs : ∀ b off, A = some ⟨b, off, none⟩ → ¬ S b) : Ks w' A l := by
  refine ⟨h.1, fun hn => ?_⟩
  obtain ⟨b, off, e, hb, hc⟩ := h.2 hn
  exact ⟨b, off, e, f.lt hb, fun i k hi => (hc i k hi).fr f (hs b off e)⟩
theorem Ks.fr0 {w w' : World} {A : Option Addr} {l : List K3} (h : Ks w A l) (f : Fr (fun _ => False) w w') : Ks w' A l := h.fr f (fun _ _ _ h => h)
theorem Ks.nil (w : World) (A : Option Addr) : Ks w A [] := ⟨by simp, fun h => by simp at h⟩
theorem Ks.drew {w : World} {A : Option Addr} {l : List K3} (h : Ks w A l) : Ks w.drew A l := h
theorem Ks.take {w : World} {A : Option Addr} {l : List K3} (h : Ks w A l) (n : Nat) : Ks w A (l.take n) := by
  refine ⟨fun k hk => h.1 k (List.mem_of_mem_take hk), fun hn => ?_⟩
  obtain ⟨b, off, e, hb, hc⟩ := h.2 (by rw [List.length_take] at hn; omega)
  refine ⟨b, off, e, hb, fun i k hi => hc i k ?_⟩
  rw [List.getElem?_take] at hi
  split at hi
  · exact hi
  · cases hi
theorem ks_of {w : World} {A : Option Addr} {len cap : Nat} (h : RdS [.i .u32, .i .u64, .i .u64] w A len cap) : len ≤ cap ∧ cap ≤ maxLen ∧ ∃ l : List K3, l.length = len ∧ Ks w A l := by
  rcases h with ⟨rfl, h1, h2⟩ | ⟨b, off, rfl, h1, h2, hb, R, hR⟩
  · exact ⟨h1, h2, [], rfl, Ks.nil _ _⟩
  · have key : ∀ i, ∃ k : K3, i < len → KOk k ∧ At3 w b (off + i * 3) k := by
      intro i
      by_cases hi : i < len
      · obtain ⟨ho, hc⟩ := hR i hi
        match hq : R i, ho with
        | [u, v, x], ho =>
          obtain ⟨⟨n, rfl, wn⟩, ⟨m, rfl, _⟩, ⟨o, rfl, _⟩, _⟩ := ho
          refine ⟨(n, m, o), fun _ => ⟨wn, ?_, ?_, ?_⟩⟩
          · simpa using hc 0 _ (by rw [hq]; rfl)
          · simpa using hc 1 _ (by rw [hq]; rfl)
          · simpa using hc 2 _ (by rw [hq]; rfl)
      · exact ⟨(0, 0, 0), fun h => absurd h hi⟩
    obtain ⟨f, hf⟩ := Classical.axiomOfChoice key
    refine ⟨h1, h2, (List.range len).map f, by simp, ?_, fun _ => ⟨b, off, rfl, hb, ?_⟩⟩
    · intro k hk
      obtain ⟨i, hi, rfl⟩ := List.mem_map.1 hk
      exact (hf i (by simpa using hi)).1
    · intro i k hi
      have hil : i < len := by have := (List.getElem?_eq_some_iff.1 hi).1; simpa using this
      rw [List.getElem?_map, List.getElem?_range hil] at hi
      obtain rfl := Option.some.inj hi
      exact (hf i hil).2

def flat3 : List K3 → List Value
  | [] => []
  | c :: l => enc3 c ++ flat3 l
theorem flat3_len : ∀ L : List K3, (flat3 L).length = L.length * 3
  | [] => rfl
  | c :: l => by simp [flat3, enc3, flat3_len l]; omega
theorem flat3_get : ∀ (L : List K3) (i j : Nat) (c : K3), L[i]? = some c → j < 3 → (flat3 L)[i * 3 + j]? = (enc3 c)[j]?
  | [], i, j, c, h, _ => by simp at h
  | d :: l, 0, j, c, h, hj => by
    simp at h; subst h
    rw [flat3, Nat.zero_mul, Nat.zero_add, List.getElem?_append_left (by simpa [enc3] using hj)]
  | d :: l, i + 1, j, c, h, hj => by
    have := flat3_get l i j c (by simpa using h) hj
    rw [flat3, List.getElem?_append_right (by simp [enc3]; omega)]
    rw [← this]; congr 1; simp [enc3]; omega
theorem flat3_one : ∀ (L : List K3), ∀ u ∈ flat3 L, u.oneCell' = true
  | [], u, h => by cases h
  | c :: l, u, h => by
    rw [flat3] at h
    rcases List.mem_append.1 h with h | h
    · simp [enc3] at h; rcases h with rfl | rfl | rfl <;> rfl
    · exact flat3_one l u h
theorem flat3_app : ∀ (L M : List K3), flat3 (L ++ M) = flat3 L ++ flat3 M
  | [], M => rfl
  | c :: l, M => by simp [flat3, flat3_app l M]
theorem At3.flat {w : World} {b off : Nat} {l : List K3} (h : ∀ i k, l[i]? = some k → At3 w b (off + i * 3) k) (j : Nat) (u : Value) (hj : (flat3 l)[j]? = some u) : w.cell? ⟨b, off + j, none⟩ = some u := by
  have hjl : j < l.length * 3 := by have := (List.getElem?_eq_some_iff.1 hj).1; rwa [flat3_len] at this
  obtain ⟨c, hc⟩ : ∃ c, l[j / 3]? = some c := ⟨_, List.getElem?_eq_getElem (by omega)⟩
  have e : j = j / 3 * 3 + j % 3 := by omega
  have hf := flat3_get l (j / 3) (j % 3) c hc (by omega)
  rw [← e, hj] at hf
  obtain ⟨a0, a1, a2⟩ := h _ c hc
  have hr : j % 3 = 0 ∨ j % 3 = 1 ∨ j % 3 = 2 := by omega
  rw [show off + j = off + j / 3 * 3 + j % 3 by omega]
  rcases hr with r | r | r <;> rw [r] at hf ⊢ <;> simp [enc3] at hf <;> subst hf <;> assumption
/-- A row of keys of the call's own, laid open. -/
theorem own_ks {w : World} {base n : Nat} {v : Value} {l : List K3} (h : w.ownsRow base 25 3 v n (flat3 l)) (hn : n = l.length) (hk : ∀ k ∈ l, KOk k) :
    ∃ A cap, v = .slice A n cap ∧ n ≤ cap ∧ cap ≤ maxLen ∧ Ks w A l ∧ (0 < n → ∃ b cs, A = some ⟨b, 0, none⟩ ∧ Blk w b cs 25 ∧ cs.size = cap * 3) ∧ ∀ b o, A = some ⟨b, o, none⟩ → base ≤ b ∧ b < w.heap.size := by
  rcases h.2 with ⟨rfl, h1⟩ | ⟨g, cap', cur, rfl, hg, hb, hnc, hcm, hsz, htk⟩
  · subst h1
    have : l = [] := List.eq_nil_of_length_eq_zero hn.symm
    subst this
    exact ⟨none, 0, rfl, by simp, by simp, Ks.nil _ _, fun h => absurd h (by omega), fun _ _ e => by cases e⟩
  · have hb' : Blk w g cur 25 := hb
    refine ⟨some ⟨g, 0, none⟩, cap', rfl, hnc, hcm, ⟨hk, fun h0 => ⟨g, 0, rfl, hb'.lt, fun i k hi => ?_⟩⟩, fun _ => ⟨g, cur, rfl, hb', hsz⟩, fun b o e => ?_⟩
    · have hil := (List.getElem?_eq_some_iff.1 hi).1
      have key : ∀ j v, j < 3 → (enc3 k)[j]? = some v → w.cell? ⟨g, 0 + i * 3 + j, none⟩ = some v := by
        intro j v hj hv
        rw [hb'.cell]
        have hf := flat3_get l i j k hi hj
        rw [hv, ← htk, List.getElem?_take_of_lt (by omega)] at hf
        simpa using hf
      exact ⟨key 0 _ (by omega) rfl, key 1 _ (by omega) rfl, key 2 _ (by omega) rfl⟩
    · injection e with e
      injection e with e1 e2
      subst e1
      exact ⟨hg, hb'.lt⟩
theorem info3 : (Try.prog.info? 25).map (fun i => (i.zero, i.size, i.bytes)) = some (some (.agg #[.int .u32 0, .int .u64 0, .int .u64 0]), 3, 24) := by kernel_rfl
section
variable {ops : Array Oper} {rest : List Oper} {o : Oper} {a : Act} {Q : Exit → Act → World → Prop} {w : World}
/-- append(v, x...) of keys, v a row of the call's own. -/
theorem wpList_append_ks (hgd : o.guard = none) (s x : Operand)
    (ho : o.op = .call { callee := .builtin .append, args := #[s, x], argTypes := #[38, 38] }) (base : Nat) (v : Value) (L M : List K3) (A : Option Addr) (m cap : Nat)
    (hs : a.eval s = v) (hx : a.eval x = .slice A m cap) (hown : w.ownsRow base 25 3 v L.length (flat3 L)) (hk : Ks w A M) (hm : m = M.length) (hl : L.length + M.length ≤ 1048576) (hbase : base ≤ w.heap.size)
    (h : ∀ v' w', w'.ownsRow base 25 3 v' (L ++ M).length (flat3 (L ++ M)) → w.grownBy w' v.ownBlock → (v'.ownBlock = v.ownBlock ∨ v'.ownBlock = some w.heap.size) → wpList Try.prog ops Q rest (a.put o.dst v') w') :
    wpList Try.prog ops Q (o :: rest) a w := by
  subst hm
  obtain ⟨i0, hi, hzz⟩ := Option.map_eq_some_iff.1 info3
  simp only [Prod.mk.injEq] at hzz
  obtain ⟨hz0, hz1, hz2⟩ := hzz
  by_cases hn : M = []
  · subst hn
    simp only [List.append_nil] at h
    refine wpList_plain hgd fun K hK => ?_
    have hv : ∃ A c, v = .slice A L.length c ∧ L.length ≤ c := by
      rcases hown.2 with ⟨rfl, h0⟩ | ⟨g, cap, cur, rfl, _, _, hc, _⟩
      · exact ⟨none, 0, by rw [h0], by omega⟩
      · exact ⟨_, cap, rfl, hc⟩
    obtain ⟨A', c, rfl, hc⟩ := hv
    unfold Oper.wp execOp
    simp only [ho, resolve, invoke, builtin, Sem.run_bind, Sem.run_pure, Result.andThen_ok, List.map_toArray, List.map_cons, List.map_nil, hs, hx]
    rw [show ([] : List K3).length = 0 from rfl, run_append_zero 38 o.type 25 i0 Try.underlying38 hi A' A L.length c cap hc]
    exact hK _ _ (h _ _ hown ⟨rfl, rfl, rfl, Nat.le_refl _, fun _ _ _ => rfl⟩ (.inl rfl))
  · have h0 : 0 < M.length := List.length_pos_iff.2 hn
    obtain ⟨b, off, rfl, hb, hc⟩ := hk.2 h0
    have hadd : ∀ k, (⟨b, off, none⟩ : Addr).add k = ⟨b, off + k, none⟩ := by intro k; unfold Addr.add; split <;> simp_all
    refine wpList_append_own_at (P := Try.prog) (w := w) hgd s x 38 ho base 25 i0 _ 3 24 Try.underlying38 hi hz0 hz1 hz2 rfl (by decide) v L.length (flat3 L) hs hown ⟨b, off, none⟩ M.length cap (flat3 M) hx (flat3_len M) ?_ (flat3_one M) (by unfold maxLen; omega) (by omega) hbase ?_
    · intro j u hj
      rw [hadd]
      exact At3.flat hc j u hj
    · intro v' w' h2 h3 _ h5
      exact h v' w' (by rw [List.length_append, flat3_app]; exact h2) h3 h5
end
theorem own3_fr {S : Nat → Prop} {w w' : World} {base : Nat} {v : Value} {n : Nat} {xs : List Value} (h : w.ownsRow base 25 3 v n xs) (k : Fr S w w') (hs : ∀ g, v.ownBlock = some g → ¬ S g) : w'.ownsRow base 25 3 v n xs := by
  obtain ⟨hl, h⟩ := h
  refine ⟨hl, ?_⟩
  rcases h with h | ⟨g, cap, cur, rfl, hg, hh, r⟩
  · exact .inl h
  · exact .inr ⟨g, cap, cur, rfl, hg, (k.block g (Array.getElem?_eq_some_iff.1 hh).1 (hs g (by simp [Value.ownBlock]))).trans hh, r⟩
theorem own3_nil (w : World) (base : Nat) : w.ownsRow base 25 3 (.slice none 0 0) ([] : List K3).length (flat3 []) := ⟨rfl, .inl ⟨rfl, rfl⟩⟩
end Go.Proofs.Ytnphjhignhmhaaa
