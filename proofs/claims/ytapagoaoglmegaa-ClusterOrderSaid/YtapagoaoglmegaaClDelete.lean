/- slices.Delete of one candidate. -/
import Derived.Test.YtapagoaoglmegaaClDel
import Derived.Deep.RegionLaw
import Derived.Shelf.RegionOpenPlain
namespace Go.Proofs.Ytapagoaoglmegaa
open Go.RowKit Go.Proofs.YtapagoaoglmegaaW.PrintWords Go.Proofs.YtapagoaoglmegaaW.PrintLast Go.Proofs.YtapagoaoglmegaaW.PrintMore PCl
set_option linter.unusedVariables false
set_option linter.unusedSimpArgs false
set_option maxRecDepth 100000

def flatC (L : List S27) : List Value := L.flatMap encC
theorem flatC_len : ∀ L : List S27, (flatC L).length = L.length * 5
  | [] => rfl
  | c :: L => by
    have := flatC_len L
    unfold flatC at *
    rw [List.flatMap_cons, List.length_append, this, enc_len, List.length_cons]; omega
theorem flatC_get : ∀ (L : List S27) (i : Nat) (c : S27), L[i]? = some c → ∀ j v, (encC c)[j]? = some v → (flatC L)[i * 5 + j]? = some v
  | [], i, c, h, j, v, hj => by simp at h
  | d :: L, 0, c, h, j, v, hj => by
    simp at h; subst h
    have hj5 := (List.getElem?_eq_some_iff.1 hj).1
    unfold flatC
    rw [List.flatMap_cons, Nat.zero_mul, Nat.zero_add, List.getElem?_append_left hj5]; exact hj
  | d :: L, i + 1, c, h, j, v, hj => by
    have ih := flatC_get L i c (by simpa using h) j v hj
    unfold flatC at *
    rw [List.flatMap_cons, List.getElem?_append_right (by rw [enc_len]; omega), enc_len, show (i + 1) * 5 + j - 5 = i * 5 + j by omega]
    exact ih
theorem flatC_inv (L : List S27) (t : Nat) (u : Value) (h : (flatC L)[t]? = some u) : ∃ i c j, t = i * 5 + j ∧ L[i]? = some c ∧ (encC c)[j]? = some u := by
  have ht := (List.getElem?_eq_some_iff.1 h).1
  rw [flatC_len] at ht
  have hi : t / 5 < L.length := by omega
  obtain ⟨c, hc⟩ : ∃ c, L[t / 5]? = some c := ⟨L[t / 5], List.getElem?_eq_getElem hi⟩
  obtain ⟨v, hv⟩ : ∃ v, (encC c)[t % 5]? = some v := ⟨(encC c)[t % 5]'(by rw [enc_len]; omega), List.getElem?_eq_getElem _⟩
  have e : t = t / 5 * 5 + t % 5 := by omega
  refine ⟨t / 5, c, t % 5, e, hc, ?_⟩
  have := flatC_get L (t / 5) c hc (t % 5) v hv
  rw [← e, h] at this
  rw [hv, this]
theorem flatC_one (L : List S27) : ∀ u ∈ flatC L, u.oneCell' = true := by
  intro u hu
  unfold flatC at hu
  obtain ⟨c, _, hc⟩ := List.mem_flatMap.1 hu
  simp [encC] at hc
  rcases hc with rfl | rfl | rfl | rfl | rfl <;> rfl
theorem Blk.setCells2 (b : Nat) {t : TypeId} : ∀ (vs : List Value) (o : Nat) (w : World) (cs : Array Value), Blk w b cs t → ∃ cs', Blk (w.setCells b o vs) b cs' t ∧ cs'.size = cs.size ∧ (∀ j, j < o → cs'[j]? = cs[j]?) ∧ ∀ j v, vs[j]? = some v → o + j < cs.size → cs'[o + j]? = some v
  | [], o, w, cs, h => ⟨cs, h, rfl, fun _ _ => rfl, fun j v hj => by simp at hj⟩
  | v :: vs, o, w, cs, h => by
    obtain ⟨cs', h1, h2, h3, h4⟩ := Blk.setCells2 b vs (o + 1) (w.setCell ⟨b, o, none⟩ v) _ (h.set rfl)
    refine ⟨cs', h1, by simpa using h2, fun j hj => ?_, fun j u hj hs => ?_⟩
    · rw [h3 j (by omega), Array.getElem?_setIfInBounds, if_neg (by omega)]
    · cases j with
      | zero =>
        simp at hj; subst hj
        rw [Nat.add_zero, h3 o (by omega), Array.getElem?_setIfInBounds, if_pos rfl, if_pos (by omega)]
      | succ j =>
        have := h4 j u (by simpa using hj) (by simp; omega)
        rw [show o + (j + 1) = o + 1 + j by omega]; exact this
/-- Candidates are laid behind the first n. -/
theorem Row.put {w : World} {g cap : Nat} {L : List S27} (h : Row w g cap L) (n : Nat) (hn : n ≤ L.length) (L2 : List S27) (h2 : n + L2.length ≤ cap) : Row (w.setCells g (n * 5) (flatC L2)) g cap (L.take n ++ L2) := by
  obtain ⟨cur, hb, k1, k2, k3⟩ := h
  obtain ⟨cs', q1, q2, q3, q4⟩ := Blk.setCells2 g (flatC L2) (n * 5) w cur hb
  have hlt : (L.take n).length = n := by simp; omega
  refine ⟨cs', q1, by omega, by rw [List.length_append]; omega, fun i c hi j v hj => ?_⟩
  have hj5 : j < 5 := by have := (List.getElem?_eq_some_iff.1 hj).1; simpa [encC] using this
  by_cases hin : i < n
  · rw [List.getElem?_append_left (by omega), List.getElem?_take_of_lt hin] at hi
    rw [q3 _ (by omega)]; exact k3 i c hi j v hj
  · rw [List.getElem?_append_right (by omega), hlt] at hi
    have hi2 := (List.getElem?_eq_some_iff.1 hi).1
    have := q4 ((i - n) * 5 + j) v (flatC_get L2 (i - n) c hi j v hj) (by omega)
    rw [show n * 5 + ((i - n) * 5 + j) = i * 5 + j by omega] at this
    exact this
theorem Row.cell {w : World} {g cap : Nat} {L : List S27} (h : Row w g cap L) {i : Nat} {c : S27} (hi : L[i]? = some c) {j : Nat} {v : Value} (hj : (encC c)[j]? = some v) : w.cell? ⟨g, i * 5 + j, none⟩ = some v := by
  obtain ⟨cur, hb, k1, k2, k3⟩ := h
  exact (hb.cell _).trans (k3 i c hi j v hj)
theorem erase_eq {α : Type} (M : List α) (k : Nat) : M.take k ++ M.drop (k + 1) = M.eraseIdx k := (List.eraseIdx_eq_take_drop_succ M k).symm

set_option maxHeartbeats 8000000 in
theorem delete_at {w : World} {g cap k : Nat} {M : List S27} (hR : Row w g cap M) (hcm : cap ≤ maxLen) (hk : k < M.length) :
    Calls Try.prog 56 #[.slice (some ⟨g, 0, none⟩) M.length cap, .int .i64 k, .int .i64 ((k : Int) + 1)] w
      fun e w' => e = .returned (.slice (some ⟨g, 0, none⟩) (M.eraseIdx k).length cap) ∧ Row w' g cap (M.eraseIdx k) ∧ Fr (fun i => i = g) w w' := by
  have hl : M.length ≤ 9223372036854775807 := by have := hR.len; unfold maxLen at hcm; omega
  have hlc := hR.len
  have hcm2 : cap ≤ 9223372036854775807 := by unfold maxLen at hcm; omega
  have hgb := hR.lt
  obtain ⟨j, hj⟩ : ∃ j, j = k + 1 := ⟨_, rfl⟩
  rw [show ((k : Int) + 1) = ((j : Nat) : Int) by omega]
  have hne : ((k : Int) == (j : Int)) = false := by rw [beq_eq_false_iff_ne]; omega
  obtain ⟨news, hnews⟩ : ∃ news, news = flatC (M.drop j) := ⟨_, rfl⟩
  have hlen : news.length = (M.length - j) * 5 := by rw [hnews, flatC_len, List.length_drop]
  obtain ⟨A, hA, hsrc⟩ : ∃ A : Addr, (if cap = j then some (⟨g, 0, none⟩ : Addr) else some ⟨g, j * 5, none⟩) = some A ∧ Hid (∀ t u, news[t]? = some u → w.drew.cell? (A.add t) = some u) := by
    by_cases h : cap = j
    · refine ⟨⟨g, 0, none⟩, by simp [h], hid fun t u hu => ?_⟩
      have h0 : news.length = 0 := by rw [hlen]; omega
      rw [List.length_eq_zero_iff.1 h0] at hu
      simp at hu
    · refine ⟨⟨g, j * 5, none⟩, by simp [h], hid fun t u hu => ?_⟩
      rw [hnews] at hu
      obtain ⟨i, c, q, rfl, hi, hq⟩ := flatC_inv _ _ _ hu
      rw [List.getElem?_drop] at hi
      rw [add_none, show j * 5 + (i * 5 + q) = (j + i) * 5 + q by omega]
      exact hR.cell hi hq
  have s1 : Hid (news.length = (M.length - j) * 5) := hid hlen
  have s2 : Hid (∀ u ∈ news, u.oneCell' = true) := by rw [hnews]; exact hid (flatC_one _)
  have s3 : Hid (∀ t, t < news.length → (w.drew.cell? ⟨g, 0 + k * 5 + t, none⟩).isSome = true ∧ w.drew.frozen? ⟨g, 0 + k * 5 + t, none⟩ = false) := hid (by
    intro t ht
    rw [hlen] at ht
    obtain ⟨v, h1, h2⟩ := hR.there (o := 0 + k * 5 + t) (by omega)
    exact ⟨by show (w.cell? _).isSome = true; rw [h1]; rfl, h2⟩)
  obtain ⟨W1, hW1⟩ : ∃ W1, W1 = w.drew.setCells g (0 + k * 5) news := ⟨_, rfl⟩
  have f1 : Fr (fun i => i = g) w W1 := by rw [hW1]; exact Fr.setCells (S := fun i => i = g) g (.inr rfl) _ _ _ (Fr.drew (Fr.refl _ _))
  have hR1 : Row W1 g cap (M.eraseIdx k) := by
    rw [hW1, ← erase_eq, hnews, Nat.zero_add, hj]
    exact Row.put hR.drew k (by omega) _ (by rw [List.length_drop]; omega)
  have hel : (M.eraseIdx k).length = k + (M.length - j) := by rw [← erase_eq, List.length_append, List.length_take, List.length_drop]; omega
  have hcl := clear27 (o := k + (M.length - j)) (n := M.length - (k + (M.length - j))) (c := cap - (k + (M.length - j))) hR1 (by omega)
  have HR1 := hid hR1
  have Hel := hid hel
  have hW : Hid (W1 = w.drew.setCells g (0 + k * 5) news) := hid hW1
  have hic : k ≤ cap := by omega
  have hjc : j ≤ cap := by omega
  have hjl : j ≤ M.length := by omega
  have hkj : k ≤ j := by omega
  obtain ⟨i0, hi0, hz1⟩ : ∃ i0, Try.prog.info? 27 = some i0 ∧ i0.size = 5 := by
    have h := info27
    obtain ⟨i0, h1, h2⟩ := Option.map_eq_some_iff.1 h
    simp only [Prod.mk.injEq] at h2
    exact ⟨i0, h1, h2.2.1⟩
  have mixed : Try.prog.follows Departure.mixedOrders = true := by kernel_rfl
  have Hj := hid hj
  have hkj2 : k < j := by omega
  clear hR hW1 hR1 hnews hlen hel hj
  go_enter Try.func56, Try.ntmps56
  go_wp2_with fail
  go_region_law_o (refine step_append_room rfl (.tmp 22) (.tmp 25) 22 rfl 27 i0 5 Try.underlying22 hi0 hz1 g 0 k cap (by simp [Act.eval, Act.put]) A (M.length - j) (cap - j) news (by simp [Act.eval, Act.put]) s1.out hsrc.out s2.out (by omega) s3.out ?_; rw [← hW.out])
  go_wp2
  go_ret
  rw [Hel.out]
  refine ⟨rfl, ?_, Fr.setCells (S := fun i => i = g) g (.inr rfl) _ _ _ f1⟩
  have h := HR1.out.setCells (k + (M.length - j)) (List.replicate ((M.length - (k + (M.length - j))) * 5) (Value.int IntKind.i64 0))
  rw [List.take_of_length_le (by rw [Hel.out]; exact Nat.le_refl _)] at h
  exact h
end Go.Proofs.Ytapagoaoglmegaa
