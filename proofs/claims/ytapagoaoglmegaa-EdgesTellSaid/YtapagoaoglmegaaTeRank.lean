/- The document's rank: how many other places of ends are below a place. -/
import Derived.Test.YtapagoaoglmegaaTeRef
namespace Go.Proofs.Ytapagoaoglmegaa
open Go.RowKit Go.Proofs.YtapagoaoglmegaaW.PrintWords Go.Proofs.YtapagoaoglmegaaW.PrintLast Go.Proofs.YtapagoaoglmegaaW.PrintMore PCl
set_option linter.unusedVariables false
set_option linter.unusedSimpArgs false
set_option maxRecDepth 100000
theorem own_csM {w : World} {base : Nat} {e : TypeId} {v : Value} {l : List Int} (h : w.ownsRow base e 1 v (l.map (Value.int .i64)).length (l.map (Value.int .i64))) :
    (v = .slice none 0 0 ∧ l = []) ∨ ∃ g cap, v = .slice (some ⟨g, 0, none⟩) l.length cap ∧ l.length ≤ cap ∧ cap ≤ maxLen ∧ base ≤ g ∧ CsE (Value.int .i64) w g l := own_cs (by rwa [List.length_map] at h)
def addR (p : Int) (S : List Int) (x : Int) : List Int := if x < p ∧ x ∉ S then S ++ [x] else S
def seenR (p : Int) (P : List Int) : List Int := P.foldl (addR p) []
theorem addR_ok {S : List Int} (h : S.Nodup) (p x : Int) : (addR p S x).Nodup ∧ ∀ y, y ∈ addR p S x ↔ y ∈ S ∨ (y = x ∧ x < p) := by
  unfold addR
  by_cases c : x < p ∧ x ∉ S
  · rw [if_pos c]
    refine ⟨List.nodup_append.2 ⟨h, by simp, fun a ha b hb => ?_⟩, fun y => by rw [List.mem_append, List.mem_singleton]; constructor; (rintro (h | h); exact .inl h; exact .inr ⟨h, c.1⟩); (rintro (h | h); exact .inl h; exact .inr h.1)⟩
    simp at hb; subst hb
    exact fun e => c.2 (e ▸ ha)
  · rw [if_neg c]
    refine ⟨h, fun y => ⟨.inl, fun q => q.elim id (fun e => ?_)⟩⟩
    by_cases hx : x ∈ S
    · rw [e.1]; exact hx
    · exact absurd ⟨e.2, hx⟩ c
theorem seenR_go (p : Int) : ∀ (P S : List Int), S.Nodup → (P.foldl (addR p) S).Nodup ∧ ∀ y, y ∈ P.foldl (addR p) S ↔ y ∈ S ∨ (y ∈ P ∧ y < p)
  | [], S, h => ⟨h, fun y => by simp⟩
  | x :: P, S, h => by
    obtain ⟨a1, a2⟩ := addR_ok h p x
    obtain ⟨c1, c2⟩ := seenR_go p P _ a1
    refine ⟨c1, fun y => ?_⟩
    rw [List.foldl_cons, c2, a2, List.mem_cons]
    constructor
    · rintro ((h | ⟨h1, h2⟩) | ⟨h1, h2⟩)
      · exact .inl h
      · exact .inr ⟨.inl h1, by omega⟩
      · exact .inr ⟨.inr h1, h2⟩
    · rintro (h | ⟨h1 | h1, h2⟩)
      · exact .inl (.inl h)
      · exact .inl (.inr ⟨h1, by omega⟩)
      · exact .inr ⟨h1, h2⟩
theorem seenR_len (p : Int) (L : List S24) : (seenR p (plE L)).length = rkE (posE L) p := by
  obtain ⟨h1, h2⟩ := seenR_go p (plE L) [] List.nodup_nil
  unfold rkE
  rw [List.countP_eq_length_filter]
  have hn : (posE L).Nodup := ((pos_ok L).1).imp (fun h => by omega)
  have : (seenR p (plE L)).Perm ((posE L).filter (fun y => decide (y < p))) := by
    refine (List.perm_ext_iff_of_nodup h1 (hn.filter _)).2 fun y => ?_
    rw [h2, List.mem_filter, pos_mem]
    simp
  exact this.length_eq
theorem seenR_snoc {P : List Int} {k : Nat} {x : Int} (h : P[k]? = some x) (p : Int) : seenR p (P.take (k + 1)) = addR p (seenR p (P.take k)) x := by
  unfold seenR
  rw [List.take_add_one, h, List.foldl_append]; rfl
theorem seenR_bd (p : Int) (P : List Int) : ∀ k, (seenR p (P.take k)).length ≤ k
  | 0 => by simp [seenR]
  | k + 1 => by
    have := seenR_bd p P k
    cases h : P[k]? with
    | none => rw [List.take_add_one, h]; simp; omega
    | some x =>
      rw [seenR_snoc h]
      unfold addR
      split
      · simp; omega
      · omega
theorem plE_get {L : List S24} : ∀ (L : List S24) (j : Nat) (s : S24), L[j]? = some s → (plE L)[2 * j]? = some s.f1 ∧ (plE L)[2 * j + 1]? = some s.f2
  | a :: L, 0, s, h => by simp at h; subst h; exact ⟨rfl, rfl⟩
  | a :: L, j + 1, s, h => by
    have := plE_get (L := L) L j s (by simpa using h)
    have e1 : plE (a :: L) = a.f1 :: a.f2 :: plE L := by unfold plE; rw [List.flatMap_cons]; rfl
    rw [e1, show 2 * (j + 1) = 2 * j + 1 + 1 by omega]
    simpa using this
set_option maxHeartbeats 8000000 in
theorem rrank_at {w : World} {A : Option Addr} {cap : Nat} {L : List S24} (hC : Kd.C k24 w A L.length L) (hc : L.length ≤ cap) (hn : L.length ≤ 100) (p : Int) :
    Calls Try.prog 78 #[.slice A L.length cap, .int .i64 p] w fun e w' => e = .returned (.int .i64 (rkE (posE L) p : Nat)) ∧ Fr (fun _ => False) w w' := by
  have HC := hidE hC
  obtain ⟨R, hR⟩ : ∃ R, R = rkE (posE L) p := ⟨_, rfl⟩
  rw [← hR]
  have HR := hidE (show R = (seenR p (plE L)).length by rw [hR, seenR_len])
  obtain ⟨P, hP⟩ : ∃ P, P = plE L := ⟨_, rfl⟩
  have HPl := hidE (show P.length = 2 * L.length by rw [hP]; exact plE_len L)
  have HG := hidE (fun (j : Nat) (s : S24) (h : L[j]? = some s) => plE_get (L := L) L j s h)
  rw [← hP] at HR HG
  clear hC hR hP
  go_enter Try.func78, Try.ntmps78
  go_wp2_with fail
  go_loopw [5, 6] (fun v5 v6 wr => ∃ i : Nat, i ≤ 2 * L.length ∧ v6 = .int .i64 (i : Int) ∧ wr.ownsRow w.heap.size 2 1 v5 ((seenR p (P.take i)).map (Value.int .i64)).length ((seenR p (P.take i)).map (Value.int .i64)) ∧ Fr (fun _ => False) w wr) (fun _ v6 _ => 2 * L.length - (intOf v6).toNat)
  case atStart => exact ⟨0, Nat.zero_le _, rfl, by simpa [seenR] using World.ownsRow_nil _ _ _ _, Fr.refl _ _⟩
  case round =>
    obtain ⟨wo, rfl⟩ : ∃ wo : World, wo = wr := ⟨_, rfl⟩
    obtain ⟨i, hi, rfl, hown, hf⟩ := hrel
    have HO := hidE hown
    clear hown
    by_cases hlt : i < 2 * L.length
    · obtain ⟨j, hj⟩ : ∃ j, j = i / 2 := ⟨_, rfl⟩
      have hjl : j < L.length := by omega
      obtain ⟨r, off, rfl, hr, hat⟩ := C24_open HC.out (by omega)
      obtain ⟨s, hs⟩ : ∃ s, L[j]? = some s := ⟨_, List.getElem?_eq_getElem hjl⟩
      obtain ⟨c0, c1, c2⟩ := (hat j s hs).fr hf (fun h => h)
      have hg := HG.out j s hs
      have l1 : (i : Int) < 2 * (L.length : Int) := by omega
      have l2 : (i : Int) / 2 = (j : Int) := by omega
      have l3 : (j : Int) < (L.length : Int) := by omega
      have hbd := seenR_bd p P i
      have hsz := hf.size
      clear hat hs
      by_cases hpar : i % 2 = 1
      · have hx : P[i]? = some s.f2 := by rw [show i = 2 * j + 1 by omega]; exact hg.2
        have HX := hidE (seenR_snoc hx p)
        have l4 : (i : Int) % 2 = 1 := by omega
        obtain ⟨x, hxe⟩ : ∃ x, x = s.f2 := ⟨_, rfl⟩
        rw [← hxe] at HX c2
        clear hj hg hx hpar hxe
        obtain ⟨S, hS⟩ : ∃ S, S = seenR p (P.take i) := ⟨_, rfl⟩
        rw [← hS] at HX HO hbd
        have HS0 := hidE hS
        clear hS
        obtain ⟨A5, c5, hv5⟩ : ∃ A5 c5, u5 = .slice A5 S.length c5 := by
          rcases own_csM HO.out with ⟨h1, h2⟩ | ⟨g, c, h1, _⟩
          · exact ⟨none, 0, by first | (rw [h1, h2]; done) | (rw [h1, h2]; rfl)⟩
          · exact ⟨_, c, by first | (rw [h1]; done) | (rw [h1]; simp)⟩
        subst hv5
        have HO1 := HO
        go_wp2_with fail
        go_loop [8, 9] (fun v8 v9 => ∃ (k : Nat) (b : Bool), k ≤ S.length ∧ v8 = .bool b ∧ v9 = .int .i64 (k : Int) ∧ Hid (b = (S.take k).any (fun y => y == x))) (fun _ v9 => S.length - (intOf v9).toNat)
        case atStart => exact ⟨0, false, Nat.zero_le _, rfl, rfl, hidE (by simp)⟩
        case round =>
          obtain ⟨k, b, hk, rfl, rfl, hb⟩ := hrel
          by_cases hkl : k < S.length
          · obtain ⟨y, hy⟩ : ∃ y, S[k]? = some y := ⟨_, List.getElem?_eq_getElem hkl⟩
            obtain ⟨g, hgA, hgc⟩ : ∃ g, A5 = some ⟨g, 0, none⟩ ∧ wo.cell? ⟨g, k, none⟩ = some (.int .i64 y) := by
              rcases own_csM HO.out with ⟨h1, h2⟩ | ⟨g, c, h1, _, _, _, h2⟩
              · rw [h2] at hkl; simp at hkl
              · injection h1 with h1
                exact ⟨g, h1, h2.cell hy⟩
            subst hgA
            have u1 : (k : Int) < (S.length : Int) := by omega
            have hn1 := hidE (any_snoc (fun y => y == x) hy)
            by_cases hyx : y = x
            · have u2 : (y == x) = true := beq_iff_eq.2 hyx
              have hnn : Hid ((S.take (k + 1)).any (fun y => y == x) = true) := hidE (by rw [hn1.out, u2]; simp)
              clear hyx hy hb
              go_wp2
              go_round
              case rel => exact ⟨k + 1, true, by omega, rfl, by go_num, hidE hnn.out.symm⟩
              case measure => simp [intOf]; omega
            · have u2 : (y == x) = false := beq_eq_false_iff_ne.2 hyx
              have hnn : Hid ((S.take (k + 1)).any (fun y => y == x) = b) := hidE (by rw [hn1.out, u2, ← hb.out]; simp)
              clear hyx hy hb
              go_wp2
              go_round
              case rel => exact ⟨k + 1, b, by omega, rfl, by go_num, hidE hnn.out.symm⟩
              case measure => simp [intOf]; omega
          · obtain rfl : k = S.length := by omega
            have hbm : b = decide (x ∈ S) := by
              rw [hb.out, List.take_length, Bool.eq_iff_iff, List.any_eq_true, decide_eq_true_eq]
              exact ⟨fun ⟨y, h1, h2⟩ => by rw [beq_iff_eq] at h2; exact h2 ▸ h1, fun h => ⟨x, h, by simp⟩⟩
            by_cases hc1 : x < p ∧ x ∉ S
            · have hb2 : b = false := by rw [hbm]; exact decide_eq_false hc1.2
              subst hb2
              have u3 : decide (x < p) = true := decide_eq_true hc1.1
              have hE : Hid (seenR p (P.take (i + 1)) = S ++ [x]) := hidE (by rw [HX.out]; unfold addR; rw [if_pos hc1])
              have lN : Lst (wo.alloc (.cells #[.int .i64 x] 2)) 2 (.slice (some ⟨wo.heap.size, 0, none⟩) 1 1) [.int .i64 x] := Lst.new wo 2 [.int .i64 x] (by simp) (by simp [maxLen])
              have o2 := HO.out.alloc (.cells #[.int .i64 x] 2)
              have s2 : w.heap.size ≤ (wo.alloc (.cells #[.int .i64 x] 2)).heap.size := by simp; omega
              clear hb hbm hc1 hkl
              go_wp2_with (at_builtin; refine wpList_append_lst rfl _ _ 103 rfl w.heap.size 2 (.int .i64 0) 8 Try.underlying103 info64 rfl _ _ _ [.int .i64 x] rfl rfl o2 lN (by simp [Value.oneCell']) (by simp [maxLen]; omega) (by simp; omega) s2 ?_)
              intro v' w3 o3 g3 b3
              have f3 : Fr (fun _ => False) w w3 := Fr.grown (hf.alloc _) g3 (fun j hj => .inl (o2.lt j hj).1)
              clear o2 lN s2
              go_wp2
              go_roundw
              case rel => exact ⟨i + 1, by omega, by go_num, by rw [hE.out, List.map_append]; simpa using o3, f3⟩
              case measure => simp [intOf]; omega
            · have hE : Hid (seenR p (P.take (i + 1)) = S) := hidE (by rw [HX.out]; unfold addR; rw [if_neg hc1])
              by_cases hxp : x < p
              · have hb2 : b = true := by
                  rw [hbm]
                  refine decide_eq_true ?_
                  by_cases h : x ∈ S
                  · exact h
                  · exact absurd ⟨hxp, h⟩ hc1
                subst hb2
                have u3 : decide (x < p) = true := decide_eq_true hxp
                clear hb hbm hc1 hkl hxp
                go_wp2
                go_roundw
                case rel => exact ⟨i + 1, by omega, by go_num, by rw [hE.out]; exact HO1.out, hf⟩
                case measure => simp [intOf]; omega
              · have u3 : decide (x < p) = false := decide_eq_false hxp
                clear hb hbm hc1 hkl hxp
                go_wp2
                go_roundw
                case rel => exact ⟨i + 1, by omega, by go_num, by rw [hE.out]; exact HO1.out, hf⟩
                case measure => simp [intOf]; omega
      · have hx : P[i]? = some s.f1 := by rw [show i = 2 * j by omega]; exact hg.1
        have HX := hidE (seenR_snoc hx p)
        have l4 : (i : Int) % 2 = 0 := by omega
        obtain ⟨x, hxe⟩ : ∃ x, x = s.f1 := ⟨_, rfl⟩
        rw [← hxe] at HX c1
        clear hj hg hx hpar hxe
        obtain ⟨S, hS⟩ : ∃ S, S = seenR p (P.take i) := ⟨_, rfl⟩
        rw [← hS] at HX HO hbd
        have HS0 := hidE hS
        clear hS
        obtain ⟨A5, c5, hv5⟩ : ∃ A5 c5, u5 = .slice A5 S.length c5 := by
          rcases own_csM HO.out with ⟨h1, h2⟩ | ⟨g, c, h1, _⟩
          · exact ⟨none, 0, by first | (rw [h1, h2]; done) | (rw [h1, h2]; rfl)⟩
          · exact ⟨_, c, by first | (rw [h1]; done) | (rw [h1]; simp)⟩
        subst hv5
        have HO1 := HO
        go_wp2_with fail
        go_loop [8, 9] (fun v8 v9 => ∃ (k : Nat) (b : Bool), k ≤ S.length ∧ v8 = .bool b ∧ v9 = .int .i64 (k : Int) ∧ Hid (b = (S.take k).any (fun y => y == x))) (fun _ v9 => S.length - (intOf v9).toNat)
        case atStart => exact ⟨0, false, Nat.zero_le _, rfl, rfl, hidE (by simp)⟩
        case round =>
          obtain ⟨k, b, hk, rfl, rfl, hb⟩ := hrel
          by_cases hkl : k < S.length
          · obtain ⟨y, hy⟩ : ∃ y, S[k]? = some y := ⟨_, List.getElem?_eq_getElem hkl⟩
            obtain ⟨g, hgA, hgc⟩ : ∃ g, A5 = some ⟨g, 0, none⟩ ∧ wo.cell? ⟨g, k, none⟩ = some (.int .i64 y) := by
              rcases own_csM HO.out with ⟨h1, h2⟩ | ⟨g, c, h1, _, _, _, h2⟩
              · rw [h2] at hkl; simp at hkl
              · injection h1 with h1
                exact ⟨g, h1, h2.cell hy⟩
            subst hgA
            have u1 : (k : Int) < (S.length : Int) := by omega
            have hn1 := hidE (any_snoc (fun y => y == x) hy)
            by_cases hyx : y = x
            · have u2 : (y == x) = true := beq_iff_eq.2 hyx
              have hnn : Hid ((S.take (k + 1)).any (fun y => y == x) = true) := hidE (by rw [hn1.out, u2]; simp)
              clear hyx hy hb
              go_wp2
              go_round
              case rel => exact ⟨k + 1, true, by omega, rfl, by go_num, hidE hnn.out.symm⟩
              case measure => simp [intOf]; omega
            · have u2 : (y == x) = false := beq_eq_false_iff_ne.2 hyx
              have hnn : Hid ((S.take (k + 1)).any (fun y => y == x) = b) := hidE (by rw [hn1.out, u2, ← hb.out]; simp)
              clear hyx hy hb
              go_wp2
              go_round
              case rel => exact ⟨k + 1, b, by omega, rfl, by go_num, hidE hnn.out.symm⟩
              case measure => simp [intOf]; omega
          · obtain rfl : k = S.length := by omega
            have hbm : b = decide (x ∈ S) := by
              rw [hb.out, List.take_length, Bool.eq_iff_iff, List.any_eq_true, decide_eq_true_eq]
              exact ⟨fun ⟨y, h1, h2⟩ => by rw [beq_iff_eq] at h2; exact h2 ▸ h1, fun h => ⟨x, h, by simp⟩⟩
            by_cases hc1 : x < p ∧ x ∉ S
            · have hb2 : b = false := by rw [hbm]; exact decide_eq_false hc1.2
              subst hb2
              have u3 : decide (x < p) = true := decide_eq_true hc1.1
              have hE : Hid (seenR p (P.take (i + 1)) = S ++ [x]) := hidE (by rw [HX.out]; unfold addR; rw [if_pos hc1])
              have lN : Lst (wo.alloc (.cells #[.int .i64 x] 2)) 2 (.slice (some ⟨wo.heap.size, 0, none⟩) 1 1) [.int .i64 x] := Lst.new wo 2 [.int .i64 x] (by simp) (by simp [maxLen])
              have o2 := HO.out.alloc (.cells #[.int .i64 x] 2)
              have s2 : w.heap.size ≤ (wo.alloc (.cells #[.int .i64 x] 2)).heap.size := by simp; omega
              clear hb hbm hc1 hkl
              go_wp2_with (at_builtin; refine wpList_append_lst rfl _ _ 103 rfl w.heap.size 2 (.int .i64 0) 8 Try.underlying103 info64 rfl _ _ _ [.int .i64 x] rfl rfl o2 lN (by simp [Value.oneCell']) (by simp [maxLen]; omega) (by simp; omega) s2 ?_)
              intro v' w3 o3 g3 b3
              have f3 : Fr (fun _ => False) w w3 := Fr.grown (hf.alloc _) g3 (fun j hj => .inl (o2.lt j hj).1)
              clear o2 lN s2
              go_wp2
              go_roundw
              case rel => exact ⟨i + 1, by omega, by go_num, by rw [hE.out, List.map_append]; simpa using o3, f3⟩
              case measure => simp [intOf]; omega
            · have hE : Hid (seenR p (P.take (i + 1)) = S) := hidE (by rw [HX.out]; unfold addR; rw [if_neg hc1])
              by_cases hxp : x < p
              · have hb2 : b = true := by
                  rw [hbm]
                  refine decide_eq_true ?_
                  by_cases h : x ∈ S
                  · exact h
                  · exact absurd ⟨hxp, h⟩ hc1
                subst hb2
                have u3 : decide (x < p) = true := decide_eq_true hxp
                clear hb hbm hc1 hkl hxp
                go_wp2
                go_roundw
                case rel => exact ⟨i + 1, by omega, by go_num, by rw [hE.out]; exact HO1.out, hf⟩
                case measure => simp [intOf]; omega
              · have u3 : decide (x < p) = false := decide_eq_false hxp
                clear hb hbm hc1 hkl hxp
                go_wp2
                go_roundw
                case rel => exact ⟨i + 1, by omega, by go_num, by rw [hE.out]; exact HO1.out, hf⟩
                case measure => simp [intOf]; omega
    · obtain rfl : i = 2 * L.length := by omega
      have ho := HO.out
      rw [← HPl.out, List.take_length] at ho
      have hl := HR.out
      obtain ⟨A5, c5, hv5⟩ : ∃ A5 c5, u5 = .slice A5 R c5 := by
        rcases own_csM ho with ⟨h1, h2⟩ | ⟨g, c, h1, _⟩
        · exact ⟨none, 0, by first | (rw [h1, hl, h2]; done) | (rw [h1, hl, h2]; rfl)⟩
        · exact ⟨_, c, by first | (rw [h1, hl]; done) | (rw [h1, hl]; simp)⟩
      subst hv5
      clear hlt ho hl HO
      go_wp2
      go_ret
      exact ⟨rfl, hf⟩
end Go.Proofs.Ytapagoaoglmegaa
