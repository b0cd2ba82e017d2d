/- The document's heap in memory; where an item stands; which of two is ahead; an item goes up. -/
import Derived.Test.YtkcfhdnlmdndeaaHpPop
import Derived.Test.YtkcfhdnlmdndeaaPHpx3
namespace Go.Proofs.Ytkcfhdnlmdndeaa
open Go.RowKit Go.Proofs.YtkcfhdnlmdndeaaW.PrintWords Go.Proofs.YtkcfhdnlmdndeaaW.PrintLast Go.Proofs.YtkcfhdnlmdndeaaW.PrintMore PHp
set_option linter.unusedVariables false
set_option linter.unusedSimpArgs false
set_option maxRecDepth 100000
/-- The document's heap: block g, its row in block r. -/
structure Rh (w : World) (g r cap : Nat) (L : List It) (size : Int) : Prop where
  blk : Blk w g #[.slice (some ⟨r, 0, none⟩) L.length cap, .int .i64 size] 61
  row : Row 50 w r cap L
  cap : cap ≤ maxLen
  gr : r ≠ g
theorem Rh.fr {S : Nat → Prop} {w w' : World} {g r cap : Nat} {L : List It} {size : Int} (h : Rh w g r cap L size) (k : Fr S w w') (hg : ¬ S g) (hr : ¬ S r) : Rh w' g r cap L size :=
  ⟨h.blk.fr k hg, h.row.fr k hr, h.cap, h.gr⟩
theorem Rh.fr0 {w w' : World} {g r cap : Nat} {L : List It} {size : Int} (h : Rh w g r cap L size) (k : Fr (fun _ => False) w w') : Rh w' g r cap L size := h.fr k (fun h => h) (fun h => h)
theorem Rh.small {w : World} {g r cap : Nat} {L : List It} {size : Int} (h : Rh w g r cap L size) : L.length ≤ 9223372036854775807 := by
  have := h.cap; have := h.row.len; unfold maxLen at *; omega
theorem rahead_f (a b : It) : ephemerisref13_Ahead.f a.f0 a.f1 a.f2 b.f0 b.f1 b.f2 = some (ahead a b) := by
  unfold ephemerisref13_Ahead.f ahead itLt
  by_cases h2 : a.f2 = b.f2
  · rw [if_pos h2]
    by_cases h1 : a.f1 = b.f1
    · rw [if_pos h1]; simp [h2, h1]
    · rw [if_neg h1]
      refine congrArg some (decide_eq_decide.2 ?_)
      omega
  · rw [if_neg h2]
    refine congrArg some (decide_eq_decide.2 ?_)
    omega
theorem rahead_at (a b : It) (W : World) : Calls Try.prog 63 #[vI a, vI b] W fun e w' => e = .returned (.bool (ahead a b)) ∧ Fr (fun _ => False) W w' :=
  (ephemerisref13_Ahead.calls _ _ _ _ _ _ _ W (rahead_f a b)).mono fun _ _ q => ⟨q.1, Fr.of_below q.2 (Nat.le_refl _) _⟩
def plI (L : List It) (id : Int) : Int := match place L id with | some i => (i : Int) | none => -1
theorem plI_some {L : List It} {id : Int} {i : Nat} (h : place L id = some i) : plI L id = i := by unfold plI; rw [h]
theorem plI_none {L : List It} {id : Int} (h : place L id = none) : plI L id = -1 := by unfold plI; rw [h]
/-- A slice's items. -/
def Its (w : World) (v : Value) (L : List It) : Prop := ∃ A cap, v = .slice A L.length cap ∧ L.length ≤ cap ∧ cap ≤ maxLen ∧ (0 < L.length → ∃ r, A = some ⟨r, 0, none⟩ ∧ r < w.heap.size ∧ ∀ i c, L[i]? = some c → At3 w r (i * 3) c)
theorem rplace_at {w : World} {g : Nat} {v : Value} {L : List It} {size id : Int} (hb : Blk w g #[v, .int .i64 size] 61) (hv : Its w v L) :
    Calls Try.prog 30 #[.pointer (some ⟨g, 0, none⟩), .int .u64 id] w fun e w' => e = .returned (.int .i64 (plI L id)) ∧ w = w' := by
  obtain ⟨A, cap, rfl, hlc, hcm, hat⟩ := hv
  have hl2 : L.length ≤ 9223372036854775807 := by unfold maxLen at hcm; omega
  have b0 := hb.cell 0
  simp at b0
  have HAT := hid hat
  clear hb hat
  obtain ⟨q, hq⟩ : ∃ q, q = plI L id := ⟨_, rfl⟩
  rw [← hq]
  have HQ := hid hq
  clear hq
  go_enter Try.func30, Try.ntmps30
  go_wp2_with fail
  go_loop [5] (fun vi => ∃ i : Nat, i ≤ L.length ∧ vi = .int .i64 i ∧ Hid (∀ j, j < i → (nth L j).f0 ≠ id)) (fun vi => L.length - (intOf vi).toNat)
  case atStart => exact ⟨0, by omega, rfl, fun j hj => by omega⟩
  case round =>
    obtain ⟨i, hi, rfl, hno⟩ := hrel
    by_cases hlt : i < L.length
    · obtain ⟨r, rfl, hr, hc⟩ := HAT.out (by omega)
      obtain ⟨d0, _, _⟩ := hc i _ (nth_some hlt)
      have li : (i : Int) < (L.length : Int) := by omega
      clear hc
      by_cases he : (nth L i).f0 = id
      · have hp : place L id = some i := by
          unfold place
          rw [List.findIdx?_eq_some_iff_getElem]
          refine ⟨hlt, ?_, fun j hj => ?_⟩
          · have := nth_of (List.getElem?_eq_getElem hlt)
            rw [← this]; simp [he]
          · have h1 := hno.out j hj
            have := nth_of (List.getElem?_eq_getElem (l := L) (i := j) (by omega))
            rw [← this]; simp [h1]
        have hqi : q = (i : Int) := by rw [HQ.out]; exact plI_some hp
        have HQI := hid hqi
        have hb : ((nth L i).f0 == id) = true := by simp [he]
        generalize (nth L i).f0 = z at *
        clear he hp hqi
        go_wp2
        go_ret
        exact ⟨by rw [HQI.out]; first | done | rfl, rfl⟩
      · have hno' : Hid (∀ j, j < i + 1 → (nth L j).f0 ≠ id) := fun j hj => by
          rcases Nat.lt_succ_iff_lt_or_eq.1 hj with h' | h'
          · exact hno.out j h'
          · rw [h']; exact he
        have hb : ((nth L i).f0 == id) = false := by rw [beq_eq_false_iff_ne]; exact he
        generalize (nth L i).f0 = z at *
        clear he
        go_wp2
        go_round
        case rel => exact ⟨i + 1, by omega, by go_num, hno'⟩
        case measure => simp [intOf]; omega
    · obtain rfl : i = L.length := by omega
      have hqi : q = -1 := by rw [HQ.out]; exact plI_none (place_not (fun j hj => hno.out j hj))
      subst hqi
      clear HQ hno
      go_wp2
      go_ret
      exact ⟨rfl, rfl⟩
theorem Rh.its {w : World} {g r cap : Nat} {L : List It} {size : Int} (h : Rh w g r cap L size) : Its w (.slice (some ⟨r, 0, none⟩) L.length cap) L :=
  ⟨_, cap, rfl, h.row.len, h.cap, fun _ => ⟨r, rfl, h.row.lt, fun i c hi => by simpa using h.row.at3 hi⟩⟩
/-- What the tests of two items read. -/
def RuS (W : World) (g r cap n i1 i2 : Nat) (x y : It) (w' : World) : Prop :=
  w'.cell? ⟨g, 0, none⟩ = some (.slice (some ⟨r, 0, none⟩) n cap) ∧
  w'.cell? ⟨r, i1 * 3, none⟩ = some (.int .u64 x.f0) ∧ w'.cell? ⟨r, i1 * 3 + 1, none⟩ = some (.int .u64 x.f1) ∧ w'.cell? ⟨r, i1 * 3 + 2, none⟩ = some (.int .i64 x.f2) ∧
  w'.cell? ⟨r, i2 * 3, none⟩ = some (.int .u64 y.f0) ∧ w'.cell? ⟨r, i2 * 3 + 1, none⟩ = some (.int .u64 y.f1) ∧ w'.cell? ⟨r, i2 * 3 + 2, none⟩ = some (.int .i64 y.f2) ∧ Fr (fun _ => False) W w'
theorem RuS.fr {W : World} {g r cap n i1 i2 : Nat} {x y : It} {w w' : World} (kf : Fr (fun _ => False) w w') (h : RuS W g r cap n i1 i2 x y w) : RuS W g r cap n i1 i2 x y w' := by
  obtain ⟨a2, a3, a4, a5, a6, a7, a8, hf⟩ := h
  have key : ∀ {g i : Nat} {v : Value}, w.cell? ⟨g, i, none⟩ = some v → w'.cell? ⟨g, i, none⟩ = some v := fun h => (kf.cell (World.block_lt_of_cell? w _ h) (fun h => h)).trans h
  exact ⟨key a2, key a3, key a4, key a5, key a6, key a7, key a8, hf.trans kf (fun _ _ h => h)⟩
theorem Rh.reads {w : World} {g r cap : Nat} {l : List It} {size : Int} (h : Rh w g r cap l size) {i1 i2 : Nat} (h1 : i1 < l.length) (h2 : i2 < l.length) : RuS w g r cap l.length i1 i2 (nth l i1) (nth l i2) w := by
  have a := h.row.at3 (nth_some h1)
  have c := h.row.at3 (nth_some h2)
  exact ⟨h.blk.cell 0, a.1, a.2.1, a.2.2, c.1, c.2.1, c.2.2, Fr.refl _ _⟩
end Go.Proofs.Ytkcfhdnlmdndeaa
