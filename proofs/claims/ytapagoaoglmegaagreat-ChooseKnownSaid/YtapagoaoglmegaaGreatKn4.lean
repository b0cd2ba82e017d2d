/- Texts of mine, joined by shake.py: ChCollI, ClConcat, ChChoose, ChFour, ChClosed, PClx28, PClx30, PClx31, ChAwk, ChKnown, LChooseKnown. -/
import Derived.Test.YtapagoaoglmegaaGreatRows
import Derived.WalkKit
import Derived.ProofKit
import Derived.OpenShut
import Derived.ShutString
import Derived.ChangeOld
import Derived.Below
import Derived.SizedLaws
import Derived.Test.YtapagoaoglmegaaGreatKn0
import Derived.Test.YtapagoaoglmegaaGreatKn1
import Derived.Test.YtapagoaoglmegaaGreatKn2
import Derived.Test.YtapagoaoglmegaaGreatKn3
section
namespace Go.Proofs.YtapagoaoglmegaaGreat
open Go.RowKit Go.Shelf Go.Proofs.YtapagoaoglmegaaGreatW.PrintWords Go.Proofs.YtapagoaoglmegaaGreatW.PrintLast Go.Proofs.YtapagoaoglmegaaGreatW.PrintMore PCl
attribute [local go_sem] Oper.semAt_some
set_option linter.unusedVariables false
set_option linter.unusedSimpArgs false
set_option maxRecDepth 100000
theorem ofi_at (c : S27) (W : World) : Calls Tryz.prog 31 #[vC c] W fun e w' => e = .returned (.int .i64 c.f0) ∧ Fr (fun _ => False) W w' := by
  go_enter Tryz.func31, Tryz.ntmps31
  go_wp2
  go_ret
  exact ⟨rfl, by (repeat' (first | (with_reducible exact Fr.refl _ _) | (with_reducible assumption) | (with_reducible refine Fr.alloc ?_ _) | (with_reducible refine Fr.drew ?_) | (with_reducible refine Fr.drewN ?_ _) | (with_reducible refine Fr.setCell ?_ _ _ ?_) | (exact Or.inr rfl) | (left; simp; done) | (left; simp; omega) | (simp; done) | (simp; omega) | omega))⟩
theorem eachi_at {w : World} {A : Option Addr} {cap n : Nat} :
    Calls Tryz.prog 30 #[.slice A n cap, .func (.func 31) #[] #[]] w fun e w' => ∃ Bl Bo, e = .returned (.func (.func 66) #[] #[.pointer (some ⟨Bl, 0, none⟩), .pointer (some ⟨Bo, 0, none⟩)]) ∧ Bl < w'.heap.size ∧ Bo < w'.heap.size ∧ w'.cell? ⟨Bl, 0, none⟩ = some (.slice A n cap) ∧ w'.cell? ⟨Bo, 0, none⟩ = some (.func (.func 31) #[] #[]) ∧ Fr (fun _ => False) w w' := by
  go_enter Tryz.func30, Tryz.ntmps30
  go_wp2_with fail
  generalize hW : World.alloc (World.alloc w _) _ = W2
  obtain ⟨t1, b1⟩ : ∃ t, Boxed W2 w.heap.size t (.slice A n cap) := ⟨_, by subst hW; exact (Boxed.new w _ _).alloc _⟩
  obtain ⟨t2, b2⟩ : ∃ t, Boxed W2 (w.heap.size + 1) t (.func (.func 31) #[] #[]) := ⟨_, by subst hW; exact boxed_new' (by simp)⟩
  have f2 : Fr (fun _ => False) w W2 := by subst hW; (repeat' (first | (with_reducible exact Fr.refl _ _) | (with_reducible assumption) | (with_reducible refine Fr.alloc ?_ _) | (with_reducible refine Fr.drew ?_) | (with_reducible refine Fr.drewN ?_ _) | (with_reducible refine Fr.setCell ?_ _ _ ?_) | (exact Or.inr rfl) | (left; simp; done) | (left; simp; omega) | (simp; done) | (simp; omega) | omega))
  clear hW
  go_ret
  exact ⟨_, _, rfl, b1.lt, b2.lt, b1.cell, b2.cell, f2⟩
set_option maxHeartbeats 4000000 in
theorem eachi1_in (n : Nat) (hn : 1 ≤ n) {l Bl Bo n₀ cap : Nat} {A : Option Addr} {L : List S27} (J Jx : List Int → World → Prop) (W : World) (hJ : AbidesFrom W.heap.size J)
    (hY : ∀ pre (x : Int) W1, J pre W1 → pre.length < L.length → YieldAt Fence.wide (n - 1) Tryz.prog l #[.int .i64 x] W1 fun e W' => (e = .returned (.bool true) ∧ J (pre ++ [x]) W' ∧ Below n₀ W1 W') ∨ (e = .returned (.bool false) ∧ Jx (pre ++ [x]) W'))
    (hBl : W.cell? ⟨Bl, 0, none⟩ = some (.slice A L.length cap)) (hBo : W.cell? ⟨Bo, 0, none⟩ = some (.func (.func 31) #[] #[])) (no : Bo < n₀) (hC : Kd.C k27 W A L.length L) (hA : 0 < L.length → ∀ r off, A = some ⟨r, off, none⟩ → r < n₀) (hn0 : n₀ ≤ W.heap.size) (hJ0 : J [] W) :
    CallsIn Fence.wide n Tryz.prog 66 #[.func (.yield l) #[] #[], .pointer (some ⟨Bl, 0, none⟩), .pointer (some ⟨Bo, 0, none⟩)] W fun e W' => (∃ v, e = .returned v) ∧ ((∃ ys, ys = L.map (fun c => c.f0) ∧ J ys W') ∨ ∃ pre, True ∧ Jx pre W') := by
  have HC := hidE hC
  have HBo := hidE hBo
  have hlen := C27_nil hC
  clear hC hBo
  refine callsIn_of_wp Tryz.func66 rfl trivial ?_ rfl
  simp only [Tryz.ntmps66, List.size_toArray, List.length_cons, List.length_nil, Nat.reduceAdd, Nat.reduceSub, Array.replicate_succ, Array.replicate_zero, List.push_toArray, List.append_toArray, List.nil_append, List.cons_append]
  gi_wp2_with fail
  gi_loopw [8] (fun v8 wr => ∃ k : Nat, k ≤ L.length ∧ v8 = .int .i64 (k : Int) ∧ J ((L.map (fun c => c.f0)).take k) wr ∧ Below n₀ W wr) (fun v8 _ => L.length - (intOf v8).toNat)
  case atStart => exact ⟨0, Nat.zero_le _, rfl, by simpa using hJ0, Below.refl _ _⟩
  case round =>
    clear hJ0
    obtain ⟨k, hk, rfl, hJk, hkc⟩ := hrel
    by_cases hlt : k < L.length
    · obtain ⟨r, off, rfl, hr, hat⟩ := C27_open HC.out (by omega)
      obtain ⟨c, hcs⟩ : ∃ c, L[k]? = some c := ⟨_, List.getElem?_eq_getElem hlt⟩
      obtain ⟨a0, a1, a2, a3, a4⟩ := hat k c hcs
      have hrn := hA (by omega) r off rfl
      replace a0 := (hkc.cell (p := ⟨r, off + k * 5, none⟩) hrn).trans a0
      replace a1 := (hkc.cell (p := ⟨r, off + k * 5 + 1, none⟩) hrn).trans a1
      replace a2 := (hkc.cell (p := ⟨r, off + k * 5 + 2, none⟩) hrn).trans a2
      replace a3 := (hkc.cell (p := ⟨r, off + k * 5 + 3, none⟩) hrn).trans a3
      replace a4 := (hkc.cell (p := ⟨r, off + k * 5 + 4, none⟩) hrn).trans a4
      have d0 := (hkc.cell (p := ⟨Bo, 0, none⟩) no).trans HBo.out
      have t1 : (k : Int) < (L.length : Int) := by omega
      have hln : ((L.map (fun c => c.f0)).take k).length < L.length := by rw [List.length_take]; simp; omega
      have lo := World.block_lt_of_cell? wr _ d0
      have hnx : Hid ((L.map (fun c => c.f0)).take k ++ [c.f0] = (L.map (fun c => c.f0)).take (k + 1)) := hidE (by rw [List.take_add_one, List.getElem?_map, hcs]; rfl)
      clear hat hcs
      gi_wp2_with fail
      generalize hW : World.alloc wr _ = W5
      have f5 : Fr (fun _ => False) wr W5 := by subst hW; (repeat' (first | (with_reducible exact Fr.refl _ _) | (with_reducible assumption) | (with_reducible refine Fr.alloc ?_ _) | (with_reducible refine Fr.drew ?_) | (with_reducible refine Fr.drewN ?_ _) | (with_reducible refine Fr.setCell ?_ _ _ ?_) | (exact Or.inr rfl) | (left; simp; done) | (left; simp; omega) | (simp; done) | (simp; omega) | omega))
      clear hW a0 a1 a2 a3 a4 d0
      refine ⟨trivial, ?_⟩
      gi_at_call 31
      refine (callsIn_wide.2 (ofi_at c W5)).mono ?_
      rintro e W6 ⟨rfl, k6⟩
      have F6 := f5.trans k6 (fun _ _ h => h)
      have hJ6 := hJ _ wr W6 none hJk F6.grow (fun r e => by cases e)
      obtain ⟨fn, tmps, assign, body, hy, hR⟩ := hY _ c.f0 W6 hJ6 hln
      gi_wp2_with fail
      refine hR.mono ?_
      rintro e W7 (⟨rfl, hJ7, hk7⟩ | ⟨rfl, hx7⟩)
      · have hB7 : Below n₀ W W7 := (hkc.trans (F6.below.mono (Nat.le_trans hn0 hkc.size))).trans hk7
        gi_wp2
        go_roundw
        case rel => exact ⟨k + 1, by omega, by go_num, by rw [← hnx.out]; exact hJ7, hB7⟩
        case measure => simp [intOf]; omega
      · gi_wp2
        refine bodyPost_ret (results_none rfl _ _ _) rfl ?_
        exact ⟨⟨_, rfl⟩, .inr ⟨_, by first | exact hx7 | exact ⟨trivial, hx7⟩⟩⟩
    · obtain rfl : k = L.length := by omega
      have hall : (L.map (fun c => c.f0)).take L.length = L.map (fun c => c.f0) := by
        rw [List.take_of_length_le]; simp
      gi_wp2
      go_end0
      exact ⟨⟨_, rfl⟩, .inl ⟨_, rfl, by rw [← hall]; exact hJk⟩⟩
theorem eachi_stops (n : Nat) (hn : 1 ≤ n) {Bl Bo cap : Nat} {A : Option Addr} {L : List S27} {w : World} (hBl : w.cell? ⟨Bl, 0, none⟩ = some (.slice A L.length cap)) (hBo : w.cell? ⟨Bo, 0, none⟩ = some (.func (.func 31) #[] #[])) (hC : Kd.C k27 w A L.length L) :
    SeqStopsK Fence.wide n Tryz.prog 66 #[.pointer (some ⟨Bl, 0, none⟩), .pointer (some ⟨Bo, 0, none⟩)] (fun x : Int => #[.int .i64 x]) (Below w.heap.size) (fun ys => ys = L.map (fun c => c.f0)) (fun _ => True) L.length w := fun l J Jx W hW hJ hJx hY hJ0 => by
  have f := Fr.of_below hW (Nat.le_refl _) (fun _ => False)
  refine eachi1_in n hn J Jx W hJ hY ((f.cell (a := ⟨Bl, 0, none⟩) (World.block_lt_of_cell? w _ hBl) (fun h => h)).trans hBl) ((f.cell (a := ⟨Bo, 0, none⟩) (World.block_lt_of_cell? w _ hBo) (fun h => h)).trans hBo) (World.block_lt_of_cell? w _ hBo) (Kd.C_below hC hW) (fun h0 r off e => ?_) f.size hJ0
  subst e
  obtain ⟨r', off', e, hr, _⟩ := C27_open hC h0
  injection e with e
  injection e with e1 e2
  omega
def OwI (base : Nat) (w : World) (v : Value) (l : List Int) : Prop := w.ownsRow base 3 1 v l.length (l.map (Value.int .i64))
theorem infoN : (Tryz.prog.info? 3).map (fun i => (i.zero, i.size, i.bytes)) = some (some (.int .i64 0), 1, 8) := by kernel_rfl
theorem incell (W : World) (x : Int) : ∀ j u, [Value.int .i64 x][j]? = some u → (W.alloc (.cells #[.int .i64 x] 3)).cell? ((⟨W.heap.size, 0, none⟩ : Addr).add j) = some u := by
  intro j u hj
  rw [addE, Nat.zero_add, (Blk.new W #[.int .i64 x] 3).cell]
  match j, hj with
  | 0, hj => exact hj
  | j + 1, hj => simp at hj
theorem int_one (x : Int) : ∀ u ∈ [Value.int .i64 x], u.oneCell' = true := fun u hu => by rw [List.mem_singleton.1 hu]; rfl
set_option maxHeartbeats 4000000 in
theorem appseqi_at {w : World} {gf N : Nat} {lb : Array Value} {ys : List Int} (hent : ∀ args w, (callFunc gf args).run Tryz.prog w = .ok (.enter gf args) w) (hN : N ≤ 16) (hlen : ys.length ≤ 16)
    (hseq : SeqStopsK Fence.wide 5 Tryz.prog gf lb (fun x : Int => #[.int .i64 x]) (Below w.heap.size) (fun l => l = ys) (fun _ => True) N w) :
    Calls Tryz.prog 65 #[.slice none 0 0, .func (.func gf) #[] lb] w fun e w' => ∃ v, e = .returned v ∧ OwI w.heap.size w' v ys ∧ Fr (fun _ => False) w w' := by
  refine (callsIn_wide (n := 6)).1 ?_
  refine callsIn_of_wp_marks Tryz.func65 rfl trivial ?_ rfl
  simp only [Tryz.ntmps65, List.size_toArray, List.length_cons, List.length_nil, Nat.reduceAdd, Nat.reduceSub, Array.replicate_succ, Array.replicate_zero, List.push_toArray, List.append_toArray, List.nil_append, List.cons_append]
  obtain ⟨i0, hi0, hz0, hsz0, hby0⟩ : ∃ i0, Tryz.prog.info? 3 = some i0 ∧ i0.zero = some (.int .i64 0) ∧ i0.size = 1 ∧ i0.bytes = 8 := by
    obtain ⟨i0, h1, h2⟩ := Option.map_eq_some_iff.1 infoN
    simp only [Prod.mk.injEq] at h2
    exact ⟨i0, h1, h2.1, h2.2.1, h2.2.2⟩
  gi_wp2_with fail
  generalize hW : World.alloc w _ = W2
  have bS : Boxed W2 w.heap.size 28 (.slice none 0 0) := by subst hW; exact Boxed.new _ _ _
  have f2 : Fr (fun _ => False) w W2 := by subst hW; (repeat' (first | (with_reducible exact Fr.refl _ _) | (with_reducible assumption) | (with_reducible refine Fr.alloc ?_ _) | (with_reducible refine Fr.drew ?_) | (with_reducible refine Fr.drewN ?_ _) | (with_reducible refine Fr.setCell ?_ _ _ ?_) | (exact Or.inr rfl) | (left; simp; done) | (left; simp; omega) | (simp; done) | (simp; omega) | omega))
  have hs2 : W2.heap.size = w.heap.size + 1 := by subst hW; simp
  clear hW
  refine wpIn_rangeFunc_ownH (n := 6) (w := W2) rfl (by omega) (gf := gf) (lb := lb) rfl trivial hent hseq belowK_t (belowK_b (by omega)) f2.below (fun _ => rfl)
    (fun pre W => (∃ v, Boxed W w.heap.size 28 v ∧ W.ownsRow w.heap.size 3 1 v pre.length (pre.map (Value.int .i64)) ∧ True) ∧ Below w.heap.size w W)
    (fun _ _ _ => False)
    (OwnFrom.and (Own.from (holdsRow_own _ _ _ _ _ (fun pre : List Int => pre.length) (fun pre : List Int => pre.map (Value.int .i64)) (fun _ _ => True)) _) (ownFrom_below (Nat.le_refl _) (by omega)))
    (fun _ _ _ _ _ hs _ _ => hs)
    ⟨⟨_, bS, World.ownsRow_nil _ _ _ _, trivial⟩, f2.below⟩
    (fun x a' W => a' = { tmps := #[.slice none 0 0, .func (.func gf) #[] lb, .pointer (some ⟨w.heap.size, 0, none⟩), undef, .slice none 0 0, .int .i64 x, .func (.func gf) #[] lb, .int .i64 x, undef, undef, undef, undef, undef], defers := [] })
    (fun x a' => ownFrom_pure _ (fun _ => _)) ?assign ?body ?done ?stop
  case assign =>
    rintro l pre x W K hI hK
    gi_wp2
    exact hK _ _ (KeepsFrom.refl _ _) (Below.refl _ W) hI rfl
  case body =>
    rintro l pre x a' W hl ⟨rc, hrc⟩ ⟨⟨v, hv, hrow, _⟩, hB⟩ rfl hlt
    have cv := hv.cell
    have lv := hv.lt
    have hsz := hB.size
    have hcl := incell W x
    have h1c := int_one x
    have b1 : pre.length + 1 ≤ maxLen := by unfold maxLen; omega
    have b2 : (pre.length + 1) * 8 ≤ 140737488355328 := by omega
    have b3 : w.heap.size ≤ (W.alloc (.cells #[.int .i64 x] 3)).heap.size := by simp; omega
    have hne : (28 : TypeId) ≠ 3 := by decide
    have h30 : 0 < 1 := by decide
    gi_wp2_with (gi_at_builtin; refine wpListIn_append_own _ rfl _ _ 28 rfl w.heap.size 3 i0 _ 1 8 Tryz.underlying28 hi0 hz0 hsz0 hby0 rfl h30 v pre.length (pre.map (Value.int .i64)) rfl (hrow.alloc _) ⟨W.heap.size, 0, none⟩ 1 1 [Value.int .i64 x] rfl rfl hcl h1c b1 b2 b3 ?_; intro v' w1 hown' hgrow _; obtain ⟨g', cap', rfl⟩ := ownsRow_succ hown'; obtain ⟨hv1, hv2, hr2, hk2, hb2⟩ := hv.appended hne hrow hB.size (Nat.le_refl _) hown' hgrow; have hc1 := hv1.cell; have hf1 := hv1.frozen)
    exact ⟨hk2.from _, hb2, ⟨⟨_, hv2, by rw [List.length_append, List.map_append]; simpa using hr2, trivial⟩, hB.trans hb2⟩⟩
  case done =>
    rintro D zs W hD rfl ⟨⟨v, hv, hrow, _⟩, hB⟩ hK
    have cv := hv.cell
    gi_wp2
    refine ⟨by simp, .inl ⟨_, _, rfl, run_takeDeferred hK, ?_⟩⟩
    exact ⟨_, results_tmp rfl _ _ _, v, rfl, ownsRow_putObj hrow _ hK rfl, Fr.of_below (hB.trans (belowK_b (n₀ := w.heap.size) (w := w) (Nat.le_refl _) W D _ _ (by omega) hK rfl rfl)) (Nat.le_refl _) _⟩
  case stop =>
    rintro D c pre W _ _ h _
    exact h.elim
theorem colli_at {w1 : World} {Bl Bo cap : Nat} {A : Option Addr} {L : List S27} (hcl : w1.cell? ⟨Bl, 0, none⟩ = some (.slice A L.length cap)) (hco : w1.cell? ⟨Bo, 0, none⟩ = some (.func (.func 31) #[] #[])) (hC : Kd.C k27 w1 A L.length L) (h16 : L.length ≤ 16) :
    Calls Tryz.prog 29 #[.func (.func 66) #[] #[.pointer (some ⟨Bl, 0, none⟩), .pointer (some ⟨Bo, 0, none⟩)]] w1 fun e w' => ∃ v, e = .returned v ∧ OwI w1.heap.size w' v (L.map (fun c => c.f0)) ∧ Fr (fun _ => False) w1 w' := by
  have HS := hidE (eachi_stops 5 (by omega) hcl hco hC)
  have HA : Hid (Calls Tryz.prog 65 #[.slice none 0 0, .func (.func 66) #[] #[.pointer (some ⟨Bl, 0, none⟩), .pointer (some ⟨Bo, 0, none⟩)]] w1 fun e w' => ∃ v, e = .returned v ∧ OwI w1.heap.size w' v (L.map (fun c => c.f0)) ∧ Fr (fun _ => False) w1 w') := hidE (appseqi_at (enters_of Tryz.func66 (by kernel_rfl) rfl) h16 (by simpa using h16) HS.out)
  clear hcl hco HS hC
  go_enter Tryz.func29, Tryz.ntmps29
  go_wp2_with fail
  refine HA.out.mono ?_
  rintro e w2 ⟨v, rfl, hv, k2⟩
  go_wp2
  go_ret
  exact ⟨_, rfl, hv, k2⟩
end Go.Proofs.YtapagoaoglmegaaGreat
namespace Go.Proofs.YtapagoaoglmegaaGreat
open Go.RowKit Go.Proofs.YtapagoaoglmegaaGreatW.PrintWords Go.Proofs.YtapagoaoglmegaaGreatW.PrintLast Go.Proofs.YtapagoaoglmegaaGreatW.PrintMore PCl
set_option linter.unusedVariables false
set_option linter.unusedSimpArgs false
set_option maxRecDepth 100000
theorem R_C {w : World} {base : Nat} {ok : Nat → Prop} {v : Value} {xs : List S27} (h : Kd.R k27 27 w base ok v xs) :
    ∃ A c, v = .slice A xs.length c ∧ xs.length ≤ c ∧ ∀ W, Fr (fun _ => False) w W → Kd.C k27 W A xs.length xs := by
  rcases Row.of_R h with ⟨rfl, rfl⟩ | ⟨g, cap, rfl, hg, hm, hr⟩
  · exact ⟨none, 0, rfl, Nat.le_refl _, fun W k => ⟨rfl, by simp, fun h => absurd h (by simp)⟩⟩
  · exact ⟨_, cap, rfl, hr.len, fun W k => (hr.fr k (fun h => h)).toC hm⟩
theorem row_R {w : World} {base : Nat} {v : Value} {xs : List S27} (h : Kd.R k27 27 w base (fun _ => True) v xs) (h0 : 0 < xs.length) : ∃ g cap, v = .slice (some ⟨g, 0, none⟩) xs.length cap ∧ base ≤ g ∧ cap ≤ maxLen ∧ Row w g cap xs := by
  rcases Row.of_R h with ⟨_, rfl⟩ | h
  · simp at h0
  · exact h
structure ChR where
 at_ : Int
 lo : Int
 hi : Int
 mean : Int
 jit : Int
 who : List Int
 er : Int
def spansOf (l : List S27) : List S25 := l.map (fun c => c.f1)
def hullOf (l : List S27) : S25 := ⟨(rd_T27 l 0).f1.f0, (hullZ (spansOf l)).1, (hullZ (spansOf l)).2.1⟩
def chNo (e : Int) : ChR := ⟨0, 0, 0, 0, 0, [], e⟩
def chZ (l : List S27) : ChR :=
 if mayB l = true then
  if (hullZ (spansOf l)).2.2 = 0 then
   if (pruneZ l (hullOf l)).2 = 0 then ⟨(hullOf l).f0, (hullOf l).f1, (hullOf l).f2, meanZ (spansOf (pruneZ l (hullOf l)).1) (hullOf l), jitZ (spansOf (pruneZ l (hullOf l)).1) (hullOf l), (pruneZ l (hullOf l)).1.map (fun c => c.f0), 0⟩
   else chNo (pruneZ l (hullOf l)).2
  else chNo (hullZ (spansOf l)).2.2
 else chNo 1
def DivL (L : List S25) (h : S25) : Prop := (∀ s ∈ L, DivOk (wideZ L).toNat 1024 (brZ s).toNat) ∧ (∀ s ∈ L, DivOk (mdZ h s - h.f1).toNat (wtZ (wideZ L) s).toNat (allZ L).toNat) ∧ ∀ s ∈ L, DivOk (dist (mdZ h s) (meanZ L h)).toNat (wtZ (wideZ L) s).toNat (allZ L).toNat
theorem prune_in {l : List S27} {h : S25} {x : List S27} (hp : pruneZ l h = (x, 0)) : Fld l ∧ SpOk h ∧ x.Sublist l ∧ 0 < x.length := by
 unfold pruneZ at hp
 by_cases ho : pruneOk l h = true
 ·rw [if_pos ho] at hp
  by_cases h0 : (leftZ l h).length = 0
  ·rw [if_pos h0] at hp
   have := congrArg Prod.snd hp; simp at this
  ·rw [if_neg h0] at hp
   have e : leftZ l h = x := congrArg Prod.fst hp
   obtain ⟨h1, h2, _⟩ := (pruneOk_iff l h).1 ho
   have P : Pruned (l.filter (keepB h)) (leftZ l h) := pruneGo_is _ _ (Nat.le_refl _)
   refine ⟨h1, h2, ?_, by rw [← e]; omega⟩
   rw [← e]
   exact P.sub.trans List.filter_sublist
 ·rw [if_neg ho] at hp
  have := congrArg Prod.snd hp; simp at this
theorem prZ_at {W : World} {A : Option Addr} {n c : Nat} {l : List S27} {h : S25} {r : List S27} {e : Int} (hC : Kd.C k27 W A n l) (hn : n = l.length) (hc : n ≤ c) (hw : WhoWf l) (hp : pruneZ l h = (r, e)) :
  Calls Tryz.prog 27 #[.slice A n c, vS h] W fun x w' => ∃ v, x = .returned (.tuple #[v, .int .i64 e]) ∧ Kd.R k27 27 w' W.heap.size (fun _ => True) v r ∧ Fr (fun _ => False) W w' := by
 subst hn
 refine (cluster_Prune.calls A c l h.f0 h.f1 h.f2 r e W hC hc (by unfold cluster_Prune.f; rw [if_pos hw, hp])).mono ?_
 rintro x w' ⟨v, rfl, h1, h2⟩
 exact ⟨v, rfl, h1, Fr.of_below h2 (Nat.le_refl _) _⟩
theorem eachi0_at {w : World} {A : Option Addr} {cap n : Nat} :
  Calls Tryz.prog 30 #[.slice A n cap, .func (.func 31) #[] #[]] w fun e w' => ∃ Bl Bo, e = .returned (.func (.func 66) #[] #[.pointer (some ⟨Bl, 0, none⟩), .pointer (some ⟨Bo, 0, none⟩)]) ∧ w'.cell? ⟨Bl, 0, none⟩ = some (.slice A n cap) ∧ w'.cell? ⟨Bo, 0, none⟩ = some (.func (.func 31) #[] #[]) ∧ Fr (fun _ => False) w w' := by
 refine (eachi_at (w := w) (A := A) (cap := cap) (n := n)).mono ?_
 rintro e w1 ⟨Bl, Bo, rfl, hl, ho, hcl, hco, k1⟩
 exact ⟨Bl, Bo, rfl, hcl, hco, k1⟩
theorem OwI.nil (base : Nat) (w : World) : OwI base w (.slice none 0 0) [] := ⟨rfl, .inl ⟨rfl, rfl⟩⟩
theorem Blk.c6 {w : World} {b : Nat} {v0 v1 v2 v3 v4 v5 : Value} {t : TypeId} (h : Blk w b #[v0, v1, v2, v3, v4, v5] t) : (w.cell? ⟨b, 0, none⟩ = some v0 ∧ w.cell? ⟨b, 1, none⟩ = some v1 ∧ w.cell? ⟨b, 2, none⟩ = some v2 ∧ w.cell? ⟨b, 3, none⟩ = some v3 ∧ w.cell? ⟨b, 4, none⟩ = some v4 ∧ w.cell? ⟨b, 5, none⟩ = some v5) ∧ w.frozen? ⟨b, 0, none⟩ = false ∧ w.frozen? ⟨b, 1, none⟩ = false ∧ w.frozen? ⟨b, 2, none⟩ = false ∧ w.frozen? ⟨b, 3, none⟩ = false ∧ w.frozen? ⟨b, 4, none⟩ = false ∧ w.frozen? ⟨b, 5, none⟩ = false :=
 ⟨⟨h.cell 0, h.cell 1, h.cell 2, h.cell 3, h.cell 4, h.cell 5⟩, h.free 0, h.free 1, h.free 2, h.free 3, h.free 4, h.free 5⟩
theorem Blk.set6 {w : World} {b : Nat} {v0 v1 v2 v3 v4 v5 : Value} {t : TypeId} (h : Blk w b #[v0, v1, v2, v3, v4, v5] t) (u0 u1 u2 u3 u4 u5 : Value) :
  Blk ((((((w.setCell ⟨b, 0, none⟩ u0).setCell ⟨b, 1, none⟩ u1).setCell ⟨b, 2, none⟩ u2).setCell ⟨b, 3, none⟩ u3).setCell ⟨b, 4, none⟩ u4).setCell ⟨b, 5, none⟩ u5) b #[u0, u1, u2, u3, u4, u5] t :=
 (((((h.set rfl).set rfl).set rfl).set rfl).set rfl).set rfl
theorem fr_set6 (w : World) (b : Nat) (u0 u1 u2 u3 u4 u5 : Value) : Fr (fun i => i = b) w ((((((w.setCell ⟨b, 0, none⟩ u0).setCell ⟨b, 1, none⟩ u1).setCell ⟨b, 2, none⟩ u2).setCell ⟨b, 3, none⟩ u3).setCell ⟨b, 4, none⟩ u4).setCell ⟨b, 5, none⟩ u5) :=
 by (repeat' (first | (with_reducible exact Fr.refl _ _) | (with_reducible assumption) | (with_reducible refine Fr.alloc ?_ _) | (with_reducible refine Fr.drew ?_) | (with_reducible refine Fr.drewN ?_ _) | (with_reducible refine Fr.setCell ?_ _ _ ?_) | (exact Or.inr rfl) | (left; simp; done) | (left; simp; omega) | (simp; done) | (simp; omega) | omega))
theorem hull_nil {l : List S27} (h : (hullZ (spansOf l)).2.2 = 0) : 0 < l.length := by
 cases l with
 | nil => exact absurd h (by decide)
 | cons a l => simp
set_option maxHeartbeats 1000000 in
theorem choose_at {w : World} {A : Option Addr} {cap : Nat} {l : List S27} (hC : Kd.C k27 w A l.length l) (hc : l.length ≤ cap) (hw : WhoWf l) (hD : ∀ x, pruneZ l (hullOf l) = (x, 0) → DivL (spansOf x) (hullOf l)) :
  Calls Tryz.prog 9 #[.slice A l.length cap] w fun e w' => ∃ v, e = .returned (.tuple #[.agg #[.int .i64 (chZ l).at_, .int .i64 (chZ l).lo, .int .i64 (chZ l).hi, .int .i64 (chZ l).mean, .int .i64 (chZ l).jit, v], .int .i64 (chZ l).er]) ∧ OwI w.heap.size w' v (chZ l).who ∧ Fr (fun _ => False) w w' := by
 have HC := hidE hC
 have HM := hidE (fun W (k : Fr (fun _ => False) w W) => may_at (Kd.C_below HC.out k.below) hc hw)
 have HW := hidE hw
 have HDv := hidE hD
 obtain ⟨Z, hZ⟩ : ∃ Z, Z = chZ l := ⟨_, rfl⟩
 rw [← hZ]
 have HZ := hidE hZ
 clear hC hw hD hZ
 cases hm : mayB l with
 | false =>
  rw [hm] at HM
  have hz : Z = chNo 1 := by rw [HZ.out]; unfold chZ; rw [hm]; rfl
  subst hz
  clear HZ hm
  go_enter Tryz.func9, Tryz.ntmps9
  go_wp2_with fail
  generalize hW : World.alloc w _ = W1
  have f1 : Fr (fun _ => False) w W1 := by subst hW; (repeat' (first | (with_reducible exact Fr.refl _ _) | (with_reducible assumption) | (with_reducible refine Fr.alloc ?_ _) | (with_reducible refine Fr.drew ?_) | (with_reducible refine Fr.drewN ?_ _) | (with_reducible refine Fr.setCell ?_ _ _ ?_) | (exact Or.inr rfl) | (left; simp; done) | (left; simp; omega) | (simp; done) | (simp; omega) | omega))
  have bR : Blk W1 w.heap.size #[.int .i64 0, .int .i64 0, .int .i64 0, .int .i64 0, .int .i64 0, .slice none 0 0] 30 := by subst hW; (repeat' (first | (with_reducible assumption) | (with_reducible apply Blk.drew) | (with_reducible apply Blk.drewN) | (with_reducible apply Blk.set) | (with_reducible apply Blk.other) | (exact Blk.new' _ _ _ (by first | rfl | (simp; done) | (simp; omega))) | (with_reducible apply Blk.alloc) | (with_reducible rfl) | (simp; done) | (simp; omega) | omega | rfl))
  clear hW
  refine (HM.out W1 f1).mono ?_
  rintro e W2 ⟨rfl, k2⟩
  have bR2 := bR.fr k2 (fun h => h)
  have f2 := f1.trans k2 (fun _ _ h => h)
  obtain ⟨⟨c0, c1, c2, c3, c4, c5⟩, z0, z1, z2, z3, z4, z5⟩ := bR2.c6
  have lR := bR2.lt
  have BR := hidE bR2
  clear bR k2 f1 HM bR2
  go_wp2_with fail
  refine bodyPost_ret (results_ct rfl _ _ w.heap.size 30 #[.int .i64 0, .int .i64 0, .int .i64 0, .int .i64 0, .int .i64 0, .slice none 0 0] (0, 0) _ rfl (BR.out.set6 _ _ _ _ _ _) Tryz.underlying30 rfl (by kernel_rfl)) rfl ?_
  exact ⟨_, rfl, OwI.nil _ _, f2.trans (T := fun i => i = w.heap.size) (by (repeat' (first | (with_reducible exact Fr.refl _ _) | (with_reducible assumption) | (with_reducible refine Fr.alloc ?_ _) | (with_reducible refine Fr.drew ?_) | (with_reducible refine Fr.drewN ?_ _) | (with_reducible refine Fr.setCell ?_ _ _ ?_) | (exact Or.inr rfl) | (left; simp; done) | (left; simp; omega) | (simp; done) | (simp; omega) | omega))) (fun i hi e => by omega)⟩
 | true =>
  rw [hm] at HM
  have hF := (mayB_iff l).1 hm
  have h16 := hF.len
  have hsl : (spansOf l).length = l.length := by unfold spansOf; simp
  have HL := hidE hF
  have HmZ := hidE hm
  clear hm hF
  go_enter Tryz.func9, Tryz.ntmps9
  go_wp2_with fail
  generalize hW : World.alloc w _ = W1
  have f1 : Fr (fun _ => False) w W1 := by subst hW; (repeat' (first | (with_reducible exact Fr.refl _ _) | (with_reducible assumption) | (with_reducible refine Fr.alloc ?_ _) | (with_reducible refine Fr.drew ?_) | (with_reducible refine Fr.drewN ?_ _) | (with_reducible refine Fr.setCell ?_ _ _ ?_) | (exact Or.inr rfl) | (left; simp; done) | (left; simp; omega) | (simp; done) | (simp; omega) | omega))
  have bR : Blk W1 w.heap.size #[.int .i64 0, .int .i64 0, .int .i64 0, .int .i64 0, .int .i64 0, .slice none 0 0] 30 := by subst hW; (repeat' (first | (with_reducible assumption) | (with_reducible apply Blk.drew) | (with_reducible apply Blk.drewN) | (with_reducible apply Blk.set) | (with_reducible apply Blk.other) | (exact Blk.new' _ _ _ (by first | rfl | (simp; done) | (simp; omega))) | (with_reducible apply Blk.alloc) | (with_reducible rfl) | (simp; done) | (simp; omega) | omega | rfl))
  clear hW
  refine (HM.out W1 f1).mono ?_
  rintro e W2 ⟨rfl, k2⟩
  replace bR := bR.fr k2 (fun h => h)
  have f2 := f1.trans k2 (fun _ _ h => h)
  clear HM f1 k2
  go_wp2_with fail
  refine (spans_at (Kd.C_below HC.out f2.below) h16).mono ?_
  rintro e W3 ⟨v, rfl, hv, k3⟩
  obtain ⟨As, cs, rfl, hcs, hCs⟩ := hv.C
  replace bR := bR.fr k3 (fun h => h)
  have f3 := f2.trans k3 (fun _ _ h => h)
  have HH := hidE (hull_at hCs hcs)
  simp only [List.length_map] at HH hcs
  clear f2 k3 hv hCs
  go_wp2_with fail
  with_reducible refine HH.out.mono ?_
  rintro e W4 ⟨rfl, k4⟩
  replace bR := bR.fr k4 (fun h => h)
  have f4 := f3.trans k4 (fun _ _ h => h)
  clear HH k4 f3
  obtain ⟨HZ3, hHZ3⟩ : ∃ q, q = hullZ (List.map (fun c : S27 => c.f1) l) := ⟨_, rfl⟩
  have HHz : Hid (HZ3 = hullZ (spansOf l)) := hidE hHZ3
  rw [← hHZ3]
  clear hHZ3
  obtain ⟨lo, hi, eh⟩ := HZ3
  simp only
  by_cases he : eh = 0
  ·subst he
   have hne : 0 < l.length := hull_nil (by rw [← HHz.out])
   obtain ⟨r, off, rfl, hr, hat⟩ := C27_open HC.out hne
   obtain ⟨c, hc0⟩ : ∃ c, l[0]? = some c := ⟨_, List.getElem?_eq_getElem hne⟩
   obtain ⟨a0, a1, a2, a3, a4⟩ := (hat 0 c hc0).fr f4 (fun h => h)
   rw [Nat.zero_mul, Nat.add_zero] at a0 a1 a2 a3 a4
   have HO : Hid (hullOf l = ⟨c.f1.f0, lo, hi⟩) := hidE (by unfold hullOf; rw [← HHz.out, show (0 : Int) = ((0 : Nat) : Int) from rfl, rd_get hc0])
   have t0 : (0 : Int) < (l.length : Int) := by omega
   clear hat hc0 a0 a2 a3 a4 hsl
   go_wp2_with fail
   generalize hW : World.alloc W4 _ = W5
   have f5' : Fr (fun _ => False) W4 W5 := by subst hW; (repeat' (first | (with_reducible exact Fr.refl _ _) | (with_reducible assumption) | (with_reducible refine Fr.alloc ?_ _) | (with_reducible refine Fr.drew ?_) | (with_reducible refine Fr.drewN ?_ _) | (with_reducible refine Fr.setCell ?_ _ _ ?_) | (exact Or.inr rfl) | (left; simp; done) | (left; simp; omega) | (simp; done) | (simp; omega) | omega))
   have bH : Blk W5 W4.heap.size #[.int .i64 c.f1.f0, .int .i64 lo, .int .i64 hi] 25 := by subst hW; (repeat' (first | (with_reducible assumption) | (with_reducible apply Blk.drew) | (with_reducible apply Blk.drewN) | (with_reducible apply Blk.set) | (with_reducible apply Blk.other) | (exact Blk.new' _ _ _ (by first | rfl | (simp; done) | (simp; omega))) | (with_reducible apply Blk.alloc) | (with_reducible rfl) | (simp; done) | (simp; omega) | omega | rfl))
   clear hW a1
   replace bR := bR.fr f5' (fun h => h)
   have f5 := f4.trans f5' (fun _ _ h => h)
   have hs4 := f4.size
   obtain ⟨Bh, hBh⟩ : ∃ Bh, Bh = W4.heap.size := ⟨_, rfl⟩
   rw [← hBh] at bH ⊢
   have HBh := hidE hBh
   clear hBh
   clear f5' f4
   obtain ⟨x, e2, hp⟩ : ∃ x e2, pruneZ l ⟨c.f1.f0, lo, hi⟩ = (x, e2) := ⟨_, _, rfl⟩
   have HP := hidE (prZ_at (h := ⟨c.f1.f0, lo, hi⟩) (Kd.C_below HC.out f5.below) rfl hc HW.out hp)
   have Hp := hidE hp
   clear hp
   refine HP.out.mono ?_
   rintro e W6 ⟨vx, rfl, hRx, k6⟩
   replace bR := bR.fr k6 (fun h => h)
   replace bH := bH.fr k6 (fun h => h)
   have f6 := f5.trans k6 (fun _ _ h => h)
   clear HP k6 f5
   obtain ⟨Ax, cx, rfl, hcx, hCx⟩ := R_C hRx
   have HCx := hidE (hCx W6 (Fr.refl _ _))
   clear hRx hCx
   by_cases he : e2 = 0
   ·subst he
    obtain ⟨hFl, hHok, hsub, hx0⟩ := prune_in Hp.out
    have hx16 : x.length ≤ 16 := by have := hsub.length_le; omega
    have hDv := HDv.out x (by rw [HO.out]; exact Hp.out)
    rw [HO.out] at hDv
    obtain ⟨M, hM⟩ : ∃ M, M = meanZ (spansOf x) ⟨c.f1.f0, lo, hi⟩ := ⟨_, rfl⟩
    obtain ⟨J, hJ⟩ : ∃ J, J = jitZ (spansOf x) ⟨c.f1.f0, lo, hi⟩ := ⟨_, rfl⟩
    have hz : Z = ⟨c.f1.f0, lo, hi, M, J, x.map (fun c => c.f0), 0⟩ := by
     rw [HZ.out, hM, hJ]
     unfold chZ
     rw [HmZ.out, if_pos rfl, ← HHz.out, if_pos rfl, HO.out, Hp.out, if_pos rfl]
    subst hz
    have hls : ∀ s ∈ spansOf x, SpOk s := fun s hs => by
     obtain ⟨d, hd, rfl⟩ := List.mem_map.1 hs
     exact hFl.span d (hsub.subset hd)
    have hsx : (spansOf x).length = x.length := by unfold spansOf; simp
    have HSp : Hid (∀ W, Fr (fun _ => False) W6 W → Calls Tryz.prog 26 #[.slice Ax x.length cx] W fun e w' => ∃ v, e = .returned v ∧ OwS W.heap.size w' v (spansOf x) ∧ Fr (fun _ => False) W w') := hidE (fun W k => spans_at (Kd.C_below HCx.out k.below) hx16)
    have HMn : Hid (∀ W A8 c8, Kd.C k25 W A8 (spansOf x).length (spansOf x) → (spansOf x).length ≤ c8 → Calls Tryz.prog 28 #[.slice A8 (spansOf x).length c8, .agg #[.int .i64 c.f1.f0, .int .i64 lo, .int .i64 hi]] W fun e w' => e = .returned (.tuple #[.int .i64 M, .int .i64 J, .int .i64 0]) ∧ Fr (fun _ => False) W w') := hidE (fun W A8 c8 hC8 hc8 => by
     rw [hM, hJ]
     exact mean_at (h := ⟨c.f1.f0, lo, hi⟩) hC8 hc8 (by omega) (by omega) hls hHok hDv.1 hDv.2.1 hDv.2.2)
    have hs6 := f6.size
    have h0 := bH.cell 0
    have h1 := bH.cell 1
    have h2 := bH.cell 2
    simp at h0 h1 h2
    have lH := bH.lt
    have HlH := hidE lH
    have hs0 : w.heap.size < W6.heap.size := bR.lt
    clear hFl hHok hsub hDv hls hM hJ HZ
    go_wp2_with fail
    generalize hW : World.alloc W6 _ = W7
    have f7' : Fr (fun _ => False) W6 W7 := by subst hW; (repeat' (first | (with_reducible exact Fr.refl _ _) | (with_reducible assumption) | (with_reducible refine Fr.alloc ?_ _) | (with_reducible refine Fr.drew ?_) | (with_reducible refine Fr.drewN ?_ _) | (with_reducible refine Fr.setCell ?_ _ _ ?_) | (exact Or.inr rfl) | (left; simp; done) | (left; simp; omega) | (simp; done) | (simp; omega) | omega))
    have bC : Blk W7 W6.heap.size #[.int .i64 c.f1.f0, .int .i64 lo, .int .i64 hi, .int .i64 0, .int .i64 0, .slice none 0 0] 30 := by subst hW; (repeat' (first | (with_reducible assumption) | (with_reducible apply Blk.drew) | (with_reducible apply Blk.drewN) | (with_reducible apply Blk.set) | (with_reducible apply Blk.other) | (exact Blk.new' _ _ _ (by first | rfl | (simp; done) | (simp; omega))) | (with_reducible apply Blk.alloc) | (with_reducible rfl) | (simp; done) | (simp; omega) | omega | rfl))
    clear hW
    replace bR := bR.fr f7' (fun h => h)
    replace bH := bH.fr f7' (fun h => h)
    obtain ⟨Bc, hBc⟩ : ∃ Bc, Bc = W6.heap.size := ⟨_, rfl⟩
    rw [← hBc] at bC ⊢
    have hRB : w.heap.size ≠ Bc := by omega
    have hHB : Bh ≠ Bc := by have := HlH.out; omega
    have HBc := hidE hBc
    clear hBc
    clear h0 h1 h2
    have h0 := bH.cell 0
    have h1 := bH.cell 1
    have h2 := bH.cell 2
    simp at h0 h1 h2
    have msd : W7.drew.cell? ⟨Bh, 0, none⟩ = some (.int .i64 c.f1.f0) ∧ W7.drew.cell? ⟨Bh, 1, none⟩ = some (.int .i64 lo) ∧ W7.drew.cell? ⟨Bh, 2, none⟩ = some (.int .i64 hi) := ⟨h0, h1, h2⟩
    refine start_ (n := 13) (S := fun w' => w'.cell? ⟨Bh, 0, none⟩ = some (.int .i64 c.f1.f0) ∧ w'.cell? ⟨Bh, 1, none⟩ = some (.int .i64 lo) ∧ w'.cell? ⟨Bh, 2, none⟩ = some (.int .i64 hi)) (ds := [11]) #[oN,oN,oN,oN,oN,oN,oN,oN,oN,oN,oN,oN,oN] (by kernel_rfl) rfl rfl ⟨msd.1, msd.2.1, msd.2.2⟩ (fun hHeld => ?_)
    refine pure_ (i := 0) (N := some 49) (v := ?_) (a' := ?_) #[oY,oN,oN,oN,oN,oN,oN,oN,oN,oN,oN,oN,oN] rfl rfl (by kernel_rfl) (fun _ _ _ h => h) (Or.inl ⟨by rfl, ?_⟩) ?_ ?_
    rotate_left
    ·intro w'
     go_simp
     with_reducible rfl
    rotate_left
    ·simp only [Act.put, List.setIfInBounds_toArray, List.set_cons_zero, List.set_cons_succ, i64_w, i32_w]
     rfl
    refine take_ (i := 2) (N := some 51) (v := ?_) (a' := ?_) #[oY,oN,oY,oN,oN,oN,oN,oN,oN,oN,oN,oN,oN] rfl rfl (by kernel_rfl) (fun _ _ _ h => h) (Or.inl ⟨by rfl, ?_⟩) hHeld ?_ ?_
    rotate_left
    ·rintro w' ⟨s0, s1, s2⟩
     go_simp
     with_reducible rfl
    rotate_left
    ·simp only [Act.put, List.setIfInBounds_toArray, List.set_cons_zero, List.set_cons_succ, i64_w, i32_w]
     rfl
    refine one_ (i := 1) (N := some 50) #[oY,oY,oY,oN,oN,oN,oN,oN,oN,oN,oN,oN,oN] rfl rfl (by kernel_rfl) (by decide) (fun K hK => ?_)
    refine goes_ Tryz.func26 (by kernel_rfl) rfl #[.slice Ax x.length cx] (by rfl) rfl rfl (by simp only [List.map_toArray, List.map_cons, List.map_nil]; rfl) ?_
    refine (HSp.out _ (f7'.drew)).mono ?_
    rintro e W8 ⟨v8, rfl, hv8, k8'⟩
    have k8 : Fr (fun _ => False) W7 W8 := Fr.trans ((Fr.refl _ _).drew) k8' (fun _ _ h => h)
    obtain ⟨A8, c8, rfl, hc8, hC8⟩ := hv8.C
    refine ⟨_, rfl, ?_⟩
    have bH8 := bH.fr k8 (fun h => h)
    have ms8 : W8.cell? ⟨Bh, 0, none⟩ = some (.int .i64 c.f1.f0) ∧ W8.cell? ⟨Bh, 1, none⟩ = some (.int .i64 lo) ∧ W8.cell? ⟨Bh, 2, none⟩ = some (.int .i64 hi) := ⟨bH8.cell 0, bH8.cell 1, bH8.cell 2⟩
    refine hK.out _ _ ⟨ms8.1, ms8.2.1, ms8.2.2⟩ (fun hHeld => ?_)
    clear hK K
    refine norm_ (a' := ?_) ?_ ?_
    rotate_left
    ·show Act.put _ (some 50) _ = _
     simp only [Act.put, List.setIfInBounds_toArray, List.set_cons_zero, List.set_cons_succ, i64_w, i32_w]
     rfl
    refine one_ (i := 3) (N := some 52) #[oY,oY,oY,oY,oN,oN,oN,oN,oN,oN,oN,oN,oN] rfl rfl (by kernel_rfl) (by decide) (fun K hK => ?_)
    refine goes_ Tryz.func28 (by kernel_rfl) rfl #[.slice A8 (spansOf x).length c8, .agg #[.int .i64 c.f1.f0, .int .i64 lo, .int .i64 hi]] (by rfl) rfl rfl (by simp only [List.map_toArray, List.map_cons, List.map_nil]; rfl) ?_
    refine (HMn.out _ A8 c8 (by exact hC8) hc8).mono ?_
    rintro e W9 ⟨rfl, k9'⟩
    have k9 : Fr (fun _ => False) W7 W9 := k8.trans k9' (fun _ _ h => h)
    refine ⟨_, rfl, ?_⟩
    have bH9 := bH.fr k9 (fun h => h)
    have bC9 := bC.fr k9 (fun h => h)
    obtain ⟨⟨q0, q1, q2, q3, q4, q5⟩, z0, z1, z2, z3, z4, z5⟩ := bC9.c6
    have lC := bC9.lt
    have ms9 : W9.cell? ⟨Bh, 0, none⟩ = some (.int .i64 c.f1.f0) ∧ W9.cell? ⟨Bh, 1, none⟩ = some (.int .i64 lo) ∧ W9.cell? ⟨Bh, 2, none⟩ = some (.int .i64 hi) := ⟨bH9.cell 0, bH9.cell 1, bH9.cell 2⟩
    refine hK.out _ _ ⟨ms9.1, ms9.2.1, ms9.2.2⟩ (fun hHeld => ?_)
    clear hK K
    refine norm_ (a' := ?_) ?_ ?_
    rotate_left
    ·show Act.put _ (some 52) _ = _
     simp only [Act.put, List.setIfInBounds_toArray, List.set_cons_zero, List.set_cons_succ, i64_w, i32_w]
     rfl
    refine pure_ (i := 4) (N := some 48) (v := ?_) (a' := ?_) #[oY,oY,oY,oY,oY,oN,oN,oN,oN,oN,oN,oN,oN] rfl rfl (by kernel_rfl) (fun _ _ _ h => h) (Or.inl ⟨by rfl, ?_⟩) ?_ ?_
    rotate_left
    ·intro w'
     go_simp
     with_reducible rfl
    rotate_left
    ·simp only [Act.put, List.setIfInBounds_toArray, List.set_cons_zero, List.set_cons_succ, i64_w, i32_w]
     rfl
    refine pure_ (i := 5) (N := some 53) (v := ?_) (a' := ?_) #[oY,oY,oY,oY,oY,oY,oN,oN,oN,oN,oN,oN,oN] rfl rfl (by kernel_rfl) (fun _ _ _ h => h) (Or.inl ⟨by rfl, ?_⟩) ?_ ?_
    rotate_left
    ·intro w'
     go_simp
     with_reducible rfl
    rotate_left
    ·simp only [Act.put, List.setIfInBounds_toArray, List.set_cons_zero, List.set_cons_succ, i64_w, i32_w]
     rfl
    refine pure_ (i := 6) (N := some 54) (v := ?_) (a' := ?_) #[oY,oY,oY,oY,oY,oY,oY,oN,oN,oN,oN,oN,oN] rfl rfl (by kernel_rfl) (fun _ _ _ h => h) (Or.inl ⟨by rfl, ?_⟩) ?_ ?_
    rotate_left
    ·intro w'
     go_simp
     with_reducible rfl
    rotate_left
    ·simp only [Act.put, List.setIfInBounds_toArray, List.set_cons_zero, List.set_cons_succ, i64_w, i32_w]
     rfl
    refine pure_ (i := 7) (N := some 55) (v := ?_) (a' := ?_) #[oY,oY,oY,oY,oY,oY,oY,oY,oN,oN,oN,oN,oN] rfl rfl (by kernel_rfl) (fun _ _ _ h => h) (Or.inl ⟨by rfl, ?_⟩) ?_ ?_
    rotate_left
    ·intro w'
     go_simp
     with_reducible rfl
    rotate_left
    ·simp only [Act.put, List.setIfInBounds_toArray, List.set_cons_zero, List.set_cons_succ, i64_w, i32_w]
     rfl
    refine pure_ (i := 8) (N := some 56) (v := ?_) (a' := ?_) #[oY,oY,oY,oY,oY,oY,oY,oY,oY,oN,oN,oN,oN] rfl rfl (by kernel_rfl) (fun _ _ _ h => h) (Or.inl ⟨by rfl, ?_⟩) ?_ ?_
    rotate_left
    ·intro w'
     go_simp
     with_reducible rfl
    rotate_left
    ·simp only [Act.put, List.setIfInBounds_toArray, List.set_cons_zero, List.set_cons_succ, i64_w, i32_w]
     rfl
    refine one_ (i := 9) (N := none) #[oY,oY,oY,oY,oY,oY,oY,oY,oY,oY,oN,oN,oN] rfl rfl (by kernel_rfl) (by decide) (fun K hK => ?_)
    refine skip_ (w1 := ?_) (by rfl) rfl ?_ ?_
    rotate_left
    ·go_simp
     rfl
    generalize hW10 : World.setCell W9 _ _ = W10
    have b10 : Blk W10 Bc #[.int .i64 c.f1.f0, .int .i64 lo, .int .i64 hi, .int .i64 M, .int .i64 0, .slice none 0 0] 30 := by subst hW10; exact bC9.set rfl
    have k10 : Fr (fun i => i = Bc) W7 W10 := by subst hW10; exact ((k9.mono (fun _ _ h => h.elim)).setCell _ _ (.inr rfl))
    have bH10 : Blk W10 Bh #[.int .i64 c.f1.f0, .int .i64 lo, .int .i64 hi] 25 := by subst hW10; exact bH9.other (fun e => hHB e.symm)
    have c10 : W10.cell? ⟨Bc, 4, none⟩ = some (.int .i64 0) := b10.cell 4
    have z10 := b10.free 4
    have l10 := b10.lt
    have ms10 : W10.cell? ⟨Bh, 0, none⟩ = some (.int .i64 c.f1.f0) ∧ W10.cell? ⟨Bh, 1, none⟩ = some (.int .i64 lo) ∧ W10.cell? ⟨Bh, 2, none⟩ = some (.int .i64 hi) := ⟨bH10.cell 0, bH10.cell 1, bH10.cell 2⟩
    clear hW10 q0 q1 q2 q3 q4 q5 z0 z1 z2 z3 z4 z5
    refine hK.out _ _ ⟨ms10.1, ms10.2.1, ms10.2.2⟩ (fun hHeld => ?_)
    clear hK K
    refine pure_ (i := 10) (N := some 57) (v := ?_) (a' := ?_) #[oY,oY,oY,oY,oY,oY,oY,oY,oY,oY,oY,oN,oN] rfl rfl (by kernel_rfl) (fun _ _ _ h => h) (Or.inl ⟨by rfl, ?_⟩) ?_ ?_
    rotate_left
    ·intro w'
     go_simp
     with_reducible rfl
    rotate_left
    ·simp only [Act.put, List.setIfInBounds_toArray, List.set_cons_zero, List.set_cons_succ, i64_w, i32_w]
     rfl
    refine last_ (i := 11) (N := none) #[oY,oY,oY,oY,oY,oY,oY,oY,oY,oY,oY,oY,oN] rfl rfl (by kernel_rfl) (by decide) (fun K hK => ?_)
    refine skip_ (w1 := ?_) (by rfl) rfl ?_ ?_
    rotate_left
    ·go_simp
     rfl
    refine hK.out _ _ ?_
    clear hK K
    refine pure_ (i := 12) (N := some 6) (v := ?_) (a' := ?_) #[oY,oY,oY,oY,oY,oY,oY,oY,oY,oY,oY,oY,oY] rfl rfl (by kernel_rfl) (fun _ _ _ h => h) (Or.inl ⟨by rfl, ?_⟩) ?_ ?_
    rotate_left
    ·intro w'
     go_simp
     with_reducible rfl
    rotate_left
    ·simp only [Act.put, List.setIfInBounds_toArray, List.set_cons_zero, List.set_cons_succ, i64_w, i32_w]
     rfl
    refine done_ (by kernel_rfl) ?_
    clear hHeld ms10 ms9 ms8 msd h0 h1 h2 c10 z10
    generalize hW11 : World.setCell _ _ _ = W11
    have b11 : Blk W11 Bc #[.int .i64 c.f1.f0, .int .i64 lo, .int .i64 hi, .int .i64 M, .int .i64 J, .slice none 0 0] 30 := by subst hW11; exact (b10.set rfl)
    have k11 : Fr (fun i => i = Bc) W7 W11 := by subst hW11; exact k10.setCell _ _ (.inr rfl)
    have bR11 := bR.fr k11 hRB
    have F61 : Fr (fun _ => False) W6 W11 := f7'.trans k11 (fun i hi e => by have := HBc.out; omega)
    have F11 : Fr (fun _ => False) w W11 := f6.trans F61 (fun _ _ h => h)
    have HCx11 := hidE (Kd.C_below HCx.out F61.below)
    have HB11 := hidE b11
    have HR11 := hidE bR11
    clear hW11 b10 k10 bH10 l10 b11 bR11 k11 F61 bR bH bC lH lC bH9 bC9 bH8 hC8 hv8
    have HEa := hidE (eachi0_at (w := W11) (A := Ax) (cap := cx) (n := x.length))
    go_wp2_with fail
    refine HEa.out.mono ?_
    rintro e W12 ⟨Bl, Bo, rfl, hcl, hco, k12⟩
    have HCo := hidE (colli_at hcl hco (Kd.C_below HCx11.out k12.below) hx16)
    have HB12 := hidE (HB11.out.fr k12 (fun h => h))
    have HR12 := hidE (HR11.out.fr k12 (fun h => h))
    have F12 := F11.trans k12 (fun _ _ h => h)
    clear HEa hcl hco k12 F11 HB11 HR11 HCx11
    go_wp2_with fail
    refine HCo.out.mono ?_
    rintro e W13 ⟨v, rfl, hv, k13⟩
    have b13 := HB12.out.fr k13 (fun h => h)
    have bR13 := HR12.out.fr k13 (fun h => h)
    have F13 := F12.trans k13 (fun _ _ h => h)
    have hs12 := F12.size
    have lBc := HB12.out.lt
    clear HCo k13 F12
    obtain ⟨g, cp, rfl, hg⟩ : ∃ g cp, v = .slice (some ⟨g, 0, none⟩) (x.map (fun c => c.f0)).length cp ∧ W12.heap.size ≤ g := by
     rcases hv.2 with ⟨_, h0⟩ | ⟨g, cap, cur, e, hg, _⟩
     ·rw [List.length_map] at h0; omega
     ·exact ⟨g, cap, e, hg⟩
    have hv' : OwI w.heap.size W13 (.slice (some ⟨g, 0, none⟩) (x.map (fun c => c.f0)).length cp) (x.map (fun c => c.f0)) := ⟨hv.1, by
     rcases hv.2 with h | ⟨g, cap, cur, e1, hg, hb⟩
     ·exact .inl h
     ·exact .inr ⟨g, cap, cur, e1, Nat.le_trans hs12 hg, hb⟩⟩
    have HV := hidE hv'
    have gB : g ≠ Bc := by omega
    have lRw := HR12.out.lt
    have gR : g ≠ w.heap.size := by omega
    obtain ⟨⟨q0, q1, q2, q3, q4, q5⟩, z0, z1, z2, z3, z4, z5⟩ := b13.c6
    have lC := b13.lt
    have HB13 := hidE b13
    have HR13 := hidE bR13
    clear hv hv' b13 bR13 HB12 HR12 q0 q1 q2 q3 q4 z0 z1 z2 z3 z4 lBc lRw
    simp only [List.length_map]
    go_upto_region 15 with fail
    generalize hW14 : World.setCell W13 _ _ = W14
    have b14 : Blk W14 Bc #[.int .i64 c.f1.f0, .int .i64 lo, .int .i64 hi, .int .i64 M, .int .i64 J, .slice (some ⟨g, 0, none⟩) x.length cp] 30 := by subst hW14; exact (HB13.out.set rfl)
    have k14 : Fr (fun i => i = Bc) W13 W14 := by subst hW14; (repeat' (first | (with_reducible exact Fr.refl _ _) | (with_reducible assumption) | (with_reducible refine Fr.alloc ?_ _) | (with_reducible refine Fr.drew ?_) | (with_reducible refine Fr.drewN ?_ _) | (with_reducible refine Fr.setCell ?_ _ _ ?_) | (exact Or.inr rfl) | (left; simp; done) | (left; simp; omega) | (simp; done) | (simp; omega) | omega))
    have bR14 := HR13.out.fr k14 hRB
    have hv14 := HV.out
    clear hW14 q5 z5
    obtain ⟨⟨q0, q1, q2, q3, q4, q5⟩, z0, z1, z2, z3, z4, z5⟩ := b14.c6
    obtain ⟨⟨r0, r1, r2, r3, r4, r5⟩, y0, y1, y2, y3, y4, y5⟩ := bR14.c6
    have lC := b14.lt
    have lR := bR14.lt
    have BR14 := hidE bR14
    have K14 := hidE k14
    clear b14 bR14 k14 hv14 z0 z1 z2 z3 z4 z5 HB13 HR13
    go_wp2_with fail
    have k15 : Fr (fun i => i = Bc ∨ i = w.heap.size) W13 _ := (K14.out.mono (T := fun i => i = Bc ∨ i = w.heap.size) (fun _ _ h => .inl h)).trans (fr_set6 W14 w.heap.size (.int .i64 c.f1.f0) (.int .i64 lo) (.int .i64 hi) (.int .i64 M) (.int .i64 J) (.slice (some ⟨g, 0, none⟩) x.length cp)) (fun _ _ h => .inr h)
    have h1 := HV.out
    rw [List.length_map] at h1
    have o15 := own_fr0 h1 k15 (fun g' e hS => by
     have e : some g = some g' := e
     injection e with e
     subst e
     rcases hS with h | h
     ·exact gB h
     ·exact gR h)
    have F15 := F13.trans k15 (fun i hi h => by have := HBc.out; omega)
    refine bodyPost_ret (results_ct rfl _ _ w.heap.size 30 #[.int .i64 c.f1.f0, .int .i64 lo, .int .i64 hi, .int .i64 M, .int .i64 J, .slice (some ⟨g, 0, none⟩) x.length cp] (0, 0) _ rfl (BR14.out.set6 _ _ _ _ _ _) Tryz.underlying30 rfl (by kernel_rfl)) rfl ?_
    exact ⟨_, rfl, o15, F15⟩
   ·have t1 : (e2 == 0) = false := beq_eq_false_iff_ne.2 he
    have hz : Z = chNo e2 := by
     rw [HZ.out]
     unfold chZ
     rw [HmZ.out, if_pos rfl, ← HHz.out, if_pos rfl, HO.out, Hp.out, if_neg he]
    subst hz
    obtain ⟨⟨c0, c1, c2, c3, c4, c5⟩, z0, z1, z2, z3, z4, z5⟩ := bR.c6
    have lR := bR.lt
    have BR := hidE bR
    have HE := hidE he
    clear bR he HZ
    go_wp2_with fail
    refine bodyPost_ret (results_ct rfl _ _ w.heap.size 30 #[.int .i64 0, .int .i64 0, .int .i64 0, .int .i64 0, .int .i64 0, .slice none 0 0] (0, 0) _ rfl (BR.out.set6 _ _ _ _ _ _) Tryz.underlying30 rfl (by kernel_rfl)) rfl ?_
    exact ⟨_, rfl, OwI.nil _ _, f6.trans (T := fun i => i = w.heap.size) (by (repeat' (first | (with_reducible exact Fr.refl _ _) | (with_reducible assumption) | (with_reducible refine Fr.alloc ?_ _) | (with_reducible refine Fr.drew ?_) | (with_reducible refine Fr.drewN ?_ _) | (with_reducible refine Fr.setCell ?_ _ _ ?_) | (exact Or.inr rfl) | (left; simp; done) | (left; simp; omega) | (simp; done) | (simp; omega) | omega))) (fun i hi e => by omega)⟩
  ·have t1 : (eh == 0) = false := beq_eq_false_iff_ne.2 he
   have hz : Z = chNo eh := by
    rw [HZ.out]
    unfold chZ
    rw [HmZ.out, if_pos rfl, ← HHz.out, if_neg he]
   subst hz
   obtain ⟨⟨c0, c1, c2, c3, c4, c5⟩, z0, z1, z2, z3, z4, z5⟩ := bR.c6
   have lR := bR.lt
   have BR := hidE bR
   have HE := hidE he
   clear bR he HZ
   go_wp2_with fail
   refine bodyPost_ret (results_ct rfl _ _ w.heap.size 30 #[.int .i64 0, .int .i64 0, .int .i64 0, .int .i64 0, .int .i64 0, .slice none 0 0] (0, 0) _ rfl (BR.out.set6 _ _ _ _ _ _) Tryz.underlying30 rfl (by kernel_rfl)) rfl ?_
   exact ⟨_, rfl, OwI.nil _ _, f4.trans (T := fun i => i = w.heap.size) (by (repeat' (first | (with_reducible exact Fr.refl _ _) | (with_reducible assumption) | (with_reducible refine Fr.alloc ?_ _) | (with_reducible refine Fr.drew ?_) | (with_reducible refine Fr.drewN ?_ _) | (with_reducible refine Fr.setCell ?_ _ _ ?_) | (exact Or.inr rfl) | (left; simp; done) | (left; simp; omega) | (simp; done) | (simp; omega) | omega))) (fun i hi e => by omega)⟩
theorem R_fr1 {w w' : World} {base : Nat} {v : Value} {xs : List S27} (h : Kd.R k27 27 w base (fun _ => True) v xs) (k : Fr (fun _ => False) w w') : Kd.R k27 27 w' base (fun _ => True) v xs := by
  rcases Row.of_R h with ⟨rfl, rfl⟩ | ⟨g, cap, rfl, hg, hm, hr⟩
  · exact Kd.R_nil _ _ _ _ _
  · exact (hr.fr k (fun h => h)).to_R hg hm
def fourL : List S27 := [⟨0, ⟨3, 8, 12⟩, 0⟩, ⟨1, ⟨3, 11, 13⟩, 0⟩, ⟨2, ⟨3, 10, 12⟩, 0⟩, ⟨3, ⟨3, 90, 99⟩, 0⟩]
set_option maxHeartbeats 1000000 in
theorem four_at {w : World} :
    Calls Tryz.prog 8 #[] w fun e w' => ∃ g cap, e = .returned (.slice (some ⟨g, 0, none⟩) 4 cap) ∧ w.heap.size ≤ g ∧ cap ≤ maxLen ∧ Row w' g cap fourL ∧ Fr (fun _ => False) w w' := by
  go_enter Tryz.func8, Tryz.ntmps8
  go_wp2_with fail
  generalize hW : World.alloc w _ = W1
  have f1 : Fr (fun _ => False) w W1 := by subst hW; (repeat' (first | (with_reducible exact Fr.refl _ _) | (with_reducible assumption) | (with_reducible refine Fr.alloc ?_ _) | (with_reducible refine Fr.drew ?_) | (with_reducible refine Fr.drewN ?_ _) | (with_reducible refine Fr.setCell ?_ _ _ ?_) | (exact Or.inr rfl) | (left; simp; done) | (left; simp; omega) | (simp; done) | (simp; omega) | omega))
  have bB : Blk W1 w.heap.size #[.int .i64 8, .int .i64 12, .int .i64 11, .int .i64 13, .int .i64 10, .int .i64 12, .int .i64 90, .int .i64 99] 61 := by subst hW; (repeat' (first | (with_reducible assumption) | (with_reducible apply Blk.drew) | (with_reducible apply Blk.drewN) | (with_reducible apply Blk.set) | (with_reducible apply Blk.other) | (exact Blk.new' _ _ _ (by first | rfl | (simp; done) | (simp; omega))) | (with_reducible apply Blk.alloc) | (with_reducible rfl) | (simp; done) | (simp; omega) | omega | rfl))
  have lW := bB.lt
  clear hW
  have BB := hidE bB
  have F1 := hidE f1
  clear bB f1
  go_loopw [1, 10] (fun v1 v10 wr => ∃ i : Nat, i ≤ 4 ∧ v10 = .int .i64 (i : Int) ∧ Hid (Kd.R k27 27 wr W1.heap.size (fun _ => True) v1 (fourL.take i)) ∧ Below W1.heap.size W1 wr) (fun _ v10 _ => 4 - (intOf v10).toNat)
  case atStart => exact ⟨0, by omega, rfl, hidE (Kd.R_nil _ _ _ _ _), Below.refl _ _⟩
  case round =>
    obtain ⟨i, hi, e10, HR, hb⟩ := hrel
    have k := Fr.of_below hb (Nat.le_refl _) (fun _ => False)
    have bB := BB.out.fr k (fun h => h)
    have lt := bB.lt
    have hsz := hb.size
    have K := hidE k
    have p0 : wr.cell? ⟨w.heap.size, 0, none⟩ = some (.int .i64 8) := bB.cell 0
    have p1 : wr.cell? ⟨w.heap.size, 1, none⟩ = some (.int .i64 12) := bB.cell 1
    have p2 : wr.cell? ⟨w.heap.size, 2, none⟩ = some (.int .i64 11) := bB.cell 2
    have p3 : wr.cell? ⟨w.heap.size, 3, none⟩ = some (.int .i64 13) := bB.cell 3
    have p4 : wr.cell? ⟨w.heap.size, 4, none⟩ = some (.int .i64 10) := bB.cell 4
    have p5 : wr.cell? ⟨w.heap.size, 5, none⟩ = some (.int .i64 12) := bB.cell 5
    have p6 : wr.cell? ⟨w.heap.size, 6, none⟩ = some (.int .i64 90) := bB.cell 6
    have p7 : wr.cell? ⟨w.heap.size, 7, none⟩ = some (.int .i64 99) := bB.cell 7
    clear bB k hb
    rcases (show i = 0 ∨ i = 1 ∨ i = 2 ∨ i = 3 ∨ i = 4 by omega) with rfl | rfl | rfl | rfl | rfl
    · obtain rfl : u10 = .int .i64 0 := e10
      clear hi
      go_wp2_with (at_builtin; refine Kd.R_append k27 (w0 := W1) W1.heap.size rfl _ _ 22 27 (.agg #[.int .i64 0, .int .i64 0, .int .i64 0, .int .i64 0, .int .i64 0]) 40 rfl Tryz.underlying22 info27 rfl (by decide) (by omega) _ (fourL.take 0) (⟨0, ⟨3, 8, 12⟩, 0⟩ : S27) [.int .i64 0, .int .i64 3, .int .i64 8, .int .i64 12, .int .i64 0] (fun _ => True) (fun _ => False) rfl ?aX (k27_mkM _ _ _ _) (fun _ hk => hk.elim) (fun _ _ => trivial) ?aO ?aB ?aS ?aL ?_; (case aX => first | (go_simp; done) | (simp [Act.eval, World.alloc]; done)); (case aO => exact R_fr1 HR.out (by (repeat' (first | (with_reducible exact Fr.refl _ _) | (with_reducible assumption) | (with_reducible refine Fr.alloc ?_ _) | (with_reducible refine Fr.drew ?_) | (with_reducible refine Fr.drewN ?_ _) | (with_reducible refine Fr.setCell ?_ _ _ ?_) | (exact Or.inr rfl) | (left; simp; done) | (left; simp; omega) | (simp; done) | (simp; omega) | omega)))); (case aB => exact (K.out.trans (T := fun _ => False) (by (repeat' (first | (with_reducible exact Fr.refl _ _) | (with_reducible assumption) | (with_reducible refine Fr.alloc ?_ _) | (with_reducible refine Fr.drew ?_) | (with_reducible refine Fr.drewN ?_ _) | (with_reducible refine Fr.setCell ?_ _ _ ?_) | (exact Or.inr rfl) | (left; simp; done) | (left; simp; omega) | (simp; done) | (simp; omega) | omega))) (fun _ _ h => h)).below); (case aS => simp; omega); (case aL => decide))
      intro v2 w2 r2 b2 _ _
      have R2 := hidE r2
      clear r2 p0 p1 p2 p3 p4 p5 p6 p7 HR K
      go_wp2_with fail
      go_roundw
      case rel => exact ⟨1, by omega, rfl, R2, b2⟩
      case measure => simp [intOf]
    · obtain rfl : u10 = .int .i64 1 := e10
      clear hi
      go_wp2_with (at_builtin; refine Kd.R_append k27 (w0 := W1) W1.heap.size rfl _ _ 22 27 (.agg #[.int .i64 0, .int .i64 0, .int .i64 0, .int .i64 0, .int .i64 0]) 40 rfl Tryz.underlying22 info27 rfl (by decide) (by omega) _ (fourL.take 1) (⟨1, ⟨3, 11, 13⟩, 0⟩ : S27) [.int .i64 1, .int .i64 3, .int .i64 11, .int .i64 13, .int .i64 0] (fun _ => True) (fun _ => False) rfl ?aX (k27_mkM _ _ _ _) (fun _ hk => hk.elim) (fun _ _ => trivial) ?aO ?aB ?aS ?aL ?_; (case aX => first | (go_simp; done) | (simp [Act.eval, World.alloc]; done)); (case aO => exact R_fr1 HR.out (by (repeat' (first | (with_reducible exact Fr.refl _ _) | (with_reducible assumption) | (with_reducible refine Fr.alloc ?_ _) | (with_reducible refine Fr.drew ?_) | (with_reducible refine Fr.drewN ?_ _) | (with_reducible refine Fr.setCell ?_ _ _ ?_) | (exact Or.inr rfl) | (left; simp; done) | (left; simp; omega) | (simp; done) | (simp; omega) | omega)))); (case aB => exact (K.out.trans (T := fun _ => False) (by (repeat' (first | (with_reducible exact Fr.refl _ _) | (with_reducible assumption) | (with_reducible refine Fr.alloc ?_ _) | (with_reducible refine Fr.drew ?_) | (with_reducible refine Fr.drewN ?_ _) | (with_reducible refine Fr.setCell ?_ _ _ ?_) | (exact Or.inr rfl) | (left; simp; done) | (left; simp; omega) | (simp; done) | (simp; omega) | omega))) (fun _ _ h => h)).below); (case aS => simp; omega); (case aL => decide))
      intro v2 w2 r2 b2 _ _
      have R2 := hidE r2
      clear r2 p0 p1 p2 p3 p4 p5 p6 p7 HR K
      go_wp2_with fail
      go_roundw
      case rel => exact ⟨2, by omega, rfl, R2, b2⟩
      case measure => simp [intOf]
    · obtain rfl : u10 = .int .i64 2 := e10
      clear hi
      go_wp2_with (at_builtin; refine Kd.R_append k27 (w0 := W1) W1.heap.size rfl _ _ 22 27 (.agg #[.int .i64 0, .int .i64 0, .int .i64 0, .int .i64 0, .int .i64 0]) 40 rfl Tryz.underlying22 info27 rfl (by decide) (by omega) _ (fourL.take 2) (⟨2, ⟨3, 10, 12⟩, 0⟩ : S27) [.int .i64 2, .int .i64 3, .int .i64 10, .int .i64 12, .int .i64 0] (fun _ => True) (fun _ => False) rfl ?aX (k27_mkM _ _ _ _) (fun _ hk => hk.elim) (fun _ _ => trivial) ?aO ?aB ?aS ?aL ?_; (case aX => first | (go_simp; done) | (simp [Act.eval, World.alloc]; done)); (case aO => exact R_fr1 HR.out (by (repeat' (first | (with_reducible exact Fr.refl _ _) | (with_reducible assumption) | (with_reducible refine Fr.alloc ?_ _) | (with_reducible refine Fr.drew ?_) | (with_reducible refine Fr.drewN ?_ _) | (with_reducible refine Fr.setCell ?_ _ _ ?_) | (exact Or.inr rfl) | (left; simp; done) | (left; simp; omega) | (simp; done) | (simp; omega) | omega)))); (case aB => exact (K.out.trans (T := fun _ => False) (by (repeat' (first | (with_reducible exact Fr.refl _ _) | (with_reducible assumption) | (with_reducible refine Fr.alloc ?_ _) | (with_reducible refine Fr.drew ?_) | (with_reducible refine Fr.drewN ?_ _) | (with_reducible refine Fr.setCell ?_ _ _ ?_) | (exact Or.inr rfl) | (left; simp; done) | (left; simp; omega) | (simp; done) | (simp; omega) | omega))) (fun _ _ h => h)).below); (case aS => simp; omega); (case aL => decide))
      intro v2 w2 r2 b2 _ _
      have R2 := hidE r2
      clear r2 p0 p1 p2 p3 p4 p5 p6 p7 HR K
      go_wp2_with fail
      go_roundw
      case rel => exact ⟨3, by omega, rfl, R2, b2⟩
      case measure => simp [intOf]
    · obtain rfl : u10 = .int .i64 3 := e10
      clear hi
      go_wp2_with (at_builtin; refine Kd.R_append k27 (w0 := W1) W1.heap.size rfl _ _ 22 27 (.agg #[.int .i64 0, .int .i64 0, .int .i64 0, .int .i64 0, .int .i64 0]) 40 rfl Tryz.underlying22 info27 rfl (by decide) (by omega) _ (fourL.take 3) (⟨3, ⟨3, 90, 99⟩, 0⟩ : S27) [.int .i64 3, .int .i64 3, .int .i64 90, .int .i64 99, .int .i64 0] (fun _ => True) (fun _ => False) rfl ?aX (k27_mkM _ _ _ _) (fun _ hk => hk.elim) (fun _ _ => trivial) ?aO ?aB ?aS ?aL ?_; (case aX => first | (go_simp; done) | (simp [Act.eval, World.alloc]; done)); (case aO => exact R_fr1 HR.out (by (repeat' (first | (with_reducible exact Fr.refl _ _) | (with_reducible assumption) | (with_reducible refine Fr.alloc ?_ _) | (with_reducible refine Fr.drew ?_) | (with_reducible refine Fr.drewN ?_ _) | (with_reducible refine Fr.setCell ?_ _ _ ?_) | (exact Or.inr rfl) | (left; simp; done) | (left; simp; omega) | (simp; done) | (simp; omega) | omega)))); (case aB => exact (K.out.trans (T := fun _ => False) (by (repeat' (first | (with_reducible exact Fr.refl _ _) | (with_reducible assumption) | (with_reducible refine Fr.alloc ?_ _) | (with_reducible refine Fr.drew ?_) | (with_reducible refine Fr.drewN ?_ _) | (with_reducible refine Fr.setCell ?_ _ _ ?_) | (exact Or.inr rfl) | (left; simp; done) | (left; simp; omega) | (simp; done) | (simp; omega) | omega))) (fun _ _ h => h)).below); (case aS => simp; omega); (case aL => decide))
      intro v2 w2 r2 b2 _ _
      have R2 := hidE r2
      clear r2 p0 p1 p2 p3 p4 p5 p6 p7 HR K
      go_wp2_with fail
      go_roundw
      case rel => exact ⟨4, by omega, rfl, R2, b2⟩
      case measure => simp [intOf]
    · obtain rfl : u10 = .int .i64 4 := e10
      clear p0 p1 p2 p3 p4 p5 p6 p7 hi
      obtain ⟨g, cap, e, h3, h4, h5⟩ := row_R HR.out (by decide)
      obtain rfl : u1 = .slice (some ⟨g, 0, none⟩) 4 cap := e
      go_wp2
      go_ret
      exact ⟨g, cap, rfl, by omega, h4, h5, F1.out.trans K.out (fun _ _ h => h)⟩
def pairL : List S27 := [⟨1, ⟨3, 11, 13⟩, 0⟩, ⟨3, ⟨3, 90, 99⟩, 0⟩]
def dvB (a b c : Nat) : Bool := decide (0 < c) && decide (c < 18446744073709551616) && decide (a * b < 18446744073709551616)
theorem dv_of {a b c : Nat} (h : dvB a b c = true) : DivOk a b c := by
  unfold dvB at h
  simp only [Bool.and_eq_true, decide_eq_true_eq] at h
  exact divOk_0 h.1.1 h.1.2 h.2
def dlB (L : List S25) (h : S25) : Bool := L.all fun s => dvB (wideZ L).toNat 1024 (brZ s).toNat && dvB (mdZ h s - h.f1).toNat (wtZ (wideZ L) s).toNat (allZ L).toNat && dvB (dist (mdZ h s) (meanZ L h)).toNat (wtZ (wideZ L) s).toNat (allZ L).toNat
theorem dl_of {L : List S25} {h : S25} (hb : dlB L h = true) : DivL L h := by
  unfold dlB at hb
  have H := List.all_eq_true.1 hb
  refine ⟨fun s hs => ?_, fun s hs => ?_, fun s hs => ?_⟩ <;> have := H s hs <;> simp only [Bool.and_eq_true] at this
  · exact dv_of this.1.1
  · exact dv_of this.1.2
  · exact dv_of this.2
theorem chD {l x : List S27} (hp : pruneZ l (hullOf l) = (x, 0)) (hd : dlB (spansOf x) (hullOf l) = true) : ∀ y, pruneZ l (hullOf l) = (y, 0) → DivL (spansOf y) (hullOf l) := by
  intro y e
  rw [hp] at e
  have : x = y := congrArg Prod.fst e
  exact this ▸ dl_of hd
theorem chE {l x : List S27} {c : Int} (hp : pruneZ l (hullOf l) = (x, c)) (hc : c ≠ 0) : ∀ y, pruneZ l (hullOf l) = (y, 0) → DivL (spansOf y) (hullOf l) := by
  intro y e
  rw [hp] at e
  exact absurd (congrArg Prod.snd e) hc
theorem who_ofZ {l : List S27} (h : l.all (fun c => (Lit.int .i64 c.f0).wf) = true) : WhoWf l := by
  intro c hc; exact List.all_eq_true.1 h c hc
theorem ch_on {w : World} {A : Option Addr} {cap n : Nat} {l : List S27} {a lo hi m j e : Int} {who : List Int} (hC : Kd.C k27 w A n l) (hn : n = l.length) (hc : n ≤ cap) (hw : l.all (fun c => (Lit.int .i64 c.f0).wf) = true) (hz : chZ l = ⟨a, lo, hi, m, j, who, e⟩) (hD : ∀ x, pruneZ l (hullOf l) = (x, 0) → DivL (spansOf x) (hullOf l)) :
    Calls Tryz.prog 9 #[.slice A n cap] w fun x w' => ∃ v, x = .returned (.tuple #[.agg #[.int .i64 a, .int .i64 lo, .int .i64 hi, .int .i64 m, .int .i64 j, v], .int .i64 e]) ∧ OwI w.heap.size w' v who ∧ Fr (fun _ => False) w w' := by
  subst hn
  have h := choose_at (w := w) hC hc (who_ofZ hw) hD
  rw [hz] at h
  exact h
theorem OwI.sl {base : Nat} {w : World} {v : Value} {l : List Int} (h : OwI base w v l) : ∃ A c, v = .slice A l.length c ∧ l.length ≤ c ∧ Kd.C (Kd.int .i64) w A l.length l := by
  obtain ⟨h1, h2⟩ := h
  have hsz : (Kd.int .i64 : Kd Int).sz = 1 := rfl
  rcases h2 with ⟨rfl, e⟩ | ⟨g, cap, cur, rfl, hg, hb, hc, hm, hs, ht⟩
  · obtain rfl : l = [] := List.eq_nil_of_length_eq_zero e
    exact ⟨none, 0, rfl, Nat.le_refl _, ⟨rfl, by simp, fun h => absurd h (by simp)⟩⟩
  · refine ⟨_, cap, rfl, hc, ⟨rfl, by unfold maxLen at hm; omega, fun _ => ⟨_, rfl, fun j p hj => ⟨[.int .i64 p], rfl, rfl, fun q u hq => ?_⟩⟩⟩⟩
    have hjl := (List.getElem?_eq_some_iff.1 hj).1
    have hq0 : q = 0 := by have := (List.getElem?_eq_some_iff.1 hq).1; simpa using this
    subst hq0
    rw [add_none]
    refine ((show Blk w g cur 3 from hb).cell _).trans ?_
    have e1 : (l.map (Value.int .i64))[j]? = some (.int .i64 p) := by simp [hj]
    rw [← ht, List.getElem?_take_of_lt (by omega)] at e1
    rw [hsz]
    have e2 : Value.int .i64 p = u := by simpa using hq
    rw [← e2]
    simpa using e1
theorem z1 : chZ (fourL.take 3) = ⟨3, 10, 12, 10, 2, [0, 1, 2], 0⟩ := by kernel_rfl
theorem z2 : chZ fourL = ⟨3, 11, 12, 11, 1, [0, 1, 2], 0⟩ := by kernel_rfl
theorem z3 : chZ pairL = ⟨0, 0, 0, 0, 0, [], 33⟩ := by kernel_rfl
theorem d1 : ∀ x, pruneZ (fourL.take 3) (hullOf (fourL.take 3)) = (x, 0) → DivL (spansOf x) (hullOf (fourL.take 3)) := chD (x := fourL.take 3) (by kernel_rfl) (by kernel_rfl)
theorem d2 : ∀ x, pruneZ fourL (hullOf fourL) = (x, 0) → DivL (spansOf x) (hullOf fourL) := chD (x := fourL.take 3) (by kernel_rfl) (by kernel_rfl)
theorem d3 : ∀ x, pruneZ pairL (hullOf pairL) = (x, 0) → DivL (spansOf x) (hullOf pairL) := chE (x := []) (c := 33) (by kernel_rfl) (by decide)
def badL : List S27 := [⟨0, ⟨3, 8, 12⟩, 0⟩, ⟨1, ⟨4, 11, 13⟩, 0⟩, ⟨2, ⟨3, 10, 12⟩, 0⟩, ⟨3, ⟨3, 90, 99⟩, 0⟩]
theorem z4 : chZ badL = ⟨0, 0, 0, 0, 0, [], 1⟩ := by kernel_rfl
theorem z5 : chZ [] = ⟨0, 0, 0, 0, 0, [], 33⟩ := by kernel_rfl
theorem z6 : chZ (fourL.drop 3) = ⟨3, 90, 99, 94, 0, [3], 0⟩ := by kernel_rfl
theorem z7 : chZ (fourL ++ [⟨0, ⟨3, 8, 12⟩, 0⟩]) = ⟨0, 0, 0, 0, 0, [], 1⟩ := by kernel_rfl
theorem d4 : ∀ x, pruneZ badL (hullOf badL) = (x, 0) → DivL (spansOf x) (hullOf badL) := chE (x := []) (c := 1) (by kernel_rfl) (by decide)
theorem d5 : ∀ x, pruneZ [] (hullOf []) = (x, 0) → DivL (spansOf x) (hullOf []) := chE (x := []) (c := 33) (by kernel_rfl) (by decide)
theorem d6 : ∀ x, pruneZ (fourL.drop 3) (hullOf (fourL.drop 3)) = (x, 0) → DivL (spansOf x) (hullOf (fourL.drop 3)) := chD (x := fourL.drop 3) (by kernel_rfl) (by kernel_rfl)
theorem d7 : ∀ x, pruneZ (fourL ++ [⟨0, ⟨3, 8, 12⟩, 0⟩]) (hullOf (fourL ++ [⟨0, ⟨3, 8, 12⟩, 0⟩])) = (x, 0) → DivL (spansOf x) (hullOf (fourL ++ [⟨0, ⟨3, 8, 12⟩, 0⟩])) := chE (x := []) (c := 1) (by kernel_rfl) (by decide)
end Go.Proofs.YtapagoaoglmegaaGreat
namespace Go.Proofs.YtapagoaoglmegaaGreat.PCl
open Go.RowKit Go.Proofs.YtapagoaoglmegaaGreatW.PrintWords Go.Proofs.YtapagoaoglmegaaGreatW.PrintLast Go.Proofs.YtapagoaoglmegaaGreatW.PrintMore
attribute [local go_sem] max2_int min2_int max_two min_two max_three min_three max_four min_four
set_option linter.unusedVariables false
set_option linter.unusedSimpArgs false
def slices_Equal_int_int.l0 : Nat → List Int → List Int → Int → Int → Option (Bool)
 | 0, _, _, _, _ => none
 | k + 1, x0, x1, x12, x13 => if x13 < x12 then (if 0 ≤ x13 then (if x13 < (x0.length : Int) then (if x13 < (x1.length : Int) then (if (rd x0 x13) = (rd x1 x13) then (slices_Equal_int_int.l0 k x0 x1 x12 (wrap64 (x13 + 1))) else (some false)) else (none)) else (none)) else (none)) else (some true)
def slices_Equal_int_int.f (k : Nat) (l0 : List Int) (l1 : List Int) : Option (Bool) := if (l0.length : Int) = (l1.length : Int) then (slices_Equal_int_int.l0 k l0 l1 (l0.length : Int) 0) else (some false)
theorem slices_Equal_int_int.mono_l : ∀ k, (∀ y0 y1 y2 y3, LeO (slices_Equal_int_int.l0 k y0 y1 y2 y3) (slices_Equal_int_int.l0 (k + 1) y0 y1 y2 y3))
 | 0 => fun _ _ _ _ r h => by simp [slices_Equal_int_int.l0] at h
 | k + 1 => by
  have ih0 := slices_Equal_int_int.mono_l k
  ·intro y0 y1 y2 y3
   unfold slices_Equal_int_int.l0
   repeat' first
   | (with_reducible exact ih0 _ _ _ _)
   | (with_reducible exact LeO.refl _)
   | (with_reducible exact LeO.none _)
   | (with_reducible refine LeO.ite ?_ ?_)
   | (with_reducible refine LeO.bind ?_ (fun _ => ?_))
   | exact ih0 _ _ _ _
   | exact LeO.none _
   | refine LeO.ite ?_ ?_
   | refine LeO.bind ?_ (fun _ => ?_)
theorem slices_Equal_int_int.mono : ∀ a0 a1 k, LeO (slices_Equal_int_int.f k a0 a1) (slices_Equal_int_int.f (k + 1) a0 a1) := by
 intro a0 a1 k
 have ih0 := slices_Equal_int_int.mono_l k
 unfold slices_Equal_int_int.f
 repeat' first
   | (with_reducible exact ih0 _ _ _ _)
   | (with_reducible exact LeO.refl _)
   | (with_reducible exact LeO.none _)
   | (with_reducible refine LeO.ite ?_ ?_)
   | (with_reducible refine LeO.bind ?_ (fun _ => ?_))
   | exact ih0 _ _ _ _
   | exact LeO.none _
   | refine LeO.ite ?_ ?_
   | refine LeO.bind ?_ (fun _ => ?_)
set_option maxHeartbeats 8000000 in
set_option maxRecDepth 100000 in
theorem slices_Equal_int_int.calls (k : Nat) (A0 : Option Addr) (c0 : Nat) (l0 : List Int) (A1 : Option Addr) (c1 : Nat) (l1 : List Int) (r : Bool) (w : World) (hr0 : Kd.C (Kd.int .i64) w A0 l0.length l0) (hc0 : l0.length ≤ c0) (hr1 : Kd.C (Kd.int .i64) w A1 l1.length l1) (hc1 : l1.length ≤ c1) (h : slices_Equal_int_int.f k l0 l1 = some r) :
  Calls Tryz.prog 11 #[.slice A0 l0.length c0, .slice A1 l1.length c1] w fun e w' => e = .returned (.bool r) ∧ Drawn0 w w' := by
 have HR0 := Aside0.mk hr0
 have HC0 := Aside0.mk hc0
 clear hr0 hc0
 have HR1 := Aside0.mk hr1
 have HC1 := Aside0.mk hc1
 clear hr1 hc1
 have H : (if (l0.length : Int) = (l1.length : Int) then (slices_Equal_int_int.l0 k l0 l1 (l0.length : Int) 0) else (some false)) = some r := h
 clear h
 by_cases c3 : (l0.length : Int) = (l1.length : Int)
 ·rw [if_pos c3] at H
  have c3b0 : ((l0.length : Int) == (l1.length : Int)) = true := beq_iff_eq.mpr c3
  have c3b1 : ((l0.length : Int) != (l1.length : Int)) = false := bne_eq_false_iff_eq.mpr c3
  have c3b2 : (l0.length == l1.length) = true := by first | simpa using c3 | (simp at c3 ⊢; omega)
  clear c3
  have H' := Aside0.mk H
  clear H
  go_enter Tryz.func11, Tryz.ntmps11
  go_wp2
  repeat (go_quiet (fail); try go_wp2)
  go_loopg [13] k (fun kq v13 w' => ∃ (x13_1 : Int), v13 = .int .i64 x13_1 ∧ Aside0 (slices_Equal_int_int.l0 kq l0 l1 (l0.length : Int) x13_1 = some r) ∧ Aside0 (kq ≤ k) ∧ Drawn0 w w')
  case atStart => exact ⟨(0), (by first | rfl | (simp; done) | (simp [*]; done)), H', ⟨Nat.le_refl _⟩, by repeat (first | exact Drawn0.refl _ | apply Drawn0.step)⟩
  case round =>
   clear H'
   try clear c1
   try clear p2
   try clear c3
   try clear c3b0
   try clear c3b1
   try clear c3b2
   obtain ⟨x13_1, rfl, HA, HK1, ⟨m1, rfl⟩⟩ := hrel
   cases gk with
   | zero => exact absurd HA.out (by simp [slices_Equal_int_int.l0])
   | succ k1 =>
    have H := HA.out
    clear HA
    simp only [slices_Equal_int_int.l0] at H
    by_cases c4 : x13_1 < (l0.length : Int)
    ·rw [if_pos c4] at H
     have c4b0 : decide (x13_1 < (l0.length : Int)) = true := decide_eq_true c4
     clear c4
     by_cases c5 : 0 ≤ x13_1
     ·rw [if_pos c5] at H
      have c5b0 : decide (0 ≤ x13_1) = true := decide_eq_true c5
      clear c5
      by_cases c6 : x13_1 < (l0.length : Int)
      ·rw [if_pos c6] at H
       have c6b0 : decide (x13_1 < (l0.length : Int)) = true := decide_eq_true c6
       clear c6
       by_cases c7 : x13_1 < (l1.length : Int)
       ·rw [if_pos c7] at H
        have c7b0 : decide (x13_1 < (l1.length : Int)) = true := decide_eq_true c7
        clear c7
        by_cases c8 : (rd l0 x13_1) = (rd l1 x13_1)
        ·rw [if_pos c8] at H
         have c8b0 : ((rd l0 x13_1) == (rd l1 x13_1)) = true := beq_iff_eq.mpr c8
         have c8b1 : ((rd l0 x13_1) != (rd l1 x13_1)) = false := bne_eq_false_iff_eq.mpr c8
         clear c8
         have H' := Aside0.mk H
         clear H
         have p274 : 0 ≤ (x13_1 : Int) := of_decide_eq_true (by first | (with_reducible assumption) | assumption)
         have q274 : x13_1 < (l0.length : Int) := of_decide_eq_true (by first | (with_reducible assumption) | assumption)
         obtain ⟨ad274, e274, hx274_0⟩ := Kd.at_int HR0.out x13_1 p274 q274
         cases e274
         replace p274 := eq_true p274
         replace q274 := eq_true q274
         have p275 : 0 ≤ (x13_1 : Int) := of_decide_eq_true (by first | (with_reducible assumption) | assumption)
         have q275 : x13_1 < (l1.length : Int) := of_decide_eq_true (by first | (with_reducible assumption) | assumption)
         obtain ⟨ad275, e275, hx275_0⟩ := Kd.at_int HR1.out x13_1 p275 q275
         cases e275
         replace p275 := eq_true p275
         replace q275 := eq_true q275
         go_wp2
         repeat (go_quiet (fail); try go_wp2)
         go_roundg k1
         case measure => have := HK1.out; omega
         case rel => exact ⟨(wrap64 (x13_1 + 1)), (by first | rfl | (simp; done) | (simp [*]; done)), H', ⟨by have := HK1.out; omega⟩, by repeat (first | exact Drawn0.refl _ | apply Drawn0.step)⟩
        ·rw [if_neg c8] at H
         have c8b0 : ((rd l0 x13_1) == (rd l1 x13_1)) = false := beq_eq_false_iff_ne.mpr c8
         have c8b1 : ((rd l0 x13_1) != (rd l1 x13_1)) = true := bne_iff_ne.mpr c8
         obtain rfl := Option.some.inj H
         have p274 : 0 ≤ (x13_1 : Int) := of_decide_eq_true (by first | (with_reducible assumption) | assumption)
         have q274 : x13_1 < (l0.length : Int) := of_decide_eq_true (by first | (with_reducible assumption) | assumption)
         obtain ⟨ad274, e274, hx274_0⟩ := Kd.at_int HR0.out x13_1 p274 q274
         cases e274
         replace p274 := eq_true p274
         replace q274 := eq_true q274
         have p275 : 0 ≤ (x13_1 : Int) := of_decide_eq_true (by first | (with_reducible assumption) | assumption)
         have q275 : x13_1 < (l1.length : Int) := of_decide_eq_true (by first | (with_reducible assumption) | assumption)
         obtain ⟨ad275, e275, hx275_0⟩ := Kd.at_int HR1.out x13_1 p275 q275
         cases e275
         replace p275 := eq_true p275
         replace q275 := eq_true q275
         go_wp2
         repeat (go_quiet (fail); try go_wp2)
         go_ret
         exact ⟨by first | rfl | (simp; done) | (simp [*]; done), by repeat (first | exact Drawn0.refl _ | apply Drawn0.step)⟩
       ·rw [if_neg c7] at H
        exact absurd H (by simp)
      ·rw [if_neg c6] at H
       exact absurd H (by simp)
     ·rw [if_neg c5] at H
      exact absurd H (by simp)
    ·rw [if_neg c4] at H
     have c4b0 : decide (x13_1 < (l0.length : Int)) = false := decide_eq_false c4
     clear c4
     obtain rfl := Option.some.inj H
     go_wp2
     repeat (go_quiet (fail); try go_wp2)
     go_ret
     exact ⟨by first | rfl | (simp; done) | (simp [*]; done), by repeat (first | exact Drawn0.refl _ | apply Drawn0.step)⟩
 ·rw [if_neg c3] at H
  have c3b0 : ((l0.length : Int) == (l1.length : Int)) = false := beq_eq_false_iff_ne.mpr c3
  have c3b1 : ((l0.length : Int) != (l1.length : Int)) = true := bne_iff_ne.mpr c3
  have c3b2 : (l0.length == l1.length) = false := by first | simpa using c3 | (simp at c3 ⊢; omega)
  obtain rfl := Option.some.inj H
  go_enter Tryz.func11, Tryz.ntmps11
  go_wp2
  repeat (go_quiet (fail); try go_wp2)
  go_ret
  exact ⟨by first | rfl | (simp; done) | (simp [*]; done), by repeat (first | exact Drawn0.refl _ | apply Drawn0.step)⟩
def choose_Half.f (a0_0 : Int) (a0_1 : Int) (a0_2 : Int) (a0_3 : Int) (a0_4 : Int) (l0_5 : List Int) : Option (Int) := some (wrap64 ((wrap64 (Int.tdiv (wrap64 (a0_2 - a0_1)) 2)) + (Int.tmod (wrap64 (a0_2 - a0_1)) 2)))
set_option maxHeartbeats 8000000 in
set_option maxRecDepth 100000 in
theorem choose_Half.calls (a0_0 : Int) (a0_1 : Int) (a0_2 : Int) (a0_3 : Int) (a0_4 : Int) (A0_5 : Option Addr) (c0_5 : Nat) (l0_5 : List Int) (r : Int) (w : World) (hr0_5 : Kd.C (Kd.int .i64) w A0_5 l0_5.length l0_5) (hc0_5 : l0_5.length ≤ c0_5) (h : choose_Half.f a0_0 a0_1 a0_2 a0_3 a0_4 l0_5 = some r) :
  Calls Tryz.prog 12 #[.agg #[.int .i64 a0_0, .int .i64 a0_1, .int .i64 a0_2, .int .i64 a0_3, .int .i64 a0_4, .slice A0_5 l0_5.length c0_5]] w fun e w' => e = .returned (.int .i64 r) ∧ Below w.heap.size w w' := by
 have hu30 := Tryz.underlying30
 have HR0_5 := Aside0.mk hr0_5
 have HC0_5 := Aside0.mk hc0_5
 clear hr0_5 hc0_5
 have HB := Aside0.mk (Below.refl w.heap.size w)
 have H : (some (wrap64 ((wrap64 (Int.tdiv (wrap64 (a0_2 - a0_1)) 2)) + (Int.tmod (wrap64 (a0_2 - a0_1)) 2)))) = some r := h
 clear h
 obtain rfl := Option.some.inj H
 go_enter Tryz.func12, Tryz.ntmps12
 go_wp2_with (first | ((with_reducible refine gate_dst (N := 1) rfl ?_); refine box_event ?hg (N := 1) ?hd (cs := #[.int .i64 a0_0, .int .i64 a0_1, .int .i64 a0_2, .int .i64 a0_3, .int .i64 a0_4, .slice A0_5 l0_5.length c0_5]) (t := 30) ?hr ?_; (case hd => rfl); (case hg => rfl); (case hr => first | (go_simp; done) | (go_simp; rfl)); intro gb276 hg w2 hbox hb; have n0_ := Aside0.mk (below_step (by repeat (first | (with_reducible first | exact HB.out | apply below_alloc | apply pw_below_drewN | apply below_drew1) | exact HB.out)) hb); have n1_ := Aside0.mk (hbox); have n2_ := Aside0.mk ((by rw [hg]; exact (below_size (by repeat (first | (with_reducible first | exact HB.out | apply below_alloc | apply pw_below_drewN | apply below_drew1) | exact HB.out))) : w.heap.size ≤ gb276)); have n3_ := Aside0.mk ((by rw [hg]; exact (below_size (by repeat (first | (with_reducible first | exact HB.out | apply below_alloc | apply pw_below_drewN | apply below_drew1) | exact HB.out))) : w.heap.size ≤ gb276)); clear HB; have HB := n0_; have BK276 := n1_; have GW276 := n2_; have GE276 := n3_; clear n0_ n1_ n2_ n3_; clear hb hbox hg; have hcz3_0 : w2.cell? ⟨gb276, 0, none⟩ = some (.int .i64 a0_0) := (blk_cell BK276.out 0).trans rfl; have hcz3_1 : w2.cell? ⟨gb276, 1, none⟩ = some (.int .i64 a0_1) := (blk_cell BK276.out 1).trans rfl; have hcz3_2 : w2.cell? ⟨gb276, 2, none⟩ = some (.int .i64 a0_2) := (blk_cell BK276.out 2).trans rfl; have hcz3_3 : w2.cell? ⟨gb276, 3, none⟩ = some (.int .i64 a0_3) := (blk_cell BK276.out 3).trans rfl; have hcz3_4 : w2.cell? ⟨gb276, 4, none⟩ = some (.int .i64 a0_4) := (blk_cell BK276.out 4).trans rfl; have hcz3_5 : w2.cell? ⟨gb276, 5, none⟩ = some (.slice A0_5 l0_5.length c0_5) := (blk_cell BK276.out 5).trans rfl; have hfz3_0 := blk_frozen BK276.out 0; have hfz3_1 := blk_frozen BK276.out 1; have hfz3_2 := blk_frozen BK276.out 2; have hfz3_3 := blk_frozen BK276.out 3; have hfz3_4 := blk_frozen BK276.out 4; have hfz3_5 := blk_frozen BK276.out 5))
 go_ret
 exact ⟨by first | rfl | (simp [errW_none, errW_some] <;> rfl) | (simp [*, errW_none, errW_some] <;> rfl), by repeat (first | (with_reducible first | exact HB.out | apply below_alloc | apply pw_below_drewN | apply below_drew1 | refine below_set ?_ GE276.out) | exact HB.out)⟩
def choose_Offset.f (a0_0 : Int) (a0_1 : Int) (a0_2 : Int) (a0_3 : Int) (a0_4 : Int) (l0_5 : List Int) (a1 : Int) : Option (Int) := some (wrap64 (a0_3 - a1))
set_option maxHeartbeats 8000000 in
set_option maxRecDepth 100000 in
theorem choose_Offset.calls (a0_0 : Int) (a0_1 : Int) (a0_2 : Int) (a0_3 : Int) (a0_4 : Int) (A0_5 : Option Addr) (c0_5 : Nat) (l0_5 : List Int) (a1 : Int) (r : Int) (w : World) (hr0_5 : Kd.C (Kd.int .i64) w A0_5 l0_5.length l0_5) (hc0_5 : l0_5.length ≤ c0_5) (h : choose_Offset.f a0_0 a0_1 a0_2 a0_3 a0_4 l0_5 a1 = some r) :
  Calls Tryz.prog 13 #[.agg #[.int .i64 a0_0, .int .i64 a0_1, .int .i64 a0_2, .int .i64 a0_3, .int .i64 a0_4, .slice A0_5 l0_5.length c0_5], .int .i64 a1] w fun e w' => e = .returned (.int .i64 r) ∧ Below w.heap.size w w' := by
 have hu30 := Tryz.underlying30
 have HR0_5 := Aside0.mk hr0_5
 have HC0_5 := Aside0.mk hc0_5
 clear hr0_5 hc0_5
 have HB := Aside0.mk (Below.refl w.heap.size w)
 have H : (some (wrap64 (a0_3 - a1))) = some r := h
 clear h
 obtain rfl := Option.some.inj H
 go_enter Tryz.func13, Tryz.ntmps13
 go_wp2_with (first | ((with_reducible refine gate_dst (N := 2) rfl ?_); refine box_event ?hg (N := 2) ?hd (cs := #[.int .i64 a0_0, .int .i64 a0_1, .int .i64 a0_2, .int .i64 a0_3, .int .i64 a0_4, .slice A0_5 l0_5.length c0_5]) (t := 30) ?hr ?_; (case hd => rfl); (case hg => rfl); (case hr => first | (go_simp; done) | (go_simp; rfl)); intro gb277 hg w3 hbox hb; have n0_ := Aside0.mk (below_step (by repeat (first | (with_reducible first | exact HB.out | apply below_alloc | apply pw_below_drewN | apply below_drew1) | exact HB.out)) hb); have n1_ := Aside0.mk (hbox); have n2_ := Aside0.mk ((by rw [hg]; exact (below_size (by repeat (first | (with_reducible first | exact HB.out | apply below_alloc | apply pw_below_drewN | apply below_drew1) | exact HB.out))) : w.heap.size ≤ gb277)); have n3_ := Aside0.mk ((by rw [hg]; exact (below_size (by repeat (first | (with_reducible first | exact HB.out | apply below_alloc | apply pw_below_drewN | apply below_drew1) | exact HB.out))) : w.heap.size ≤ gb277)); clear HB; have HB := n0_; have BK277 := n1_; have GW277 := n2_; have GE277 := n3_; clear n0_ n1_ n2_ n3_; clear hb hbox hg; have hcz4_0 : w3.cell? ⟨gb277, 0, none⟩ = some (.int .i64 a0_0) := (blk_cell BK277.out 0).trans rfl; have hcz4_1 : w3.cell? ⟨gb277, 1, none⟩ = some (.int .i64 a0_1) := (blk_cell BK277.out 1).trans rfl; have hcz4_2 : w3.cell? ⟨gb277, 2, none⟩ = some (.int .i64 a0_2) := (blk_cell BK277.out 2).trans rfl; have hcz4_3 : w3.cell? ⟨gb277, 3, none⟩ = some (.int .i64 a0_3) := (blk_cell BK277.out 3).trans rfl; have hcz4_4 : w3.cell? ⟨gb277, 4, none⟩ = some (.int .i64 a0_4) := (blk_cell BK277.out 4).trans rfl; have hcz4_5 : w3.cell? ⟨gb277, 5, none⟩ = some (.slice A0_5 l0_5.length c0_5) := (blk_cell BK277.out 5).trans rfl; have hfz4_0 := blk_frozen BK277.out 0; have hfz4_1 := blk_frozen BK277.out 1; have hfz4_2 := blk_frozen BK277.out 2; have hfz4_3 := blk_frozen BK277.out 3; have hfz4_4 := blk_frozen BK277.out 4; have hfz4_5 := blk_frozen BK277.out 5))
 go_ret
 exact ⟨by first | rfl | (simp [errW_none, errW_some] <;> rfl) | (simp [*, errW_none, errW_some] <;> rfl), by repeat (first | (with_reducible first | exact HB.out | apply below_alloc | apply pw_below_drewN | apply below_drew1 | refine below_set ?_ GE277.out) | exact HB.out)⟩
end Go.Proofs.YtapagoaoglmegaaGreat.PCl
namespace Go.Proofs.YtapagoaoglmegaaGreat
open Go.RowKit Go.Proofs.YtapagoaoglmegaaGreatW.PrintWords Go.Proofs.YtapagoaoglmegaaGreatW.PrintLast Go.Proofs.YtapagoaoglmegaaGreatW.PrintMore PCl
set_option linter.unusedVariables false
set_option linter.unusedSimpArgs false
set_option maxRecDepth 100000
theorem len4 {w : World} {g c : Nat} (h : Row w g c fourL) : 4 ≤ c := h.len
theorem rowP {w : World} {g : Nat} (h : Blk w g #[.int .i64 1, .int .i64 3, .int .i64 11, .int .i64 13, .int .i64 0, .int .i64 3, .int .i64 3, .int .i64 90, .int .i64 99, .int .i64 0] 27) : Row w g 2 pairL := by
 refine ⟨_, h, rfl, by decide, fun i c hi j v hj => ?_⟩
 have hil := (List.getElem?_eq_some_iff.1 hi).1
 have hj5 : j < 5 := by have := (List.getElem?_eq_some_iff.1 hj).1; simpa [encC] using this
 have h2 : i < 2 := hil
 rcases (show i = 0 ∨ i = 1 by omega) with rfl | rfl <;> obtain rfl := Option.some.inj hi <;> rcases (show j = 0 ∨ j = 1 ∨ j = 2 ∨ j = 3 ∨ j = 4 by omega) with rfl | rfl | rfl | rfl | rfl <;> exact hj
theorem drawnK_fr {w w' : World} (h : Drawn0 w w') : Fr (fun _ => False) w w' := by
 obtain ⟨n, rfl⟩ := h.out
 exact (Fr.refl _ _).drewN n
theorem litI (W : World) (x : Int) : Kd.C (Kd.int .i64) (W.alloc (.cells #[.int .i64 x] 3)) (some ⟨W.heap.size, 0, none⟩) [x].length [x] := by
 refine ⟨rfl, by simp, fun _ => ⟨_, rfl, fun j p hj => ⟨[.int .i64 p], rfl, rfl, fun q u hq => ?_⟩⟩⟩
 have hj0 : j = 0 := by have := (List.getElem?_eq_some_iff.1 hj).1; simpa using this
 have hq0 : q = 0 := by have := (List.getElem?_eq_some_iff.1 hq).1; simpa using this
 subst hj0 hq0
 rw [add_none]
 have e1 : x = p := by simpa using hj
 have e2 : Value.int .i64 p = u := by simpa using hq
 subst e1 e2
 exact (Blk.new W #[.int .i64 x] 3).cell _
theorem litI3 (W : World) (x y z : Int) : Kd.C (Kd.int .i64) (W.alloc (.cells #[.int .i64 x, .int .i64 y, .int .i64 z] 3)) (some ⟨W.heap.size, 0, none⟩) [x, y, z].length [x, y, z] := by
 refine ⟨rfl, by simp, fun _ => ⟨_, rfl, fun j p hj => ⟨[.int .i64 p], rfl, rfl, fun q u hq => ?_⟩⟩⟩
 have hj3 : j < 3 := (List.getElem?_eq_some_iff.1 hj).1
 have hq0 : q = 0 := by have := (List.getElem?_eq_some_iff.1 hq).1; simpa using this
 subst hq0
 have e2 : Value.int .i64 p = u := by simpa using hq
 subst e2
 rw [add_none]
 refine ((Blk.new W #[.int .i64 x, .int .i64 y, .int .i64 z] 3).cell _).trans ?_
 rcases (show j = 0 ∨ j = 1 ∨ j = 2 by omega) with rfl | rfl | rfl <;> obtain rfl := Option.some.inj hj <;> rfl
set_option maxHeartbeats 4000000 in
theorem awk_at (w : World) : Calls Tryz.prog 10 #[] w fun e w' => e = .returned (.bool true) ∧ Fr (fun _ => False) w w' := by
 go_enter Tryz.func10, Tryz.ntmps10
 go_wp2_with fail
 refine four_at.mono ?_
 rintro e w1 ⟨g, cap, rfl, hg, hm, hr, k1⟩
 have l3n : 3 ≤ cap := by have := hr.len; have : fourL.length = 4 := rfl; omega
 have l3 : (3 : Int) ≤ (cap : Int) := by omega
 go_wp2_with fail
 refine (ch_on (hC := by exact ((hr.take 3).toC hm)) rfl l3n rfl z1 d1).mono ?_
 rintro e w2 ⟨v2, rfl, hv2, k2⟩
 obtain ⟨A2, c2, rfl, hc2, hC2⟩ := hv2.sl
 have F2 := k1.trans k2 (fun _ _ h => h)
 clear k1 k2 hr
 go_wp2_with fail
 generalize hW : World.alloc w2 _ = w3
 have f3 : Fr (fun _ => False) w2 w3 := by subst hW; (repeat' (first | (with_reducible exact Fr.refl _ _) | (with_reducible assumption) | (with_reducible refine Fr.alloc ?_ _) | (with_reducible refine Fr.drew ?_) | (with_reducible refine Fr.drewN ?_ _) | (with_reducible refine Fr.setCell ?_ _ _ ?_) | (exact Or.inr rfl) | (left; simp; done) | (left; simp; omega) | (simp; done) | (simp; omega) | omega))
 have b1 : Blk w3 w2.heap.size #[.int .i64 3, .int .i64 10, .int .i64 12, .int .i64 10, .int .i64 2, .slice A2 3 c2] 30 := by subst hW; (repeat' (first | (with_reducible assumption) | (with_reducible apply Blk.drew) | (with_reducible apply Blk.drewN) | (with_reducible apply Blk.set) | (with_reducible apply Blk.other) | (exact Blk.new' _ _ _ (by first | rfl | (simp; done) | (simp; omega))) | (with_reducible apply Blk.alloc) | (with_reducible rfl) | (simp; done) | (simp; omega) | omega | rfl))
 obtain ⟨B1, hB1⟩ : ∃ B, B = w2.heap.size := ⟨_, rfl⟩
 rw [← hB1] at b1 ⊢
 clear hW hB1
 have F3 := F2.trans f3 (fun _ _ h => h)
 refine four_at.mono ?_
 rintro e w4 ⟨g', cap', rfl, hg', hm', hr', k4⟩
 have F4 := F3.trans k4 (fun _ _ h => h)
 have f4 := f3.trans k4 (fun _ _ h => h)
 have l4n : 4 ≤ cap' := by have := hr'.len; have : fourL.length = 4 := rfl; omega
 replace b1 := b1.fr k4 (fun h => h)
 clear k4 F3 F2 hg hm l3n l3 hv2
 go_wp2_with fail
 refine (ch_on (hC := by exact (hr'.toC hm')) rfl l4n rfl z2 d2).mono ?_
 rintro e w5 ⟨v5, rfl, hv5, k5⟩
 obtain ⟨A5, c5, rfl, hc5, hC5⟩ := hv5.sl
 have F5 := F4.trans k5 (fun _ _ h => h)
 have f5 := f4.trans k5 (fun _ _ h => h)
 replace b1 := b1.fr k5 (fun h => h)
 clear k5 F4 f4 hg' hm' l4n hr' hv5 f3
 go_wp2_with fail
 generalize hW : World.alloc w5 _ = w6
 have f6 : Fr (fun _ => False) w5 w6 := by subst hW; (repeat' (first | (with_reducible exact Fr.refl _ _) | (with_reducible assumption) | (with_reducible refine Fr.alloc ?_ _) | (with_reducible refine Fr.drew ?_) | (with_reducible refine Fr.drewN ?_ _) | (with_reducible refine Fr.setCell ?_ _ _ ?_) | (exact Or.inr rfl) | (left; simp; done) | (left; simp; omega) | (simp; done) | (simp; omega) | omega))
 have b2 : Blk w6 w5.heap.size #[.int .i64 3, .int .i64 11, .int .i64 12, .int .i64 11, .int .i64 1, .slice A5 3 c5] 30 := by subst hW; (repeat' (first | (with_reducible assumption) | (with_reducible apply Blk.drew) | (with_reducible apply Blk.drewN) | (with_reducible apply Blk.set) | (with_reducible apply Blk.other) | (exact Blk.new' _ _ _ (by first | rfl | (simp; done) | (simp; omega))) | (with_reducible apply Blk.alloc) | (with_reducible rfl) | (simp; done) | (simp; omega) | omega | rfl))
 obtain ⟨B2, hB2⟩ : ∃ B, B = w5.heap.size := ⟨_, rfl⟩
 rw [← hB2] at b2 ⊢
 clear hW hB2
 replace b1 := b1.fr f6 (fun h => h)
 have F6 := F5.trans f6 (fun _ _ h => h)
 have G6 := f5.trans f6 (fun _ _ h => h)
 have HC2 := hidE (Kd.C_below hC2 G6.below)
 have HC5 := hidE (Kd.C_below hC5 f6.below)
 have HB1 := hidE b1
 have HB2 := hidE b2
 have HF := hidE F6
 clear b1 b2 F6 F5 f5 f6 G6 hC2 hC5
 have msd : Fr (fun _ => False) w6 w6.drew ∧ True := ⟨Fr.drew (Fr.refl _ _), trivial⟩
 refine start_ (n := 14) (S := fun w' => Fr (fun _ => False) w6 w' ∧ True) (ds := [12]) #[oN,oN,oN,oN,oN,oN,oN,oN,oN,oN,oN,oN,oN,oN] (by kernel_rfl) rfl rfl ⟨msd.1, msd.2⟩ (fun hHeld => ?_)
 refine join_ (σ := Nat × Nat × Nat × Nat × Nat × Option Addr × Nat × Nat) 2 #[oY,oY,oY,oY,oY,oY,oY,oY,oY,oY,oY,oY,oN,oN] (fun s => [(19, .slice (some ⟨s.1, 0, none⟩) 4 s.2.1), (20, .pointer (some ⟨s.1, 5, none⟩)), (21, .agg #[.int .i64 1, .int .i64 3, .int .i64 11, .int .i64 13, .int .i64 0]), (22, .slice (some ⟨s.2.2.1, 0, none⟩) 4 s.2.2.2.1), (23, .pointer (some ⟨s.2.2.1, 15, none⟩)), (24, .agg #[.int .i64 3, .int .i64 3, .int .i64 90, .int .i64 99, .int .i64 0]), (25, .slice (some ⟨s.2.2.2.2.1, 0, none⟩) 2 2), (26, .tuple #[.agg #[.int .i64 0, .int .i64 0, .int .i64 0, .int .i64 0, .int .i64 0, .slice s.2.2.2.2.2.1 0 s.2.2.2.2.2.2.1], .int .i64 33]), (18, .tuple #[.agg #[.int .i64 0, .int .i64 0, .int .i64 0, .int .i64 0, .int .i64 0, .slice s.2.2.2.2.2.1 0 s.2.2.2.2.2.2.1], .int .i64 33]), (27, .agg #[.int .i64 0, .int .i64 0, .int .i64 0, .int .i64 0, .int .i64 0, .slice s.2.2.2.2.2.1 0 s.2.2.2.2.2.2.1]), (28, .int .i64 33), (5, .pointer (some ⟨s.2.2.2.2.2.2.2, 0, none⟩))]) (fun s w' => (Fr (fun _ => False) w6 w' ∧ True) ∧ (Row w' s.1 s.2.1 fourL ∧ 4 ≤ s.2.1) ∧ (Row w' s.2.2.1 s.2.2.2.1 fourL ∧ 4 ≤ s.2.2.2.1) ∧ Row w' s.2.2.2.2.1 2 pairL ∧ (Blk w' s.2.2.2.2.2.2.2 #[.int .i64 0, .int .i64 0, .int .i64 0, .int .i64 0, .int .i64 0, .slice none 0 0] 30 ∧ w6.heap.size ≤ s.2.2.2.2.2.2.2) ∧ True) ?_ ?_
 rotate_left
 ·intro hJ0_2_3_5_6_7_11
  refine join_ (σ := Nat × Nat × Nat × Nat × Nat × Option Addr × Nat × Nat) 3 #[oY,oY,oY,oY,oY,oY,oY,oY,oY,oY,oY,oN,oN,oN] (fun s => [(19, .slice (some ⟨s.1, 0, none⟩) 4 s.2.1), (20, .pointer (some ⟨s.1, 5, none⟩)), (21, .agg #[.int .i64 1, .int .i64 3, .int .i64 11, .int .i64 13, .int .i64 0]), (22, .slice (some ⟨s.2.2.1, 0, none⟩) 4 s.2.2.2.1), (23, .pointer (some ⟨s.2.2.1, 15, none⟩)), (24, .agg #[.int .i64 3, .int .i64 3, .int .i64 90, .int .i64 99, .int .i64 0]), (25, .slice (some ⟨s.2.2.2.2.1, 0, none⟩) 2 2), (26, .tuple #[.agg #[.int .i64 0, .int .i64 0, .int .i64 0, .int .i64 0, .int .i64 0, .slice s.2.2.2.2.2.1 0 s.2.2.2.2.2.2.1], .int .i64 33]), (18, .tuple #[.agg #[.int .i64 0, .int .i64 0, .int .i64 0, .int .i64 0, .int .i64 0, .slice s.2.2.2.2.2.1 0 s.2.2.2.2.2.2.1], .int .i64 33]), (27, .agg #[.int .i64 0, .int .i64 0, .int .i64 0, .int .i64 0, .int .i64 0, .slice s.2.2.2.2.2.1 0 s.2.2.2.2.2.2.1]), (28, .int .i64 33)]) (fun s w' => (Fr (fun _ => False) w6 w' ∧ True) ∧ (Row w' s.1 s.2.1 fourL ∧ 4 ≤ s.2.1) ∧ (Row w' s.2.2.1 s.2.2.2.1 fourL ∧ 4 ≤ s.2.2.2.1) ∧ Row w' s.2.2.2.2.1 2 pairL ∧ True) ?_ ?_
  rotate_left
  ·intro hJ0_2_3_5_6_7
   refine join_ (σ := Nat × Nat × Nat × Nat × Nat × Option Addr × Nat × Nat) 6 #[oY,oY,oY,oY,oY,oY,oY,oN,oN,oN,oN,oY,oN,oN] (fun s => [(19, .slice (some ⟨s.1, 0, none⟩) 4 s.2.1), (20, .pointer (some ⟨s.1, 5, none⟩)), (21, .agg #[.int .i64 1, .int .i64 3, .int .i64 11, .int .i64 13, .int .i64 0]), (22, .slice (some ⟨s.2.2.1, 0, none⟩) 4 s.2.2.2.1), (23, .pointer (some ⟨s.2.2.1, 15, none⟩)), (24, .agg #[.int .i64 3, .int .i64 3, .int .i64 90, .int .i64 99, .int .i64 0]), (25, .slice (some ⟨s.2.2.2.2.1, 0, none⟩) 2 2), (5, .pointer (some ⟨s.2.2.2.2.2.2.2, 0, none⟩))]) (fun s w' => (Fr (fun _ => False) w6 w' ∧ True) ∧ (Row w' s.1 s.2.1 fourL ∧ 4 ≤ s.2.1) ∧ (Row w' s.2.2.1 s.2.2.2.1 fourL ∧ 4 ≤ s.2.2.2.1) ∧ Row w' s.2.2.2.2.1 2 pairL ∧ (Blk w' s.2.2.2.2.2.2.2 #[.int .i64 0, .int .i64 0, .int .i64 0, .int .i64 0, .int .i64 0, .slice none 0 0] 30 ∧ w6.heap.size ≤ s.2.2.2.2.2.2.2) ∧ True) ?_ ?_
   rotate_left
   ·intro hJ0_2_3_5_6_11
    refine join_ (σ := Nat × Nat × Nat × Nat × Nat × Option Addr × Nat × Nat) 7 #[oY,oY,oY,oY,oY,oY,oY,oN,oN,oN,oN,oN,oN,oN] (fun s => [(19, .slice (some ⟨s.1, 0, none⟩) 4 s.2.1), (20, .pointer (some ⟨s.1, 5, none⟩)), (21, .agg #[.int .i64 1, .int .i64 3, .int .i64 11, .int .i64 13, .int .i64 0]), (22, .slice (some ⟨s.2.2.1, 0, none⟩) 4 s.2.2.2.1), (23, .pointer (some ⟨s.2.2.1, 15, none⟩)), (24, .agg #[.int .i64 3, .int .i64 3, .int .i64 90, .int .i64 99, .int .i64 0]), (25, .slice (some ⟨s.2.2.2.2.1, 0, none⟩) 2 2)]) (fun s w' => (Fr (fun _ => False) w6 w' ∧ True) ∧ (Row w' s.1 s.2.1 fourL ∧ 4 ≤ s.2.1) ∧ (Row w' s.2.2.1 s.2.2.2.1 fourL ∧ 4 ≤ s.2.2.2.1) ∧ Row w' s.2.2.2.2.1 2 pairL ∧ True) ?_ ?_
    rotate_left
    ·intro hJ0_2_3_5_6
     refine join_ (σ := Nat × Nat × Nat × Nat × Nat × Option Addr × Nat × Nat) 7 #[oY,oY,oY,oY,oY,oY,oN,oN,oN,oN,oN,oY,oN,oN] (fun s => [(19, .slice (some ⟨s.1, 0, none⟩) 4 s.2.1), (20, .pointer (some ⟨s.1, 5, none⟩)), (21, .agg #[.int .i64 1, .int .i64 3, .int .i64 11, .int .i64 13, .int .i64 0]), (22, .slice (some ⟨s.2.2.1, 0, none⟩) 4 s.2.2.2.1), (23, .pointer (some ⟨s.2.2.1, 15, none⟩)), (24, .agg #[.int .i64 3, .int .i64 3, .int .i64 90, .int .i64 99, .int .i64 0]), (5, .pointer (some ⟨s.2.2.2.2.2.2.2, 0, none⟩))]) (fun s w' => (Fr (fun _ => False) w6 w' ∧ True) ∧ (Row w' s.1 s.2.1 fourL ∧ 4 ≤ s.2.1) ∧ (Row w' s.2.2.1 s.2.2.2.1 fourL ∧ 4 ≤ s.2.2.2.1) ∧ (Blk w' s.2.2.2.2.2.2.2 #[.int .i64 0, .int .i64 0, .int .i64 0, .int .i64 0, .int .i64 0, .slice none 0 0] 30 ∧ w6.heap.size ≤ s.2.2.2.2.2.2.2) ∧ True) ?_ ?_
     rotate_left
     ·intro hJ0_2_3_5_11
      refine join_ (σ := Nat × Nat × Nat × Nat × Nat × Option Addr × Nat × Nat) 8 #[oY,oY,oY,oY,oY,oY,oN,oN,oN,oN,oN,oN,oN,oN] (fun s => [(19, .slice (some ⟨s.1, 0, none⟩) 4 s.2.1), (20, .pointer (some ⟨s.1, 5, none⟩)), (21, .agg #[.int .i64 1, .int .i64 3, .int .i64 11, .int .i64 13, .int .i64 0]), (22, .slice (some ⟨s.2.2.1, 0, none⟩) 4 s.2.2.2.1), (23, .pointer (some ⟨s.2.2.1, 15, none⟩)), (24, .agg #[.int .i64 3, .int .i64 3, .int .i64 90, .int .i64 99, .int .i64 0])]) (fun s w' => (Fr (fun _ => False) w6 w' ∧ True) ∧ (Row w' s.1 s.2.1 fourL ∧ 4 ≤ s.2.1) ∧ (Row w' s.2.2.1 s.2.2.2.1 fourL ∧ 4 ≤ s.2.2.2.1) ∧ True) ?_ ?_
      rotate_left
      ·intro hJ0_2_3_5
       refine join_ (σ := Nat × Nat × Nat × Nat × Nat × Option Addr × Nat × Nat) 8 #[oY,oY,oY,oY,oY,oN,oN,oN,oN,oN,oN,oY,oN,oN] (fun s => [(19, .slice (some ⟨s.1, 0, none⟩) 4 s.2.1), (20, .pointer (some ⟨s.1, 5, none⟩)), (21, .agg #[.int .i64 1, .int .i64 3, .int .i64 11, .int .i64 13, .int .i64 0]), (22, .slice (some ⟨s.2.2.1, 0, none⟩) 4 s.2.2.2.1), (23, .pointer (some ⟨s.2.2.1, 15, none⟩)), (5, .pointer (some ⟨s.2.2.2.2.2.2.2, 0, none⟩))]) (fun s w' => (Fr (fun _ => False) w6 w' ∧ True) ∧ (Row w' s.1 s.2.1 fourL ∧ 4 ≤ s.2.1) ∧ (Row w' s.2.2.1 s.2.2.2.1 fourL ∧ 4 ≤ s.2.2.2.1) ∧ (Blk w' s.2.2.2.2.2.2.2 #[.int .i64 0, .int .i64 0, .int .i64 0, .int .i64 0, .int .i64 0, .slice none 0 0] 30 ∧ w6.heap.size ≤ s.2.2.2.2.2.2.2) ∧ True) ?_ ?_
       rotate_left
       ·intro hJ0_2_3_11
        refine join_ (σ := Nat × Nat × Nat × Nat × Nat × Option Addr × Nat × Nat) 8 #[oY,oY,oN,oY,oY,oY,oN,oN,oN,oN,oN,oY,oN,oN] (fun s => [(19, .slice (some ⟨s.1, 0, none⟩) 4 s.2.1), (20, .pointer (some ⟨s.1, 5, none⟩)), (22, .slice (some ⟨s.2.2.1, 0, none⟩) 4 s.2.2.2.1), (23, .pointer (some ⟨s.2.2.1, 15, none⟩)), (24, .agg #[.int .i64 3, .int .i64 3, .int .i64 90, .int .i64 99, .int .i64 0]), (5, .pointer (some ⟨s.2.2.2.2.2.2.2, 0, none⟩))]) (fun s w' => (Fr (fun _ => False) w6 w' ∧ True) ∧ (Row w' s.1 s.2.1 fourL ∧ 4 ≤ s.2.1) ∧ (Row w' s.2.2.1 s.2.2.2.1 fourL ∧ 4 ≤ s.2.2.2.1) ∧ (Blk w' s.2.2.2.2.2.2.2 #[.int .i64 0, .int .i64 0, .int .i64 0, .int .i64 0, .int .i64 0, .slice none 0 0] 30 ∧ w6.heap.size ≤ s.2.2.2.2.2.2.2) ∧ True) ?_ ?_
        rotate_left
        ·intro hJ0_3_5_11
         refine join_ (σ := Nat × Nat × Nat × Nat × Nat × Option Addr × Nat × Nat) 9 #[oY,oY,oY,oY,oY,oN,oN,oN,oN,oN,oN,oN,oN,oN] (fun s => [(19, .slice (some ⟨s.1, 0, none⟩) 4 s.2.1), (20, .pointer (some ⟨s.1, 5, none⟩)), (21, .agg #[.int .i64 1, .int .i64 3, .int .i64 11, .int .i64 13, .int .i64 0]), (22, .slice (some ⟨s.2.2.1, 0, none⟩) 4 s.2.2.2.1), (23, .pointer (some ⟨s.2.2.1, 15, none⟩))]) (fun s w' => (Fr (fun _ => False) w6 w' ∧ True) ∧ (Row w' s.1 s.2.1 fourL ∧ 4 ≤ s.2.1) ∧ (Row w' s.2.2.1 s.2.2.2.1 fourL ∧ 4 ≤ s.2.2.2.1) ∧ True) ?_ ?_
         rotate_left
         ·intro hJ0_2_3
          refine join_ (σ := Nat × Nat × Nat × Nat × Nat × Option Addr × Nat × Nat) 10 #[oY,oY,oY,oN,oN,oN,oN,oN,oN,oN,oN,oY,oN,oN] (fun s => [(19, .slice (some ⟨s.1, 0, none⟩) 4 s.2.1), (20, .pointer (some ⟨s.1, 5, none⟩)), (21, .agg #[.int .i64 1, .int .i64 3, .int .i64 11, .int .i64 13, .int .i64 0]), (5, .pointer (some ⟨s.2.2.2.2.2.2.2, 0, none⟩))]) (fun s w' => (Fr (fun _ => False) w6 w' ∧ True) ∧ (Row w' s.1 s.2.1 fourL ∧ 4 ≤ s.2.1) ∧ (Blk w' s.2.2.2.2.2.2.2 #[.int .i64 0, .int .i64 0, .int .i64 0, .int .i64 0, .int .i64 0, .slice none 0 0] 30 ∧ w6.heap.size ≤ s.2.2.2.2.2.2.2) ∧ True) ?_ ?_
          rotate_left
          ·intro hJ0_2_11
           refine join_ (σ := Nat × Nat × Nat × Nat × Nat × Option Addr × Nat × Nat) 9 #[oY,oY,oN,oY,oY,oY,oN,oN,oN,oN,oN,oN,oN,oN] (fun s => [(19, .slice (some ⟨s.1, 0, none⟩) 4 s.2.1), (20, .pointer (some ⟨s.1, 5, none⟩)), (22, .slice (some ⟨s.2.2.1, 0, none⟩) 4 s.2.2.2.1), (23, .pointer (some ⟨s.2.2.1, 15, none⟩)), (24, .agg #[.int .i64 3, .int .i64 3, .int .i64 90, .int .i64 99, .int .i64 0])]) (fun s w' => (Fr (fun _ => False) w6 w' ∧ True) ∧ (Row w' s.1 s.2.1 fourL ∧ 4 ≤ s.2.1) ∧ (Row w' s.2.2.1 s.2.2.2.1 fourL ∧ 4 ≤ s.2.2.2.1) ∧ True) ?_ ?_
           rotate_left
           ·intro hJ0_3_5
            refine join_ (σ := Nat × Nat × Nat × Nat × Nat × Option Addr × Nat × Nat) 9 #[oY,oY,oN,oY,oY,oN,oN,oN,oN,oN,oN,oY,oN,oN] (fun s => [(19, .slice (some ⟨s.1, 0, none⟩) 4 s.2.1), (20, .pointer (some ⟨s.1, 5, none⟩)), (22, .slice (some ⟨s.2.2.1, 0, none⟩) 4 s.2.2.2.1), (23, .pointer (some ⟨s.2.2.1, 15, none⟩)), (5, .pointer (some ⟨s.2.2.2.2.2.2.2, 0, none⟩))]) (fun s w' => (Fr (fun _ => False) w6 w' ∧ True) ∧ (Row w' s.1 s.2.1 fourL ∧ 4 ≤ s.2.1) ∧ (Row w' s.2.2.1 s.2.2.2.1 fourL ∧ 4 ≤ s.2.2.2.1) ∧ (Blk w' s.2.2.2.2.2.2.2 #[.int .i64 0, .int .i64 0, .int .i64 0, .int .i64 0, .int .i64 0, .slice none 0 0] 30 ∧ w6.heap.size ≤ s.2.2.2.2.2.2.2) ∧ True) ?_ ?_
            rotate_left
            ·intro hJ0_3_11
             refine join_ (σ := Nat × Nat × Nat × Nat × Nat × Option Addr × Nat × Nat) 11 #[oY,oY,oY,oN,oN,oN,oN,oN,oN,oN,oN,oN,oN,oN] (fun s => [(19, .slice (some ⟨s.1, 0, none⟩) 4 s.2.1), (20, .pointer (some ⟨s.1, 5, none⟩)), (21, .agg #[.int .i64 1, .int .i64 3, .int .i64 11, .int .i64 13, .int .i64 0])]) (fun s w' => (Fr (fun _ => False) w6 w' ∧ True) ∧ (Row w' s.1 s.2.1 fourL ∧ 4 ≤ s.2.1) ∧ True) ?_ ?_
             rotate_left
             ·intro hJ0_2
              refine join_ (σ := Nat × Nat × Nat × Nat × Nat × Option Addr × Nat × Nat) 10 #[oY,oY,oN,oY,oY,oN,oN,oN,oN,oN,oN,oN,oN,oN] (fun s => [(19, .slice (some ⟨s.1, 0, none⟩) 4 s.2.1), (20, .pointer (some ⟨s.1, 5, none⟩)), (22, .slice (some ⟨s.2.2.1, 0, none⟩) 4 s.2.2.2.1), (23, .pointer (some ⟨s.2.2.1, 15, none⟩))]) (fun s w' => (Fr (fun _ => False) w6 w' ∧ True) ∧ (Row w' s.1 s.2.1 fourL ∧ 4 ≤ s.2.1) ∧ (Row w' s.2.2.1 s.2.2.2.1 fourL ∧ 4 ≤ s.2.2.2.1) ∧ True) ?_ ?_
              rotate_left
              ·intro hJ0_3
               refine join_ (σ := Nat × Nat × Nat × Nat × Nat × Option Addr × Nat × Nat) 11 #[oY,oY,oN,oN,oN,oN,oN,oN,oN,oN,oN,oY,oN,oN] (fun s => [(19, .slice (some ⟨s.1, 0, none⟩) 4 s.2.1), (20, .pointer (some ⟨s.1, 5, none⟩)), (5, .pointer (some ⟨s.2.2.2.2.2.2.2, 0, none⟩))]) (fun s w' => (Fr (fun _ => False) w6 w' ∧ True) ∧ (Row w' s.1 s.2.1 fourL ∧ 4 ≤ s.2.1) ∧ (Blk w' s.2.2.2.2.2.2.2 #[.int .i64 0, .int .i64 0, .int .i64 0, .int .i64 0, .int .i64 0, .slice none 0 0] 30 ∧ w6.heap.size ≤ s.2.2.2.2.2.2.2) ∧ True) ?_ ?_
               rotate_left
               ·intro hJ0_11
                refine join_ (σ := Nat × Nat × Nat × Nat × Nat × Option Addr × Nat × Nat) 12 #[oY,oY,oN,oN,oN,oN,oN,oN,oN,oN,oN,oN,oN,oN] (fun s => [(19, .slice (some ⟨s.1, 0, none⟩) 4 s.2.1), (20, .pointer (some ⟨s.1, 5, none⟩))]) (fun s w' => (Fr (fun _ => False) w6 w' ∧ True) ∧ (Row w' s.1 s.2.1 fourL ∧ 4 ≤ s.2.1) ∧ True) ?_ ?_
                rotate_left
                ·intro hJ0
                 refine join_ (σ := Nat × Nat × Nat × Nat × Nat × Option Addr × Nat × Nat) 13 #[oN,oN,oN,oN,oN,oN,oN,oN,oN,oN,oN,oY,oN,oN] (fun s => [(5, .pointer (some ⟨s.2.2.2.2.2.2.2, 0, none⟩))]) (fun s w' => (Fr (fun _ => False) w6 w' ∧ True) ∧ (Blk w' s.2.2.2.2.2.2.2 #[.int .i64 0, .int .i64 0, .int .i64 0, .int .i64 0, .int .i64 0, .slice none 0 0] 30 ∧ w6.heap.size ≤ s.2.2.2.2.2.2.2) ∧ True) ?_ ?_
                 rotate_left
                 ·intro hJ11
                  refine two_ (i := 0) (j := 11) (Ni := some 19) (Nj := some 5) #[oY,oN,oN,oN,oN,oN,oN,oN,oN,oN,oN,oN,oN,oN] #[oN,oN,oN,oN,oN,oN,oN,oN,oN,oN,oN,oY,oN,oN] rfl rfl rfl rfl (by kernel_rfl) (by decide) (by decide) (fun K hK => ?_) (fun K hK => ?_)
                  ·skip
                   refine goes_ Tryz.func8 (by kernel_rfl) rfl #[] (by rfl) rfl rfl (by simp only [List.map_toArray, List.map_nil]) ?_
                   refine four_at.mono ?_
                   rintro e w9 ⟨gn, cn, rfl, _, _, rn, k9⟩
                   have hn : 4 ≤ cn := len4 rn
                   refine ⟨_, rfl, ?_⟩
                   have hH : Fr (fun _ => False) w6 w9 ∧ True := ⟨hHeld.1.trans k9 (fun _ _ h => h), trivial⟩
                   refine hK.out _ _ ⟨hH.1, hH.2⟩ (fun hHeld => ?_)
                   clear hK K
                   refine norm_ (a' := ?_) ?_ ?_
                   rotate_left
                   ·show Act.put _ (some 19) _ = _
                    simp only [Act.put, List.setIfInBounds_toArray, List.set_cons_zero, List.set_cons_succ, i64_w, i32_w]
                    rfl
                   refine pure_ (i := 1) (N := some 20) (v := ?_) (a' := ?_) #[oY,oY,oN,oN,oN,oN,oN,oN,oN,oN,oN,oN,oN,oN] rfl rfl (by kernel_rfl) (fun _ _ _ h => h) (Or.inl ⟨by rfl, ?_⟩) ?_ ?_
                   rotate_left
                   ·intro w'
                    go_simp
                    with_reducible rfl
                   rotate_left
                   ·simp only [Act.put, List.setIfInBounds_toArray, List.set_cons_zero, List.set_cons_succ, i64_w, i32_w]
                    rfl
                   exact norm_ (by first | (simp only [putAll, Act.put, List.setIfInBounds_toArray, List.set_cons_zero, List.set_cons_succ]; done) | (simp only [putAll, Act.put, List.setIfInBounds_toArray, List.set_cons_zero, List.set_cons_succ]; rfl)) (hJ0 (gn, cn, 0, 0, 0, none, 0, 0) _ ⟨hHeld, ⟨rn, hn⟩, trivial⟩)
                  ·skip
                   refine value_ (w1 := ?_) (v := ?_) (by rfl) rfl ?_ ?_
                   rotate_left 2
                   ·go_simp
                    constructor
                    ·rfl
                    ·rfl
                   generalize hW : World.drew _ = w9
                   have k9 : Fr (fun _ => False) w6 w9 := by subst hW; (repeat' (first | (with_reducible exact Fr.refl _ _) | (with_reducible assumption) | (with_reducible refine Fr.alloc ?_ _) | (with_reducible refine Fr.drew ?_) | (with_reducible refine Fr.drewN ?_ _) | (with_reducible refine Fr.setCell ?_ _ _ ?_) | (exact Or.inr rfl) | (left; simp; done) | (left; simp; omega) | (simp; done) | (simp; omega) | omega))
                   have bn : Blk w9 w6.heap.size #[.int .i64 0, .int .i64 0, .int .i64 0, .int .i64 0, .int .i64 0, .slice none 0 0] 30 := by subst hW; (repeat' (first | (with_reducible assumption) | (with_reducible apply Blk.drew) | (with_reducible apply Blk.drewN) | (with_reducible apply Blk.set) | (with_reducible apply Blk.other) | (exact Blk.new' _ _ _ (by first | rfl | (simp; done) | (simp; omega))) | (with_reducible apply Blk.alloc) | (with_reducible rfl) | (simp; done) | (simp; omega) | omega | rfl))
                   have hbn : w6.heap.size ≤ w6.heap.size := Nat.le_refl _
                   clear hW
                   have hH : Fr (fun _ => False) w6 w9 ∧ True := ⟨k9, trivial⟩
                   refine hK.out _ _ ⟨hH.1, hH.2⟩ (fun hHeld => ?_)
                   clear hK K
                   refine norm_ (a' := ?_) ?_ ?_
                   rotate_left
                   ·show Act.put _ (some 5) _ = _
                    simp only [Act.put, List.setIfInBounds_toArray, List.set_cons_zero, List.set_cons_succ, i64_w, i32_w]
                    rfl
                   exact norm_ (by first | (simp only [putAll, Act.put, List.setIfInBounds_toArray, List.set_cons_zero, List.set_cons_succ]; done) | (simp only [putAll, Act.put, List.setIfInBounds_toArray, List.set_cons_zero, List.set_cons_succ]; rfl)) (hJ11 (0, 0, 0, 0, 0, none, 0, w6.heap.size) _ ⟨hHeld, ⟨bn, hbn⟩, trivial⟩)
                 ·skip
                  rintro ⟨g7, c7, g8, c8, b6, A9, c9, bx⟩ wd ⟨hHeld, hb, _⟩
                  simp only at hb
                  refine norm_ (a' := ?_) ?_ ?_
                  rotate_left
                  ·simp only [putAll, Act.put, List.setIfInBounds_toArray, List.set_cons_zero, List.set_cons_succ]
                   rfl
                  refine one_ (i := 0) (N := some 19) #[oY,oN,oN,oN,oN,oN,oN,oN,oN,oN,oN,oY,oN,oN] rfl rfl (by kernel_rfl) (by decide) (fun K hK => ?_)
                  refine goes_ Tryz.func8 (by kernel_rfl) rfl #[] (by rfl) rfl rfl (by simp only [List.map_toArray, List.map_nil]) ?_
                  refine four_at.mono ?_
                  rintro e w9 ⟨gn, cn, rfl, _, _, rn, k9⟩
                  have hn : 4 ≤ cn := len4 rn
                  refine ⟨_, rfl, ?_⟩
                  have hH : Fr (fun _ => False) w6 w9 ∧ True := ⟨hHeld.1.trans k9 (fun _ _ h => h), trivial⟩
                  refine hK.out _ _ ⟨hH.1, hH.2⟩ (fun hHeld => ?_)
                  clear hK K
                  refine norm_ (a' := ?_) ?_ ?_
                  rotate_left
                  ·show Act.put _ (some 19) _ = _
                   simp only [Act.put, List.setIfInBounds_toArray, List.set_cons_zero, List.set_cons_succ, i64_w, i32_w]
                   rfl
                  refine pure_ (i := 1) (N := some 20) (v := ?_) (a' := ?_) #[oY,oY,oN,oN,oN,oN,oN,oN,oN,oN,oN,oY,oN,oN] rfl rfl (by kernel_rfl) (fun _ _ _ h => h) (Or.inl ⟨by rfl, ?_⟩) ?_ ?_
                  rotate_left
                  ·intro w'
                   go_simp
                   with_reducible rfl
                  rotate_left
                  ·simp only [Act.put, List.setIfInBounds_toArray, List.set_cons_zero, List.set_cons_succ, i64_w, i32_w]
                   rfl
                  exact norm_ (by first | (simp only [putAll, Act.put, List.setIfInBounds_toArray, List.set_cons_zero, List.set_cons_succ]; done) | (simp only [putAll, Act.put, List.setIfInBounds_toArray, List.set_cons_zero, List.set_cons_succ]; rfl)) (hJ0_11 (gn, cn, 0, 0, 0, none, 0, bx) _ ⟨hHeld, ⟨rn, hn⟩, ⟨hb.1.fr k9 (fun h => h), hb.2⟩, trivial⟩)
                ·skip
                 rintro ⟨g7, c7, g8, c8, b6, A9, c9, bx⟩ wd ⟨hHeld, h7, _⟩
                 simp only at h7
                 refine norm_ (a' := ?_) ?_ ?_
                 rotate_left
                 ·simp only [putAll, Act.put, List.setIfInBounds_toArray, List.set_cons_zero, List.set_cons_succ]
                  rfl
                 refine three_ (i := 2) (j := 3) (k := 11) (Ni := some 21) (Nj := some 22) (Nk := some 5) #[oY,oY,oY,oN,oN,oN,oN,oN,oN,oN,oN,oN,oN,oN] #[oY,oY,oN,oY,oN,oN,oN,oN,oN,oN,oN,oN,oN,oN] #[oY,oY,oN,oN,oN,oN,oN,oN,oN,oN,oN,oY,oN,oN] rfl rfl rfl rfl rfl rfl (by kernel_rfl) (by decide) (by decide) (by decide) (fun K hK => ?_) (fun K hK => ?_) (fun K hK => ?_)
                 ·skip
                  obtain ⟨p0, p1, p2, p3, p4⟩ := h7.1.at5 (i := 1) rfl
                  simp at p0 p1 p2 p3 p4
                  refine value_ (w1 := ?_) (v := ?_) (by rfl) rfl ?_ ?_
                  rotate_left 2
                  ·go_simp
                   constructor
                   ·rfl
                   ·rfl
                  obtain ⟨w9, hw9⟩ : ∃ w9, w9 = wd := ⟨_, rfl⟩
                  have k9 : Fr (fun _ => False) wd w9 := by subst hw9; exact Fr.refl _ _
                  rw [← hw9]
                  have hH : Fr (fun _ => False) w6 w9 ∧ True := ⟨hHeld.1.trans k9 (fun _ _ h => h), trivial⟩
                  refine hK.out _ _ ⟨hH.1, hH.2⟩ (fun hHeld => ?_)
                  clear hK K
                  refine norm_ (a' := ?_) ?_ ?_
                  rotate_left
                  ·show Act.put _ (some 21) _ = _
                   simp only [Act.put, List.setIfInBounds_toArray, List.set_cons_zero, List.set_cons_succ, i64_w, i32_w]
                   rfl
                  exact norm_ (by first | (simp only [putAll, Act.put, List.setIfInBounds_toArray, List.set_cons_zero, List.set_cons_succ]; done) | (simp only [putAll, Act.put, List.setIfInBounds_toArray, List.set_cons_zero, List.set_cons_succ]; rfl)) (hJ0_2 (g7, c7, 0, 0, 0, none, 0, 0) _ ⟨hHeld, ⟨h7.1.fr k9 (fun h => h), h7.2⟩, trivial⟩)
                 ·skip
                  refine goes_ Tryz.func8 (by kernel_rfl) rfl #[] (by rfl) rfl rfl (by simp only [List.map_toArray, List.map_nil]) ?_
                  refine four_at.mono ?_
                  rintro e w9 ⟨gn, cn, rfl, _, _, rn, k9⟩
                  have hn : 4 ≤ cn := len4 rn
                  refine ⟨_, rfl, ?_⟩
                  have hH : Fr (fun _ => False) w6 w9 ∧ True := ⟨hHeld.1.trans k9 (fun _ _ h => h), trivial⟩
                  refine hK.out _ _ ⟨hH.1, hH.2⟩ (fun hHeld => ?_)
                  clear hK K
                  refine norm_ (a' := ?_) ?_ ?_
                  rotate_left
                  ·show Act.put _ (some 22) _ = _
                   simp only [Act.put, List.setIfInBounds_toArray, List.set_cons_zero, List.set_cons_succ, i64_w, i32_w]
                   rfl
                  refine pure_ (i := 4) (N := some 23) (v := ?_) (a' := ?_) #[oY,oY,oN,oY,oY,oN,oN,oN,oN,oN,oN,oN,oN,oN] rfl rfl (by kernel_rfl) (fun _ _ _ h => h) (Or.inl ⟨by rfl, ?_⟩) ?_ ?_
                  rotate_left
                  ·intro w'
                   go_simp
                   with_reducible rfl
                  rotate_left
                  ·simp only [Act.put, List.setIfInBounds_toArray, List.set_cons_zero, List.set_cons_succ, i64_w, i32_w]
                   rfl
                  exact norm_ (by first | (simp only [putAll, Act.put, List.setIfInBounds_toArray, List.set_cons_zero, List.set_cons_succ]; done) | (simp only [putAll, Act.put, List.setIfInBounds_toArray, List.set_cons_zero, List.set_cons_succ]; rfl)) (hJ0_3 (g7, c7, gn, cn, 0, none, 0, 0) _ ⟨hHeld, ⟨h7.1.fr k9 (fun h => h), h7.2⟩, ⟨rn, hn⟩, trivial⟩)
                 ·skip
                  refine value_ (w1 := ?_) (v := ?_) (by rfl) rfl ?_ ?_
                  rotate_left 2
                  ·go_simp
                   constructor
                   ·rfl
                   ·rfl
                  generalize hW : World.alloc _ _ = w9
                  have k9 : Fr (fun _ => False) wd w9 := by subst hW; (repeat' (first | (with_reducible exact Fr.refl _ _) | (with_reducible assumption) | (with_reducible refine Fr.alloc ?_ _) | (with_reducible refine Fr.drew ?_) | (with_reducible refine Fr.drewN ?_ _) | (with_reducible refine Fr.setCell ?_ _ _ ?_) | (exact Or.inr rfl) | (left; simp; done) | (left; simp; omega) | (simp; done) | (simp; omega) | omega))
                  have bn : Blk w9 wd.heap.size #[.int .i64 0, .int .i64 0, .int .i64 0, .int .i64 0, .int .i64 0, .slice none 0 0] 30 := by subst hW; (repeat' (first | (with_reducible assumption) | (with_reducible apply Blk.drew) | (with_reducible apply Blk.drewN) | (with_reducible apply Blk.set) | (with_reducible apply Blk.other) | (exact Blk.new' _ _ _ (by first | rfl | (simp; done) | (simp; omega))) | (with_reducible apply Blk.alloc) | (with_reducible rfl) | (simp; done) | (simp; omega) | omega | rfl))
                  have hbn : w6.heap.size ≤ wd.heap.size := hHeld.1.size
                  clear hW
                  have hH : Fr (fun _ => False) w6 w9 ∧ True := ⟨hHeld.1.trans k9 (fun _ _ h => h), trivial⟩
                  refine hK.out _ _ ⟨hH.1, hH.2⟩ (fun hHeld => ?_)
                  clear hK K
                  refine norm_ (a' := ?_) ?_ ?_
                  rotate_left
                  ·show Act.put _ (some 5) _ = _
                   simp only [Act.put, List.setIfInBounds_toArray, List.set_cons_zero, List.set_cons_succ, i64_w, i32_w]
                   rfl
                  exact norm_ (by first | (simp only [putAll, Act.put, List.setIfInBounds_toArray, List.set_cons_zero, List.set_cons_succ]; done) | (simp only [putAll, Act.put, List.setIfInBounds_toArray, List.set_cons_zero, List.set_cons_succ]; rfl)) (hJ0_11 (g7, c7, 0, 0, 0, none, 0, wd.heap.size) _ ⟨hHeld, ⟨h7.1.fr k9 (fun h => h), h7.2⟩, ⟨bn, hbn⟩, trivial⟩)
               ·skip
                rintro ⟨g7, c7, g8, c8, b6, A9, c9, bx⟩ wd ⟨hHeld, h7, hb, _⟩
                simp only at h7 hb
                refine norm_ (a' := ?_) ?_ ?_
                rotate_left
                ·simp only [putAll, Act.put, List.setIfInBounds_toArray, List.set_cons_zero, List.set_cons_succ]
                 rfl
                refine two_ (i := 2) (j := 3) (Ni := some 21) (Nj := some 22) #[oY,oY,oY,oN,oN,oN,oN,oN,oN,oN,oN,oY,oN,oN] #[oY,oY,oN,oY,oN,oN,oN,oN,oN,oN,oN,oY,oN,oN] rfl rfl rfl rfl (by kernel_rfl) (by decide) (by decide) (fun K hK => ?_) (fun K hK => ?_)
                ·skip
                 obtain ⟨p0, p1, p2, p3, p4⟩ := h7.1.at5 (i := 1) rfl
                 simp at p0 p1 p2 p3 p4
                 refine value_ (w1 := ?_) (v := ?_) (by rfl) rfl ?_ ?_
                 rotate_left 2
                 ·go_simp
                  constructor
                  ·rfl
                  ·rfl
                 obtain ⟨w9, hw9⟩ : ∃ w9, w9 = wd := ⟨_, rfl⟩
                 have k9 : Fr (fun _ => False) wd w9 := by subst hw9; exact Fr.refl _ _
                 rw [← hw9]
                 have hH : Fr (fun _ => False) w6 w9 ∧ True := ⟨hHeld.1.trans k9 (fun _ _ h => h), trivial⟩
                 refine hK.out _ _ ⟨hH.1, hH.2⟩ (fun hHeld => ?_)
                 clear hK K
                 refine norm_ (a' := ?_) ?_ ?_
                 rotate_left
                 ·show Act.put _ (some 21) _ = _
                  simp only [Act.put, List.setIfInBounds_toArray, List.set_cons_zero, List.set_cons_succ, i64_w, i32_w]
                  rfl
                 exact norm_ (by first | (simp only [putAll, Act.put, List.setIfInBounds_toArray, List.set_cons_zero, List.set_cons_succ]; done) | (simp only [putAll, Act.put, List.setIfInBounds_toArray, List.set_cons_zero, List.set_cons_succ]; rfl)) (hJ0_2_11 (g7, c7, 0, 0, 0, none, 0, bx) _ ⟨hHeld, ⟨h7.1.fr k9 (fun h => h), h7.2⟩, ⟨hb.1.fr k9 (fun h => h), hb.2⟩, trivial⟩)
                ·skip
                 refine goes_ Tryz.func8 (by kernel_rfl) rfl #[] (by rfl) rfl rfl (by simp only [List.map_toArray, List.map_nil]) ?_
                 refine four_at.mono ?_
                 rintro e w9 ⟨gn, cn, rfl, _, _, rn, k9⟩
                 have hn : 4 ≤ cn := len4 rn
                 refine ⟨_, rfl, ?_⟩
                 have hH : Fr (fun _ => False) w6 w9 ∧ True := ⟨hHeld.1.trans k9 (fun _ _ h => h), trivial⟩
                 refine hK.out _ _ ⟨hH.1, hH.2⟩ (fun hHeld => ?_)
                 clear hK K
                 refine norm_ (a' := ?_) ?_ ?_
                 rotate_left
                 ·show Act.put _ (some 22) _ = _
                  simp only [Act.put, List.setIfInBounds_toArray, List.set_cons_zero, List.set_cons_succ, i64_w, i32_w]
                  rfl
                 refine pure_ (i := 4) (N := some 23) (v := ?_) (a' := ?_) #[oY,oY,oN,oY,oY,oN,oN,oN,oN,oN,oN,oY,oN,oN] rfl rfl (by kernel_rfl) (fun _ _ _ h => h) (Or.inl ⟨by rfl, ?_⟩) ?_ ?_
                 rotate_left
                 ·intro w'
                  go_simp
                  with_reducible rfl
                 rotate_left
                 ·simp only [Act.put, List.setIfInBounds_toArray, List.set_cons_zero, List.set_cons_succ, i64_w, i32_w]
                  rfl
                 exact norm_ (by first | (simp only [putAll, Act.put, List.setIfInBounds_toArray, List.set_cons_zero, List.set_cons_succ]; done) | (simp only [putAll, Act.put, List.setIfInBounds_toArray, List.set_cons_zero, List.set_cons_succ]; rfl)) (hJ0_3_11 (g7, c7, gn, cn, 0, none, 0, bx) _ ⟨hHeld, ⟨h7.1.fr k9 (fun h => h), h7.2⟩, ⟨rn, hn⟩, ⟨hb.1.fr k9 (fun h => h), hb.2⟩, trivial⟩)
              ·skip
               rintro ⟨g7, c7, g8, c8, b6, A9, c9, bx⟩ wd ⟨hHeld, h7, h8, _⟩
               simp only at h7 h8
               refine norm_ (a' := ?_) ?_ ?_
               rotate_left
               ·simp only [putAll, Act.put, List.setIfInBounds_toArray, List.set_cons_zero, List.set_cons_succ]
                rfl
               refine three_ (i := 2) (j := 5) (k := 11) (Ni := some 21) (Nj := some 24) (Nk := some 5) #[oY,oY,oY,oY,oY,oN,oN,oN,oN,oN,oN,oN,oN,oN] #[oY,oY,oN,oY,oY,oY,oN,oN,oN,oN,oN,oN,oN,oN] #[oY,oY,oN,oY,oY,oN,oN,oN,oN,oN,oN,oY,oN,oN] rfl rfl rfl rfl rfl rfl (by kernel_rfl) (by decide) (by decide) (by decide) (fun K hK => ?_) (fun K hK => ?_) (fun K hK => ?_)
               ·skip
                obtain ⟨p0, p1, p2, p3, p4⟩ := h7.1.at5 (i := 1) rfl
                simp at p0 p1 p2 p3 p4
                refine value_ (w1 := ?_) (v := ?_) (by rfl) rfl ?_ ?_
                rotate_left 2
                ·go_simp
                 constructor
                 ·rfl
                 ·rfl
                obtain ⟨w9, hw9⟩ : ∃ w9, w9 = wd := ⟨_, rfl⟩
                have k9 : Fr (fun _ => False) wd w9 := by subst hw9; exact Fr.refl _ _
                rw [← hw9]
                have hH : Fr (fun _ => False) w6 w9 ∧ True := ⟨hHeld.1.trans k9 (fun _ _ h => h), trivial⟩
                refine hK.out _ _ ⟨hH.1, hH.2⟩ (fun hHeld => ?_)
                clear hK K
                refine norm_ (a' := ?_) ?_ ?_
                rotate_left
                ·show Act.put _ (some 21) _ = _
                 simp only [Act.put, List.setIfInBounds_toArray, List.set_cons_zero, List.set_cons_succ, i64_w, i32_w]
                 rfl
                exact norm_ (by first | (simp only [putAll, Act.put, List.setIfInBounds_toArray, List.set_cons_zero, List.set_cons_succ]; done) | (simp only [putAll, Act.put, List.setIfInBounds_toArray, List.set_cons_zero, List.set_cons_succ]; rfl)) (hJ0_2_3 (g7, c7, g8, c8, 0, none, 0, 0) _ ⟨hHeld, ⟨h7.1.fr k9 (fun h => h), h7.2⟩, ⟨h8.1.fr k9 (fun h => h), h8.2⟩, trivial⟩)
               ·skip
                obtain ⟨p0, p1, p2, p3, p4⟩ := h8.1.at5 (i := 3) rfl
                simp at p0 p1 p2 p3 p4
                refine value_ (w1 := ?_) (v := ?_) (by rfl) rfl ?_ ?_
                rotate_left 2
                ·go_simp
                 constructor
                 ·rfl
                 ·rfl
                obtain ⟨w9, hw9⟩ : ∃ w9, w9 = wd := ⟨_, rfl⟩
                have k9 : Fr (fun _ => False) wd w9 := by subst hw9; exact Fr.refl _ _
                rw [← hw9]
                have hH : Fr (fun _ => False) w6 w9 ∧ True := ⟨hHeld.1.trans k9 (fun _ _ h => h), trivial⟩
                refine hK.out _ _ ⟨hH.1, hH.2⟩ (fun hHeld => ?_)
                clear hK K
                refine norm_ (a' := ?_) ?_ ?_
                rotate_left
                ·show Act.put _ (some 24) _ = _
                 simp only [Act.put, List.setIfInBounds_toArray, List.set_cons_zero, List.set_cons_succ, i64_w, i32_w]
                 rfl
                exact norm_ (by first | (simp only [putAll, Act.put, List.setIfInBounds_toArray, List.set_cons_zero, List.set_cons_succ]; done) | (simp only [putAll, Act.put, List.setIfInBounds_toArray, List.set_cons_zero, List.set_cons_succ]; rfl)) (hJ0_3_5 (g7, c7, g8, c8, 0, none, 0, 0) _ ⟨hHeld, ⟨h7.1.fr k9 (fun h => h), h7.2⟩, ⟨h8.1.fr k9 (fun h => h), h8.2⟩, trivial⟩)
               ·skip
                refine value_ (w1 := ?_) (v := ?_) (by rfl) rfl ?_ ?_
                rotate_left 2
                ·go_simp
                 constructor
                 ·rfl
                 ·rfl
                generalize hW : World.alloc _ _ = w9
                have k9 : Fr (fun _ => False) wd w9 := by subst hW; (repeat' (first | (with_reducible exact Fr.refl _ _) | (with_reducible assumption) | (with_reducible refine Fr.alloc ?_ _) | (with_reducible refine Fr.drew ?_) | (with_reducible refine Fr.drewN ?_ _) | (with_reducible refine Fr.setCell ?_ _ _ ?_) | (exact Or.inr rfl) | (left; simp; done) | (left; simp; omega) | (simp; done) | (simp; omega) | omega))
                have bn : Blk w9 wd.heap.size #[.int .i64 0, .int .i64 0, .int .i64 0, .int .i64 0, .int .i64 0, .slice none 0 0] 30 := by subst hW; (repeat' (first | (with_reducible assumption) | (with_reducible apply Blk.drew) | (with_reducible apply Blk.drewN) | (with_reducible apply Blk.set) | (with_reducible apply Blk.other) | (exact Blk.new' _ _ _ (by first | rfl | (simp; done) | (simp; omega))) | (with_reducible apply Blk.alloc) | (with_reducible rfl) | (simp; done) | (simp; omega) | omega | rfl))
                have hbn : w6.heap.size ≤ wd.heap.size := hHeld.1.size
                clear hW
                have hH : Fr (fun _ => False) w6 w9 ∧ True := ⟨hHeld.1.trans k9 (fun _ _ h => h), trivial⟩
                refine hK.out _ _ ⟨hH.1, hH.2⟩ (fun hHeld => ?_)
                clear hK K
                refine norm_ (a' := ?_) ?_ ?_
                rotate_left
                ·show Act.put _ (some 5) _ = _
                 simp only [Act.put, List.setIfInBounds_toArray, List.set_cons_zero, List.set_cons_succ, i64_w, i32_w]
                 rfl
                exact norm_ (by first | (simp only [putAll, Act.put, List.setIfInBounds_toArray, List.set_cons_zero, List.set_cons_succ]; done) | (simp only [putAll, Act.put, List.setIfInBounds_toArray, List.set_cons_zero, List.set_cons_succ]; rfl)) (hJ0_3_11 (g7, c7, g8, c8, 0, none, 0, wd.heap.size) _ ⟨hHeld, ⟨h7.1.fr k9 (fun h => h), h7.2⟩, ⟨h8.1.fr k9 (fun h => h), h8.2⟩, ⟨bn, hbn⟩, trivial⟩)
             ·skip
              rintro ⟨g7, c7, g8, c8, b6, A9, c9, bx⟩ wd ⟨hHeld, h7, _⟩
              simp only at h7
              refine norm_ (a' := ?_) ?_ ?_
              rotate_left
              ·simp only [putAll, Act.put, List.setIfInBounds_toArray, List.set_cons_zero, List.set_cons_succ]
               rfl
              refine two_ (i := 3) (j := 11) (Ni := some 22) (Nj := some 5) #[oY,oY,oY,oY,oN,oN,oN,oN,oN,oN,oN,oN,oN,oN] #[oY,oY,oY,oN,oN,oN,oN,oN,oN,oN,oN,oY,oN,oN] rfl rfl rfl rfl (by kernel_rfl) (by decide) (by decide) (fun K hK => ?_) (fun K hK => ?_)
              ·skip
               refine goes_ Tryz.func8 (by kernel_rfl) rfl #[] (by rfl) rfl rfl (by simp only [List.map_toArray, List.map_nil]) ?_
               refine four_at.mono ?_
               rintro e w9 ⟨gn, cn, rfl, _, _, rn, k9⟩
               have hn : 4 ≤ cn := len4 rn
               refine ⟨_, rfl, ?_⟩
               have hH : Fr (fun _ => False) w6 w9 ∧ True := ⟨hHeld.1.trans k9 (fun _ _ h => h), trivial⟩
               refine hK.out _ _ ⟨hH.1, hH.2⟩ (fun hHeld => ?_)
               clear hK K
               refine norm_ (a' := ?_) ?_ ?_
               rotate_left
               ·show Act.put _ (some 22) _ = _
                simp only [Act.put, List.setIfInBounds_toArray, List.set_cons_zero, List.set_cons_succ, i64_w, i32_w]
                rfl
               refine pure_ (i := 4) (N := some 23) (v := ?_) (a' := ?_) #[oY,oY,oY,oY,oY,oN,oN,oN,oN,oN,oN,oN,oN,oN] rfl rfl (by kernel_rfl) (fun _ _ _ h => h) (Or.inl ⟨by rfl, ?_⟩) ?_ ?_
               rotate_left
               ·intro w'
                go_simp
                with_reducible rfl
               rotate_left
               ·simp only [Act.put, List.setIfInBounds_toArray, List.set_cons_zero, List.set_cons_succ, i64_w, i32_w]
                rfl
               exact norm_ (by first | (simp only [putAll, Act.put, List.setIfInBounds_toArray, List.set_cons_zero, List.set_cons_succ]; done) | (simp only [putAll, Act.put, List.setIfInBounds_toArray, List.set_cons_zero, List.set_cons_succ]; rfl)) (hJ0_2_3 (g7, c7, gn, cn, 0, none, 0, 0) _ ⟨hHeld, ⟨h7.1.fr k9 (fun h => h), h7.2⟩, ⟨rn, hn⟩, trivial⟩)
              ·skip
               refine value_ (w1 := ?_) (v := ?_) (by rfl) rfl ?_ ?_
               rotate_left 2
               ·go_simp
                constructor
                ·rfl
                ·rfl
               generalize hW : World.alloc _ _ = w9
               have k9 : Fr (fun _ => False) wd w9 := by subst hW; (repeat' (first | (with_reducible exact Fr.refl _ _) | (with_reducible assumption) | (with_reducible refine Fr.alloc ?_ _) | (with_reducible refine Fr.drew ?_) | (with_reducible refine Fr.drewN ?_ _) | (with_reducible refine Fr.setCell ?_ _ _ ?_) | (exact Or.inr rfl) | (left; simp; done) | (left; simp; omega) | (simp; done) | (simp; omega) | omega))
               have bn : Blk w9 wd.heap.size #[.int .i64 0, .int .i64 0, .int .i64 0, .int .i64 0, .int .i64 0, .slice none 0 0] 30 := by subst hW; (repeat' (first | (with_reducible assumption) | (with_reducible apply Blk.drew) | (with_reducible apply Blk.drewN) | (with_reducible apply Blk.set) | (with_reducible apply Blk.other) | (exact Blk.new' _ _ _ (by first | rfl | (simp; done) | (simp; omega))) | (with_reducible apply Blk.alloc) | (with_reducible rfl) | (simp; done) | (simp; omega) | omega | rfl))
               have hbn : w6.heap.size ≤ wd.heap.size := hHeld.1.size
               clear hW
               have hH : Fr (fun _ => False) w6 w9 ∧ True := ⟨hHeld.1.trans k9 (fun _ _ h => h), trivial⟩
               refine hK.out _ _ ⟨hH.1, hH.2⟩ (fun hHeld => ?_)
               clear hK K
               refine norm_ (a' := ?_) ?_ ?_
               rotate_left
               ·show Act.put _ (some 5) _ = _
                simp only [Act.put, List.setIfInBounds_toArray, List.set_cons_zero, List.set_cons_succ, i64_w, i32_w]
                rfl
               exact norm_ (by first | (simp only [putAll, Act.put, List.setIfInBounds_toArray, List.set_cons_zero, List.set_cons_succ]; done) | (simp only [putAll, Act.put, List.setIfInBounds_toArray, List.set_cons_zero, List.set_cons_succ]; rfl)) (hJ0_2_11 (g7, c7, 0, 0, 0, none, 0, wd.heap.size) _ ⟨hHeld, ⟨h7.1.fr k9 (fun h => h), h7.2⟩, ⟨bn, hbn⟩, trivial⟩)
            ·skip
             rintro ⟨g7, c7, g8, c8, b6, A9, c9, bx⟩ wd ⟨hHeld, h7, h8, hb, _⟩
             simp only at h7 h8 hb
             refine norm_ (a' := ?_) ?_ ?_
             rotate_left
             ·simp only [putAll, Act.put, List.setIfInBounds_toArray, List.set_cons_zero, List.set_cons_succ]
              rfl
             refine two_ (i := 2) (j := 5) (Ni := some 21) (Nj := some 24) #[oY,oY,oY,oY,oY,oN,oN,oN,oN,oN,oN,oY,oN,oN] #[oY,oY,oN,oY,oY,oY,oN,oN,oN,oN,oN,oY,oN,oN] rfl rfl rfl rfl (by kernel_rfl) (by decide) (by decide) (fun K hK => ?_) (fun K hK => ?_)
             ·skip
              obtain ⟨p0, p1, p2, p3, p4⟩ := h7.1.at5 (i := 1) rfl
              simp at p0 p1 p2 p3 p4
              refine value_ (w1 := ?_) (v := ?_) (by rfl) rfl ?_ ?_
              rotate_left 2
              ·go_simp
               constructor
               ·rfl
               ·rfl
              obtain ⟨w9, hw9⟩ : ∃ w9, w9 = wd := ⟨_, rfl⟩
              have k9 : Fr (fun _ => False) wd w9 := by subst hw9; exact Fr.refl _ _
              rw [← hw9]
              have hH : Fr (fun _ => False) w6 w9 ∧ True := ⟨hHeld.1.trans k9 (fun _ _ h => h), trivial⟩
              refine hK.out _ _ ⟨hH.1, hH.2⟩ (fun hHeld => ?_)
              clear hK K
              refine norm_ (a' := ?_) ?_ ?_
              rotate_left
              ·show Act.put _ (some 21) _ = _
               simp only [Act.put, List.setIfInBounds_toArray, List.set_cons_zero, List.set_cons_succ, i64_w, i32_w]
               rfl
              exact norm_ (by first | (simp only [putAll, Act.put, List.setIfInBounds_toArray, List.set_cons_zero, List.set_cons_succ]; done) | (simp only [putAll, Act.put, List.setIfInBounds_toArray, List.set_cons_zero, List.set_cons_succ]; rfl)) (hJ0_2_3_11 (g7, c7, g8, c8, 0, none, 0, bx) _ ⟨hHeld, ⟨h7.1.fr k9 (fun h => h), h7.2⟩, ⟨h8.1.fr k9 (fun h => h), h8.2⟩, ⟨hb.1.fr k9 (fun h => h), hb.2⟩, trivial⟩)
             ·skip
              obtain ⟨p0, p1, p2, p3, p4⟩ := h8.1.at5 (i := 3) rfl
              simp at p0 p1 p2 p3 p4
              refine value_ (w1 := ?_) (v := ?_) (by rfl) rfl ?_ ?_
              rotate_left 2
              ·go_simp
               constructor
               ·rfl
               ·rfl
              obtain ⟨w9, hw9⟩ : ∃ w9, w9 = wd := ⟨_, rfl⟩
              have k9 : Fr (fun _ => False) wd w9 := by subst hw9; exact Fr.refl _ _
              rw [← hw9]
              have hH : Fr (fun _ => False) w6 w9 ∧ True := ⟨hHeld.1.trans k9 (fun _ _ h => h), trivial⟩
              refine hK.out _ _ ⟨hH.1, hH.2⟩ (fun hHeld => ?_)
              clear hK K
              refine norm_ (a' := ?_) ?_ ?_
              rotate_left
              ·show Act.put _ (some 24) _ = _
               simp only [Act.put, List.setIfInBounds_toArray, List.set_cons_zero, List.set_cons_succ, i64_w, i32_w]
               rfl
              exact norm_ (by first | (simp only [putAll, Act.put, List.setIfInBounds_toArray, List.set_cons_zero, List.set_cons_succ]; done) | (simp only [putAll, Act.put, List.setIfInBounds_toArray, List.set_cons_zero, List.set_cons_succ]; rfl)) (hJ0_3_5_11 (g7, c7, g8, c8, 0, none, 0, bx) _ ⟨hHeld, ⟨h7.1.fr k9 (fun h => h), h7.2⟩, ⟨h8.1.fr k9 (fun h => h), h8.2⟩, ⟨hb.1.fr k9 (fun h => h), hb.2⟩, trivial⟩)
           ·skip
            rintro ⟨g7, c7, g8, c8, b6, A9, c9, bx⟩ wd ⟨hHeld, h7, h8, _⟩
            simp only at h7 h8
            refine norm_ (a' := ?_) ?_ ?_
            rotate_left
            ·simp only [putAll, Act.put, List.setIfInBounds_toArray, List.set_cons_zero, List.set_cons_succ]
             rfl
            refine two_ (i := 2) (j := 11) (Ni := some 21) (Nj := some 5) #[oY,oY,oY,oY,oY,oY,oN,oN,oN,oN,oN,oN,oN,oN] #[oY,oY,oN,oY,oY,oY,oN,oN,oN,oN,oN,oY,oN,oN] rfl rfl rfl rfl (by kernel_rfl) (by decide) (by decide) (fun K hK => ?_) (fun K hK => ?_)
            ·skip
             obtain ⟨p0, p1, p2, p3, p4⟩ := h7.1.at5 (i := 1) rfl
             simp at p0 p1 p2 p3 p4
             refine value_ (w1 := ?_) (v := ?_) (by rfl) rfl ?_ ?_
             rotate_left 2
             ·go_simp
              constructor
              ·rfl
              ·rfl
             obtain ⟨w9, hw9⟩ : ∃ w9, w9 = wd := ⟨_, rfl⟩
             have k9 : Fr (fun _ => False) wd w9 := by subst hw9; exact Fr.refl _ _
             rw [← hw9]
             have hH : Fr (fun _ => False) w6 w9 ∧ True := ⟨hHeld.1.trans k9 (fun _ _ h => h), trivial⟩
             refine hK.out _ _ ⟨hH.1, hH.2⟩ (fun hHeld => ?_)
             clear hK K
             refine norm_ (a' := ?_) ?_ ?_
             rotate_left
             ·show Act.put _ (some 21) _ = _
              simp only [Act.put, List.setIfInBounds_toArray, List.set_cons_zero, List.set_cons_succ, i64_w, i32_w]
              rfl
             exact norm_ (by first | (simp only [putAll, Act.put, List.setIfInBounds_toArray, List.set_cons_zero, List.set_cons_succ]; done) | (simp only [putAll, Act.put, List.setIfInBounds_toArray, List.set_cons_zero, List.set_cons_succ]; rfl)) (hJ0_2_3_5 (g7, c7, g8, c8, 0, none, 0, 0) _ ⟨hHeld, ⟨h7.1.fr k9 (fun h => h), h7.2⟩, ⟨h8.1.fr k9 (fun h => h), h8.2⟩, trivial⟩)
            ·skip
             refine value_ (w1 := ?_) (v := ?_) (by rfl) rfl ?_ ?_
             rotate_left 2
             ·go_simp
              constructor
              ·rfl
              ·rfl
             generalize hW : World.alloc _ _ = w9
             have k9 : Fr (fun _ => False) wd w9 := by subst hW; (repeat' (first | (with_reducible exact Fr.refl _ _) | (with_reducible assumption) | (with_reducible refine Fr.alloc ?_ _) | (with_reducible refine Fr.drew ?_) | (with_reducible refine Fr.drewN ?_ _) | (with_reducible refine Fr.setCell ?_ _ _ ?_) | (exact Or.inr rfl) | (left; simp; done) | (left; simp; omega) | (simp; done) | (simp; omega) | omega))
             have bn : Blk w9 wd.heap.size #[.int .i64 0, .int .i64 0, .int .i64 0, .int .i64 0, .int .i64 0, .slice none 0 0] 30 := by subst hW; (repeat' (first | (with_reducible assumption) | (with_reducible apply Blk.drew) | (with_reducible apply Blk.drewN) | (with_reducible apply Blk.set) | (with_reducible apply Blk.other) | (exact Blk.new' _ _ _ (by first | rfl | (simp; done) | (simp; omega))) | (with_reducible apply Blk.alloc) | (with_reducible rfl) | (simp; done) | (simp; omega) | omega | rfl))
             have hbn : w6.heap.size ≤ wd.heap.size := hHeld.1.size
             clear hW
             have hH : Fr (fun _ => False) w6 w9 ∧ True := ⟨hHeld.1.trans k9 (fun _ _ h => h), trivial⟩
             refine hK.out _ _ ⟨hH.1, hH.2⟩ (fun hHeld => ?_)
             clear hK K
             refine norm_ (a' := ?_) ?_ ?_
             rotate_left
             ·show Act.put _ (some 5) _ = _
              simp only [Act.put, List.setIfInBounds_toArray, List.set_cons_zero, List.set_cons_succ, i64_w, i32_w]
              rfl
             exact norm_ (by first | (simp only [putAll, Act.put, List.setIfInBounds_toArray, List.set_cons_zero, List.set_cons_succ]; done) | (simp only [putAll, Act.put, List.setIfInBounds_toArray, List.set_cons_zero, List.set_cons_succ]; rfl)) (hJ0_3_5_11 (g7, c7, g8, c8, 0, none, 0, wd.heap.size) _ ⟨hHeld, ⟨h7.1.fr k9 (fun h => h), h7.2⟩, ⟨h8.1.fr k9 (fun h => h), h8.2⟩, ⟨bn, hbn⟩, trivial⟩)
          ·skip
           rintro ⟨g7, c7, g8, c8, b6, A9, c9, bx⟩ wd ⟨hHeld, h7, hb, _⟩
           simp only at h7 hb
           refine norm_ (a' := ?_) ?_ ?_
           rotate_left
           ·simp only [putAll, Act.put, List.setIfInBounds_toArray, List.set_cons_zero, List.set_cons_succ]
            rfl
           refine one_ (i := 3) (N := some 22) #[oY,oY,oY,oY,oN,oN,oN,oN,oN,oN,oN,oY,oN,oN] rfl rfl (by kernel_rfl) (by decide) (fun K hK => ?_)
           refine goes_ Tryz.func8 (by kernel_rfl) rfl #[] (by rfl) rfl rfl (by simp only [List.map_toArray, List.map_nil]) ?_
           refine four_at.mono ?_
           rintro e w9 ⟨gn, cn, rfl, _, _, rn, k9⟩
           have hn : 4 ≤ cn := len4 rn
           refine ⟨_, rfl, ?_⟩
           have hH : Fr (fun _ => False) w6 w9 ∧ True := ⟨hHeld.1.trans k9 (fun _ _ h => h), trivial⟩
           refine hK.out _ _ ⟨hH.1, hH.2⟩ (fun hHeld => ?_)
           clear hK K
           refine norm_ (a' := ?_) ?_ ?_
           rotate_left
           ·show Act.put _ (some 22) _ = _
            simp only [Act.put, List.setIfInBounds_toArray, List.set_cons_zero, List.set_cons_succ, i64_w, i32_w]
            rfl
           refine pure_ (i := 4) (N := some 23) (v := ?_) (a' := ?_) #[oY,oY,oY,oY,oY,oN,oN,oN,oN,oN,oN,oY,oN,oN] rfl rfl (by kernel_rfl) (fun _ _ _ h => h) (Or.inl ⟨by rfl, ?_⟩) ?_ ?_
           rotate_left
           ·intro w'
            go_simp
            with_reducible rfl
           rotate_left
           ·simp only [Act.put, List.setIfInBounds_toArray, List.set_cons_zero, List.set_cons_succ, i64_w, i32_w]
            rfl
           exact norm_ (by first | (simp only [putAll, Act.put, List.setIfInBounds_toArray, List.set_cons_zero, List.set_cons_succ]; done) | (simp only [putAll, Act.put, List.setIfInBounds_toArray, List.set_cons_zero, List.set_cons_succ]; rfl)) (hJ0_2_3_11 (g7, c7, gn, cn, 0, none, 0, bx) _ ⟨hHeld, ⟨h7.1.fr k9 (fun h => h), h7.2⟩, ⟨rn, hn⟩, ⟨hb.1.fr k9 (fun h => h), hb.2⟩, trivial⟩)
         ·skip
          rintro ⟨g7, c7, g8, c8, b6, A9, c9, bx⟩ wd ⟨hHeld, h7, h8, _⟩
          simp only at h7 h8
          refine norm_ (a' := ?_) ?_ ?_
          rotate_left
          ·simp only [putAll, Act.put, List.setIfInBounds_toArray, List.set_cons_zero, List.set_cons_succ]
           rfl
          refine two_ (i := 5) (j := 11) (Ni := some 24) (Nj := some 5) #[oY,oY,oY,oY,oY,oY,oN,oN,oN,oN,oN,oN,oN,oN] #[oY,oY,oY,oY,oY,oN,oN,oN,oN,oN,oN,oY,oN,oN] rfl rfl rfl rfl (by kernel_rfl) (by decide) (by decide) (fun K hK => ?_) (fun K hK => ?_)
          ·skip
           obtain ⟨p0, p1, p2, p3, p4⟩ := h8.1.at5 (i := 3) rfl
           simp at p0 p1 p2 p3 p4
           refine value_ (w1 := ?_) (v := ?_) (by rfl) rfl ?_ ?_
           rotate_left 2
           ·go_simp
            constructor
            ·rfl
            ·rfl
           obtain ⟨w9, hw9⟩ : ∃ w9, w9 = wd := ⟨_, rfl⟩
           have k9 : Fr (fun _ => False) wd w9 := by subst hw9; exact Fr.refl _ _
           rw [← hw9]
           have hH : Fr (fun _ => False) w6 w9 ∧ True := ⟨hHeld.1.trans k9 (fun _ _ h => h), trivial⟩
           refine hK.out _ _ ⟨hH.1, hH.2⟩ (fun hHeld => ?_)
           clear hK K
           refine norm_ (a' := ?_) ?_ ?_
           rotate_left
           ·show Act.put _ (some 24) _ = _
            simp only [Act.put, List.setIfInBounds_toArray, List.set_cons_zero, List.set_cons_succ, i64_w, i32_w]
            rfl
           exact norm_ (by first | (simp only [putAll, Act.put, List.setIfInBounds_toArray, List.set_cons_zero, List.set_cons_succ]; done) | (simp only [putAll, Act.put, List.setIfInBounds_toArray, List.set_cons_zero, List.set_cons_succ]; rfl)) (hJ0_2_3_5 (g7, c7, g8, c8, 0, none, 0, 0) _ ⟨hHeld, ⟨h7.1.fr k9 (fun h => h), h7.2⟩, ⟨h8.1.fr k9 (fun h => h), h8.2⟩, trivial⟩)
          ·skip
           refine value_ (w1 := ?_) (v := ?_) (by rfl) rfl ?_ ?_
           rotate_left 2
           ·go_simp
            constructor
            ·rfl
            ·rfl
           generalize hW : World.alloc _ _ = w9
           have k9 : Fr (fun _ => False) wd w9 := by subst hW; (repeat' (first | (with_reducible exact Fr.refl _ _) | (with_reducible assumption) | (with_reducible refine Fr.alloc ?_ _) | (with_reducible refine Fr.drew ?_) | (with_reducible refine Fr.drewN ?_ _) | (with_reducible refine Fr.setCell ?_ _ _ ?_) | (exact Or.inr rfl) | (left; simp; done) | (left; simp; omega) | (simp; done) | (simp; omega) | omega))
           have bn : Blk w9 wd.heap.size #[.int .i64 0, .int .i64 0, .int .i64 0, .int .i64 0, .int .i64 0, .slice none 0 0] 30 := by subst hW; (repeat' (first | (with_reducible assumption) | (with_reducible apply Blk.drew) | (with_reducible apply Blk.drewN) | (with_reducible apply Blk.set) | (with_reducible apply Blk.other) | (exact Blk.new' _ _ _ (by first | rfl | (simp; done) | (simp; omega))) | (with_reducible apply Blk.alloc) | (with_reducible rfl) | (simp; done) | (simp; omega) | omega | rfl))
           have hbn : w6.heap.size ≤ wd.heap.size := hHeld.1.size
           clear hW
           have hH : Fr (fun _ => False) w6 w9 ∧ True := ⟨hHeld.1.trans k9 (fun _ _ h => h), trivial⟩
           refine hK.out _ _ ⟨hH.1, hH.2⟩ (fun hHeld => ?_)
           clear hK K
           refine norm_ (a' := ?_) ?_ ?_
           rotate_left
           ·show Act.put _ (some 5) _ = _
            simp only [Act.put, List.setIfInBounds_toArray, List.set_cons_zero, List.set_cons_succ, i64_w, i32_w]
            rfl
           exact norm_ (by first | (simp only [putAll, Act.put, List.setIfInBounds_toArray, List.set_cons_zero, List.set_cons_succ]; done) | (simp only [putAll, Act.put, List.setIfInBounds_toArray, List.set_cons_zero, List.set_cons_succ]; rfl)) (hJ0_2_3_11 (g7, c7, g8, c8, 0, none, 0, wd.heap.size) _ ⟨hHeld, ⟨h7.1.fr k9 (fun h => h), h7.2⟩, ⟨h8.1.fr k9 (fun h => h), h8.2⟩, ⟨bn, hbn⟩, trivial⟩)
        ·skip
         rintro ⟨g7, c7, g8, c8, b6, A9, c9, bx⟩ wd ⟨hHeld, h7, h8, hb, _⟩
         simp only at h7 h8 hb
         refine norm_ (a' := ?_) ?_ ?_
         rotate_left
         ·simp only [putAll, Act.put, List.setIfInBounds_toArray, List.set_cons_zero, List.set_cons_succ]
          rfl
         refine one_ (i := 2) (N := some 21) #[oY,oY,oY,oY,oY,oY,oN,oN,oN,oN,oN,oY,oN,oN] rfl rfl (by kernel_rfl) (by decide) (fun K hK => ?_)
         obtain ⟨p0, p1, p2, p3, p4⟩ := h7.1.at5 (i := 1) rfl
         simp at p0 p1 p2 p3 p4
         refine value_ (w1 := ?_) (v := ?_) (by rfl) rfl ?_ ?_
         rotate_left 2
         ·go_simp
          constructor
          ·rfl
          ·rfl
         obtain ⟨w9, hw9⟩ : ∃ w9, w9 = wd := ⟨_, rfl⟩
         have k9 : Fr (fun _ => False) wd w9 := by subst hw9; exact Fr.refl _ _
         rw [← hw9]
         have hH : Fr (fun _ => False) w6 w9 ∧ True := ⟨hHeld.1.trans k9 (fun _ _ h => h), trivial⟩
         refine hK.out _ _ ⟨hH.1, hH.2⟩ (fun hHeld => ?_)
         clear hK K
         refine norm_ (a' := ?_) ?_ ?_
         rotate_left
         ·show Act.put _ (some 21) _ = _
          simp only [Act.put, List.setIfInBounds_toArray, List.set_cons_zero, List.set_cons_succ, i64_w, i32_w]
          rfl
         exact norm_ (by first | (simp only [putAll, Act.put, List.setIfInBounds_toArray, List.set_cons_zero, List.set_cons_succ]; done) | (simp only [putAll, Act.put, List.setIfInBounds_toArray, List.set_cons_zero, List.set_cons_succ]; rfl)) (hJ0_2_3_5_11 (g7, c7, g8, c8, 0, none, 0, bx) _ ⟨hHeld, ⟨h7.1.fr k9 (fun h => h), h7.2⟩, ⟨h8.1.fr k9 (fun h => h), h8.2⟩, ⟨hb.1.fr k9 (fun h => h), hb.2⟩, trivial⟩)
       ·skip
        rintro ⟨g7, c7, g8, c8, b6, A9, c9, bx⟩ wd ⟨hHeld, h7, h8, hb, _⟩
        simp only at h7 h8 hb
        refine norm_ (a' := ?_) ?_ ?_
        rotate_left
        ·simp only [putAll, Act.put, List.setIfInBounds_toArray, List.set_cons_zero, List.set_cons_succ]
         rfl
        refine one_ (i := 5) (N := some 24) #[oY,oY,oY,oY,oY,oY,oN,oN,oN,oN,oN,oY,oN,oN] rfl rfl (by kernel_rfl) (by decide) (fun K hK => ?_)
        obtain ⟨p0, p1, p2, p3, p4⟩ := h8.1.at5 (i := 3) rfl
        simp at p0 p1 p2 p3 p4
        refine value_ (w1 := ?_) (v := ?_) (by rfl) rfl ?_ ?_
        rotate_left 2
        ·go_simp
         constructor
         ·rfl
         ·rfl
        obtain ⟨w9, hw9⟩ : ∃ w9, w9 = wd := ⟨_, rfl⟩
        have k9 : Fr (fun _ => False) wd w9 := by subst hw9; exact Fr.refl _ _
        rw [← hw9]
        have hH : Fr (fun _ => False) w6 w9 ∧ True := ⟨hHeld.1.trans k9 (fun _ _ h => h), trivial⟩
        refine hK.out _ _ ⟨hH.1, hH.2⟩ (fun hHeld => ?_)
        clear hK K
        refine norm_ (a' := ?_) ?_ ?_
        rotate_left
        ·show Act.put _ (some 24) _ = _
         simp only [Act.put, List.setIfInBounds_toArray, List.set_cons_zero, List.set_cons_succ, i64_w, i32_w]
         rfl
        exact norm_ (by first | (simp only [putAll, Act.put, List.setIfInBounds_toArray, List.set_cons_zero, List.set_cons_succ]; done) | (simp only [putAll, Act.put, List.setIfInBounds_toArray, List.set_cons_zero, List.set_cons_succ]; rfl)) (hJ0_2_3_5_11 (g7, c7, g8, c8, 0, none, 0, bx) _ ⟨hHeld, ⟨h7.1.fr k9 (fun h => h), h7.2⟩, ⟨h8.1.fr k9 (fun h => h), h8.2⟩, ⟨hb.1.fr k9 (fun h => h), hb.2⟩, trivial⟩)
      ·skip
       rintro ⟨g7, c7, g8, c8, b6, A9, c9, bx⟩ wd ⟨hHeld, h7, h8, _⟩
       simp only at h7 h8
       refine norm_ (a' := ?_) ?_ ?_
       rotate_left
       ·simp only [putAll, Act.put, List.setIfInBounds_toArray, List.set_cons_zero, List.set_cons_succ]
        rfl
       refine two_ (i := 6) (j := 11) (Ni := some 25) (Nj := some 5) #[oY,oY,oY,oY,oY,oY,oY,oN,oN,oN,oN,oN,oN,oN] #[oY,oY,oY,oY,oY,oY,oN,oN,oN,oN,oN,oY,oN,oN] rfl rfl rfl rfl (by kernel_rfl) (by decide) (by decide) (fun K hK => ?_) (fun K hK => ?_)
       ·skip
        refine value_ (w1 := ?_) (v := ?_) (by rfl) rfl ?_ ?_
        rotate_left 2
        ·go_simp
         constructor
         ·rfl
         ·rfl
        generalize hW : World.alloc _ _ = w9
        have k9 : Fr (fun _ => False) wd w9 := by subst hW; (repeat' (first | (with_reducible exact Fr.refl _ _) | (with_reducible assumption) | (with_reducible refine Fr.alloc ?_ _) | (with_reducible refine Fr.drew ?_) | (with_reducible refine Fr.drewN ?_ _) | (with_reducible refine Fr.setCell ?_ _ _ ?_) | (exact Or.inr rfl) | (left; simp; done) | (left; simp; omega) | (simp; done) | (simp; omega) | omega))
        have rn : Row w9 wd.heap.size 2 pairL := by subst hW; exact rowP (by (repeat' (first | (with_reducible assumption) | (with_reducible apply Blk.drew) | (with_reducible apply Blk.drewN) | (with_reducible apply Blk.set) | (with_reducible apply Blk.other) | (exact Blk.new' _ _ _ (by first | rfl | (simp; done) | (simp; omega))) | (with_reducible apply Blk.alloc) | (with_reducible rfl) | (simp; done) | (simp; omega) | omega | rfl)))
        clear hW
        have hH : Fr (fun _ => False) w6 w9 ∧ True := ⟨hHeld.1.trans k9 (fun _ _ h => h), trivial⟩
        refine hK.out _ _ ⟨hH.1, hH.2⟩ (fun hHeld => ?_)
        clear hK K
        refine norm_ (a' := ?_) ?_ ?_
        rotate_left
        ·show Act.put _ (some 25) _ = _
         simp only [Act.put, List.setIfInBounds_toArray, List.set_cons_zero, List.set_cons_succ, i64_w, i32_w]
         rfl
        exact norm_ (by first | (simp only [putAll, Act.put, List.setIfInBounds_toArray, List.set_cons_zero, List.set_cons_succ]; done) | (simp only [putAll, Act.put, List.setIfInBounds_toArray, List.set_cons_zero, List.set_cons_succ]; rfl)) (hJ0_2_3_5_6 (g7, c7, g8, c8, wd.heap.size, none, 0, 0) _ ⟨hHeld, ⟨h7.1.fr k9 (fun h => h), h7.2⟩, ⟨h8.1.fr k9 (fun h => h), h8.2⟩, rn, trivial⟩)
       ·skip
        refine value_ (w1 := ?_) (v := ?_) (by rfl) rfl ?_ ?_
        rotate_left 2
        ·go_simp
         constructor
         ·rfl
         ·rfl
        generalize hW : World.alloc _ _ = w9
        have k9 : Fr (fun _ => False) wd w9 := by subst hW; (repeat' (first | (with_reducible exact Fr.refl _ _) | (with_reducible assumption) | (with_reducible refine Fr.alloc ?_ _) | (with_reducible refine Fr.drew ?_) | (with_reducible refine Fr.drewN ?_ _) | (with_reducible refine Fr.setCell ?_ _ _ ?_) | (exact Or.inr rfl) | (left; simp; done) | (left; simp; omega) | (simp; done) | (simp; omega) | omega))
        have bn : Blk w9 wd.heap.size #[.int .i64 0, .int .i64 0, .int .i64 0, .int .i64 0, .int .i64 0, .slice none 0 0] 30 := by subst hW; (repeat' (first | (with_reducible assumption) | (with_reducible apply Blk.drew) | (with_reducible apply Blk.drewN) | (with_reducible apply Blk.set) | (with_reducible apply Blk.other) | (exact Blk.new' _ _ _ (by first | rfl | (simp; done) | (simp; omega))) | (with_reducible apply Blk.alloc) | (with_reducible rfl) | (simp; done) | (simp; omega) | omega | rfl))
        have hbn : w6.heap.size ≤ wd.heap.size := hHeld.1.size
        clear hW
        have hH : Fr (fun _ => False) w6 w9 ∧ True := ⟨hHeld.1.trans k9 (fun _ _ h => h), trivial⟩
        refine hK.out _ _ ⟨hH.1, hH.2⟩ (fun hHeld => ?_)
        clear hK K
        refine norm_ (a' := ?_) ?_ ?_
        rotate_left
        ·show Act.put _ (some 5) _ = _
         simp only [Act.put, List.setIfInBounds_toArray, List.set_cons_zero, List.set_cons_succ, i64_w, i32_w]
         rfl
        exact norm_ (by first | (simp only [putAll, Act.put, List.setIfInBounds_toArray, List.set_cons_zero, List.set_cons_succ]; done) | (simp only [putAll, Act.put, List.setIfInBounds_toArray, List.set_cons_zero, List.set_cons_succ]; rfl)) (hJ0_2_3_5_11 (g7, c7, g8, c8, 0, none, 0, wd.heap.size) _ ⟨hHeld, ⟨h7.1.fr k9 (fun h => h), h7.2⟩, ⟨h8.1.fr k9 (fun h => h), h8.2⟩, ⟨bn, hbn⟩, trivial⟩)
     ·skip
      rintro ⟨g7, c7, g8, c8, b6, A9, c9, bx⟩ wd ⟨hHeld, h7, h8, hb, _⟩
      simp only at h7 h8 hb
      refine norm_ (a' := ?_) ?_ ?_
      rotate_left
      ·simp only [putAll, Act.put, List.setIfInBounds_toArray, List.set_cons_zero, List.set_cons_succ]
       rfl
      refine one_ (i := 6) (N := some 25) #[oY,oY,oY,oY,oY,oY,oY,oN,oN,oN,oN,oY,oN,oN] rfl rfl (by kernel_rfl) (by decide) (fun K hK => ?_)
      refine value_ (w1 := ?_) (v := ?_) (by rfl) rfl ?_ ?_
      rotate_left 2
      ·go_simp
       constructor
       ·rfl
       ·rfl
      generalize hW : World.alloc _ _ = w9
      have k9 : Fr (fun _ => False) wd w9 := by subst hW; (repeat' (first | (with_reducible exact Fr.refl _ _) | (with_reducible assumption) | (with_reducible refine Fr.alloc ?_ _) | (with_reducible refine Fr.drew ?_) | (with_reducible refine Fr.drewN ?_ _) | (with_reducible refine Fr.setCell ?_ _ _ ?_) | (exact Or.inr rfl) | (left; simp; done) | (left; simp; omega) | (simp; done) | (simp; omega) | omega))
      have rn : Row w9 wd.heap.size 2 pairL := by subst hW; exact rowP (by (repeat' (first | (with_reducible assumption) | (with_reducible apply Blk.drew) | (with_reducible apply Blk.drewN) | (with_reducible apply Blk.set) | (with_reducible apply Blk.other) | (exact Blk.new' _ _ _ (by first | rfl | (simp; done) | (simp; omega))) | (with_reducible apply Blk.alloc) | (with_reducible rfl) | (simp; done) | (simp; omega) | omega | rfl)))
      clear hW
      have hH : Fr (fun _ => False) w6 w9 ∧ True := ⟨hHeld.1.trans k9 (fun _ _ h => h), trivial⟩
      refine hK.out _ _ ⟨hH.1, hH.2⟩ (fun hHeld => ?_)
      clear hK K
      refine norm_ (a' := ?_) ?_ ?_
      rotate_left
      ·show Act.put _ (some 25) _ = _
       simp only [Act.put, List.setIfInBounds_toArray, List.set_cons_zero, List.set_cons_succ, i64_w, i32_w]
       rfl
      exact norm_ (by first | (simp only [putAll, Act.put, List.setIfInBounds_toArray, List.set_cons_zero, List.set_cons_succ]; done) | (simp only [putAll, Act.put, List.setIfInBounds_toArray, List.set_cons_zero, List.set_cons_succ]; rfl)) (hJ0_2_3_5_6_11 (g7, c7, g8, c8, wd.heap.size, none, 0, bx) _ ⟨hHeld, ⟨h7.1.fr k9 (fun h => h), h7.2⟩, ⟨h8.1.fr k9 (fun h => h), h8.2⟩, rn, ⟨hb.1.fr k9 (fun h => h), hb.2⟩, trivial⟩)
    ·skip
     rintro ⟨g7, c7, g8, c8, b6, A9, c9, bx⟩ wd ⟨hHeld, h7, h8, h6, _⟩
     simp only at h7 h8 h6
     refine norm_ (a' := ?_) ?_ ?_
     rotate_left
     ·simp only [putAll, Act.put, List.setIfInBounds_toArray, List.set_cons_zero, List.set_cons_succ]
      rfl
     refine two_ (i := 7) (j := 11) (Ni := some 26) (Nj := some 5) #[oY,oY,oY,oY,oY,oY,oY,oY,oN,oN,oN,oN,oN,oN] #[oY,oY,oY,oY,oY,oY,oY,oN,oN,oN,oN,oY,oN,oN] rfl rfl rfl rfl (by kernel_rfl) (by decide) (by decide) (fun K hK => ?_) (fun K hK => ?_)
     ·skip
      refine goes_ Tryz.func9 (by kernel_rfl) rfl #[.slice (some ⟨b6, 0, none⟩) 2 2] (by rfl) rfl rfl (by simp only [List.map_toArray, List.map_cons, List.map_nil]; rfl) ?_
      refine (ch_on (n := 2) (l := pairL) (hC := h6.toC (by unfold maxLen; omega)) rfl (by omega) rfl z3 d3).mono ?_
      rintro e w9 ⟨vn, rfl, hvn, k9⟩
      obtain ⟨An, cn, rfl, _, _⟩ := hvn.sl
      refine ⟨_, rfl, ?_⟩
      have hH : Fr (fun _ => False) w6 w9 ∧ True := ⟨hHeld.1.trans k9 (fun _ _ h => h), trivial⟩
      refine hK.out _ _ ⟨hH.1, hH.2⟩ (fun hHeld => ?_)
      clear hK K
      refine norm_ (a' := ?_) ?_ ?_
      rotate_left
      ·show Act.put _ (some 26) _ = _
       simp only [Act.put, List.setIfInBounds_toArray, List.set_cons_zero, List.set_cons_succ, i64_w, i32_w]
       rfl
      refine pure_ (i := 8) (N := some 18) (v := ?_) (a' := ?_) #[oY,oY,oY,oY,oY,oY,oY,oY,oY,oN,oN,oN,oN,oN] rfl rfl (by kernel_rfl) (fun _ _ _ h => h) (Or.inl ⟨by rfl, ?_⟩) ?_ ?_
      rotate_left
      ·intro w'
       go_simp
       with_reducible rfl
      rotate_left
      ·simp only [Act.put, List.setIfInBounds_toArray, List.set_cons_zero, List.set_cons_succ, i64_w, i32_w]
       rfl
      refine pure_ (i := 9) (N := some 27) (v := ?_) (a' := ?_) #[oY,oY,oY,oY,oY,oY,oY,oY,oY,oY,oN,oN,oN,oN] rfl rfl (by kernel_rfl) (fun _ _ _ h => h) (Or.inl ⟨by rfl, ?_⟩) ?_ ?_
      rotate_left
      ·intro w'
       go_simp
       with_reducible rfl
      rotate_left
      ·simp only [Act.put, List.setIfInBounds_toArray, List.set_cons_zero, List.set_cons_succ, i64_w, i32_w]
       rfl
      refine pure_ (i := 10) (N := some 28) (v := ?_) (a' := ?_) #[oY,oY,oY,oY,oY,oY,oY,oY,oY,oY,oY,oN,oN,oN] rfl rfl (by kernel_rfl) (fun _ _ _ h => h) (Or.inl ⟨by rfl, ?_⟩) ?_ ?_
      rotate_left
      ·intro w'
       go_simp
       with_reducible rfl
      rotate_left
      ·simp only [Act.put, List.setIfInBounds_toArray, List.set_cons_zero, List.set_cons_succ, i64_w, i32_w]
       rfl
      exact norm_ (by first | (simp only [putAll, Act.put, List.setIfInBounds_toArray, List.set_cons_zero, List.set_cons_succ]; done) | (simp only [putAll, Act.put, List.setIfInBounds_toArray, List.set_cons_zero, List.set_cons_succ]; rfl)) (hJ0_2_3_5_6_7 (g7, c7, g8, c8, b6, An, cn, 0) _ ⟨hHeld, ⟨h7.1.fr k9 (fun h => h), h7.2⟩, ⟨h8.1.fr k9 (fun h => h), h8.2⟩, h6.fr k9 (fun h => h), trivial⟩)
     ·skip
      refine value_ (w1 := ?_) (v := ?_) (by rfl) rfl ?_ ?_
      rotate_left 2
      ·go_simp
       constructor
       ·rfl
       ·rfl
      generalize hW : World.alloc _ _ = w9
      have k9 : Fr (fun _ => False) wd w9 := by subst hW; (repeat' (first | (with_reducible exact Fr.refl _ _) | (with_reducible assumption) | (with_reducible refine Fr.alloc ?_ _) | (with_reducible refine Fr.drew ?_) | (with_reducible refine Fr.drewN ?_ _) | (with_reducible refine Fr.setCell ?_ _ _ ?_) | (exact Or.inr rfl) | (left; simp; done) | (left; simp; omega) | (simp; done) | (simp; omega) | omega))
      have bn : Blk w9 wd.heap.size #[.int .i64 0, .int .i64 0, .int .i64 0, .int .i64 0, .int .i64 0, .slice none 0 0] 30 := by subst hW; (repeat' (first | (with_reducible assumption) | (with_reducible apply Blk.drew) | (with_reducible apply Blk.drewN) | (with_reducible apply Blk.set) | (with_reducible apply Blk.other) | (exact Blk.new' _ _ _ (by first | rfl | (simp; done) | (simp; omega))) | (with_reducible apply Blk.alloc) | (with_reducible rfl) | (simp; done) | (simp; omega) | omega | rfl))
      have hbn : w6.heap.size ≤ wd.heap.size := hHeld.1.size
      clear hW
      have hH : Fr (fun _ => False) w6 w9 ∧ True := ⟨hHeld.1.trans k9 (fun _ _ h => h), trivial⟩
      refine hK.out _ _ ⟨hH.1, hH.2⟩ (fun hHeld => ?_)
      clear hK K
      refine norm_ (a' := ?_) ?_ ?_
      rotate_left
      ·show Act.put _ (some 5) _ = _
       simp only [Act.put, List.setIfInBounds_toArray, List.set_cons_zero, List.set_cons_succ, i64_w, i32_w]
       rfl
      exact norm_ (by first | (simp only [putAll, Act.put, List.setIfInBounds_toArray, List.set_cons_zero, List.set_cons_succ]; done) | (simp only [putAll, Act.put, List.setIfInBounds_toArray, List.set_cons_zero, List.set_cons_succ]; rfl)) (hJ0_2_3_5_6_11 (g7, c7, g8, c8, b6, none, 0, wd.heap.size) _ ⟨hHeld, ⟨h7.1.fr k9 (fun h => h), h7.2⟩, ⟨h8.1.fr k9 (fun h => h), h8.2⟩, h6.fr k9 (fun h => h), ⟨bn, hbn⟩, trivial⟩)
   ·skip
    rintro ⟨g7, c7, g8, c8, b6, A9, c9, bx⟩ wd ⟨hHeld, h7, h8, h6, hb, _⟩
    simp only at h7 h8 h6 hb
    refine norm_ (a' := ?_) ?_ ?_
    rotate_left
    ·simp only [putAll, Act.put, List.setIfInBounds_toArray, List.set_cons_zero, List.set_cons_succ]
     rfl
    refine one_ (i := 7) (N := some 26) #[oY,oY,oY,oY,oY,oY,oY,oY,oN,oN,oN,oY,oN,oN] rfl rfl (by kernel_rfl) (by decide) (fun K hK => ?_)
    refine goes_ Tryz.func9 (by kernel_rfl) rfl #[.slice (some ⟨b6, 0, none⟩) 2 2] (by rfl) rfl rfl (by simp only [List.map_toArray, List.map_cons, List.map_nil]; rfl) ?_
    refine (ch_on (n := 2) (l := pairL) (hC := h6.toC (by unfold maxLen; omega)) rfl (by omega) rfl z3 d3).mono ?_
    rintro e w9 ⟨vn, rfl, hvn, k9⟩
    obtain ⟨An, cn, rfl, _, _⟩ := hvn.sl
    refine ⟨_, rfl, ?_⟩
    have hH : Fr (fun _ => False) w6 w9 ∧ True := ⟨hHeld.1.trans k9 (fun _ _ h => h), trivial⟩
    refine hK.out _ _ ⟨hH.1, hH.2⟩ (fun hHeld => ?_)
    clear hK K
    refine norm_ (a' := ?_) ?_ ?_
    rotate_left
    ·show Act.put _ (some 26) _ = _
     simp only [Act.put, List.setIfInBounds_toArray, List.set_cons_zero, List.set_cons_succ, i64_w, i32_w]
     rfl
    refine pure_ (i := 8) (N := some 18) (v := ?_) (a' := ?_) #[oY,oY,oY,oY,oY,oY,oY,oY,oY,oN,oN,oY,oN,oN] rfl rfl (by kernel_rfl) (fun _ _ _ h => h) (Or.inl ⟨by rfl, ?_⟩) ?_ ?_
    rotate_left
    ·intro w'
     go_simp
     with_reducible rfl
    rotate_left
    ·simp only [Act.put, List.setIfInBounds_toArray, List.set_cons_zero, List.set_cons_succ, i64_w, i32_w]
     rfl
    refine pure_ (i := 9) (N := some 27) (v := ?_) (a' := ?_) #[oY,oY,oY,oY,oY,oY,oY,oY,oY,oY,oN,oY,oN,oN] rfl rfl (by kernel_rfl) (fun _ _ _ h => h) (Or.inl ⟨by rfl, ?_⟩) ?_ ?_
    rotate_left
    ·intro w'
     go_simp
     with_reducible rfl
    rotate_left
    ·simp only [Act.put, List.setIfInBounds_toArray, List.set_cons_zero, List.set_cons_succ, i64_w, i32_w]
     rfl
    refine pure_ (i := 10) (N := some 28) (v := ?_) (a' := ?_) #[oY,oY,oY,oY,oY,oY,oY,oY,oY,oY,oY,oY,oN,oN] rfl rfl (by kernel_rfl) (fun _ _ _ h => h) (Or.inl ⟨by rfl, ?_⟩) ?_ ?_
    rotate_left
    ·intro w'
     go_simp
     with_reducible rfl
    rotate_left
    ·simp only [Act.put, List.setIfInBounds_toArray, List.set_cons_zero, List.set_cons_succ, i64_w, i32_w]
     rfl
    exact norm_ (by first | (simp only [putAll, Act.put, List.setIfInBounds_toArray, List.set_cons_zero, List.set_cons_succ]; done) | (simp only [putAll, Act.put, List.setIfInBounds_toArray, List.set_cons_zero, List.set_cons_succ]; rfl)) (hJ0_2_3_5_6_7_11 (g7, c7, g8, c8, b6, An, cn, bx) _ ⟨hHeld, ⟨h7.1.fr k9 (fun h => h), h7.2⟩, ⟨h8.1.fr k9 (fun h => h), h8.2⟩, h6.fr k9 (fun h => h), ⟨hb.1.fr k9 (fun h => h), hb.2⟩, trivial⟩)
  ·skip
   rintro ⟨g7, c7, g8, c8, b6, A9, c9, bx⟩ wd ⟨hHeld, h7, h8, h6, _⟩
   simp only at h7 h8 h6
   refine norm_ (a' := ?_) ?_ ?_
   rotate_left
   ·simp only [putAll, Act.put, List.setIfInBounds_toArray, List.set_cons_zero, List.set_cons_succ]
    rfl
   refine one_ (i := 11) (N := some 5) #[oY,oY,oY,oY,oY,oY,oY,oY,oY,oY,oY,oY,oN,oN] rfl rfl (by kernel_rfl) (by decide) (fun K hK => ?_)
   refine value_ (w1 := ?_) (v := ?_) (by rfl) rfl ?_ ?_
   rotate_left 2
   ·go_simp
    constructor
    ·rfl
    ·rfl
   generalize hW : World.alloc _ _ = w9
   have k9 : Fr (fun _ => False) wd w9 := by subst hW; (repeat' (first | (with_reducible exact Fr.refl _ _) | (with_reducible assumption) | (with_reducible refine Fr.alloc ?_ _) | (with_reducible refine Fr.drew ?_) | (with_reducible refine Fr.drewN ?_ _) | (with_reducible refine Fr.setCell ?_ _ _ ?_) | (exact Or.inr rfl) | (left; simp; done) | (left; simp; omega) | (simp; done) | (simp; omega) | omega))
   have bn : Blk w9 wd.heap.size #[.int .i64 0, .int .i64 0, .int .i64 0, .int .i64 0, .int .i64 0, .slice none 0 0] 30 := by subst hW; (repeat' (first | (with_reducible assumption) | (with_reducible apply Blk.drew) | (with_reducible apply Blk.drewN) | (with_reducible apply Blk.set) | (with_reducible apply Blk.other) | (exact Blk.new' _ _ _ (by first | rfl | (simp; done) | (simp; omega))) | (with_reducible apply Blk.alloc) | (with_reducible rfl) | (simp; done) | (simp; omega) | omega | rfl))
   have hbn : w6.heap.size ≤ wd.heap.size := hHeld.1.size
   clear hW
   have hH : Fr (fun _ => False) w6 w9 ∧ True := ⟨hHeld.1.trans k9 (fun _ _ h => h), trivial⟩
   refine hK.out _ _ ⟨hH.1, hH.2⟩ (fun hHeld => ?_)
   clear hK K
   refine norm_ (a' := ?_) ?_ ?_
   rotate_left
   ·show Act.put _ (some 5) _ = _
    simp only [Act.put, List.setIfInBounds_toArray, List.set_cons_zero, List.set_cons_succ, i64_w, i32_w]
    rfl
   exact norm_ (by first | (simp only [putAll, Act.put, List.setIfInBounds_toArray, List.set_cons_zero, List.set_cons_succ]; done) | (simp only [putAll, Act.put, List.setIfInBounds_toArray, List.set_cons_zero, List.set_cons_succ]; rfl)) (hJ0_2_3_5_6_7_11 (g7, c7, g8, c8, b6, A9, c9, wd.heap.size) _ ⟨hHeld, ⟨h7.1.fr k9 (fun h => h), h7.2⟩, ⟨h8.1.fr k9 (fun h => h), h8.2⟩, h6.fr k9 (fun h => h), ⟨bn, hbn⟩, trivial⟩)
 rintro ⟨g7, c7, g8, c8, b6, A9, c9, bx⟩ wd ⟨hHeld, h7, h8, h6, hb, _⟩
 simp only at h7 h8 h6 hb
 refine norm_ (a' := ?_) ?_ ?_
 rotate_left
 ·simp only [putAll, Act.put, List.setIfInBounds_toArray, List.set_cons_zero, List.set_cons_succ]
  rfl
 refine last_ (i := 12) (N := none) #[oY,oY,oY,oY,oY,oY,oY,oY,oY,oY,oY,oY,oY,oN] rfl rfl (by kernel_rfl) (by decide) (fun K hK => ?_)
 obtain ⟨⟨q0, q1, q2, q3, q4, q5⟩, z0, z1, z2, z3, z4, z5⟩ := hb.1.c6
 have lb := hb.1.lt
 refine skip_ (w1 := ?_) (by rfl) rfl ?_ ?_
 rotate_left
 ·go_simp
  rfl
 have hH : Fr (fun _ => False) w6 wd ∧ True := hHeld
 refine hK.out _ _ ?_
 clear hK K
 refine pure_ (i := 13) (N := some 6) (v := ?_) (a' := ?_) #[oY,oY,oY,oY,oY,oY,oY,oY,oY,oY,oY,oY,oY,oY] rfl rfl (by kernel_rfl) (fun _ _ _ h => h) (Or.inl ⟨by rfl, ?_⟩) ?_ ?_
 rotate_left
 ·intro w'
  go_simp
  with_reducible rfl
 rotate_left
 ·simp only [Act.put, List.setIfInBounds_toArray, List.set_cons_zero, List.set_cons_succ, i64_w, i32_w]
  rfl
 refine done_ (by kernel_rfl) ?_
 generalize hW : World.setCell _ _ _ = w8
 have k8 : Fr (fun i => i = bx) wd w8 := by subst hW; exact fr_set6 wd bx _ _ _ _ _ _
 have K8 : Fr (fun _ => False) w6 w8 := hHeld.1.trans k8 (fun i hi e => by have := hb.2; omega)
 have b1 := HB1.out.fr K8 (fun h => h)
 have b2 := HB2.out.fr K8 (fun h => h)
 have HC8 := hidE (Kd.C_below HC5.out K8.below)
 have HK := hidE (HF.out.trans K8 (fun _ _ h => h))
 obtain ⟨⟨y0, y1, y2, y3, y4, y5⟩, _⟩ := b1.c6
 obtain ⟨⟨x0, x1, x2, x3, x4, x5⟩, _⟩ := b2.c6
 clear hW k8 K8 hHeld hb h7 h8 h6 msd b1 b2 HB1 HB2 HC2 HC5 HF
 go_wp2_with fail
 refine (slices_Equal_int_int.calls 7 A5 c5 [0, 1, 2] (some ⟨w8.heap.size, 0, none⟩) 3 [0, 1, 2] true _ (Kd.C_below HC8.out (Fr.below (by (repeat' (first | (with_reducible exact Fr.refl _ _) | (with_reducible assumption) | (with_reducible refine Fr.alloc ?_ _) | (with_reducible refine Fr.drew ?_) | (with_reducible refine Fr.drewN ?_ _) | (with_reducible refine Fr.setCell ?_ _ _ ?_) | (exact Or.inr rfl) | (left; simp; done) | (left; simp; omega) | (simp; done) | (simp; omega) | omega))))) (by exact hc5) (litI3 _ 0 1 2) (by simp) (by kernel_rfl)).mono ?_
 rintro e w16 ⟨rfl, dr⟩
 have k16 : Fr (fun _ => False) w8 w16 := Fr.trans (S := fun _ => False) (T := fun _ => False) (by (repeat' (first | (with_reducible exact Fr.refl _ _) | (with_reducible assumption) | (with_reducible refine Fr.alloc ?_ _) | (with_reducible refine Fr.drew ?_) | (with_reducible refine Fr.drewN ?_ _) | (with_reducible refine Fr.setCell ?_ _ _ ?_) | (exact Or.inr rfl) | (left; simp; done) | (left; simp; omega) | (simp; done) | (simp; omega) | omega))) (drawnK_fr dr) (fun _ _ h => h)
 clear dr y0 y1 y2 y3 y4 y5 x0 x1 x2 x3 x4 x5
 go_wp2
 go_ret
 exact ⟨rfl, HK.out.trans k16 (fun _ _ h => h)⟩
theorem Row.set1 {w : World} {g cap : Nat} {L : List S27} (h : Row w g cap L) {i j : Nat} {c c' : S27} {v : Value} (hi : L[i]? = some c) (hj : j < 5) (he : encC c' = (encC c).set j v) : Row (w.setCell ⟨g, i * 5 + j, none⟩ v) g cap (L.set i c') := by
  obtain ⟨cur, hb, h1, h2, h3⟩ := h
  have hil := (List.getElem?_eq_some_iff.1 hi).1
  refine ⟨_, hb.set rfl, by simpa using h1, by simpa using h2, fun m d hm q u hq => ?_⟩
  have hq5 : q < 5 := by have := (List.getElem?_eq_some_iff.1 hq).1; simpa [encC] using this
  rw [List.getElem?_set] at hm
  rw [Array.getElem?_setIfInBounds]
  by_cases e : i = m
  · subst e
    rw [if_pos rfl, if_pos hil] at hm
    obtain rfl := Option.some.inj hm
    rw [he, List.getElem?_set] at hq
    by_cases ej : j = q
    · subst ej
      rw [if_pos rfl] at hq ⊢
      rw [if_pos (by simp [encC]; omega)] at hq
      rw [if_pos (by omega)]; exact hq
    · rw [if_neg ej] at hq
      rw [if_neg (by omega)]
      exact h3 i c hi q u hq
  · rw [if_neg e] at hm
    rw [if_neg (by omega)]
    exact h3 m d hm q u hq
theorem Row.dropC {w : World} {g cap i : Nat} {L : List S27} (h : Row w g cap L) (hm : cap ≤ maxLen) : Kd.C k27 w (some ⟨g, i * 5, none⟩) (L.drop i).length (L.drop i) := by
  refine ⟨rfl, by have := h.len; unfold maxLen at hm; simp; omega, fun _ => ⟨_, rfl, fun j p hj => ⟨encC p, rfl, k27_mk w p, fun q u hq => ?_⟩⟩⟩
  obtain ⟨cur, hb, h1, h2, h3⟩ := h
  rw [List.getElem?_drop] at hj
  rw [add_none]
  have hsz : (k27 : Kd S27).sz = 5 := rfl
  refine (hb.cell _).trans ?_
  have := h3 _ p hj q u hq
  rw [hsz]
  rw [show i * 5 + (j * 5 + q) = (i + j) * 5 + q by omega]; exact this
set_option maxHeartbeats 2000000 in
theorem chooseKnown_walk (w : World) : Calls Tryz.prog 3 #[] w fun e w' => e = .returned (.bool true) ∧ Fr (fun _ => False) w w' := by
  go_enter Tryz.func3, Tryz.ntmps3
  go_wp2_with fail
  refine four_at.mono ?_
  rintro e w1 ⟨g, cap, rfl, hg, hm, hr, k1⟩
  have l4n : 4 ≤ cap := by have := hr.len; have : fourL.length = 4 := rfl; omega
  have c6 := (hr.at5 (i := 1) rfl).2.1
  obtain ⟨_, _, q6⟩ := hr.there (o := 6) (by omega)
  simp at c6
  go_wp2_with fail
  generalize hW : World.setCell w1 _ _ = w2
  have f2 : Fr (fun i => i = g) w1 w2 := by subst hW; (repeat' (first | (with_reducible exact Fr.refl _ _) | (with_reducible assumption) | (with_reducible refine Fr.alloc ?_ _) | (with_reducible refine Fr.drew ?_) | (with_reducible refine Fr.drewN ?_ _) | (with_reducible refine Fr.setCell ?_ _ _ ?_) | (exact Or.inr rfl) | (left; simp; done) | (left; simp; omega) | (simp; done) | (simp; omega) | omega))
  have hr2 : Row w2 g cap badL := by subst hW; exact (hr.set1 (i := 1) (j := 1) (c' := ⟨1, ⟨4, 11, 13⟩, 0⟩) rfl (by omega) rfl)
  clear hW c6 q6
  have F2 : Fr (fun _ => False) w w2 := k1.trans f2 (fun i hi e => by have e : i = g := e; omega)
  clear f2 hr k1
  refine (ch_on (hC := by exact (hr2.toC hm)) rfl l4n rfl z4 d4).mono ?_
  rintro e w3 ⟨v3, rfl, hv3, k3⟩
  obtain ⟨A3, c3, rfl, _, _⟩ := hv3.sl
  have F3 := F2.trans k3 (fun _ _ h => h)
  clear F2 k3 hr2 hv3 hg hm
  go_wp2_with fail
  generalize hW : World.alloc w3 _ = w4
  have F4 : Fr (fun _ => False) w w4 := by subst hW; exact F3.trans (T := fun _ => False) (by (repeat' (first | (with_reducible exact Fr.refl _ _) | (with_reducible assumption) | (with_reducible refine Fr.alloc ?_ _) | (with_reducible refine Fr.drew ?_) | (with_reducible refine Fr.drewN ?_ _) | (with_reducible refine Fr.setCell ?_ _ _ ?_) | (exact Or.inr rfl) | (left; simp; done) | (left; simp; omega) | (simp; done) | (simp; omega) | omega))) (fun _ _ h => h)
  clear hW F3
  refine (ch_on (n := 0) (l := []) (hC := ⟨rfl, by simp, fun h => absurd h (by simp)⟩) rfl (by simp) rfl z5 d5).mono ?_
  rintro e w5 ⟨v5, rfl, hv5, k5⟩
  obtain ⟨A5, c5, rfl, _, _⟩ := hv5.sl
  have F5 := F4.trans k5 (fun _ _ h => h)
  clear F4 k5 hv5
  go_wp2_with fail
  generalize hW : World.alloc w5 _ = w6
  have F6 : Fr (fun _ => False) w w6 := by subst hW; exact F5.trans (T := fun _ => False) (by (repeat' (first | (with_reducible exact Fr.refl _ _) | (with_reducible assumption) | (with_reducible refine Fr.alloc ?_ _) | (with_reducible refine Fr.drew ?_) | (with_reducible refine Fr.drewN ?_ _) | (with_reducible refine Fr.setCell ?_ _ _ ?_) | (exact Or.inr rfl) | (left; simp; done) | (left; simp; omega) | (simp; done) | (simp; omega) | omega))) (fun _ _ h => h)
  clear hW F5
  refine four_at.mono ?_
  rintro e w7 ⟨g7, cap7, rfl, hg7, hm7, hr7, k7⟩
  have l7n : 4 ≤ cap7 := by have := hr7.len; have : fourL.length = 4 := rfl; omega
  have l7 : (4 : Int) ≤ (cap7 : Int) := by omega
  have l73 : ¬ cap7 = 3 := by omega
  have F7 := F6.trans k7 (fun _ _ h => h)
  clear F6 k7
  go_wp2_with fail
  refine (ch_on (n := 1) (l := fourL.drop 3) (hC := by exact (hr7.dropC (i := 3) hm7)) rfl (by omega) rfl z6 d6).mono ?_
  rintro e w8 ⟨v8, rfl, hv8, k8⟩
  obtain ⟨A8, c8, rfl, hc8, hC8⟩ := hv8.sl
  have F8 := F7.trans k8 (fun _ _ h => h)
  clear F7 k8 hr7 hm7 hv8 l7 l73 l7n hg7
  go_wp2_with fail
  generalize hW : World.alloc w8 _ = w9
  have f9 : Fr (fun _ => False) w8 w9 := by subst hW; (repeat' (first | (with_reducible exact Fr.refl _ _) | (with_reducible assumption) | (with_reducible refine Fr.alloc ?_ _) | (with_reducible refine Fr.drew ?_) | (with_reducible refine Fr.drewN ?_ _) | (with_reducible refine Fr.setCell ?_ _ _ ?_) | (exact Or.inr rfl) | (left; simp; done) | (left; simp; omega) | (simp; done) | (simp; omega) | omega))
  have b9 : Blk w9 w8.heap.size #[.int .i64 3, .int .i64 90, .int .i64 99, .int .i64 94, .int .i64 0, .slice A8 1 c8] 30 := by subst hW; (repeat' (first | (with_reducible assumption) | (with_reducible apply Blk.drew) | (with_reducible apply Blk.drewN) | (with_reducible apply Blk.set) | (with_reducible apply Blk.other) | (exact Blk.new' _ _ _ (by first | rfl | (simp; done) | (simp; omega))) | (with_reducible apply Blk.alloc) | (with_reducible rfl) | (simp; done) | (simp; omega) | omega | rfl))
  obtain ⟨B9, hB9⟩ : ∃ B, B = w8.heap.size := ⟨_, rfl⟩
  rw [← hB9] at b9 ⊢
  clear hW hB9
  have F9 := F8.trans f9 (fun _ _ h => h)
  have HB9 := hidE b9
  have HF9 := hidE F9
  have Hf9 := hidE f9
  clear F9 F8 f9 b9
  refine four_at.mono ?_
  rintro e w10 ⟨g10, cap10, rfl, hg10, hm10, hr10, k10⟩
  have l10n : 4 ≤ cap10 := by have := hr10.len; have : fourL.length = 4 := rfl; omega
  go_wp2_with fail
  refine four_at.mono ?_
  rintro e w11 ⟨g11, cap11, rfl, hg11, hm11, hr11, k11⟩
  have l11n : 4 ≤ cap11 := by have := hr11.len; have : fourL.length = 4 := rfl; omega
  have HR10 := hidE ((hr10.fr k11 (fun h => h)).to_R hg10 hm10)
  have HK := hidE (k10.trans k11 (fun _ _ h => h))
  have hs11 := HK.out.size
  obtain ⟨p0, p1, p2, p3, p4⟩ := hr11.at5 (i := 0) rfl
  simp at p0 p1 p2 p3 p4
  obtain ⟨v10, hv10⟩ : ∃ v, v = Value.slice (some ⟨g10, 0, none⟩) 4 cap10 := ⟨_, rfl⟩
  have e10 : fourL.length = 4 := rfl
  rw [e10, ← hv10] at HR10
  rw [← hv10]
  clear hv10 e10 k10 k11 hg11 hr11 hr10 hg10
  go_wp2_with (at_builtin; refine Kd.R_append k27 (w0 := w9) w9.heap.size rfl _ _ 22 27 (.agg #[.int .i64 0, .int .i64 0, .int .i64 0, .int .i64 0, .int .i64 0]) 40 rfl Tryz.underlying22 info27 rfl (by decide) (by omega) _ fourL (⟨0, ⟨3, 8, 12⟩, 0⟩ : S27) [.int .i64 0, .int .i64 3, .int .i64 8, .int .i64 12, .int .i64 0] (fun _ => True) (fun _ => False) rfl ?aX (k27_mkM _ _ _ _) (fun _ hk => hk.elim) (fun _ _ => trivial) ?aO ?aB ?aS ?aL ?_; (case aX => first | (go_simp; done) | (simp [Act.eval, World.alloc]; done)); (case aO => exact HR10.out); (case aB => exact HK.out.below); (case aS => exact hs11); (case aL => decide))
  intro v12 w12 r12 b12 _ _
  obtain ⟨A12, c12, rfl, hc12, hC12⟩ := R_C r12
  have K12 : Fr (fun _ => False) w9 w12 := Fr.of_below b12 (Nat.le_refl _) _
  have HK12 := hidE K12
  have HC12 := hidE (hC12 w12 (Fr.refl _ _))
  clear r12 b12 hC12 K12 p0 p1 p2 p3 p4 HR10 HK hs11
  go_wp2_with fail
  refine (ch_on (n := 5) (l := fourL ++ [⟨0, ⟨3, 8, 12⟩, 0⟩]) (hC := by exact HC12.out) rfl (by exact hc12) rfl z7 d7).mono ?_
  rintro e w13 ⟨v13, rfl, hv13, k13⟩
  obtain ⟨A13, c13, rfl, _, _⟩ := hv13.sl
  clear hv13 HC12 hc12
  go_wp2_with fail
  generalize hW : World.alloc w13 _ = w14
  have k14 : Fr (fun _ => False) w9 w14 := by subst hW; exact (HK12.out.trans k13 (fun _ _ h => h)).trans (T := fun _ => False) (by (repeat' (first | (with_reducible exact Fr.refl _ _) | (with_reducible assumption) | (with_reducible refine Fr.alloc ?_ _) | (with_reducible refine Fr.drew ?_) | (with_reducible refine Fr.drewN ?_ _) | (with_reducible refine Fr.setCell ?_ _ _ ?_) | (exact Or.inr rfl) | (left; simp; done) | (left; simp; omega) | (simp; done) | (simp; omega) | omega))) (fun _ _ h => h)
  clear hW k13 HK12
  refine (awk_at w14).mono ?_
  rintro e w15 ⟨rfl, k15⟩
  have k9 := k14.trans k15 (fun _ _ h => h)
  have b15 := HB9.out.fr k9 (fun h => h)
  have HC15 := hidE (Kd.C_below hC8 ((Hf9.out.trans k9 (fun _ _ h => h)).below))
  obtain ⟨⟨q0, q1, q2, q3, q4, q5⟩, _⟩ := b15.c6
  have lb := b15.lt
  have F15 := hidE (HF9.out.trans k9 (fun _ _ h => h))
  clear b15 k9 k14 k15 HB9 HF9 Hf9 hC8
  go_wp2_with fail
  have CL : Kd.C (Kd.int .i64) (w15.alloc (.cells #[.int .i64 3] 3)) (some ⟨w15.heap.size, 0, none⟩) [(3 : Int)].length [3] := litI _ _
  refine (slices_Equal_int_int.calls 5 A8 c8 [3] (some ⟨w15.heap.size, 0, none⟩) 1 [3] true _ (Kd.C_below HC15.out (Fr.below (by (repeat' (first | (with_reducible exact Fr.refl _ _) | (with_reducible assumption) | (with_reducible refine Fr.alloc ?_ _) | (with_reducible refine Fr.drew ?_) | (with_reducible refine Fr.drewN ?_ _) | (with_reducible refine Fr.setCell ?_ _ _ ?_) | (exact Or.inr rfl) | (left; simp; done) | (left; simp; omega) | (simp; done) | (simp; omega) | omega))))) (by exact hc8) CL (by simp) (by kernel_rfl)).mono ?_
  rintro e w16 ⟨rfl, dr⟩
  have k16 : Fr (fun _ => False) w15 w16 := Fr.trans (S := fun _ => False) (T := fun _ => False) (by (repeat' (first | (with_reducible exact Fr.refl _ _) | (with_reducible assumption) | (with_reducible refine Fr.alloc ?_ _) | (with_reducible refine Fr.drew ?_) | (with_reducible refine Fr.drewN ?_ _) | (with_reducible refine Fr.setCell ?_ _ _ ?_) | (exact Or.inr rfl) | (left; simp; done) | (left; simp; omega) | (simp; done) | (simp; omega) | omega))) (drawnK_fr dr) (fun _ _ h => h)
  have C16 := hidE (Kd.C_below HC15.out k16.below)
  obtain ⟨r0, r1, r2, r3, r4, r5⟩ := And.intro ((k16.cell lb (fun h => h)).trans q0) (And.intro ((k16.cell lb (fun h => h)).trans q1) (And.intro ((k16.cell lb (fun h => h)).trans q2) (And.intro ((k16.cell lb (fun h => h)).trans q3) (And.intro ((k16.cell lb (fun h => h)).trans q4) ((k16.cell lb (fun h => h)).trans q5)))))
  have K16 := hidE k16
  clear CL dr q0 q1 q2 q3 q4 q5 k16
  go_wp2_with fail
  refine (choose_Half.calls 3 90 99 94 0 A8 c8 [3] 5 _ C16.out (by exact hc8) (by kernel_rfl)).mono ?_
  rintro e w17 ⟨rfl, b17⟩
  have k17 : Fr (fun _ => False) w16 w17 := Fr.of_below b17 (Nat.le_refl _) _
  have lb16 := K16.out.lt lb
  have C17 := hidE (Kd.C_below C16.out k17.below)
  obtain ⟨s0, s1, s2, s3, s4, s5⟩ := And.intro ((k17.cell lb16 (fun h => h)).trans r0) (And.intro ((k17.cell lb16 (fun h => h)).trans r1) (And.intro ((k17.cell lb16 (fun h => h)).trans r2) (And.intro ((k17.cell lb16 (fun h => h)).trans r3) (And.intro ((k17.cell lb16 (fun h => h)).trans r4) ((k17.cell lb16 (fun h => h)).trans r5)))))
  have K17 := hidE (K16.out.trans k17 (fun _ _ h => h))
  clear b17 k17 r0 r1 r2 r3 r4 r5
  go_wp2_with fail
  refine (choose_Offset.calls 3 90 99 94 0 A8 c8 [3] 100 (-6) _ C17.out (by exact hc8) (by kernel_rfl)).mono ?_
  rintro e w18 ⟨rfl, b18⟩
  have k18 : Fr (fun _ => False) w17 w18 := Fr.of_below b18 (Nat.le_refl _) _
  have K18 := hidE (K17.out.trans k18 (fun _ _ h => h))
  clear b18 k18 s0 s1 s2 s3 s4 s5
  go_wp2
  go_ret
  exact ⟨rfl, F15.out.trans K18.out (fun _ _ h => h)⟩
end Go.Proofs.YtapagoaoglmegaaGreat
namespace Go.Proofs.YtapagoaoglmegaaGreat.chooseKnown
open Go.ChangeShapes Go.WideShapes Go.ChangeAt Go.RowKit
open Go.ChangeMaps (open_string shut_string)
set_option linter.unusedVariables false
theorem own : ownKnob Tryz.prog.godebug = none := by kernel_rfl
theorem laidOut : laidOutB Tryz.prog = true := by kernel_rfl
set_option maxRecDepth 100000 in
theorem lifted (os : Os) (started : os.Started) (H : Type) (enc : TypeId × Value → H) :
    ReturnsInHanded {} Tryz.checked os 3 .any (Rows.chooseKnownSpec.pre6 enc Tryz.prog Tryz.f3 Rows.chooseKnownRow.domain false) (Rows.chooseKnownSpec.post enc Tryz.prog Tryz.f3 false true false false) := by
  refine returnsInHanded_of_change (C := Tryz.checked) own started (by kernel_rfl) Tryz.func3
    (ChangeSpec.witness6 (enc := enc) (C := Tryz.checked) false ⟨#[], #[], []⟩ 8 (by kernel_rfl) (by kernel_rfl) (by kernel_rfl) (by kernel_rfl)) ?_
  intro W base args ds gs before hval0 hW hcnd _
  have hval : ∀ (j : Nat) t v, Tryz.f3.params[j]? = some t → args[j]? = some v → Value.okWide Tryz.prog W .any base t v := hval0
  have hW' := hW
  obtain ⟨p, q, hA0, hV, rfl, hfz, hnd⟩ := hW
  have hA : DataW.TrodAll enc Tryz.prog W 0 (fun _ => true) true Tryz.f3.params.toList args.toList ds p := hA0
  rw [Tryz.params3] at hA hval
  obtain ⟨rfl, rfl, rfl⟩ := trodAll_none hA
  obtain ⟨rfl, rfl⟩ := trodVars_none hV
  clear hA0 hval0
  refine (chooseKnown_walk W).mono fun e W' ⟨he, fr⟩ => ?_
  have bel := fr.below
  subst he
  exact ⟨_, rfl, _, _, _, [], _, [], hW', trodAll_mk1 (shut_bool Tryz.underlying4 _), trodAll_mk0, rfl, bel.frame _, fun h => by cases h⟩
theorem over : Rows.chooseKnownRow.holds Tryz.pinned (OpenSpec.ofChange Rows.chooseKnownSpec) :=
  OpenClaim.holds_of_wide 3 Tryz.f3 rfl rfl rfl rfl rfl rfl rfl ⟨rfl, rfl, rfl, rfl, rfl⟩ rfl rfl rfl rfl rfl (by kernel_rfl) Tryz.func3 (by kernel_rfl)
    (of_decide_eq_true (by kernel_rfl)) (by unfold Func.isWrapper; first | (rw [if_pos (by decide +kernel)]; kernel_rfl) | (rw [if_neg (by decide +kernel)]; exact ⟨rfl, rfl⟩))
    (fun os started H enc _ => lifted os started H enc)
end Go.Proofs.YtapagoaoglmegaaGreat.chooseKnown
namespace Go.Proofs.YtapagoaoglmegaaGreat
theorem chooseKnown_holds : Rows.ChooseKnownSaid := chooseKnown.over
#print axioms chooseKnown_holds
end Go.Proofs.YtapagoaoglmegaaGreat
end
