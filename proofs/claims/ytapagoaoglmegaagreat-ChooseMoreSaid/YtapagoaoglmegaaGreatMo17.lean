/- Texts of mine, joined by shake.py: ChCollI, ClConcat, ChChoose, ChFour, ChClosed. -/
import Derived.Test.YtapagoaoglmegaaGreatMo2
import Derived.Test.YtapagoaoglmegaaGreatMo6
import Derived.Test.YtapagoaoglmegaaGreatMo12
import Derived.Test.YtapagoaoglmegaaGreatMo14
import Derived.Test.YtapagoaoglmegaaGreatMo16
section
namespace Go.Proofs.YtapagoaoglmegaaGreat
open Go.RowKit Go.Shelf Go.Proofs.YtapagoaoglmegaaGreatW.PrintWords Go.Proofs.YtapagoaoglmegaaGreatW.PrintLast Go.Proofs.YtapagoaoglmegaaGreatW.PrintMore PCl
attribute [local go_sem] Oper.semAt_some
set_option linter.unusedVariables false
set_option linter.unusedSimpArgs false
set_option maxRecDepth 100000
theorem ofi_at (c : S27) (W : World) : Calls Tryz.prog 31 #[vC c] W fun e w' => e = .returned (.int .i64 c.f0) ∧ Fr (fun _ => False) W w' := by
  go_enter Tryz.func31, Tryz.ntmps31
  go_wp2
  go_ret
  exact ⟨rfl, by (repeat' (first | (with_reducible exact Fr.refl _ _) | (with_reducible assumption) | (with_reducible refine Fr.alloc ?_ _) | (with_reducible refine Fr.drew ?_) | (with_reducible refine Fr.drewN ?_ _) | (with_reducible refine Fr.setCell ?_ _ _ ?_) | (exact Or.inr rfl) | (left; simp; done) | (left; simp; omega) | (simp; done) | (simp; omega) | omega))⟩
theorem eachi_at {w : World} {A : Option Addr} {cap n : Nat} :
    Calls Tryz.prog 30 #[.slice A n cap, .func (.func 31) #[] #[]] w fun e w' => ∃ Bl Bo, e = .returned (.func (.func 66) #[] #[.pointer (some ⟨Bl, 0, none⟩), .pointer (some ⟨Bo, 0, none⟩)]) ∧ Bl < w'.heap.size ∧ Bo < w'.heap.size ∧ w'.cell? ⟨Bl, 0, none⟩ = some (.slice A n cap) ∧ w'.cell? ⟨Bo, 0, none⟩ = some (.func (.func 31) #[] #[]) ∧ Fr (fun _ => False) w w' := by
  go_enter Tryz.func30, Tryz.ntmps30
  go_wp2_with fail
  generalize hW : World.alloc (World.alloc w _) _ = W2
  obtain ⟨t1, b1⟩ : ∃ t, Boxed W2 w.heap.size t (.slice A n cap) := ⟨_, by subst hW; exact (Boxed.new w _ _).alloc _⟩
  obtain ⟨t2, b2⟩ : ∃ t, Boxed W2 (w.heap.size + 1) t (.func (.func 31) #[] #[]) := ⟨_, by subst hW; exact boxed_new' (by simp)⟩
  have f2 : Fr (fun _ => False) w W2 := by subst hW; (repeat' (first | (with_reducible exact Fr.refl _ _) | (with_reducible assumption) | (with_reducible refine Fr.alloc ?_ _) | (with_reducible refine Fr.drew ?_) | (with_reducible refine Fr.drewN ?_ _) | (with_reducible refine Fr.setCell ?_ _ _ ?_) | (exact Or.inr rfl) | (left; simp; done) | (left; simp; omega) | (simp; done) | (simp; omega) | omega))
  clear hW
  go_ret
  exact ⟨_, _, rfl, b1.lt, b2.lt, b1.cell, b2.cell, f2⟩
set_option maxHeartbeats 4000000 in
theorem eachi1_in (n : Nat) (hn : 1 ≤ n) {l Bl Bo n₀ cap : Nat} {A : Option Addr} {L : List S27} (J Jx : List Int → World → Prop) (W : World) (hJ : AbidesFrom W.heap.size J)
    (hY : ∀ pre (x : Int) W1, J pre W1 → pre.length < L.length → YieldAt Fence.wide (n - 1) Tryz.prog l #[.int .i64 x] W1 fun e W' => (e = .returned (.bool true) ∧ J (pre ++ [x]) W' ∧ Below n₀ W1 W') ∨ (e = .returned (.bool false) ∧ Jx (pre ++ [x]) W'))
    (hBl : W.cell? ⟨Bl, 0, none⟩ = some (.slice A L.length cap)) (hBo : W.cell? ⟨Bo, 0, none⟩ = some (.func (.func 31) #[] #[])) (no : Bo < n₀) (hC : Kd.C k27 W A L.length L) (hA : 0 < L.length → ∀ r off, A = some ⟨r, off, none⟩ → r < n₀) (hn0 : n₀ ≤ W.heap.size) (hJ0 : J [] W) :
    CallsIn Fence.wide n Tryz.prog 66 #[.func (.yield l) #[] #[], .pointer (some ⟨Bl, 0, none⟩), .pointer (some ⟨Bo, 0, none⟩)] W fun e W' => (∃ v, e = .returned v) ∧ ((∃ ys, ys = L.map (fun c => c.f0) ∧ J ys W') ∨ ∃ pre, True ∧ Jx pre W') := by
  have HC := hidE hC
  have HBo := hidE hBo
  have hlen := C27_nil hC
  clear hC hBo
  refine callsIn_of_wp Tryz.func66 rfl trivial ?_ rfl
  simp only [Tryz.ntmps66, List.size_toArray, List.length_cons, List.length_nil, Nat.reduceAdd, Nat.reduceSub, Array.replicate_succ, Array.replicate_zero, List.push_toArray, List.append_toArray, List.nil_append, List.cons_append]
  gi_wp2_with fail
  gi_loopw [8] (fun v8 wr => ∃ k : Nat, k ≤ L.length ∧ v8 = .int .i64 (k : Int) ∧ J ((L.map (fun c => c.f0)).take k) wr ∧ Below n₀ W wr) (fun v8 _ => L.length - (intOf v8).toNat)
  case atStart => exact ⟨0, Nat.zero_le _, rfl, by simpa using hJ0, Below.refl _ _⟩
  case round =>
    clear hJ0
    obtain ⟨k, hk, rfl, hJk, hkc⟩ := hrel
    by_cases hlt : k < L.length
    · obtain ⟨r, off, rfl, hr, hat⟩ := C27_open HC.out (by omega)
      obtain ⟨c, hcs⟩ : ∃ c, L[k]? = some c := ⟨_, List.getElem?_eq_getElem hlt⟩
      obtain ⟨a0, a1, a2, a3, a4⟩ := hat k c hcs
      have hrn := hA (by omega) r off rfl
      replace a0 := (hkc.cell (p := ⟨r, off + k * 5, none⟩) hrn).trans a0
      replace a1 := (hkc.cell (p := ⟨r, off + k * 5 + 1, none⟩) hrn).trans a1
      replace a2 := (hkc.cell (p := ⟨r, off + k * 5 + 2, none⟩) hrn).trans a2
      replace a3 := (hkc.cell (p := ⟨r, off + k * 5 + 3, none⟩) hrn).trans a3
      replace a4 := (hkc.cell (p := ⟨r, off + k * 5 + 4, none⟩) hrn).trans a4
      have d0 := (hkc.cell (p := ⟨Bo, 0, none⟩) no).trans HBo.out
      have t1 : (k : Int) < (L.length : Int) := by omega
      have hln : ((L.map (fun c => c.f0)).take k).length < L.length := by rw [List.length_take]; simp; omega
      have lo := World.block_lt_of_cell? wr _ d0
      have hnx : Hid ((L.map (fun c => c.f0)).take k ++ [c.f0] = (L.map (fun c => c.f0)).take (k + 1)) := hidE (by rw [List.take_add_one, List.getElem?_map, hcs]; rfl)
      clear hat hcs
      gi_wp2_with fail
      generalize hW : World.alloc wr _ = W5
      have f5 : Fr (fun _ => False) wr W5 := by subst hW; (repeat' (first | (with_reducible exact Fr.refl _ _) | (with_reducible assumption) | (with_reducible refine Fr.alloc ?_ _) | (with_reducible refine Fr.drew ?_) | (with_reducible refine Fr.drewN ?_ _) | (with_reducible refine Fr.setCell ?_ _ _ ?_) | (exact Or.inr rfl) | (left; simp; done) | (left; simp; omega) | (simp; done) | (simp; omega) | omega))
      clear hW a0 a1 a2 a3 a4 d0
      refine ⟨trivial, ?_⟩
      gi_at_call 31
      refine (callsIn_wide.2 (ofi_at c W5)).mono ?_
      rintro e W6 ⟨rfl, k6⟩
      have F6 := f5.trans k6 (fun _ _ h => h)
      have hJ6 := hJ _ wr W6 none hJk F6.grow (fun r e => by cases e)
      obtain ⟨fn, tmps, assign, body, hy, hR⟩ := hY _ c.f0 W6 hJ6 hln
      gi_wp2_with fail
      refine hR.mono ?_
      rintro e W7 (⟨rfl, hJ7, hk7⟩ | ⟨rfl, hx7⟩)
      · have hB7 : Below n₀ W W7 := (hkc.trans (F6.below.mono (Nat.le_trans hn0 hkc.size))).trans hk7
        gi_wp2
        go_roundw
        case rel => exact ⟨k + 1, by omega, by go_num, by rw [← hnx.out]; exact hJ7, hB7⟩
        case measure => simp [intOf]; omega
      · gi_wp2
        refine bodyPost_ret (results_none rfl _ _ _) rfl ?_
        exact ⟨⟨_, rfl⟩, .inr ⟨_, by first | exact hx7 | exact ⟨trivial, hx7⟩⟩⟩
    · obtain rfl : k = L.length := by omega
      have hall : (L.map (fun c => c.f0)).take L.length = L.map (fun c => c.f0) := by
        rw [List.take_of_length_le]; simp
      gi_wp2
      go_end0
      exact ⟨⟨_, rfl⟩, .inl ⟨_, rfl, by rw [← hall]; exact hJk⟩⟩
theorem eachi_stops (n : Nat) (hn : 1 ≤ n) {Bl Bo cap : Nat} {A : Option Addr} {L : List S27} {w : World} (hBl : w.cell? ⟨Bl, 0, none⟩ = some (.slice A L.length cap)) (hBo : w.cell? ⟨Bo, 0, none⟩ = some (.func (.func 31) #[] #[])) (hC : Kd.C k27 w A L.length L) :
    SeqStopsK Fence.wide n Tryz.prog 66 #[.pointer (some ⟨Bl, 0, none⟩), .pointer (some ⟨Bo, 0, none⟩)] (fun x : Int => #[.int .i64 x]) (Below w.heap.size) (fun ys => ys = L.map (fun c => c.f0)) (fun _ => True) L.length w := fun l J Jx W hW hJ hJx hY hJ0 => by
  have f := Fr.of_below hW (Nat.le_refl _) (fun _ => False)
  refine eachi1_in n hn J Jx W hJ hY ((f.cell (a := ⟨Bl, 0, none⟩) (World.block_lt_of_cell? w _ hBl) (fun h => h)).trans hBl) ((f.cell (a := ⟨Bo, 0, none⟩) (World.block_lt_of_cell? w _ hBo) (fun h => h)).trans hBo) (World.block_lt_of_cell? w _ hBo) (Kd.C_below hC hW) (fun h0 r off e => ?_) f.size hJ0
  subst e
  obtain ⟨r', off', e, hr, _⟩ := C27_open hC h0
  injection e with e
  injection e with e1 e2
  omega
def OwI (base : Nat) (w : World) (v : Value) (l : List Int) : Prop := w.ownsRow base 3 1 v l.length (l.map (Value.int .i64))
theorem infoN : (Tryz.prog.info? 3).map (fun i => (i.zero, i.size, i.bytes)) = some (some (.int .i64 0), 1, 8) := by kernel_rfl
theorem incell (W : World) (x : Int) : ∀ j u, [Value.int .i64 x][j]? = some u → (W.alloc (.cells #[.int .i64 x] 3)).cell? ((⟨W.heap.size, 0, none⟩ : Addr).add j) = some u := by
  intro j u hj
  rw [addE, Nat.zero_add, (Blk.new W #[.int .i64 x] 3).cell]
  match j, hj with
  | 0, hj => exact hj
  | j + 1, hj => simp at hj
theorem int_one (x : Int) : ∀ u ∈ [Value.int .i64 x], u.oneCell' = true := fun u hu => by rw [List.mem_singleton.1 hu]; rfl
set_option maxHeartbeats 4000000 in
theorem appseqi_at {w : World} {gf N : Nat} {lb : Array Value} {ys : List Int} (hent : ∀ args w, (callFunc gf args).run Tryz.prog w = .ok (.enter gf args) w) (hN : N ≤ 16) (hlen : ys.length ≤ 16)
    (hseq : SeqStopsK Fence.wide 5 Tryz.prog gf lb (fun x : Int => #[.int .i64 x]) (Below w.heap.size) (fun l => l = ys) (fun _ => True) N w) :
    Calls Tryz.prog 65 #[.slice none 0 0, .func (.func gf) #[] lb] w fun e w' => ∃ v, e = .returned v ∧ OwI w.heap.size w' v ys ∧ Fr (fun _ => False) w w' := by
  refine (callsIn_wide (n := 6)).1 ?_
  refine callsIn_of_wp_marks Tryz.func65 rfl trivial ?_ rfl
  simp only [Tryz.ntmps65, List.size_toArray, List.length_cons, List.length_nil, Nat.reduceAdd, Nat.reduceSub, Array.replicate_succ, Array.replicate_zero, List.push_toArray, List.append_toArray, List.nil_append, List.cons_append]
  obtain ⟨i0, hi0, hz0, hsz0, hby0⟩ : ∃ i0, Tryz.prog.info? 3 = some i0 ∧ i0.zero = some (.int .i64 0) ∧ i0.size = 1 ∧ i0.bytes = 8 := by
    obtain ⟨i0, h1, h2⟩ := Option.map_eq_some_iff.1 infoN
    simp only [Prod.mk.injEq] at h2
    exact ⟨i0, h1, h2.1, h2.2.1, h2.2.2⟩
  gi_wp2_with fail
  generalize hW : World.alloc w _ = W2
  have bS : Boxed W2 w.heap.size 28 (.slice none 0 0) := by subst hW; exact Boxed.new _ _ _
  have f2 : Fr (fun _ => False) w W2 := by subst hW; (repeat' (first | (with_reducible exact Fr.refl _ _) | (with_reducible assumption) | (with_reducible refine Fr.alloc ?_ _) | (with_reducible refine Fr.drew ?_) | (with_reducible refine Fr.drewN ?_ _) | (with_reducible refine Fr.setCell ?_ _ _ ?_) | (exact Or.inr rfl) | (left; simp; done) | (left; simp; omega) | (simp; done) | (simp; omega) | omega))
  have hs2 : W2.heap.size = w.heap.size + 1 := by subst hW; simp
  clear hW
  refine wpIn_rangeFunc_ownH (n := 6) (w := W2) rfl (by omega) (gf := gf) (lb := lb) rfl trivial hent hseq belowK_t (belowK_b (by omega)) f2.below (fun _ => rfl)
    (fun pre W => (∃ v, Boxed W w.heap.size 28 v ∧ W.ownsRow w.heap.size 3 1 v pre.length (pre.map (Value.int .i64)) ∧ True) ∧ Below w.heap.size w W)
    (fun _ _ _ => False)
    (OwnFrom.and (Own.from (holdsRow_own _ _ _ _ _ (fun pre : List Int => pre.length) (fun pre : List Int => pre.map (Value.int .i64)) (fun _ _ => True)) _) (ownFrom_below (Nat.le_refl _) (by omega)))
    (fun _ _ _ _ _ hs _ _ => hs)
    ⟨⟨_, bS, World.ownsRow_nil _ _ _ _, trivial⟩, f2.below⟩
    (fun x a' W => a' = { tmps := #[.slice none 0 0, .func (.func gf) #[] lb, .pointer (some ⟨w.heap.size, 0, none⟩), undef, .slice none 0 0, .int .i64 x, .func (.func gf) #[] lb, .int .i64 x, undef, undef, undef, undef, undef], defers := [] })
    (fun x a' => ownFrom_pure _ (fun _ => _)) ?assign ?body ?done ?stop
  case assign =>
    rintro l pre x W K hI hK
    gi_wp2
    exact hK _ _ (KeepsFrom.refl _ _) (Below.refl _ W) hI rfl
  case body =>
    rintro l pre x a' W hl ⟨rc, hrc⟩ ⟨⟨v, hv, hrow, _⟩, hB⟩ rfl hlt
    have cv := hv.cell
    have lv := hv.lt
    have hsz := hB.size
    have hcl := incell W x
    have h1c := int_one x
    have b1 : pre.length + 1 ≤ maxLen := by unfold maxLen; omega
    have b2 : (pre.length + 1) * 8 ≤ 140737488355328 := by omega
    have b3 : w.heap.size ≤ (W.alloc (.cells #[.int .i64 x] 3)).heap.size := by simp; omega
    have hne : (28 : TypeId) ≠ 3 := by decide
    have h30 : 0 < 1 := by decide
    gi_wp2_with (gi_at_builtin; refine wpListIn_append_own _ rfl _ _ 28 rfl w.heap.size 3 i0 _ 1 8 Tryz.underlying28 hi0 hz0 hsz0 hby0 rfl h30 v pre.length (pre.map (Value.int .i64)) rfl (hrow.alloc _) ⟨W.heap.size, 0, none⟩ 1 1 [Value.int .i64 x] rfl rfl hcl h1c b1 b2 b3 ?_; intro v' w1 hown' hgrow _; obtain ⟨g', cap', rfl⟩ := ownsRow_succ hown'; obtain ⟨hv1, hv2, hr2, hk2, hb2⟩ := hv.appended hne hrow hB.size (Nat.le_refl _) hown' hgrow; have hc1 := hv1.cell; have hf1 := hv1.frozen)
    exact ⟨hk2.from _, hb2, ⟨⟨_, hv2, by rw [List.length_append, List.map_append]; simpa using hr2, trivial⟩, hB.trans hb2⟩⟩
  case done =>
    rintro D zs W hD rfl ⟨⟨v, hv, hrow, _⟩, hB⟩ hK
    have cv := hv.cell
    gi_wp2
    refine ⟨by simp, .inl ⟨_, _, rfl, run_takeDeferred hK, ?_⟩⟩
    exact ⟨_, results_tmp rfl _ _ _, v, rfl, ownsRow_putObj hrow _ hK rfl, Fr.of_below (hB.trans (belowK_b (n₀ := w.heap.size) (w := w) (Nat.le_refl _) W D _ _ (by omega) hK rfl rfl)) (Nat.le_refl _) _⟩
  case stop =>
    rintro D c pre W _ _ h _
    exact h.elim
theorem colli_at {w1 : World} {Bl Bo cap : Nat} {A : Option Addr} {L : List S27} (hcl : w1.cell? ⟨Bl, 0, none⟩ = some (.slice A L.length cap)) (hco : w1.cell? ⟨Bo, 0, none⟩ = some (.func (.func 31) #[] #[])) (hC : Kd.C k27 w1 A L.length L) (h16 : L.length ≤ 16) :
    Calls Tryz.prog 29 #[.func (.func 66) #[] #[.pointer (some ⟨Bl, 0, none⟩), .pointer (some ⟨Bo, 0, none⟩)]] w1 fun e w' => ∃ v, e = .returned v ∧ OwI w1.heap.size w' v (L.map (fun c => c.f0)) ∧ Fr (fun _ => False) w1 w' := by
  have HS := hidE (eachi_stops 5 (by omega) hcl hco hC)
  have HA : Hid (Calls Tryz.prog 65 #[.slice none 0 0, .func (.func 66) #[] #[.pointer (some ⟨Bl, 0, none⟩), .pointer (some ⟨Bo, 0, none⟩)]] w1 fun e w' => ∃ v, e = .returned v ∧ OwI w1.heap.size w' v (L.map (fun c => c.f0)) ∧ Fr (fun _ => False) w1 w') := hidE (appseqi_at (enters_of Tryz.func66 (by kernel_rfl) rfl) h16 (by simpa using h16) HS.out)
  clear hcl hco HS hC
  go_enter Tryz.func29, Tryz.ntmps29
  go_wp2_with fail
  refine HA.out.mono ?_
  rintro e w2 ⟨v, rfl, hv, k2⟩
  go_wp2
  go_ret
  exact ⟨_, rfl, hv, k2⟩
end Go.Proofs.YtapagoaoglmegaaGreat
namespace Go.Proofs.YtapagoaoglmegaaGreat
open Go.RowKit Go.Proofs.YtapagoaoglmegaaGreatW.PrintWords Go.Proofs.YtapagoaoglmegaaGreatW.PrintLast Go.Proofs.YtapagoaoglmegaaGreatW.PrintMore PCl
set_option linter.unusedVariables false
set_option linter.unusedSimpArgs false
set_option maxRecDepth 100000
theorem R_C {w : World} {base : Nat} {ok : Nat → Prop} {v : Value} {xs : List S27} (h : Kd.R k27 27 w base ok v xs) :
    ∃ A c, v = .slice A xs.length c ∧ xs.length ≤ c ∧ ∀ W, Fr (fun _ => False) w W → Kd.C k27 W A xs.length xs := by
  rcases Row.of_R h with ⟨rfl, rfl⟩ | ⟨g, cap, rfl, hg, hm, hr⟩
  · exact ⟨none, 0, rfl, Nat.le_refl _, fun W k => ⟨rfl, by simp, fun h => absurd h (by simp)⟩⟩
  · exact ⟨_, cap, rfl, hr.len, fun W k => (hr.fr k (fun h => h)).toC hm⟩
theorem row_R {w : World} {base : Nat} {v : Value} {xs : List S27} (h : Kd.R k27 27 w base (fun _ => True) v xs) (h0 : 0 < xs.length) : ∃ g cap, v = .slice (some ⟨g, 0, none⟩) xs.length cap ∧ base ≤ g ∧ cap ≤ maxLen ∧ Row w g cap xs := by
  rcases Row.of_R h with ⟨_, rfl⟩ | h
  · simp at h0
  · exact h
structure ChR where
 at_ : Int
 lo : Int
 hi : Int
 mean : Int
 jit : Int
 who : List Int
 er : Int
def spansOf (l : List S27) : List S25 := l.map (fun c => c.f1)
def hullOf (l : List S27) : S25 := ⟨(rd_T27 l 0).f1.f0, (hullZ (spansOf l)).1, (hullZ (spansOf l)).2.1⟩
def chNo (e : Int) : ChR := ⟨0, 0, 0, 0, 0, [], e⟩
def chZ (l : List S27) : ChR :=
 if mayB l = true then
  if (hullZ (spansOf l)).2.2 = 0 then
   if (pruneZ l (hullOf l)).2 = 0 then ⟨(hullOf l).f0, (hullOf l).f1, (hullOf l).f2, meanZ (spansOf (pruneZ l (hullOf l)).1) (hullOf l), jitZ (spansOf (pruneZ l (hullOf l)).1) (hullOf l), (pruneZ l (hullOf l)).1.map (fun c => c.f0), 0⟩
   else chNo (pruneZ l (hullOf l)).2
  else chNo (hullZ (spansOf l)).2.2
 else chNo 1
def DivL (L : List S25) (h : S25) : Prop := (∀ s ∈ L, DivOk (wideZ L).toNat 1024 (brZ s).toNat) ∧ (∀ s ∈ L, DivOk (mdZ h s - h.f1).toNat (wtZ (wideZ L) s).toNat (allZ L).toNat) ∧ ∀ s ∈ L, DivOk (dist (mdZ h s) (meanZ L h)).toNat (wtZ (wideZ L) s).toNat (allZ L).toNat
theorem prune_in {l : List S27} {h : S25} {x : List S27} (hp : pruneZ l h = (x, 0)) : Fld l ∧ SpOk h ∧ x.Sublist l ∧ 0 < x.length := by
 unfold pruneZ at hp
 by_cases ho : pruneOk l h = true
 ·rw [if_pos ho] at hp
  by_cases h0 : (leftZ l h).length = 0
  ·rw [if_pos h0] at hp
   have := congrArg Prod.snd hp; simp at this
  ·rw [if_neg h0] at hp
   have e : leftZ l h = x := congrArg Prod.fst hp
   obtain ⟨h1, h2, _⟩ := (pruneOk_iff l h).1 ho
   have P : Pruned (l.filter (keepB h)) (leftZ l h) := pruneGo_is _ _ (Nat.le_refl _)
   refine ⟨h1, h2, ?_, by rw [← e]; omega⟩
   rw [← e]
   exact P.sub.trans List.filter_sublist
 ·rw [if_neg ho] at hp
  have := congrArg Prod.snd hp; simp at this
theorem prZ_at {W : World} {A : Option Addr} {n c : Nat} {l : List S27} {h : S25} {r : List S27} {e : Int} (hC : Kd.C k27 W A n l) (hn : n = l.length) (hc : n ≤ c) (hw : WhoWf l) (hp : pruneZ l h = (r, e)) :
  Calls Tryz.prog 27 #[.slice A n c, vS h] W fun x w' => ∃ v, x = .returned (.tuple #[v, .int .i64 e]) ∧ Kd.R k27 27 w' W.heap.size (fun _ => True) v r ∧ Fr (fun _ => False) W w' := by
 subst hn
 refine (cluster_Prune.calls A c l h.f0 h.f1 h.f2 r e W hC hc (by unfold cluster_Prune.f; rw [if_pos hw, hp])).mono ?_
 rintro x w' ⟨v, rfl, h1, h2⟩
 exact ⟨v, rfl, h1, Fr.of_below h2 (Nat.le_refl _) _⟩
theorem eachi0_at {w : World} {A : Option Addr} {cap n : Nat} :
  Calls Tryz.prog 30 #[.slice A n cap, .func (.func 31) #[] #[]] w fun e w' => ∃ Bl Bo, e = .returned (.func (.func 66) #[] #[.pointer (some ⟨Bl, 0, none⟩), .pointer (some ⟨Bo, 0, none⟩)]) ∧ w'.cell? ⟨Bl, 0, none⟩ = some (.slice A n cap) ∧ w'.cell? ⟨Bo, 0, none⟩ = some (.func (.func 31) #[] #[]) ∧ Fr (fun _ => False) w w' := by
 refine (eachi_at (w := w) (A := A) (cap := cap) (n := n)).mono ?_
 rintro e w1 ⟨Bl, Bo, rfl, hl, ho, hcl, hco, k1⟩
 exact ⟨Bl, Bo, rfl, hcl, hco, k1⟩
theorem OwI.nil (base : Nat) (w : World) : OwI base w (.slice none 0 0) [] := ⟨rfl, .inl ⟨rfl, rfl⟩⟩
theorem Blk.c6 {w : World} {b : Nat} {v0 v1 v2 v3 v4 v5 : Value} {t : TypeId} (h : Blk w b #[v0, v1, v2, v3, v4, v5] t) : (w.cell? ⟨b, 0, none⟩ = some v0 ∧ w.cell? ⟨b, 1, none⟩ = some v1 ∧ w.cell? ⟨b, 2, none⟩ = some v2 ∧ w.cell? ⟨b, 3, none⟩ = some v3 ∧ w.cell? ⟨b, 4, none⟩ = some v4 ∧ w.cell? ⟨b, 5, none⟩ = some v5) ∧ w.frozen? ⟨b, 0, none⟩ = false ∧ w.frozen? ⟨b, 1, none⟩ = false ∧ w.frozen? ⟨b, 2, none⟩ = false ∧ w.frozen? ⟨b, 3, none⟩ = false ∧ w.frozen? ⟨b, 4, none⟩ = false ∧ w.frozen? ⟨b, 5, none⟩ = false :=
 ⟨⟨h.cell 0, h.cell 1, h.cell 2, h.cell 3, h.cell 4, h.cell 5⟩, h.free 0, h.free 1, h.free 2, h.free 3, h.free 4, h.free 5⟩
theorem Blk.set6 {w : World} {b : Nat} {v0 v1 v2 v3 v4 v5 : Value} {t : TypeId} (h : Blk w b #[v0, v1, v2, v3, v4, v5] t) (u0 u1 u2 u3 u4 u5 : Value) :
  Blk ((((((w.setCell ⟨b, 0, none⟩ u0).setCell ⟨b, 1, none⟩ u1).setCell ⟨b, 2, none⟩ u2).setCell ⟨b, 3, none⟩ u3).setCell ⟨b, 4, none⟩ u4).setCell ⟨b, 5, none⟩ u5) b #[u0, u1, u2, u3, u4, u5] t :=
 (((((h.set rfl).set rfl).set rfl).set rfl).set rfl).set rfl
theorem fr_set6 (w : World) (b : Nat) (u0 u1 u2 u3 u4 u5 : Value) : Fr (fun i => i = b) w ((((((w.setCell ⟨b, 0, none⟩ u0).setCell ⟨b, 1, none⟩ u1).setCell ⟨b, 2, none⟩ u2).setCell ⟨b, 3, none⟩ u3).setCell ⟨b, 4, none⟩ u4).setCell ⟨b, 5, none⟩ u5) :=
 by (repeat' (first | (with_reducible exact Fr.refl _ _) | (with_reducible assumption) | (with_reducible refine Fr.alloc ?_ _) | (with_reducible refine Fr.drew ?_) | (with_reducible refine Fr.drewN ?_ _) | (with_reducible refine Fr.setCell ?_ _ _ ?_) | (exact Or.inr rfl) | (left; simp; done) | (left; simp; omega) | (simp; done) | (simp; omega) | omega))
theorem hull_nil {l : List S27} (h : (hullZ (spansOf l)).2.2 = 0) : 0 < l.length := by
 cases l with
 | nil => exact absurd h (by decide)
 | cons a l => simp
set_option maxHeartbeats 1000000 in
theorem choose_at {w : World} {A : Option Addr} {cap : Nat} {l : List S27} (hC : Kd.C k27 w A l.length l) (hc : l.length ≤ cap) (hw : WhoWf l) (hD : ∀ x, pruneZ l (hullOf l) = (x, 0) → DivL (spansOf x) (hullOf l)) :
  Calls Tryz.prog 9 #[.slice A l.length cap] w fun e w' => ∃ v, e = .returned (.tuple #[.agg #[.int .i64 (chZ l).at_, .int .i64 (chZ l).lo, .int .i64 (chZ l).hi, .int .i64 (chZ l).mean, .int .i64 (chZ l).jit, v], .int .i64 (chZ l).er]) ∧ OwI w.heap.size w' v (chZ l).who ∧ Fr (fun _ => False) w w' := by
 have HC := hidE hC
 have HM := hidE (fun W (k : Fr (fun _ => False) w W) => may_at (Kd.C_below HC.out k.below) hc hw)
 have HW := hidE hw
 have HDv := hidE hD
 obtain ⟨Z, hZ⟩ : ∃ Z, Z = chZ l := ⟨_, rfl⟩
 rw [← hZ]
 have HZ := hidE hZ
 clear hC hw hD hZ
 cases hm : mayB l with
 | false =>
  rw [hm] at HM
  have hz : Z = chNo 1 := by rw [HZ.out]; unfold chZ; rw [hm]; rfl
  subst hz
  clear HZ hm
  go_enter Tryz.func9, Tryz.ntmps9
  go_wp2_with fail
  generalize hW : World.alloc w _ = W1
  have f1 : Fr (fun _ => False) w W1 := by subst hW; (repeat' (first | (with_reducible exact Fr.refl _ _) | (with_reducible assumption) | (with_reducible refine Fr.alloc ?_ _) | (with_reducible refine Fr.drew ?_) | (with_reducible refine Fr.drewN ?_ _) | (with_reducible refine Fr.setCell ?_ _ _ ?_) | (exact Or.inr rfl) | (left; simp; done) | (left; simp; omega) | (simp; done) | (simp; omega) | omega))
  have bR : Blk W1 w.heap.size #[.int .i64 0, .int .i64 0, .int .i64 0, .int .i64 0, .int .i64 0, .slice none 0 0] 30 := by subst hW; (repeat' (first | (with_reducible assumption) | (with_reducible apply Blk.drew) | (with_reducible apply Blk.drewN) | (with_reducible apply Blk.set) | (with_reducible apply Blk.other) | (exact Blk.new' _ _ _ (by first | rfl | (simp; done) | (simp; omega))) | (with_reducible apply Blk.alloc) | (with_reducible rfl) | (simp; done) | (simp; omega) | omega | rfl))
  clear hW
  refine (HM.out W1 f1).mono ?_
  rintro e W2 ⟨rfl, k2⟩
  have bR2 := bR.fr k2 (fun h => h)
  have f2 := f1.trans k2 (fun _ _ h => h)
  obtain ⟨⟨c0, c1, c2, c3, c4, c5⟩, z0, z1, z2, z3, z4, z5⟩ := bR2.c6
  have lR := bR2.lt
  have BR := hidE bR2
  clear bR k2 f1 HM bR2
  go_wp2_with fail
  refine bodyPost_ret (results_ct rfl _ _ w.heap.size 30 #[.int .i64 0, .int .i64 0, .int .i64 0, .int .i64 0, .int .i64 0, .slice none 0 0] (0, 0) _ rfl (BR.out.set6 _ _ _ _ _ _) Tryz.underlying30 rfl (by kernel_rfl)) rfl ?_
  exact ⟨_, rfl, OwI.nil _ _, f2.trans (T := fun i => i = w.heap.size) (by (repeat' (first | (with_reducible exact Fr.refl _ _) | (with_reducible assumption) | (with_reducible refine Fr.alloc ?_ _) | (with_reducible refine Fr.drew ?_) | (with_reducible refine Fr.drewN ?_ _) | (with_reducible refine Fr.setCell ?_ _ _ ?_) | (exact Or.inr rfl) | (left; simp; done) | (left; simp; omega) | (simp; done) | (simp; omega) | omega))) (fun i hi e => by omega)⟩
 | true =>
  rw [hm] at HM
  have hF := (mayB_iff l).1 hm
  have h16 := hF.len
  have hsl : (spansOf l).length = l.length := by unfold spansOf; simp
  have HL := hidE hF
  have HmZ := hidE hm
  clear hm hF
  go_enter Tryz.func9, Tryz.ntmps9
  go_wp2_with fail
  generalize hW : World.alloc w _ = W1
  have f1 : Fr (fun _ => False) w W1 := by subst hW; (repeat' (first | (with_reducible exact Fr.refl _ _) | (with_reducible assumption) | (with_reducible refine Fr.alloc ?_ _) | (with_reducible refine Fr.drew ?_) | (with_reducible refine Fr.drewN ?_ _) | (with_reducible refine Fr.setCell ?_ _ _ ?_) | (exact Or.inr rfl) | (left; simp; done) | (left; simp; omega) | (simp; done) | (simp; omega) | omega))
  have bR : Blk W1 w.heap.size #[.int .i64 0, .int .i64 0, .int .i64 0, .int .i64 0, .int .i64 0, .slice none 0 0] 30 := by subst hW; (repeat' (first | (with_reducible assumption) | (with_reducible apply Blk.drew) | (with_reducible apply Blk.drewN) | (with_reducible apply Blk.set) | (with_reducible apply Blk.other) | (exact Blk.new' _ _ _ (by first | rfl | (simp; done) | (simp; omega))) | (with_reducible apply Blk.alloc) | (with_reducible rfl) | (simp; done) | (simp; omega) | omega | rfl))
  clear hW
  refine (HM.out W1 f1).mono ?_
  rintro e W2 ⟨rfl, k2⟩
  replace bR := bR.fr k2 (fun h => h)
  have f2 := f1.trans k2 (fun _ _ h => h)
  clear HM f1 k2
  go_wp2_with fail
  refine (spans_at (Kd.C_below HC.out f2.below) h16).mono ?_
  rintro e W3 ⟨v, rfl, hv, k3⟩
  obtain ⟨As, cs, rfl, hcs, hCs⟩ := hv.C
  replace bR := bR.fr k3 (fun h => h)
  have f3 := f2.trans k3 (fun _ _ h => h)
  have HH := hidE (hull_at hCs hcs)
  simp only [List.length_map] at HH hcs
  clear f2 k3 hv hCs
  go_wp2_with fail
  with_reducible refine HH.out.mono ?_
  rintro e W4 ⟨rfl, k4⟩
  replace bR := bR.fr k4 (fun h => h)
  have f4 := f3.trans k4 (fun _ _ h => h)
  clear HH k4 f3
  obtain ⟨HZ3, hHZ3⟩ : ∃ q, q = hullZ (List.map (fun c : S27 => c.f1) l) := ⟨_, rfl⟩
  have HHz : Hid (HZ3 = hullZ (spansOf l)) := hidE hHZ3
  rw [← hHZ3]
  clear hHZ3
  obtain ⟨lo, hi, eh⟩ := HZ3
  simp only
  by_cases he : eh = 0
  ·subst he
   have hne : 0 < l.length := hull_nil (by rw [← HHz.out])
   obtain ⟨r, off, rfl, hr, hat⟩ := C27_open HC.out hne
   obtain ⟨c, hc0⟩ : ∃ c, l[0]? = some c := ⟨_, List.getElem?_eq_getElem hne⟩
   obtain ⟨a0, a1, a2, a3, a4⟩ := (hat 0 c hc0).fr f4 (fun h => h)
   rw [Nat.zero_mul, Nat.add_zero] at a0 a1 a2 a3 a4
   have HO : Hid (hullOf l = ⟨c.f1.f0, lo, hi⟩) := hidE (by unfold hullOf; rw [← HHz.out, show (0 : Int) = ((0 : Nat) : Int) from rfl, rd_get hc0])
   have t0 : (0 : Int) < (l.length : Int) := by omega
   clear hat hc0 a0 a2 a3 a4 hsl
   go_wp2_with fail
   generalize hW : World.alloc W4 _ = W5
   have f5' : Fr (fun _ => False) W4 W5 := by subst hW; (repeat' (first | (with_reducible exact Fr.refl _ _) | (with_reducible assumption) | (with_reducible refine Fr.alloc ?_ _) | (with_reducible refine Fr.drew ?_) | (with_reducible refine Fr.drewN ?_ _) | (with_reducible refine Fr.setCell ?_ _ _ ?_) | (exact Or.inr rfl) | (left; simp; done) | (left; simp; omega) | (simp; done) | (simp; omega) | omega))
   have bH : Blk W5 W4.heap.size #[.int .i64 c.f1.f0, .int .i64 lo, .int .i64 hi] 25 := by subst hW; (repeat' (first | (with_reducible assumption) | (with_reducible apply Blk.drew) | (with_reducible apply Blk.drewN) | (with_reducible apply Blk.set) | (with_reducible apply Blk.other) | (exact Blk.new' _ _ _ (by first | rfl | (simp; done) | (simp; omega))) | (with_reducible apply Blk.alloc) | (with_reducible rfl) | (simp; done) | (simp; omega) | omega | rfl))
   clear hW a1
   replace bR := bR.fr f5' (fun h => h)
   have f5 := f4.trans f5' (fun _ _ h => h)
   have hs4 := f4.size
   obtain ⟨Bh, hBh⟩ : ∃ Bh, Bh = W4.heap.size := ⟨_, rfl⟩
   rw [← hBh] at bH ⊢
   have HBh := hidE hBh
   clear hBh
   clear f5' f4
   obtain ⟨x, e2, hp⟩ : ∃ x e2, pruneZ l ⟨c.f1.f0, lo, hi⟩ = (x, e2) := ⟨_, _, rfl⟩
   have HP := hidE (prZ_at (h := ⟨c.f1.f0, lo, hi⟩) (Kd.C_below HC.out f5.below) rfl hc HW.out hp)
   have Hp := hidE hp
   clear hp
   refine HP.out.mono ?_
   rintro e W6 ⟨vx, rfl, hRx, k6⟩
   replace bR := bR.fr k6 (fun h => h)
   replace bH := bH.fr k6 (fun h => h)
   have f6 := f5.trans k6 (fun _ _ h => h)
   clear HP k6 f5
   obtain ⟨Ax, cx, rfl, hcx, hCx⟩ := R_C hRx
   have HCx := hidE (hCx W6 (Fr.refl _ _))
   clear hRx hCx
   by_cases he : e2 = 0
   ·subst he
    obtain ⟨hFl, hHok, hsub, hx0⟩ := prune_in Hp.out
    have hx16 : x.length ≤ 16 := by have := hsub.length_le; omega
    have hDv := HDv.out x (by rw [HO.out]; exact Hp.out)
    rw [HO.out] at hDv
    obtain ⟨M, hM⟩ : ∃ M, M = meanZ (spansOf x) ⟨c.f1.f0, lo, hi⟩ := ⟨_, rfl⟩
    obtain ⟨J, hJ⟩ : ∃ J, J = jitZ (spansOf x) ⟨c.f1.f0, lo, hi⟩ := ⟨_, rfl⟩
    have hz : Z = ⟨c.f1.f0, lo, hi, M, J, x.map (fun c => c.f0), 0⟩ := by
     rw [HZ.out, hM, hJ]
     unfold chZ
     rw [HmZ.out, if_pos rfl, ← HHz.out, if_pos rfl, HO.out, Hp.out, if_pos rfl]
    subst hz
    have hls : ∀ s ∈ spansOf x, SpOk s := fun s hs => by
     obtain ⟨d, hd, rfl⟩ := List.mem_map.1 hs
     exact hFl.span d (hsub.subset hd)
    have hsx : (spansOf x).length = x.length := by unfold spansOf; simp
    have HSp : Hid (∀ W, Fr (fun _ => False) W6 W → Calls Tryz.prog 26 #[.slice Ax x.length cx] W fun e w' => ∃ v, e = .returned v ∧ OwS W.heap.size w' v (spansOf x) ∧ Fr (fun _ => False) W w') := hidE (fun W k => spans_at (Kd.C_below HCx.out k.below) hx16)
    have HMn : Hid (∀ W A8 c8, Kd.C k25 W A8 (spansOf x).length (spansOf x) → (spansOf x).length ≤ c8 → Calls Tryz.prog 28 #[.slice A8 (spansOf x).length c8, .agg #[.int .i64 c.f1.f0, .int .i64 lo, .int .i64 hi]] W fun e w' => e = .returned (.tuple #[.int .i64 M, .int .i64 J, .int .i64 0]) ∧ Fr (fun _ => False) W w') := hidE (fun W A8 c8 hC8 hc8 => by
     rw [hM, hJ]
     exact mean_at (h := ⟨c.f1.f0, lo, hi⟩) hC8 hc8 (by omega) (by omega) hls hHok hDv.1 hDv.2.1 hDv.2.2)
    have hs6 := f6.size
    have h0 := bH.cell 0
    have h1 := bH.cell 1
    have h2 := bH.cell 2
    simp at h0 h1 h2
    have lH := bH.lt
    have HlH := hidE lH
    have hs0 : w.heap.size < W6.heap.size := bR.lt
    clear hFl hHok hsub hDv hls hM hJ HZ
    go_wp2_with fail
    generalize hW : World.alloc W6 _ = W7
    have f7' : Fr (fun _ => False) W6 W7 := by subst hW; (repeat' (first | (with_reducible exact Fr.refl _ _) | (with_reducible assumption) | (with_reducible refine Fr.alloc ?_ _) | (with_reducible refine Fr.drew ?_) | (with_reducible refine Fr.drewN ?_ _) | (with_reducible refine Fr.setCell ?_ _ _ ?_) | (exact Or.inr rfl) | (left; simp; done) | (left; simp; omega) | (simp; done) | (simp; omega) | omega))
    have bC : Blk W7 W6.heap.size #[.int .i64 c.f1.f0, .int .i64 lo, .int .i64 hi, .int .i64 0, .int .i64 0, .slice none 0 0] 30 := by subst hW; (repeat' (first | (with_reducible assumption) | (with_reducible apply Blk.drew) | (with_reducible apply Blk.drewN) | (with_reducible apply Blk.set) | (with_reducible apply Blk.other) | (exact Blk.new' _ _ _ (by first | rfl | (simp; done) | (simp; omega))) | (with_reducible apply Blk.alloc) | (with_reducible rfl) | (simp; done) | (simp; omega) | omega | rfl))
    clear hW
    replace bR := bR.fr f7' (fun h => h)
    replace bH := bH.fr f7' (fun h => h)
    obtain ⟨Bc, hBc⟩ : ∃ Bc, Bc = W6.heap.size := ⟨_, rfl⟩
    rw [← hBc] at bC ⊢
    have hRB : w.heap.size ≠ Bc := by omega
    have hHB : Bh ≠ Bc := by have := HlH.out; omega
    have HBc := hidE hBc
    clear hBc
    clear h0 h1 h2
    have h0 := bH.cell 0
    have h1 := bH.cell 1
    have h2 := bH.cell 2
    simp at h0 h1 h2
    have msd : W7.drew.cell? ⟨Bh, 0, none⟩ = some (.int .i64 c.f1.f0) ∧ W7.drew.cell? ⟨Bh, 1, none⟩ = some (.int .i64 lo) ∧ W7.drew.cell? ⟨Bh, 2, none⟩ = some (.int .i64 hi) := ⟨h0, h1, h2⟩
    refine start_ (n := 13) (S := fun w' => w'.cell? ⟨Bh, 0, none⟩ = some (.int .i64 c.f1.f0) ∧ w'.cell? ⟨Bh, 1, none⟩ = some (.int .i64 lo) ∧ w'.cell? ⟨Bh, 2, none⟩ = some (.int .i64 hi)) (ds := [11]) #[oN,oN,oN,oN,oN,oN,oN,oN,oN,oN,oN,oN,oN] (by kernel_rfl) rfl rfl ⟨msd.1, msd.2.1, msd.2.2⟩ (fun hHeld => ?_)
    refine pure_ (i := 0) (N := some 49) (v := ?_) (a' := ?_) #[oY,oN,oN,oN,oN,oN,oN,oN,oN,oN,oN,oN,oN] rfl rfl (by kernel_rfl) (fun _ _ _ h => h) (Or.inl ⟨by rfl, ?_⟩) ?_ ?_
    rotate_left
    ·intro w'
     go_simp
     with_reducible rfl
    rotate_left
    ·simp only [Act.put, List.setIfInBounds_toArray, List.set_cons_zero, List.set_cons_succ, i64_w, i32_w]
     rfl
    refine take_ (i := 2) (N := some 51) (v := ?_) (a' := ?_) #[oY,oN,oY,oN,oN,oN,oN,oN,oN,oN,oN,oN,oN] rfl rfl (by kernel_rfl) (fun _ _ _ h => h) (Or.inl ⟨by rfl, ?_⟩) hHeld ?_ ?_
    rotate_left
    ·rintro w' ⟨s0, s1, s2⟩
     go_simp
     with_reducible rfl
    rotate_left
    ·simp only [Act.put, List.setIfInBounds_toArray, List.set_cons_zero, List.set_cons_succ, i64_w, i32_w]
     rfl
    refine one_ (i := 1) (N := some 50) #[oY,oY,oY,oN,oN,oN,oN,oN,oN,oN,oN,oN,oN] rfl rfl (by kernel_rfl) (by decide) (fun K hK => ?_)
    refine goes_ Tryz.func26 (by kernel_rfl) rfl #[.slice Ax x.length cx] (by rfl) rfl rfl (by simp only [List.map_toArray, List.map_cons, List.map_nil]; rfl) ?_
    refine (HSp.out _ (f7'.drew)).mono ?_
    rintro e W8 ⟨v8, rfl, hv8, k8'⟩
    have k8 : Fr (fun _ => False) W7 W8 := Fr.trans ((Fr.refl _ _).drew) k8' (fun _ _ h => h)
    obtain ⟨A8, c8, rfl, hc8, hC8⟩ := hv8.C
    refine ⟨_, rfl, ?_⟩
    have bH8 := bH.fr k8 (fun h => h)
    have ms8 : W8.cell? ⟨Bh, 0, none⟩ = some (.int .i64 c.f1.f0) ∧ W8.cell? ⟨Bh, 1, none⟩ = some (.int .i64 lo) ∧ W8.cell? ⟨Bh, 2, none⟩ = some (.int .i64 hi) := ⟨bH8.cell 0, bH8.cell 1, bH8.cell 2⟩
    refine hK.out _ _ ⟨ms8.1, ms8.2.1, ms8.2.2⟩ (fun hHeld => ?_)
    clear hK K
    refine norm_ (a' := ?_) ?_ ?_
    rotate_left
    ·show Act.put _ (some 50) _ = _
     simp only [Act.put, List.setIfInBounds_toArray, List.set_cons_zero, List.set_cons_succ, i64_w, i32_w]
     rfl
    refine one_ (i := 3) (N := some 52) #[oY,oY,oY,oY,oN,oN,oN,oN,oN,oN,oN,oN,oN] rfl rfl (by kernel_rfl) (by decide) (fun K hK => ?_)
    refine goes_ Tryz.func28 (by kernel_rfl) rfl #[.slice A8 (spansOf x).length c8, .agg #[.int .i64 c.f1.f0, .int .i64 lo, .int .i64 hi]] (by rfl) rfl rfl (by simp only [List.map_toArray, List.map_cons, List.map_nil]; rfl) ?_
    refine (HMn.out _ A8 c8 (by exact hC8) hc8).mono ?_
    rintro e W9 ⟨rfl, k9'⟩
    have k9 : Fr (fun _ => False) W7 W9 := k8.trans k9' (fun _ _ h => h)
    refine ⟨_, rfl, ?_⟩
    have bH9 := bH.fr k9 (fun h => h)
    have bC9 := bC.fr k9 (fun h => h)
    obtain ⟨⟨q0, q1, q2, q3, q4, q5⟩, z0, z1, z2, z3, z4, z5⟩ := bC9.c6
    have lC := bC9.lt
    have ms9 : W9.cell? ⟨Bh, 0, none⟩ = some (.int .i64 c.f1.f0) ∧ W9.cell? ⟨Bh, 1, none⟩ = some (.int .i64 lo) ∧ W9.cell? ⟨Bh, 2, none⟩ = some (.int .i64 hi) := ⟨bH9.cell 0, bH9.cell 1, bH9.cell 2⟩
    refine hK.out _ _ ⟨ms9.1, ms9.2.1, ms9.2.2⟩ (fun hHeld => ?_)
    clear hK K
    refine norm_ (a' := ?_) ?_ ?_
    rotate_left
    ·show Act.put _ (some 52) _ = _
     simp only [Act.put, List.setIfInBounds_toArray, List.set_cons_zero, List.set_cons_succ, i64_w, i32_w]
     rfl
    refine pure_ (i := 4) (N := some 48) (v := ?_) (a' := ?_) #[oY,oY,oY,oY,oY,oN,oN,oN,oN,oN,oN,oN,oN] rfl rfl (by kernel_rfl) (fun _ _ _ h => h) (Or.inl ⟨by rfl, ?_⟩) ?_ ?_
    rotate_left
    ·intro w'
     go_simp
     with_reducible rfl
    rotate_left
    ·simp only [Act.put, List.setIfInBounds_toArray, List.set_cons_zero, List.set_cons_succ, i64_w, i32_w]
     rfl
    refine pure_ (i := 5) (N := some 53) (v := ?_) (a' := ?_) #[oY,oY,oY,oY,oY,oY,oN,oN,oN,oN,oN,oN,oN] rfl rfl (by kernel_rfl) (fun _ _ _ h => h) (Or.inl ⟨by rfl, ?_⟩) ?_ ?_
    rotate_left
    ·intro w'
     go_simp
     with_reducible rfl
    rotate_left
    ·simp only [Act.put, List.setIfInBounds_toArray, List.set_cons_zero, List.set_cons_succ, i64_w, i32_w]
     rfl
    refine pure_ (i := 6) (N := some 54) (v := ?_) (a' := ?_) #[oY,oY,oY,oY,oY,oY,oY,oN,oN,oN,oN,oN,oN] rfl rfl (by kernel_rfl) (fun _ _ _ h => h) (Or.inl ⟨by rfl, ?_⟩) ?_ ?_
    rotate_left
    ·intro w'
     go_simp
     with_reducible rfl
    rotate_left
    ·simp only [Act.put, List.setIfInBounds_toArray, List.set_cons_zero, List.set_cons_succ, i64_w, i32_w]
     rfl
    refine pure_ (i := 7) (N := some 55) (v := ?_) (a' := ?_) #[oY,oY,oY,oY,oY,oY,oY,oY,oN,oN,oN,oN,oN] rfl rfl (by kernel_rfl) (fun _ _ _ h => h) (Or.inl ⟨by rfl, ?_⟩) ?_ ?_
    rotate_left
    ·intro w'
     go_simp
     with_reducible rfl
    rotate_left
    ·simp only [Act.put, List.setIfInBounds_toArray, List.set_cons_zero, List.set_cons_succ, i64_w, i32_w]
     rfl
    refine pure_ (i := 8) (N := some 56) (v := ?_) (a' := ?_) #[oY,oY,oY,oY,oY,oY,oY,oY,oY,oN,oN,oN,oN] rfl rfl (by kernel_rfl) (fun _ _ _ h => h) (Or.inl ⟨by rfl, ?_⟩) ?_ ?_
    rotate_left
    ·intro w'
     go_simp
     with_reducible rfl
    rotate_left
    ·simp only [Act.put, List.setIfInBounds_toArray, List.set_cons_zero, List.set_cons_succ, i64_w, i32_w]
     rfl
    refine one_ (i := 9) (N := none) #[oY,oY,oY,oY,oY,oY,oY,oY,oY,oY,oN,oN,oN] rfl rfl (by kernel_rfl) (by decide) (fun K hK => ?_)
    refine skip_ (w1 := ?_) (by rfl) rfl ?_ ?_
    rotate_left
    ·go_simp
     rfl
    generalize hW10 : World.setCell W9 _ _ = W10
    have b10 : Blk W10 Bc #[.int .i64 c.f1.f0, .int .i64 lo, .int .i64 hi, .int .i64 M, .int .i64 0, .slice none 0 0] 30 := by subst hW10; exact bC9.set rfl
    have k10 : Fr (fun i => i = Bc) W7 W10 := by subst hW10; exact ((k9.mono (fun _ _ h => h.elim)).setCell _ _ (.inr rfl))
    have bH10 : Blk W10 Bh #[.int .i64 c.f1.f0, .int .i64 lo, .int .i64 hi] 25 := by subst hW10; exact bH9.other (fun e => hHB e.symm)
    have c10 : W10.cell? ⟨Bc, 4, none⟩ = some (.int .i64 0) := b10.cell 4
    have z10 := b10.free 4
    have l10 := b10.lt
    have ms10 : W10.cell? ⟨Bh, 0, none⟩ = some (.int .i64 c.f1.f0) ∧ W10.cell? ⟨Bh, 1, none⟩ = some (.int .i64 lo) ∧ W10.cell? ⟨Bh, 2, none⟩ = some (.int .i64 hi) := ⟨bH10.cell 0, bH10.cell 1, bH10.cell 2⟩
    clear hW10 q0 q1 q2 q3 q4 q5 z0 z1 z2 z3 z4 z5
    refine hK.out _ _ ⟨ms10.1, ms10.2.1, ms10.2.2⟩ (fun hHeld => ?_)
    clear hK K
    refine pure_ (i := 10) (N := some 57) (v := ?_) (a' := ?_) #[oY,oY,oY,oY,oY,oY,oY,oY,oY,oY,oY,oN,oN] rfl rfl (by kernel_rfl) (fun _ _ _ h => h) (Or.inl ⟨by rfl, ?_⟩) ?_ ?_
    rotate_left
    ·intro w'
     go_simp
     with_reducible rfl
    rotate_left
    ·simp only [Act.put, List.setIfInBounds_toArray, List.set_cons_zero, List.set_cons_succ, i64_w, i32_w]
     rfl
    refine last_ (i := 11) (N := none) #[oY,oY,oY,oY,oY,oY,oY,oY,oY,oY,oY,oY,oN] rfl rfl (by kernel_rfl) (by decide) (fun K hK => ?_)
    refine skip_ (w1 := ?_) (by rfl) rfl ?_ ?_
    rotate_left
    ·go_simp
     rfl
    refine hK.out _ _ ?_
    clear hK K
    refine pure_ (i := 12) (N := some 6) (v := ?_) (a' := ?_) #[oY,oY,oY,oY,oY,oY,oY,oY,oY,oY,oY,oY,oY] rfl rfl (by kernel_rfl) (fun _ _ _ h => h) (Or.inl ⟨by rfl, ?_⟩) ?_ ?_
    rotate_left
    ·intro w'
     go_simp
     with_reducible rfl
    rotate_left
    ·simp only [Act.put, List.setIfInBounds_toArray, List.set_cons_zero, List.set_cons_succ, i64_w, i32_w]
     rfl
    refine done_ (by kernel_rfl) ?_
    clear hHeld ms10 ms9 ms8 msd h0 h1 h2 c10 z10
    generalize hW11 : World.setCell _ _ _ = W11
    have b11 : Blk W11 Bc #[.int .i64 c.f1.f0, .int .i64 lo, .int .i64 hi, .int .i64 M, .int .i64 J, .slice none 0 0] 30 := by subst hW11; exact (b10.set rfl)
    have k11 : Fr (fun i => i = Bc) W7 W11 := by subst hW11; exact k10.setCell _ _ (.inr rfl)
    have bR11 := bR.fr k11 hRB
    have F61 : Fr (fun _ => False) W6 W11 := f7'.trans k11 (fun i hi e => by have := HBc.out; omega)
    have F11 : Fr (fun _ => False) w W11 := f6.trans F61 (fun _ _ h => h)
    have HCx11 := hidE (Kd.C_below HCx.out F61.below)
    have HB11 := hidE b11
    have HR11 := hidE bR11
    clear hW11 b10 k10 bH10 l10 b11 bR11 k11 F61 bR bH bC lH lC bH9 bC9 bH8 hC8 hv8
    have HEa := hidE (eachi0_at (w := W11) (A := Ax) (cap := cx) (n := x.length))
    go_wp2_with fail
    refine HEa.out.mono ?_
    rintro e W12 ⟨Bl, Bo, rfl, hcl, hco, k12⟩
    have HCo := hidE (colli_at hcl hco (Kd.C_below HCx11.out k12.below) hx16)
    have HB12 := hidE (HB11.out.fr k12 (fun h => h))
    have HR12 := hidE (HR11.out.fr k12 (fun h => h))
    have F12 := F11.trans k12 (fun _ _ h => h)
    clear HEa hcl hco k12 F11 HB11 HR11 HCx11
    go_wp2_with fail
    refine HCo.out.mono ?_
    rintro e W13 ⟨v, rfl, hv, k13⟩
    have b13 := HB12.out.fr k13 (fun h => h)
    have bR13 := HR12.out.fr k13 (fun h => h)
    have F13 := F12.trans k13 (fun _ _ h => h)
    have hs12 := F12.size
    have lBc := HB12.out.lt
    clear HCo k13 F12
    obtain ⟨g, cp, rfl, hg⟩ : ∃ g cp, v = .slice (some ⟨g, 0, none⟩) (x.map (fun c => c.f0)).length cp ∧ W12.heap.size ≤ g := by
     rcases hv.2 with ⟨_, h0⟩ | ⟨g, cap, cur, e, hg, _⟩
     ·rw [List.length_map] at h0; omega
     ·exact ⟨g, cap, e, hg⟩
    have hv' : OwI w.heap.size W13 (.slice (some ⟨g, 0, none⟩) (x.map (fun c => c.f0)).length cp) (x.map (fun c => c.f0)) := ⟨hv.1, by
     rcases hv.2 with h | ⟨g, cap, cur, e1, hg, hb⟩
     ·exact .inl h
     ·exact .inr ⟨g, cap, cur, e1, Nat.le_trans hs12 hg, hb⟩⟩
    have HV := hidE hv'
    have gB : g ≠ Bc := by omega
    have lRw := HR12.out.lt
    have gR : g ≠ w.heap.size := by omega
    obtain ⟨⟨q0, q1, q2, q3, q4, q5⟩, z0, z1, z2, z3, z4, z5⟩ := b13.c6
    have lC := b13.lt
    have HB13 := hidE b13
    have HR13 := hidE bR13
    clear hv hv' b13 bR13 HB12 HR12 q0 q1 q2 q3 q4 z0 z1 z2 z3 z4 lBc lRw
    simp only [List.length_map]
    go_upto_region 15 with fail
    generalize hW14 : World.setCell W13 _ _ = W14
    have b14 : Blk W14 Bc #[.int .i64 c.f1.f0, .int .i64 lo, .int .i64 hi, .int .i64 M, .int .i64 J, .slice (some ⟨g, 0, none⟩) x.length cp] 30 := by subst hW14; exact (HB13.out.set rfl)
    have k14 : Fr (fun i => i = Bc) W13 W14 := by subst hW14; (repeat' (first | (with_reducible exact Fr.refl _ _) | (with_reducible assumption) | (with_reducible refine Fr.alloc ?_ _) | (with_reducible refine Fr.drew ?_) | (with_reducible refine Fr.drewN ?_ _) | (with_reducible refine Fr.setCell ?_ _ _ ?_) | (exact Or.inr rfl) | (left; simp; done) | (left; simp; omega) | (simp; done) | (simp; omega) | omega))
    have bR14 := HR13.out.fr k14 hRB
    have hv14 := HV.out
    clear hW14 q5 z5
    obtain ⟨⟨q0, q1, q2, q3, q4, q5⟩, z0, z1, z2, z3, z4, z5⟩ := b14.c6
    obtain ⟨⟨r0, r1, r2, r3, r4, r5⟩, y0, y1, y2, y3, y4, y5⟩ := bR14.c6
    have lC := b14.lt
    have lR := bR14.lt
    have BR14 := hidE bR14
    have K14 := hidE k14
    clear b14 bR14 k14 hv14 z0 z1 z2 z3 z4 z5 HB13 HR13
    go_wp2_with fail
    have k15 : Fr (fun i => i = Bc ∨ i = w.heap.size) W13 _ := (K14.out.mono (T := fun i => i = Bc ∨ i = w.heap.size) (fun _ _ h => .inl h)).trans (fr_set6 W14 w.heap.size (.int .i64 c.f1.f0) (.int .i64 lo) (.int .i64 hi) (.int .i64 M) (.int .i64 J) (.slice (some ⟨g, 0, none⟩) x.length cp)) (fun _ _ h => .inr h)
    have h1 := HV.out
    rw [List.length_map] at h1
    have o15 := own_fr0 h1 k15 (fun g' e hS => by
     have e : some g = some g' := e
     injection e with e
     subst e
     rcases hS with h | h
     ·exact gB h
     ·exact gR h)
    have F15 := F13.trans k15 (fun i hi h => by have := HBc.out; omega)
    refine bodyPost_ret (results_ct rfl _ _ w.heap.size 30 #[.int .i64 c.f1.f0, .int .i64 lo, .int .i64 hi, .int .i64 M, .int .i64 J, .slice (some ⟨g, 0, none⟩) x.length cp] (0, 0) _ rfl (BR14.out.set6 _ _ _ _ _ _) Tryz.underlying30 rfl (by kernel_rfl)) rfl ?_
    exact ⟨_, rfl, o15, F15⟩
   ·have t1 : (e2 == 0) = false := beq_eq_false_iff_ne.2 he
    have hz : Z = chNo e2 := by
     rw [HZ.out]
     unfold chZ
     rw [HmZ.out, if_pos rfl, ← HHz.out, if_pos rfl, HO.out, Hp.out, if_neg he]
    subst hz
    obtain ⟨⟨c0, c1, c2, c3, c4, c5⟩, z0, z1, z2, z3, z4, z5⟩ := bR.c6
    have lR := bR.lt
    have BR := hidE bR
    have HE := hidE he
    clear bR he HZ
    go_wp2_with fail
    refine bodyPost_ret (results_ct rfl _ _ w.heap.size 30 #[.int .i64 0, .int .i64 0, .int .i64 0, .int .i64 0, .int .i64 0, .slice none 0 0] (0, 0) _ rfl (BR.out.set6 _ _ _ _ _ _) Tryz.underlying30 rfl (by kernel_rfl)) rfl ?_
    exact ⟨_, rfl, OwI.nil _ _, f6.trans (T := fun i => i = w.heap.size) (by (repeat' (first | (with_reducible exact Fr.refl _ _) | (with_reducible assumption) | (with_reducible refine Fr.alloc ?_ _) | (with_reducible refine Fr.drew ?_) | (with_reducible refine Fr.drewN ?_ _) | (with_reducible refine Fr.setCell ?_ _ _ ?_) | (exact Or.inr rfl) | (left; simp; done) | (left; simp; omega) | (simp; done) | (simp; omega) | omega))) (fun i hi e => by omega)⟩
  ·have t1 : (eh == 0) = false := beq_eq_false_iff_ne.2 he
   have hz : Z = chNo eh := by
    rw [HZ.out]
    unfold chZ
    rw [HmZ.out, if_pos rfl, ← HHz.out, if_neg he]
   subst hz
   obtain ⟨⟨c0, c1, c2, c3, c4, c5⟩, z0, z1, z2, z3, z4, z5⟩ := bR.c6
   have lR := bR.lt
   have BR := hidE bR
   have HE := hidE he
   clear bR he HZ
   go_wp2_with fail
   refine bodyPost_ret (results_ct rfl _ _ w.heap.size 30 #[.int .i64 0, .int .i64 0, .int .i64 0, .int .i64 0, .int .i64 0, .slice none 0 0] (0, 0) _ rfl (BR.out.set6 _ _ _ _ _ _) Tryz.underlying30 rfl (by kernel_rfl)) rfl ?_
   exact ⟨_, rfl, OwI.nil _ _, f4.trans (T := fun i => i = w.heap.size) (by (repeat' (first | (with_reducible exact Fr.refl _ _) | (with_reducible assumption) | (with_reducible refine Fr.alloc ?_ _) | (with_reducible refine Fr.drew ?_) | (with_reducible refine Fr.drewN ?_ _) | (with_reducible refine Fr.setCell ?_ _ _ ?_) | (exact Or.inr rfl) | (left; simp; done) | (left; simp; omega) | (simp; done) | (simp; omega) | omega))) (fun i hi e => by omega)⟩
theorem R_fr1 {w w' : World} {base : Nat} {v : Value} {xs : List S27} (h : Kd.R k27 27 w base (fun _ => True) v xs) (k : Fr (fun _ => False) w w') : Kd.R k27 27 w' base (fun _ => True) v xs := by
  rcases Row.of_R h with ⟨rfl, rfl⟩ | ⟨g, cap, rfl, hg, hm, hr⟩
  · exact Kd.R_nil _ _ _ _ _
  · exact (hr.fr k (fun h => h)).to_R hg hm
def fourL : List S27 := [⟨0, ⟨3, 8, 12⟩, 0⟩, ⟨1, ⟨3, 11, 13⟩, 0⟩, ⟨2, ⟨3, 10, 12⟩, 0⟩, ⟨3, ⟨3, 90, 99⟩, 0⟩]
set_option maxHeartbeats 1000000 in
theorem four_at {w : World} :
    Calls Tryz.prog 8 #[] w fun e w' => ∃ g cap, e = .returned (.slice (some ⟨g, 0, none⟩) 4 cap) ∧ w.heap.size ≤ g ∧ cap ≤ maxLen ∧ Row w' g cap fourL ∧ Fr (fun _ => False) w w' := by
  go_enter Tryz.func8, Tryz.ntmps8
  go_wp2_with fail
  generalize hW : World.alloc w _ = W1
  have f1 : Fr (fun _ => False) w W1 := by subst hW; (repeat' (first | (with_reducible exact Fr.refl _ _) | (with_reducible assumption) | (with_reducible refine Fr.alloc ?_ _) | (with_reducible refine Fr.drew ?_) | (with_reducible refine Fr.drewN ?_ _) | (with_reducible refine Fr.setCell ?_ _ _ ?_) | (exact Or.inr rfl) | (left; simp; done) | (left; simp; omega) | (simp; done) | (simp; omega) | omega))
  have bB : Blk W1 w.heap.size #[.int .i64 8, .int .i64 12, .int .i64 11, .int .i64 13, .int .i64 10, .int .i64 12, .int .i64 90, .int .i64 99] 61 := by subst hW; (repeat' (first | (with_reducible assumption) | (with_reducible apply Blk.drew) | (with_reducible apply Blk.drewN) | (with_reducible apply Blk.set) | (with_reducible apply Blk.other) | (exact Blk.new' _ _ _ (by first | rfl | (simp; done) | (simp; omega))) | (with_reducible apply Blk.alloc) | (with_reducible rfl) | (simp; done) | (simp; omega) | omega | rfl))
  have lW := bB.lt
  clear hW
  have BB := hidE bB
  have F1 := hidE f1
  clear bB f1
  go_loopw [1, 10] (fun v1 v10 wr => ∃ i : Nat, i ≤ 4 ∧ v10 = .int .i64 (i : Int) ∧ Hid (Kd.R k27 27 wr W1.heap.size (fun _ => True) v1 (fourL.take i)) ∧ Below W1.heap.size W1 wr) (fun _ v10 _ => 4 - (intOf v10).toNat)
  case atStart => exact ⟨0, by omega, rfl, hidE (Kd.R_nil _ _ _ _ _), Below.refl _ _⟩
  case round =>
    obtain ⟨i, hi, e10, HR, hb⟩ := hrel
    have k := Fr.of_below hb (Nat.le_refl _) (fun _ => False)
    have bB := BB.out.fr k (fun h => h)
    have lt := bB.lt
    have hsz := hb.size
    have K := hidE k
    have p0 : wr.cell? ⟨w.heap.size, 0, none⟩ = some (.int .i64 8) := bB.cell 0
    have p1 : wr.cell? ⟨w.heap.size, 1, none⟩ = some (.int .i64 12) := bB.cell 1
    have p2 : wr.cell? ⟨w.heap.size, 2, none⟩ = some (.int .i64 11) := bB.cell 2
    have p3 : wr.cell? ⟨w.heap.size, 3, none⟩ = some (.int .i64 13) := bB.cell 3
    have p4 : wr.cell? ⟨w.heap.size, 4, none⟩ = some (.int .i64 10) := bB.cell 4
    have p5 : wr.cell? ⟨w.heap.size, 5, none⟩ = some (.int .i64 12) := bB.cell 5
    have p6 : wr.cell? ⟨w.heap.size, 6, none⟩ = some (.int .i64 90) := bB.cell 6
    have p7 : wr.cell? ⟨w.heap.size, 7, none⟩ = some (.int .i64 99) := bB.cell 7
    clear bB k hb
    rcases (show i = 0 ∨ i = 1 ∨ i = 2 ∨ i = 3 ∨ i = 4 by omega) with rfl | rfl | rfl | rfl | rfl
    · obtain rfl : u10 = .int .i64 0 := e10
      clear hi
      go_wp2_with (at_builtin; refine Kd.R_append k27 (w0 := W1) W1.heap.size rfl _ _ 22 27 (.agg #[.int .i64 0, .int .i64 0, .int .i64 0, .int .i64 0, .int .i64 0]) 40 rfl Tryz.underlying22 info27 rfl (by decide) (by omega) _ (fourL.take 0) (⟨0, ⟨3, 8, 12⟩, 0⟩ : S27) [.int .i64 0, .int .i64 3, .int .i64 8, .int .i64 12, .int .i64 0] (fun _ => True) (fun _ => False) rfl ?aX (k27_mkM _ _ _ _) (fun _ hk => hk.elim) (fun _ _ => trivial) ?aO ?aB ?aS ?aL ?_; (case aX => first | (go_simp; done) | (simp [Act.eval, World.alloc]; done)); (case aO => exact R_fr1 HR.out (by (repeat' (first | (with_reducible exact Fr.refl _ _) | (with_reducible assumption) | (with_reducible refine Fr.alloc ?_ _) | (with_reducible refine Fr.drew ?_) | (with_reducible refine Fr.drewN ?_ _) | (with_reducible refine Fr.setCell ?_ _ _ ?_) | (exact Or.inr rfl) | (left; simp; done) | (left; simp; omega) | (simp; done) | (simp; omega) | omega)))); (case aB => exact (K.out.trans (T := fun _ => False) (by (repeat' (first | (with_reducible exact Fr.refl _ _) | (with_reducible assumption) | (with_reducible refine Fr.alloc ?_ _) | (with_reducible refine Fr.drew ?_) | (with_reducible refine Fr.drewN ?_ _) | (with_reducible refine Fr.setCell ?_ _ _ ?_) | (exact Or.inr rfl) | (left; simp; done) | (left; simp; omega) | (simp; done) | (simp; omega) | omega))) (fun _ _ h => h)).below); (case aS => simp; omega); (case aL => decide))
      intro v2 w2 r2 b2 _ _
      have R2 := hidE r2
      clear r2 p0 p1 p2 p3 p4 p5 p6 p7 HR K
      go_wp2_with fail
      go_roundw
      case rel => exact ⟨1, by omega, rfl, R2, b2⟩
      case measure => simp [intOf]
    · obtain rfl : u10 = .int .i64 1 := e10
      clear hi
      go_wp2_with (at_builtin; refine Kd.R_append k27 (w0 := W1) W1.heap.size rfl _ _ 22 27 (.agg #[.int .i64 0, .int .i64 0, .int .i64 0, .int .i64 0, .int .i64 0]) 40 rfl Tryz.underlying22 info27 rfl (by decide) (by omega) _ (fourL.take 1) (⟨1, ⟨3, 11, 13⟩, 0⟩ : S27) [.int .i64 1, .int .i64 3, .int .i64 11, .int .i64 13, .int .i64 0] (fun _ => True) (fun _ => False) rfl ?aX (k27_mkM _ _ _ _) (fun _ hk => hk.elim) (fun _ _ => trivial) ?aO ?aB ?aS ?aL ?_; (case aX => first | (go_simp; done) | (simp [Act.eval, World.alloc]; done)); (case aO => exact R_fr1 HR.out (by (repeat' (first | (with_reducible exact Fr.refl _ _) | (with_reducible assumption) | (with_reducible refine Fr.alloc ?_ _) | (with_reducible refine Fr.drew ?_) | (with_reducible refine Fr.drewN ?_ _) | (with_reducible refine Fr.setCell ?_ _ _ ?_) | (exact Or.inr rfl) | (left; simp; done) | (left; simp; omega) | (simp; done) | (simp; omega) | omega)))); (case aB => exact (K.out.trans (T := fun _ => False) (by (repeat' (first | (with_reducible exact Fr.refl _ _) | (with_reducible assumption) | (with_reducible refine Fr.alloc ?_ _) | (with_reducible refine Fr.drew ?_) | (with_reducible refine Fr.drewN ?_ _) | (with_reducible refine Fr.setCell ?_ _ _ ?_) | (exact Or.inr rfl) | (left; simp; done) | (left; simp; omega) | (simp; done) | (simp; omega) | omega))) (fun _ _ h => h)).below); (case aS => simp; omega); (case aL => decide))
      intro v2 w2 r2 b2 _ _
      have R2 := hidE r2
      clear r2 p0 p1 p2 p3 p4 p5 p6 p7 HR K
      go_wp2_with fail
      go_roundw
      case rel => exact ⟨2, by omega, rfl, R2, b2⟩
      case measure => simp [intOf]
    · obtain rfl : u10 = .int .i64 2 := e10
      clear hi
      go_wp2_with (at_builtin; refine Kd.R_append k27 (w0 := W1) W1.heap.size rfl _ _ 22 27 (.agg #[.int .i64 0, .int .i64 0, .int .i64 0, .int .i64 0, .int .i64 0]) 40 rfl Tryz.underlying22 info27 rfl (by decide) (by omega) _ (fourL.take 2) (⟨2, ⟨3, 10, 12⟩, 0⟩ : S27) [.int .i64 2, .int .i64 3, .int .i64 10, .int .i64 12, .int .i64 0] (fun _ => True) (fun _ => False) rfl ?aX (k27_mkM _ _ _ _) (fun _ hk => hk.elim) (fun _ _ => trivial) ?aO ?aB ?aS ?aL ?_; (case aX => first | (go_simp; done) | (simp [Act.eval, World.alloc]; done)); (case aO => exact R_fr1 HR.out (by (repeat' (first | (with_reducible exact Fr.refl _ _) | (with_reducible assumption) | (with_reducible refine Fr.alloc ?_ _) | (with_reducible refine Fr.drew ?_) | (with_reducible refine Fr.drewN ?_ _) | (with_reducible refine Fr.setCell ?_ _ _ ?_) | (exact Or.inr rfl) | (left; simp; done) | (left; simp; omega) | (simp; done) | (simp; omega) | omega)))); (case aB => exact (K.out.trans (T := fun _ => False) (by (repeat' (first | (with_reducible exact Fr.refl _ _) | (with_reducible assumption) | (with_reducible refine Fr.alloc ?_ _) | (with_reducible refine Fr.drew ?_) | (with_reducible refine Fr.drewN ?_ _) | (with_reducible refine Fr.setCell ?_ _ _ ?_) | (exact Or.inr rfl) | (left; simp; done) | (left; simp; omega) | (simp; done) | (simp; omega) | omega))) (fun _ _ h => h)).below); (case aS => simp; omega); (case aL => decide))
      intro v2 w2 r2 b2 _ _
      have R2 := hidE r2
      clear r2 p0 p1 p2 p3 p4 p5 p6 p7 HR K
      go_wp2_with fail
      go_roundw
      case rel => exact ⟨3, by omega, rfl, R2, b2⟩
      case measure => simp [intOf]
    · obtain rfl : u10 = .int .i64 3 := e10
      clear hi
      go_wp2_with (at_builtin; refine Kd.R_append k27 (w0 := W1) W1.heap.size rfl _ _ 22 27 (.agg #[.int .i64 0, .int .i64 0, .int .i64 0, .int .i64 0, .int .i64 0]) 40 rfl Tryz.underlying22 info27 rfl (by decide) (by omega) _ (fourL.take 3) (⟨3, ⟨3, 90, 99⟩, 0⟩ : S27) [.int .i64 3, .int .i64 3, .int .i64 90, .int .i64 99, .int .i64 0] (fun _ => True) (fun _ => False) rfl ?aX (k27_mkM _ _ _ _) (fun _ hk => hk.elim) (fun _ _ => trivial) ?aO ?aB ?aS ?aL ?_; (case aX => first | (go_simp; done) | (simp [Act.eval, World.alloc]; done)); (case aO => exact R_fr1 HR.out (by (repeat' (first | (with_reducible exact Fr.refl _ _) | (with_reducible assumption) | (with_reducible refine Fr.alloc ?_ _) | (with_reducible refine Fr.drew ?_) | (with_reducible refine Fr.drewN ?_ _) | (with_reducible refine Fr.setCell ?_ _ _ ?_) | (exact Or.inr rfl) | (left; simp; done) | (left; simp; omega) | (simp; done) | (simp; omega) | omega)))); (case aB => exact (K.out.trans (T := fun _ => False) (by (repeat' (first | (with_reducible exact Fr.refl _ _) | (with_reducible assumption) | (with_reducible refine Fr.alloc ?_ _) | (with_reducible refine Fr.drew ?_) | (with_reducible refine Fr.drewN ?_ _) | (with_reducible refine Fr.setCell ?_ _ _ ?_) | (exact Or.inr rfl) | (left; simp; done) | (left; simp; omega) | (simp; done) | (simp; omega) | omega))) (fun _ _ h => h)).below); (case aS => simp; omega); (case aL => decide))
      intro v2 w2 r2 b2 _ _
      have R2 := hidE r2
      clear r2 p0 p1 p2 p3 p4 p5 p6 p7 HR K
      go_wp2_with fail
      go_roundw
      case rel => exact ⟨4, by omega, rfl, R2, b2⟩
      case measure => simp [intOf]
    · obtain rfl : u10 = .int .i64 4 := e10
      clear p0 p1 p2 p3 p4 p5 p6 p7 hi
      obtain ⟨g, cap, e, h3, h4, h5⟩ := row_R HR.out (by decide)
      obtain rfl : u1 = .slice (some ⟨g, 0, none⟩) 4 cap := e
      go_wp2
      go_ret
      exact ⟨g, cap, rfl, by omega, h4, h5, F1.out.trans K.out (fun _ _ h => h)⟩
def pairL : List S27 := [⟨1, ⟨3, 11, 13⟩, 0⟩, ⟨3, ⟨3, 90, 99⟩, 0⟩]
def dvB (a b c : Nat) : Bool := decide (0 < c) && decide (c < 18446744073709551616) && decide (a * b < 18446744073709551616)
theorem dv_of {a b c : Nat} (h : dvB a b c = true) : DivOk a b c := by
  unfold dvB at h
  simp only [Bool.and_eq_true, decide_eq_true_eq] at h
  exact divOk_0 h.1.1 h.1.2 h.2
def dlB (L : List S25) (h : S25) : Bool := L.all fun s => dvB (wideZ L).toNat 1024 (brZ s).toNat && dvB (mdZ h s - h.f1).toNat (wtZ (wideZ L) s).toNat (allZ L).toNat && dvB (dist (mdZ h s) (meanZ L h)).toNat (wtZ (wideZ L) s).toNat (allZ L).toNat
theorem dl_of {L : List S25} {h : S25} (hb : dlB L h = true) : DivL L h := by
  unfold dlB at hb
  have H := List.all_eq_true.1 hb
  refine ⟨fun s hs => ?_, fun s hs => ?_, fun s hs => ?_⟩ <;> have := H s hs <;> simp only [Bool.and_eq_true] at this
  · exact dv_of this.1.1
  · exact dv_of this.1.2
  · exact dv_of this.2
theorem chD {l x : List S27} (hp : pruneZ l (hullOf l) = (x, 0)) (hd : dlB (spansOf x) (hullOf l) = true) : ∀ y, pruneZ l (hullOf l) = (y, 0) → DivL (spansOf y) (hullOf l) := by
  intro y e
  rw [hp] at e
  have : x = y := congrArg Prod.fst e
  exact this ▸ dl_of hd
theorem chE {l x : List S27} {c : Int} (hp : pruneZ l (hullOf l) = (x, c)) (hc : c ≠ 0) : ∀ y, pruneZ l (hullOf l) = (y, 0) → DivL (spansOf y) (hullOf l) := by
  intro y e
  rw [hp] at e
  exact absurd (congrArg Prod.snd e) hc
theorem who_ofZ {l : List S27} (h : l.all (fun c => (Lit.int .i64 c.f0).wf) = true) : WhoWf l := by
  intro c hc; exact List.all_eq_true.1 h c hc
theorem ch_on {w : World} {A : Option Addr} {cap n : Nat} {l : List S27} {a lo hi m j e : Int} {who : List Int} (hC : Kd.C k27 w A n l) (hn : n = l.length) (hc : n ≤ cap) (hw : l.all (fun c => (Lit.int .i64 c.f0).wf) = true) (hz : chZ l = ⟨a, lo, hi, m, j, who, e⟩) (hD : ∀ x, pruneZ l (hullOf l) = (x, 0) → DivL (spansOf x) (hullOf l)) :
    Calls Tryz.prog 9 #[.slice A n cap] w fun x w' => ∃ v, x = .returned (.tuple #[.agg #[.int .i64 a, .int .i64 lo, .int .i64 hi, .int .i64 m, .int .i64 j, v], .int .i64 e]) ∧ OwI w.heap.size w' v who ∧ Fr (fun _ => False) w w' := by
  subst hn
  have h := choose_at (w := w) hC hc (who_ofZ hw) hD
  rw [hz] at h
  exact h
theorem OwI.sl {base : Nat} {w : World} {v : Value} {l : List Int} (h : OwI base w v l) : ∃ A c, v = .slice A l.length c ∧ l.length ≤ c ∧ Kd.C (Kd.int .i64) w A l.length l := by
  obtain ⟨h1, h2⟩ := h
  have hsz : (Kd.int .i64 : Kd Int).sz = 1 := rfl
  rcases h2 with ⟨rfl, e⟩ | ⟨g, cap, cur, rfl, hg, hb, hc, hm, hs, ht⟩
  · obtain rfl : l = [] := List.eq_nil_of_length_eq_zero e
    exact ⟨none, 0, rfl, Nat.le_refl _, ⟨rfl, by simp, fun h => absurd h (by simp)⟩⟩
  · refine ⟨_, cap, rfl, hc, ⟨rfl, by unfold maxLen at hm; omega, fun _ => ⟨_, rfl, fun j p hj => ⟨[.int .i64 p], rfl, rfl, fun q u hq => ?_⟩⟩⟩⟩
    have hjl := (List.getElem?_eq_some_iff.1 hj).1
    have hq0 : q = 0 := by have := (List.getElem?_eq_some_iff.1 hq).1; simpa using this
    subst hq0
    rw [add_none]
    refine ((show Blk w g cur 3 from hb).cell _).trans ?_
    have e1 : (l.map (Value.int .i64))[j]? = some (.int .i64 p) := by simp [hj]
    rw [← ht, List.getElem?_take_of_lt (by omega)] at e1
    rw [hsz]
    have e2 : Value.int .i64 p = u := by simpa using hq
    rw [← e2]
    simpa using e1
theorem z1 : chZ (fourL.take 3) = ⟨3, 10, 12, 10, 2, [0, 1, 2], 0⟩ := by kernel_rfl
theorem z2 : chZ fourL = ⟨3, 11, 12, 11, 1, [0, 1, 2], 0⟩ := by kernel_rfl
theorem z3 : chZ pairL = ⟨0, 0, 0, 0, 0, [], 33⟩ := by kernel_rfl
theorem d1 : ∀ x, pruneZ (fourL.take 3) (hullOf (fourL.take 3)) = (x, 0) → DivL (spansOf x) (hullOf (fourL.take 3)) := chD (x := fourL.take 3) (by kernel_rfl) (by kernel_rfl)
theorem d2 : ∀ x, pruneZ fourL (hullOf fourL) = (x, 0) → DivL (spansOf x) (hullOf fourL) := chD (x := fourL.take 3) (by kernel_rfl) (by kernel_rfl)
theorem d3 : ∀ x, pruneZ pairL (hullOf pairL) = (x, 0) → DivL (spansOf x) (hullOf pairL) := chE (x := []) (c := 33) (by kernel_rfl) (by decide)
def badL : List S27 := [⟨0, ⟨3, 8, 12⟩, 0⟩, ⟨1, ⟨4, 11, 13⟩, 0⟩, ⟨2, ⟨3, 10, 12⟩, 0⟩, ⟨3, ⟨3, 90, 99⟩, 0⟩]
theorem z4 : chZ badL = ⟨0, 0, 0, 0, 0, [], 1⟩ := by kernel_rfl
theorem z5 : chZ [] = ⟨0, 0, 0, 0, 0, [], 33⟩ := by kernel_rfl
theorem d4 : ∀ x, pruneZ badL (hullOf badL) = (x, 0) → DivL (spansOf x) (hullOf badL) := chE (x := []) (c := 1) (by kernel_rfl) (by decide)
theorem d5 : ∀ x, pruneZ [] (hullOf []) = (x, 0) → DivL (spansOf x) (hullOf []) := chE (x := []) (c := 33) (by kernel_rfl) (by decide)
end Go.Proofs.YtapagoaoglmegaaGreat
end
