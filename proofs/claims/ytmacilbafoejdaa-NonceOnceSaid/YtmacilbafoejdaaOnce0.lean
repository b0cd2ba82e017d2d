/- NonceOnce (base): each nonce is taken once. -/
import Derived.Test.YtmacilbafoejdaaNonceShows
import Derived.Test.YtmacilbafoejdaaWLast
import Derived.Test.YtmacilbafoejdaaWMore
import Derived.Test.YtmacilbafoejdaaWWords
import Derived.Test.YtmacilbafoejdaaWGuard
import Derived.Test.YtmacilbafoejdaaWEqStruct
import Derived.StillTailTactics
namespace Go.Proofs.Ytmacilbafoejdaa
open Go.RowKit Go.Proofs.YtmacilbafoejdaaW.PrintWords Go.Proofs.YtmacilbafoejdaaW.PrintLast Go.Proofs.YtmacilbafoejdaaW.PrintMore
set_option linter.unusedVariables false
set_option linter.unusedSimpArgs false

@[reducible] def oY : Bool := true
@[reducible] def oN : Bool := false
theorem hid {p : Prop} (h : p) : Hid p := h
theorem once_cells {c : List Value} (h : okAll [.i .i64, .i .u64, .i .i64, .i .i64] c) : ∃ a n r m : Int, c = [.int .i64 a, .int .u64 n, .int .i64 r, .int .i64 m] ∧ (-9223372036854775808 ≤ r ∧ r ≤ 9223372036854775807) ∧ (-9223372036854775808 ≤ m ∧ m ≤ 9223372036854775807) := by
  obtain ⟨u0, c, rfl, ⟨a, rfl, _⟩, h1⟩ := h.cons
  obtain ⟨u1, c, rfl, ⟨n, rfl, _⟩, h2⟩ := h1.cons
  obtain ⟨u2, c, rfl, ⟨r, rfl, hr⟩, h3⟩ := h2.cons
  obtain ⟨u3, c, rfl, ⟨m, rfl, hm⟩, h4⟩ := h3.cons
  obtain rfl := h4.none
  refine ⟨a, n, r, m, rfl, ?_, ?_⟩
  · simp [Lit.wf, IntKind.min, IntKind.max, IntKind.bits, IntKind.signed] at hr; omega
  · simp [Lit.wf, IntKind.min, IntKind.max, IntKind.bits, IntKind.signed] at hm; omega
theorem eq_arr10 (w : World) (d : Nat) (a0 a1 a2 a3 a4 a5 a6 a7 a8 a9 : Int) : (Op.equalIn (d + 2) 46 (.agg #[.int .i64 a0, .int .i64 a1, .int .i64 a2, .int .i64 a3, .int .i64 a4, .int .i64 a5, .int .i64 a6, .int .i64 a7, .int .i64 a8, .int .i64 a9]) (.agg #[.int .i64 a0, .int .i64 a1, .int .i64 a2, .int .i64 a3, .int .i64 a4, .int .i64 a5, .int .i64 a6, .int .i64 a7, .int .i64 a8, .int .i64 a9])).run Try.prog w = .ok true w := by
  have u := run_underlying (P := Try.prog) (w := w) Try.underlying46
  have u2 := run_underlying (P := Try.prog) (w := w) Try.underlying26
  have hs : ∀ w, (sizeOf 26).run Try.prog w = .ok 1 w := fun w => by kernel_rfl
  rw [Op.equalIn]
  simp [u, u2, hs, Std.Legacy.Range.forIn_eq_forIn_range', Std.Legacy.Range.size, List.range', go_sem, part]
attribute [local go_sem] eq_arr10

/-! ### What the calls make of a book, plain -/
/-- What is known of a round's book: what is out, since when. -/
structure Onx (x : BS) (xo s : Int) : Prop where
  out : x.out = xo
  since : xo ≠ 0 → x.since = s
  ok : x.ok
  last : xo ≠ 0 → xo ≠ x.last
theorem onx_ask {x : BS} {xo s n raw : Int} (h : Onx x xo s) (he : x.askE n raw = 0) : n ≠ 0 ∧ n ≠ xo ∧ Onx (x.askS n raw) n raw := by
  have hb : ¬ BS.badAsk n raw = true := by intro hb; unfold BS.askE at he; rw [if_pos hb] at he; omega
  have hk : x.known n = 30 := by
    unfold BS.askE at he; rw [if_neg hb] at he
    by_cases h1 : x.known n = 30
    · exact h1
    · rw [if_neg h1] at he; omega
  have hn : n ≠ 0 := by intro h0; apply hb; unfold BS.badAsk; simp [h0]
  have ho : n ≠ x.out := by
    intro h0; unfold BS.known at hk; rw [if_neg hn, if_pos h0] at hk; omega
  have hl : n ≠ x.last := by
    intro h0; unfold BS.known at hk; rw [if_neg hn, if_neg ho, if_pos h0] at hk; omega
  refine ⟨hn, by rw [← h.out]; exact ho, ?_, ?_, BS.ok_ask h.ok n raw, ?_⟩
  · unfold BS.askS; rw [if_pos he]
  · intro _; unfold BS.askS; rw [if_pos he]
  · intro _; unfold BS.askS; rw [if_pos he]
    have : x.giveUp.last = x.last := by unfold BS.giveUp; split <;> rfl
    show n ≠ x.giveUp.last
    rw [this]; exact hl
theorem onx_askNo {x : BS} {n raw : Int} (he : x.askE n raw ≠ 0) : x.askS n raw = x := by unfold BS.askS; rw [if_neg he]
theorem onx_bad {x : BS} {n raw : Int} : (x.askE n raw == 1) = (n == 0 || decide (raw < 0) || decide (4611686018427387904 < raw)) := by
  unfold BS.askE
  by_cases hb : BS.badAsk n raw = true
  · rw [if_pos hb]; unfold BS.badAsk at hb; rw [hb]; rfl
  · rw [if_neg hb]
    have : BS.badAsk n raw = false := by simpa using hb
    unfold BS.badAsk at this
    rw [this]
    split <;> rfl
theorem onx_take {x : BS} {xo s n : Int} (h : Onx x xo s) (he : x.known n = 0) : n ≠ 0 ∧ n = xo ∧ x.takeV n = s ∧ Onx (x.takeS n) 0 s ∧ (x.takeS n).known n = 31 ∧ ∀ raw, (x.takeS n).askE n raw ≠ 0 := by
  have hn : n ≠ 0 := by intro h0; unfold BS.known at he; rw [if_pos h0] at he; omega
  have ho : n = x.out := by
    unfold BS.known at he; rw [if_neg hn] at he
    by_cases h1 : n = x.out
    · exact h1
    · rw [if_neg h1] at he
      split at he <;> omega
  have ho' : n = xo := ho.trans h.out
  have hk : (x.takeS n).known n = 31 := by
    unfold BS.takeS; rw [if_pos he]; unfold BS.known; rw [if_neg hn]; simp [hn]
  refine ⟨hn, ho', ?_, ⟨?_, fun h => absurd rfl h, BS.ok_take h.ok n, fun h => absurd rfl h⟩, hk, ?_⟩
  · unfold BS.takeV; rw [if_pos he]; exact h.since (by rw [← ho']; exact hn)
  · unfold BS.takeS; rw [if_pos he]
  · intro raw; unfold BS.askE; rw [hk]; split <;> omega
theorem onx_takeNo {x : BS} {xo s n : Int} (h : Onx x xo s) (he : x.known n ≠ 0) : x.takeS n = x ∧ x.takeV n = 0 ∧ (xo ≠ 0 → n ≠ xo) := by
  refine ⟨by unfold BS.takeS; rw [if_neg he], by unfold BS.takeV; rw [if_neg he], fun h1 h2 => he ?_⟩
  unfold BS.known; rw [if_neg (by rw [h2]; exact h1), if_pos (h2.trans h.out.symm)]
theorem onx_drop {x : BS} {xo s raw most : Int} (h : Onx x xo s) (he : x.dropB raw most = true) : xo ≠ 0 ∧ Onx (x.dropS raw most) 0 s ∧ (x.dropS raw most).known xo = 32 := by
  have ho : x.out ≠ 0 := by intro h0; unfold BS.dropB at he; rw [h0] at he; simp at he
  have hx : xo ≠ 0 := by rw [← h.out]; exact ho
  have hl := h.last hx
  have e : x.dropS raw most = ⟨0, 0, x.last, x.out, x.s0, x.s1, x.s2⟩ := by unfold BS.dropS BS.giveUp; rw [if_pos he, if_neg ho]
  refine ⟨hx, ⟨by rw [e], fun h => absurd rfl h, BS.ok_drop h.ok raw most, fun h => absurd rfl h⟩, ?_⟩
  rw [e]; unfold BS.known BS.has; rw [if_neg hx]; simp [hx, hl, h.out]
theorem onx_dropNo {x : BS} {raw most : Int} (he : x.dropB raw most = false) : x.dropS raw most = x := by unfold BS.dropS; rw [he]; rfl
theorem shC_lits (x : BS) (k : Int) : ∃ (a0 a1 : Int) (a2 : Bool) (c3 c4 c5 c6 c7 c8 c9 c10 c11 c12 : Int), shC x k 10 = #[.int .u64 a0, .int .i64 a1, .bool a2, .int .i64 c3, .int .i64 c4, .int .i64 c5, .int .i64 c6, .int .i64 c7, .int .i64 c8, .int .i64 c9, .int .i64 c10, .int .i64 c11, .int .i64 c12] := ⟨_, _, _, _, _, _, _, _, _, _, _, _, _, rfl⟩

/-- The memory of a round behind its first call of shows. -/
structure OnS (w : World) (b : Nat) (C B : Nat) (wh n raw most : Int) (a0 a1 : Int) (a2 : Bool) (c3 c4 c5 c6 c7 c8 c9 c10 c11 c12 : Int) (x : BS) (W : World) : Prop where
  bk : Bk W b x
  bc : Blk W C #[.int .i64 wh, .int .u64 n, .int .i64 raw, .int .i64 most] 38
  bb : Blk W B #[.int .u64 a0, .int .i64 a1, .bool a2, .int .i64 c3, .int .i64 c4, .int .i64 c5, .int .i64 c6, .int .i64 c7, .int .i64 c8, .int .i64 c9, .int .i64 c10, .int .i64 c11, .int .i64 c12] 48
  fr : Fr (fun _ => False) w W
section
variable {w : World} {b C B : Nat} {wh n raw most : Int} {a0 a1 : Int} {a2 : Bool} {c3 c4 c5 c6 c7 c8 c9 c10 c11 c12 : Int} {x : BS} {W W' : World}
theorem OnS.fr0 (h : OnS w b C B wh n raw most a0 a1 a2 c3 c4 c5 c6 c7 c8 c9 c10 c11 c12 x W) (k : Fr (fun _ => False) W W') : OnS w b C B wh n raw most a0 a1 a2 c3 c4 c5 c6 c7 c8 c9 c10 c11 c12 x W' :=
  ⟨h.bk.fr k (fun h => h), h.bc.fr k (fun h => h), h.bb.fr k (fun h => h), h.fr.trans k (fun _ _ h => h)⟩
theorem OnS.call {x' : BS} (h : OnS w b C B wh n raw most a0 a1 a2 c3 c4 c5 c6 c7 c8 c9 c10 c11 c12 x W) (hb : w.heap.size ≤ b) (p : Bk W' b x') (k : Fr (At b) W W') : OnS w b C B wh n raw most a0 a1 a2 c3 c4 c5 c6 c7 c8 c9 c10 c11 c12 x' W' :=
  ⟨p, h.bc.fr k (fun e => by have e' : C = b := e; subst e'; exact absurd (h.bk.blk.one h.bc).2 (by decide)),
   h.bb.fr k (fun e => by have e' : B = b := e; subst e'; exact absurd (h.bk.blk.one h.bb).2 (by decide)), h.fr.trans k (At.gone hb)⟩
/-- What the loads of a round need. -/
def OnL (C B : Nat) (n raw most : Int) (a0 a1 : Int) (a2 : Bool) (c3 c4 c5 c6 c7 c8 c9 c10 c11 c12 : Int) (W : World) : Prop :=
  (W.cell? ⟨C, 1, none⟩ = some (.int .u64 n) ∧ W.cell? ⟨C, 2, none⟩ = some (.int .i64 raw) ∧ W.cell? ⟨C, 3, none⟩ = some (.int .i64 most)) ∧
  (W.cell? ⟨B, 0, none⟩ = some (.int .u64 a0) ∧ W.cell? ⟨B, 1, none⟩ = some (.int .i64 a1) ∧ W.cell? ⟨B, 2, none⟩ = some (.bool a2) ∧ W.cell? ⟨B, 3, none⟩ = some (.int .i64 c3) ∧ W.cell? ⟨B, 4, none⟩ = some (.int .i64 c4) ∧ W.cell? ⟨B, 5, none⟩ = some (.int .i64 c5) ∧ W.cell? ⟨B, 6, none⟩ = some (.int .i64 c6) ∧ W.cell? ⟨B, 7, none⟩ = some (.int .i64 c7) ∧ W.cell? ⟨B, 8, none⟩ = some (.int .i64 c8) ∧ W.cell? ⟨B, 9, none⟩ = some (.int .i64 c9) ∧ W.cell? ⟨B, 10, none⟩ = some (.int .i64 c10) ∧ W.cell? ⟨B, 11, none⟩ = some (.int .i64 c11) ∧ W.cell? ⟨B, 12, none⟩ = some (.int .i64 c12))
theorem OnS.load (h : OnS w b C B wh n raw most a0 a1 a2 c3 c4 c5 c6 c7 c8 c9 c10 c11 c12 x W) : OnL C B n raw most a0 a1 a2 c3 c4 c5 c6 c7 c8 c9 c10 c11 c12 W :=
  ⟨⟨h.bc.cell 1, h.bc.cell 2, h.bc.cell 3⟩, ⟨h.bb.cell 0, h.bb.cell 1, h.bb.cell 2, h.bb.cell 3, h.bb.cell 4, h.bb.cell 5, h.bb.cell 6, h.bb.cell 7, h.bb.cell 8, h.bb.cell 9, h.bb.cell 10, h.bb.cell 11, h.bb.cell 12⟩⟩
theorem OnS.held3 (h : OnS w b C B wh n raw most a0 a1 a2 c3 c4 c5 c6 c7 c8 c9 c10 c11 c12 x W) : (W.cell? ⟨C, 1, none⟩ = some (.int .u64 n) ∧ W.cell? ⟨C, 2, none⟩ = some (.int .i64 raw) ∧ W.cell? ⟨C, 3, none⟩ = some (.int .i64 most)) ∧ (W.cell? ⟨B, 0, none⟩ = some (.int .u64 a0) ∧ W.cell? ⟨B, 1, none⟩ = some (.int .i64 a1) ∧ W.cell? ⟨B, 2, none⟩ = some (.bool a2) ∧ W.cell? ⟨B, 3, none⟩ = some (.int .i64 c3) ∧ W.cell? ⟨B, 4, none⟩ = some (.int .i64 c4) ∧ W.cell? ⟨B, 5, none⟩ = some (.int .i64 c5) ∧ W.cell? ⟨B, 6, none⟩ = some (.int .i64 c6) ∧ W.cell? ⟨B, 7, none⟩ = some (.int .i64 c7) ∧ W.cell? ⟨B, 8, none⟩ = some (.int .i64 c8) ∧ W.cell? ⟨B, 9, none⟩ = some (.int .i64 c9) ∧ W.cell? ⟨B, 10, none⟩ = some (.int .i64 c10) ∧ W.cell? ⟨B, 11, none⟩ = some (.int .i64 c11) ∧ W.cell? ⟨B, 12, none⟩ = some (.int .i64 c12)) ∧ OnS w b C B wh n raw most a0 a1 a2 c3 c4 c5 c6 c7 c8 c9 c10 c11 c12 x W := ⟨h.load.1, h.load.2, h⟩
theorem OnS.held (h : OnS w b C B wh n raw most a0 a1 a2 c3 c4 c5 c6 c7 c8 c9 c10 c11 c12 x W) : OnL C B n raw most a0 a1 a2 c3 c4 c5 c6 c7 c8 c9 c10 c11 c12 W ∧ OnS w b C B wh n raw most a0 a1 a2 c3 c4 c5 c6 c7 c8 c9 c10 c11 c12 x W := ⟨h.load, h⟩
end


def onceLoop : Code → Option Code
  | .loop c => some c
  | .seq a b => match onceLoop a with
    | some c => some c
    | none => onceLoop b
  | .block _ c => onceLoop c
  | .scope c => onceLoop c
  | .cond _ a b => match onceLoop a with
    | some c => some c
    | none => onceLoop b
  | _ => none
noncomputable def onceBody : Code := ((Try.f5.body.bind onceLoop).getD .skip)
def OnMu (len : Nat) (a : Act) (_ : World) : Nat := len - (intOf (a.tmps.getD 6 undef)).toNat
set_option maxRecDepth 1000000 in
def OnI (w : World) (b : Nat) (A : Option Addr) (len cap : Nat) (cc1 cc20 cc21 cc22 cc214 : Value) (a : Act) (w' : World) : Prop :=
  ∃ (u2 u7 u8 u9 u10 u11 u12 u13 u14 u15 u16 u17 u18 u19 u23 u24 u25 u26 u27 u28 u29 u30 u31 u32 u33 u34 u35 u36 u37 u38 u39 u40 u41 u42 u43 u44 u45 u46 u47 u48 u49 u50 u51 u52 u53 u54 u55 u56 u57 u58 u59 u60 u61 u62 u63 u64 u65 u66 u67 u68 u69 u70 u71 u72 u73 u74 u75 u76 u77 u78 u79 u80 u81 u82 u83 u84 u85 u86 u87 u88 u89 u90 u91 u92 u93 u94 u95 u96 u97 u98 u99 u100 u101 u102 u103 u104 u105 u106 u107 u108 u109 u110 u111 u112 u113 u114 u115 u116 u117 u118 u119 u120 u121 u122 u123 u124 u125 u126 u127 u128 u129 u130 u131 u132 u133 u134 u135 u136 u137 u138 u139 u140 u141 u142 u143 u144 u145 u146 u147 u148 u149 u150 u151 u152 u153 u154 u155 u156 u157 u158 u159 u160 u161 u162 u163 u164 u165 u166 u167 u168 u169 u170 u171 u172 u173 u174 u175 u176 u177 u178 u179 u180 u181 u182 u183 u184 u185 u186 u187 u188 u189 u190 u191 u192 u193 u194 u195 u196 u197 u198 u199 u200 u201 u202 u203 u204 u205 u206 u207 u208 u209 u210 u211 u212 u213 : Value) (i : Nat) (x : BS) (xo s : Int), (i ≤ len ∧ i ≤ 80 ∧ Onx x xo s ∧ Bk w' b x ∧ Fr (fun _ => False) w w') ∧ a = ⟨#[.slice A len cap, cc1, u2, .pointer (some ⟨b, 0, none⟩), .int .u64 xo, .int .i64 s, .int .i64 i, u7, u8, u9, u10, u11, u12, u13, u14, u15, u16, u17, u18, u19, cc20, cc21, cc22, u23, u24, u25, u26, u27, u28, u29, u30, u31, u32, u33, u34, u35, u36, u37, u38, u39, u40, u41, u42, u43, u44, u45, u46, u47, u48, u49, u50, u51, u52, u53, u54, u55, u56, u57, u58, u59, u60, u61, u62, u63, u64, u65, u66, u67, u68, u69, u70, u71, u72, u73, u74, u75, u76, u77, u78, u79, u80, u81, u82, u83, u84, u85, u86, u87, u88, u89, u90, u91, u92, u93, u94, u95, u96, u97, u98, u99, u100, u101, u102, u103, u104, u105, u106, u107, u108, u109, u110, u111, u112, u113, u114, u115, u116, u117, u118, u119, u120, u121, u122, u123, u124, u125, u126, u127, u128, u129, u130, u131, u132, u133, u134, u135, u136, u137, u138, u139, u140, u141, u142, u143, u144, u145, u146, u147, u148, u149, u150, u151, u152, u153, u154, u155, u156, u157, u158, u159, u160, u161, u162, u163, u164, u165, u166, u167, u168, u169, u170, u171, u172, u173, u174, u175, u176, u177, u178, u179, u180, u181, u182, u183, u184, u185, u186, u187, u188, u189, u190, u191, u192, u193, u194, u195, u196, u197, u198, u199, u200, u201, u202, u203, u204, u205, u206, u207, u208, u209, u210, u211, u212, u213, cc214], []⟩
end Go.Proofs.Ytmacilbafoejdaa

