/- FnExactSameCard: for every input the law returns true and its arguments read afterwards as they read before. No condition. -/
import Derived.Test.YtplcfgpmpacjeaaRows
import Derived.WalkKit
import Derived.ProofKit
import Derived.OpenShut
import Derived.ShutString
import Derived.ChangeOld
import Derived.Below
import Derived.Lib.SmallJoins
import Derived.SliceStrings
import Derived.Test.YtplcfgpmpacjeaaCells
import Derived.Test.YtplcfgpmpacjeaaSame
import Derived.Test.YtplcfgpmpacjeaaTwo
import Derived.Test.YtplcfgpmpacjeaaCardIn
import Derived.Deep.RegionHeld3
namespace Go.Proofs.Ytplcfgpmpacjeaa.fnExactSameCard
open Go.ChangeShapes Go.WideShapes Go.ChangeAt Go.RowKit Go.Joins
open Go.ChangeMaps (open_string shut_string)
set_option linter.unusedVariables false

theorem own : ownKnob Try.prog.godebug = none := by kernel_rfl
theorem laidOut : laidOutB Try.prog = true := by kernel_rfl

set_option maxHeartbeats 6400000 in
set_option maxRecDepth 100000 in
theorem walk (d1 f1 : Int) (a1 : Option Addr) (c1 : Nat) (ss : List ByteArray) (d2 f2 : Int) (a2 : Option Addr) (c2 : Nat) (tt : List ByteArray) (w : World) (r1 : RdS w a1 ss) (z1 : SzS ss) (r2 : RdS w a2 tt) (z2 : SzS tt) :
    Calls Try.prog 5 #[.agg #[.int .i64 d1, .int .i64 f1, .slice a1 ss.length c1], .agg #[.int .i64 d2, .int .i64 f2, .slice a2 tt.length c2]] w fun e w' => e = .returned (.bool true) ∧ Below w.heap.size w w' := by
  have S0 := Two.start w d1 f1 d2 f2 a1 a2 c1 c2 ss tt 28 28 r1 r2
  go_enter Try.func5, Try.ntmps5
  go_wp2_with fail
  refine (szCard_any _ _ _ _ _ _ S0.rb z1 _ (by omega) (by omega)).mono ?_
  rintro e u0 ⟨⟨x, rfl, hx⟩, b0⟩
  have S := S0.below b0
  have HX := Lib.hid hx; clear hx S0 b0
  obtain ⟨_, k0, k1, k2⟩ := S.kb; obtain ⟨_, m0, m1, m2⟩ := S.kc
  by_cases hneg : x < 0
  · go_wp2
    go_ret
    exact ⟨rfl, S.W⟩
  have hpos : 0 ≤ x := by omega
  have hss : ss.length ≤ 1048576 := by rcases HX.out with h | h <;> omega
  have hxle : x ≤ 1048576 := by rcases HX.out with h | h <;> omega
  clear hneg
  go_wp2_with fail
  refine (szCard_any _ _ _ _ _ _ S.rc z2 _ hpos hxle).mono ?_
  rintro e u1 ⟨⟨y, rfl, hy⟩, b0⟩
  have S := S.below b0
  have HY := Lib.hid hy; clear hy b0 k0 k1 k2 m0 m1 m2
  obtain ⟨_, k0, k1, k2⟩ := S.kb; obtain ⟨_, m0, m1, m2⟩ := S.kc
  by_cases hneg : y < 0
  · go_wp2
    go_ret
    exact ⟨rfl, S.W⟩
  have hpos2 : 0 ≤ y := by omega
  have htt : tt.length ≤ 1048576 := by rcases HY.out with h | h <;> omega
  clear hneg
  go_wp2
  go_region_held3 (fun w' => w'.cell? ⟨w.heap.size, 0, none⟩ = some (.int .i64 d1) ∧ w'.cell? ⟨w.heap.size, 1, none⟩ = some (.int .i64 f1) ∧ w'.cell? ⟨w.heap.size, 2, none⟩ = some (.slice a1 ss.length c1) ∧ w'.cell? ⟨w.heap.size + 1, 0, none⟩ = some (.int .i64 d2) ∧ w'.cell? ⟨w.heap.size + 1, 1, none⟩ = some (.int .i64 f2) ∧ w'.cell? ⟨w.heap.size + 1, 2, none⟩ = some (.slice a2 tt.length c2)) (first | go_keep | ((repeat' apply And.intro) <;> first | assumption | go_keep)) (first
    | (go_at_call 24; refine (specSame_any _ d1 f1 d2 f2 p1 p2 q1 q2 ss tt g1 g2 (by unfold maxLen; omega) (by unfold maxLen; omega)).mono ?_; rintro e v3 ⟨rfl, b3⟩; have S3 := S2.below b3; obtain ⟨_, k0, k1, k2⟩ := S3.kb; obtain ⟨_, m0, m1, m2⟩ := S3.kc;  clear b3)
    | (go_at_call 25; refine (toCard_any _ d2 f2 a2 c2 tt S1.rc htt).mono ?_; rintro e v2 ⟨p2, q2, rfl, o2, b2⟩; have g1 := g1.below b2; have g2 := OwnS.rd o2; have S2 := S1.below b2; obtain ⟨_, k0, k1, k2⟩ := S2.kb; obtain ⟨_, m0, m1, m2⟩ := S2.kc; clear b2)
    | (go_at_call 25; refine (toCard_any _ d1 f1 a1 c1 ss S.drew.rb hss).mono ?_; rintro e v1 ⟨p1, q1, rfl, o1, b1⟩; have g1 := OwnS.rd o1; have S1 := S.drew.below b1; obtain ⟨_, k0, k1, k2⟩ := S1.kb; obtain ⟨_, m0, m1, m2⟩ := S1.kc; clear b1))
  all_goals
   skip
   clear S
   have S := S3
   go_wp2_with fail
   refine (toCard_any _ d1 f1 a1 c1 ss S.rb hss).mono ?_
   rintro e u4 ⟨p4, q4, rfl, o4, b4⟩
   have S3' := S
   have S := S.below b4
   have K7 := CelL.new u4 (.int .i64 d1) (.int .i64 f1) (.slice p4 ss.length q4) 31
   have e7 := (OwnS.rd o4).below (bel_new u4 (.cells #[.int .i64 d1, .int .i64 f1, .slice p4 ss.length q4] 31))
   have S := S.below (bel_new u4 (.cells #[.int .i64 d1, .int .i64 f1, .slice p4 ss.length q4] 31))
   obtain ⟨_, k0, k1, k2⟩ := (S3'.below b4).kb; obtain ⟨_, m0, m1, m2⟩ := (S3'.below b4).kc
   clear S3'
   clear b4
   go_wp2_with fail
   refine (toCard_any _ d2 f2 a2 c2 tt S.rc htt).mono ?_
   rintro e u5 ⟨p5, q5, rfl, o5, b5⟩
   have S := (S.below b5).below (bel_new u5 (.cells #[.int .i64 d2, .int .i64 f2, .slice p5 tt.length q5] 31))
   have K7' := K7.below b5
   obtain ⟨i0, i1, i2⟩ := K7'.2
   have K7 := K7'.below (bel_new u5 (.cells #[.int .i64 d2, .int .i64 f2, .slice p5 tt.length q5] 31))
   have K8 := CelL.new u5 (.int .i64 d2) (.int .i64 f2) (.slice p5 tt.length q5) 31
   have e7 := (e7.below b5).below (bel_new u5 (.cells #[.int .i64 d2, .int .i64 f2, .slice p5 tt.length q5] 31))
   have e8 := (OwnS.rd o5).below (bel_new u5 (.cells #[.int .i64 d2, .int .i64 f2, .slice p5 tt.length q5] 31))
   have l7 := K7'.1
   clear b5 K7'
   go_wp2_with fail
   refine (implSame_any _ _ _ _ _ _ _ _ _ ss tt e7 e8 (by unfold maxLen; omega) (by unfold maxLen; omega)).mono ?_
   rintro e u6 ⟨rfl, b6⟩
   have S := S.below b6
   have K7 := K7.below b6
   have K8 := K8.below b6
   have e7 := e7.below b6
   have e8 := e8.below b6
   obtain ⟨_, k0, k1, k2⟩ := S.kb; obtain ⟨_, m0, m1, m2⟩ := S.kc
   obtain ⟨i0, i1, i2⟩ := K7.2
   obtain ⟨j0, j1, j2⟩ := K8.2
   go_wp2
   go_region_held3 (fun w' => w'.cell? ⟨u4.heap.size, 0, none⟩ = some (.int .i64 d1) ∧ w'.cell? ⟨u4.heap.size, 1, none⟩ = some (.int .i64 f1) ∧ w'.cell? ⟨u4.heap.size, 2, none⟩ = some (.slice p4 ss.length q4) ∧ w'.cell? ⟨w.heap.size, 0, none⟩ = some (.int .i64 d1) ∧ w'.cell? ⟨w.heap.size, 1, none⟩ = some (.int .i64 f1) ∧ w'.cell? ⟨w.heap.size, 2, none⟩ = some (.slice a1 ss.length c1)) (first | go_keep | ((repeat' apply And.intro) <;> first | assumption | go_keep)) (first
    | (go_at_call 25; refine (toCard_any _ d1 f1 a1 c1 ss S.drew.rb hss).mono ?_; rintro e v9 ⟨p9, q9, rfl, o9, b9⟩; have h9 := OwnS.rd o9; have T9 := S.drew.below b9; have X7 := (show CelL _ _ _ _ _ from K7.drew).below b9; have X8 := (show CelL _ _ _ _ _ from K8.drew).below b9; have y7 := RdS.below (w := World.drew _) e7 b9; have y8 := RdS.below (w := World.drew _) e8 b9; obtain ⟨_, k0, k1, k2⟩ := T9.kb; obtain ⟨_, m0, m1, m2⟩ := T9.kc; obtain ⟨i0, i1, i2⟩ := X7.2; obtain ⟨j0, j1, j2⟩ := X8.2; clear b9)
    | (go_at_call 27; refine (eqCard_same _ _ _ _ _ _ _ ss y7 h9 (by unfold maxLen; omega)).mono ?_; rintro e v10 ⟨rfl, b10⟩; have T10 := T9.below b10; have Z7 := X7.below b10; have Z8 := X8.below b10; have t7 := y7.below b10; have t8 := y8.below b10; obtain ⟨_, k0, k1, k2⟩ := T10.kb; obtain ⟨_, m0, m1, m2⟩ := T10.kc; obtain ⟨i0, i1, i2⟩ := Z7.2; obtain ⟨j0, j1, j2⟩ := Z8.2; clear b10))
   clear S K7 K8 e7 e8
   have S := T10
   have K7 := Z7
   have K8 := Z8
   have e7 := t7
   have e8 := t8
   clear T9 T10 X7 X8 Z7 Z8 y7 y8 t7 t8
   go_wp2
   go_region_held3 (fun w' => w'.cell? ⟨u5.heap.size, 0, none⟩ = some (.int .i64 d2) ∧ w'.cell? ⟨u5.heap.size, 1, none⟩ = some (.int .i64 f2) ∧ w'.cell? ⟨u5.heap.size, 2, none⟩ = some (.slice p5 tt.length q5) ∧ w'.cell? ⟨w.heap.size + 1, 0, none⟩ = some (.int .i64 d2) ∧ w'.cell? ⟨w.heap.size + 1, 1, none⟩ = some (.int .i64 f2) ∧ w'.cell? ⟨w.heap.size + 1, 2, none⟩ = some (.slice a2 tt.length c2)) (first | go_keep | ((repeat' apply And.intro) <;> first | assumption | go_keep)) (first
    | (go_at_call 25; refine (toCard_any _ d2 f2 a2 c2 tt S.drew.rc htt).mono ?_; rintro e v9 ⟨p9, q9, rfl, o9, b9⟩; have h9 := OwnS.rd o9; have T9 := S.drew.below b9; have X7 := (show CelL _ _ _ _ _ from K7.drew).below b9; have X8 := (show CelL _ _ _ _ _ from K8.drew).below b9; have y7 := RdS.below (w := World.drew _) e7 b9; have y8 := RdS.below (w := World.drew _) e8 b9; obtain ⟨_, k0, k1, k2⟩ := T9.kb; obtain ⟨_, m0, m1, m2⟩ := T9.kc; obtain ⟨i0, i1, i2⟩ := X7.2; obtain ⟨j0, j1, j2⟩ := X8.2; clear b9)
    | (go_at_call 27; refine (eqCard_same _ _ _ _ _ _ _ tt y8 h9 (by unfold maxLen; omega)).mono ?_; rintro e v10 ⟨rfl, b10⟩; have T10 := T9.below b10; have Z7 := X7.below b10; have Z8 := X8.below b10; have t7 := y7.below b10; have t8 := y8.below b10; obtain ⟨_, k0, k1, k2⟩ := T10.kb; obtain ⟨_, m0, m1, m2⟩ := T10.kc; obtain ⟨i0, i1, i2⟩ := Z7.2; obtain ⟨j0, j1, j2⟩ := Z8.2; clear b10))
   clear S K7 K8 e7 e8
   have S := T10
   have K7 := Z7
   have K8 := Z8
   have e7 := t7
   have e8 := t8
   clear T9 T10 X7 X8 Z7 Z8 y7 y8 t7 t8
   go_wp2
   go_ret
   exact ⟨rfl, S.W⟩

set_option maxRecDepth 100000 in
theorem lifted (os : Os) (started : os.Started) (H : Type) (enc : TypeId × Value → H) :
    ReturnsInHanded {} Try.checked os 5 .any (Rows.fnExactSameCardSpec.pre6 enc Try.prog Try.f5 Rows.fnExactSameCardRow.domain false) (Rows.fnExactSameCardSpec.post enc Try.prog Try.f5 false true false false) := by
  refine returnsInHanded_of_change (C := Try.checked) own started (by kernel_rfl) Try.func5
    (ChangeSpec.witness6 (enc := enc) (C := Try.checked) false ⟨#[], #[.agg #[.int .i64 0, .int .i64 0, .slice none 0 0], .agg #[.int .i64 0, .int .i64 0, .slice none 0 0]], []⟩ 8 (by kernel_rfl) (by kernel_rfl) (by kernel_rfl) (by kernel_rfl)) ?_
  intro W base args ds gs before hval0 hW hcnd _
  have hval : ∀ (j : Nat) t v, Try.f5.params[j]? = some t → args[j]? = some v → Value.okWide Try.prog W .any base t v := hval0
  have hW' := hW
  obtain ⟨p, q, hA0, hV, rfl, hfz, hnd⟩ := hW
  have hA : DataW.TrodAll enc Try.prog W 0 (fun _ => true) true Try.f5.params.toList args.toList ds p := hA0
  rw [Try.params5] at hA hval
  obtain ⟨v0, vs0, d0, ds0, p0, q0, hargs, rfl, rfl, h0, r0⟩ := trodAll_cons hA
  obtain ⟨v1, vs1, d1, ds1, p1, q1, rfl, rfl, rfl, h1, r1⟩ := trodAll_cons r0
  obtain ⟨rfl, rfl, rfl⟩ := trodAll_nil r1
  obtain rfl : args = #[v0, v1] := by cases args; simp_all
  obtain ⟨rfl, rfl⟩ := trodVars_none hV
  have k0 := h0
  have lt0 : ∀ x ∈ p0, x.block < W.heap.size := by obtain ⟨m, hm⟩ := k0; exact DataW.trod_lt m _ _ _ hm
  obtain ⟨cd0, cf0, ca0, cc0, cs0, rfl, cr0, cz0, wd0, wf0⟩ := cardIn (hval 0 28 v0 rfl rfl) h0
  have k1 := h1
  have lt1 : ∀ x ∈ p1, x.block < W.heap.size := by obtain ⟨m, hm⟩ := k1; exact DataW.trod_lt m _ _ _ hm
  obtain ⟨cd1, cf1, ca1, cc1, cs1, rfl, cr1, cz1, wd1, wf1⟩ := cardIn (hval 1 28 v1 rfl rfl) h1
  clear hA0 hval0
  refine (walk cd0 cf0 ca0 cc0 cs0 cd1 cf1 ca1 cc1 cs1 W cr0 cz0 cr1 cz1).mono fun e W' ⟨he, bel⟩ => ?_
  subst he
  exact ⟨_, rfl, _, _, _, [], _, [], hW', trodAll_mk1 (shut_bool Try.underlying4 _), (trodAll_cons_mk (Below.trod laidOut (by kernel_rfl) (of_decide_eq_true (by kernel_rfl)) k0 bel lt0) (trodAll_cons_mk (Below.trod laidOut (by kernel_rfl) (of_decide_eq_true (by kernel_rfl)) k1 bel lt1) trodAll_mk0)), rfl, bel.frame _, fun h => by cases h⟩

theorem closed : joinedFacts Try.prog 5 Try.f5 Rows.fnExactSameCardSpec Rows.fnExactSameCardRow = true := by
  unfold joinedFacts
  rw [cellMay, cellFinal, cellMake]
  repeat' (with_reducible refine and_mk ?_ ?_)
  all_goals first | with_reducible rfl | as_aux_lemma => kernel_rfl
theorem proved : Rows.FnExactSameCardSaid :=
  OpenClaim.holds_of_wide 5 Try.f5 rfl rfl rfl rfl rfl rfl rfl ⟨rfl, rfl, rfl, rfl, rfl⟩ rfl rfl rfl rfl rfl (by kernel_rfl) Try.func5 closed
    (of_decide_eq_true (by kernel_rfl)) (by unfold Func.isWrapper; first | (rw [if_pos (by decide +kernel)]; kernel_rfl) | (rw [if_neg (by decide +kernel)]; exact ⟨rfl, rfl⟩))
    (fun os started H enc _ => lifted os started H enc)
#print axioms proved
end Go.Proofs.Ytplcfgpmpacjeaa.fnExactSameCard
