/- FnExactSampleCard: for every input the law returns true and its arguments read afterwards as they read before. No condition. -/
import Derived.Test.YtcddajghmdnkcaaRows
import Derived.WalkKit
import Derived.ProofKit
import Derived.OpenShut
import Derived.ShutString
import Derived.ChangeOld
import Derived.Below
import Derived.Lib.SmallJoins
import Derived.SliceStrings
import Derived.Test.YtcddajghmdnkcaaCells
import Derived.Test.YtcddajghmdnkcaaSample
import Derived.Test.YtcddajghmdnkcaaMarksL
namespace Go.Proofs.Ytcddajghmdnkcaa.fnExactSampleCard
open Go.ChangeShapes Go.WideShapes Go.ChangeAt Go.RowKit Go.Joins
open Go.ChangeMaps (open_string shut_string)
set_option linter.unusedVariables false

theorem own : ownKnob Try.prog.godebug = none := by kernel_rfl
theorem laidOut : laidOutB Try.prog = true := by kernel_rfl

set_option maxRecDepth 20000 in
set_option maxHeartbeats 3200000 in
theorem core (D E : Int) (S : List ByteArray) (hS : S.length ≤ 1000) (w : World)
    (cs : ∀ w, Calls Try.prog 8 #[] w fun e w' => CardR1 w.heap.size D E S e w' ∧ Below w.heap.size w w')
    (ci : ∀ w, Calls Try.prog 9 #[] w fun e w' => CardR1 w.heap.size D E S e w' ∧ Below w.heap.size w w') :
    Calls Try.prog 4 #[] w fun e w' => e = .returned (.bool true) ∧ Below w.heap.size w w' := by
  have CS := Lib.hid cs; have CI := Lib.hid ci; clear cs ci
  have hm : S.length ≤ maxLen := by unfold maxLen; omega
  have hk : 1 + S.length ≤ 10000000 := by omega
  go_enter Try.func4, Try.ntmps4
  go_wp2_with fail
  refine (CS.out _).mono ?_
  rintro e u1 ⟨⟨a1, c1, rfl, o1⟩, b1⟩
  have z1 := b1.size
  go_wp2_with fail
  refine (CI.out _).mono ?_
  rintro e u2 ⟨⟨a2, c2, rfl, o2⟩, b2⟩
  have k7 := (Blk.new u1 (.int .i64 D) (.int .i64 E) (.slice a1 S.length c1)).below b2
  have z2 := b2.size
  have l7 : u1.heap.size < u2.heap.size := k7.lt
  have k7' := (k7.alloc (.cells #[.int .i64 D, .int .i64 E, .slice a2 S.length c2] 29))
  have k9' := Blk.new u2 (.int .i64 D) (.int .i64 E) (.slice a2 S.length c2)
  have p1 : OwnS w.heap.size (.slice a1 S.length c1) S (u2.alloc (.cells #[.int .i64 D, .int .i64 E, .slice a2 S.length c2] 29)) := (OwnS.below (OwnS.below o1 ((Below.refl _ _).alloc (Nat.le_refl _) _)) b2).below ((Below.refl _ _).alloc (Nat.le_refl _) _)
  have p2 := OwnS.below o2 ((Below.refl _ _).alloc (Nat.le_refl _) (.cells #[.int .i64 D, .int .i64 E, .slice a2 S.length c2] 29))
  have i7 := k7.c0; have j7 := k7.c1; have q7 := k7.c2
  have W2 := ((b1.alloc z1 (.cells #[.int .i64 D, .int .i64 E, .slice a1 S.length c1] 29)).trans (b2.mono (by simp; omega))).alloc (by omega) (.cells #[.int .i64 D, .int .i64 E, .slice a2 S.length c2] 29)
  have K7 := Lib.hid k7'; have K9 := Lib.hid k9'; clear k7 k7' k9' b1 b2
  go_wp2_with fail
  refine (eqCard_same _ _ _ _ _ _ _ S (OwnS.rd p2) (OwnS.rd p1) hm).mono ?_
  rintro e u3 ⟨rfl, b3⟩
  have A7 := K7.out.below b3
  have A9 := K9.out.below b3
  have p1 := OwnS.below p1 b3
  have p2 := OwnS.below p2 b3
  have i7 := A7.c0; have j7 := A7.c1; have q7 := A7.c2
  have i9 := A9.c0; have j9 := A9.c1; have q9 := A9.c2
  have l9 := A9.lt
  have W3 := W2.trans (b3.mono W2.size)
  have K7 := Lib.hid A7; have K9 := Lib.hid A9; clear A7 A9 b3 W2
  go_wp2_with fail
  refine (markCard_any _ _ _ _ _ S 1 _ p2 hk).mono ?_
  rintro e u4 ⟨rfl, m2, g4⟩
  have ne7 : some u1.heap.size ≠ (Value.slice a2 S.length c2).ownBlock := fun e => by have := (o2.lt _ e.symm).1; first | (simp at this; done) | (simp at this; omega)
  have ne9 : some u2.heap.size ≠ (Value.slice a2 S.length c2).ownBlock := fun e => by have := (o2.lt _ e.symm).2; omega
  have A7 := K7.out.grown g4 ne7
  have A9 := K9.out.grown g4 ne9
  have p1 : OwnS w.heap.size (.slice a1 S.length c1) S u4 := World.ownsRow.kept p1 g4 (by
    cases h : (Value.slice a1 S.length c1).ownBlock with
    | none => exact .inl rfl
    | some b => exact .inr (fun e => by have h1 := (o1.lt _ h).2; have h2 := (o2.lt _ e.symm).1; simp at h2; omega))
  have W4 := W3.trans (below_grown g4 W3.size (fun k e => by have := (o2.lt _ e).1; first | (simp at this; done) | (simp at this; omega)))
  have i7 := A7.c0; have j7 := A7.c1; have q7 := A7.c2
  have i9 := A9.c0; have j9 := A9.c1; have q9 := A9.c2
  have K7 := Lib.hid A7; have K9 := Lib.hid A9; clear A7 A9 W3 g4 p2 ne7 ne9
  have m2r : RdS u4 a2 (marksS 1 S.length) := by have h := m2.read; rw [marksS_length] at h; obtain ⟨a', c', e, hr⟩ := h; obtain ⟨rfl, _⟩ : a2 = a' ∧ True := by simpa using (Value.slice.inj e).1
                                                 exact hr
  clear m2
  go_wp2_with fail
  refine (heldCard_any _ _ _ _ _ 1 _ m2r hk).mono ?_
  rintro e u5 ⟨rfl, b5⟩
  have A7 := K7.out.below b5
  have A9 := K9.out.below b5
  have p1 := OwnS.below p1 b5
  have m2r := m2r.below b5
  have i7 := A7.c0; have j7 := A7.c1; have q7 := A7.c2
  have i9 := A9.c0; have j9 := A9.c1; have q9 := A9.c2
  have W5 := W4.trans (b5.mono W4.size)
  have K7 := Lib.hid A7; have K9 := Lib.hid A9; clear A7 A9 b5 W4
  have npos : (0 : Int) ≤ ((1 + S.length : Nat) : Int) := by omega
  go_wp2_with fail
  refine (CI.out _).mono ?_
  rintro e u6 ⟨⟨a6, c6, rfl, o6⟩, b6⟩
  have A7 := K7.out.below b6
  have A9 := K9.out.below b6
  have p1 := OwnS.below p1 b6
  have m2r := m2r.below b6
  have i7 := A7.c0; have j7 := A7.c1; have q7 := A7.c2
  have i9 := A9.c0; have j9 := A9.c1; have q9 := A9.c2
  have l7 := A7.lt
  have l9 := A9.lt
  have W6 := (W5.trans (b6.mono W5.size)).alloc (Nat.le_trans W5.size b6.size) (.cells #[.int .i64 D, .int .i64 E, .slice a6 S.length c6] 29)
  have bal := (Below.refl u6.heap.size u6).alloc (Nat.le_refl _) (.cells #[.int .i64 D, .int .i64 E, .slice a6 S.length c6] 29)
  have p1 := OwnS.below p1 bal
  have p6 := OwnS.below o6 bal
  have m2r := m2r.below bal
  have K7 := Lib.hid (A7.below bal); have K9 := Lib.hid (A9.below bal); clear A7 A9 b6 W5 bal
  go_wp2_with fail
  refine (eqCard_same _ _ _ _ _ _ _ S (OwnS.rd p6) (OwnS.rd p1) hm).mono ?_
  rintro e u7 ⟨rfl, b7⟩
  have A9 := K9.out.below b7
  have m2r := m2r.below b7
  have i9 := A9.c0; have j9 := A9.c1; have q9 := A9.c2
  have W7 := W6.trans (b7.mono W6.size)
  clear A9 b7 W6 K7 K9 p1 p6
  go_wp2_with fail
  refine (heldCard_any _ _ _ _ _ 1 _ m2r hk).mono ?_
  rintro e u8 ⟨rfl, b8⟩
  have W8 := W7.trans (b8.mono W7.size)
  clear b8 W7
  go_wp2
  go_ret
  exact ⟨rfl, W8⟩

theorem walk (w : World) :
    Calls Try.prog 4 #[] w fun e w' => e = .returned (.bool true) ∧ Below w.heap.size w w' :=
  core 3 4 smp (by unfold smp; simp) w spec_sample impl_sample

set_option maxRecDepth 100000 in
theorem lifted (os : Os) (started : os.Started) (H : Type) (enc : TypeId × Value → H) :
    ReturnsInHanded {} Try.checked os 4 .any (Rows.fnExactSampleCardSpec.pre6 enc Try.prog Try.f4 Rows.fnExactSampleCardRow.domain false) (Rows.fnExactSampleCardSpec.post enc Try.prog Try.f4 false true false false) := by
  refine returnsInHanded_of_change (C := Try.checked) own started (by kernel_rfl) Try.func4
    (ChangeSpec.witness6 (enc := enc) (C := Try.checked) false ⟨#[], #[], []⟩ 8 (by kernel_rfl) (by kernel_rfl) (by kernel_rfl) (by kernel_rfl)) ?_
  intro W base args ds gs before hval0 hW hcnd _
  have hval : ∀ (j : Nat) t v, Try.f4.params[j]? = some t → args[j]? = some v → Value.okWide Try.prog W .any base t v := hval0
  have hW' := hW
  obtain ⟨p, q, hA0, hV, rfl, hfz, hnd⟩ := hW
  have hA : DataW.TrodAll enc Try.prog W 0 (fun _ => true) true Try.f4.params.toList args.toList ds p := hA0
  rw [Try.params4] at hA hval
  obtain ⟨rfl, rfl, rfl⟩ := trodAll_none hA
  obtain ⟨rfl, rfl⟩ := trodVars_none hV
  clear hA0 hval0
  refine (walk W).mono fun e W' ⟨he, bel⟩ => ?_
  subst he
  exact ⟨_, rfl, _, _, _, [], _, [], hW', trodAll_mk1 (shut_bool Try.underlying4 _), trodAll_mk0, rfl, bel.frame _, fun h => by cases h⟩

theorem closed : joinedFacts Try.prog 4 Try.f4 Rows.fnExactSampleCardSpec Rows.fnExactSampleCardRow = true := by
  unfold joinedFacts
  rw [cellMay, cellFinal, cellMake]
  repeat' (with_reducible refine and_mk ?_ ?_)
  all_goals first | with_reducible rfl | as_aux_lemma => kernel_rfl
theorem proved : Rows.FnExactSampleCardSaid :=
  OpenClaim.holds_of_wide 4 Try.f4 rfl rfl rfl rfl rfl rfl rfl ⟨rfl, rfl, rfl, rfl, rfl⟩ rfl rfl rfl rfl rfl (by kernel_rfl) Try.func4 closed
    (of_decide_eq_true (by kernel_rfl)) (by unfold Func.isWrapper; first | (rw [if_pos (by decide +kernel)]; kernel_rfl) | (rw [if_neg (by decide +kernel)]; exact ⟨rfl, rfl⟩))
    (fun os started H enc _ => lifted os started H enc)
#print axioms proved
end Go.Proofs.Ytcddajghmdnkcaa.fnExactSampleCard
