/- FnExactCutRuns: for every input the law returns true and its arguments read afterwards as they read before. No condition. -/
import Derived.Test.YtolnhmmgmkehfaaRows
import Derived.WalkKit
import Derived.ProofKit
import Derived.OpenShut
import Derived.ShutString
import Derived.ChangeOld
import Derived.Below
import Derived.Lib.SmallJoins
import Derived.SliceStrings
import Derived.Test.YtolnhmmgmkehfaaCells
import Derived.Test.YtolnhmmgmkehfaaCutRS
namespace Go.Proofs.Ytolnhmmgmkehfaa.fnExactCutRuns
open Go.ChangeShapes Go.WideShapes Go.ChangeAt Go.RowKit Go.Joins
open Go.ChangeMaps (open_string shut_string)
set_option linter.unusedVariables false

theorem own : ownKnob Try.prog.godebug = none := by kernel_rfl
theorem laidOut : laidOutB Try.prog = true := by kernel_rfl

set_option maxHeartbeats 3200000 in
theorem walk (a0 a1 : ByteArray) (w : World) (w0 : a0.size ≤ maxLen) (w1 : a1.size ≤ maxLen) :
    Calls Try.prog 3 #[.string a0, .string a1] w fun e w' => e = .returned (.bool true) ∧ Below w.heap.size w w' := by
  by_cases g0 : 1048576 < a0.size
  · unfold maxLen at w0 w1
    go_enter Try.func3, Try.ntmps3
    go_wp2
    go_ret
    exact ⟨rfl, Below.refl _ _⟩
  by_cases g1 : 1048576 < a1.size
  · unfold maxLen at w0 w1
    go_enter Try.func3, Try.ntmps3
    go_wp2
    go_ret
    exact ⟨rfl, Below.refl _ _⟩
  have HL := Lib.hid (crA_le a0 a1)
  have HZ := Lib.hid (crZ_two a0 a1)
  have hl100 : crA a0 a1 ≤ 100000 := Nat.le_trans HL.out (by omega)
  go_enter Try.func3, Try.ntmps3
  go_wp2_with fail
  refine (specCutRuns_any a0 a1 w0 w1 _).mono ?_
  rintro e x1 ⟨v0, G0, C0, rfl, o1, b1⟩
  go_wp2_with fail
  refine (implCutRuns_any a0 a1 w0 w1 _).mono ?_
  rintro e x2 ⟨v1, G1, C1, rfl, o2, b2⟩
  have c2 : Below w.heap.size w x2 := b1.trans (b2.mono b1.size)
  have k1 : OwnR w.heap.size v0 (crA a0 a1) G0 C0 (crZ a0 a1) x2 := o1.below b2
  have far : ∀ b, Rws (crA a0 a1) G1 b → x1.heap.size ≤ b ∧ b < x2.heap.size := fun b h => o2.lt (.inr h)
  have old : ∀ b, Its v0 (crA a0 a1) G0 b → b < x1.heap.size := fun b h => (o1.lt h).2
  have sz1 := b1.size
  clear o1 b2 b1
  go_wp2_with fail
  refine (eqIntSS_same _ _ _ _ _ _ _ _ _ _ _ o2 k1 hl100).mono ?_
  rintro e x2' ⟨rfl, n1, rfl⟩
  have c2' : Below w.heap.size w (x2.drewN n1) := dr_below' c2 ⟨_, rfl⟩
  have o2' : OwnR x1.heap.size v1 (crA a0 a1) G1 C1 (crZ a0 a1) (x2.drewN n1) := o2
  have k1' : OwnR w.heap.size v0 (crA a0 a1) G0 C0 (crZ a0 a1) (x2.drewN n1) := k1
  clear o2 k1
  go_wp2_with fail
  refine (markIntSS_two _ _ _ _ _ _ 1 _ o2' HZ.out hl100 (by omega)).mono ?_
  rintro e x3 ⟨rfl, o3, b3⟩
  have c3 : Below w.heap.size w x3 := c2'.trans (b3.toBelow c2'.size (fun k hk h => by have h1 := (far k h).1; omega))
  have k3 : OwnR w.heap.size v0 (crA a0 a1) G0 C0 (crZ a0 a1) x3 := k1'.only b3 (fun b h h2 => by have h1 := old b h; have h3 := (far b h2).1; omega)
  clear k1' o2' c2' b3 c2
  go_wp2_with fail
  refine (heldIntSS_two _ _ _ _ _ _ 1 _ o3 hl100 (by omega)).mono ?_
  rintro e w' ⟨rfl, rfl⟩
  go_wp2_with fail
  refine (implCutRuns_any a0 a1 w0 w1 _).mono ?_
  rintro e x4 ⟨v2, G2, C2, rfl, o4, b4⟩
  have c4 : Below w.heap.size w x4 := c3.trans (b4.mono c3.size)
  have k4 := k3.below b4
  have o5 := o3.below b4
  clear k3 o3 b4
  go_wp2_with fail
  refine (eqIntSS_same _ _ _ _ _ _ _ _ _ _ _ o4 k4 hl100).mono ?_
  rintro e x4' ⟨rfl, n2, rfl⟩
  have o6 : OwnR x1.heap.size v1 (crA a0 a1) G1 C1 (mk2 1 (crA a0 a1) (crZ a0 a1)) (x4.drewN n2) := o5
  go_wp2_with fail
  refine (heldIntSS_two _ _ _ _ _ _ 1 _ o6 hl100 (by omega)).mono ?_
  rintro e w' ⟨rfl, rfl⟩
  go_wp2
  go_ret
  exact ⟨rfl, dr_below' c4 ⟨_, rfl⟩⟩

set_option maxRecDepth 100000 in
theorem lifted (os : Os) (started : os.Started) (H : Type) (enc : TypeId × Value → H) :
    ReturnsInHanded {} Try.checked os 3 .any (Rows.fnExactCutRunsSpec.pre6 enc Try.prog Try.f3 Rows.fnExactCutRunsRow.domain false) (Rows.fnExactCutRunsSpec.post enc Try.prog Try.f3 false true false false) := by
  refine returnsInHanded_of_change (C := Try.checked) own started (by kernel_rfl) Try.func3
    (ChangeSpec.witness6 (enc := enc) (C := Try.checked) false ⟨#[], #[.string ByteArray.empty, .string ByteArray.empty], []⟩ 8 (by kernel_rfl) (by kernel_rfl) (by kernel_rfl) (by kernel_rfl)) ?_
  intro W base args ds gs before hval0 hW hcnd _
  have hval : ∀ (j : Nat) t v, Try.f3.params[j]? = some t → args[j]? = some v → Value.okWide Try.prog W .any base t v := hval0
  have hW' := hW
  obtain ⟨p, q, hA0, hV, rfl, hfz, hnd⟩ := hW
  have hA : DataW.TrodAll enc Try.prog W 0 (fun _ => true) true Try.f3.params.toList args.toList ds p := hA0
  rw [Try.params3] at hA hval
  obtain ⟨v0, vs0, d0, ds0, p0, q0, hargs, rfl, rfl, h0, r0⟩ := trodAll_cons hA
  obtain ⟨v1, vs1, d1, ds1, p1, q1, rfl, rfl, rfl, h1, r1⟩ := trodAll_cons r0
  obtain ⟨rfl, rfl, rfl⟩ := trodAll_nil r1
  obtain rfl : args = #[v0, v1] := by cases args; simp_all
  obtain ⟨rfl, rfl⟩ := trodVars_none hV
  obtain ⟨a0, rfl, rfl, rfl, w0⟩ := open_string Try.underlying9 (hval 0 9 v0 rfl rfl) h0
  obtain ⟨a1, rfl, rfl, rfl, w1⟩ := open_string Try.underlying9 (hval 1 9 v1 rfl rfl) h1
  clear hA0 hval0
  refine (walk a0 a1 W w0 w1).mono fun e W' ⟨he, bel⟩ => ?_
  subst he
  exact ⟨_, rfl, _, _, _, [], _, [], hW', trodAll_mk1 (shut_bool Try.underlying4 _), (trodAll_cons_mk (shut_string Try.underlying9 w0) (trodAll_cons_mk (shut_string Try.underlying9 w1) trodAll_mk0)), rfl, bel.frame _, fun h => by cases h⟩

theorem closed : joinedFacts Try.prog 3 Try.f3 Rows.fnExactCutRunsSpec Rows.fnExactCutRunsRow = true := by
  unfold joinedFacts
  rw [cellMay, cellFinal, cellMake]
  repeat' (with_reducible refine and_mk ?_ ?_)
  all_goals first | with_reducible rfl | as_aux_lemma => kernel_rfl
theorem proved : Rows.FnExactCutRunsSaid :=
  OpenClaim.holds_of_wide 3 Try.f3 rfl rfl rfl rfl rfl rfl rfl ⟨rfl, rfl, rfl, rfl, rfl⟩ rfl rfl rfl rfl rfl (by kernel_rfl) Try.func3 closed
    (of_decide_eq_true (by kernel_rfl)) (by unfold Func.isWrapper; first | (rw [if_pos (by decide +kernel)]; kernel_rfl) | (rw [if_neg (by decide +kernel)]; exact ⟨rfl, rfl⟩))
    (fun os started H enc _ => lifted os started H enc)
#print axioms proved
end Go.Proofs.Ytolnhmmgmkehfaa.fnExactCutRuns
