/- FnExactRunsOf: for every input the law returns true and its arguments read afterwards as they read before. No condition. -/
import Derived.Test.YtkaoceoeflcgpaaRows
import Derived.WalkKit
import Derived.ProofKit
import Derived.OpenShut
import Derived.ShutString
import Derived.ChangeOld
import Derived.Below
import Derived.Lib.SmallJoins
import Derived.SliceStrings
import Derived.Test.YtkaoceoeflcgpaaCells
import Derived.Test.YtkaoceoeflcgpaaRuns
namespace Go.Proofs.Ytkaoceoeflcgpaa.fnExactRunsOf
open Go.ChangeShapes Go.WideShapes Go.ChangeAt Go.RowKit Go.Joins
open Go.ChangeMaps (open_string shut_string)
set_option linter.unusedVariables false

theorem own : ownKnob Try.prog.godebug = none := by kernel_rfl
theorem laidOut : laidOutB Try.prog = true := by kernel_rfl

set_option maxHeartbeats 1600000 in
theorem walk (a0 : ByteArray) (w : World) (w0 : a0.size ≤ maxLen) :
    Calls Try.prog 4 #[.string a0] w fun e w' => e = .returned (.bool true) ∧ Below w.heap.size w w' := by
  by_cases g0 : 1048576 < a0.size
  · unfold maxLen at w0
    go_enter Try.func4, Try.ntmps4
    go_wp2
    go_ret
    exact ⟨rfl, Below.refl _ _⟩
  have hle := runV_le a0
  go_enter Try.func4, Try.ntmps4
  go_wp2_with fail
  refine (specRunsOf_any _ w0 _).mono ?_
  rintro e x1 ⟨v0, rfl, o1, b1⟩
  go_wp2_with fail
  refine (implRunsOf_any _ w0 _).mono ?_
  rintro e x2 ⟨v1, rfl, o2, b2⟩
  have c2 : Below w.heap.size w x2 := b1.trans (b2.mono b1.size)
  go_wp2_with fail
  refine (eqIntS_same _ _ _ _ _ _ o2 (o1.below b2)).mono ?_
  rintro e x2' ⟨rfl, n1, rfl⟩
  have c2' : Below w.heap.size w (x2.drewN n1) := dr_below' c2 ⟨_, rfl⟩
  go_wp2_with fail
  refine (markIntS_any _ _ _ 1 _ (o2.drewN n1) (by omega) (by omega) hle).mono ?_
  rintro e x3 ⟨rfl, o3, b3, z3⟩
  clear z3
  have c3 : Below w.heap.size w x3 := c2'.trans (b3.mono b1.size)
  have k1 := OwnI.kept o1 (dr_below' b2 ⟨n1, rfl⟩) (Nat.le_refl _) b3
  go_wp2_with fail
  refine (heldIntS_any _ _ _ 1 _ o3 (by omega) (by omega) hle).mono ?_
  rintro e w' ⟨rfl, rfl⟩
  go_wp2_with fail
  refine (implRunsOf_any _ w0 _).mono ?_
  rintro e x4 ⟨v2, rfl, o4, b4⟩
  have c4 : Below w.heap.size w x4 := c3.trans (b4.mono c3.size)
  go_wp2_with fail
  refine (eqIntS_same _ _ _ _ _ _ o4 (k1.below b4)).mono ?_
  rintro e x4' ⟨rfl, n2, rfl⟩
  go_wp2_with fail
  refine (heldIntS_any _ _ _ 1 _ ((o3.below b4).drewN n2) (by omega) (by omega) hle).mono ?_
  rintro e w' ⟨rfl, rfl⟩
  go_wp2
  go_ret
  exact ⟨rfl, dr_below' c4 ⟨_, rfl⟩⟩

set_option maxRecDepth 100000 in
theorem lifted (os : Os) (started : os.Started) (H : Type) (enc : TypeId × Value → H) :
    ReturnsInHanded {} Try.checked os 4 .any (Rows.fnExactRunsOfSpec.pre6 enc Try.prog Try.f4 Rows.fnExactRunsOfRow.domain false) (Rows.fnExactRunsOfSpec.post enc Try.prog Try.f4 false true false false) := by
  refine returnsInHanded_of_change (C := Try.checked) own started (by kernel_rfl) Try.func4
    (ChangeSpec.witness6 (enc := enc) (C := Try.checked) false ⟨#[], #[.string ByteArray.empty], []⟩ 8 (by kernel_rfl) (by kernel_rfl) (by kernel_rfl) (by kernel_rfl)) ?_
  intro W base args ds gs before hval0 hW hcnd _
  have hval : ∀ (j : Nat) t v, Try.f4.params[j]? = some t → args[j]? = some v → Value.okWide Try.prog W .any base t v := hval0
  have hW' := hW
  obtain ⟨p, q, hA0, hV, rfl, hfz, hnd⟩ := hW
  have hA : DataW.TrodAll enc Try.prog W 0 (fun _ => true) true Try.f4.params.toList args.toList ds p := hA0
  rw [Try.params4] at hA hval
  obtain ⟨v0, vs0, d0, ds0, p0, q0, hargs, rfl, rfl, h0, r0⟩ := trodAll_cons hA
  obtain ⟨rfl, rfl, rfl⟩ := trodAll_nil r0
  obtain rfl : args = #[v0] := by cases args; simp_all
  obtain ⟨rfl, rfl⟩ := trodVars_none hV
  obtain ⟨a0, rfl, rfl, rfl, w0⟩ := open_string Try.underlying9 (hval 0 9 v0 rfl rfl) h0
  clear hA0 hval0
  refine (walk a0 W w0).mono fun e W' ⟨he, bel⟩ => ?_
  subst he
  exact ⟨_, rfl, _, _, _, [], _, [], hW', trodAll_mk1 (shut_bool Try.underlying4 _), (trodAll_cons_mk (shut_string Try.underlying9 w0) trodAll_mk0), rfl, bel.frame _, fun h => by cases h⟩

theorem closed : joinedFacts Try.prog 4 Try.f4 Rows.fnExactRunsOfSpec Rows.fnExactRunsOfRow = true := by
  unfold joinedFacts
  rw [cellMay, cellFinal, cellMake]
  repeat' (with_reducible refine and_mk ?_ ?_)
  all_goals first | with_reducible rfl | as_aux_lemma => kernel_rfl
theorem proved : Rows.FnExactRunsOfSaid :=
  OpenClaim.holds_of_wide 4 Try.f4 rfl rfl rfl rfl rfl rfl rfl ⟨rfl, rfl, rfl, rfl, rfl⟩ rfl rfl rfl rfl rfl (by kernel_rfl) Try.func4 closed
    (of_decide_eq_true (by kernel_rfl)) (by unfold Func.isWrapper; first | (rw [if_pos (by decide +kernel)]; kernel_rfl) | (rw [if_neg (by decide +kernel)]; exact ⟨rfl, rfl⟩))
    (fun os started H enc _ => lifted os started H enc)
#print axioms proved
end Go.Proofs.Ytkaoceoeflcgpaa.fnExactRunsOf
