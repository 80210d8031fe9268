/- FnExactFromRuns: for every input the law returns true and its arguments read afterwards as they read before. No condition. -/
import Derived.Test.YtplcfgpmpacjeaaRows
import Derived.WalkKit
import Derived.ProofKit
import Derived.OpenShut
import Derived.ShutString
import Derived.ChangeOld
import Derived.Below
import Derived.Lib.SmallJoins
import Derived.SliceStrings
import Derived.Test.YtplcfgpmpacjeaaCells
import Derived.Test.YtplcfgpmpacjeaaFromRuns2
namespace Go.Proofs.Ytplcfgpmpacjeaa.fnExactFromRuns
open Go.ChangeShapes Go.WideShapes Go.ChangeAt Go.RowKit Go.Joins
open Go.ChangeMaps (open_string shut_string)
set_option linter.unusedVariables false

theorem own : ownKnob Try.prog.godebug = none := by kernel_rfl
theorem laidOut : laidOutB Try.prog = true := by kernel_rfl

set_option maxRecDepth 100000 in
open Go.ChangeShapes Go.WideShapes Go.ChangeAt in
theorem intsIn {H : Type} {enc : TypeId × Value → H} {W : World} {base : Nat} {v : Value} {d : DataW H} {p : List MemPlace}
    (hv : Value.okWide Try.prog W .any base 50 v) (h : DataW.Trod enc Try.prog W 0 (fun _ => true) true 50 v d p) :
    ∃ (a : Option Addr) (c : Nat) (zs : List Int), v = .slice a zs.length c ∧ zs.length ≤ maxLen ∧ RdI W a zs := by
  obtain ⟨a, n, cap, rfl⟩ := okWide_slice Try.underlying50 hv
  obtain ⟨m, hm⟩ := h
  rcases open_ints Try.underlying50 Try.underlying3 (by kernel_rfl) hm with ⟨hcs, _⟩ | ⟨ad, len, cap', zs, hcs, _, hl, hmx, hz, _, hcell, hwz⟩
  · simp [Value.cells] at hcs
    obtain ⟨rfl, rfl, rfl⟩ := hcs
    exact ⟨none, 0, [], rfl, Nat.zero_le _, .inl rfl⟩
  · simp [Value.cells] at hcs
    obtain ⟨rfl, rfl, rfl⟩ := hcs
    have hzl : zs.length = cap := by simpa using hz
    have hln : (zs.take n).length = n := by rw [List.length_take]; omega
    refine ⟨some ad, cap, zs.take n, by rw [hln], by rw [hln]; omega, ?_⟩
    rcases Nat.eq_zero_or_pos n with h0 | h0
    · left; rw [h0]; rfl
    · obtain ⟨b, off, rfl, hc⟩ := ints_at hcell (by omega)
      refine .inr ⟨b, off, rfl, by omega, World.block_lt_of_cell? W _ (hc 0 (by omega)), fun j hj => ?_⟩
      rw [hln] at hj
      rw [hc j (by omega), List.getD_eq_getElem?_getD, List.getD_eq_getElem?_getD, List.getElem?_take_of_lt hj]

set_option maxRecDepth 100000 in
set_option maxHeartbeats 3200000 in
theorem walk (a0 : ByteArray) (a : Option Addr) (c : Nat) (zs : List Int) (w : World) (w0 : a0.size ≤ maxLen) (hm : zs.length ≤ maxLen) (hr : RdI w a zs) :
    Calls Try.prog 14 #[.string a0, .slice a zs.length c] w fun e w' => e = .returned (.bool true) ∧ Below w.heap.size w w' := by
  by_cases g0 : 1048576 < a0.size
  · unfold maxLen at w0 hm
    clear hr
    go_enter Try.func14, Try.ntmps14
    go_wp2
    go_ret
    exact ⟨rfl, Below.refl _ _⟩
  by_cases g1 : 1048576 < zs.length
  · unfold maxLen at w0 hm
    clear hr
    go_enter Try.func14, Try.ntmps14
    go_wp2
    go_ret
    exact ⟨rfl, Below.refl _ _⟩
  have hl : zs.length ≤ 1048576 := by omega
  have hs : a0.size ≤ 1048576 := by omega
  clear g0 g1 w0 hm
  have HR := Lib.hid hr; clear hr
  go_enter Try.func14, Try.ntmps14
  go_wp2_with fail
  refine (toIntS_any a c zs _ HR.out hl).mono ?_
  rintro e u1 ⟨v1, rfl, o1, b1⟩
  obtain ⟨p1, q1, rfl, r1⟩ := o1.rdI
  have R1 := Lib.hid r1; have B1 := Lib.hid b1; clear r1 b1 o1
  go_wp2_with fail
  refine (specFromRuns_any a0 p1 q1 zs _ R1.out hl).mono ?_
  rintro e w' ⟨rfl, rfl⟩
  go_wp2_with fail
  refine (toIntS_any a c zs _ (HR.out.below B1.out) hl).mono ?_
  rintro e u2 ⟨v2, rfl, o2, b2⟩
  obtain ⟨p2, q2, rfl, r2⟩ := o2.rdI
  have R2 := Lib.hid r2; have O2 := Lib.hid o2; have B2 := Lib.hid (B1.out.trans (b2.mono B1.out.size)); clear r2 b2 o2
  go_wp2_with fail
  refine (implFromRuns_any a0 p2 q2 zs _ R2.out hl).mono ?_
  rintro e u3 ⟨rfl, b3⟩
  have O3 := Lib.hid (O2.out.below b3); have B3 := Lib.hid (B2.out.trans (b3.mono B2.out.size)); clear b3
  go_wp2_with fail
  refine (toIntS_any a c zs _ (HR.out.below B3.out) hl).mono ?_
  rintro e u4 ⟨v4, rfl, o4, b4⟩
  have O4 := Lib.hid (O3.out.below b4); have B4 := Lib.hid (B3.out.trans (b4.mono B3.out.size)); have P4 := Lib.hid o4; clear b4 o4
  go_wp2_with fail
  refine (eqIntS_same _ _ _ _ zs _ O4.out P4.out).mono ?_
  rintro e u5 ⟨rfl, n5, rfl⟩
  go_wp2
  go_ret
  exact ⟨rfl, B4.out.trans (dr_below ⟨n5, rfl⟩ _)⟩

set_option maxRecDepth 100000 in
theorem lifted (os : Os) (started : os.Started) (H : Type) (enc : TypeId × Value → H) :
    ReturnsInHanded {} Try.checked os 14 .any (Rows.fnExactFromRunsSpec.pre6 enc Try.prog Try.f14 Rows.fnExactFromRunsRow.domain false) (Rows.fnExactFromRunsSpec.post enc Try.prog Try.f14 false true false false) := by
  refine returnsInHanded_of_change (C := Try.checked) own started (by kernel_rfl) Try.func14
    (ChangeSpec.witness6 (enc := enc) (C := Try.checked) false ⟨#[], #[.string ByteArray.empty, .slice none 0 0], []⟩ 8 (by kernel_rfl) (by kernel_rfl) (by kernel_rfl) (by kernel_rfl)) ?_
  intro W base args ds gs before hval0 hW hcnd _
  have hval : ∀ (j : Nat) t v, Try.f14.params[j]? = some t → args[j]? = some v → Value.okWide Try.prog W .any base t v := hval0
  have hW' := hW
  obtain ⟨p, q, hA0, hV, rfl, hfz, hnd⟩ := hW
  have hA : DataW.TrodAll enc Try.prog W 0 (fun _ => true) true Try.f14.params.toList args.toList ds p := hA0
  rw [Try.params14] at hA hval
  obtain ⟨v0, vs0, d0, ds0, p0, q0, hargs, rfl, rfl, h0, r0⟩ := trodAll_cons hA
  obtain ⟨v1, vs1, d1, ds1, p1, q1, rfl, rfl, rfl, h1, r1⟩ := trodAll_cons r0
  obtain ⟨rfl, rfl, rfl⟩ := trodAll_nil r1
  obtain rfl : args = #[v0, v1] := by cases args; simp_all
  obtain ⟨rfl, rfl⟩ := trodVars_none hV
  obtain ⟨a0, rfl, rfl, rfl, w0⟩ := open_string Try.underlying9 (hval 0 9 v0 rfl rfl) h0
  have k1 := h1
  have lt1 : ∀ x ∈ p1, x.block < W.heap.size := by obtain ⟨m, hm⟩ := k1; exact DataW.trod_lt m _ _ _ hm
  obtain ⟨ia1, ic1, iz1, rfl, im1, ir1⟩ := intsIn (hval 1 50 v1 rfl rfl) h1
  clear hA0 hval0
  refine (walk a0 ia1 ic1 iz1 W w0 im1 ir1).mono fun e W' ⟨he, bel⟩ => ?_
  subst he
  exact ⟨_, rfl, _, _, _, [], _, [], hW', trodAll_mk1 (shut_bool Try.underlying4 _), (trodAll_cons_mk (shut_string Try.underlying9 w0) (trodAll_cons_mk (Below.trod laidOut (by kernel_rfl) (of_decide_eq_true (by kernel_rfl)) k1 bel lt1) trodAll_mk0)), rfl, bel.frame _, fun h => by cases h⟩

theorem closed : joinedFacts Try.prog 14 Try.f14 Rows.fnExactFromRunsSpec Rows.fnExactFromRunsRow = true := by
  unfold joinedFacts
  rw [cellMay, cellFinal, cellMake]
  repeat' (with_reducible refine and_mk ?_ ?_)
  all_goals first | with_reducible rfl | as_aux_lemma => kernel_rfl
theorem proved : Rows.FnExactFromRunsSaid :=
  OpenClaim.holds_of_wide 14 Try.f14 rfl rfl rfl rfl rfl rfl rfl ⟨rfl, rfl, rfl, rfl, rfl⟩ rfl rfl rfl rfl rfl (by kernel_rfl) Try.func14 closed
    (of_decide_eq_true (by kernel_rfl)) (by unfold Func.isWrapper; first | (rw [if_pos (by decide +kernel)]; kernel_rfl) | (rw [if_neg (by decide +kernel)]; exact ⟨rfl, rfl⟩))
    (fun os started H enc _ => lifted os started H enc)
#print axioms proved
end Go.Proofs.Ytplcfgpmpacjeaa.fnExactFromRuns
