/- FnExactSplitFields: for every input the law returns true and its arguments read afterwards as they read before. Condition: the listed variables of the library hold what their initialisers lay; the card ties that to the program's text. -/
import Derived.Test.YtmfboleiakbpnaaDoorRows
import Derived.Test.YtmfboleiakbpnaaDoorCards
import Derived.Test.YtmfboleiakbpnaaDoorTie
import Derived.WalkKit
import Derived.ProofKit
import Derived.OpenShut
import Derived.ShutString
import Derived.ChangeOld
import Derived.Below
import Derived.Lib.SmallJoins
import Derived.SliceStrings
import Derived.LaidMore
import Derived.Stop.Joined
import Derived.Stop.LaidErr
import Derived.Handed
import Derived.MakeChecks
import Derived.LaidHandle
import Derived.SevenTiedAt
import Derived.Test.YtmfboleiakbpnaaDoorSplitS
import Derived.Test.YtmfboleiakbpnaaDoorMarksD
namespace Go.Proofs.YtmfboleiakbpnaaDoor.fnExactSplitFields
open Go.ChangeShapes Go.WideShapes Go.ChangeAt Go.RowKit Go.Joins
open Go.ChangeMaps (open_string shut_string)
set_option linter.unusedVariables false
set_option linter.unusedSimpArgs false
set_option maxRecDepth 100000

theorem own : ownKnob Tryd.prog.godebug = none := by kernel_rfl
theorem laidOut : laidOutB Tryd.prog = true := by kernel_rfl
/-- The listed variables. -/
abbrev LD : List (String × DataW Unit) := Rows.fnExactSplitFieldsRow.laid
theorem door_met (os : Os) (args : Array Value) : laidMetH Tryd.prog LD ((World.doorLaid Tryd.prog 86 os).forCall (fun _ _ => 0) ⟨#[], args, []⟩).memory :=
  laidMetH_of_parts3 (fuel := 8) (laidMet_of_run' 8 (by kernel_rfl) (by kernel_rfl)) (by kernel_rfl) (by kernel_rfl)

theorem gS : Tryd.prog.globalNamed "strings.asciiSpace" = some 0 := by kernel_rfl
theorem laidS : Rows.laid_strings_asciiSpace (H := Unit) = Lib.tabData .u8 Lib.asciiSpaceTab := by kernel_rfl
/-- The table of spaces. -/
theorem tabS_of {W : World} (h : laidMet Tryd.prog LD W) : TabS W := by
  have h2 : laidMet Tryd.prog (("strings.asciiSpace", Rows.laid_strings_asciiSpace) :: []) W := laidMet.tail h
  rw [laidS] at h2
  exact Lib.tabBelow_of_tabIs (Lib.tabIs_of_head (t := 54) (e := 5) (n := 256) gS (by kernel_rfl) (by kernel_rfl) (by kernel_rfl) (by kernel_rfl) (by kernel_rfl) h2)
theorem dr_belS {B : Nat} {w w1 w2 : World} (h : Below B w w1) (h2 : ∃ n, w2 = w1.drewN n) : Below B w w2 := h.trans (dr_below h2 B)

set_option maxHeartbeats 3200000 in
theorem walk (s : ByteArray) (w : World) (hs : s.size ≤ maxLen) (hL : laidMet Tryd.prog LD w) :
    Calls Tryd.prog 4 #[.string s] w fun e w' => e = .returned (.bool true) ∧ Below w.heap.size w w' := by
  have HT := Lib.hid (tabS_of hL)
  clear hL
  have hs' := hs
  unfold maxLen at hs'
  by_cases hb : 1048576 < s.size
  · go_enter Tryd.func4, Tryd.ntmps4
    go_wp2
    go_ret
    exact ⟨rfl, Below.refl _ _⟩
  have hm : s.size ≤ 1048576 := by omega
  clear hb
  have hle := spV_le s
  have hmx : (spV s).length ≤ maxLen := by unfold maxLen; omega
  have q0 : (okF s != okF s) = false := by simp
  go_enter Tryd.func4, Tryd.ntmps4
  go_wp2_with fail
  refine (specSplit_any s hm _).mono ?_
  rintro e x1 ⟨⟨v0, rfl, o1⟩, b1⟩
  go_wp2_with fail
  refine (implSplit_any s hm _ (HT.out.below b1)).mono ?_
  rintro e x2 ⟨⟨v1, rfl, o2⟩, b2⟩
  have c2 : Below w.heap.size w x2 := b1.trans (b2.mono b1.size)
  have HT2 := Lib.hid (HT.out.below c2)
  obtain ⟨a0, k0, rfl, r0⟩ := OwnS.read (o1.below b2)
  obtain ⟨a1, k1, rfl, r1⟩ := OwnS.read o2
  have l0 : ∀ k, (Value.slice a0 (spV s).length k0).ownBlock = some k → k < x1.heap.size := fun k e => (World.ownsRow.lt o1 k e).2
  have l1 : ∀ k, (Value.slice a1 (spV s).length k1).ownBlock = some k → x1.heap.size ≤ k := fun k e => (World.ownsRow.lt o2 k e).1
  have o1' := o1.below b2
  have z1 := b1.size
  clear o1 b1 b2
  go_wp2_with fail
  refine (eqStringS_same _ _ _ _ _ _ r1 r0 hmx).mono ?_
  rintro e x2' ⟨rfl, n1, rfl⟩
  have c2' : Below w.heap.size w (x2.drewN n1) := dr_belS c2 ⟨_, rfl⟩
  have o2' : OwnS x1.heap.size (.slice a1 (spV s).length k1) (spV s) (x2.drewN n1) := o2
  have o1'' : OwnS w.heap.size (.slice a0 (spV s).length k0) (spV s) (x2.drewN n1) := o1'
  clear o2 o1' r0 r1 c2
  go_wp2_with fail
  refine (markStringS_any _ _ _ 1 _ o2' (by omega)).mono ?_
  rintro e x3 ⟨rfl, o3, g3⟩
  have c3 : Below w.heap.size w x3 := c2'.trans (below_grown g3 c2'.size (fun k e => by have := l1 k e; omega))
  have o4 : OwnS w.heap.size (.slice a0 (spV s).length k0) (spV s) x3 := World.ownsRow.kept o1'' g3 (by
    cases h : (Value.slice a0 (spV s).length k0).ownBlock with
    | none => exact .inl rfl
    | some b => exact .inr (fun e => by have h1 := l0 b h; have h2 := l1 b e.symm; omega))
  have r3 : RdS x3 a1 (marksS 1 (spV s).length) := by
    have h := OwnS.read o3; rw [marksS_length] at h; obtain ⟨a', c', e, hr⟩ := h; obtain ⟨rfl, _⟩ : a1 = a' ∧ True := by simpa using (Value.slice.inj e).1
    exact hr
  clear o2' o1'' g3 o3 c2'
  go_wp2_with fail
  refine (heldStringS_any _ _ _ 1 _ r3 (by omega)).mono ?_
  rintro e x5 ⟨rfl, b5⟩
  have c5 := c3.trans (b5.mono c3.size)
  have o5 := o4.below b5
  have r5 := r3.below b5
  clear o4 r3 b5 c3
  go_wp2_with fail
  refine (implSplit_any s hm _ (HT.out.below c5)).mono ?_
  rintro e x6 ⟨⟨v2, rfl, o6⟩, b6⟩
  have c6 := c5.trans (b6.mono c5.size)
  obtain ⟨a2, k2, rfl, r6⟩ := OwnS.read o6
  obtain ⟨a0', k0', e0, r0⟩ := OwnS.read (o5.below b6)
  obtain ⟨rfl, _⟩ : a0 = a0' ∧ True := by simpa using (Value.slice.inj e0).1
  have r7 := r5.below b6
  clear o5 r5 b6 c5 o6 e0
  go_wp2_with fail
  refine (eqStringS_same _ _ _ _ _ _ r6 r0 hmx).mono ?_
  rintro e x6' ⟨rfl, n2, rfl⟩
  have r8 : RdS (x6.drewN n2) a1 (marksS 1 (spV s).length) := r7.below (dr_below ⟨n2, rfl⟩ _)
  have c7 : Below w.heap.size w (x6.drewN n2) := dr_belS c6 ⟨_, rfl⟩
  clear r6 r0 r7 c6
  go_wp2_with fail
  refine (heldStringS_any _ _ _ 1 _ r8 (by omega)).mono ?_
  rintro e x9 ⟨rfl, b9⟩
  have c9 := c7.trans (b9.mono c7.size)
  go_wp2
  go_ret
  exact ⟨rfl, c9⟩

theorem lifted (os : Os) (started : os.Started) (H : Type) (enc : TypeId × Value → H) :
    ReturnsInHanded {} Tryd.checked os 4 .any (fun w args => (Rows.fnExactSplitFieldsSpec.pre enc Tryd.prog Tryd.f4 [] false w args ∧ laidMetH Tryd.prog LD w) ∧ sizedMet enc Tryd.prog Tryd.f4 (OpenSpec.ofChange Rows.fnExactSplitFieldsSpec) false w args)
      (Rows.fnExactSplitFieldsSpec.post enc Tryd.prog Tryd.f4 false true false false) := by
  refine returnsInHanded_of_change_and (C := Tryd.checked) (X := fun w _ => laidMetH Tryd.prog LD w) (fun _ _ _ hh h => h.of_heap hh) own started (by kernel_rfl) Tryd.func4
    (ChangeSpec.witness_shaped (enc := enc) (C := Tryd.checked) (os := os) (X := fun w _ => laidMetH Tryd.prog LD w) false (World.doorLaid Tryd.prog 86 os) #[.string ByteArray.empty] 8 rfl (World.shaped_of_RefB (by kernel_rfl) (by kernel_rfl)) (by kernel_rfl) (by kernel_rfl) (by kernel_rfl) (door_met os _)) ?_
  intro W base args ds gs before hval0 hW _ _ hL0 _
  have hL : laidMet Tryd.prog LD W := by rw [MakeChecks.laidMetH_plain _ _ _ (by kernel_rfl)] at hL0; exact hL0
  clear hL0
  have hval : ∀ (j : Nat) t v, Tryd.f4.params[j]? = some t → args[j]? = some v → Value.okWide Tryd.prog W .any base t v := hval0
  have hW' := hW
  obtain ⟨p, q, hA0, hV, rfl, hfz, hnd⟩ := hW
  have hA : DataW.TrodAll enc Tryd.prog W 0 (fun _ => true) true Tryd.f4.params.toList args.toList ds p := hA0
  rw [Tryd.params4] at hA hval
  obtain ⟨v0, vs0, d0, ds0, p0, q0, hargs, rfl, rfl, h0, r0⟩ := trodAll_cons hA
  obtain ⟨rfl, rfl, rfl⟩ := trodAll_nil r0
  obtain rfl : args = #[v0] := by cases args; simp_all
  obtain ⟨rfl, rfl⟩ := trodVars_none hV
  obtain ⟨a0, rfl, rfl, rfl, w0⟩ := open_string Tryd.underlying9 (hval 0 9 v0 rfl rfl) h0
  clear hA0 hval0
  refine (walk a0 W w0 hL).mono fun e W' ⟨he, bel⟩ => ?_
  subst he
  exact ⟨_, rfl, _, _, _, [], _, [], hW', trodAll_mk1 (shut_bool Tryd.underlying4 _), (trodAll_cons_mk (shut_string Tryd.underlying9 w0) trodAll_mk0), rfl, bel.frame _, fun h => by cases h⟩
theorem holds : Rows.FnExactSplitFieldsSaid :=
  OpenClaim.holds_of_wide 4 Tryd.f4 rfl rfl rfl rfl rfl rfl rfl ⟨rfl, rfl, rfl, rfl, rfl⟩ rfl rfl rfl rfl rfl (by kernel_rfl) Tryd.func4 (by kernel_rfl)
    (of_decide_eq_true (by kernel_rfl)) (by unfold Func.isWrapper; first | (rw [if_pos (by decide +kernel)]; kernel_rfl) | (rw [if_neg (by decide +kernel)]; exact ⟨rfl, rfl⟩))
    (fun os started H enc _ => lifted os started H enc)
/-- The tied card. -/
theorem proved : Rows.FnExactSplitFieldsCardSaid :=
  Claim7.holds_tied_plain_at .later [] [.listed, .data] true (true, "335b0b081b570d33a9855c9ffc02c62baa5d50e98957b8b888ffd635bffd9fec") true
    holds (fun _ h => by cases h) (by kernel_rfl) (fun _ h => by cases h) fnExactSplitFields_row_tie rfl ⟨rfl, rfl⟩ (by kernel_rfl) rfl
    (fun f fn hf hfn => by
      obtain rfl : f = 4 := Option.some.inj ((show Tryd.prog.funcNamed "loop.example/g03305/laws.FnExactSplitFields" = some 4 by kernel_rfl).symm.trans hf) |>.symm
      obtain rfl : fn = Tryd.f4 := (Option.some.inj (Tryd.func4.symm.trans hfn)).symm
      exact ⟨by kernel_rfl, fun j t ht => by
        rw [Tryd.params4] at ht
        have hm : t ∈ [9] := by simpa using Array.mem_of_getElem? ht
        have hall : ([9].all fun u => !Tryd.prog.wantsStandIn u) = true := by kernel_rfl
        exact (show Tryd.prog.wantsStandIn t = false by simpa using List.all_eq_true.1 hall t hm)⟩)
    (by kernel_rfl)
#print axioms proved
end Go.Proofs.YtmfboleiakbpnaaDoor.fnExactSplitFields
