/- FnNumbers: for every input the law returns true and its arguments read afterwards as they read before. Condition: the listed variables of the library hold what their initialisers lay; the card ties that to the program's text. -/
import Derived.Test.YtmfboleiakbpnaaDoorRows
import Derived.Test.YtmfboleiakbpnaaDoorCards
import Derived.Test.YtmfboleiakbpnaaDoorTie
import Derived.WalkKit
import Derived.ProofKit
import Derived.OpenShut
import Derived.ShutString
import Derived.ChangeOld
import Derived.Below
import Derived.Lib.SmallJoins
import Derived.SliceStrings
import Derived.LaidMore
import Derived.Stop.Joined
import Derived.Stop.LaidErr
import Derived.Handed
import Derived.MakeChecks
import Derived.LaidHandle
import Derived.SevenTiedAt
import Derived.Test.YtmfboleiakbpnaaDoorParse
import Derived.Test.YtmfboleiakbpnaaDoorDrawN
namespace Go.Proofs.YtmfboleiakbpnaaDoor.fnNumbers
open Go.ChangeShapes Go.WideShapes Go.ChangeAt Go.RowKit Go.Joins
open Go.ChangeMaps (open_string shut_string)
set_option linter.unusedVariables false
set_option linter.unusedSimpArgs false
set_option maxRecDepth 100000

theorem own : ownKnob Tryd.prog.godebug = none := by kernel_rfl
theorem laidOut : laidOutB Tryd.prog = true := by kernel_rfl
/-- The listed variables. -/
abbrev LD : List (String × DataW Unit) := Rows.fnNumbersRow.laid
theorem door_met (os : Os) (args : Array Value) : laidMetH Tryd.prog LD ((World.doorLaid Tryd.prog 86 os).forCall (fun _ _ => 0) ⟨#[], args, []⟩).memory :=
  laidMetH_of_parts3 (fuel := 8) (laidMet_of_run' 8 (by kernel_rfl) (by kernel_rfl)) (by kernel_rfl) (by kernel_rfl)

theorem gT : Tryd.prog.globalNamed "internal/strconv.uint64pow10" = some 5 := by kernel_rfl
/-- The table of powers of ten. -/
theorem tab_of {W : World} (h : laidMet Tryd.prog LD W) : Lib.TabIs Tryd.prog W "internal/strconv.uint64pow10" .u64 Lib.pow10Tab :=
  Lib.tabIs_of_head (t := 101) (e := 77) (n := 20) gT (by kernel_rfl) (by kernel_rfl) (by kernel_rfl) (by kernel_rfl) (by kernel_rfl) (show laidMet Tryd.prog (("internal/strconv.uint64pow10", Lib.tabData .u64 Lib.pow10Tab) :: _) W from laidMet.tail (laidMet.tail h))

theorem star : "*" ++ "errors.errorString" = "*errors.errorString" := by kernel_rfl
theorem errRow : ∀ u, Tryd.prog.typeName? 3 u = some "*errors.errorString" → u = 108 := fun u h =>
  typeName_ptr_named (nm := "errors.errorString") (by rw [star]; kernel_rfl) (by kernel_rfl) (by decide) u (by rw [star]; exact h)
/-- The two errors' variables. -/
theorem errs_of {W : World} (h : laidMet Tryd.prog LD W) : ErrsAt W := by
  obtain ⟨a3, s3, hv3, _⟩ := laid_sentinel (g := 4) (ti := 49) (te := 110) (ts := 9) (show laidMet Tryd.prog ((_, .iface "*errors.errorString" (.ptr (.agg [.lit (.string _)]))) :: _) W from laidMet.tail (laidMet.tail (laidMet.tail h))) (by kernel_rfl) (by kernel_rfl) Tryd.underlying49 errRow Tryd.underlying108 Tryd.underlying110 rfl rfl Tryd.underlying9 (by kernel_rfl) (by kernel_rfl)
  obtain ⟨a4, s4, hv4, _⟩ := laid_sentinel (g := 3) (ti := 49) (te := 110) (ts := 9) (show laidMet Tryd.prog ((_, .iface "*errors.errorString" (.ptr (.agg [.lit (.string _)]))) :: _) W from laidMet.tail (laidMet.tail (laidMet.tail (laidMet.tail h)))) (by kernel_rfl) (by kernel_rfl) Tryd.underlying49 errRow Tryd.underlying108 Tryd.underlying110 rfl rfl Tryd.underlying9 (by kernel_rfl) (by kernel_rfl)
  have c3 := World.var?_cell (show Tryd.prog.globalNamed "strconv.ErrRange" = some 4 by kernel_rfl) hv3 0
  have c4 := World.var?_cell (show Tryd.prog.globalNamed "strconv.ErrSyntax" = some 3 by kernel_rfl) hv4 0
  exact ⟨_, _, _, _, by simpa using c4, by simpa using c3⟩

theorem big_no (a : Option Addr) (n cap : Nat) (hn : n ≤ 1048576) (w : World) :
    Calls Tryd.prog 16 #[.slice a n cap] w fun e w' => e = .returned (.bool false) ∧ w = w' := by
  go_enter Tryd.func16, Tryd.ntmps16
  go_wp2
  go_ret
  exact ⟨ret_bool (decide_eq_false (by omega)), rfl⟩
theorem itoa_facts {x : Int} (h : -9223372036854775808 ≤ x ∧ x ≤ 9223372036854775807) : Lib.itoa x ≠ [] ∧ (Lib.itoa x).length ≤ 1000 ∧ (0 ≤ x ∧ x ≤ 1000000000 → okN (Lib.itoa x) = true ∧ (numN (Lib.itoa x) : Int) = x) ∧ (¬ (0 ≤ x ∧ x ≤ 1000000000) → okN (Lib.itoa x) = false) := by
  have hlen : ∀ u : Nat, u ≤ 9223372036854775808 → (Lib.decDigits u).length ≤ 20 := fun u hu => by rw [Lib.decDigits_length]; exact nDigits_le 19 u (by omega)
  by_cases hn : x < 0
  · have e : Lib.itoa x = 45 :: Lib.decDigits x.natAbs := by unfold Lib.itoa; rw [if_pos hn]
    have := hlen x.natAbs (by omega)
    refine ⟨by rw [e]; simp, by rw [e]; simp; omega, fun h => by omega, fun _ => ?_⟩
    rw [e]
    exact okN_other (c := 45) (List.mem_cons_self ..) (by decide)
  · have e : Lib.itoa x = Lib.decDigits x.toNat := by unfold Lib.itoa; rw [if_neg hn]
    have := hlen x.toNat (by omega)
    refine ⟨by rw [e]; exact dec_ne _, by rw [e]; omega, fun h => ?_, fun h => ?_⟩
    · rw [e]
      have := okN_dec (u := x.toNat) (by omega)
      exact ⟨this.1, by rw [this.2]; omega⟩
    · rw [e]
      cases hk : okN (Lib.decDigits x.toNat) with
      | false => rfl
      | true =>
        obtain ⟨u, hu, e2⟩ := okN_inv hk
        have := congrArg (dvs 0) e2
        rw [dvs_dec, dvs_dec] at this
        omega
theorem text_ne {t : ByteArray} {l : List UInt8} (h : t = ⟨l.toArray⟩) (hl : l ≠ []) : (t.toList == []) = false := by
  rw [beq_eq_false_iff_ne, h, Go.ByteArray.toList_eq]; simpa using hl

set_option maxHeartbeats 1600000 in
theorem walk (a : Option Addr) (n cap : Nat) (w : World) (hn : n ≤ maxLen) (hr : RdB w.heap.size w a n) (hL : laidMet Tryd.prog LD w) :
    Calls Tryd.prog 8 #[.slice a n cap] w fun e w' => e = .returned (.bool true) ∧ Below w.heap.size w w' := by
  have HT := Lib.hid (Lib.tabBelow_of_tabIs (tab_of hL))
  have HE := Lib.hid (errs_of hL)
  clear hL
  by_cases hg : 1048576 < n
  · unfold maxLen at hn
    clear hr
    go_enter Tryd.func8, Tryd.ntmps8
    go_wp2
    go_ret
    exact ⟨rfl, Below.refl _ _⟩
  have hn2 : n ≤ 1048576 := by omega
  clear hg hn
  have HR := Lib.hid hr; clear hr
  go_enter Tryd.func8, Tryd.ntmps8
  go_wp2_with fail
  refine (big_no _ _ _ hn2 _).mono ?_
  rintro e w' ⟨rfl, rfl⟩
  go_wp2_with fail
  refine (drawFormat_any _ _ _ _ hn2 HR.out).mono ?_
  rintro e w1 ⟨x, rfl, xb, b1⟩
  have HB := Lib.hid b1; clear b1
  obtain ⟨f1, f2, f3, f4⟩ := itoa_facts xb
  go_wp2_with fail
  refine (implFormat_any x xb.1 xb.2 _ (TabB.below HT.out HB.out)).mono ?_
  rintro e w2 ⟨rfl, b2⟩
  have HB2 := Lib.hid (HB.out.trans (b2.mono HB.out.size)); clear b2
  have HX := Lib.hid xb; clear xb
  have F3 := Lib.hid f3; have F4 := Lib.hid f4; clear f3 f4
  generalize htx : (⟨(Lib.itoa x).toArray⟩ : ByteArray) = tx
  have hsz : tx.size ≤ 1048576 := by rw [← htx]; show (Lib.itoa x).toArray.size ≤ _; simp; omega
  have hdl : tx.data.toList = Lib.itoa x := by rw [← htx]
  have hne := text_ne htx.symm f1
  clear htx f1 f2
  go_wp2_with fail
  refine (implParse_any tx _ hsz (TabB.below HT.out HB2.out) (ErrsAt.below HE.out HB2.out)).mono ?_
  rintro e w3 ⟨rfl, b3⟩
  have HB3 := Lib.hid (HB2.out.trans (b3.mono HB2.out.size)); clear b3
  rw [hdl]
  clear hdl
  by_cases hin : 0 ≤ x ∧ x ≤ 1000000000
  · obtain ⟨o1, o2⟩ := F3.out hin
    obtain ⟨x0, x1⟩ := hin
    rw [o1, o2]
    have t0 : (x == x) = true := beq_self_eq_true x
    clear o1 o2
    go_wp2
    go_ret
    exact ⟨rfl, HB3.out⟩
  · have o1 := F4.out hin
    rw [o1]
    generalize (numN (Lib.itoa x) : Int) = y
    clear o1
    by_cases x0 : 0 ≤ x
    · have x1 : decide (x ≤ 1000000000) = false := decide_eq_false (by omega)
      clear hin
      go_wp2
      go_ret
      exact ⟨rfl, HB3.out⟩
    · have x1 : decide (0 ≤ x) = false := decide_eq_false x0
      clear hin x0
      go_wp2
      go_ret
      exact ⟨rfl, HB3.out⟩

theorem lifted (os : Os) (started : os.Started) (H : Type) (enc : TypeId × Value → H) :
    ReturnsInHanded {} Tryd.checked os 8 .any (fun w args => (Rows.fnNumbersSpec.pre enc Tryd.prog Tryd.f8 [] false w args ∧ laidMetH Tryd.prog LD w) ∧ sizedMet enc Tryd.prog Tryd.f8 (OpenSpec.ofChange Rows.fnNumbersSpec) false w args)
      (Rows.fnNumbersSpec.post enc Tryd.prog Tryd.f8 false true false false) := by
  refine returnsInHanded_of_change_and (C := Tryd.checked) (X := fun w _ => laidMetH Tryd.prog LD w) (fun _ _ _ hh h => h.of_heap hh) own started (by kernel_rfl) Tryd.func8
    (ChangeSpec.witness_shaped (enc := enc) (C := Tryd.checked) (os := os) (X := fun w _ => laidMetH Tryd.prog LD w) false (World.doorLaid Tryd.prog 86 os) #[.slice none 0 0] 8 rfl (World.shaped_of_RefB (by kernel_rfl) (by kernel_rfl)) (by kernel_rfl) (by kernel_rfl) (by kernel_rfl) (door_met os _)) ?_
  intro W base args ds gs before hval0 hW _ _ hL0 _
  have hL : laidMet Tryd.prog LD W := by rw [MakeChecks.laidMetH_plain _ _ _ (by kernel_rfl)] at hL0; exact hL0
  clear hL0
  have hval : ∀ (j : Nat) t v, Tryd.f8.params[j]? = some t → args[j]? = some v → Value.okWide Tryd.prog W .any base t v := hval0
  have hW' := hW
  obtain ⟨p, q, hA0, hV, rfl, hfz, hnd⟩ := hW
  have hA : DataW.TrodAll enc Tryd.prog W 0 (fun _ => true) true Tryd.f8.params.toList args.toList ds p := hA0
  rw [Tryd.params8] at hA hval
  obtain ⟨v0, vs0, d0, ds0, p0, q0, hargs, rfl, rfl, h0, r0⟩ := trodAll_cons hA
  obtain ⟨rfl, rfl, rfl⟩ := trodAll_nil r0
  obtain rfl : args = #[v0] := by cases args; simp_all
  obtain ⟨rfl, rfl⟩ := trodVars_none hV
  have k0 := h0
  have lt0 : ∀ x ∈ p0, x.block < W.heap.size := by obtain ⟨m, hm⟩ := k0; exact DataW.trod_lt m _ _ _ hm
  obtain ⟨ba0, bn0, bc0, rfl, bm0, br0⟩ := codeIn (hval 0 30 v0 rfl rfl) h0
  clear hA0 hval0
  refine (walk ba0 bn0 bc0 W bm0 br0 hL).mono fun e W' ⟨he, bel⟩ => ?_
  subst he
  exact ⟨_, rfl, _, _, _, [], _, [], hW', trodAll_mk1 (shut_bool Tryd.underlying4 _), (trodAll_cons_mk (Below.trod laidOut (by kernel_rfl) (of_decide_eq_true (by kernel_rfl)) k0 bel lt0) trodAll_mk0), rfl, bel.frame _, fun h => by cases h⟩
theorem holds : Rows.FnNumbersSaid :=
  OpenClaim.holds_of_wide 8 Tryd.f8 rfl rfl rfl rfl rfl rfl rfl ⟨rfl, rfl, rfl, rfl, rfl⟩ rfl rfl rfl rfl rfl (by kernel_rfl) Tryd.func8 (by kernel_rfl)
    (of_decide_eq_true (by kernel_rfl)) (by unfold Func.isWrapper; first | (rw [if_pos (by decide +kernel)]; kernel_rfl) | (rw [if_neg (by decide +kernel)]; exact ⟨rfl, rfl⟩))
    (fun os started H enc _ => lifted os started H enc)
/-- The tied card. -/
theorem proved : Rows.FnNumbersCardSaid :=
  Claim7.holds_tied_plain_at .later [] [.data, .data, .data, .sentinel, .sentinel] true (true, "335b0b081b570d33a9855c9ffc02c62baa5d50e98957b8b888ffd635bffd9fec") true
    holds (fun _ h => by cases h) (by kernel_rfl) (fun _ h => by cases h) fnNumbers_row_tie rfl ⟨rfl, rfl⟩ (by kernel_rfl) rfl
    (fun f fn hf hfn => by
      obtain rfl : f = 8 := Option.some.inj ((show Tryd.prog.funcNamed "loop.example/g03305/laws.FnNumbers" = some 8 by kernel_rfl).symm.trans hf) |>.symm
      obtain rfl : fn = Tryd.f8 := (Option.some.inj (Tryd.func8.symm.trans hfn)).symm
      exact ⟨by kernel_rfl, fun j t ht => by
        rw [Tryd.params8] at ht
        have hm : t ∈ [30] := by simpa using Array.mem_of_getElem? ht
        have hall : ([30].all fun u => !Tryd.prog.wantsStandIn u) = true := by kernel_rfl
        exact (show Tryd.prog.wantsStandIn t = false by simpa using List.all_eq_true.1 hall t hm)⟩)
    (by kernel_rfl)
#print axioms proved
end Go.Proofs.YtmfboleiakbpnaaDoor.fnNumbers
