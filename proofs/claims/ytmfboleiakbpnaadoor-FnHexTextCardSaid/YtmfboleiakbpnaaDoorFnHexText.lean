/- FnHexText: for every input the law returns true and its arguments read afterwards as they read before. Condition: the listed variables of the library hold what their initialisers lay; the card ties that to the program's text. -/
import Derived.Test.YtmfboleiakbpnaaDoorRows
import Derived.Test.YtmfboleiakbpnaaDoorCards
import Derived.Test.YtmfboleiakbpnaaDoorTie
import Derived.WalkKit
import Derived.ProofKit
import Derived.OpenShut
import Derived.ShutString
import Derived.ChangeOld
import Derived.Below
import Derived.Lib.SmallJoins
import Derived.SliceStrings
import Derived.LaidMore
import Derived.Stop.Joined
import Derived.Stop.LaidErr
import Derived.Handed
import Derived.MakeChecks
import Derived.LaidHandle
import Derived.SevenTiedAt
import Derived.Test.YtmfboleiakbpnaaDoorItoa
import Derived.Test.YtmfboleiakbpnaaDoorDecL
import Derived.Test.YtmfboleiakbpnaaDoorDrawT
namespace Go.Proofs.YtmfboleiakbpnaaDoor.fnHexText
open Go.ChangeShapes Go.WideShapes Go.ChangeAt Go.RowKit Go.Joins
open Go.ChangeMaps (open_string shut_string)
set_option linter.unusedVariables false
set_option linter.unusedSimpArgs false
set_option maxRecDepth 100000

theorem own : ownKnob Tryd.prog.godebug = none := by kernel_rfl
theorem laidOut : laidOutB Tryd.prog = true := by kernel_rfl
/-- The listed variables. -/
abbrev LD : List (String × DataW Unit) := Rows.fnHexTextRow.laid
theorem door_met (os : Os) (args : Array Value) : laidMetH Tryd.prog LD ((World.doorLaid Tryd.prog 86 os).forCall (fun _ _ => 0) ⟨#[], args, []⟩).memory :=
  laidMetH_of_parts3 (fuel := 8) (laidMet_of_run' 8 (by kernel_rfl) (by kernel_rfl)) (by kernel_rfl) (by kernel_rfl)

theorem gT : Tryd.prog.globalNamed "internal/strconv.uint64pow10" = some 5 := by kernel_rfl
/-- The table of powers of ten. -/
theorem tab_of {W : World} (h : laidMet Tryd.prog LD W) : Lib.TabIs Tryd.prog W "internal/strconv.uint64pow10" .u64 Lib.pow10Tab :=
  Lib.tabIs_of_head (t := 101) (e := 77) (n := 20) gT (by kernel_rfl) (by kernel_rfl) (by kernel_rfl) (by kernel_rfl) (by kernel_rfl) (show laidMet Tryd.prog (("internal/strconv.uint64pow10", Lib.tabData .u64 Lib.pow10Tab) :: _) W from laidMet.tail (laidMet.tail h))

theorem big_no (a : Option Addr) (n cap : Nat) (hn : n ≤ 1048576) (w : World) :
    Calls Tryd.prog 16 #[.slice a n cap] w fun e w' => e = .returned (.bool false) ∧ w = w' := by
  go_enter Tryd.func16, Tryd.ntmps16
  go_wp2
  go_ret
  exact ⟨ret_bool (decide_eq_false (by omega)), rfl⟩
theorem hexv_hexd : ∀ n : Nat, n < 16 → hexv (hexd n) = (n : Int) := by
  have h : ∀ n : Fin 16, hexv (hexd n.val) = (n.val : Int) := by decide +kernel
  exact fun n hn => h ⟨n, hn⟩
theorem dec_hex : ∀ (l acc : List UInt8), decGo acc (hexL l) = some (acc ++ l)
  | [], acc => by simp [hexL, decGo]
  | b :: r, acc => by
    have e : hexL (b :: r) = hexd (b.toNat / 16) :: hexd (b.toNat % 16) :: hexL r := rfl
    have hb := UInt8.toNat_lt b
    have h1 := hexv_hexd (b.toNat / 16) (by omega)
    have h2 := hexv_hexd (b.toNat % 16) (by omega)
    rw [e, decGo, if_neg (by omega), h1, h2, show (16 * ((b.toNat / 16 : Nat) : Int) + ((b.toNat % 16 : Nat) : Int)).toNat = b.toNat from by omega, UInt8.ofNat_toNat, dec_hex r, List.append_assoc]; rfl
theorem dec_same (s : ByteArray) : decS (hexL s.data.toList) = s ∧ decB (hexL s.data.toList) = true := by
  obtain ⟨h1, h2⟩ := dec_some (dec_hex s.data.toList [])
  exact ⟨by rw [h1]; rfl, h2⟩

set_option maxHeartbeats 1600000 in
theorem walk (a : Option Addr) (n cap : Nat) (w : World) (hn : n ≤ maxLen) (hr : RdB w.heap.size w a n) (hL : laidMet Tryd.prog LD w) :
    Calls Tryd.prog 5 #[.slice a n cap] w fun e w' => e = .returned (.bool true) ∧ Below w.heap.size w w' := by
  have HT := Lib.hid (Lib.tabBelow_of_tabIs (tab_of hL))
  clear hL
  by_cases hg : 1048576 < n
  · unfold maxLen at hn
    clear hr
    go_enter Tryd.func5, Tryd.ntmps5
    go_wp2
    go_ret
    exact ⟨rfl, Below.refl _ _⟩
  have hn2 : n ≤ 1048576 := by omega
  clear hg hn
  have HR := Lib.hid hr; clear hr
  go_enter Tryd.func5, Tryd.ntmps5
  go_wp2_with fail
  refine (big_no _ _ _ hn2 _).mono ?_
  rintro e w' ⟨rfl, rfl⟩
  go_wp2_with fail
  refine (drawEncode_any _ _ _ _ hn2 HR.out).mono ?_
  rintro e w1 ⟨s, rfl, hs, b1⟩
  have HB := Lib.hid b1; clear b1
  by_cases hl : 20000 < s.size
  · have hm : s.size ≤ maxLen := by unfold maxLen; omega
    have e1 : (20000 : Int) < (s.size : Int) := by omega
    go_wp2_with fail
    refine (implEncode_long s hl hm _).mono ?_
    rintro e w' ⟨rfl, rfl⟩
    go_wp2_with fail
    refine (implFormat_any 10 (by omega) (by omega) _ (TabB.below HT.out HB.out)).mono ?_
    rintro e w2 ⟨rfl, b2⟩
    have HB2 := HB.out.trans (b2.mono HB.out.size)
    have q : (⟨(Lib.itoa 10).toArray⟩ : ByteArray) = ⟨#[49, 48]⟩ := by decide +kernel
    rw [q]
    go_wp2
    go_ret
    exact ⟨rfl, HB2⟩
  · have hl2 : s.size ≤ 20000 := by omega
    have e1 : ¬ (20000 : Int) < (s.size : Int) := by omega
    have e2 : decide ((20000 : Int) < (s.size : Int)) = false := decide_eq_false e1
    go_wp2_with fail
    refine (implEncode_ok s hl2 _).mono ?_
    rintro e w2 ⟨rfl, b2⟩
    have HB2 := Lib.hid (HB.out.trans (b2.mono HB.out.size)); clear b2
    have hd := dec_same s
    have hlen : (hexL s.data.toList).length = 2 * s.size := by rw [hexL_length]; simp
    generalize hh : (⟨(hexL s.data.toList).toArray⟩ : ByteArray) = h at *
    have hz : h.size = 2 * s.size := by rw [← hh]; show (hexL s.data.toList).toArray.size = _; simpa using hlen
    have hdl : h.data.toList = hexL s.data.toList := by rw [← hh]
    have hq : (s.toList == s.toList) = true := beq_self_eq_true _
    rw [← hdl] at hd
    clear hh hdl hlen e1
    go_wp2_with fail
    refine (implDecode_ok h (by omega) (by omega) _).mono ?_
    rintro e w3 ⟨rfl, b3⟩
    have HB3 := HB2.out.trans (b3.mono HB2.out.size)
    rw [hd.1, hd.2]
    have hz' : (h.size : Int) = 2 * (s.size : Int) := by omega
    have hz2 : ((2 : Int) * (s.size : Int) == 2 * (s.size : Int)) = true := beq_self_eq_true _
    clear hd
    go_wp2
    go_ret
    exact ⟨rfl, HB3⟩

theorem lifted (os : Os) (started : os.Started) (H : Type) (enc : TypeId × Value → H) :
    ReturnsInHanded {} Tryd.checked os 5 .any (fun w args => (Rows.fnHexTextSpec.pre enc Tryd.prog Tryd.f5 [] false w args ∧ laidMetH Tryd.prog LD w) ∧ sizedMet enc Tryd.prog Tryd.f5 (OpenSpec.ofChange Rows.fnHexTextSpec) false w args)
      (Rows.fnHexTextSpec.post enc Tryd.prog Tryd.f5 false true false false) := by
  refine returnsInHanded_of_change_and (C := Tryd.checked) (X := fun w _ => laidMetH Tryd.prog LD w) (fun _ _ _ hh h => h.of_heap hh) own started (by kernel_rfl) Tryd.func5
    (ChangeSpec.witness_shaped (enc := enc) (C := Tryd.checked) (os := os) (X := fun w _ => laidMetH Tryd.prog LD w) false (World.doorLaid Tryd.prog 86 os) #[.slice none 0 0] 8 rfl (World.shaped_of_RefB (by kernel_rfl) (by kernel_rfl)) (by kernel_rfl) (by kernel_rfl) (by kernel_rfl) (door_met os _)) ?_
  intro W base args ds gs before hval0 hW _ _ hL0 _
  have hL : laidMet Tryd.prog LD W := by rw [MakeChecks.laidMetH_plain _ _ _ (by kernel_rfl)] at hL0; exact hL0
  clear hL0
  have hval : ∀ (j : Nat) t v, Tryd.f5.params[j]? = some t → args[j]? = some v → Value.okWide Tryd.prog W .any base t v := hval0
  have hW' := hW
  obtain ⟨p, q, hA0, hV, rfl, hfz, hnd⟩ := hW
  have hA : DataW.TrodAll enc Tryd.prog W 0 (fun _ => true) true Tryd.f5.params.toList args.toList ds p := hA0
  rw [Tryd.params5] at hA hval
  obtain ⟨v0, vs0, d0, ds0, p0, q0, hargs, rfl, rfl, h0, r0⟩ := trodAll_cons hA
  obtain ⟨rfl, rfl, rfl⟩ := trodAll_nil r0
  obtain rfl : args = #[v0] := by cases args; simp_all
  obtain ⟨rfl, rfl⟩ := trodVars_none hV
  have k0 := h0
  have lt0 : ∀ x ∈ p0, x.block < W.heap.size := by obtain ⟨m, hm⟩ := k0; exact DataW.trod_lt m _ _ _ hm
  obtain ⟨ba0, bn0, bc0, rfl, bm0, br0⟩ := codeIn (hval 0 30 v0 rfl rfl) h0
  clear hA0 hval0
  refine (walk ba0 bn0 bc0 W bm0 br0 hL).mono fun e W' ⟨he, bel⟩ => ?_
  subst he
  exact ⟨_, rfl, _, _, _, [], _, [], hW', trodAll_mk1 (shut_bool Tryd.underlying4 _), (trodAll_cons_mk (Below.trod laidOut (by kernel_rfl) (of_decide_eq_true (by kernel_rfl)) k0 bel lt0) trodAll_mk0), rfl, bel.frame _, fun h => by cases h⟩
theorem holds : Rows.FnHexTextSaid :=
  OpenClaim.holds_of_wide 5 Tryd.f5 rfl rfl rfl rfl rfl rfl rfl ⟨rfl, rfl, rfl, rfl, rfl⟩ rfl rfl rfl rfl rfl (by kernel_rfl) Tryd.func5 (by kernel_rfl)
    (of_decide_eq_true (by kernel_rfl)) (by unfold Func.isWrapper; first | (rw [if_pos (by decide +kernel)]; kernel_rfl) | (rw [if_neg (by decide +kernel)]; exact ⟨rfl, rfl⟩))
    (fun os started H enc _ => lifted os started H enc)
/-- The tied card. -/
theorem proved : Rows.FnHexTextCardSaid :=
  Claim7.holds_tied_plain_at .later [] [.data, .data, .data] true (true, "335b0b081b570d33a9855c9ffc02c62baa5d50e98957b8b888ffd635bffd9fec") true
    holds (fun _ h => by cases h) (by kernel_rfl) (fun _ h => by cases h) fnHexText_row_tie rfl ⟨rfl, rfl⟩ (by kernel_rfl) rfl
    (fun f fn hf hfn => by
      obtain rfl : f = 5 := Option.some.inj ((show Tryd.prog.funcNamed "loop.example/g03305/laws.FnHexText" = some 5 by kernel_rfl).symm.trans hf) |>.symm
      obtain rfl : fn = Tryd.f5 := (Option.some.inj (Tryd.func5.symm.trans hfn)).symm
      exact ⟨by kernel_rfl, fun j t ht => by
        rw [Tryd.params5] at ht
        have hm : t ∈ [30] := by simpa using Array.mem_of_getElem? ht
        have hall : ([30].all fun u => !Tryd.prog.wantsStandIn u) = true := by kernel_rfl
        exact (show Tryd.prog.wantsStandIn t = false by simpa using List.all_eq_true.1 hall t hm)⟩)
    (by kernel_rfl)
#print axioms proved
end Go.Proofs.YtmfboleiakbpnaaDoor.fnHexText
