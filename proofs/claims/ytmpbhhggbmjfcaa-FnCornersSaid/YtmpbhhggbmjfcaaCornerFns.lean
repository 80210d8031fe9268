/- Contracts of isCorner, l03Corner, IsMountain, IsValley, CountPeaks, StripAt. -/
import Derived.Test.YtmpbhhggbmjfcaaStripFns
import Derived.Test.YtmpbhhggbmjfcaaCorner
import Derived.Deep.QuietTactic
import Derived.BigQuiet
namespace Go.Proofs.Ytmpbhhggbmjfcaa
open Go.RowKit
set_option linter.unusedVariables false
set_option linter.unusedSimpArgs false

set_option maxHeartbeats 800000 in
theorem isCorner_any (s : ByteArray) (k : Nat) (hm : s.size ≤ maxLen) (hk0 : k ≤ 9223372036854775807) (w : World) :
    Calls Try.prog 75 #[.string s, .int .i64 k] w fun e w' => e = .returned (.bool (crn s k)) ∧ ∃ n, w' = w.drewN n := by
  unfold maxLen at hm
  by_cases hk : 1 ≤ k ∧ k < s.size
  · obtain ⟨h1, h2⟩ := hk
    have R := Lib.hid (crn_in h1 h2)
    have e1 : IntKind.i64.wrap ((k : Int) - 1) = (k : Int) - 1 := IntWalk.i64_in _ (by omega)
    have e2 : ((k : Int) - 1).toNat = k - 1 := by omega
    have e3 : (0 : Int) ≤ (k : Int) - 1 := by omega
    have e3' : (1 : Int) ≤ (k : Int) := by omega
    have e4 : (k : Int) - 1 < (s.size : Int) := by omega
    have e5 : IntKind.i64.wrap ((s.size : Int) - 1) = (s.size : Int) - 1 := IntWalk.i64_in _ (by omega)
    go_enter Try.func75, Try.ntmps75
    go_wp2
    go_quiet ((go_at_call 57; exact Calls.quiet_of_same ((within_yes _ _ _ (by omega) (by omega) _).mono fun _ _ h => ⟨h.1, h.2.symm⟩)))
    go_wp2
    go_ret
    exact ⟨ret_bool (by rw [R.out]), _, rfl⟩
  · have R := Lib.hid (crn_out (s := s) (k := k) (by omega))
    have e5 : IntKind.i64.wrap ((s.size : Int) - 1) = (s.size : Int) - 1 := IntWalk.i64_in _ (by omega)
    have H := Lib.hid hk; clear hk
    go_enter Try.func75, Try.ntmps75
    go_wp2
    go_quiet ((go_at_call 57; exact Calls.quiet_of_same ((within_no _ _ _ (by have := H.out; omega) _).mono fun _ _ h => ⟨h.1, h.2.symm⟩)))
    go_wp2
    go_ret
    exact ⟨ret_bool (by rw [R.out]), _, rfl⟩

/-- A fold behind a step of the letter c in a strip. -/
def mtn (s : ByteArray) (c : UInt8) (k : Nat) : Bool := strip s.data.toList && crl s c k
theorem mtn_no {s : ByteArray} {c : UInt8} {k : Nat} (h : strip s.data.toList = false) : mtn s c k = false := by unfold mtn; rw [h]; rfl
theorem mtn_out {s : ByteArray} {c : UInt8} {k : Nat} (h : crn s k = false) : mtn s c k = false := by unfold mtn; rw [crl_out h, Bool.and_false]
theorem mtn_in {s : ByteArray} {c : UInt8} {k : Nat} (hs : strip s.data.toList = true) : mtn s c k = crl s c k := by unfold mtn; rw [hs, Bool.true_and]

set_option maxHeartbeats 800000 in
theorem implIsMountain_any (s : ByteArray) (k : Nat) (hm : s.size ≤ maxLen) (hk0 : k ≤ 9223372036854775807) (w : World) :
    Calls Try.prog 38 #[.string s, .int .i64 k] w fun e w' => e = .returned (.bool (mtn s 102 k)) ∧ ∃ n, w' = w.drewN n := by
  cases hs : strip s.data.toList with
  | false =>
    have R := Lib.hid (mtn_no (c := 102) (k := k) hs)
    go_enter Try.func38, Try.ntmps38
    go_wp2_with fail
    refine (implIsStrip_any _ hm _).mono ?_
    rintro e w' ⟨rfl, rfl⟩
    go_wp2
    go_ret
    exact ⟨ret_bool R.out.symm, dr_refl _⟩
  | true =>
  cases hc : crn s k with
  | false =>
    have R := Lib.hid (mtn_out (c := 102) hc)
    go_enter Try.func38, Try.ntmps38
    go_wp2_with fail
    refine (implIsStrip_any _ hm _).mono ?_
    rintro e w' ⟨rfl, rfl⟩
    go_wp2_with fail
    refine (isCorner_any _ _ hm hk0 _).mono ?_
    rintro e w' ⟨rfl, n1, rfl⟩
    go_wp2
    go_ret
    exact ⟨ret_bool R.out.symm, _, rfl⟩
  | true =>
    have hin : 1 ≤ k ∧ k < s.size := by
      by_cases h : 1 ≤ k ∧ k < s.size
      · exact h
      · rw [crn_out (by omega)] at hc; cases hc
    obtain ⟨h1, h2⟩ := hin
    have R := Lib.hid ((mtn_in (c := 102) (k := k) hs).trans (crl_in (c := 102) h1 h2 hc))
    have hm' := hm
    unfold maxLen at hm'
    have e1 : IntKind.i64.wrap ((k : Int) - 1) = (k : Int) - 1 := IntWalk.i64_in _ (by omega)
    have e2 : ((k : Int) - 1).toNat = k - 1 := by omega
    have e3 : (0 : Int) ≤ (k : Int) - 1 := by omega
    have e3' : (1 : Int) ≤ (k : Int) := by omega
    have e4 : (k : Int) - 1 < (s.size : Int) := by omega
    go_enter Try.func38, Try.ntmps38
    go_wp2_with fail
    refine (implIsStrip_any _ hm _).mono ?_
    rintro e w' ⟨rfl, rfl⟩
    go_wp2_with fail
    refine (isCorner_any _ _ hm hk0 _).mono ?_
    rintro e w' ⟨rfl, n1, rfl⟩
    go_wp2
    go_ret
    exact ⟨ret_bool (by rw [R.out]; rfl), _, rfl⟩

set_option maxHeartbeats 800000 in
theorem isCorner_neg (s : ByteArray) (k : Int) (hm : s.size ≤ maxLen) (hk0 : k < 0) (w : World) :
    Calls Try.prog 75 #[.string s, .int .i64 k] w fun e w' => e = .returned (.bool false) ∧ ∃ n, w' = w.drewN n := by
  unfold maxLen at hm
  have e5 : IntKind.i64.wrap ((s.size : Int) - 1) = (s.size : Int) - 1 := IntWalk.i64_in _ (by omega)
  go_enter Try.func75, Try.ntmps75
  go_wp2
  go_quiet ((go_at_call 57; exact Calls.quiet_of_same ((within_no _ _ _ (by omega) _).mono fun _ _ h => ⟨h.1, h.2.symm⟩)))
  go_wp2
  go_ret
  exact ⟨rfl, _, rfl⟩

set_option maxHeartbeats 800000 in
theorem implIsMountain_neg (s : ByteArray) (k : Int) (hm : s.size ≤ maxLen) (hk0 : k < 0) (w : World) :
    Calls Try.prog 38 #[.string s, .int .i64 k] w fun e w' => e = .returned (.bool false) ∧ ∃ n, w' = w.drewN n := by
  have hm' := hm
  unfold maxLen at hm'
  cases hs : strip s.data.toList with
  | false =>
    go_enter Try.func38, Try.ntmps38
    go_wp2_with fail
    refine (implIsStrip_any _ hm _).mono ?_
    rintro e w' ⟨rfl, rfl⟩
    go_wp2
    go_ret
    exact ⟨rfl, dr_refl _⟩
  | true =>
    go_enter Try.func38, Try.ntmps38
    go_wp2_with fail
    refine (implIsStrip_any _ hm _).mono ?_
    rintro e w' ⟨rfl, rfl⟩
    go_wp2_with fail
    refine (isCorner_neg _ _ hm hk0 _).mono ?_
    rintro e w' ⟨rfl, n1, rfl⟩
    go_wp2
    go_ret
    exact ⟨rfl, _, rfl⟩

set_option maxHeartbeats 800000 in
theorem implIsValley_any (s : ByteArray) (k : Nat) (hm : s.size ≤ maxLen) (hk0 : k ≤ 9223372036854775807) (w : World) :
    Calls Try.prog 39 #[.string s, .int .i64 k] w fun e w' => e = .returned (.bool (mtn s 100 k)) ∧ ∃ n, w' = w.drewN n := by
  cases hs : strip s.data.toList with
  | false =>
    have R := Lib.hid (mtn_no (c := 100) (k := k) hs)
    go_enter Try.func39, Try.ntmps39
    go_wp2_with fail
    refine (implIsStrip_any _ hm _).mono ?_
    rintro e w' ⟨rfl, rfl⟩
    go_wp2
    go_ret
    exact ⟨ret_bool R.out.symm, dr_refl _⟩
  | true =>
  cases hc : crn s k with
  | false =>
    have R := Lib.hid (mtn_out (c := 100) hc)
    go_enter Try.func39, Try.ntmps39
    go_wp2_with fail
    refine (implIsStrip_any _ hm _).mono ?_
    rintro e w' ⟨rfl, rfl⟩
    go_wp2_with fail
    refine (isCorner_any _ _ hm hk0 _).mono ?_
    rintro e w' ⟨rfl, n1, rfl⟩
    go_wp2
    go_ret
    exact ⟨ret_bool R.out.symm, _, rfl⟩
  | true =>
    have hin : 1 ≤ k ∧ k < s.size := by
      by_cases h : 1 ≤ k ∧ k < s.size
      · exact h
      · rw [crn_out (by omega)] at hc; cases hc
    obtain ⟨h1, h2⟩ := hin
    have R := Lib.hid ((mtn_in (c := 100) (k := k) hs).trans (crl_in (c := 100) h1 h2 hc))
    have hm' := hm
    unfold maxLen at hm'
    have e1 : IntKind.i64.wrap ((k : Int) - 1) = (k : Int) - 1 := IntWalk.i64_in _ (by omega)
    have e2 : ((k : Int) - 1).toNat = k - 1 := by omega
    have e3 : (0 : Int) ≤ (k : Int) - 1 := by omega
    have e3' : (1 : Int) ≤ (k : Int) := by omega
    have e4 : (k : Int) - 1 < (s.size : Int) := by omega
    go_enter Try.func39, Try.ntmps39
    go_wp2_with fail
    refine (implIsStrip_any _ hm _).mono ?_
    rintro e w' ⟨rfl, rfl⟩
    go_wp2_with fail
    refine (isCorner_any _ _ hm hk0 _).mono ?_
    rintro e w' ⟨rfl, n1, rfl⟩
    go_wp2
    go_ret
    exact ⟨ret_bool (by rw [R.out]; rfl), _, rfl⟩

set_option maxHeartbeats 800000 in
theorem implIsValley_neg (s : ByteArray) (k : Int) (hm : s.size ≤ maxLen) (hk0 : k < 0) (w : World) :
    Calls Try.prog 39 #[.string s, .int .i64 k] w fun e w' => e = .returned (.bool false) ∧ ∃ n, w' = w.drewN n := by
  have hm' := hm
  unfold maxLen at hm'
  cases hs : strip s.data.toList with
  | false =>
    go_enter Try.func39, Try.ntmps39
    go_wp2_with fail
    refine (implIsStrip_any _ hm _).mono ?_
    rintro e w' ⟨rfl, rfl⟩
    go_wp2
    go_ret
    exact ⟨rfl, dr_refl _⟩
  | true =>
    go_enter Try.func39, Try.ntmps39
    go_wp2_with fail
    refine (implIsStrip_any _ hm _).mono ?_
    rintro e w' ⟨rfl, rfl⟩
    go_wp2_with fail
    refine (isCorner_neg _ _ hm hk0 _).mono ?_
    rintro e w' ⟨rfl, n1, rfl⟩
    go_wp2
    go_ret
    exact ⟨rfl, _, rfl⟩

end Go.Proofs.Ytmpbhhggbmjfcaa
