/- Contracts of isCorner, l03Corner, IsMountain, IsValley, CountPeaks, StripAt. -/
import Derived.Test.YtkaoceoeflcgpaaStripFns
import Derived.Test.YtkaoceoeflcgpaaCorner
import Derived.Deep.QuietTactic
import Derived.BigQuiet
namespace Go.Proofs.Ytkaoceoeflcgpaa
open Go.RowKit
set_option linter.unusedVariables false
set_option linter.unusedSimpArgs false

set_option maxHeartbeats 800000 in
theorem isCorner_any (s : ByteArray) (k : Nat) (hm : s.size ≤ maxLen) (hk0 : k ≤ 9223372036854775807) (w : World) :
    Calls Try.prog 19 #[.string s, .int .i64 k] w fun e w' => e = .returned (.bool (crn s k)) ∧ ∃ n, w' = w.drewN n := by
  unfold maxLen at hm
  by_cases hk : 1 ≤ k ∧ k < s.size
  · obtain ⟨h1, h2⟩ := hk
    have R := Lib.hid (crn_in h1 h2)
    have e1 : IntKind.i64.wrap ((k : Int) - 1) = (k : Int) - 1 := IntWalk.i64_in _ (by omega)
    have e2 : ((k : Int) - 1).toNat = k - 1 := by omega
    have e3 : (0 : Int) ≤ (k : Int) - 1 := by omega
    have e3' : (1 : Int) ≤ (k : Int) := by omega
    have e4 : (k : Int) - 1 < (s.size : Int) := by omega
    have e5 : IntKind.i64.wrap ((s.size : Int) - 1) = (s.size : Int) - 1 := IntWalk.i64_in _ (by omega)
    go_enter Try.func19, Try.ntmps19
    go_wp2
    go_quiet ((go_at_call 18; exact Calls.quiet_of_same ((within_yes _ _ _ (by omega) (by omega) _).mono fun _ _ h => ⟨h.1, h.2.symm⟩)))
    go_wp2
    go_ret
    exact ⟨ret_bool (by rw [R.out]), _, rfl⟩
  · have R := Lib.hid (crn_out (s := s) (k := k) (by omega))
    have e5 : IntKind.i64.wrap ((s.size : Int) - 1) = (s.size : Int) - 1 := IntWalk.i64_in _ (by omega)
    have H := Lib.hid hk; clear hk
    go_enter Try.func19, Try.ntmps19
    go_wp2
    go_quiet ((go_at_call 18; exact Calls.quiet_of_same ((within_no _ _ _ (by have := H.out; omega) _).mono fun _ _ h => ⟨h.1, h.2.symm⟩)))
    go_wp2
    go_ret
    exact ⟨ret_bool (by rw [R.out]), _, rfl⟩

/-- A fold behind a step of the letter c in a strip. -/
def mtn (s : ByteArray) (c : UInt8) (k : Nat) : Bool := strip s.data.toList && crl s c k
theorem mtn_no {s : ByteArray} {c : UInt8} {k : Nat} (h : strip s.data.toList = false) : mtn s c k = false := by unfold mtn; rw [h]; rfl
theorem mtn_out {s : ByteArray} {c : UInt8} {k : Nat} (h : crn s k = false) : mtn s c k = false := by unfold mtn; rw [crl_out h, Bool.and_false]
theorem mtn_in {s : ByteArray} {c : UInt8} {k : Nat} (hs : strip s.data.toList = true) : mtn s c k = crl s c k := by unfold mtn; rw [hs, Bool.true_and]

set_option maxHeartbeats 800000 in
theorem isCorner_neg (s : ByteArray) (k : Int) (hm : s.size ≤ maxLen) (hk0 : k < 0) (w : World) :
    Calls Try.prog 19 #[.string s, .int .i64 k] w fun e w' => e = .returned (.bool false) ∧ ∃ n, w' = w.drewN n := by
  unfold maxLen at hm
  have e5 : IntKind.i64.wrap ((s.size : Int) - 1) = (s.size : Int) - 1 := IntWalk.i64_in _ (by omega)
  go_enter Try.func19, Try.ntmps19
  go_wp2
  go_quiet ((go_at_call 18; exact Calls.quiet_of_same ((within_no _ _ _ (by omega) _).mono fun _ _ h => ⟨h.1, h.2.symm⟩)))
  go_wp2
  go_ret
  exact ⟨rfl, _, rfl⟩

end Go.Proofs.Ytkaoceoeflcgpaa
