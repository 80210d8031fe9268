/- Contracts of isSteps, l02Frame, FlatStrip, HighStrip. -/
import Derived.Test.YtmpbhhggbmjfcaaRepeat
namespace Go.Proofs.Ytmpbhhggbmjfcaa
open Go.RowKit
set_option linter.unusedVariables false
set_option linter.unusedSimpArgs false

set_option maxHeartbeats 400000 in
theorem isSteps_yes (n : Int) (h1 : 1 ≤ n) (h2 : n ≤ 8) (w : World) :
    Calls Try.prog 76 #[.int .i64 n] w fun e w' => e = .returned (.bool true) ∧ w = w' := by
  go_enter Try.func76, Try.ntmps76
  go_wp2_with fail
  refine (within_yes _ _ _ h1 h2 _).mono ?_
  rintro e w' ⟨rfl, rfl⟩
  go_wp2
  go_ret
  exact ⟨rfl, rfl⟩

set_option maxHeartbeats 400000 in
theorem isSteps_no (n : Int) (h : n < 1 ∨ 8 < n) (w : World) :
    Calls Try.prog 76 #[.int .i64 n] w fun e w' => e = .returned (.bool false) ∧ w = w' := by
  have H := Lib.hid h; clear h
  go_enter Try.func76, Try.ntmps76
  go_wp2_with fail
  refine (within_no _ _ _ H.out _).mono ?_
  rintro e w' ⟨rfl, rfl⟩
  go_wp2
  go_ret
  exact ⟨rfl, rfl⟩

set_option maxHeartbeats 400000 in
theorem frame_yes (d f : Int) (h1 : 1 ≤ d) (h2 : d ≤ 8) (h3 : 1 ≤ f) (h4 : f ≤ 8) (w : World) :
    Calls Try.prog 84 #[.int .i64 d, .int .i64 f] w fun e w' => e = .returned (.bool true) ∧ w = w' := by
  go_enter Try.func84, Try.ntmps84
  go_wp2_with fail
  refine (in_yes _ _ _ h1 h2 _).mono ?_
  rintro e w' ⟨rfl, rfl⟩
  go_wp2_with fail
  refine (in_yes _ _ _ h3 h4 _).mono ?_
  rintro e w' ⟨rfl, rfl⟩
  go_wp2
  go_ret
  exact ⟨rfl, rfl⟩

set_option maxHeartbeats 400000 in
theorem frame_no (d f : Int) (h : ¬ (1 ≤ d ∧ d ≤ 8 ∧ 1 ≤ f ∧ f ≤ 8)) (w : World) :
    Calls Try.prog 84 #[.int .i64 d, .int .i64 f] w fun e w' => e = .returned (.bool false) ∧ w = w' := by
  by_cases a : 1 ≤ d ∧ d ≤ 8
  · have H : Hid (f < 1 ∨ 8 < f) := Lib.hid (by omega)
    obtain ⟨a1, a2⟩ := a
    clear h
    go_enter Try.func84, Try.ntmps84
    go_wp2_with fail
    refine (in_yes _ _ _ a1 a2 _).mono ?_
    rintro e w' ⟨rfl, rfl⟩
    go_wp2_with fail
    refine (in_no _ _ _ H.out _).mono ?_
    rintro e w' ⟨rfl, rfl⟩
    go_wp2
    go_ret
    exact ⟨rfl, rfl⟩
  · have H : Hid (d < 1 ∨ 8 < d) := Lib.hid (by omega)
    clear h a
    go_enter Try.func84, Try.ntmps84
    go_wp2_with fail
    refine (in_no _ _ _ H.out _).mono ?_
    rintro e w' ⟨rfl, rfl⟩
    go_wp2
    go_ret
    exact ⟨rfl, rfl⟩

def flatS (d f : Nat) : ByteArray := repS 100 d ++ repS 102 f
def highS (d f : Nat) : ByteArray := repS 102 f ++ repS 100 d

set_option maxHeartbeats 400000 in
theorem specFlatStrip_yes (d f : Nat) (h1 : 1 ≤ d) (h2 : d ≤ 8) (h3 : 1 ≤ f) (h4 : f ≤ 8) (w : World) :
    Calls Try.prog 108 #[.int .i64 d, .int .i64 f] w fun e w' => e = .returned (.string (flatS d f)) ∧ Below w.heap.size w w' := by
  have z1 := repS_size 100 d; have z2 := repS_size 102 f
  have y1 : (repS 100 d).size ≤ 8 := by omega
  have y2 : (repS 102 f).size ≤ 8 := by omega
  clear z1 z2
  go_enter Try.func108, Try.ntmps108
  go_wp2_with fail
  refine (frame_yes _ _ (by omega) (by omega) (by omega) (by omega) _).mono ?_
  rintro e w' ⟨rfl, rfl⟩
  go_wp2_with fail
  refine (l02Many_any 100 d (by omega) _).mono ?_
  rintro e w' ⟨rfl, rfl⟩
  go_wp2_with fail
  refine (l02Many_any 102 f (by omega) _).mono ?_
  rintro e w' ⟨rfl, rfl⟩
  go_wp2
  go_ret
  exact ⟨rfl, Below.refl _ _⟩

set_option maxHeartbeats 400000 in
theorem specFlatStrip_no (d f : Int) (h : ¬ (1 ≤ d ∧ d ≤ 8 ∧ 1 ≤ f ∧ f ≤ 8)) (w : World) :
    Calls Try.prog 108 #[.int .i64 d, .int .i64 f] w fun e w' => e = .returned (.string ⟨#[]⟩) ∧ w = w' := by
  have H := Lib.hid h; clear h
  go_enter Try.func108, Try.ntmps108
  go_wp2_with fail
  refine (frame_no _ _ H.out _).mono ?_
  rintro e w' ⟨rfl, rfl⟩
  go_wp2
  go_ret
  exact ⟨rfl, rfl⟩

end Go.Proofs.Ytmpbhhggbmjfcaa
