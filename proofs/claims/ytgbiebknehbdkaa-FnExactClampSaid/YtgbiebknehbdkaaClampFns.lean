/- Contracts of spec.Clamp and impl.Clamp: both return the same number. -/
import Derived.Test.YtgbiebknehbdkaaRows
import Derived.WalkKit
import Derived.WalkSpells
import Derived.WalkLawsBesides
namespace Go.Proofs.Ytgbiebknehbdkaa
open Go.RowKit

def clampV (n l m : Int) : Int := max (min n m) l
theorem ret_int {k : IntKind} {a b : Int} (h : a = b) : Ending.returned (.int k a) = .returned (.int k b) := by rw [h]

set_option maxHeartbeats 400000 in
theorem specClamp_any (n l m : Int) (w : World) :
    Calls Try.prog 9 #[.int .i64 n, .int .i64 l, .int .i64 m] w fun e w' => e = .returned (.int .i64 (clampV n l m)) ∧ w = w' := by
  go_enter Try.func9, Try.ntmps9
  go_wp2
  all_goals (go_ret; refine ⟨ret_int ?_, rfl⟩; unfold clampV; omega)

set_option maxHeartbeats 400000 in
theorem implClamp_any (n l m : Int) (w : World) :
    Calls Try.prog 10 #[.int .i64 n, .int .i64 l, .int .i64 m] w fun e w' => e = .returned (.int .i64 (clampV n l m)) ∧ w = w' := by
  go_enter Try.func10, Try.ntmps10
  go_wp2
  all_goals (go_ret; refine ⟨ret_int ?_, rfl⟩; unfold clampV; omega)
end Go.Proofs.Ytgbiebknehbdkaa
