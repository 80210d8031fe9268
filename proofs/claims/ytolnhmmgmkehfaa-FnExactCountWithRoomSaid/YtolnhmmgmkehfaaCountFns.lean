/- Contracts of RoomTable and CountStrips of the program, CountStrips of the reference. -/
import Derived.Test.YtolnhmmgmkehfaaRoomFns
import Derived.Test.YtolnhmmgmkehfaaFlat
namespace Go.Proofs.Ytolnhmmgmkehfaa
open Go.RowKit
set_option linter.unusedVariables false
set_option linter.unusedSimpArgs false

set_option maxHeartbeats 400000 in
theorem roomTable_no (x y : Int) (h : ¬ (1 ≤ x ∧ x ≤ 8 ∧ 1 ≤ y ∧ y ≤ 8)) (w : World) :
    Calls Try.prog 56 #[.int .i64 x, .int .i64 y] w fun e w' => e = .returned (.slice none 0 0) ∧ w = w' := by
  by_cases a : 1 ≤ x ∧ x ≤ 8
  · have H : Hid (y < 1 ∨ 8 < y) := Lib.hid (by omega)
    obtain ⟨a1, a2⟩ := a
    clear h
    go_enter Try.func56, Try.ntmps56
    go_wp2_with fail
    refine (isSteps_yes _ a1 a2 _).mono ?_
    rintro e w' ⟨rfl, rfl⟩
    go_wp2_with fail
    refine (isSteps_no _ H.out _).mono ?_
    rintro e w' ⟨rfl, rfl⟩
    go_wp2
    go_ret
    exact ⟨rfl, rfl⟩
  · have H : Hid (x < 1 ∨ 8 < x) := Lib.hid (by omega)
    clear h a
    go_enter Try.func56, Try.ntmps56
    go_wp2_with fail
    refine (isSteps_no _ H.out _).mono ?_
    rintro e w' ⟨rfl, rfl⟩
    go_wp2
    go_ret
    exact ⟨rfl, rfl⟩

set_option maxHeartbeats 400000 in
theorem roomTable_yes (x y : Int) (d f : Nat) (hx : x = d) (hy : y = f) (h1 : 1 ≤ d) (h2 : d ≤ 8) (h3 : 1 ≤ f) (h4 : f ≤ 8) (w : World) :
    Calls Try.prog 56 #[.int .i64 x, .int .i64 y] w fun e w' => ∃ v, e = .returned v ∧ OwnI w.heap.size v (lF (RR d f) (d * f + 1)) w' ∧ Below w.heap.size w w' := by
  subst hx hy
  go_enter Try.func56, Try.ntmps56
  go_wp2_with fail
  refine (isSteps_yes _ (by omega) (by omega) _).mono ?_
  rintro e w' ⟨rfl, rfl⟩
  go_wp2_with fail
  refine (isSteps_yes _ (by omega) (by omega) _).mono ?_
  rintro e w' ⟨rfl, rfl⟩
  go_wp2_with fail
  refine (rooms_any (d + f) _ _ d f _ rfl rfl h2 h4 (Nat.le_refl _)).mono ?_
  rintro e w1 ⟨v, rfl, o1, b1⟩
  go_wp2
  go_ret
  exact ⟨v, rfl, o1, b1⟩

def csV (x y : Int) : Int := if 1 ≤ x ∧ x ≤ 8 ∧ 1 ≤ y ∧ y ≤ 8 then PP x.toNat y.toNat else 0
theorem csV_no {x y : Int} (h : ¬ (1 ≤ x ∧ x ≤ 8 ∧ 1 ≤ y ∧ y ≤ 8)) : csV x y = 0 := by unfold csV; rw [if_neg h]
theorem csV_yes {d f : Nat} (h1 : 1 ≤ d) (h2 : d ≤ 8) (h3 : 1 ≤ f) (h4 : f ≤ 8) : csV d f = PP d f := by unfold csV; rw [if_pos (by omega)]; simp

end Go.Proofs.Ytolnhmmgmkehfaa
