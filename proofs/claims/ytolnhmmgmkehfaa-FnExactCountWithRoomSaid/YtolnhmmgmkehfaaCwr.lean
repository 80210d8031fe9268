/- Contracts of CountWithRoom, both sides. -/
import Derived.Test.YtolnhmmgmkehfaaRoomT
import Derived.Test.YtolnhmmgmkehfaaCountFns
namespace Go.Proofs.Ytolnhmmgmkehfaa
open Go.RowKit
set_option linter.unusedVariables false
set_option linter.unusedSimpArgs false
set_option maxRecDepth 20000

def cwV (x y r : Int) : Int := if (1 ≤ x ∧ x ≤ 8 ∧ 1 ≤ y ∧ y ≤ 8) ∧ 0 ≤ r ∧ r ≤ x * y then (RR x.toNat y.toNat r.toNat : Int) else 0
theorem cwV_no {x y r : Int} (h : ¬ (1 ≤ x ∧ x ≤ 8 ∧ 1 ≤ y ∧ y ≤ 8)) : cwV x y r = 0 := by unfold cwV; rw [if_neg (fun hh => h hh.1)]
theorem cwV_out {d f : Nat} {r : Int} (h : ¬ (0 ≤ r ∧ r ≤ (d : Int) * (f : Int))) : cwV d f r = 0 := by unfold cwV; rw [if_neg (fun hh => h hh.2)]
theorem cwV_in {d f r : Nat} (h1 : 1 ≤ d) (h2 : d ≤ 8) (h3 : 1 ≤ f) (h4 : f ≤ 8) (h : (r : Int) ≤ (d : Int) * (f : Int)) : cwV d f r = RR d f r := by unfold cwV; rw [if_pos ⟨by omega, by omega, h⟩]; simp
set_option maxHeartbeats 800000 in
theorem specRoomTable_no (x y : Int) (h : ¬ (1 ≤ x ∧ x ≤ 8 ∧ 1 ≤ y ∧ y ≤ 8)) (w : World) :
    Calls Try.prog 54 #[.int .i64 x, .int .i64 y] w fun e w' => e = .returned (.slice (some ⟨w.heap.size, 0, none⟩) 0 0) ∧ Below w.heap.size w w' := by
  go_enter Try.func54, Try.ntmps54
  go_wp2_with fail
  refine (frame_no x y h _).mono ?_
  rintro e w' ⟨rfl, rfl⟩
  go_wp2
  go_ret
  exact ⟨rfl, (Below.refl _ _).alloc (Nat.le_refl _) _⟩

set_option maxHeartbeats 800000 in
theorem specCwr_no (x y r : Int) (h : ¬ (1 ≤ x ∧ x ≤ 8 ∧ 1 ≤ y ∧ y ≤ 8)) (w : World) :
    Calls Try.prog 17 #[.int .i64 x, .int .i64 y, .int .i64 r] w fun e w' => e = .returned (.int .i64 (cwV x y r)) ∧ Below w.heap.size w w' := by
  have R := Lib.hid (cwV_no (r := r) h)
  go_enter Try.func17, Try.ntmps17
  go_wp2_with fail
  refine (specRoomTable_no x y h _).mono ?_
  rintro e w1 ⟨rfl, b1⟩
  go_wp2_with fail
  refine (in_no r 0 (-1) (by omega) _).mono ?_
  rintro e w' ⟨rfl, rfl⟩
  go_wp2
  go_ret
  exact ⟨ret_int (by rw [R.out]), b1⟩

set_option maxHeartbeats 800000 in
theorem specCwr_yes (d f : Nat) (r : Int) (h1 : 1 ≤ d) (h2 : d ≤ 8) (h3 : 1 ≤ f) (h4 : f ≤ 8) (w : World) :
    Calls Try.prog 17 #[.int .i64 d, .int .i64 f, .int .i64 r] w fun e w' => e = .returned (.int .i64 (cwV d f r)) ∧ Below w.heap.size w w' := by
  have hp0 : d * f ≤ 8 * 8 := Nat.mul_le_mul h2 h4
  have HP := Lib.hid hp0
  have e0 : ((d * f : Nat) : Int) = (d : Int) * (f : Int) := Int.natCast_mul _ _
  have HIN := Lib.hid (fun (q : Nat) (h : (q : Int) ≤ (d : Int) * (f : Int)) => cwV_in (r := q) h1 h2 h3 h4 h)
  have HOUT := Lib.hid (fun (h : ¬ (0 ≤ r ∧ r ≤ (d : Int) * (f : Int))) => cwV_out (d := d) (f := f) h)
  clear hp0
  go_enter Try.func17, Try.ntmps17
  go_wp2_with fail
  refine (specRoomTable_yes d f h1 h2 h3 h4 _).mono ?_
  rintro e w1 ⟨v, rfl, ov, b1⟩
  obtain ⟨g, cap, rfl, _, _⟩ := ov.shape
  generalize hn : d * f = n at *
  have HE := Lib.hid e0
  have hn64 : n ≤ 64 := HP.out
  clear hn e0
  have q1 : IntKind.i64.wrap ((n : Int) + 1 - 1) = (n : Int) := by rw [show (n : Int) + 1 - 1 = (n : Int) from by omega]; exact IntWalk.i64_in _ (by omega)
  have q2 : IntKind.i64.wrap (n : Int) = (n : Int) := IntWalk.i64_in _ (by omega)
  by_cases hr : 0 ≤ r ∧ r ≤ (n : Int)
  · obtain ⟨q, rfl⟩ := Int.eq_ofNat_of_zero_le hr.1
    have R := Lib.hid (HIN.out q (by rw [← HE.out]; exact hr.2))
    have hq : q < n + 1 := by omega
    have c1 := ov.at q hq
    have b2 := RR_small d f q h2 h4
    have q3 : (q : Int) < (n : Int) + 1 := by omega
    have q4 : (q : Int) ≤ (n : Int) := by omega
    clear hr
    go_wp2_with fail
    refine (in_yes q 0 n (by omega) (by omega) _).mono ?_
    rintro e w' ⟨rfl, rfl⟩
    go_wp2
    go_ret
    exact ⟨ret_int R.out.symm, b1⟩
  · have R := Lib.hid (HOUT.out (by rw [← HE.out]; exact hr))
    go_wp2_with fail
    refine (in_no r 0 n (by omega) _).mono ?_
    rintro e w' ⟨rfl, rfl⟩
    go_wp2
    go_ret
    exact ⟨ret_int R.out.symm, b1⟩

theorem specCwr_any (x y r : Int) (w : World) : Calls Try.prog 17 #[.int .i64 x, .int .i64 y, .int .i64 r] w fun e w' => e = .returned (.int .i64 (cwV x y r)) ∧ Below w.heap.size w w' := by
  by_cases h : 1 ≤ x ∧ x ≤ 8 ∧ 1 ≤ y ∧ y ≤ 8
  · obtain ⟨d, rfl⟩ := Int.eq_ofNat_of_zero_le (show 0 ≤ x by omega)
    obtain ⟨f, rfl⟩ := Int.eq_ofNat_of_zero_le (show 0 ≤ y by omega)
    exact specCwr_yes d f r (by omega) (by omega) (by omega) (by omega) w
  · exact specCwr_no x y r h w
set_option maxHeartbeats 800000 in
theorem implCwr_no (x y r : Int) (h : ¬ (1 ≤ x ∧ x ≤ 8 ∧ 1 ≤ y ∧ y ≤ 8)) (w : World) :
    Calls Try.prog 18 #[.int .i64 x, .int .i64 y, .int .i64 r] w fun e w' => e = .returned (.int .i64 (cwV x y r)) ∧ Below w.heap.size w w' := by
  have R := Lib.hid (cwV_no (r := r) h)
  go_enter Try.func18, Try.ntmps18
  go_wp2_with fail
  refine (roomTable_no x y h _).mono ?_
  rintro e w1 ⟨rfl, rfl⟩
  have b1 := Below.refl w.heap.size w
  go_wp2_with fail
  refine (within_no r 0 (-1) (by omega) _).mono ?_
  rintro e w' ⟨rfl, rfl⟩
  go_wp2
  go_ret
  exact ⟨ret_int (by rw [R.out]), b1⟩

set_option maxHeartbeats 800000 in
theorem implCwr_yes (d f : Nat) (r : Int) (h1 : 1 ≤ d) (h2 : d ≤ 8) (h3 : 1 ≤ f) (h4 : f ≤ 8) (w : World) :
    Calls Try.prog 18 #[.int .i64 d, .int .i64 f, .int .i64 r] w fun e w' => e = .returned (.int .i64 (cwV d f r)) ∧ Below w.heap.size w w' := by
  have hp0 : d * f ≤ 8 * 8 := Nat.mul_le_mul h2 h4
  have HP := Lib.hid hp0
  have e0 : ((d * f : Nat) : Int) = (d : Int) * (f : Int) := Int.natCast_mul _ _
  have HIN := Lib.hid (fun (q : Nat) (h : (q : Int) ≤ (d : Int) * (f : Int)) => cwV_in (r := q) h1 h2 h3 h4 h)
  have HOUT := Lib.hid (fun (h : ¬ (0 ≤ r ∧ r ≤ (d : Int) * (f : Int))) => cwV_out (d := d) (f := f) h)
  clear hp0
  go_enter Try.func18, Try.ntmps18
  go_wp2_with fail
  refine (roomTable_yes _ _ d f rfl rfl h1 h2 h3 h4 _).mono ?_
  rintro e w1 ⟨v, rfl, ov, b1⟩
  obtain ⟨g, cap, rfl, _, _⟩ := ov.shape
  generalize hn : d * f = n at *
  have HE := Lib.hid e0
  have hn64 : n ≤ 64 := HP.out
  clear hn e0
  have q1 : IntKind.i64.wrap ((n : Int) + 1 - 1) = (n : Int) := by rw [show (n : Int) + 1 - 1 = (n : Int) from by omega]; exact IntWalk.i64_in _ (by omega)
  have q2 : IntKind.i64.wrap (n : Int) = (n : Int) := IntWalk.i64_in _ (by omega)
  by_cases hr : 0 ≤ r ∧ r ≤ (n : Int)
  · obtain ⟨q, rfl⟩ := Int.eq_ofNat_of_zero_le hr.1
    have R := Lib.hid (HIN.out q (by rw [← HE.out]; exact hr.2))
    have hq : q < n + 1 := by omega
    have c1 := ov.at q hq
    have b2 := RR_small d f q h2 h4
    have q3 : (q : Int) < (n : Int) + 1 := by omega
    have q4 : (q : Int) ≤ (n : Int) := by omega
    clear hr
    go_wp2_with fail
    refine (within_yes q 0 n (by omega) (by omega) _).mono ?_
    rintro e w' ⟨rfl, rfl⟩
    go_wp2
    go_ret
    exact ⟨ret_int R.out.symm, b1⟩
  · have R := Lib.hid (HOUT.out (by rw [← HE.out]; exact hr))
    go_wp2_with fail
    refine (within_no r 0 n (by omega) _).mono ?_
    rintro e w' ⟨rfl, rfl⟩
    go_wp2
    go_ret
    exact ⟨ret_int R.out.symm, b1⟩

theorem implCwr_any (x y r : Int) (w : World) : Calls Try.prog 18 #[.int .i64 x, .int .i64 y, .int .i64 r] w fun e w' => e = .returned (.int .i64 (cwV x y r)) ∧ Below w.heap.size w w' := by
  by_cases h : 1 ≤ x ∧ x ≤ 8 ∧ 1 ≤ y ∧ y ≤ 8
  · obtain ⟨d, rfl⟩ := Int.eq_ofNat_of_zero_le (show 0 ≤ x by omega)
    obtain ⟨f, rfl⟩ := Int.eq_ofNat_of_zero_le (show 0 ≤ y by omega)
    exact implCwr_yes d f r (by omega) (by omega) (by omega) (by omega) w
  · exact implCwr_no x y r h w
end Go.Proofs.Ytolnhmmgmkehfaa
