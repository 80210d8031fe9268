/- Contracts of StepLength, reach, ReachClosed, SpreadOf, StaysInside. -/
import Derived.Test.YtplcfgpmpacjeaaPlaceFns
namespace Go.Proofs.Ytplcfgpmpacjeaa
open Go.RowKit
set_option linter.unusedVariables false
set_option linter.unusedSimpArgs false

theorem ret_ii {a a' b b' : Int} (h1 : a' = a) (h2 : b' = b) : Ending.returned (.tuple #[.int .i64 a, .int .i64 b]) = .returned (.tuple #[.int .i64 a', .int .i64 b']) := by rw [h1, h2]
set_option maxHeartbeats 1600000 in
theorem reach_any (s : ByteArray) (o : Int) (hm : s.size ≤ maxLen) (hs : strip s.data.toList = true) (w : World) :
    Calls Try.prog 115 #[.string s, .int .i64 o] w fun e w' => e = .returned (.tuple #[.int .i64 (loX s o (s.size + 1)), .int .i64 (hiX s o (s.size + 1))]) ∧ ∃ n, w' = w.drewN n := by
  have hm' := hm
  unfold maxLen at hm'
  have e0 : IntKind.i64.wrap ((s.size : Int) + 1) = (s.size : Int) + 1 := IntWalk.i64_in _ (by have := (strip_size hs).2.1; omega)
  have hss := (strip_size hs).2.1
  go_enter Try.func115, Try.ntmps115
  go_wp2_with fail
  refine (implPlaceOf_any _ _ _ hm _).mono ?_
  rintro e w' ⟨rfl, n1, rfl⟩
  go_wp2
  go_loopw [6, 9, 25] (fun lo hi i wr => ∃ k : Nat, k ≤ s.size + 1 ∧ i = .int .i64 k ∧ lo = .int .i64 (loX s o k) ∧ hi = .int .i64 (hiX s o k) ∧ ∃ q, wr = w.drewN q) (fun _ _ i _ => s.size + 1 - (intOf i).toNat)
  case atStart => exact ⟨0, Nat.zero_le _, rfl, rfl, rfl, _, rfl⟩
  case round =>
    obtain ⟨k, hk, rfl, rfl, rfl, q, rfl⟩ := hrel
    by_cases hlt : k < s.size + 1
    · have hlt' : (k : Int) < (s.size : Int) + 1 := by omega
      go_wp2_with fail
      refine (implPlaceOf_any _ _ _ hm _).mono ?_
      rintro e w' ⟨rfl, n2, rfl⟩
      go_wp2
      go_roundw
      case rel => exact ⟨k + 1, by omega, by go_num, rfl, rfl, _, rfl⟩
      case measure => simp [intOf]; omega
    · have hk' : k = s.size + 1 := by omega
      have hge : (s.size : Int) + 1 ≤ (k : Int) := by omega
      have HK := Lib.hid hk'; clear hk'
      go_wp2
      go_ret2
      exact ⟨ret_ii (by rw [HK.out]) (by rw [HK.out]), _, rfl⟩

set_option maxHeartbeats 800000 in
theorem implReachClosed_any (s : ByteArray) (hm : s.size ≤ maxLen) (w : World) :
    Calls Try.prog 55 #[.string s] w fun e w' => e = .returned (.int .i64 (reachV s)) ∧ ∃ n, w' = w.drewN n := by
  cases hs : strip s.data.toList with
  | false =>
    have R := Lib.hid (reachV_no hs)
    go_enter Try.func55, Try.ntmps55
    go_wp2_with fail
    refine (implIsStrip_any _ hm _).mono ?_
    rintro e w' ⟨rfl, rfl⟩
    go_wp2
    go_ret
    exact ⟨ret_int R.out.symm, dr_refl _⟩
  | true =>
    have R := Lib.hid (reachV_yes hs)
    have b1 := hiX_bd s 0 (s.size + 1)
    have b2 := loX_bd s 0 (s.size + 1)
    go_enter Try.func55, Try.ntmps55
    go_wp2_with fail
    refine (implIsStrip_any _ hm _).mono ?_
    rintro e w' ⟨rfl, rfl⟩
    go_wp2_with fail
    refine (reach_any _ _ hm hs _).mono ?_
    rintro e w' ⟨rfl, n1, rfl⟩
    go_wp2
    go_ret
    exact ⟨ret_int R.out.symm, _, rfl⟩

set_option maxHeartbeats 800000 in
theorem implSpreadOf_any (s : ByteArray) (hm : s.size ≤ maxLen) (w : World) :
    Calls Try.prog 61 #[.string s] w fun e w' => e = .returned (.int .i64 (spreadV s)) ∧ ∃ n, w' = w.drewN n := by
  cases hs : strip s.data.toList with
  | false =>
    have R := Lib.hid (spreadV_no hs)
    go_enter Try.func61, Try.ntmps61
    go_wp2_with fail
    refine (implIsStrip_any _ hm _).mono ?_
    rintro e w' ⟨rfl, rfl⟩
    go_wp2
    go_ret
    exact ⟨ret_int R.out.symm, dr_refl _⟩
  | true =>
    have R := Lib.hid (spreadV_yes hs)
    have b1 := hiX_bd s 2 (s.size + 1)
    have b2 := loX_bd s 2 (s.size + 1)
    go_enter Try.func61, Try.ntmps61
    go_wp2_with fail
    refine (implIsStrip_any _ hm _).mono ?_
    rintro e w' ⟨rfl, rfl⟩
    go_wp2_with fail
    refine (reach_any _ _ hm hs _).mono ?_
    rintro e w' ⟨rfl, n1, rfl⟩
    go_wp2
    go_ret
    exact ⟨ret_int R.out.symm, _, rfl⟩

set_option maxHeartbeats 800000 in
theorem implStaysInside_any (s : ByteArray) (p : Int) (hm : s.size ≤ maxLen) (w : World) :
    Calls Try.prog 62 #[.string s, .int .i64 p] w fun e w' => e = .returned (.bool (staysV s p)) ∧ ∃ n, w' = w.drewN n := by
  cases hs : strip s.data.toList with
  | false =>
    have R := Lib.hid (staysV_no (p := p) hs)
    go_enter Try.func62, Try.ntmps62
    go_wp2_with fail
    refine (implIsStrip_any _ hm _).mono ?_
    rintro e w' ⟨rfl, rfl⟩
    go_wp2
    go_ret
    exact ⟨ret_bool R.out.symm, dr_refl _⟩
  | true =>
  by_cases hp : 1 ≤ p ∧ p ≤ 40
  · obtain ⟨h1, h2⟩ := hp
    have R := Lib.hid (staysV_in hs h1 h2)
    go_enter Try.func62, Try.ntmps62
    go_wp2_with fail
    refine (implIsStrip_any _ hm _).mono ?_
    rintro e w' ⟨rfl, rfl⟩
    go_wp2_with fail
    refine (within_yes _ _ _ h1 h2 _).mono ?_
    rintro e w' ⟨rfl, rfl⟩
    go_wp2_with fail
    refine (implReachClosed_any _ hm _).mono ?_
    rintro e w' ⟨rfl, n1, rfl⟩
    go_wp2
    go_ret
    exact ⟨ret_bool (by rw [R.out]), _, rfl⟩
  · have R := Lib.hid (staysV_out (s := s) (p := p) (by omega))
    have H := Lib.hid hp; clear hp
    go_enter Try.func62, Try.ntmps62
    go_wp2_with fail
    refine (implIsStrip_any _ hm _).mono ?_
    rintro e w' ⟨rfl, rfl⟩
    go_wp2_with fail
    refine (within_no _ _ _ (by have := H.out; omega) _).mono ?_
    rintro e w' ⟨rfl, rfl⟩
    go_wp2
    go_ret
    exact ⟨ret_bool R.out.symm, dr_refl _⟩

theorem stepV_yes {s : ByteArray} {k o : Int} (h : strip s.data.toList = true ∧ (1 ≤ k ∧ k ≤ (s.size : Int)) ∧ 0 ≤ o ∧ o ≤ 2) : stepV s k o = 1 := by unfold stepV; rw [if_pos h]
theorem stepV_no {s : ByteArray} {k o : Int} (h : ¬ (strip s.data.toList = true ∧ (1 ≤ k ∧ k ≤ (s.size : Int)) ∧ 0 ≤ o ∧ o ≤ 2)) : stepV s k o = 0 := by unfold stepV; rw [if_neg h]
/-- The two differences of one step: one of them is 0, the other 1 or -1. -/
theorem step_diff {s : ByteArray} {k o : Int} (h : strip s.data.toList = true ∧ (1 ≤ k ∧ k ≤ (s.size : Int)) ∧ 0 ≤ o ∧ o ≤ 2) :
    (plX s (k - 1) o - plX s k o = 0 ∧ plY s (k - 1) o - plY s k o = 1) ∨ (plX s (k - 1) o - plX s k o = 1 ∧ plY s (k - 1) o - plY s k o = 0) ∨ (plX s (k - 1) o - plX s k o = -1 ∧ plY s (k - 1) o - plY s k o = 0) := by
  obtain ⟨hs, ⟨h1, h2⟩, h3, h4⟩ := h
  obtain ⟨j, hj⟩ := Int.eq_ofNat_of_zero_le (show 0 ≤ k - 1 by omega)
  have hk : k = (j : Int) + 1 := by omega
  have hb1 : plB s (k - 1) o = true := plB_mk hs (by omega) (by omega) h3 h4
  have hb2 : plB s k o = true := plB_mk hs (by omega) (by omega) h3 h4
  have hst := pl_step hs j (by omega)
  rw [plX_yes hb1, plX_yes hb2, plY_yes hb1, plY_yes hb2, hj, hk]
  generalize plF s ((j : Int) + 1) = F1 at *
  generalize plU s ((j : Int) + 1) = U1 at *
  generalize plF s (j : Int) = F0 at *
  generalize plU s (j : Int) = U0 at *
  obtain rfl | rfl | rfl : o = 0 ∨ o = 1 ∨ o = 2 := by omega
  all_goals (simp only [if_pos, if_neg, Int.reduceEq, if_true, if_false]; rcases hst with ⟨a, b⟩ | ⟨a, b⟩ <;> subst a b <;> omega)

set_option maxHeartbeats 800000 in
theorem implStepLength_any (s : ByteArray) (k o : Int) (hm : s.size ≤ maxLen) (hk0 : -9223372036854775808 ≤ k) (hk1 : k ≤ 9223372036854775807) (w : World) :
    Calls Try.prog 59 #[.string s, .int .i64 k, .int .i64 o] w fun e w' => e = .returned (.int .i64 (stepV s k o)) ∧ ∃ n, w' = w.drewN n := by
  by_cases h : strip s.data.toList = true ∧ (1 ≤ k ∧ k ≤ (s.size : Int)) ∧ 0 ≤ o ∧ o ≤ 2
  · have R := Lib.hid (stepV_yes h)
    obtain ⟨hs, ⟨h1, h2⟩, h3, h4⟩ := h
    go_enter Try.func59, Try.ntmps59
    go_wp2_with fail
    refine (implIsStrip_any _ hm _).mono ?_
    rintro e w' ⟨rfl, rfl⟩
    go_wp2_with fail
    refine (within_yes _ _ _ h1 h2 _).mono ?_
    rintro e w' ⟨rfl, rfl⟩
    go_wp2_with fail
    refine (within_yes _ _ _ h3 h4 _).mono ?_
    rintro e w' ⟨rfl, rfl⟩
    go_wp2
    go_ret
    exact ⟨ret_int R.out.symm, dr_refl _⟩
  · have R := Lib.hid (stepV_no h)
    cases hs : strip s.data.toList with
    | false =>
      go_enter Try.func59, Try.ntmps59
      go_wp2_with fail
      refine (implIsStrip_any _ hm _).mono ?_
      rintro e w' ⟨rfl, rfl⟩
      go_wp2
      go_ret
      exact ⟨ret_int R.out.symm, dr_refl _⟩
    | true =>
    by_cases h1 : 1 ≤ k ∧ k ≤ (s.size : Int)
    · have H : Hid (o < 0 ∨ 2 < o) := Lib.hid (by
        have h2 : ¬ (0 ≤ o ∧ o ≤ 2) := fun e => h ⟨hs, h1, e⟩
        omega)
      obtain ⟨h2, h3⟩ := h1
      clear h
      go_enter Try.func59, Try.ntmps59
      go_wp2_with fail
      refine (implIsStrip_any _ hm _).mono ?_
      rintro e w' ⟨rfl, rfl⟩
      go_wp2_with fail
      refine (within_yes _ _ _ h2 h3 _).mono ?_
      rintro e w' ⟨rfl, rfl⟩
      go_wp2_with fail
      refine (within_no _ _ _ H.out _).mono ?_
      rintro e w' ⟨rfl, rfl⟩
      go_wp2
      go_ret
      exact ⟨ret_int R.out.symm, dr_refl _⟩
    · have H : Hid (k < 1 ∨ (s.size : Int) < k) := Lib.hid (by omega)
      clear h h1
      go_enter Try.func59, Try.ntmps59
      go_wp2_with fail
      refine (implIsStrip_any _ hm _).mono ?_
      rintro e w' ⟨rfl, rfl⟩
      go_wp2_with fail
      refine (within_no _ _ _ H.out _).mono ?_
      rintro e w' ⟨rfl, rfl⟩
      go_wp2
      go_ret
      exact ⟨ret_int R.out.symm, dr_refl _⟩

end Go.Proofs.Ytplcfgpmpacjeaa
