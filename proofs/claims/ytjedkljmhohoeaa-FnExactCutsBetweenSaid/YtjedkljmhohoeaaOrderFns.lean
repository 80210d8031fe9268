/- Contracts of IsAbove, AreComparable. -/
import Derived.Test.YtjedkljmhohoeaaCornerFns2
import Derived.Test.YtjedkljmhohoeaaOrder
namespace Go.Proofs.Ytjedkljmhohoeaa
open Go.RowKit
set_option linter.unusedVariables false
set_option linter.unusedSimpArgs false

set_option maxHeartbeats 1600000 in
theorem implIsAbove_any (s t : ByteArray) (hs : s.size ≤ maxLen) (ht : t.size ≤ maxLen) (w : World) :
    Calls Try.prog 59 #[.string s, .string t] w fun e w' => e = .returned (.bool (aboveV s t)) ∧ w = w' := by
  cases hf : sameF s.data.toList t.data.toList with
  | false =>
    have R := Lib.hid (aboveV_no hf)
    go_enter Try.func59, Try.ntmps59
    go_wp2_with fail
    refine (implSameFrame_any _ _ hs ht _).mono ?_
    rintro e w' ⟨rfl, rfl⟩
    go_wp2
    go_ret
    exact ⟨ret_bool R.out.symm, rfl⟩
  | true =>
    obtain ⟨z1, _, z3, z4, _⟩ := sameF_size hf
    have HE := Lib.hid (dif_end z1 z4)
    have Z1 := Lib.hid z1; have Z4 := Lib.hid z4; clear z1 z4
    go_enter Try.func59, Try.ntmps59
    go_wp2_with fail
    refine (implSameFrame_any _ _ hs ht _).mono ?_
    rintro e w' ⟨rfl, rfl⟩
    go_wp2
    go_loop [12] (fun i => ∃ k : Nat, k ≤ s.size ∧ i = .int .i64 k ∧ Hid (∀ j, j < k → 0 ≤ dif s t j)) (fun i => s.size - (intOf i).toNat)
    case atStart => exact ⟨0, Nat.zero_le _, rfl, Lib.hid (fun j hj => by omega)⟩
    case round =>
      obtain ⟨k, hk, rfl, HA⟩ := hrel
      by_cases hlt : k < s.size
      · have hb1 := (cnt_take_le s.data.toList k).2
        have hb2 := (cnt_take_le t.data.toList k).2
        have hkt : k ≤ t.size := by have := Z1.out; omega
        by_cases hd : cF (s.data.toList.take k) < cF (t.data.toList.take k)
        · have R := Lib.hid (aboveV_bad (t := t) hk (by unfold dif; omega))
          go_wp2_with fail
          refine (forwards_any _ _ hk hs _).mono ?_
          rintro e w' ⟨rfl, rfl⟩
          go_wp2_with fail
          refine (forwards_any _ _ hkt ht _).mono ?_
          rintro e w' ⟨rfl, rfl⟩
          go_wp2
          go_ret
          exact ⟨ret_bool R.out.symm, rfl⟩
        · have HA2 : Hid (∀ j, j < k + 1 → 0 ≤ dif s t j) := Lib.hid (fun j hj => by
            rcases Nat.lt_or_ge j k with h | h
            · exact HA.out j h
            · obtain rfl : j = k := by omega
              unfold dif; omega)
          have hd' : cF (t.data.toList.take k) ≤ cF (s.data.toList.take k) := by omega
          clear hd
          go_wp2_with fail
          refine (forwards_any _ _ hk hs _).mono ?_
          rintro e w' ⟨rfl, rfl⟩
          go_wp2_with fail
          refine (forwards_any _ _ hkt ht _).mono ?_
          rintro e w' ⟨rfl, rfl⟩
          go_wp2
          go_round
          case rel => exact ⟨k + 1, by omega, by go_num, HA2⟩
          case measure => simp [intOf]; omega
      · obtain rfl : k = s.size := by omega
        have R := Lib.hid (aboveV_yes hf (fun j hj => by
          rcases Nat.lt_or_ge j s.size with h | h
          · exact HA.out j h
          · obtain rfl : j = s.size := by omega
            rw [HE.out]; omega))
        go_wp2
        go_ret
        exact ⟨ret_bool R.out.symm, rfl⟩

set_option maxHeartbeats 3200000 in
theorem specIsAbove_any (s t : ByteArray) (hs : s.size ≤ maxLen) (ht : t.size ≤ maxLen) (w : World) :
    Calls Try.prog 58 #[.string s, .string t] w fun e w' => e = .returned (.bool (aboveV s t)) ∧ w = w' := by
  cases hf : sameF s.data.toList t.data.toList with
  | false =>
    have R := Lib.hid (aboveV_no hf)
    go_enter Try.func58, Try.ntmps58
    go_wp2_with fail
    refine (specSameFrame_any _ _ hs ht _).mono ?_
    rintro e w' ⟨rfl, rfl⟩
    go_wp2
    go_ret
    exact ⟨ret_bool R.out.symm, rfl⟩
  | true =>
    obtain ⟨z1, _, z3, z4, _⟩ := sameF_size hf
    have Z1 := Lib.hid z1; clear z1 z4
    go_enter Try.func58, Try.ntmps58
    go_wp2_with fail
    refine (specSameFrame_any _ _ hs ht _).mono ?_
    rintro e w' ⟨rfl, rfl⟩
    go_wp2
    go_loop [5, 6] (fun n i => ∃ k : Nat, k ≤ s.size ∧ i = .int .i64 k ∧ n = .int .i64 (dif s t k) ∧ Hid (∀ j, j ≤ k → 0 ≤ dif s t j)) (fun _ i => s.size - (intOf i).toNat)
    case atStart => exact ⟨0, Nat.zero_le _, rfl, rfl, Lib.hid (fun j hj => by obtain rfl : j = 0 := (by omega); exact Int.le_of_eq (dif_zero s t).symm)⟩
    case round =>
      obtain ⟨k, hk, rfl, rfl, HA⟩ := hrel
      by_cases hlt : k < s.size
      · have hkt : k < t.size := by have := Z1.out; omega
        have hkt' : (k : Int) < (t.size : Int) := by omega
        have hb := dif_bd s t k
        have h0 := HA.out k (Nat.le_refl _)
        have HS := Lib.hid (dif_succ hlt hkt)
        have ALL : 0 ≤ dif s t (k + 1) → ∀ j, j ≤ k + 1 → 0 ≤ dif s t j := fun h j hj => by
          rcases Nat.lt_or_ge j (k + 1) with h' | h'
          · exact HA.out j (by omega)
          · obtain rfl : j = k + 1 := by omega
            exact h
        have AL := Lib.hid ALL; clear ALL
        by_cases ca : s[k].toNat = 102
        · by_cases cb : t[k].toNat = 102
          · skip
            have ls : ((s[k].toNat : Int) == 102) = true := beq_iff_eq.2 (by omega)
            have lt : ((t[k].toNat : Int) == 102) = true := beq_iff_eq.2 (by omega)
            have HN : Hid (dif s t (k + 1) = dif s t k) := Lib.hid (by rw [HS.out, if_pos ca, if_pos cb]; omega)
            clear ca cb
            go_wp2
            go_round
            case rel => exact ⟨k + 1, by omega, by go_num, by rw [HN.out], Lib.hid (AL.out (by rw [HN.out]; omega))⟩
            case measure => simp [intOf]; omega
          · skip
            have ls : ((s[k].toNat : Int) == 102) = true := beq_iff_eq.2 (by omega)
            have lt : ((t[k].toNat : Int) == 102) = false := beq_eq_false_iff_ne.2 (by omega)
            have HN : Hid (dif s t (k + 1) = dif s t k + 1) := Lib.hid (by rw [HS.out, if_pos ca, if_neg cb]; omega)
            clear ca cb
            go_wp2
            go_round
            case rel => exact ⟨k + 1, by omega, by go_num, by rw [HN.out], Lib.hid (AL.out (by rw [HN.out]; omega))⟩
            case measure => simp [intOf]; omega
        · by_cases cb : t[k].toNat = 102
          · skip
            have ls : ((s[k].toNat : Int) == 102) = false := beq_eq_false_iff_ne.2 (by omega)
            have lt : ((t[k].toNat : Int) == 102) = true := beq_iff_eq.2 (by omega)
            have HN : Hid (dif s t (k + 1) = dif s t k - 1) := Lib.hid (by rw [HS.out, if_neg ca, if_pos cb]; omega)
            clear ca cb
            by_cases hneg : dif s t k - 1 < 0
            · have R := Lib.hid (aboveV_bad (s := s) (t := t) (k := k + 1) (by omega) (by rw [HN.out]; exact hneg))
              go_wp2
              go_ret
              exact ⟨ret_bool R.out.symm, rfl⟩
            · have hpos : 0 ≤ dif s t k - 1 := by omega
              go_wp2
              go_round
              case rel => exact ⟨k + 1, by omega, by go_num, by rw [HN.out], Lib.hid (AL.out (by rw [HN.out]; omega))⟩
              case measure => simp [intOf]; omega
          · skip
            have ls : ((s[k].toNat : Int) == 102) = false := beq_eq_false_iff_ne.2 (by omega)
            have lt : ((t[k].toNat : Int) == 102) = false := beq_eq_false_iff_ne.2 (by omega)
            have HN : Hid (dif s t (k + 1) = dif s t k) := Lib.hid (by rw [HS.out, if_neg ca, if_neg cb]; omega)
            clear ca cb
            go_wp2
            go_round
            case rel => exact ⟨k + 1, by omega, by go_num, by rw [HN.out], Lib.hid (AL.out (by rw [HN.out]; omega))⟩
            case measure => simp [intOf]; omega
      · obtain rfl : k = s.size := by omega
        have R := Lib.hid (aboveV_yes hf (fun j hj => HA.out j hj))
        go_wp2
        go_ret
        exact ⟨ret_bool R.out.symm, rfl⟩

set_option maxHeartbeats 800000 in
theorem implAreComparable_any (s t : ByteArray) (hs : s.size ≤ maxLen) (ht : t.size ≤ maxLen) (w : World) :
    Calls Try.prog 61 #[.string s, .string t] w fun e w' => e = .returned (.bool (aboveV s t || aboveV t s)) ∧ w = w' := by
  cases h1 : aboveV s t with
  | true =>
    go_enter Try.func61, Try.ntmps61
    go_wp2_with fail
    refine (implIsAbove_any _ _ hs ht _).mono ?_
    rintro e w' ⟨rfl, rfl⟩
    go_wp2
    go_ret
    exact ⟨rfl, rfl⟩
  | false =>
    go_enter Try.func61, Try.ntmps61
    go_wp2_with fail
    refine (implIsAbove_any _ _ hs ht _).mono ?_
    rintro e w' ⟨rfl, rfl⟩
    go_wp2_with fail
    refine (implIsAbove_any _ _ ht hs _).mono ?_
    rintro e w' ⟨rfl, rfl⟩
    go_wp2
    go_ret
    exact ⟨ret_bool (by simp), rfl⟩

set_option maxHeartbeats 800000 in
theorem specAreComparable_any (s t : ByteArray) (hs : s.size ≤ maxLen) (ht : t.size ≤ maxLen) (w : World) :
    Calls Try.prog 60 #[.string s, .string t] w fun e w' => e = .returned (.bool (aboveV s t || aboveV t s)) ∧ w = w' := by
  cases h1 : aboveV s t with
  | true =>
    go_enter Try.func60, Try.ntmps60
    go_wp2_with fail
    refine (specIsAbove_any _ _ hs ht _).mono ?_
    rintro e w' ⟨rfl, rfl⟩
    go_wp2
    go_ret
    exact ⟨rfl, rfl⟩
  | false =>
    go_enter Try.func60, Try.ntmps60
    go_wp2_with fail
    refine (specIsAbove_any _ _ hs ht _).mono ?_
    rintro e w' ⟨rfl, rfl⟩
    go_wp2_with fail
    refine (specIsAbove_any _ _ ht hs _).mono ?_
    rintro e w' ⟨rfl, rfl⟩
    go_wp2
    go_ret
    exact ⟨ret_bool (by simp), rfl⟩

end Go.Proofs.Ytjedkljmhohoeaa
