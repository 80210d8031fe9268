/- Contracts of between, UpperOf, LowerOf, l08Mix. -/
import Derived.Test.YtmpbhhggbmjfcaaOrderFns
namespace Go.Proofs.Ytmpbhhggbmjfcaa
open Go.RowKit
set_option linter.unusedVariables false
set_option linter.unusedSimpArgs false

set_option maxHeartbeats 400000 in
theorem forwards_at (s : ByteArray) (n : Int) (h0 : 0 ≤ n) (h1 : n ≤ (s.size : Int)) (hm : s.size ≤ maxLen) (w : World) :
    Calls Try.prog 80 #[.string s, .int .i64 n] w fun e w' => e = .returned (.int .i64 (cF (s.data.toList.take n.toNat))) ∧ w = w' := by
  obtain ⟨k, rfl⟩ := Int.eq_ofNat_of_zero_le h0
  rw [Int.toNat_natCast]
  exact forwards_any s k (by omega) hm w

set_option maxHeartbeats 400000 in
theorem UpperOf_one (a b m : Nat) (h : m = max a b) (w : World) :
    Calls Try.prog 98 #[.int .i64 a, .int .i64 b] w fun e w' => e = .returned (.int .i64 m) ∧ w = w' := by
  have H := Lib.hid h; clear h
  go_enter Try.func98, Try.ntmps98
  go_wp2
  all_goals (go_ret; exact ⟨ret_int (by have := H.out; omega), rfl⟩)

set_option maxHeartbeats 1600000 in
theorem between_UpperOf (s t : ByteArray) (hs : s.size ≤ maxLen) (ht : t.size ≤ maxLen) (w : World) :
    Calls Try.prog 95 #[.string s, .string t, .func (Fn.func 98) #[] #[]] w fun e w' => e = .returned (.string (mixV s t true)) ∧ w = w' := by
  cases hf : sameF s.data.toList t.data.toList with
  | false =>
    have R := Lib.hid (mixV_no (up := true) hf)
    go_enter Try.func95, Try.ntmps95
    go_wp2_with fail
    refine (implSameFrame_any _ _ hs ht _).mono ?_
    rintro e w' ⟨rfl, rfl⟩
    go_wp2
    go_ret
    exact ⟨ret_str R.out.symm, rfl⟩
  | true =>
    have R := Lib.hid (mixV_yes (up := true) hf)
    obtain ⟨z1, _, z3, _, _⟩ := sameF_size hf
    have Z1 := Lib.hid z1; clear z1
    go_enter Try.func95, Try.ntmps95
    go_wp2_with fail
    refine (implSameFrame_any _ _ hs ht _).mono ?_
    rintro e w' ⟨rfl, rfl⟩
    go_wp2
    go_loop [7, 8, 17] (fun out b i => ∃ k : Nat, k ≤ s.size ∧ i = .int .i64 k ∧ b = .int .i64 (mxN s t true k) ∧ out = .string (mixS s t true k)) (fun _ _ i => s.size - (intOf i).toNat)
    case atStart => exact ⟨0, Nat.zero_le _, rfl, rfl, rfl⟩
    case round =>
      obtain ⟨k, hk, rfl, rfl, rfl⟩ := hrel
      have hmx := mxN_le s t true k
      have hsz := mixS_size s t true k
      have hsz2 : (mixS s t true k).size ≤ 16 := by omega
      clear hsz
      by_cases hlt : k < s.size
      · have hk1 : (k : Int) + 1 ≤ (t.size : Int) := by have := Z1.out; omega
        have HM : Hid (mxN s t true (k + 1) = max (cF (s.data.toList.take (k + 1))) (cF (t.data.toList.take (k + 1)))) := Lib.hid (by simp [mxN])
        by_cases hg : mxN s t true k < mxN s t true (k + 1)
        · have HF := Lib.hid (mixS_f hg)
          go_wp2_with fail
          refine (forwards_at _ _ (by omega) (by omega) hs _).mono ?_
          rintro e w' ⟨rfl, rfl⟩
          rw [show ((k : Int) + 1).toNat = k + 1 from by omega]
          go_wp2_with fail
          refine (forwards_at _ _ (by omega) (by omega) ht _).mono ?_
          rintro e w' ⟨rfl, rfl⟩
          rw [show ((k : Int) + 1).toNat = k + 1 from by omega]
          go_wp2_with fail
          refine (UpperOf_one _ _ _ HM.out _).mono ?_
          rintro e w' ⟨rfl, rfl⟩
          go_wp2
          go_round
          case rel => exact ⟨k + 1, by omega, by go_num, rfl, by rw [HF.out]⟩
          case measure => simp [intOf]; omega
        · have HF := Lib.hid (mixS_d hg)
          have hg' : mxN s t true (k + 1) ≤ mxN s t true k := by omega
          clear hg
          go_wp2_with fail
          refine (forwards_at _ _ (by omega) (by omega) hs _).mono ?_
          rintro e w' ⟨rfl, rfl⟩
          rw [show ((k : Int) + 1).toNat = k + 1 from by omega]
          go_wp2_with fail
          refine (forwards_at _ _ (by omega) (by omega) ht _).mono ?_
          rintro e w' ⟨rfl, rfl⟩
          rw [show ((k : Int) + 1).toNat = k + 1 from by omega]
          go_wp2_with fail
          refine (UpperOf_one _ _ _ HM.out _).mono ?_
          rintro e w' ⟨rfl, rfl⟩
          go_wp2
          go_round
          case rel => exact ⟨k + 1, by omega, by go_num, rfl, by rw [HF.out]⟩
          case measure => simp [intOf]; omega
      · obtain rfl : k = s.size := by omega
        go_wp2
        go_ret
        exact ⟨ret_str R.out.symm, rfl⟩

set_option maxHeartbeats 400000 in
theorem implUpperOf_any (s t : ByteArray) (hs : s.size ≤ maxLen) (ht : t.size ≤ maxLen) (w : World) :
    Calls Try.prog 71 #[.string s, .string t] w fun e w' => e = .returned (.string (mixV s t true)) ∧ w = w' := by
  go_enter Try.func71, Try.ntmps71
  go_wp2_with fail
  refine (between_UpperOf _ _ hs ht _).mono ?_
  rintro e w' ⟨rfl, rfl⟩
  go_wp2
  go_ret
  exact ⟨rfl, rfl⟩

set_option maxHeartbeats 400000 in
theorem LowerOf_one (a b m : Nat) (h : m = min a b) (w : World) :
    Calls Try.prog 96 #[.int .i64 a, .int .i64 b] w fun e w' => e = .returned (.int .i64 m) ∧ w = w' := by
  have H := Lib.hid h; clear h
  go_enter Try.func96, Try.ntmps96
  go_wp2
  all_goals (go_ret; exact ⟨ret_int (by have := H.out; omega), rfl⟩)

set_option maxHeartbeats 1600000 in
theorem between_LowerOf (s t : ByteArray) (hs : s.size ≤ maxLen) (ht : t.size ≤ maxLen) (w : World) :
    Calls Try.prog 95 #[.string s, .string t, .func (Fn.func 96) #[] #[]] w fun e w' => e = .returned (.string (mixV s t false)) ∧ w = w' := by
  cases hf : sameF s.data.toList t.data.toList with
  | false =>
    have R := Lib.hid (mixV_no (up := false) hf)
    go_enter Try.func95, Try.ntmps95
    go_wp2_with fail
    refine (implSameFrame_any _ _ hs ht _).mono ?_
    rintro e w' ⟨rfl, rfl⟩
    go_wp2
    go_ret
    exact ⟨ret_str R.out.symm, rfl⟩
  | true =>
    have R := Lib.hid (mixV_yes (up := false) hf)
    obtain ⟨z1, _, z3, _, _⟩ := sameF_size hf
    have Z1 := Lib.hid z1; clear z1
    go_enter Try.func95, Try.ntmps95
    go_wp2_with fail
    refine (implSameFrame_any _ _ hs ht _).mono ?_
    rintro e w' ⟨rfl, rfl⟩
    go_wp2
    go_loop [7, 8, 17] (fun out b i => ∃ k : Nat, k ≤ s.size ∧ i = .int .i64 k ∧ b = .int .i64 (mxN s t false k) ∧ out = .string (mixS s t false k)) (fun _ _ i => s.size - (intOf i).toNat)
    case atStart => exact ⟨0, Nat.zero_le _, rfl, rfl, rfl⟩
    case round =>
      obtain ⟨k, hk, rfl, rfl, rfl⟩ := hrel
      have hmx := mxN_le s t false k
      have hsz := mixS_size s t false k
      have hsz2 : (mixS s t false k).size ≤ 16 := by omega
      clear hsz
      by_cases hlt : k < s.size
      · have hk1 : (k : Int) + 1 ≤ (t.size : Int) := by have := Z1.out; omega
        have HM : Hid (mxN s t false (k + 1) = min (cF (s.data.toList.take (k + 1))) (cF (t.data.toList.take (k + 1)))) := Lib.hid (by simp [mxN])
        by_cases hg : mxN s t false k < mxN s t false (k + 1)
        · have HF := Lib.hid (mixS_f hg)
          go_wp2_with fail
          refine (forwards_at _ _ (by omega) (by omega) hs _).mono ?_
          rintro e w' ⟨rfl, rfl⟩
          rw [show ((k : Int) + 1).toNat = k + 1 from by omega]
          go_wp2_with fail
          refine (forwards_at _ _ (by omega) (by omega) ht _).mono ?_
          rintro e w' ⟨rfl, rfl⟩
          rw [show ((k : Int) + 1).toNat = k + 1 from by omega]
          go_wp2_with fail
          refine (LowerOf_one _ _ _ HM.out _).mono ?_
          rintro e w' ⟨rfl, rfl⟩
          go_wp2
          go_round
          case rel => exact ⟨k + 1, by omega, by go_num, rfl, by rw [HF.out]⟩
          case measure => simp [intOf]; omega
        · have HF := Lib.hid (mixS_d hg)
          have hg' : mxN s t false (k + 1) ≤ mxN s t false k := by omega
          clear hg
          go_wp2_with fail
          refine (forwards_at _ _ (by omega) (by omega) hs _).mono ?_
          rintro e w' ⟨rfl, rfl⟩
          rw [show ((k : Int) + 1).toNat = k + 1 from by omega]
          go_wp2_with fail
          refine (forwards_at _ _ (by omega) (by omega) ht _).mono ?_
          rintro e w' ⟨rfl, rfl⟩
          rw [show ((k : Int) + 1).toNat = k + 1 from by omega]
          go_wp2_with fail
          refine (LowerOf_one _ _ _ HM.out _).mono ?_
          rintro e w' ⟨rfl, rfl⟩
          go_wp2
          go_round
          case rel => exact ⟨k + 1, by omega, by go_num, rfl, by rw [HF.out]⟩
          case measure => simp [intOf]; omega
      · obtain rfl : k = s.size := by omega
        go_wp2
        go_ret
        exact ⟨ret_str R.out.symm, rfl⟩

set_option maxHeartbeats 400000 in
theorem implLowerOf_any (s t : ByteArray) (hs : s.size ≤ maxLen) (ht : t.size ≤ maxLen) (w : World) :
    Calls Try.prog 68 #[.string s, .string t] w fun e w' => e = .returned (.string (mixV s t false)) ∧ w = w' := by
  go_enter Try.func68, Try.ntmps68
  go_wp2_with fail
  refine (between_LowerOf _ _ hs ht _).mono ?_
  rintro e w' ⟨rfl, rfl⟩
  go_wp2
  go_ret
  exact ⟨rfl, rfl⟩

set_option maxHeartbeats 6400000 in
theorem l08Mix_UpperOf (s t : ByteArray) (hs : s.size ≤ maxLen) (ht : t.size ≤ maxLen) (w : World) :
    Calls Try.prog 94 #[.string s, .string t, .bool true] w fun e w' => e = .returned (.string (mixV s t true)) ∧ w = w' := by
  cases hf : sameF s.data.toList t.data.toList with
  | false =>
    have R := Lib.hid (mixV_no (up := true) hf)
    go_enter Try.func94, Try.ntmps94
    go_wp2_with fail
    refine (specSameFrame_any _ _ hs ht _).mono ?_
    rintro e w' ⟨rfl, rfl⟩
    go_wp2
    go_ret
    exact ⟨ret_str R.out.symm, rfl⟩
  | true =>
    have R := Lib.hid (mixV_yes (up := true) hf)
    obtain ⟨z1, _, z3, _, _⟩ := sameF_size hf
    have Z1 := Lib.hid z1; clear z1
    go_enter Try.func94, Try.ntmps94
    go_wp2_with fail
    refine (specSameFrame_any _ _ hs ht _).mono ?_
    rintro e w' ⟨rfl, rfl⟩
    go_wp2
    go_loop [7, 8, 9, 10, 11] (fun out b f g i => ∃ k : Nat, k ≤ s.size ∧ i = .int .i64 k ∧ f = .int .i64 (cF (s.data.toList.take k)) ∧ g = .int .i64 (cF (t.data.toList.take k)) ∧ b = .int .i64 (mxN s t true k) ∧ out = .string (mixS s t true k)) (fun _ _ _ _ i => s.size - (intOf i).toNat)
    case atStart => exact ⟨0, Nat.zero_le _, rfl, rfl, rfl, rfl, rfl⟩
    case round =>
      obtain ⟨k, hk, rfl, rfl, rfl, rfl, rfl⟩ := hrel
      have hb1 := (cnt_take_le s.data.toList k).2
      have hb2 := (cnt_take_le t.data.toList k).2
      have hmx := mxN_le s t true k
      have hmd : mxN s t true k = max (cF (s.data.toList.take k)) (cF (t.data.toList.take k)) := by simp [mxN]
      have HMD := Lib.hid hmd; clear hmd
      have hsz := mixS_size s t true k
      have hsz2 : (mixS s t true k).size ≤ 16 := by omega
      clear hsz
      by_cases hlt : k < s.size
      · have hkt : k < t.size := by have := Z1.out; omega
        have hkt' : (k : Int) < (t.size : Int) := by omega
        have HS := Lib.hid (cF_snoc s k hlt)
        have HT := Lib.hid (cF_snoc t k hkt)
        have HM : Hid (mxN s t true (k + 1) = max (cF (s.data.toList.take (k + 1))) (cF (t.data.toList.take (k + 1)))) := Lib.hid (by simp [mxN])
        by_cases ca : s[k].toNat = 102
        · by_cases cb : t[k].toNat = 102
          · skip
            have ls : ((s[k].toNat : Int) == 102) = true := beq_iff_eq.2 (by omega)
            have lt : ((t[k].toNat : Int) == 102) = true := beq_iff_eq.2 (by omega)
            have HA : Hid (cF (s.data.toList.take (k + 1)) = cF (s.data.toList.take k) + 1) := Lib.hid (by rw [HS.out, if_pos ca])
            have HB : Hid (cF (t.data.toList.take (k + 1)) = cF (t.data.toList.take k) + 1) := Lib.hid (by rw [HT.out, if_pos cb])
            clear ca cb
            have HN : Hid (mxN s t true (k + 1) = max (cF (s.data.toList.take k) + 1) (cF (t.data.toList.take k) + 1)) := Lib.hid (by rw [HM.out, HA.out, HB.out])
            have HNI : ((mxN s t true (k + 1) : Nat) : Int) = max ((cF (s.data.toList.take k) : Int) + 1) ((cF (t.data.toList.take k) : Int) + 1) := by have := HN.out; omega
            have HI := Lib.hid HNI; clear HNI
            by_cases hg : mxN s t true k < mxN s t true (k + 1)
            · have hgi : ((mxN s t true k : Nat) : Int) < max ((cF (s.data.toList.take k) : Int) + 1) ((cF (t.data.toList.take k) : Int) + 1) := by have := HI.out; omega
              have HF := Lib.hid (mixS_f hg)
              clear hg
              go_wp2
              go_round
              case rel => exact ⟨k + 1, by omega, by go_num, by rw [HA.out]; go_num, by rw [HB.out]; go_num, by rw [HI.out]; first | done | exact congrArg (Value.int .i64) (by omega), by rw [HF.out]⟩
              case measure => simp [intOf]; omega
            · have hgi : max ((cF (s.data.toList.take k) : Int) + 1) ((cF (t.data.toList.take k) : Int) + 1) ≤ ((mxN s t true k : Nat) : Int) := by have := HI.out; omega
              have HF := Lib.hid (mixS_d hg)
              clear hg
              go_wp2
              go_round
              case rel => exact ⟨k + 1, by omega, by go_num, by rw [HA.out]; go_num, by rw [HB.out]; go_num, by rw [HI.out]; first | done | exact congrArg (Value.int .i64) (by omega), by rw [HF.out]⟩
              case measure => simp [intOf]; omega
          · skip
            have ls : ((s[k].toNat : Int) == 102) = true := beq_iff_eq.2 (by omega)
            have lt : ((t[k].toNat : Int) == 102) = false := beq_eq_false_iff_ne.2 (by omega)
            have HA : Hid (cF (s.data.toList.take (k + 1)) = cF (s.data.toList.take k) + 1) := Lib.hid (by rw [HS.out, if_pos ca])
            have HB : Hid (cF (t.data.toList.take (k + 1)) = cF (t.data.toList.take k)) := Lib.hid (by rw [HT.out, if_neg cb]; rfl)
            clear ca cb
            have HN : Hid (mxN s t true (k + 1) = max (cF (s.data.toList.take k) + 1) (cF (t.data.toList.take k))) := Lib.hid (by rw [HM.out, HA.out, HB.out])
            have HNI : ((mxN s t true (k + 1) : Nat) : Int) = max ((cF (s.data.toList.take k) : Int) + 1) ((cF (t.data.toList.take k) : Int)) := by have := HN.out; omega
            have HI := Lib.hid HNI; clear HNI
            by_cases hg : mxN s t true k < mxN s t true (k + 1)
            · have hgi : ((mxN s t true k : Nat) : Int) < max ((cF (s.data.toList.take k) : Int) + 1) ((cF (t.data.toList.take k) : Int)) := by have := HI.out; omega
              have HF := Lib.hid (mixS_f hg)
              clear hg
              go_wp2
              go_round
              case rel => exact ⟨k + 1, by omega, by go_num, by rw [HA.out]; go_num, by rw [HB.out], by rw [HI.out]; first | done | exact congrArg (Value.int .i64) (by omega), by rw [HF.out]⟩
              case measure => simp [intOf]; omega
            · have hgi : max ((cF (s.data.toList.take k) : Int) + 1) ((cF (t.data.toList.take k) : Int)) ≤ ((mxN s t true k : Nat) : Int) := by have := HI.out; omega
              have HF := Lib.hid (mixS_d hg)
              clear hg
              go_wp2
              go_round
              case rel => exact ⟨k + 1, by omega, by go_num, by rw [HA.out]; go_num, by rw [HB.out], by rw [HI.out]; first | done | exact congrArg (Value.int .i64) (by omega), by rw [HF.out]⟩
              case measure => simp [intOf]; omega
        · by_cases cb : t[k].toNat = 102
          · skip
            have ls : ((s[k].toNat : Int) == 102) = false := beq_eq_false_iff_ne.2 (by omega)
            have lt : ((t[k].toNat : Int) == 102) = true := beq_iff_eq.2 (by omega)
            have HA : Hid (cF (s.data.toList.take (k + 1)) = cF (s.data.toList.take k)) := Lib.hid (by rw [HS.out, if_neg ca]; rfl)
            have HB : Hid (cF (t.data.toList.take (k + 1)) = cF (t.data.toList.take k) + 1) := Lib.hid (by rw [HT.out, if_pos cb])
            clear ca cb
            have HN : Hid (mxN s t true (k + 1) = max (cF (s.data.toList.take k)) (cF (t.data.toList.take k) + 1)) := Lib.hid (by rw [HM.out, HA.out, HB.out])
            have HNI : ((mxN s t true (k + 1) : Nat) : Int) = max ((cF (s.data.toList.take k) : Int)) ((cF (t.data.toList.take k) : Int) + 1) := by have := HN.out; omega
            have HI := Lib.hid HNI; clear HNI
            by_cases hg : mxN s t true k < mxN s t true (k + 1)
            · have hgi : ((mxN s t true k : Nat) : Int) < max ((cF (s.data.toList.take k) : Int)) ((cF (t.data.toList.take k) : Int) + 1) := by have := HI.out; omega
              have HF := Lib.hid (mixS_f hg)
              clear hg
              go_wp2
              go_round
              case rel => exact ⟨k + 1, by omega, by go_num, by rw [HA.out], by rw [HB.out]; go_num, by rw [HI.out]; first | done | exact congrArg (Value.int .i64) (by omega), by rw [HF.out]⟩
              case measure => simp [intOf]; omega
            · have hgi : max ((cF (s.data.toList.take k) : Int)) ((cF (t.data.toList.take k) : Int) + 1) ≤ ((mxN s t true k : Nat) : Int) := by have := HI.out; omega
              have HF := Lib.hid (mixS_d hg)
              clear hg
              go_wp2
              go_round
              case rel => exact ⟨k + 1, by omega, by go_num, by rw [HA.out], by rw [HB.out]; go_num, by rw [HI.out]; first | done | exact congrArg (Value.int .i64) (by omega), by rw [HF.out]⟩
              case measure => simp [intOf]; omega
          · skip
            have ls : ((s[k].toNat : Int) == 102) = false := beq_eq_false_iff_ne.2 (by omega)
            have lt : ((t[k].toNat : Int) == 102) = false := beq_eq_false_iff_ne.2 (by omega)
            have HA : Hid (cF (s.data.toList.take (k + 1)) = cF (s.data.toList.take k)) := Lib.hid (by rw [HS.out, if_neg ca]; rfl)
            have HB : Hid (cF (t.data.toList.take (k + 1)) = cF (t.data.toList.take k)) := Lib.hid (by rw [HT.out, if_neg cb]; rfl)
            clear ca cb
            have HN : Hid (mxN s t true (k + 1) = max (cF (s.data.toList.take k)) (cF (t.data.toList.take k))) := Lib.hid (by rw [HM.out, HA.out, HB.out])
            have HNI : ((mxN s t true (k + 1) : Nat) : Int) = max ((cF (s.data.toList.take k) : Int)) ((cF (t.data.toList.take k) : Int)) := by have := HN.out; omega
            have HI := Lib.hid HNI; clear HNI
            by_cases hg : mxN s t true k < mxN s t true (k + 1)
            · have hgi : ((mxN s t true k : Nat) : Int) < max ((cF (s.data.toList.take k) : Int)) ((cF (t.data.toList.take k) : Int)) := by have := HI.out; omega
              have HF := Lib.hid (mixS_f hg)
              clear hg
              go_wp2
              go_round
              case rel => exact ⟨k + 1, by omega, by go_num, by rw [HA.out], by rw [HB.out], by rw [HI.out]; first | done | exact congrArg (Value.int .i64) (by omega), by rw [HF.out]⟩
              case measure => simp [intOf]; omega
            · have hgi : max ((cF (s.data.toList.take k) : Int)) ((cF (t.data.toList.take k) : Int)) ≤ ((mxN s t true k : Nat) : Int) := by have := HI.out; omega
              have HF := Lib.hid (mixS_d hg)
              clear hg
              go_wp2
              go_round
              case rel => exact ⟨k + 1, by omega, by go_num, by rw [HA.out], by rw [HB.out], by rw [HI.out]; first | done | exact congrArg (Value.int .i64) (by omega), by rw [HF.out]⟩
              case measure => simp [intOf]; omega
      · obtain rfl : k = s.size := by omega
        go_wp2
        go_ret
        exact ⟨ret_str R.out.symm, rfl⟩

set_option maxHeartbeats 6400000 in
theorem l08Mix_LowerOf (s t : ByteArray) (hs : s.size ≤ maxLen) (ht : t.size ≤ maxLen) (w : World) :
    Calls Try.prog 94 #[.string s, .string t, .bool false] w fun e w' => e = .returned (.string (mixV s t false)) ∧ w = w' := by
  cases hf : sameF s.data.toList t.data.toList with
  | false =>
    have R := Lib.hid (mixV_no (up := false) hf)
    go_enter Try.func94, Try.ntmps94
    go_wp2_with fail
    refine (specSameFrame_any _ _ hs ht _).mono ?_
    rintro e w' ⟨rfl, rfl⟩
    go_wp2
    go_ret
    exact ⟨ret_str R.out.symm, rfl⟩
  | true =>
    have R := Lib.hid (mixV_yes (up := false) hf)
    obtain ⟨z1, _, z3, _, _⟩ := sameF_size hf
    have Z1 := Lib.hid z1; clear z1
    go_enter Try.func94, Try.ntmps94
    go_wp2_with fail
    refine (specSameFrame_any _ _ hs ht _).mono ?_
    rintro e w' ⟨rfl, rfl⟩
    go_wp2
    go_loop [7, 8, 9, 10, 11] (fun out b f g i => ∃ k : Nat, k ≤ s.size ∧ i = .int .i64 k ∧ f = .int .i64 (cF (s.data.toList.take k)) ∧ g = .int .i64 (cF (t.data.toList.take k)) ∧ b = .int .i64 (mxN s t false k) ∧ out = .string (mixS s t false k)) (fun _ _ _ _ i => s.size - (intOf i).toNat)
    case atStart => exact ⟨0, Nat.zero_le _, rfl, rfl, rfl, rfl, rfl⟩
    case round =>
      obtain ⟨k, hk, rfl, rfl, rfl, rfl, rfl⟩ := hrel
      have hb1 := (cnt_take_le s.data.toList k).2
      have hb2 := (cnt_take_le t.data.toList k).2
      have hmx := mxN_le s t false k
      have hmd : mxN s t false k = min (cF (s.data.toList.take k)) (cF (t.data.toList.take k)) := by simp [mxN]
      have HMD := Lib.hid hmd; clear hmd
      have hsz := mixS_size s t false k
      have hsz2 : (mixS s t false k).size ≤ 16 := by omega
      clear hsz
      by_cases hlt : k < s.size
      · have hkt : k < t.size := by have := Z1.out; omega
        have hkt' : (k : Int) < (t.size : Int) := by omega
        have HS := Lib.hid (cF_snoc s k hlt)
        have HT := Lib.hid (cF_snoc t k hkt)
        have HM : Hid (mxN s t false (k + 1) = min (cF (s.data.toList.take (k + 1))) (cF (t.data.toList.take (k + 1)))) := Lib.hid (by simp [mxN])
        by_cases ca : s[k].toNat = 102
        · by_cases cb : t[k].toNat = 102
          · skip
            have ls : ((s[k].toNat : Int) == 102) = true := beq_iff_eq.2 (by omega)
            have lt : ((t[k].toNat : Int) == 102) = true := beq_iff_eq.2 (by omega)
            have HA : Hid (cF (s.data.toList.take (k + 1)) = cF (s.data.toList.take k) + 1) := Lib.hid (by rw [HS.out, if_pos ca])
            have HB : Hid (cF (t.data.toList.take (k + 1)) = cF (t.data.toList.take k) + 1) := Lib.hid (by rw [HT.out, if_pos cb])
            clear ca cb
            have HN : Hid (mxN s t false (k + 1) = min (cF (s.data.toList.take k) + 1) (cF (t.data.toList.take k) + 1)) := Lib.hid (by rw [HM.out, HA.out, HB.out])
            have HNI : ((mxN s t false (k + 1) : Nat) : Int) = min ((cF (s.data.toList.take k) : Int) + 1) ((cF (t.data.toList.take k) : Int) + 1) := by have := HN.out; omega
            have HI := Lib.hid HNI; clear HNI
            by_cases hg : mxN s t false k < mxN s t false (k + 1)
            · have hgi : ((mxN s t false k : Nat) : Int) < min ((cF (s.data.toList.take k) : Int) + 1) ((cF (t.data.toList.take k) : Int) + 1) := by have := HI.out; omega
              have HF := Lib.hid (mixS_f hg)
              clear hg
              go_wp2
              go_round
              case rel => exact ⟨k + 1, by omega, by go_num, by rw [HA.out]; go_num, by rw [HB.out]; go_num, by rw [HI.out]; first | done | exact congrArg (Value.int .i64) (by omega), by rw [HF.out]⟩
              case measure => simp [intOf]; omega
            · have hgi : min ((cF (s.data.toList.take k) : Int) + 1) ((cF (t.data.toList.take k) : Int) + 1) ≤ ((mxN s t false k : Nat) : Int) := by have := HI.out; omega
              have HF := Lib.hid (mixS_d hg)
              clear hg
              go_wp2
              go_round
              case rel => exact ⟨k + 1, by omega, by go_num, by rw [HA.out]; go_num, by rw [HB.out]; go_num, by rw [HI.out]; first | done | exact congrArg (Value.int .i64) (by omega), by rw [HF.out]⟩
              case measure => simp [intOf]; omega
          · skip
            have ls : ((s[k].toNat : Int) == 102) = true := beq_iff_eq.2 (by omega)
            have lt : ((t[k].toNat : Int) == 102) = false := beq_eq_false_iff_ne.2 (by omega)
            have HA : Hid (cF (s.data.toList.take (k + 1)) = cF (s.data.toList.take k) + 1) := Lib.hid (by rw [HS.out, if_pos ca])
            have HB : Hid (cF (t.data.toList.take (k + 1)) = cF (t.data.toList.take k)) := Lib.hid (by rw [HT.out, if_neg cb]; rfl)
            clear ca cb
            have HN : Hid (mxN s t false (k + 1) = min (cF (s.data.toList.take k) + 1) (cF (t.data.toList.take k))) := Lib.hid (by rw [HM.out, HA.out, HB.out])
            have HNI : ((mxN s t false (k + 1) : Nat) : Int) = min ((cF (s.data.toList.take k) : Int) + 1) ((cF (t.data.toList.take k) : Int)) := by have := HN.out; omega
            have HI := Lib.hid HNI; clear HNI
            by_cases hg : mxN s t false k < mxN s t false (k + 1)
            · have hgi : ((mxN s t false k : Nat) : Int) < min ((cF (s.data.toList.take k) : Int) + 1) ((cF (t.data.toList.take k) : Int)) := by have := HI.out; omega
              have HF := Lib.hid (mixS_f hg)
              clear hg
              go_wp2
              go_round
              case rel => exact ⟨k + 1, by omega, by go_num, by rw [HA.out]; go_num, by rw [HB.out], by rw [HI.out]; first | done | exact congrArg (Value.int .i64) (by omega), by rw [HF.out]⟩
              case measure => simp [intOf]; omega
            · have hgi : min ((cF (s.data.toList.take k) : Int) + 1) ((cF (t.data.toList.take k) : Int)) ≤ ((mxN s t false k : Nat) : Int) := by have := HI.out; omega
              have HF := Lib.hid (mixS_d hg)
              clear hg
              go_wp2
              go_round
              case rel => exact ⟨k + 1, by omega, by go_num, by rw [HA.out]; go_num, by rw [HB.out], by rw [HI.out]; first | done | exact congrArg (Value.int .i64) (by omega), by rw [HF.out]⟩
              case measure => simp [intOf]; omega
        · by_cases cb : t[k].toNat = 102
          · skip
            have ls : ((s[k].toNat : Int) == 102) = false := beq_eq_false_iff_ne.2 (by omega)
            have lt : ((t[k].toNat : Int) == 102) = true := beq_iff_eq.2 (by omega)
            have HA : Hid (cF (s.data.toList.take (k + 1)) = cF (s.data.toList.take k)) := Lib.hid (by rw [HS.out, if_neg ca]; rfl)
            have HB : Hid (cF (t.data.toList.take (k + 1)) = cF (t.data.toList.take k) + 1) := Lib.hid (by rw [HT.out, if_pos cb])
            clear ca cb
            have HN : Hid (mxN s t false (k + 1) = min (cF (s.data.toList.take k)) (cF (t.data.toList.take k) + 1)) := Lib.hid (by rw [HM.out, HA.out, HB.out])
            have HNI : ((mxN s t false (k + 1) : Nat) : Int) = min ((cF (s.data.toList.take k) : Int)) ((cF (t.data.toList.take k) : Int) + 1) := by have := HN.out; omega
            have HI := Lib.hid HNI; clear HNI
            by_cases hg : mxN s t false k < mxN s t false (k + 1)
            · have hgi : ((mxN s t false k : Nat) : Int) < min ((cF (s.data.toList.take k) : Int)) ((cF (t.data.toList.take k) : Int) + 1) := by have := HI.out; omega
              have HF := Lib.hid (mixS_f hg)
              clear hg
              go_wp2
              go_round
              case rel => exact ⟨k + 1, by omega, by go_num, by rw [HA.out], by rw [HB.out]; go_num, by rw [HI.out]; first | done | exact congrArg (Value.int .i64) (by omega), by rw [HF.out]⟩
              case measure => simp [intOf]; omega
            · have hgi : min ((cF (s.data.toList.take k) : Int)) ((cF (t.data.toList.take k) : Int) + 1) ≤ ((mxN s t false k : Nat) : Int) := by have := HI.out; omega
              have HF := Lib.hid (mixS_d hg)
              clear hg
              go_wp2
              go_round
              case rel => exact ⟨k + 1, by omega, by go_num, by rw [HA.out], by rw [HB.out]; go_num, by rw [HI.out]; first | done | exact congrArg (Value.int .i64) (by omega), by rw [HF.out]⟩
              case measure => simp [intOf]; omega
          · skip
            have ls : ((s[k].toNat : Int) == 102) = false := beq_eq_false_iff_ne.2 (by omega)
            have lt : ((t[k].toNat : Int) == 102) = false := beq_eq_false_iff_ne.2 (by omega)
            have HA : Hid (cF (s.data.toList.take (k + 1)) = cF (s.data.toList.take k)) := Lib.hid (by rw [HS.out, if_neg ca]; rfl)
            have HB : Hid (cF (t.data.toList.take (k + 1)) = cF (t.data.toList.take k)) := Lib.hid (by rw [HT.out, if_neg cb]; rfl)
            clear ca cb
            have HN : Hid (mxN s t false (k + 1) = min (cF (s.data.toList.take k)) (cF (t.data.toList.take k))) := Lib.hid (by rw [HM.out, HA.out, HB.out])
            have HNI : ((mxN s t false (k + 1) : Nat) : Int) = min ((cF (s.data.toList.take k) : Int)) ((cF (t.data.toList.take k) : Int)) := by have := HN.out; omega
            have HI := Lib.hid HNI; clear HNI
            by_cases hg : mxN s t false k < mxN s t false (k + 1)
            · have hgi : ((mxN s t false k : Nat) : Int) < min ((cF (s.data.toList.take k) : Int)) ((cF (t.data.toList.take k) : Int)) := by have := HI.out; omega
              have HF := Lib.hid (mixS_f hg)
              clear hg
              go_wp2
              go_round
              case rel => exact ⟨k + 1, by omega, by go_num, by rw [HA.out], by rw [HB.out], by rw [HI.out]; first | done | exact congrArg (Value.int .i64) (by omega), by rw [HF.out]⟩
              case measure => simp [intOf]; omega
            · have hgi : min ((cF (s.data.toList.take k) : Int)) ((cF (t.data.toList.take k) : Int)) ≤ ((mxN s t false k : Nat) : Int) := by have := HI.out; omega
              have HF := Lib.hid (mixS_d hg)
              clear hg
              go_wp2
              go_round
              case rel => exact ⟨k + 1, by omega, by go_num, by rw [HA.out], by rw [HB.out], by rw [HI.out]; first | done | exact congrArg (Value.int .i64) (by omega), by rw [HF.out]⟩
              case measure => simp [intOf]; omega
      · obtain rfl : k = s.size := by omega
        go_wp2
        go_ret
        exact ⟨ret_str R.out.symm, rfl⟩

end Go.Proofs.Ytmpbhhggbmjfcaa
