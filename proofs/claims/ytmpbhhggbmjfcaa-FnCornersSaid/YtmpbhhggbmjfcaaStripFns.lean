/- Contracts of the functions that count letters and tell strips: within, l01In, l02Count, strings.Count at one letter, forwards, IsStrip, DownOf, ForwardOf, SameFrame. -/
import Derived.Test.YtmpbhhggbmjfcaaRows
import Derived.Test.YtmpbhhggbmjfcaaStrip
import Derived.Test.YtmpbhhggbmjfcaaShelf
import Derived.IntWalk
import Derived.Lib.Hide
import Derived.Lib.Hide
import Derived.Lib.Hide
namespace Go.Proofs.Ytmpbhhggbmjfcaa
open Go.RowKit
set_option linter.unusedVariables false

theorem within_yes (n lo hi : Int) (h1 : lo ≤ n) (h2 : n ≤ hi) (w : World) :
    Calls Try.prog 57 #[.int .i64 n, .int .i64 lo, .int .i64 hi] w fun e w' => e = .returned (.bool true) ∧ w = w' := by
  go_enter Try.func57, Try.ntmps57
  go_wp2
  go_ret
  exact ⟨rfl, rfl⟩
theorem within_no (n lo hi : Int) (h : n < lo ∨ hi < n) (w : World) :
    Calls Try.prog 57 #[.int .i64 n, .int .i64 lo, .int .i64 hi] w fun e w' => e = .returned (.bool false) ∧ w = w' := by
  by_cases h1 : n < lo
  · clear h
    go_enter Try.func57, Try.ntmps57
    go_wp2
    go_ret
    exact ⟨rfl, rfl⟩
  · have h2 : lo ≤ n := by omega
    have h3 : hi < n := by omega
    have h4 := Lib.hid h3
    clear h h1
    go_enter Try.func57, Try.ntmps57
    go_wp2
    go_ret
    exact ⟨ret_bool (by have := h4.out; simp; omega), rfl⟩
theorem in_yes (n lo hi : Int) (h1 : lo ≤ n) (h2 : n ≤ hi) (w : World) :
    Calls Try.prog 55 #[.int .i64 n, .int .i64 lo, .int .i64 hi] w fun e w' => e = .returned (.bool true) ∧ w = w' := by
  go_enter Try.func55, Try.ntmps55
  go_wp2
  go_ret
  exact ⟨rfl, rfl⟩
theorem in_no (n lo hi : Int) (h : n < lo ∨ hi < n) (w : World) :
    Calls Try.prog 55 #[.int .i64 n, .int .i64 lo, .int .i64 hi] w fun e w' => e = .returned (.bool false) ∧ w = w' := by
  by_cases h1 : n < lo
  · clear h
    go_enter Try.func55, Try.ntmps55
    go_wp2
    go_ret
    exact ⟨rfl, rfl⟩
  · have h2 : lo ≤ n := by omega
    have h3 : hi < n := by omega
    have h4 := Lib.hid h3
    clear h h1
    go_enter Try.func55, Try.ntmps55
    go_wp2
    go_ret
    exact ⟨ret_bool (by have := h4.out; simp; omega), rfl⟩

theorem countD_any (s : ByteArray) (w : World) :
    Calls Try.prog 101 #[.string s, .string ⟨#[100]⟩] w fun e w' => e = .returned (.int .i64 (cD s.data.toList)) ∧ w = w' := by
  refine (Try.strings_Count_one s 100 w).mono ?_
  rintro e w' ⟨rfl, rfl⟩
  exact ⟨rfl, rfl⟩
theorem countF_any (s : ByteArray) (w : World) :
    Calls Try.prog 101 #[.string s, .string ⟨#[102]⟩] w fun e w' => e = .returned (.int .i64 (cF s.data.toList)) ∧ w = w' := by
  refine (Try.strings_Count_one s 102 w).mono ?_
  rintro e w' ⟨rfl, rfl⟩
  exact ⟨rfl, rfl⟩

set_option maxHeartbeats 400000 in
theorem l02Count_any (s : ByteArray) (c : UInt8) (hm : s.size ≤ maxLen) (w : World) :
    Calls Try.prog 110 #[.string s, .int .u8 (c.toNat : Int)] w fun e w' => e = .returned (.int .i64 (cB c s.data.toList)) ∧ w = w' := by
  unfold maxLen at hm
  go_enter Try.func110, Try.ntmps110
  go_wp2
  go_loop [5, 6] (fun n i => ∃ k : Nat, k ≤ s.size ∧ i = .int .i64 k ∧ n = .int .i64 (cB c (s.data.toList.take k))) (fun _ i => s.size - (intOf i).toNat)
  case atStart => exact ⟨0, Nat.zero_le _, rfl, rfl⟩
  case round =>
    obtain ⟨k, hk, rfl, rfl⟩ := hrel
    have hl : cB c (s.data.toList.take k) ≤ k := Nat.le_trans (cB_le _ _) (List.length_take_le _ _)
    by_cases hlt : k < s.size
    · by_cases hc : s[k].toNat = c.toNat
      · have h1 : ((s[k].toNat : Int) == (c.toNat : Int)) = true := beq_iff_eq.2 (by omega)
        have HC : Hid (cB c (s.data.toList.take (k + 1)) = cB c (s.data.toList.take k) + 1) := Lib.hid (by obtain rfl : s[k] = c := UInt8.toNat_inj.1 hc; exact cB_hit s k hlt)
        clear hc
        go_wp2
        go_round
        case rel => exact ⟨k + 1, by omega, by go_num, by rw [HC.out]; go_num⟩
        case measure => simp [intOf]; omega
      · have h1 : ((s[k].toNat : Int) == (c.toNat : Int)) = false := beq_eq_false_iff_ne.2 (by omega)
        have HC := Lib.hid (cB_miss s k hlt c (fun e => hc (by rw [e])))
        clear hc
        go_wp2
        go_round
        case rel => exact ⟨k + 1, by omega, by go_num, by rw [HC.out]⟩
        case measure => simp [intOf]; omega
    · obtain rfl : k = s.size := by omega
      have HS := Lib.hid (take_all s)
      go_wp2
      go_ret
      exact ⟨ret_int (by rw [HS.out]), rfl⟩

theorem forwards_any (s : ByteArray) (k : Nat) (hk : k ≤ s.size) (hm : s.size ≤ maxLen) (w : World) :
    Calls Try.prog 80 #[.string s, .int .i64 k] w fun e w' => e = .returned (.int .i64 (cF (s.data.toList.take k))) ∧ w = w' := by
  unfold maxLen at hm
  go_enter Try.func80, Try.ntmps80
  go_wp2_with fail
  refine (countF_any _ _).mono ?_
  rintro e w' ⟨rfl, rfl⟩
  go_wp2
  go_ret
  exact ⟨ret_int (by rw [← extract_take s k]), rfl⟩

set_option maxHeartbeats 800000 in
theorem implIsStrip_any (s : ByteArray) (hm : s.size ≤ maxLen) (w : World) :
    Calls Try.prog 74 #[.string s] w fun e w' => e = .returned (.bool (strip s.data.toList)) ∧ w = w' := by
  unfold maxLen at hm
  have hle := cnt_le s.data.toList
  rw [size_len] at hle
  by_cases a0 : cD s.data.toList + cF s.data.toList = s.size
  · have t0 : (((cD s.data.toList : Int) + (cF s.data.toList : Int)) == (s.size : Int)) = true := beq_iff_eq.2 (by omega)
    by_cases a1 : 1 ≤ cD s.data.toList ∧ cD s.data.toList ≤ 8
    · by_cases a2 : 1 ≤ cF s.data.toList ∧ cF s.data.toList ≤ 8
      · have R := Lib.hid (strip_mk (by rw [size_len]; exact a0) a1.1 a1.2 a2.1 a2.2)
        have H1 := Lib.hid a1; have H2 := Lib.hid a2; clear a0 a1 a2
        go_enter Try.func74, Try.ntmps74
        go_wp2_with fail
        refine (countD_any _ _).mono ?_
        rintro e w' ⟨rfl, rfl⟩
        go_wp2_with fail
        refine (countF_any _ _).mono ?_
        rintro e w' ⟨rfl, rfl⟩
        go_wp2_with fail
        refine (within_yes _ _ _ (by have := H1.out; omega) (by have := H1.out; omega) _).mono ?_
        rintro e w' ⟨rfl, rfl⟩
        go_wp2_with fail
        refine (within_yes _ _ _ (by have := H2.out; omega) (by have := H2.out; omega) _).mono ?_
        rintro e w' ⟨rfl, rfl⟩
        go_wp2
        go_ret
        exact ⟨ret_bool R.out.symm, rfl⟩
      · have R := Lib.hid (strip_no (l := s.data.toList) (fun h => a2 h.2.2.2))
        have H1 := Lib.hid a1; have H2 := Lib.hid a2; clear a0 a1 a2
        go_enter Try.func74, Try.ntmps74
        go_wp2_with fail
        refine (countD_any _ _).mono ?_
        rintro e w' ⟨rfl, rfl⟩
        go_wp2_with fail
        refine (countF_any _ _).mono ?_
        rintro e w' ⟨rfl, rfl⟩
        go_wp2_with fail
        refine (within_yes _ _ _ (by have := H1.out; omega) (by have := H1.out; omega) _).mono ?_
        rintro e w' ⟨rfl, rfl⟩
        go_wp2_with fail
        refine (within_no _ _ _ (by have := H2.out; omega) _).mono ?_
        rintro e w' ⟨rfl, rfl⟩
        go_wp2
        go_ret
        exact ⟨ret_bool R.out.symm, rfl⟩
    · have R := Lib.hid (strip_no (l := s.data.toList) (fun h => a1 ⟨h.2.1, h.2.2.1⟩))
      have H1 := Lib.hid a1; clear a0 a1
      go_enter Try.func74, Try.ntmps74
      go_wp2_with fail
      refine (countD_any _ _).mono ?_
      rintro e w' ⟨rfl, rfl⟩
      go_wp2_with fail
      refine (countF_any _ _).mono ?_
      rintro e w' ⟨rfl, rfl⟩
      go_wp2_with fail
      refine (within_no _ _ _ (by have := H1.out; omega) _).mono ?_
      rintro e w' ⟨rfl, rfl⟩
      go_wp2
      go_ret
      exact ⟨ret_bool R.out.symm, rfl⟩
  · have t0 : (((cD s.data.toList : Int) + (cF s.data.toList : Int)) == (s.size : Int)) = false := beq_eq_false_iff_ne.2 (by omega)
    have R := Lib.hid (strip_no (l := s.data.toList) (fun h => a0 (by rw [← size_len]; exact h.1)))
    clear a0
    go_enter Try.func74, Try.ntmps74
    go_wp2_with fail
    refine (countD_any _ _).mono ?_
    rintro e w' ⟨rfl, rfl⟩
    go_wp2_with fail
    refine (countF_any _ _).mono ?_
    rintro e w' ⟨rfl, rfl⟩
    go_wp2
    go_ret
    exact ⟨ret_bool R.out.symm, rfl⟩

set_option maxHeartbeats 800000 in
theorem specIsStrip_any (s : ByteArray) (hm : s.size ≤ maxLen) (w : World) :
    Calls Try.prog 109 #[.string s] w fun e w' => e = .returned (.bool (strip s.data.toList)) ∧ w = w' := by
  unfold maxLen at hm
  go_enter Try.func109, Try.ntmps109
  go_wp2
  go_loop [3, 4, 5] (fun d f i => ∃ k : Nat, k ≤ s.size ∧ i = .int .i64 k ∧ d = .int .i64 (cD (s.data.toList.take k)) ∧ f = .int .i64 (cF (s.data.toList.take k)) ∧ Hid (cD (s.data.toList.take k) + cF (s.data.toList.take k) = k)) (fun _ _ i => s.size - (intOf i).toNat)
  case atStart => exact ⟨0, Nat.zero_le _, rfl, rfl, rfl, Lib.hid rfl⟩
  case round =>
    obtain ⟨k, hk, rfl, rfl, rfl, HK⟩ := hrel
    have bd := cnt_take_le s.data.toList k
    by_cases hlt : k < s.size
    · have HD := Lib.hid (cD_snoc s k hlt)
      have HF := Lib.hid (cF_snoc s k hlt)
      by_cases c1 : s[k].toNat = 100
      · have t1 : ((s[k].toNat : Int) == 100) = true := beq_iff_eq.2 (by omega)
        have HD2 : Hid (cD (s.data.toList.take (k + 1)) = cD (s.data.toList.take k) + 1) := Lib.hid (by rw [HD.out, if_pos c1])
        have HF2 : Hid (cF (s.data.toList.take (k + 1)) = cF (s.data.toList.take k)) := Lib.hid (by rw [HF.out, if_neg (by omega)]; rfl)
        clear c1 HD HF
        go_wp2
        go_round
        case rel => exact ⟨k + 1, by omega, by go_num, by rw [HD2.out]; go_num, by rw [HF2.out], Lib.hid (by rw [HD2.out, HF2.out]; have := HK.out; omega)⟩
        case measure => simp [intOf]; omega
      by_cases c2 : s[k].toNat = 102
      · have t1 : ((s[k].toNat : Int) == 100) = false := beq_eq_false_iff_ne.2 (by omega)
        have t2 : ((s[k].toNat : Int) == 102) = true := beq_iff_eq.2 (by omega)
        have HD2 : Hid (cD (s.data.toList.take (k + 1)) = cD (s.data.toList.take k)) := Lib.hid (by rw [HD.out, if_neg c1]; rfl)
        have HF2 : Hid (cF (s.data.toList.take (k + 1)) = cF (s.data.toList.take k) + 1) := Lib.hid (by rw [HF.out, if_pos c2])
        clear c1 c2 HD HF
        go_wp2
        go_round
        case rel => exact ⟨k + 1, by omega, by go_num, by rw [HD2.out], by rw [HF2.out]; go_num, Lib.hid (by rw [HD2.out, HF2.out]; have := HK.out; omega)⟩
        case measure => simp [intOf]; omega
      · have t1 : ((s[k].toNat : Int) == 100) = false := beq_eq_false_iff_ne.2 (by omega)
        have t2 : ((s[k].toNat : Int) == 102) = false := beq_eq_false_iff_ne.2 (by omega)
        have R := Lib.hid (strip_bad s k hlt c1 c2)
        clear c1 c2 HD HF
        go_wp2
        go_ret
        exact ⟨ret_bool R.out.symm, rfl⟩
    · obtain rfl : k = s.size := by omega
      rw [take_all] at HK
      have HT := Lib.hid (take_all s)
      by_cases a1 : 1 ≤ cD s.data.toList ∧ cD s.data.toList ≤ 8
      · by_cases a2 : 1 ≤ cF s.data.toList ∧ cF s.data.toList ≤ 8
        · have R := Lib.hid (strip_mk (by rw [size_len]; exact HK.out) a1.1 a1.2 a2.1 a2.2)
          have H1 := Lib.hid a1; have H2 := Lib.hid a2; clear a1 a2
          go_wp2_with fail
          refine (in_yes _ _ _ (by rw [HT.out]; have := H1.out; omega) (by rw [HT.out]; have := H1.out; omega) _).mono ?_
          rintro e w' ⟨rfl, rfl⟩
          go_wp2_with fail
          refine (in_yes _ _ _ (by rw [HT.out]; have := H2.out; omega) (by rw [HT.out]; have := H2.out; omega) _).mono ?_
          rintro e w' ⟨rfl, rfl⟩
          go_wp2
          go_ret
          exact ⟨ret_bool R.out.symm, rfl⟩
        · have R := Lib.hid (strip_no (l := s.data.toList) (fun h => a2 h.2.2.2))
          have H1 := Lib.hid a1; have H2 := Lib.hid a2; clear a1 a2
          go_wp2_with fail
          refine (in_yes _ _ _ (by rw [HT.out]; have := H1.out; omega) (by rw [HT.out]; have := H1.out; omega) _).mono ?_
          rintro e w' ⟨rfl, rfl⟩
          go_wp2_with fail
          refine (in_no _ _ _ (by rw [HT.out]; have := H2.out; omega) _).mono ?_
          rintro e w' ⟨rfl, rfl⟩
          go_wp2
          go_ret
          exact ⟨ret_bool R.out.symm, rfl⟩
      · have R := Lib.hid (strip_no (l := s.data.toList) (fun h => a1 ⟨h.2.1, h.2.2.1⟩))
        have H1 := Lib.hid a1; clear a1
        go_wp2_with fail
        refine (in_no _ _ _ (by rw [HT.out]; have := H1.out; omega) _).mono ?_
        rintro e w' ⟨rfl, rfl⟩
        go_wp2
        go_ret
        exact ⟨ret_bool R.out.symm, rfl⟩

set_option maxHeartbeats 400000 in
theorem implDownOf_any (s : ByteArray) (hm : s.size ≤ maxLen) (w : World) :
    Calls Try.prog 91 #[.string s] w fun e w' => e = .returned (.int .i64 (downV s.data.toList)) ∧ w = w' := by
  cases hs : strip s.data.toList with
  | false =>
    have R := Lib.hid (downV_no hs)
    go_enter Try.func91, Try.ntmps91
    go_wp2_with fail
    refine (implIsStrip_any _ hm _).mono ?_
    rintro e w' ⟨rfl, rfl⟩
    go_wp2
    go_ret
    exact ⟨ret_int R.out.symm, rfl⟩
  | true =>
    have R := Lib.hid (downV_yes hs)
    go_enter Try.func91, Try.ntmps91
    go_wp2_with fail
    refine (implIsStrip_any _ hm _).mono ?_
    rintro e w' ⟨rfl, rfl⟩
    go_wp2_with fail
    refine (countD_any _ _).mono ?_
    rintro e w' ⟨rfl, rfl⟩
    go_wp2
    go_ret
    exact ⟨ret_int R.out.symm, rfl⟩

set_option maxHeartbeats 400000 in
theorem implForwardOf_any (s : ByteArray) (hm : s.size ≤ maxLen) (w : World) :
    Calls Try.prog 92 #[.string s] w fun e w' => e = .returned (.int .i64 (fwdV s.data.toList)) ∧ w = w' := by
  cases hs : strip s.data.toList with
  | false =>
    have R := Lib.hid (fwdV_no hs)
    go_enter Try.func92, Try.ntmps92
    go_wp2_with fail
    refine (implIsStrip_any _ hm _).mono ?_
    rintro e w' ⟨rfl, rfl⟩
    go_wp2
    go_ret
    exact ⟨ret_int R.out.symm, rfl⟩
  | true =>
    have R := Lib.hid (fwdV_yes hs)
    go_enter Try.func92, Try.ntmps92
    go_wp2_with fail
    refine (implIsStrip_any _ hm _).mono ?_
    rintro e w' ⟨rfl, rfl⟩
    go_wp2_with fail
    refine (countF_any _ _).mono ?_
    rintro e w' ⟨rfl, rfl⟩
    go_wp2
    go_ret
    exact ⟨ret_int R.out.symm, rfl⟩

set_option maxHeartbeats 400000 in
theorem specDownOf_any (s : ByteArray) (hm : s.size ≤ maxLen) (w : World) :
    Calls Try.prog 86 #[.string s] w fun e w' => e = .returned (.int .i64 (downV s.data.toList)) ∧ w = w' := by
  cases hs : strip s.data.toList with
  | false =>
    have R := Lib.hid (downV_no hs)
    go_enter Try.func86, Try.ntmps86
    go_wp2_with fail
    refine (specIsStrip_any _ hm _).mono ?_
    rintro e w' ⟨rfl, rfl⟩
    go_wp2
    go_ret
    exact ⟨ret_int R.out.symm, rfl⟩
  | true =>
    have R := Lib.hid (downV_yes hs)
    go_enter Try.func86, Try.ntmps86
    go_wp2_with fail
    refine (specIsStrip_any _ hm _).mono ?_
    rintro e w' ⟨rfl, rfl⟩
    go_wp2_with fail
    refine (l02Count_any _ 100 hm _).mono ?_
    rintro e w' ⟨rfl, rfl⟩
    go_wp2
    go_ret
    exact ⟨ret_int R.out.symm, rfl⟩

set_option maxHeartbeats 400000 in
theorem specForwardOf_any (s : ByteArray) (hm : s.size ≤ maxLen) (w : World) :
    Calls Try.prog 87 #[.string s] w fun e w' => e = .returned (.int .i64 (fwdV s.data.toList)) ∧ w = w' := by
  cases hs : strip s.data.toList with
  | false =>
    have R := Lib.hid (fwdV_no hs)
    go_enter Try.func87, Try.ntmps87
    go_wp2_with fail
    refine (specIsStrip_any _ hm _).mono ?_
    rintro e w' ⟨rfl, rfl⟩
    go_wp2
    go_ret
    exact ⟨ret_int R.out.symm, rfl⟩
  | true =>
    have R := Lib.hid (fwdV_yes hs)
    go_enter Try.func87, Try.ntmps87
    go_wp2_with fail
    refine (specIsStrip_any _ hm _).mono ?_
    rintro e w' ⟨rfl, rfl⟩
    go_wp2_with fail
    refine (l02Count_any _ 102 hm _).mono ?_
    rintro e w' ⟨rfl, rfl⟩
    go_wp2
    go_ret
    exact ⟨ret_int R.out.symm, rfl⟩

set_option maxHeartbeats 800000 in
theorem implSameFrame_any (s t : ByteArray) (hs : s.size ≤ maxLen) (ht : t.size ≤ maxLen) (w : World) :
    Calls Try.prog 83 #[.string s, .string t] w fun e w' => e = .returned (.bool (sameF s.data.toList t.data.toList)) ∧ w = w' := by
  cases h1 : strip s.data.toList with
  | false =>
    have R := Lib.hid (sameF_no (l := s.data.toList) (m := t.data.toList) (fun h => by rw [h1] at h; exact Bool.false_ne_true h.1))
    go_enter Try.func83, Try.ntmps83
    go_wp2_with fail
    refine (implIsStrip_any _ hs _).mono ?_
    rintro e w' ⟨rfl, rfl⟩
    go_wp2
    go_ret
    exact ⟨ret_bool R.out.symm, rfl⟩
  | true =>
  cases h2 : strip t.data.toList with
  | false =>
    have R := Lib.hid (sameF_no (l := s.data.toList) (m := t.data.toList) (fun h => by rw [h2] at h; exact Bool.false_ne_true h.2.1))
    go_enter Try.func83, Try.ntmps83
    go_wp2_with fail
    refine (implIsStrip_any _ hs _).mono ?_
    rintro e w' ⟨rfl, rfl⟩
    go_wp2_with fail
    refine (implIsStrip_any _ ht _).mono ?_
    rintro e w' ⟨rfl, rfl⟩
    go_wp2
    go_ret
    exact ⟨ret_bool R.out.symm, rfl⟩
  | true =>
  have z1 := strip_size h1; have z2 := strip_size h2
  have y1 := Lib.hid (downV_yes h1); have y2 := Lib.hid (downV_yes h2); have f1 := Lib.hid (fwdV_yes h1); have f2 := Lib.hid (fwdV_yes h2)
  by_cases a : s.size = t.size
  · have t0 : ((s.size : Int) == (t.size : Int)) = true := beq_iff_eq.2 (by omega)
    by_cases b : cD s.data.toList = cD t.data.toList
    · have t1 : (downV s.data.toList == downV t.data.toList) = true := beq_iff_eq.2 (by rw [y1.out, y2.out, b])
      have R := Lib.hid (sameF_mk h1 h2 b (by omega))
      clear a b z1 z2
      go_enter Try.func83, Try.ntmps83
      go_wp2_with fail
      refine (implIsStrip_any _ hs _).mono ?_
      rintro e w' ⟨rfl, rfl⟩
      go_wp2_with fail
      refine (implIsStrip_any _ ht _).mono ?_
      rintro e w' ⟨rfl, rfl⟩
      go_wp2_with fail
      refine (implDownOf_any _ hs _).mono ?_
      rintro e w' ⟨rfl, rfl⟩
      go_wp2_with fail
      refine (implDownOf_any _ ht _).mono ?_
      rintro e w' ⟨rfl, rfl⟩
      go_wp2
      go_ret
      exact ⟨ret_bool R.out.symm, rfl⟩
    · have t1 : (downV s.data.toList == downV t.data.toList) = false := beq_eq_false_iff_ne.2 (by rw [y1.out, y2.out]; omega)
      have R := Lib.hid (sameF_no (l := s.data.toList) (m := t.data.toList) (fun h => b h.2.2.1))
      clear a b z1 z2
      go_enter Try.func83, Try.ntmps83
      go_wp2_with fail
      refine (implIsStrip_any _ hs _).mono ?_
      rintro e w' ⟨rfl, rfl⟩
      go_wp2_with fail
      refine (implIsStrip_any _ ht _).mono ?_
      rintro e w' ⟨rfl, rfl⟩
      go_wp2_with fail
      refine (implDownOf_any _ hs _).mono ?_
      rintro e w' ⟨rfl, rfl⟩
      go_wp2_with fail
      refine (implDownOf_any _ ht _).mono ?_
      rintro e w' ⟨rfl, rfl⟩
      go_wp2
      go_ret
      exact ⟨ret_bool R.out.symm, rfl⟩
  · have t0 : ((s.size : Int) == (t.size : Int)) = false := beq_eq_false_iff_ne.2 (by omega)
    have R := Lib.hid (sameF_no (l := s.data.toList) (m := t.data.toList) (fun h => a (by have := h.2.2; omega)))
    clear a z1 z2
    go_enter Try.func83, Try.ntmps83
    go_wp2_with fail
    refine (implIsStrip_any _ hs _).mono ?_
    rintro e w' ⟨rfl, rfl⟩
    go_wp2_with fail
    refine (implIsStrip_any _ ht _).mono ?_
    rintro e w' ⟨rfl, rfl⟩
    go_wp2
    go_ret
    exact ⟨ret_bool R.out.symm, rfl⟩

set_option maxHeartbeats 800000 in
theorem specSameFrame_any (s t : ByteArray) (hs : s.size ≤ maxLen) (ht : t.size ≤ maxLen) (w : World) :
    Calls Try.prog 82 #[.string s, .string t] w fun e w' => e = .returned (.bool (sameF s.data.toList t.data.toList)) ∧ w = w' := by
  cases h1 : strip s.data.toList with
  | false =>
    have R := Lib.hid (sameF_no (l := s.data.toList) (m := t.data.toList) (fun h => by rw [h1] at h; exact Bool.false_ne_true h.1))
    go_enter Try.func82, Try.ntmps82
    go_wp2_with fail
    refine (specIsStrip_any _ hs _).mono ?_
    rintro e w' ⟨rfl, rfl⟩
    go_wp2
    go_ret
    exact ⟨ret_bool R.out.symm, rfl⟩
  | true =>
  cases h2 : strip t.data.toList with
  | false =>
    have R := Lib.hid (sameF_no (l := s.data.toList) (m := t.data.toList) (fun h => by rw [h2] at h; exact Bool.false_ne_true h.2.1))
    go_enter Try.func82, Try.ntmps82
    go_wp2_with fail
    refine (specIsStrip_any _ hs _).mono ?_
    rintro e w' ⟨rfl, rfl⟩
    go_wp2_with fail
    refine (specIsStrip_any _ ht _).mono ?_
    rintro e w' ⟨rfl, rfl⟩
    go_wp2
    go_ret
    exact ⟨ret_bool R.out.symm, rfl⟩
  | true =>
  have z1 := strip_size h1; have z2 := strip_size h2
  have y1 := Lib.hid (downV_yes h1); have y2 := Lib.hid (downV_yes h2); have f1 := Lib.hid (fwdV_yes h1); have f2 := Lib.hid (fwdV_yes h2)
  by_cases a : cD s.data.toList = cD t.data.toList
  · have t0 : (downV s.data.toList == downV t.data.toList) = true := beq_iff_eq.2 (by rw [y1.out, y2.out, a])
    by_cases b : cF s.data.toList = cF t.data.toList
    · have t1 : (fwdV s.data.toList == fwdV t.data.toList) = true := beq_iff_eq.2 (by rw [f1.out, f2.out, b])
      have R := Lib.hid (sameF_mk h1 h2 a b)
      clear a b z1 z2
      go_enter Try.func82, Try.ntmps82
      go_wp2_with fail
      refine (specIsStrip_any _ hs _).mono ?_
      rintro e w' ⟨rfl, rfl⟩
      go_wp2_with fail
      refine (specIsStrip_any _ ht _).mono ?_
      rintro e w' ⟨rfl, rfl⟩
      go_wp2_with fail
      refine (specDownOf_any _ hs _).mono ?_
      rintro e w' ⟨rfl, rfl⟩
      go_wp2_with fail
      refine (specDownOf_any _ ht _).mono ?_
      rintro e w' ⟨rfl, rfl⟩
      go_wp2_with fail
      refine (specForwardOf_any _ hs _).mono ?_
      rintro e w' ⟨rfl, rfl⟩
      go_wp2_with fail
      refine (specForwardOf_any _ ht _).mono ?_
      rintro e w' ⟨rfl, rfl⟩
      go_wp2
      go_ret
      exact ⟨ret_bool R.out.symm, rfl⟩
    · have t1 : (fwdV s.data.toList == fwdV t.data.toList) = false := beq_eq_false_iff_ne.2 (by rw [f1.out, f2.out]; omega)
      have R := Lib.hid (sameF_no (l := s.data.toList) (m := t.data.toList) (fun h => b h.2.2.2))
      clear a b z1 z2
      go_enter Try.func82, Try.ntmps82
      go_wp2_with fail
      refine (specIsStrip_any _ hs _).mono ?_
      rintro e w' ⟨rfl, rfl⟩
      go_wp2_with fail
      refine (specIsStrip_any _ ht _).mono ?_
      rintro e w' ⟨rfl, rfl⟩
      go_wp2_with fail
      refine (specDownOf_any _ hs _).mono ?_
      rintro e w' ⟨rfl, rfl⟩
      go_wp2_with fail
      refine (specDownOf_any _ ht _).mono ?_
      rintro e w' ⟨rfl, rfl⟩
      go_wp2_with fail
      refine (specForwardOf_any _ hs _).mono ?_
      rintro e w' ⟨rfl, rfl⟩
      go_wp2_with fail
      refine (specForwardOf_any _ ht _).mono ?_
      rintro e w' ⟨rfl, rfl⟩
      go_wp2
      go_ret
      exact ⟨ret_bool R.out.symm, rfl⟩
  · have t0 : (downV s.data.toList == downV t.data.toList) = false := beq_eq_false_iff_ne.2 (by rw [y1.out, y2.out]; omega)
    have R := Lib.hid (sameF_no (l := s.data.toList) (m := t.data.toList) (fun h => a h.2.2.1))
    clear a z1 z2
    go_enter Try.func82, Try.ntmps82
    go_wp2_with fail
    refine (specIsStrip_any _ hs _).mono ?_
    rintro e w' ⟨rfl, rfl⟩
    go_wp2_with fail
    refine (specIsStrip_any _ ht _).mono ?_
    rintro e w' ⟨rfl, rfl⟩
    go_wp2_with fail
    refine (specDownOf_any _ hs _).mono ?_
    rintro e w' ⟨rfl, rfl⟩
    go_wp2_with fail
    refine (specDownOf_any _ ht _).mono ?_
    rintro e w' ⟨rfl, rfl⟩
    go_wp2
    go_ret
    exact ⟨ret_bool R.out.symm, rfl⟩

end Go.Proofs.Ytmpbhhggbmjfcaa
