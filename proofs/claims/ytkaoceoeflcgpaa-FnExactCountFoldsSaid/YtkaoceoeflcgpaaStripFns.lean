/- Contracts of the functions that count letters and tell strips: within, l01In, l02Count, strings.Count at one letter, forwards, IsStrip, DownOf, ForwardOf, SameFrame. -/
import Derived.Test.YtkaoceoeflcgpaaRows
import Derived.Test.YtkaoceoeflcgpaaStrip
import Derived.Test.YtkaoceoeflcgpaaShelf
import Derived.IntWalk
import Derived.Lib.Hide
namespace Go.Proofs.Ytkaoceoeflcgpaa
open Go.RowKit
set_option linter.unusedVariables false

theorem within_yes (n lo hi : Int) (h1 : lo ≤ n) (h2 : n ≤ hi) (w : World) :
    Calls Try.prog 18 #[.int .i64 n, .int .i64 lo, .int .i64 hi] w fun e w' => e = .returned (.bool true) ∧ w = w' := by
  go_enter Try.func18, Try.ntmps18
  go_wp2
  go_ret
  exact ⟨rfl, rfl⟩
theorem within_no (n lo hi : Int) (h : n < lo ∨ hi < n) (w : World) :
    Calls Try.prog 18 #[.int .i64 n, .int .i64 lo, .int .i64 hi] w fun e w' => e = .returned (.bool false) ∧ w = w' := by
  by_cases h1 : n < lo
  · clear h
    go_enter Try.func18, Try.ntmps18
    go_wp2
    go_ret
    exact ⟨rfl, rfl⟩
  · have h2 : lo ≤ n := by omega
    have h3 : hi < n := by omega
    have h4 := Lib.hid h3
    clear h h1
    go_enter Try.func18, Try.ntmps18
    go_wp2
    go_ret
    exact ⟨ret_bool (by have := h4.out; simp; omega), rfl⟩
theorem in_yes (n lo hi : Int) (h1 : lo ≤ n) (h2 : n ≤ hi) (w : World) :
    Calls Try.prog 16 #[.int .i64 n, .int .i64 lo, .int .i64 hi] w fun e w' => e = .returned (.bool true) ∧ w = w' := by
  go_enter Try.func16, Try.ntmps16
  go_wp2
  go_ret
  exact ⟨rfl, rfl⟩
theorem in_no (n lo hi : Int) (h : n < lo ∨ hi < n) (w : World) :
    Calls Try.prog 16 #[.int .i64 n, .int .i64 lo, .int .i64 hi] w fun e w' => e = .returned (.bool false) ∧ w = w' := by
  by_cases h1 : n < lo
  · clear h
    go_enter Try.func16, Try.ntmps16
    go_wp2
    go_ret
    exact ⟨rfl, rfl⟩
  · have h2 : lo ≤ n := by omega
    have h3 : hi < n := by omega
    have h4 := Lib.hid h3
    clear h h1
    go_enter Try.func16, Try.ntmps16
    go_wp2
    go_ret
    exact ⟨ret_bool (by have := h4.out; simp; omega), rfl⟩

theorem countD_any (s : ByteArray) (w : World) :
    Calls Try.prog 17 #[.string s, .string ⟨#[100]⟩] w fun e w' => e = .returned (.int .i64 (cD s.data.toList)) ∧ w = w' := by
  refine (Try.strings_Count_one s 100 w).mono ?_
  rintro e w' ⟨rfl, rfl⟩
  exact ⟨rfl, rfl⟩
theorem countF_any (s : ByteArray) (w : World) :
    Calls Try.prog 17 #[.string s, .string ⟨#[102]⟩] w fun e w' => e = .returned (.int .i64 (cF s.data.toList)) ∧ w = w' := by
  refine (Try.strings_Count_one s 102 w).mono ?_
  rintro e w' ⟨rfl, rfl⟩
  exact ⟨rfl, rfl⟩

set_option maxHeartbeats 800000 in
theorem implIsStrip_any (s : ByteArray) (hm : s.size ≤ maxLen) (w : World) :
    Calls Try.prog 14 #[.string s] w fun e w' => e = .returned (.bool (strip s.data.toList)) ∧ w = w' := by
  unfold maxLen at hm
  have hle := cnt_le s.data.toList
  rw [size_len] at hle
  by_cases a0 : cD s.data.toList + cF s.data.toList = s.size
  · have t0 : (((cD s.data.toList : Int) + (cF s.data.toList : Int)) == (s.size : Int)) = true := beq_iff_eq.2 (by omega)
    by_cases a1 : 1 ≤ cD s.data.toList ∧ cD s.data.toList ≤ 8
    · by_cases a2 : 1 ≤ cF s.data.toList ∧ cF s.data.toList ≤ 8
      · have R := Lib.hid (strip_mk (by rw [size_len]; exact a0) a1.1 a1.2 a2.1 a2.2)
        have H1 := Lib.hid a1; have H2 := Lib.hid a2; clear a0 a1 a2
        go_enter Try.func14, Try.ntmps14
        go_wp2_with fail
        refine (countD_any _ _).mono ?_
        rintro e w' ⟨rfl, rfl⟩
        go_wp2_with fail
        refine (countF_any _ _).mono ?_
        rintro e w' ⟨rfl, rfl⟩
        go_wp2_with fail
        refine (within_yes _ _ _ (by have := H1.out; omega) (by have := H1.out; omega) _).mono ?_
        rintro e w' ⟨rfl, rfl⟩
        go_wp2_with fail
        refine (within_yes _ _ _ (by have := H2.out; omega) (by have := H2.out; omega) _).mono ?_
        rintro e w' ⟨rfl, rfl⟩
        go_wp2
        go_ret
        exact ⟨ret_bool R.out.symm, rfl⟩
      · have R := Lib.hid (strip_no (l := s.data.toList) (fun h => a2 h.2.2.2))
        have H1 := Lib.hid a1; have H2 := Lib.hid a2; clear a0 a1 a2
        go_enter Try.func14, Try.ntmps14
        go_wp2_with fail
        refine (countD_any _ _).mono ?_
        rintro e w' ⟨rfl, rfl⟩
        go_wp2_with fail
        refine (countF_any _ _).mono ?_
        rintro e w' ⟨rfl, rfl⟩
        go_wp2_with fail
        refine (within_yes _ _ _ (by have := H1.out; omega) (by have := H1.out; omega) _).mono ?_
        rintro e w' ⟨rfl, rfl⟩
        go_wp2_with fail
        refine (within_no _ _ _ (by have := H2.out; omega) _).mono ?_
        rintro e w' ⟨rfl, rfl⟩
        go_wp2
        go_ret
        exact ⟨ret_bool R.out.symm, rfl⟩
    · have R := Lib.hid (strip_no (l := s.data.toList) (fun h => a1 ⟨h.2.1, h.2.2.1⟩))
      have H1 := Lib.hid a1; clear a0 a1
      go_enter Try.func14, Try.ntmps14
      go_wp2_with fail
      refine (countD_any _ _).mono ?_
      rintro e w' ⟨rfl, rfl⟩
      go_wp2_with fail
      refine (countF_any _ _).mono ?_
      rintro e w' ⟨rfl, rfl⟩
      go_wp2_with fail
      refine (within_no _ _ _ (by have := H1.out; omega) _).mono ?_
      rintro e w' ⟨rfl, rfl⟩
      go_wp2
      go_ret
      exact ⟨ret_bool R.out.symm, rfl⟩
  · have t0 : (((cD s.data.toList : Int) + (cF s.data.toList : Int)) == (s.size : Int)) = false := beq_eq_false_iff_ne.2 (by omega)
    have R := Lib.hid (strip_no (l := s.data.toList) (fun h => a0 (by rw [← size_len]; exact h.1)))
    clear a0
    go_enter Try.func14, Try.ntmps14
    go_wp2_with fail
    refine (countD_any _ _).mono ?_
    rintro e w' ⟨rfl, rfl⟩
    go_wp2_with fail
    refine (countF_any _ _).mono ?_
    rintro e w' ⟨rfl, rfl⟩
    go_wp2
    go_ret
    exact ⟨ret_bool R.out.symm, rfl⟩

set_option maxHeartbeats 800000 in
theorem specIsStrip_any (s : ByteArray) (hm : s.size ≤ maxLen) (w : World) :
    Calls Try.prog 12 #[.string s] w fun e w' => e = .returned (.bool (strip s.data.toList)) ∧ w = w' := by
  unfold maxLen at hm
  go_enter Try.func12, Try.ntmps12
  go_wp2
  go_loop [3, 4, 5] (fun d f i => ∃ k : Nat, k ≤ s.size ∧ i = .int .i64 k ∧ d = .int .i64 (cD (s.data.toList.take k)) ∧ f = .int .i64 (cF (s.data.toList.take k)) ∧ Hid (cD (s.data.toList.take k) + cF (s.data.toList.take k) = k)) (fun _ _ i => s.size - (intOf i).toNat)
  case atStart => exact ⟨0, Nat.zero_le _, rfl, rfl, rfl, Lib.hid rfl⟩
  case round =>
    obtain ⟨k, hk, rfl, rfl, rfl, HK⟩ := hrel
    have bd := cnt_take_le s.data.toList k
    by_cases hlt : k < s.size
    · have HD := Lib.hid (cD_snoc s k hlt)
      have HF := Lib.hid (cF_snoc s k hlt)
      by_cases c1 : s[k].toNat = 100
      · have t1 : ((s[k].toNat : Int) == 100) = true := beq_iff_eq.2 (by omega)
        have HD2 : Hid (cD (s.data.toList.take (k + 1)) = cD (s.data.toList.take k) + 1) := Lib.hid (by rw [HD.out, if_pos c1])
        have HF2 : Hid (cF (s.data.toList.take (k + 1)) = cF (s.data.toList.take k)) := Lib.hid (by rw [HF.out, if_neg (by omega)]; rfl)
        clear c1 HD HF
        go_wp2
        go_round
        case rel => exact ⟨k + 1, by omega, by go_num, by rw [HD2.out]; go_num, by rw [HF2.out], Lib.hid (by rw [HD2.out, HF2.out]; have := HK.out; omega)⟩
        case measure => simp [intOf]; omega
      by_cases c2 : s[k].toNat = 102
      · have t1 : ((s[k].toNat : Int) == 100) = false := beq_eq_false_iff_ne.2 (by omega)
        have t2 : ((s[k].toNat : Int) == 102) = true := beq_iff_eq.2 (by omega)
        have HD2 : Hid (cD (s.data.toList.take (k + 1)) = cD (s.data.toList.take k)) := Lib.hid (by rw [HD.out, if_neg c1]; rfl)
        have HF2 : Hid (cF (s.data.toList.take (k + 1)) = cF (s.data.toList.take k) + 1) := Lib.hid (by rw [HF.out, if_pos c2])
        clear c1 c2 HD HF
        go_wp2
        go_round
        case rel => exact ⟨k + 1, by omega, by go_num, by rw [HD2.out], by rw [HF2.out]; go_num, Lib.hid (by rw [HD2.out, HF2.out]; have := HK.out; omega)⟩
        case measure => simp [intOf]; omega
      · have t1 : ((s[k].toNat : Int) == 100) = false := beq_eq_false_iff_ne.2 (by omega)
        have t2 : ((s[k].toNat : Int) == 102) = false := beq_eq_false_iff_ne.2 (by omega)
        have R := Lib.hid (strip_bad s k hlt c1 c2)
        clear c1 c2 HD HF
        go_wp2
        go_ret
        exact ⟨ret_bool R.out.symm, rfl⟩
    · obtain rfl : k = s.size := by omega
      rw [take_all] at HK
      have HT := Lib.hid (take_all s)
      by_cases a1 : 1 ≤ cD s.data.toList ∧ cD s.data.toList ≤ 8
      · by_cases a2 : 1 ≤ cF s.data.toList ∧ cF s.data.toList ≤ 8
        · have R := Lib.hid (strip_mk (by rw [size_len]; exact HK.out) a1.1 a1.2 a2.1 a2.2)
          have H1 := Lib.hid a1; have H2 := Lib.hid a2; clear a1 a2
          go_wp2_with fail
          refine (in_yes _ _ _ (by rw [HT.out]; have := H1.out; omega) (by rw [HT.out]; have := H1.out; omega) _).mono ?_
          rintro e w' ⟨rfl, rfl⟩
          go_wp2_with fail
          refine (in_yes _ _ _ (by rw [HT.out]; have := H2.out; omega) (by rw [HT.out]; have := H2.out; omega) _).mono ?_
          rintro e w' ⟨rfl, rfl⟩
          go_wp2
          go_ret
          exact ⟨ret_bool R.out.symm, rfl⟩
        · have R := Lib.hid (strip_no (l := s.data.toList) (fun h => a2 h.2.2.2))
          have H1 := Lib.hid a1; have H2 := Lib.hid a2; clear a1 a2
          go_wp2_with fail
          refine (in_yes _ _ _ (by rw [HT.out]; have := H1.out; omega) (by rw [HT.out]; have := H1.out; omega) _).mono ?_
          rintro e w' ⟨rfl, rfl⟩
          go_wp2_with fail
          refine (in_no _ _ _ (by rw [HT.out]; have := H2.out; omega) _).mono ?_
          rintro e w' ⟨rfl, rfl⟩
          go_wp2
          go_ret
          exact ⟨ret_bool R.out.symm, rfl⟩
      · have R := Lib.hid (strip_no (l := s.data.toList) (fun h => a1 ⟨h.2.1, h.2.2.1⟩))
        have H1 := Lib.hid a1; clear a1
        go_wp2_with fail
        refine (in_no _ _ _ (by rw [HT.out]; have := H1.out; omega) _).mono ?_
        rintro e w' ⟨rfl, rfl⟩
        go_wp2
        go_ret
        exact ⟨ret_bool R.out.symm, rfl⟩

end Go.Proofs.Ytkaoceoeflcgpaa
