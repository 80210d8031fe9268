/- Contracts of the reference's IsMountain, IsValley; of CountPeaks, StripAt. -/
import Derived.Test.YtmpbhhggbmjfcaaCornerFns
namespace Go.Proofs.Ytmpbhhggbmjfcaa
open Go.RowKit
set_option linter.unusedVariables false
set_option linter.unusedSimpArgs false

def peaksV (s : ByteArray) : Int := if strip s.data.toList then (crlN s 102 s.size : Int) else -1
theorem peaksV_no {s : ByteArray} (h : strip s.data.toList = false) : peaksV s = -1 := by unfold peaksV; rw [h]; rfl
theorem peaksV_yes {s : ByteArray} (h : strip s.data.toList = true) : peaksV s = crlN s 102 s.size := by unfold peaksV; rw [h]; rfl
theorem crlN_hit {s : ByteArray} {c : UInt8} {k : Nat} (h : crl s c k = true) : crlN s c (k + 1) = crlN s c k + 1 := by show crlN s c k + (if crl s c k then 1 else 0) = _; rw [h]; rfl
theorem crlN_miss {s : ByteArray} {c : UInt8} {k : Nat} (h : crl s c k = false) : crlN s c (k + 1) = crlN s c k := by show crlN s c k + (if crl s c k then 1 else 0) = _; rw [h]; rfl

set_option maxHeartbeats 1000000 in
theorem implCountPeaks_any (s : ByteArray) (hm : s.size ≤ maxLen) (w : World) :
    Calls Try.prog 43 #[.string s] w fun e w' => e = .returned (.int .i64 (peaksV s)) ∧ ∃ n, w' = w.drewN n := by
  have hm' := hm
  unfold maxLen at hm'
  cases hs : strip s.data.toList with
  | false =>
    have R := Lib.hid (peaksV_no hs)
    go_enter Try.func43, Try.ntmps43
    go_wp2_with fail
    refine (implIsStrip_any _ hm _).mono ?_
    rintro e w' ⟨rfl, rfl⟩
    go_wp2
    go_ret
    exact ⟨ret_int R.out.symm, dr_refl _⟩
  | true =>
    have R := Lib.hid (peaksV_yes hs)
    go_enter Try.func43, Try.ntmps43
    go_wp2_with fail
    refine (implIsStrip_any _ hm _).mono ?_
    rintro e w' ⟨rfl, rfl⟩
    go_wp2
    go_loopw [3, 10] (fun n i wr => ∃ k : Nat, k ≤ s.size ∧ i = .int .i64 k ∧ n = .int .i64 (crlN s 102 k) ∧ ∃ q, wr = w.drewN q) (fun _ i _ => s.size - (intOf i).toNat)
    case atStart => exact ⟨0, Nat.zero_le _, rfl, rfl, dr_refl _⟩
    case round =>
      obtain ⟨k, hk, rfl, rfl, q, rfl⟩ := hrel
      have hl := crlN_le s 102 k
      by_cases hlt : k < s.size
      · cases hc : crl s 102 k with
        | true =>
          have HN := Lib.hid (crlN_hit hc)
          have hmt : mtn s 102 k = true := (mtn_in hs).trans hc
          clear hc
          go_wp2_with fail
          refine (implIsMountain_any _ _ hm (by omega) _).mono ?_
          rintro e w' ⟨rfl, n1, rfl⟩
          go_wp2
          go_roundw
          case rel => exact ⟨k + 1, by omega, by go_num, by rw [HN.out]; go_num, _, rfl⟩
          case measure => simp [intOf]; omega
        | false =>
          have HN := Lib.hid (crlN_miss hc)
          have hmt : mtn s 102 k = false := (mtn_in hs).trans hc
          clear hc
          go_wp2_with fail
          refine (implIsMountain_any _ _ hm (by omega) _).mono ?_
          rintro e w' ⟨rfl, n1, rfl⟩
          go_wp2
          go_roundw
          case rel => exact ⟨k + 1, by omega, by go_num, by rw [HN.out], _, rfl⟩
          case measure => simp [intOf]; omega
      · obtain rfl : k = s.size := by omega
        go_wp2
        go_ret
        exact ⟨ret_int R.out.symm, _, rfl⟩

theorem l02CountF_any (s : ByteArray) (hm : s.size ≤ maxLen) (w : World) :
    Calls Try.prog 110 #[.string s, .int .u8 102] w fun e w' => e = .returned (.int .i64 (cF s.data.toList)) ∧ w' = w :=
  (l02Count_any s 102 hm w).mono fun _ _ h => ⟨h.1, h.2.symm⟩
theorem l02CountD_any (s : ByteArray) (hm : s.size ≤ maxLen) (w : World) :
    Calls Try.prog 110 #[.string s, .int .u8 100] w fun e w' => e = .returned (.int .i64 (cD s.data.toList)) ∧ w' = w :=
  (l02Count_any s 100 hm w).mono fun _ _ h => ⟨h.1, h.2.symm⟩

end Go.Proofs.Ytmpbhhggbmjfcaa
