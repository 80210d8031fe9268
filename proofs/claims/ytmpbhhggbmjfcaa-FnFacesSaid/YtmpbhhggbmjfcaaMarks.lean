/- Contracts of markIntS, heldIntS. -/
import Derived.Test.YtmpbhhggbmjfcaaInts
namespace Go.Proofs.Ytmpbhhggbmjfcaa
open Go.RowKit
set_option linter.unusedVariables false

set_option maxHeartbeats 800000 in
theorem markIntS_any (v : Value) (B : Nat) (xs : List Int) (m : Int) (w : World) (h : OwnI B v xs w) (hm0 : 0 ≤ m) (hm1 : m ≤ 1000000) (hl : xs.length ≤ 1000000) :
    Calls Try.prog 52 #[v, .int .i64 m] w fun e w' => e = .returned (.int .i64 (m + xs.length)) ∧ OwnI B v (marks m xs.length) w' ∧ Below B w w' ∧ w'.heap.size = w.heap.size := by
  rcases h.form with ⟨a1, c1, rfl, rfl⟩ | ⟨g, cap, rfl, hB, hpos⟩
  · go_enter Try.func52, Try.ntmps52
    go_wp2
    refine wp_loop_rounds 1 ?_
    rw [rounds_succ]
    go_wp2
    go_ret
    exact ⟨ret_int (by simp), h, Below.refl _ _, rfl⟩
  · have HP := Lib.hid (pm_all m xs)
    have HL := Lib.hid (pm_length m · xs)
    go_enter Try.func52, Try.ntmps52
    go_wp2
    go_loopw [1, 5] (fun j i wr => ∃ k : Nat, k ≤ xs.length ∧ i = .int .i64 k ∧ j = .int .i64 (m + k) ∧ OwnI B (.slice (some ⟨g, 0, none⟩) xs.length cap) (pm m k xs) wr ∧ Below B w wr ∧ Hid (wr.heap.size = w.heap.size)) (fun _ i _ => xs.length - (intOf i).toNat)
    case atStart => exact ⟨0, Nat.zero_le _, rfl, by simp, by rw [pm_zero]; exact h, Below.refl _ _, Lib.hid rfl⟩
    case round =>
      obtain ⟨k, hk, rfl, rfl, hown, hb, hsz⟩ := hrel
      by_cases hlt : k < xs.length
      · have hc := hown.cell k (by rw [pm_length]; exact hlt)
        have hf := hown.frozen k
        have e1 : (k : Int) < (xs.length : Int) := by omega
        have hown2 := hown.set k (m + k)
        rw [pm_succ] at hown2
        go_wp2
        go_roundw
        case rel => exact ⟨k + 1, by omega, by go_num, by go_num, hown2, hb.setCell hB _, Lib.hid (by simpa using hsz.out)⟩
        case measure => simp [intOf]; omega
      · obtain rfl : k = xs.length := by omega
        go_wp2
        go_ret
        exact ⟨rfl, by rw [← HP.out]; exact hown, hb, hsz.out⟩

set_option maxHeartbeats 800000 in
theorem heldIntS_any (v : Value) (B : Nat) (n : Nat) (m : Int) (w : World) (h : OwnI B v (marks m n) w) (hm0 : 0 ≤ m) (hm1 : m ≤ 1000000) (hl : n ≤ 1000000) :
    Calls Try.prog 53 #[v, .int .i64 m] w fun e w' => e = .returned (.int .i64 (m + n)) ∧ w = w' := by
  rcases h.form with ⟨a1, c1, rfl, h0⟩ | ⟨g, cap, rfl, hB, hpos⟩
  · obtain rfl : n = 0 := by have := marks_length m n; rw [h0] at this; exact this.symm
    clear h
    go_enter Try.func53, Try.ntmps53
    go_wp2
    refine wp_loop_rounds 1 ?_
    rw [rounds_succ]
    go_wp2
    go_ret
    exact ⟨ret_int (by simp), rfl⟩
  · rw [marks_length] at h hpos ⊢
    go_enter Try.func53, Try.ntmps53
    go_wp2
    go_loop [1, 5] (fun j i => ∃ k : Nat, k ≤ n ∧ i = .int .i64 k ∧ j = .int .i64 (m + k)) (fun _ i => n - (intOf i).toNat)
    case atStart => exact ⟨0, Nat.zero_le _, rfl, by simp⟩
    case round =>
      obtain ⟨k, hk, rfl, rfl⟩ := hrel
      by_cases hlt : k < n
      · have hc := h.cell k (by rw [marks_length]; exact hlt)
        rw [marks_get] at hc
        have e1 : (k : Int) < (n : Int) := by omega
        go_wp2
        go_round
        case rel => exact ⟨k + 1, by omega, by go_num, by go_num⟩
        case measure => simp [intOf]; omega
      · obtain rfl : k = n := by omega
        go_wp2
        go_ret
        exact ⟨rfl, rfl⟩
end Go.Proofs.Ytmpbhhggbmjfcaa
