/- Contracts of l02Many, strings.Repeat at one letter, isSteps, l02Frame, FlatStrip, HighStrip. -/
import Derived.Test.YtmpbhhggbmjfcaaStripFns
namespace Go.Proofs.Ytmpbhhggbmjfcaa
open Go.RowKit
set_option linter.unusedVariables false

/-- n times the byte b. -/
def repS (b : UInt8) (n : Nat) : ByteArray := ⟨(List.replicate n b).toArray⟩
theorem repS_zero (b : UInt8) : repS b 0 = ⟨#[]⟩ := rfl
theorem repS_data (b : UInt8) (n : Nat) : (repS b n).data.toList = List.replicate n b := by simp [repS]
theorem repS_succ (b : UInt8) (n : Nat) : repS b n ++ ⟨#[b]⟩ = repS b (n + 1) := by
  apply ByteArray.ext
  rw [ByteArray.data_append]
  apply Array.toList_inj.1
  rw [Array.toList_append, repS_data, repS_data, List.replicate_succ']
theorem repS_size (b : UInt8) (n : Nat) : (repS b n).size = n := by rw [← size_len, repS_data, List.length_replicate]
theorem repS_repeat (b : UInt8) (n : Nat) : (⟨(Lib.repeatL [b] n).toArray⟩ : ByteArray) = repS b n := by
  have : Lib.repeatL [b] n = List.replicate n b := by
    induction n with
    | zero => rfl
    | succ n ih => show [b] ++ Lib.repeatL [b] n = _; rw [ih]; rfl
  rw [this]; rfl

theorem repeat_any (b : UInt8) (n : Nat) (hn : n ≤ 1000) (w : World) :
    Calls Try.prog 77 #[.string ⟨#[b]⟩, .int .i64 n] w fun e w' => e = .returned (.string (repS b n)) ∧ Below w.heap.size w w' := by
  refine (Try.strings_Repeat ⟨#[b]⟩ n w (by omega) (by show 1 * n ≤ _; omega)).mono ?_
  rintro e w' ⟨rfl, hb⟩
  exact ⟨ret_str (repS_repeat b n), hb⟩
theorem repeatD_any (n : Nat) (hn : n ≤ 1000) (w : World) :
    Calls Try.prog 77 #[.string ⟨#[100]⟩, .int .i64 n] w fun e w' => e = .returned (.string (repS 100 n)) ∧ Below w.heap.size w w' := repeat_any 100 n hn w
theorem repeatF_any (n : Nat) (hn : n ≤ 1000) (w : World) :
    Calls Try.prog 77 #[.string ⟨#[102]⟩, .int .i64 n] w fun e w' => e = .returned (.string (repS 102 n)) ∧ Below w.heap.size w w' := repeat_any 102 n hn w

set_option maxHeartbeats 400000 in
theorem l02Many_any (b : UInt8) (n : Nat) (hn : n ≤ 1000) (w : World) :
    Calls Try.prog 120 #[.string ⟨#[b]⟩, .int .i64 n] w fun e w' => e = .returned (.string (repS b n)) ∧ w = w' := by
  go_enter Try.func120, Try.ntmps120
  go_wp2
  go_loop [5, 6] (fun s i => ∃ k : Nat, k ≤ n ∧ i = .int .i64 k ∧ s = .string (repS b k)) (fun _ i => n - (intOf i).toNat)
  case atStart => exact ⟨0, Nat.zero_le _, rfl, rfl⟩
  case round =>
    obtain ⟨k, hk, rfl, rfl⟩ := hrel
    have hsz := repS_size b k
    by_cases hlt : k < n
    · have HS := Lib.hid (repS_succ b k)
      have hs2 : (repS b k).size ≤ 1000 := by omega
      clear hsz
      go_wp2
      go_round
      case rel => exact ⟨k + 1, by omega, by go_num, by rw [← HS.out]⟩
      case measure => simp [intOf]; omega
    · obtain rfl : k = n := by omega
      clear hsz
      go_wp2
      go_ret
      exact ⟨rfl, rfl⟩
end Go.Proofs.Ytmpbhhggbmjfcaa
