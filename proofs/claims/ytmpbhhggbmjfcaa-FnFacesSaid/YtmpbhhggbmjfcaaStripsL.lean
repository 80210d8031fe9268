/- Small facts for the laws on drawn strips: at, the first letters of the flat and the high strip. -/
import Derived.Test.YtmpbhhggbmjfcaaDrawS
import Derived.Test.YtmpbhhggbmjfcaaCornerFns2
namespace Go.Proofs.Ytmpbhhggbmjfcaa
open Go.RowKit
set_option linter.unusedVariables false
set_option linter.unusedSimpArgs false

set_option maxRecDepth 20000 in
set_option maxHeartbeats 1000000 in
theorem at0_any (B : Nat) (a : Option Addr) (n cap : Nat) (w : World) (hn : n ≤ 1048576) (hr : RdB B w a n) :
    Calls Try.prog 46 #[.slice a n cap, .int .i64 0] w fun e w' => ∃ x : Int, e = .returned (.int .i64 x) ∧ 0 ≤ x ∧ x ≤ 255 ∧ w = w' := by
  rcases Nat.eq_zero_or_pos n with rfl | hp
  · go_enter Try.func46, Try.ntmps46
    go_wp2
    go_ret
    exact ⟨0, rfl, by omega, by omega, rfl⟩
  · rcases hr with h0 | ⟨b, off, rfl, hb, hc⟩
    · omega
    obtain ⟨m, hm⟩ : ∃ m : Nat, (1 : Int) % (n : Int) = (m : Int) := ⟨1 % n, by simp⟩
    have hml : m < n := by
      have := Int.emod_lt_of_pos 1 (show (0 : Int) < (n : Int) by omega)
      omega
    obtain ⟨x, x0, x1, hx⟩ := hc m hml
    clear hc
    have t0 : ((n : Int) == 0) = false := beq_eq_false_iff_ne.2 (by omega)
    have e1 : (m : Int) < (n : Int) := by omega
    go_enter Try.func46, Try.ntmps46
    go_wp2
    go_ret
    exact ⟨x, rfl, x0, x1, rfl⟩

theorem flatS_data (d f : Nat) : (flatS d f).data.toList = List.replicate d 100 ++ List.replicate f 102 := by
  unfold flatS; rw [ByteArray.data_append, Array.toList_append, repS_data, repS_data]
theorem highS_data (d f : Nat) : (highS d f).data.toList = List.replicate f 102 ++ List.replicate d 100 := by
  unfold highS; rw [ByteArray.data_append, Array.toList_append, repS_data, repS_data]
theorem flat_cnt (d f : Nat) : cD (flatS d f).data.toList = d ∧ cF (flatS d f).data.toList = f ∧ (flatS d f).size = d + f := by
  rw [flatS_data, cD_append, cF_append]
  refine ⟨?_, ?_, by unfold flatS; rw [ByteArray.size_append, repS_size, repS_size]⟩ <;> simp [cD, cF, List.count_replicate]
theorem high_cnt (d f : Nat) : cD (highS d f).data.toList = d ∧ cF (highS d f).data.toList = f ∧ (highS d f).size = d + f := by
  rw [highS_data, cD_append, cF_append]
  refine ⟨?_, ?_, by unfold highS; rw [ByteArray.size_append, repS_size, repS_size]; omega⟩ <;> simp [cD, cF, List.count_replicate]
theorem flat_strip {d f : Nat} (h1 : 1 ≤ d) (h2 : d ≤ 8) (h3 : 1 ≤ f) (h4 : f ≤ 8) : strip (flatS d f).data.toList = true := by
  obtain ⟨a, b, c⟩ := flat_cnt d f
  exact strip_mk (by rw [a, b, size_len, c]) (by rw [a]; exact h1) (by rw [a]; exact h2) (by rw [b]; exact h3) (by rw [b]; exact h4)
theorem high_strip {d f : Nat} (h1 : 1 ≤ d) (h2 : d ≤ 8) (h3 : 1 ≤ f) (h4 : f ≤ 8) : strip (highS d f).data.toList = true := by
  obtain ⟨a, b, c⟩ := high_cnt d f
  exact strip_mk (by rw [a, b, size_len, c]) (by rw [a]; exact h1) (by rw [a]; exact h2) (by rw [b]; exact h3) (by rw [b]; exact h4)
theorem flat_first {d f : Nat} (h1 : 1 ≤ d) (h : 0 < (flatS d f).size) : (flatS d f)[0] = 100 := by
  have e : (flatS d f)[0] = (flatS d f).data.toList[0]'(by simpa using h) := rfl
  rw [e]
  obtain ⟨d, rfl⟩ : ∃ k, d = k + 1 := ⟨d - 1, by omega⟩
  simp [flatS_data, List.replicate_succ]
theorem high_first {d f : Nat} (h1 : 1 ≤ f) (h : 0 < (highS d f).size) : (highS d f)[0] = 102 := by
  have e : (highS d f)[0] = (highS d f).data.toList[0]'(by simpa using h) := rfl
  rw [e]
  obtain ⟨f, rfl⟩ : ∃ k, f = k + 1 := ⟨f - 1, by omega⟩
  simp [highS_data, List.replicate_succ]
end Go.Proofs.Ytmpbhhggbmjfcaa
