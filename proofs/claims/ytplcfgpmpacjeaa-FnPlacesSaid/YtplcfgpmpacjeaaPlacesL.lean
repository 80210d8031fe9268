/- Plain facts on the places of a strip: how far it reaches at every opening. No program stands in it. -/
import Derived.Test.YtplcfgpmpacjeaaPlace
import Derived.Test.YtplcfgpmpacjeaaStripsL
namespace Go.Proofs.Ytplcfgpmpacjeaa
open Go.RowKit
set_option linter.unusedVariables false
set_option linter.unusedSimpArgs false

theorem pl_all {s : ByteArray} (hs : strip s.data.toList = true) {k : Nat} (hk : k ≤ s.size) :
    (plB s k 0 = true ∧ plB s k 1 = true ∧ plB s k 2 = true) ∧ plY s k 0 = 0 ∧ plY s k 2 = 0 ∧ plX s k 0 = plX s k 1 + plY s k 1 ∧ plX s k 2 = plX s k 1 - plY s k 1 ∧ plX s k 2 = (k : Int) - cD s.data.toList ∧
    plX s k 0 = (cF (s.data.toList.take k) : Int) + (cD s.data.toList - cD (s.data.toList.take k)) := by
  have b0 : plB s k 0 = true := plB_mk hs (by omega) (by omega) (by omega) (by omega)
  have b1 : plB s k 1 = true := plB_mk hs (by omega) (by omega) (by omega) (by omega)
  have b2 : plB s k 2 = true := plB_mk hs (by omega) (by omega) (by omega) (by omega)
  have ht := strip_take hs k hk
  rw [plY_yes b0, plY_yes b2, plX_yes b0, plX_yes b1, plX_yes b2, plY_yes b1]
  unfold plF plU
  simp only [Int.toNat_natCast]
  refine ⟨⟨b0, b1, b2⟩, ?_, ?_, ?_, ?_, ?_, ?_⟩ <;> simp <;> omega
theorem hiX_ge (s : ByteArray) (o : Int) (k : Nat) : ∀ m, k < m → plX s k o ≤ hiX s o m
  | 0, h => by omega
  | m + 1, h => by
    show _ ≤ max (hiX s o m) (plX s m o)
    rcases Nat.lt_or_ge k m with h1 | h1
    · have := hiX_ge s o k m h1; omega
    · obtain rfl : k = m := by omega
      omega
theorem loX_le (s : ByteArray) (o : Int) (k : Nat) : ∀ m, k < m → loX s o m ≤ plX s k o
  | 0, h => by omega
  | m + 1, h => by
    show min (loX s o m) (plX s m o) ≤ _
    rcases Nat.lt_or_ge k m with h1 | h1
    · have := loX_le s o k m h1; omega
    · obtain rfl : k = m := by omega
      omega
theorem hiX_at (s : ByteArray) (o : Int) : ∀ m, ∃ k, k ≤ m ∧ hiX s o (m + 1) = plX s k o
  | 0 => ⟨0, Nat.le_refl _, by show max (plX s 0 o) (plX s 0 o) = _; simp⟩
  | m + 1 => by
    obtain ⟨k, hk, he⟩ := hiX_at s o m
    by_cases h : hiX s o (m + 1) ≤ plX s (m + 1 : Nat) o
    · exact ⟨m + 1, Nat.le_refl _, by show max (hiX s o (m + 1)) (plX s (m + 1 : Nat) o) = _; omega⟩
    · exact ⟨k, by omega, by show max (hiX s o (m + 1)) (plX s (m + 1 : Nat) o) = _; omega⟩
theorem loX_at (s : ByteArray) (o : Int) : ∀ m, ∃ k, k ≤ m ∧ loX s o (m + 1) = plX s k o
  | 0 => ⟨0, Nat.le_refl _, by show min (plX s 0 o) (plX s 0 o) = _; simp⟩
  | m + 1 => by
    obtain ⟨k, hk, he⟩ := loX_at s o m
    by_cases h : plX s (m + 1 : Nat) o ≤ loX s o (m + 1)
    · exact ⟨m + 1, Nat.le_refl _, by show min (loX s o (m + 1)) (plX s (m + 1 : Nat) o) = _; omega⟩
    · exact ⟨k, by omega, by show min (loX s o (m + 1)) (plX s (m + 1 : Nat) o) = _; omega⟩
theorem reach_ge {s : ByteArray} (hs : strip s.data.toList = true) {k : Nat} (hk : k ≤ s.size) : plX s k 0 ≤ reachV s := by
  rw [reachV_yes hs]; exact hiX_ge s 0 k _ (by omega)
theorem reach_bd {s : ByteArray} (hs : strip s.data.toList = true) : (cD s.data.toList : Int) ≤ reachV s ∧ (cF s.data.toList : Int) ≤ reachV s ∧ reachV s ≤ (cD s.data.toList : Int) + cF s.data.toList := by
  have h0 := reach_ge hs (Nat.zero_le _)
  have h1 := reach_ge hs (Nat.le_refl _)
  obtain ⟨_, _, _, _, _, _, e0⟩ := pl_all hs (Nat.zero_le _)
  obtain ⟨_, _, _, _, _, _, e1⟩ := pl_all hs (Nat.le_refl s.size)
  rw [e0] at h0
  rw [e1, take_all] at h1
  have z0 : cF (s.data.toList.take 0) = 0 := rfl
  have z1 : cD (s.data.toList.take 0) = 0 := rfl
  refine ⟨by omega, by omega, ?_⟩
  obtain ⟨k, hk, he⟩ := hiX_at s 0 s.size
  obtain ⟨_, _, _, _, _, _, e2⟩ := pl_all hs hk
  have := cF_take_le s.data.toList k
  rw [reachV_yes hs, he, e2]; omega
theorem all_f {l : List UInt8} (h : cF l = l.length) : l = List.replicate l.length 102 := List.eq_replicate_iff.2 ⟨rfl, fun b hb => by
  unfold cF at h
  exact (List.count_eq_length.1 h b hb).symm⟩
theorem all_d {l : List UInt8} (h : cD l = l.length) : l = List.replicate l.length 100 := List.eq_replicate_iff.2 ⟨rfl, fun b hb => by
  unfold cD at h
  exact (List.count_eq_length.1 h b hb).symm⟩
theorem reach_high {s : ByteArray} (hs : strip s.data.toList = true) : reachV s = (cD s.data.toList : Int) + cF s.data.toList ↔ s = highS (cD s.data.toList) (cF s.data.toList) := by
  obtain ⟨_, _, z3, _⟩ := strip_size hs
  constructor
  · intro h
    obtain ⟨k, hk, he⟩ := hiX_at s 0 s.size
    obtain ⟨_, _, _, _, _, _, e2⟩ := pl_all hs hk
    rw [reachV_yes hs, he, e2] at h
    have h1 := cF_take_le s.data.toList k
    have ht := strip_take hs k hk
    have hF : cF (s.data.toList.take k) = cF s.data.toList := by omega
    have hk2 : k = cF s.data.toList := by omega
    have ha := cF_append (s.data.toList.take k) (s.data.toList.drop k)
    have hb := cD_append (s.data.toList.take k) (s.data.toList.drop k)
    rw [List.take_append_drop] at ha hb
    have l1 : (s.data.toList.take k).length = k := by rw [List.length_take, size_len]; omega
    have l2 : (s.data.toList.drop k).length = s.size - k := by rw [List.length_drop, size_len]
    have e3 := all_f (l := s.data.toList.take k) (by rw [l1]; omega)
    have e4 := all_d (l := s.data.toList.drop k) (by rw [l2]; omega)
    rw [l1] at e3
    rw [l2] at e4
    apply ByteArray.ext
    apply Array.toList_inj.1
    rw [highS_data, ← hk2, ← e3, show cD s.data.toList = s.size - k from by omega, ← e4, List.take_append_drop]
  · intro h
    have hk : cF s.data.toList ≤ s.size := by omega
    have h1 := reach_ge hs hk
    obtain ⟨_, _, _, _, _, _, e2⟩ := pl_all hs hk
    have ht := strip_take hs _ hk
    have e3 : s.data.toList.take (cF s.data.toList) = List.replicate (cF s.data.toList) 102 := by
      have : s.data.toList = List.replicate (cF s.data.toList) 102 ++ List.replicate (cD s.data.toList) 100 := by
        rw [← highS_data, ← h]
      generalize cF s.data.toList = p at *
      rw [this]; simp
    have e4 : cF (s.data.toList.take (cF s.data.toList)) = cF s.data.toList := by
      generalize hp : cF s.data.toList = p at *
      rw [e3]; simp [cF]
    have := reach_bd hs
    omega
theorem spread_all {s : ByteArray} (hs : strip s.data.toList = true) : spreadV s = s.size := by
  rw [spreadV_yes hs]
  obtain ⟨k, hk, he⟩ := hiX_at s 2 s.size
  obtain ⟨j, hj, hf⟩ := loX_at s 2 s.size
  have g1 := hiX_ge s 2 s.size (s.size + 1) (by omega)
  have g2 := loX_le s 2 0 (s.size + 1) (by omega)
  obtain ⟨_, _, _, _, _, e1, _⟩ := pl_all hs hk
  obtain ⟨_, _, _, _, _, e2, _⟩ := pl_all hs hj
  obtain ⟨_, _, _, _, _, e3, _⟩ := pl_all hs (Nat.le_refl s.size)
  obtain ⟨_, _, _, _, _, e4, _⟩ := pl_all hs (Nat.zero_le s.size)
  rw [e3] at g1
  have e5 : plX s 0 2 = plX s ((0 : Nat) : Int) 2 := rfl
  rw [e4] at g2
  omega
theorem stays_all {s : ByteArray} (hs : strip s.data.toList = true) : staysV s ((cD s.data.toList : Int) + cF s.data.toList) = true ∧ staysV s (reachV s - 1) = false := by
  have z := strip_size hs
  have b := reach_bd hs
  constructor
  · rw [staysV_in hs (by omega) (by omega)]; exact decide_eq_true b.2.2
  · by_cases h : reachV s - 1 < 1 ∨ 40 < reachV s - 1
    · exact staysV_out h
    · rw [staysV_in hs (by omega) (by omega)]; exact decide_eq_false (by omega)
end Go.Proofs.Ytplcfgpmpacjeaa
