/- The order of strips as plain numbers. No program stands in it. -/
import Derived.Test.YtmpbhhggbmjfcaaCorner
namespace Go.Proofs.Ytmpbhhggbmjfcaa
open Go.RowKit
set_option linter.unusedVariables false
set_option linter.unusedSimpArgs false

/-- How many steps forward more s has than t among the first k. -/
def dif (s t : ByteArray) (k : Nat) : Int := (cF (s.data.toList.take k) : Int) - cF (t.data.toList.take k)
theorem dif_zero (s t : ByteArray) : dif s t 0 = 0 := rfl
theorem dif_bd (s t : ByteArray) (k : Nat) : -(k : Int) ≤ dif s t k ∧ dif s t k ≤ k := by
  have h1 := (cnt_take_le s.data.toList k).2; have h2 := (cnt_take_le t.data.toList k).2
  unfold dif; omega
theorem dif_succ {s t : ByteArray} {k : Nat} (h1 : k < s.size) (h2 : k < t.size) : dif s t (k + 1) = dif s t k + (if s[k].toNat = 102 then 1 else 0) - (if t[k].toNat = 102 then 1 else 0) := by
  unfold dif; rw [cF_snoc s k h1, cF_snoc t k h2]; split <;> split <;> omega
theorem dif_end {s t : ByteArray} (hs : s.size = t.size) (h : cF s.data.toList = cF t.data.toList) : dif s t s.size = 0 := by
  unfold dif; rw [take_all]; rw [hs, take_all]; omega
def aboveV (s t : ByteArray) : Bool := sameF s.data.toList t.data.toList && (List.range (s.size + 1)).all fun j => decide (0 ≤ dif s t j)
theorem aboveV_no {s t : ByteArray} (h : sameF s.data.toList t.data.toList = false) : aboveV s t = false := by unfold aboveV; rw [h]; rfl
theorem aboveV_bad {s t : ByteArray} {k : Nat} (hk : k ≤ s.size) (h : dif s t k < 0) : aboveV s t = false := by
  unfold aboveV
  rw [Bool.and_eq_false_iff]; right
  rw [List.all_eq_false]
  exact ⟨k, List.mem_range.2 (by omega), by simp; exact h⟩
theorem aboveV_yes {s t : ByteArray} (h : sameF s.data.toList t.data.toList = true) (ha : ∀ j, j ≤ s.size → 0 ≤ dif s t j) : aboveV s t = true := by
  unfold aboveV
  rw [h, Bool.true_and, List.all_eq_true]
  intro j hj
  exact decide_eq_true (ha j (by have := List.mem_range.1 hj; omega))
theorem sameF_size {s t : ByteArray} (h : sameF s.data.toList t.data.toList = true) : s.size = t.size ∧ 2 ≤ s.size ∧ s.size ≤ 16 ∧ cF s.data.toList = cF t.data.toList ∧ cD s.data.toList = cD t.data.toList := by
  obtain ⟨h1, h2, h3, h4⟩ := (sameF_iff _ _).1 h
  have := strip_size h1; have := strip_size h2; omega
/-- The greater (up) or the lesser of the two counts. -/
def mxN (s t : ByteArray) (up : Bool) (k : Nat) : Nat := if up then max (cF (s.data.toList.take k)) (cF (t.data.toList.take k)) else min (cF (s.data.toList.take k)) (cF (t.data.toList.take k))
theorem mxN_le (s t : ByteArray) (up : Bool) (k : Nat) : mxN s t up k ≤ k := by
  have h1 := (cnt_take_le s.data.toList k).2; have h2 := (cnt_take_le t.data.toList k).2
  unfold mxN; split <;> omega
/-- The strip whose first k steps have so many steps forward. -/
def mixS (s t : ByteArray) (up : Bool) : Nat → ByteArray
  | 0 => ⟨#[]⟩
  | k + 1 => mixS s t up k ++ ⟨#[if mxN s t up k < mxN s t up (k + 1) then 102 else 100]⟩
theorem mixS_size (s t : ByteArray) (up : Bool) (k : Nat) : (mixS s t up k).size = k := by
  induction k with
  | zero => rfl
  | succ k ih => unfold mixS; rw [ByteArray.size_append, ih]; rfl
theorem mixS_f {s t : ByteArray} {up : Bool} {k : Nat} (h : mxN s t up k < mxN s t up (k + 1)) : mixS s t up (k + 1) = mixS s t up k ++ ⟨#[102]⟩ := by show mixS s t up k ++ _ = _; rw [if_pos h]
theorem mixS_d {s t : ByteArray} {up : Bool} {k : Nat} (h : ¬ mxN s t up k < mxN s t up (k + 1)) : mixS s t up (k + 1) = mixS s t up k ++ ⟨#[100]⟩ := by show mixS s t up k ++ _ = _; rw [if_neg h]
def mixV (s t : ByteArray) (up : Bool) : ByteArray := if sameF s.data.toList t.data.toList then mixS s t up s.size else ⟨#[]⟩
theorem mixV_no {s t : ByteArray} {up : Bool} (h : sameF s.data.toList t.data.toList = false) : mixV s t up = ⟨#[]⟩ := by unfold mixV; rw [h]; rfl
theorem mixV_yes {s t : ByteArray} {up : Bool} (h : sameF s.data.toList t.data.toList = true) : mixV s t up = mixS s t up s.size := by unfold mixV; rw [if_pos h]
end Go.Proofs.Ytmpbhhggbmjfcaa
