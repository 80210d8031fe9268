/- Folds of a strip as plain booleans and lists. No program stands in it. -/
import Derived.Test.YtmpbhhggbmjfcaaStrip
namespace Go.Proofs.Ytmpbhhggbmjfcaa
open Go.RowKit
set_option linter.unusedVariables false
set_option linter.unusedSimpArgs false

/-- The k-th byte, 0 beyond the end. -/
def byt (s : ByteArray) (k : Nat) : UInt8 := s.data.toList.getD k 0
theorem byt_get (s : ByteArray) (k : Nat) (h : k < s.size) : byt s k = s[k] := by
  unfold byt
  rw [List.getD_eq_getElem?_getD, List.getElem?_eq_getElem (by simpa using h)]; rfl
/-- There is a fold behind the first k steps. -/
def crn (s : ByteArray) (k : Nat) : Bool := decide (1 ≤ k ∧ k < s.size) && !decide (byt s (k - 1) = byt s k)
/-- .. and the step ahead of it has the letter c. -/
def crl (s : ByteArray) (c : UInt8) (k : Nat) : Bool := crn s k && decide (byt s (k - 1) = c)
theorem crn_out {s : ByteArray} {k : Nat} (h : k < 1 ∨ s.size ≤ k) : crn s k = false := by
  unfold crn; rw [decide_eq_false (by omega)]; rfl
theorem crl_out {s : ByteArray} {c : UInt8} {k : Nat} (h : crn s k = false) : crl s c k = false := by unfold crl; rw [h]; rfl
theorem crn_in {s : ByteArray} {k : Nat} (h1 : 1 ≤ k) (h2 : k < s.size) : crn s k = ((s[k - 1].toNat : Int) != (s[k].toNat : Int)) := by
  unfold crn
  rw [decide_eq_true ⟨h1, h2⟩, byt_get s (k - 1) (by omega), byt_get s k h2, Bool.true_and]
  by_cases h : s[k - 1] = s[k]
  · rw [decide_eq_true h, h]; simp
  · have h' : ¬ s[k - 1].toNat = s[k].toNat := fun e => h (UInt8.toNat_inj.1 e)
    rw [decide_eq_false h]
    symm; rw [Bool.not_false, bne_iff_ne]; omega
theorem crl_in {s : ByteArray} {c : UInt8} {k : Nat} (h1 : 1 ≤ k) (h2 : k < s.size) (h : crn s k = true) : crl s c k = ((s[k - 1].toNat : Int) == (c.toNat : Int)) := by
  unfold crl
  rw [h, byt_get s (k - 1) (by omega), Bool.true_and]
  by_cases e : s[k - 1] = c
  · rw [decide_eq_true e, e]; simp
  · have h' : ¬ s[k - 1].toNat = c.toNat := fun x => e (UInt8.toNat_inj.1 x)
    rw [decide_eq_false e]
    symm; rw [beq_eq_false_iff_ne]; omega
/-- How many of the first k places are such folds. -/
def crlN (s : ByteArray) (c : UInt8) : Nat → Nat
  | 0 => 0
  | k + 1 => crlN s c k + if crl s c k then 1 else 0
theorem crlN_le (s : ByteArray) (c : UInt8) (k : Nat) : crlN s c k ≤ k := by
  induction k with
  | zero => exact Nat.le_refl _
  | succ k ih => unfold crlN; split <;> omega
/-- The folds among the first k places. -/
def crns (s : ByteArray) (k : Nat) : List Nat := (List.range k).filter (crn s)
theorem crns_hit {s : ByteArray} {k : Nat} (h : crn s k = true) : crns s (k + 1) = crns s k ++ [k] := by
  unfold crns; rw [List.range_succ, List.filter_append]; simp [h]
theorem crns_miss {s : ByteArray} {k : Nat} (h : crn s k = false) : crns s (k + 1) = crns s k := by
  unfold crns; rw [List.range_succ, List.filter_append]; simp [h]
theorem crns_le (s : ByteArray) (k : Nat) : (crns s k).length ≤ k := by
  unfold crns; exact Nat.le_trans (List.length_filter_le _ _) (by simp)
theorem crns_one (s : ByteArray) : crns s 1 = [] := by
  have := crns_miss (s := s) (k := 0) (crn_out (.inl (by omega))); rw [this]; rfl
theorem crlN_one (s : ByteArray) (c : UInt8) : crlN s c 1 = 0 := by
  show crlN s c 0 + (if crl s c 0 then 1 else 0) = 0
  rw [crl_out (crn_out (.inl (by omega)))]; rfl
theorem dr_refl (w : World) : ∃ n, w = w.drewN n := ⟨0, rfl⟩
theorem dr_trans {w w1 w2 : World} (h1 : ∃ n, w1 = w.drewN n) (h2 : ∃ n, w2 = w1.drewN n) : ∃ n, w2 = w.drewN n := by
  obtain ⟨n, rfl⟩ := h1; obtain ⟨m, rfl⟩ := h2; exact ⟨n + m, by rw [World.drewN_drewN]⟩
theorem dr_below {w w1 : World} (h : ∃ n, w1 = w.drewN n) (B : Nat) : Below B w w1 := by
  obtain ⟨n, rfl⟩ := h; exact ⟨rfl, rfl, rfl, Nat.le_refl _, fun _ _ => rfl⟩
theorem ret_iib {a a' b b' : Int} {c c' : Bool} (h1 : a' = a) (h2 : b' = b) (h3 : c' = c) : Ending.returned (.tuple #[.int .i64 a, .int .i64 b, .bool c]) = .returned (.tuple #[.int .i64 a', .int .i64 b', .bool c']) := by rw [h1, h2, h3]
end Go.Proofs.Ytmpbhhggbmjfcaa
