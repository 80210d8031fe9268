/- Places of a strip as plain numbers. No program stands in it. -/
import Derived.Test.YtplcfgpmpacjeaaCorner
namespace Go.Proofs.Ytplcfgpmpacjeaa
open Go.RowKit
set_option linter.unusedVariables false
set_option linter.unusedSimpArgs false

def plB (s : ByteArray) (k o : Int) : Bool := strip s.data.toList && decide (0 ≤ k ∧ k ≤ (s.size : Int)) && decide (0 ≤ o ∧ o ≤ 2)
def plF (s : ByteArray) (k : Int) : Int := cF (s.data.toList.take k.toNat)
def plU (s : ByteArray) (k : Int) : Int := (cD s.data.toList : Int) - cD (s.data.toList.take k.toNat)
def plX (s : ByteArray) (k o : Int) : Int := if plB s k o then (if o = 0 then plF s k + plU s k else if o = 1 then plF s k else plF s k - plU s k) else 0
def plY (s : ByteArray) (k o : Int) : Int := if plB s k o then (if o = 1 then plU s k else 0) else 0
theorem plB_iff (s : ByteArray) (k o : Int) : plB s k o = true ↔ (strip s.data.toList = true ∧ (0 ≤ k ∧ k ≤ (s.size : Int)) ∧ 0 ≤ o ∧ o ≤ 2) := by unfold plB; simp [and_assoc]
theorem plB_mk {s : ByteArray} {k o : Int} (hs : strip s.data.toList = true) (h1 : 0 ≤ k) (h2 : k ≤ (s.size : Int)) (h3 : 0 ≤ o) (h4 : o ≤ 2) : plB s k o = true := (plB_iff s k o).2 ⟨hs, ⟨h1, h2⟩, h3, h4⟩
theorem plB_no {s : ByteArray} {k o : Int} (h : ¬ (strip s.data.toList = true ∧ (0 ≤ k ∧ k ≤ (s.size : Int)) ∧ 0 ≤ o ∧ o ≤ 2)) : plB s k o = false := by
  cases hb : plB s k o with
  | false => rfl
  | true => exact absurd ((plB_iff s k o).1 hb) h
theorem plX_no {s : ByteArray} {k o : Int} (h : plB s k o = false) : plX s k o = 0 := by unfold plX; rw [h]; rfl
theorem plY_no {s : ByteArray} {k o : Int} (h : plB s k o = false) : plY s k o = 0 := by unfold plY; rw [h]; rfl
theorem plX_yes {s : ByteArray} {k o : Int} (h : plB s k o = true) : plX s k o = if o = 0 then plF s k + plU s k else if o = 1 then plF s k else plF s k - plU s k := by unfold plX; rw [if_pos h]
theorem plY_yes {s : ByteArray} {k o : Int} (h : plB s k o = true) : plY s k o = if o = 1 then plU s k else 0 := by unfold plY; rw [if_pos h]
theorem pl_bd {s : ByteArray} (hs : strip s.data.toList = true) (k : Int) : 0 ≤ plF s k ∧ plF s k ≤ 8 ∧ 0 ≤ plU s k ∧ plU s k ≤ 8 := by
  have h1 := cF_take_le s.data.toList k.toNat
  have h2 := cD_take_le s.data.toList k.toNat
  have h3 := strip_size hs
  unfold plF plU; omega
theorem plX_bd (s : ByteArray) (k o : Int) : -16 ≤ plX s k o ∧ plX s k o ≤ 16 := by
  cases hb : plB s k o with
  | false => rw [plX_no hb]; omega
  | true =>
    have := pl_bd ((plB_iff s k o).1 hb).1 k
    rw [plX_yes hb]; split
    · omega
    · split <;> omega
theorem plY_bd (s : ByteArray) (k o : Int) : -16 ≤ plY s k o ∧ plY s k o ≤ 16 := by
  cases hb : plB s k o with
  | false => rw [plY_no hb]; omega
  | true =>
    have := pl_bd ((plB_iff s k o).1 hb).1 k
    rw [plY_yes hb]; split <;> omega
/-- One step moves by one. -/
theorem pl_step {s : ByteArray} (hs : strip s.data.toList = true) (k : Nat) (hk : k < s.size) :
    (plF s ((k : Int) + 1) = plF s k + 1 ∧ plU s ((k : Int) + 1) = plU s k) ∨ (plF s ((k : Int) + 1) = plF s k ∧ plU s ((k : Int) + 1) = plU s k - 1) := by
  have e1 : ((k : Int) + 1).toNat = k + 1 := by omega
  have e2 : (k : Int).toNat = k := by omega
  unfold plF plU
  rw [e1, e2, cF_snoc s k hk, cD_snoc s k hk]
  rcases strip_letter hs k hk with h | h
  · right; rw [if_neg (by omega), if_pos h]; omega
  · left; rw [if_pos h, if_neg (by omega)]; omega
/-- The greatest and the least first number among the first k places. -/
def hiX (s : ByteArray) (o : Int) : Nat → Int
  | 0 => plX s 0 o
  | k + 1 => max (hiX s o k) (plX s k o)
def loX (s : ByteArray) (o : Int) : Nat → Int
  | 0 => plX s 0 o
  | k + 1 => min (loX s o k) (plX s k o)
def hiZ (s : ByteArray) (o : Int) : Nat → Int
  | 0 => 0
  | k + 1 => max (hiZ s o k) (plX s k o)
theorem hiX_bd (s : ByteArray) (o : Int) (k : Nat) : -16 ≤ hiX s o k ∧ hiX s o k ≤ 16 := by
  induction k with
  | zero => exact plX_bd s 0 o
  | succ k ih => have := plX_bd s k o; unfold hiX; omega
theorem loX_bd (s : ByteArray) (o : Int) (k : Nat) : -16 ≤ loX s o k ∧ loX s o k ≤ 16 := by
  induction k with
  | zero => exact plX_bd s 0 o
  | succ k ih => have := plX_bd s k o; unfold loX; omega
theorem hiZ_eq {s : ByteArray} {o : Int} (h : 0 ≤ plX s 0 o) (k : Nat) : hiZ s o (k + 1) = hiX s o (k + 1) := by
  induction k with
  | zero => show max 0 (plX s 0 o) = max (plX s 0 o) (plX s 0 o); omega
  | succ k ih => show max (hiZ s o (k + 1)) _ = max (hiX s o (k + 1)) _; rw [ih]
def reachV (s : ByteArray) : Int := if strip s.data.toList then hiX s 0 (s.size + 1) else 0
def spreadV (s : ByteArray) : Int := if strip s.data.toList then hiX s 2 (s.size + 1) - loX s 2 (s.size + 1) else -1
theorem reachV_no {s : ByteArray} (h : strip s.data.toList = false) : reachV s = 0 := by unfold reachV; rw [h]; rfl
theorem reachV_yes {s : ByteArray} (h : strip s.data.toList = true) : reachV s = hiX s 0 (s.size + 1) := by unfold reachV; rw [if_pos h]
theorem spreadV_no {s : ByteArray} (h : strip s.data.toList = false) : spreadV s = -1 := by unfold spreadV; rw [h]; rfl
theorem spreadV_yes {s : ByteArray} (h : strip s.data.toList = true) : spreadV s = hiX s 2 (s.size + 1) - loX s 2 (s.size + 1) := by unfold spreadV; rw [if_pos h]
theorem reachV_zed {s : ByteArray} (h : strip s.data.toList = true) : reachV s = hiZ s 0 (s.size + 1) := by
  rw [reachV_yes h, hiZ_eq]
  have hb : plB s 0 0 = true := plB_mk h (by omega) (by omega) (by omega) (by omega)
  rw [plX_yes hb, if_pos rfl]
  have := pl_bd h 0; omega
def staysV (s : ByteArray) (p : Int) : Bool := strip s.data.toList && decide (1 ≤ p ∧ p ≤ 40) && decide (reachV s ≤ p)
theorem staysV_no {s : ByteArray} {p : Int} (h : strip s.data.toList = false) : staysV s p = false := by unfold staysV; rw [h]; rfl
theorem staysV_out {s : ByteArray} {p : Int} (h : p < 1 ∨ 40 < p) : staysV s p = false := by unfold staysV; rw [decide_eq_false (by omega : ¬ (1 ≤ p ∧ p ≤ 40))]; simp
theorem staysV_in {s : ByteArray} {p : Int} (hs : strip s.data.toList = true) (h1 : 1 ≤ p) (h2 : p ≤ 40) : staysV s p = decide (reachV s ≤ p) := by unfold staysV; rw [hs, decide_eq_true (⟨h1, h2⟩ : 1 ≤ p ∧ p ≤ 40)]; rfl
def stepV (s : ByteArray) (k o : Int) : Int := if strip s.data.toList = true ∧ (1 ≤ k ∧ k ≤ (s.size : Int)) ∧ 0 ≤ o ∧ o ≤ 2 then 1 else 0
end Go.Proofs.Ytplcfgpmpacjeaa
