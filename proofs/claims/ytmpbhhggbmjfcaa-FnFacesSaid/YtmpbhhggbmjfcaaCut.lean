/- Cuts between strips as plain lists. No program stands in it. -/
import Derived.Test.YtmpbhhggbmjfcaaOrder
import Derived.Test.YtmpbhhggbmjfcaaInts
namespace Go.Proofs.Ytmpbhhggbmjfcaa
open Go.RowKit
set_option linter.unusedVariables false
set_option linter.unusedSimpArgs false

/-- The k-th steps of two strips are not at the same place with the same letter. -/
def cut (s t : ByteArray) (k : Nat) : Bool := !(decide (byt s k = byt t k) && decide (cF (s.data.toList.take k) = cF (t.data.toList.take k)))
theorem cut_byte {s t : ByteArray} {k : Nat} (h : ¬ byt s k = byt t k) : cut s t k = true := by unfold cut; rw [decide_eq_false h]; rfl
theorem cut_cnt {s t : ByteArray} {k : Nat} (h : ¬ cF (s.data.toList.take k) = cF (t.data.toList.take k)) : cut s t k = true := by unfold cut; rw [decide_eq_false h]; simp
theorem cut_not {s t : ByteArray} {k : Nat} (h1 : byt s k = byt t k) (h2 : cF (s.data.toList.take k) = cF (t.data.toList.take k)) : cut s t k = false := by unfold cut; rw [decide_eq_true h1, decide_eq_true h2]; rfl
theorem byt_ne {s t : ByteArray} {k : Nat} (hs : k < s.size) (ht : k < t.size) (h : ¬ s[k].toNat = t[k].toNat) : ¬ byt s k = byt t k := by rw [byt_get s k hs, byt_get t k ht]; exact fun e => h (by rw [e])
theorem byt_eq {s t : ByteArray} {k : Nat} (hs : k < s.size) (ht : k < t.size) (h : s[k].toNat = t[k].toNat) : byt s k = byt t k := by rw [byt_get s k hs, byt_get t k ht]; exact UInt8.toNat_inj.1 h
/-- The cuts among the first k steps. -/
def cutI (s t : ByteArray) : Nat → List Int
  | 0 => []
  | k + 1 => if cut s t k then cutI s t k ++ [(k : Int)] else cutI s t k
theorem cutI_hit {s t : ByteArray} {k : Nat} (h : cut s t k = true) : cutI s t (k + 1) = cutI s t k ++ [(k : Int)] := by show (if _ then _ else _) = _; rw [if_pos h]
theorem cutI_miss {s t : ByteArray} {k : Nat} (h : cut s t k = false) : cutI s t (k + 1) = cutI s t k := by show (if _ then _ else _) = _; rw [h]; rfl
theorem cutI_le (s t : ByteArray) (k : Nat) : (cutI s t k).length ≤ k := by
  induction k with
  | zero => exact Nat.le_refl _
  | succ k ih =>
    unfold cutI; split
    · rw [List.length_append]; exact Nat.succ_le_succ ih
    · omega
def cutV (s t : ByteArray) : List Int := if sameF s.data.toList t.data.toList then cutI s t s.size else []
theorem cutV_no {s t : ByteArray} (h : sameF s.data.toList t.data.toList = false) : cutV s t = [] := by unfold cutV; rw [h]; rfl
theorem cutV_yes {s t : ByteArray} (h : sameF s.data.toList t.data.toList = true) : cutV s t = cutI s t s.size := by unfold cutV; rw [if_pos h]
theorem cutV_le16 (s t : ByteArray) : (cutV s t).length ≤ 16 := by
  cases h : sameF s.data.toList t.data.toList with
  | false => rw [cutV_no h]; exact Nat.zero_le _
  | true => have := cutI_le s t s.size; have := sameF_size h; rw [cutV_yes h]; omega
theorem cutV_le (s t : ByteArray) : (cutV s t).length ≤ 1000000 := by have := cutV_le16 s t; omega
theorem dr_below' {B : Nat} {w w1 w2 : World} (h : Below B w w1) (h2 : ∃ n, w2 = w1.drewN n) : Below B w w2 := h.trans (dr_below h2 B)
end Go.Proofs.Ytmpbhhggbmjfcaa
