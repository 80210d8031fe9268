/- Strips as plain lists of bytes: counts of the two letters, frames, places of steps. No program stands in it. -/
import Derived.Test.YtmpbhhggbmjfcaaOwn
import Derived.Lib.Hide
namespace Go.Proofs.Ytmpbhhggbmjfcaa

def cD (l : List UInt8) : Nat := l.count 100
def cF (l : List UInt8) : Nat := l.count 102
def strip (l : List UInt8) : Bool := decide (cD l + cF l = l.length ∧ 1 ≤ cD l ∧ cD l ≤ 8 ∧ 1 ≤ cF l ∧ cF l ≤ 8)
theorem strip_iff (l : List UInt8) : strip l = true ↔ (cD l + cF l = l.length ∧ 1 ≤ cD l ∧ cD l ≤ 8 ∧ 1 ≤ cF l ∧ cF l ≤ 8) := by unfold strip; simp
theorem strip_mk {l : List UInt8} (h0 : cD l + cF l = l.length) (h1 : 1 ≤ cD l) (h2 : cD l ≤ 8) (h3 : 1 ≤ cF l) (h4 : cF l ≤ 8) : strip l = true := (strip_iff l).2 ⟨h0, h1, h2, h3, h4⟩
theorem strip_no {l : List UInt8} (h : ¬(cD l + cF l = l.length ∧ 1 ≤ cD l ∧ cD l ≤ 8 ∧ 1 ≤ cF l ∧ cF l ≤ 8)) : strip l = false := by
  cases hs : strip l with
  | false => rfl
  | true => exact absurd ((strip_iff l).1 hs) h
theorem cD_append (l m : List UInt8) : cD (l ++ m) = cD l + cD m := by simp [cD, List.count_append]
theorem cF_append (l m : List UInt8) : cF (l ++ m) = cF l + cF m := by simp [cF, List.count_append]
theorem cD_one (b : UInt8) : cD [b] = if b.toNat = 100 then 1 else 0 := by
  unfold cD
  by_cases h : b = 100
  · subst h; rfl
  · have : ¬ b.toNat = 100 := fun e => h (UInt8.toNat_inj.1 e)
    simp [h, this]
theorem cF_one (b : UInt8) : cF [b] = if b.toNat = 102 then 1 else 0 := by
  unfold cF
  by_cases h : b = 102
  · subst h; rfl
  · have : ¬ b.toNat = 102 := fun e => h (UInt8.toNat_inj.1 e)
    simp [h, this]
theorem cnt_one (b : UInt8) : cD [b] + cF [b] = if b.toNat = 100 ∨ b.toNat = 102 then 1 else 0 := by
  rw [cD_one, cF_one]; split <;> split <;> split <;> omega
theorem cnt_le (l : List UInt8) : cD l + cF l ≤ l.length := by
  induction l with
  | nil => simp [cD, cF]
  | cons b l ih =>
    have h1 := cD_append [b] l; have h2 := cF_append [b] l; have h3 := cnt_one b
    simp only [List.singleton_append] at h1 h2
    rw [List.length_cons]
    split at h3 <;> omega
theorem cnt_all {l : List UInt8} (h : cD l + cF l = l.length) : ∀ b ∈ l, b.toNat = 100 ∨ b.toNat = 102 := by
  induction l with
  | nil => intro b hb; cases hb
  | cons b l ih =>
    have h1 := cD_append [b] l; have h2 := cF_append [b] l; have h3 := cnt_one b; have h4 := cnt_le l
    simp only [List.singleton_append] at h1 h2
    rw [List.length_cons] at h
    have hb : b.toNat = 100 ∨ b.toNat = 102 := by
      by_cases hh : b.toNat = 100 ∨ b.toNat = 102
      · exact hh
      · rw [if_neg hh] at h3; omega
    rw [if_pos hb] at h3
    intro c hc
    rcases List.mem_cons.1 hc with rfl | hc
    · exact hb
    · exact ih (by omega) c hc
def cB (c : UInt8) (l : List UInt8) : Nat := l.count c
theorem cB_le (c : UInt8) (l : List UInt8) : cB c l ≤ l.length := List.count_le_length
theorem cB_hit (s : ByteArray) (k : Nat) (h : k < s.size) : cB s[k] (s.data.toList.take (k + 1)) = cB s[k] (s.data.toList.take k) + 1 := by
  unfold cB; rw [take_snoc s k h, List.count_append]; simp
theorem cB_miss (s : ByteArray) (k : Nat) (h : k < s.size) (c : UInt8) (hc : ¬ s[k] = c) : cB c (s.data.toList.take (k + 1)) = cB c (s.data.toList.take k) := by
  unfold cB; rw [take_snoc s k h, List.count_append]; simp [hc]
theorem cB_D (l : List UInt8) : cB 100 l = cD l := rfl
theorem cB_F (l : List UInt8) : cB 102 l = cF l := rfl
theorem extract_take (s : ByteArray) (k : Nat) : (s.extract 0 k).data.toList = s.data.toList.take k := by
  rw [ByteArray.data_extract]; simp
theorem cD_snoc (s : ByteArray) (k : Nat) (h : k < s.size) : cD (s.data.toList.take (k + 1)) = cD (s.data.toList.take k) + if s[k].toNat = 100 then 1 else 0 := by
  rw [take_snoc s k h, cD_append, cD_one]
theorem cF_snoc (s : ByteArray) (k : Nat) (h : k < s.size) : cF (s.data.toList.take (k + 1)) = cF (s.data.toList.take k) + if s[k].toNat = 102 then 1 else 0 := by
  rw [take_snoc s k h, cF_append, cF_one]
theorem size_len (s : ByteArray) : s.data.toList.length = s.size := by simp
theorem get_mem (s : ByteArray) (k : Nat) (h : k < s.size) : s[k] ∈ s.data.toList := by
  have h' : k < s.data.toList.length := by simpa using h
  have : s[k] = s.data.toList[k] := rfl
  rw [this]; exact List.getElem_mem h'
theorem strip_bad (s : ByteArray) (k : Nat) (h : k < s.size) (h1 : ¬ s[k].toNat = 100) (h2 : ¬ s[k].toNat = 102) : strip s.data.toList = false :=
  strip_no fun hs => by have := cnt_all hs.1 _ (get_mem s k h); omega
theorem strip_size {s : ByteArray} (h : strip s.data.toList = true) : 2 ≤ s.size ∧ s.size ≤ 16 ∧ cD s.data.toList + cF s.data.toList = s.size ∧ 1 ≤ cD s.data.toList ∧ cD s.data.toList ≤ 8 ∧ 1 ≤ cF s.data.toList ∧ cF s.data.toList ≤ 8 := by
  have := (strip_iff _).1 h; rw [size_len] at this; omega
/-- Every step of a strip is one of the two letters. -/
theorem strip_letter {s : ByteArray} (h : strip s.data.toList = true) (k : Nat) (hk : k < s.size) : s[k].toNat = 100 ∨ s[k].toNat = 102 :=
  cnt_all ((strip_iff _).1 h).1 _ (get_mem s k hk)
/-- Among the first k steps of a strip, those down and those forward are k. -/
theorem strip_take {s : ByteArray} (h : strip s.data.toList = true) : ∀ k, k ≤ s.size → cD (s.data.toList.take k) + cF (s.data.toList.take k) = k := by
  intro k
  induction k with
  | zero => intro _; rfl
  | succ k ih =>
    intro hk
    rw [cD_snoc s k hk, cF_snoc s k hk]
    have := strip_letter h k hk
    have := ih (by omega)
    split <;> split <;> omega
theorem cD_take_le (l : List UInt8) (k : Nat) : cD (l.take k) ≤ cD l := by
  have h := cD_append (l.take k) (l.drop k); rw [List.take_append_drop] at h; omega
theorem cF_take_le (l : List UInt8) (k : Nat) : cF (l.take k) ≤ cF l := by
  have h := cF_append (l.take k) (l.drop k); rw [List.take_append_drop] at h; omega
theorem cF_take_mono (l : List UInt8) (k : Nat) : cF (l.take k) ≤ cF (l.take (k + 1)) := by
  have h := cF_take_le (l.take (k + 1)) k; rw [List.take_take] at h; rwa [Nat.min_eq_left (by omega)] at h
theorem cnt_take_le (l : List UInt8) (k : Nat) : cD (l.take k) ≤ k ∧ cF (l.take k) ≤ k := by
  have h := cnt_le (l.take k); have := List.length_take_le k l; omega

def downV (l : List UInt8) : Int := if strip l then (cD l : Int) else 0
def fwdV (l : List UInt8) : Int := if strip l then (cF l : Int) else 0
theorem downV_yes {l : List UInt8} (h : strip l = true) : downV l = cD l := by simp [downV, h]
theorem downV_no {l : List UInt8} (h : strip l = false) : downV l = 0 := by simp [downV, h]
theorem fwdV_yes {l : List UInt8} (h : strip l = true) : fwdV l = cF l := by simp [fwdV, h]
theorem fwdV_no {l : List UInt8} (h : strip l = false) : fwdV l = 0 := by simp [fwdV, h]
def sameF (l m : List UInt8) : Bool := strip l && strip m && decide (cD l = cD m) && decide (cF l = cF m)
theorem sameF_mk {l m : List UInt8} (h1 : strip l = true) (h2 : strip m = true) (h3 : cD l = cD m) (h4 : cF l = cF m) : sameF l m = true := by simp [sameF, h1, h2, h3, h4]
theorem sameF_iff (l m : List UInt8) : sameF l m = true ↔ (strip l = true ∧ strip m = true ∧ cD l = cD m ∧ cF l = cF m) := by simp [sameF, and_assoc]
theorem sameF_no {l m : List UInt8} (h : ¬ (strip l = true ∧ strip m = true ∧ cD l = cD m ∧ cF l = cF m)) : sameF l m = false := by
  cases hs : sameF l m with
  | false => rfl
  | true => exact absurd ((sameF_iff l m).1 hs) h
end Go.Proofs.Ytmpbhhggbmjfcaa
