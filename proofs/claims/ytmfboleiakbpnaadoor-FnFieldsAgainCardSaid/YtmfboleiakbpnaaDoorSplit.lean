/- Contracts of SplitFields, both sides. -/
import Derived.Test.YtmfboleiakbpnaaDoorStrsD
import Derived.Test.YtmfboleiakbpnaaDoorShelf
import Derived.Lib.AppendIntMem
import Derived.Lib.Hide
namespace Go.Proofs.YtmfboleiakbpnaaDoor
open Go.RowKit
open Go.Lib (isSp fields fieldsGo)
set_option linter.unusedVariables false
set_option linter.unusedSimpArgs false
set_option maxRecDepth 20000

abbrev TabS (w : World) : Prop := Lib.TabBelow Tryd.prog w.heap.size w "strings.asciiSpace" .u8 Lib.asciiSpaceTab
theorem TabS.below {w w' : World} (h : TabS w) (hb : Below w.heap.size w w') : TabS w' := Lib.tabBelow_of_tabIs (h w' hb)
def mkB (l : List UInt8) : ByteArray := ⟨l.toArray⟩
/-- All bytes can be printed. -/
def prn (s : ByteArray) : Bool := s.data.toList.all fun b => decide (32 ≤ b.toNat ∧ b.toNat ≤ 126)
/-- The fields of a line, where it is one. -/
def okF (s : ByteArray) : Bool := decide (s.size ≤ 600) && (prn s && decide ((fields s.data.toList).length ≤ 24))
def spV (s : ByteArray) : List ByteArray := if okF s then (fields s.data.toList).map mkB else []
theorem okF_long {s : ByteArray} (h : 600 < s.size) : okF s = false := by unfold okF; rw [decide_eq_false (by omega)]; rfl
theorem prn_bad {s : ByteArray} {k : Nat} (hk : k < s.size) (h : ¬ (32 ≤ s[k].toNat ∧ s[k].toNat ≤ 126)) : prn s = false := by
  unfold prn
  rw [List.all_eq_false]
  exact ⟨s[k], by rw [List.mem_iff_getElem]; exact ⟨k, by simpa using hk, rfl⟩, by simpa using h⟩
theorem prn_all {s : ByteArray} (h : ∀ k, (hk : k < s.size) → 32 ≤ s[k].toNat ∧ s[k].toNat ≤ 126) : prn s = true := by
  unfold prn
  rw [List.all_eq_true]
  intro b hb
  obtain ⟨j, hj, rfl⟩ := List.mem_iff_getElem.1 hb
  exact decide_eq_true (h j (by simpa using hj))
theorem okF_bad {s : ByteArray} (h : prn s = false) : okF s = false := by unfold okF; rw [h]; simp
theorem okF_many {s : ByteArray} (h : 24 < (fields s.data.toList).length) : okF s = false := by unfold okF; rw [decide_eq_false (p := (fields s.data.toList).length ≤ 24) (by omega)]; simp
theorem okF_yes {s : ByteArray} (h1 : s.size ≤ 600) (h2 : prn s = true) (h3 : (fields s.data.toList).length ≤ 24) : okF s = true := by unfold okF; rw [decide_eq_true h1, h2, decide_eq_true h3]; rfl
theorem spV_no {s : ByteArray} (h : okF s = false) : spV s = [] := by unfold spV; rw [h]; rfl
theorem spV_yes {s : ByteArray} (h : okF s = true) : spV s = (fields s.data.toList).map mkB := by unfold spV; rw [if_pos h]
theorem spV_le (s : ByteArray) : (spV s).length ≤ 24 := by
  cases h : okF s with
  | false => rw [spV_no h]; simp
  | true =>
    rw [spV_yes h, List.length_map]
    unfold okF at h
    simp only [Bool.and_eq_true, decide_eq_true_eq] at h
    exact h.2.2
theorem sp32 {b : UInt8} (h1 : 32 ≤ b.toNat) (h2 : b.toNat ≤ 126) : isSp b = decide (b.toNat = 32) := by
  have h : ∀ n : Fin 127, 32 ≤ n.val → isSp (UInt8.ofNat n.val) = decide (n.val = 32) := by decide +kernel
  have := h ⟨b.toNat, by omega⟩ h1
  simpa using this
/-- The field that is being read: from b up to i. -/
def curF (s : ByteArray) (b i : Nat) : List UInt8 := (s.data.toList.take i).drop b
theorem curF_nil (s : ByteArray) (i : Nat) : curF s i i = [] := by unfold curF; exact List.drop_of_length_le (by rw [List.length_take]; omega)
theorem curF_snoc {s : ByteArray} {b i : Nat} (hi : i < s.size) (hb : b ≤ i) : curF s b (i + 1) = curF s b i ++ [s[i]] := by
  unfold curF; rw [take_snoc s i hi, List.drop_append_of_le_length (by rw [List.length_take]; simp; omega)]
theorem curF_len {s : ByteArray} {b i : Nat} (hi : i ≤ s.size) : (curF s b i).length = i - b := by
  unfold curF; rw [List.length_drop, List.length_take]; simp; omega
theorem curF_ext (s : ByteArray) (b i : Nat) : s.extract b i = mkB (curF s b i) := by
  unfold mkB curF
  apply ByteArray.ext
  apply Array.ext'
  rw [ByteArray.data_extract, Array.toList_extract]
  show List.extract s.data.toList b i = List.drop b (List.take i s.data.toList)
  rw [List.drop_take]
theorem rest_cons (s : ByteArray) (i : Nat) (hi : i < s.size) : s.data.toList.drop i = s[i] :: s.data.toList.drop (i + 1) := List.drop_eq_getElem_cons (by simpa using hi)
theorem fg_char {s : ByteArray} {b i : Nat} (hi : i < s.size) (hb : b ≤ i) (h1 : 32 ≤ s[i].toNat) (h2 : s[i].toNat ≤ 126) (h : s[i].toNat ≠ 32) :
    fieldsGo (curF s b i) (s.data.toList.drop i) = fieldsGo (curF s b (i + 1)) (s.data.toList.drop (i + 1)) := by
  have hs : isSp s[i] = false := by rw [sp32 h1 h2]; exact decide_eq_false h
  rw [rest_cons s i hi, fieldsGo, hs, curF_snoc hi hb]; rfl
theorem fg_space {s : ByteArray} {b i : Nat} (hi : i < s.size) (h1 : 32 ≤ s[i].toNat) (h2 : s[i].toNat ≤ 126) (h : s[i].toNat = 32) :
    fieldsGo (curF s b i) (s.data.toList.drop i) = if b < i then curF s b i :: fieldsGo (curF s (i + 1) (i + 1)) (s.data.toList.drop (i + 1)) else fieldsGo (curF s (i + 1) (i + 1)) (s.data.toList.drop (i + 1)) := by
  have hs : isSp s[i] = true := by rw [sp32 h1 h2]; exact decide_eq_true h
  rw [rest_cons s i hi, fieldsGo, hs, curF_nil]
  have hl := curF_len (s := s) (b := b) (i := i) (by omega)
  by_cases hb : b < i
  · rw [if_pos hb, if_pos rfl]
    cases hc : curF s b i with
    | nil => rw [hc] at hl; simp at hl; omega
    | cons x r => rfl
  · rw [if_neg hb, if_pos rfl]
    cases hc : curF s b i with
    | nil => rfl
    | cons x r => rw [hc] at hl; simp at hl; omega
theorem fg_end {s : ByteArray} {b : Nat} : fieldsGo (curF s b s.size) (s.data.toList.drop s.size) = if b < s.size then [curF s b s.size] else [] := by
  rw [List.drop_of_length_le (by simp)]
  have hl := curF_len (s := s) (b := b) (i := s.size) (Nat.le_refl _)
  by_cases hb : b < s.size
  · rw [if_pos hb]
    cases hc : curF s b s.size with
    | nil => rw [hc] at hl; simp at hl; omega
    | cons x r => rfl
  · rw [if_neg hb]
    cases hc : curF s b s.size with
    | nil => rfl
    | cons x r => rw [hc] at hl; simp at hl; omega
/-- What is to come at place i. -/
def toCome (s : ByteArray) (b i : Nat) : List (List UInt8) := if i ≤ s.size then fieldsGo (curF s b i) (s.data.toList.drop i) else []
theorem toCome_start (s : ByteArray) : toCome s 0 0 = fields s.data.toList := by unfold toCome; rw [if_pos (Nat.zero_le _), curF_nil]; rfl
theorem ret_vb {a a' : Value} {b b' : Bool} (h1 : a' = a) (h2 : b' = b) : Ending.returned (.tuple #[a, .bool b]) = .returned (.tuple #[a', .bool b']) := by rw [h1, h2]
theorem fields_new {w : World} {l : List (List UInt8)} : (w.alloc (.cells (l.map fun l => Value.string ⟨l.toArray⟩).toArray 9)).ownsRow w.heap.size 9 1 (.slice (some ⟨w.heap.size, 0, none⟩) l.length l.length) l.length (strCells (l.map mkB)) ∨ maxLen < l.length := by
  rcases Nat.lt_or_ge maxLen l.length with h | h
  · exact .inr h
  · refine .inl ⟨by simp [strCells], .inr ⟨w.heap.size, l.length, _, rfl, Nat.le_refl _, heap_alloc_new w _, Nat.le_refl _, h, by simp, ?_⟩⟩
    simp only [Nat.mul_one, strCells, List.map_map]
    rw [List.take_of_length_le (by simp)]; rfl
set_option maxHeartbeats 400000 in
theorem implSplit_long (s : ByteArray) (hs : s.size ≤ 1048576) (w : World) (hl : 600 < s.size) :
    Calls Tryd.prog 12 #[.string s] w fun e w' => (∃ v, e = .returned (.tuple #[v, .bool (okF s)]) ∧ OwnS w.heap.size v (spV s) w') ∧ Below w.heap.size w w' := by
  have ho : okF s = false := okF_long hl
  have R := Lib.hid ho
  have R2 := Lib.hid (spV_no ho)
  clear ho
  go_enter Tryd.func12, Tryd.ntmps12
  go_wp2
  go_ret2
  exact ⟨⟨_, ret_vb rfl R.out, by rw [R2.out]; exact World.ownsRow_nil w w.heap.size _ _⟩, Below.refl _ _⟩

set_option maxHeartbeats 1600000 in
theorem implSplit_short (s : ByteArray) (hs : s.size ≤ 1048576) (w : World) (hl : s.size ≤ 600) (hT : TabS w) :
    Calls Tryd.prog 12 #[.string s] w fun e w' => (∃ v, e = .returned (.tuple #[v, .bool (okF s)]) ∧ OwnS w.heap.size v (spV s) w') ∧ Below w.heap.size w w' := by
  go_enter Tryd.func12, Tryd.ntmps12
  go_wp2
  go_loop [11] (fun i => ∃ k : Nat, k ≤ s.size ∧ i = .int .i64 k ∧ Hid (∀ j, (hj : j < s.size) → j < k → 32 ≤ s[j].toNat ∧ s[j].toNat ≤ 126)) (fun i => s.size - (intOf i).toNat)
  case atStart => exact ⟨0, Nat.zero_le _, rfl, Lib.hid (fun j _ h => absurd h (Nat.not_lt_zero _))⟩
  case round =>
    obtain ⟨k, hk, rfl, HD⟩ := hrel
    by_cases hlt : k < s.size
    · have e1 : (k : Int) < (s.size : Int) := by omega
      by_cases h1 : s[k].toNat < 32
      · have c1 : (s[k].toNat : Int) < 32 := by omega
        have ho : okF s = false := okF_bad (prn_bad hlt (by omega))
        have R := Lib.hid ho
        have R2 := Lib.hid (spV_no ho)
        clear ho
        clear h1
        go_wp2
        go_ret2
        exact ⟨⟨_, ret_vb rfl R.out, by rw [R2.out]; exact World.ownsRow_nil w w.heap.size _ _⟩, Below.refl _ _⟩
      · have c1 : (32 : Int) ≤ (s[k].toNat : Int) := by omega
        by_cases h2 : 126 < s[k].toNat
        · have c2 : (126 : Int) < (s[k].toNat : Int) := by omega
          have ho : okF s = false := okF_bad (prn_bad hlt (by omega))
          have R := Lib.hid ho
          have R2 := Lib.hid (spV_no ho)
          clear ho
          clear h1 h2
          go_wp2
          go_ret2
          exact ⟨⟨_, ret_vb rfl R.out, by rw [R2.out]; exact World.ownsRow_nil w w.heap.size _ _⟩, Below.refl _ _⟩
        · have c2 : (s[k].toNat : Int) ≤ 126 := by omega
          have HD2 : Hid (∀ j, (hj : j < s.size) → j < k + 1 → 32 ≤ s[j].toNat ∧ s[j].toNat ≤ 126) := Lib.hid (fun j hj h => by
            rcases Nat.lt_or_ge j k with h' | h'
            · exact HD.out j hj h'
            · obtain rfl : j = k := by omega
              omega)
          clear h1 h2
          go_wp2
          go_round
          case rel => exact ⟨k + 1, by omega, by go_num, HD2⟩
          case measure => simp [intOf]; omega
    · obtain rfl : k = s.size := by omega
      have hp : prn s = true := prn_all (fun j hj => HD.out j hj hj)
      have HA := Lib.hid hp; clear hp
      have hasc : ∀ (j : Nat) b, s.data.toList[j]? = some b → b.toNat < 128 := fun j b hb => by
        obtain ⟨hj, rfl⟩ := List.getElem?_eq_some_iff.1 hb
        have := HD.out j (by simpa using hj) (by simpa using hj)
        have h3 : s.data.toList[j].toNat ≤ 126 := this.2
        omega
      have HF := Lib.hid (Tryd.strings_Fields s w (by omega) hasc hT.here)
      clear hasc
      have HN := fields_new (w := w) (l := fields s.data.toList)
      go_wp2_with fail
      refine (HF.out).mono ?_
      rintro e w1 ⟨rfl, rfl⟩
      clear HF
      by_cases h24 : 24 < (fields s.data.toList).length
      · have c3 : (24 : Int) < ((fields s.data.toList).length : Int) := by omega
        have ho : okF s = false := okF_many h24
        have R := Lib.hid ho
        have R2 := Lib.hid (spV_no ho)
        clear ho
        clear HN h24
        go_wp2
        go_ret2
        exact ⟨⟨_, ret_vb rfl R.out, by rw [R2.out]; exact World.ownsRow_nil _ w.heap.size _ _⟩, (Below.refl _ _).alloc (Nat.le_refl _) _⟩
      · have c3 : ((fields s.data.toList).length : Int) ≤ 24 := by omega
        have ho : okF s = true := okF_yes hl HA.out (by omega)
        have R := Lib.hid ho
        have R2 := Lib.hid (spV_yes ho)
        have HN2 := HN.resolve_right (by unfold maxLen; omega)
        clear ho HN h24
        go_wp2
        go_ret2
        exact ⟨⟨_, ret_vb rfl R.out, by rw [R2.out]; unfold OwnS; rw [List.length_map]; exact HN2⟩, (Below.refl _ _).alloc (Nat.le_refl _) _⟩

theorem implSplit_any (s : ByteArray) (hs : s.size ≤ 1048576) (w : World) (hT : TabS w) : Calls Tryd.prog 12 #[.string s] w fun e w' => (∃ v, e = .returned (.tuple #[v, .bool (okF s)]) ∧ OwnS w.heap.size v (spV s) w') ∧ Below w.heap.size w w' := by
  rcases Nat.lt_or_ge 600 s.size with h | h
  · exact implSplit_long s hs w h
  · exact implSplit_short s hs w h hT
end Go.Proofs.YtmfboleiakbpnaaDoor
