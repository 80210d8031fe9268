/- Contract of spec.SplitFields. -/
import Derived.Test.YtmfboleiakbpnaaDoorSplit
namespace Go.Proofs.YtmfboleiakbpnaaDoor
open Go.RowKit
open Go.Lib (isSp fields fieldsGo)
set_option linter.unusedVariables false
set_option linter.unusedSimpArgs false
set_option maxRecDepth 20000

theorem toCome_in {s : ByteArray} {b i : Nat} (h : i ≤ s.size) : toCome s b i = fieldsGo (curF s b i) (s.data.toList.drop i) := if_pos h
theorem toCome_past {s : ByteArray} {b i : Nat} (h : s.size < i) : toCome s b i = [] := if_neg (by omega)
theorem snocS {B n : Nat} {v : Value} {xs : List ByteArray} {x : ByteArray} {w : World} (hn : n = xs.length) (h : w.ownsRow B 9 1 v (n + 1) (strCells xs ++ [.string x])) : OwnS B v (xs ++ [x]) w := by
  subst hn; unfold OwnS strCells; rw [List.map_append, List.length_append]; exact h
set_option maxHeartbeats 400000 in
theorem specSplit_long (s : ByteArray) (hs : s.size ≤ 1048576) (w : World) (hl : 600 < s.size) :
    Calls Tryd.prog 11 #[.string s] w fun e w' => (∃ v, e = .returned (.tuple #[v, .bool (okF s)]) ∧ OwnS w.heap.size v (spV s) w') ∧ Below w.heap.size w w' := by
  have ho : okF s = false := okF_long hl
  have R := Lib.hid ho
  have R2 := Lib.hid (spV_no ho)
  clear ho
  go_enter Tryd.func11, Tryd.ntmps11
  go_wp2
  go_ret2
  exact ⟨⟨_, ret_vb rfl R.out, by rw [R2.out]; exact World.ownsRow_made _ #[] 0 (Nat.le_refl _) (Nat.zero_le _) rfl⟩, (Below.refl _ _).alloc (Nat.le_refl _) _⟩

set_option maxHeartbeats 1600000 in
theorem specSplit_short (s : ByteArray) (hs : s.size ≤ 1048576) (w : World) (hl : s.size ≤ 600) :
    Calls Tryd.prog 11 #[.string s] w fun e w' => (∃ v, e = .returned (.tuple #[v, .bool (okF s)]) ∧ OwnS w.heap.size v (spV s) w') ∧ Below w.heap.size w w' := by
  obtain ⟨i0, hi, hz0, hz1, hz2⟩ := info_parts Tryd.info9s
  have HS0 := Lib.hid (toCome_start s)
  go_enter Tryd.func11, Tryd.ntmps11
  go_wp2
  go_loopw [4, 5, 6] (fun u b i wr => ∃ (k b0 : Nat) (outs : List (List UInt8)), k ≤ s.size + 1 ∧ i = .int .i64 k ∧ b = .int .i64 b0 ∧ b0 ≤ k ∧ Hid (fields s.data.toList = outs ++ toCome s b0 k) ∧ outs.length ≤ k ∧ Hid (∀ j, (hj : j < s.size) → j < k → 32 ≤ s[j].toNat ∧ s[j].toNat ≤ 126) ∧ OwnS w.heap.size u (outs.map mkB) wr ∧ Below w.heap.size w wr) (fun _ _ i _ => s.size + 1 - (intOf i).toNat)
  case atStart => exact ⟨0, 0, [], Nat.zero_le _, rfl, rfl, Nat.le_refl _, Lib.hid (by rw [HS0.out]; rfl), Nat.zero_le _, Lib.hid (fun j _ h => absurd h (Nat.not_lt_zero _)), World.ownsRow_made w #[] 0 (Nat.le_refl _) (Nat.zero_le _) rfl, (Below.refl _ _).alloc (Nat.le_refl _) _⟩
  case round =>
    obtain ⟨k, b, outs, hk, rfl, rfl, hbk, HF, hol, HD, hown, hb⟩ := hrel
    have hsz : w.heap.size ≤ wr.heap.size := hb.size
    by_cases hlt : k < s.size
    · have e1 : (k : Int) < (s.size : Int) := by omega
      have e1' : (k : Int) ≤ (s.size : Int) := by omega
      by_cases h1 : s[k].toNat < 32
      · have c1 : (s[k].toNat : Int) < 32 := by omega
        have ho : okF s = false := okF_bad (prn_bad hlt (by omega))
        have R := Lib.hid ho
        have R2 := Lib.hid (spV_no ho)
        clear ho
        clear h1
        go_wp2
        go_ret2
        exact ⟨⟨_, ret_vb rfl R.out, by rw [R2.out]; exact World.ownsRow_made _ #[] 0 hsz (Nat.zero_le _) rfl⟩, hb.alloc hsz _⟩
      · have c1 : (32 : Int) ≤ (s[k].toNat : Int) := by omega
        have c1' : decide ((s[k].toNat : Int) < 32) = false := decide_eq_false (by omega)
        by_cases h2 : 126 < s[k].toNat
        · have c2 : (126 : Int) < (s[k].toNat : Int) := by omega
          have ho : okF s = false := okF_bad (prn_bad hlt (by omega))
          have R := Lib.hid ho
          have R2 := Lib.hid (spV_no ho)
          clear ho
          clear h1 h2
          go_wp2
          go_ret2
          exact ⟨⟨_, ret_vb rfl R.out, by rw [R2.out]; exact World.ownsRow_made _ #[] 0 hsz (Nat.zero_le _) rfl⟩, hb.alloc hsz _⟩
        · have c2 : (s[k].toNat : Int) ≤ 126 := by omega
          have HD2 : Hid (∀ j, (hj : j < s.size) → j < k + 1 → 32 ≤ s[j].toNat ∧ s[j].toNat ≤ 126) := Lib.hid (fun j hj h => by
            rcases Nat.lt_or_ge j k with h' | h'
            · exact HD.out j hj h'
            · obtain rfl : j = k := by omega
              omega)
          by_cases h3 : s[k].toNat = 32
          · have c3 : ((s[k].toNat : Int) != 32) = false := by rw [bne_eq_false_iff_eq]; omega
            have q := fg_space (b := b) hlt (by omega) (by omega) h3
            rw [← toCome_in (by omega), ← toCome_in (by omega)] at q
            by_cases h4 : b < k
            · have c4 : (b : Int) < (k : Int) := by omega
              rw [if_pos h4] at q
              have HF2 : Hid (fields s.data.toList = (outs ++ [curF s b k]) ++ toCome s (k + 1) (k + 1)) := Lib.hid (by rw [HF.out, q]; simp)
              clear h1 h2 h3 q
              have HX := Lib.hid (curF_ext s b k)
              have hn1 : (outs.map mkB).length + 1 ≤ maxLen := by rw [List.length_map]; unfold maxLen; omega
              have hn2 : ((outs.map mkB).length + 1) * 16 ≤ 140737488355328 := by rw [List.length_map]; omega
              have hown' : wr.ownsRow w.heap.size 9 1 u4 (outs.map mkB).length (strCells (outs.map mkB)) := hown
              go_wp2_with (at_builtin; refine wpList_app1 rfl _ _ 24 rfl w.heap.size 9 i0 (.string ByteArray.empty) 16 Tryd.underlying24 hi hz0 hz1 hz2 rfl _ _ _ rfl hown' _ rfl rfl hn1 hn2 hsz ?_; intro g cap w1 hown1 hg1)
              have hown2 := snocS rfl hown1
              have hb1 := below_of_grown hb hsz hown' hg1
              rw [HX.out, show outs.map mkB ++ [mkB (curF s b k)] = (outs ++ [curF s b k]).map mkB from by simp] at hown2
              simp only [List.length_map] at hown2
              clear hown1 hg1 hown'
              go_wp2
              go_roundw
              case rel => exact ⟨k + 1, k + 1, _, by omega, by go_num, by go_num, Nat.le_refl _, HF2, by rw [List.length_append]; simp; omega, HD2, hown2, hb1⟩
              case measure => simp [intOf]; omega
            · have c4 : decide ((b : Int) < (k : Int)) = false := decide_eq_false (by omega)
              rw [if_neg h4] at q
              have HF2 : Hid (fields s.data.toList = outs ++ toCome s (k + 1) (k + 1)) := Lib.hid (by rw [HF.out, q])
              clear h1 h2 h3 q
              go_wp2
              go_roundw
              case rel => exact ⟨k + 1, k + 1, outs, by omega, by go_num, by go_num, Nat.le_refl _, HF2, by omega, HD2, hown, hb⟩
              case measure => simp [intOf]; omega
          · have c3 : ((s[k].toNat : Int) != 32) = true := by rw [bne_iff_ne]; omega
            have q := fg_char hlt hbk (by omega) (by omega) h3
            rw [← toCome_in (by omega), ← toCome_in (by omega)] at q
            have HF2 : Hid (fields s.data.toList = outs ++ toCome s b (k + 1)) := Lib.hid (by rw [HF.out, q])
            clear h1 h2 h3 q
            go_wp2
            go_roundw
            case rel => exact ⟨k + 1, b, outs, by omega, by go_num, rfl, by omega, HF2, by omega, HD2, hown, hb⟩
            case measure => simp [intOf]; omega
    · by_cases hend : k = s.size
      · subst hend
        have e1 : decide ((s.size : Int) < (s.size : Int)) = false := decide_eq_false (by omega)
        have q := fg_end (s := s) (b := b)
        rw [← toCome_in (Nat.le_refl _)] at q
        have HP : Hid (toCome s (s.size + 1) (s.size + 1) = []) := Lib.hid (toCome_past (by omega))
        have HD2 : Hid (∀ j, (hj : j < s.size) → j < s.size + 1 → 32 ≤ s[j].toNat ∧ s[j].toNat ≤ 126) := Lib.hid (fun j hj _ => HD.out j hj hj)
        by_cases h4 : b < s.size
        · have c4 : (b : Int) < (s.size : Int) := by omega
          rw [if_pos h4] at q
          have HF2 : Hid (fields s.data.toList = (outs ++ [curF s b s.size]) ++ toCome s (s.size + 1) (s.size + 1)) := Lib.hid (by rw [HF.out, q, HP.out]; simp)
          clear q
          have HX := Lib.hid (curF_ext s b s.size)
          have hn1 : (outs.map mkB).length + 1 ≤ maxLen := by rw [List.length_map]; unfold maxLen; omega
          have hn2 : ((outs.map mkB).length + 1) * 16 ≤ 140737488355328 := by rw [List.length_map]; omega
          have hown' : wr.ownsRow w.heap.size 9 1 u4 (outs.map mkB).length (strCells (outs.map mkB)) := hown
          go_wp2_with (at_builtin; refine wpList_app1 rfl _ _ 24 rfl w.heap.size 9 i0 (.string ByteArray.empty) 16 Tryd.underlying24 hi hz0 hz1 hz2 rfl _ _ _ rfl hown' _ rfl rfl hn1 hn2 hsz ?_; intro g cap w1 hown1 hg1)
          have hown2 := snocS rfl hown1
          have hb1 := below_of_grown hb hsz hown' hg1
          rw [HX.out, show outs.map mkB ++ [mkB (curF s b s.size)] = (outs ++ [curF s b s.size]).map mkB from by simp] at hown2
          simp only [List.length_map] at hown2
          clear hown1 hg1 hown'
          go_wp2
          go_roundw
          case rel => exact ⟨s.size + 1, s.size + 1, _, by omega, by go_num, by go_num, Nat.le_refl _, HF2, by rw [List.length_append]; simp; omega, HD2, hown2, hb1⟩
          case measure => simp [intOf]
        · have c4 : decide ((b : Int) < (s.size : Int)) = false := decide_eq_false (by omega)
          rw [if_neg h4] at q
          have HF2 : Hid (fields s.data.toList = outs ++ toCome s (s.size + 1) (s.size + 1)) := Lib.hid (by rw [HF.out, q, HP.out])
          clear q
          go_wp2
          go_roundw
          case rel => exact ⟨s.size + 1, s.size + 1, outs, by omega, by go_num, by go_num, Nat.le_refl _, HF2, by omega, HD2, hown, hb⟩
          case measure => simp [intOf]
      · obtain rfl : k = s.size + 1 := by omega
        have hf : fields s.data.toList = outs := by rw [HF.out, toCome_past (by omega), List.append_nil]
        have hp : prn s = true := prn_all (fun j hj => HD.out j hj (by omega))
        have e1 : decide (((s.size : Int) + 1) ≤ (s.size : Int)) = false := decide_eq_false (by omega)
        obtain ⟨ua, uc, hu, _⟩ := OwnS.read hown
        subst hu
        rw [List.length_map] at hown ⊢
        by_cases h24 : 24 < outs.length
        · have c3 : (24 : Int) < (outs.length : Int) := by omega
          have ho : okF s = false := okF_many (by rw [hf]; exact h24)
          have R := Lib.hid ho
          have R2 := Lib.hid (spV_no ho)
          clear ho
          clear hf hp hlt hend h24
          go_wp2
          go_ret2
          exact ⟨⟨_, ret_vb rfl R.out, by rw [R2.out]; exact World.ownsRow_made _ #[] 0 hsz (Nat.zero_le _) rfl⟩, hb.alloc hsz _⟩
        · have c3 : decide ((24 : Int) < (outs.length : Int)) = false := decide_eq_false (by omega)
          have ho : okF s = true := okF_yes hl hp (by rw [hf]; omega)
          have R := Lib.hid ho
          have R2 := Lib.hid (spV_yes ho)
          have HF9 := Lib.hid hf
          clear ho hf hp hlt hend h24
          go_wp2
          go_ret2
          exact ⟨⟨_, ret_vb rfl R.out, by rw [R2.out, HF9.out]; exact hown⟩, hb⟩

theorem specSplit_any (s : ByteArray) (hs : s.size ≤ 1048576) (w : World) : Calls Tryd.prog 11 #[.string s] w fun e w' => (∃ v, e = .returned (.tuple #[v, .bool (okF s)]) ∧ OwnS w.heap.size v (spV s) w') ∧ Below w.heap.size w w' := by
  rcases Nat.lt_or_ge 600 s.size with h | h
  · exact specSplit_long s hs w h
  · exact specSplit_short s hs w h
end Go.Proofs.YtmfboleiakbpnaaDoor
