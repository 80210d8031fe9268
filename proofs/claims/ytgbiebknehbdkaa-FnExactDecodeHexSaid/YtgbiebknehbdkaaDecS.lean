/- The contract of spec.DecodeHex. -/
import Derived.Test.YtgbiebknehbdkaaDec
namespace Go.Proofs.Ytgbiebknehbdkaa
open Go.RowKit

set_option maxHeartbeats 400000 in
theorem specDecode_bad (s : ByteArray) (hs : s.size % 2 = 1 ∨ 40000 < s.size) (hm : s.size ≤ maxLen) (w : World) :
    Calls Try.prog 13 #[.string s] w fun e w' => e = .returned (.tuple #[.string ⟨#[]⟩, .bool false]) ∧ w = w' := by
  unfold maxLen at hm
  by_cases h4 : 40000 < s.size
  · clear hs
    go_enter Try.func13, Try.ntmps13
    go_wp2
    go_ret2
    exact ⟨rfl, rfl⟩
  · have h3 : (((s.size : Int) % 2) != 0) = true := by rw [bne_iff_ne]; omega
    clear hs
    go_enter Try.func13, Try.ntmps13
    go_wp2
    go_ret2
    exact ⟨rfl, rfl⟩

set_option maxHeartbeats 800000 in
theorem specDecode_ok (s : ByteArray) (hs : s.size % 2 = 0) (hs2 : s.size ≤ 40000) (w : World) :
    Calls Try.prog 13 #[.string s] w fun e w' => e = .returned (.tuple #[.string (decS s.data.toList), .bool (decB s.data.toList)]) ∧ Below w.heap.size w w' := by
  obtain ⟨i0, hi, hz0, hz1, hz2⟩ := info_parts Try.info5d
  have h3 : (((s.size : Int) % 2) != 0) = false := bne_eq_false_iff_eq.2 (by omega)
  go_enter Try.func13, Try.ntmps13
  go_wp2
  go_loopw [4, 5] (fun v i wr => ∃ (k : Nat) (acc : List UInt8), k ≤ s.size ∧ k % 2 = 0 ∧ acc.length ≤ k ∧ i = .int .i64 k ∧ Hid (decGo acc (s.data.toList.drop k) = decGo [] s.data.toList) ∧ wr.ownsRow w.heap.size 5 1 v acc.length (byteCells acc) ∧ Below w.heap.size w wr) (fun _ i _ => s.size - (intOf i).toNat)
  case atStart =>
    exact ⟨0, [], Nat.zero_le _, rfl, Nat.le_refl _, rfl, Lib.hid rfl, World.ownsRow_made w #[] 0 (Nat.le_refl _) (Nat.zero_le _) rfl, (Below.refl _ _).alloc (Nat.le_refl _) _⟩
  case round =>
    obtain ⟨k, acc, hk, hk2, hacc, rfl, HD, hown, hb⟩ := hrel
    by_cases hlt : k < s.size
    · have hlt2 : k + 1 < s.size := by omega
      have b1 := hexv_bd s[k]
      have b2 := hexv_bd s[k + 1]
      have e1 : IntKind.i64.wrap ((k : Int) + 1) = (k : Int) + 1 := IntWalk.i64_in _ (by omega)
      have e2 : ((k : Int) + 1).toNat = k + 1 := by omega
      have e3 : (0 : Int) ≤ (k : Int) + 1 := by omega
      have e4 : (k : Int) + 1 < (s.size : Int) := by omega
      go_wp2_with fail
      refine (value_any _ _).mono ?_
      rintro e w' ⟨rfl, rfl⟩
      go_wp2_with fail
      refine (value_any _ _).mono ?_
      rintro e w' ⟨rfl, rfl⟩
      generalize hvA : hexv s[k] = vA at b1 ⊢
      generalize hvB : hexv s[k + 1] = vB at b2 ⊢
      have HA := Lib.hid hvA; have HB := Lib.hid hvB; clear hvA hvB
      have hb' : Below w.heap.size w wr := hb
      by_cases h1 : vA < 0
      · obtain ⟨r1, r2⟩ := dec_none (dec_bad s k hlt2 acc (.inl (by rw [HA.out]; exact h1)) HD.out)
        have R1 := Lib.hid r1; have R2 := Lib.hid r2; clear r1 r2
        go_wp2
        go_ret2
        exact ⟨ret_sb R1.out R2.out, hb'⟩
      by_cases h2 : vB < 0
      · obtain ⟨r1, r2⟩ := dec_none (dec_bad s k hlt2 acc (.inr (by rw [HB.out]; exact h2)) HD.out)
        have R1 := Lib.hid r1; have R2 := Lib.hid r2; clear r1 r2
        go_wp2
        go_ret2
        exact ⟨ret_sb R1.out R2.out, hb'⟩
      · have g1 : 0 ≤ vA := by omega
        have g2 : 0 ≤ vB := by omega
        have HD2 := Lib.hid (dec_good s k hlt2 acc (by rw [HA.out]; exact g1) (by rw [HB.out]; exact g2) HD.out)
        have g3 : 0 ≤ 16 * vA + vB := by omega
        have g4 : 16 * vA + vB ≤ 255 := by omega
        have hn1 : acc.length + 1 ≤ maxLen := by unfold maxLen; omega
        have hn2 : (acc.length + 1) * 1 ≤ 140737488355328 := by omega
        have hsz : w.heap.size ≤ wr.heap.size := hb.size
        have hown' : wr.ownsRow w.heap.size 5 1 u4 acc.length (byteCells acc) := hown
        go_wp2_with (at_builtin; refine wpList_app1 rfl _ _ 28 rfl w.heap.size 5 i0 (.int .u8 0) 1 Try.underlying28 hi hz0 hz1 hz2 rfl _ _ _ rfl hown' _ rfl rfl hn1 hn2 hsz ?_; intro g cap w1 hown1 hg1)
        have hown2 := rel_dec g3 g4 hown1
        have hb1 := below_of_grown hb' hsz hown' hg1
        have hlen : (acc ++ [UInt8.ofNat (16 * vA + vB).toNat]).length ≤ k + 2 := by simp; omega
        rw [HA.out, HB.out] at HD2
        clear hown1 hg1
        go_wp2
        go_roundw
        case rel => exact ⟨k + 2, _, by omega, by omega, hlen, by go_num, HD2, hown2, hb1⟩
        case measure => simp [intOf]; omega
    · obtain rfl : k = s.size := by omega
      obtain ⟨r1, r2⟩ := dec_some (dec_end s acc HD.out)
      have R1 := Lib.hid r1; have R2 := Lib.hid r2; clear r1 r2
      have hcv := run_convert_own (P := Try.prog) wr 28 9 5 Try.underlying28 Try.underlying5 Try.underlying9 hown
      go_wp2
      go_ret2
      exact ⟨ret_sb R1.out R2.out, hb⟩
end Go.Proofs.Ytgbiebknehbdkaa
