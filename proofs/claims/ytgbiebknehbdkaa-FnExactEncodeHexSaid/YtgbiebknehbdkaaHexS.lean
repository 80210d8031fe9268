/- The contract of spec.EncodeHex. -/
import Derived.Test.YtgbiebknehbdkaaHex
namespace Go.Proofs.Ytgbiebknehbdkaa
open Go.RowKit

theorem specEncode_long (s : ByteArray) (hs : 20000 < s.size) (hm : s.size ≤ maxLen) (w : World) :
    Calls Try.prog 11 #[.string s] w fun e w' => e = .returned (.tuple #[.string ⟨#[]⟩, .bool false]) ∧ w = w' := by
  unfold maxLen at hm
  go_enter Try.func11, Try.ntmps11
  go_wp2
  go_ret2
  exact ⟨rfl, rfl⟩

set_option maxHeartbeats 400000 in
theorem specEncode_ok (s : ByteArray) (hs : s.size ≤ 20000) (w : World) :
    Calls Try.prog 11 #[.string s] w fun e w' => e = .returned (.tuple #[.string ⟨(hexL s.data.toList).toArray⟩, .bool true]) ∧ Below w.heap.size w w' := by
  obtain ⟨i0, hi, hz0, hz1, hz2⟩ := info_parts Try.info5
  go_enter Try.func11, Try.ntmps11
  go_wp2
  go_loopw [4, 5] (fun v i wr => ∃ k : Nat, k ≤ s.size ∧ i = .int .i64 k ∧ wr.ownsRow w.heap.size 5 1 v (hexL (s.data.toList.take k)).length (byteCells (hexL (s.data.toList.take k))) ∧ Below w.heap.size w wr) (fun _ i _ => s.size - (intOf i).toNat)
  case atStart =>
    exact ⟨0, Nat.zero_le _, rfl, World.ownsRow_made w #[] 0 (Nat.le_refl _) (Nat.zero_le _) rfl, (Below.refl _ _).alloc (Nat.le_refl _) _⟩
  case round =>
    obtain ⟨k, hk, rfl, hown, hb⟩ := hrel
    by_cases hlt : k < s.size
    · have hbb : s[k].toNat < 256 := UInt8.toNat_lt _
      have hq0 : IntKind.i64.wrap (s[k].toNat : Int) = (s[k].toNat : Int) := IntWalk.i64_in _ (by omega)
      have hq : IntKind.i64.wrap ((s[k].toNat : Int) / 16) = (s[k].toNat : Int) / 16 := IntWalk.i64_in _ (by omega)
      have hr1 : IntKind.i64.wrap ((s[k].toNat : Int) % 16) = (s[k].toNat : Int) % 16 := IntWalk.i64_in _ (by omega)
      have hr : ((s[k].toNat : Int)).tmod 16 = (s[k].toNat : Int) % 16 := Int.tmod_eq_emod_of_nonneg (by omega)
      have hq2 : (s[k].toNat : Int) / 16 < 16 := by omega
      have hr2 : (s[k].toNat : Int) % 16 < 16 := by omega
      have hq3 : 0 ≤ (s[k].toNat : Int) / 16 := by omega
      have hr3 : 0 ≤ (s[k].toNat : Int) % 16 := by omega
      have hn0 : (hexL (s.data.toList.take k)).length = 2 * (s.data.toList.take k).length := hexL_length _
      have hnk : (s.data.toList.take k).length ≤ k := List.length_take_le _ _
      have hn1 : (hexL (s.data.toList.take k)).length + 2 ≤ maxLen := by unfold maxLen; omega
      have hn2 : ((hexL (s.data.toList.take k)).length + 2) * 1 ≤ 140737488355328 := by omega
      have hsz : w.heap.size ≤ wr.drew.heap.size := hb.size
      clear hn0
      go_wp2
      go_region_law (first | (refine step_app2 rfl _ _ 28 rfl w.heap.size 5 i0 (.int .u8 0) 1 Try.underlying28 hi hz0 hz1 hz2 rfl _ _ _ rfl hown.drew _ _ rfl rfl rfl hn1 hn2 hsz ?_; intro g cap w1 hown1 hg1) | (go_simp; go_at_call 22; (try simp only [hq0, hq, hr, hr1]); refine (figure_any _ (by assumption) (by assumption) _).mono ?_; rintro e w' ⟨rfl, rfl⟩))
      all_goals
        have hown2 := rel_hex hlt hown1 (by rw [show ((s[k].toNat : Int) / 16).toNat = s[k].toNat / 16 from by omega]) (by rw [show ((s[k].toNat : Int) % 16).toNat = s[k].toNat % 16 from by omega])
        have hb1 := below_of_grown hb.drew hsz hown.drew hg1
        clear hown1 hg1 hq hr hq0 hr1
        go_wp2
        go_roundw
        case rel => exact ⟨k + 1, by omega, by go_num, hown2, hb1⟩
        case measure => simp [intOf]; omega
    · obtain rfl : k = s.size := by omega
      rw [take_all] at hown
      have hcv := run_convert_own (P := Try.prog) wr 28 9 5 Try.underlying28 Try.underlying5 Try.underlying9 hown
      go_wp2
      go_ret2
      exact ⟨rfl, hb⟩
end Go.Proofs.Ytgbiebknehbdkaa
