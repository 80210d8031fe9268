/- Contracts of CornersOf and CountFolds. -/
import Derived.Test.YtmpbhhggbmjfcaaCornerFns2
import Derived.Test.YtmpbhhggbmjfcaaInts
namespace Go.Proofs.Ytmpbhhggbmjfcaa
open Go.RowKit
set_option linter.unusedVariables false
set_option linter.unusedSimpArgs false

/-- The folds among the first k places, as ints. -/
def crnI (s : ByteArray) (k : Nat) : List Int := (crns s k).map fun (j : Nat) => (j : Int)
theorem crnI_hit {s : ByteArray} {k : Nat} (h : crn s k = true) : crnI s (k + 1) = crnI s k ++ [(k : Int)] := by unfold crnI; rw [crns_hit h]; simp
theorem crnI_miss {s : ByteArray} {k : Nat} (h : crn s k = false) : crnI s (k + 1) = crnI s k := by unfold crnI; rw [crns_miss h]
theorem crnI_le (s : ByteArray) (k : Nat) : (crnI s k).length ≤ k := by unfold crnI; rw [List.length_map]; exact crns_le s k
theorem crnI_one (s : ByteArray) : crnI s 1 = [] := by unfold crnI; rw [crns_one]; rfl
/-- What CornersOf gives. -/
def cornV (s : ByteArray) : List Int := if strip s.data.toList then crnI s s.size else []
theorem cornV_no {s : ByteArray} (h : strip s.data.toList = false) : cornV s = [] := by unfold cornV; rw [h]; rfl
theorem cornV_le (s : ByteArray) : (cornV s).length ≤ 1000000 := by
  cases h : strip s.data.toList with
  | false => unfold cornV; rw [h]; exact Nat.zero_le _
  | true => have := crnI_le s s.size; have := (strip_size h).2.1; unfold cornV; rw [if_pos h]; omega
theorem cornV_yes {s : ByteArray} (h : strip s.data.toList = true) : cornV s = crnI s s.size := by unfold cornV; rw [h]; rfl

theorem dr_below' {B : Nat} {w w1 w2 : World} (h : Below B w w1) (h2 : ∃ n, w2 = w1.drewN n) : Below B w w2 := h.trans (dr_below h2 B)

set_option maxHeartbeats 1000000 in
theorem implCornersOf_any (s : ByteArray) (hm : s.size ≤ maxLen) (w : World) :
    Calls Try.prog 36 #[.string s] w fun e w' => ∃ v, e = .returned v ∧ OwnI w.heap.size v (cornV s) w' ∧ Below w.heap.size w w' := by
  have hm' := hm
  unfold maxLen at hm'
  obtain ⟨i0, hi, hz0, hz1, hz2⟩ := info_parts Try.info3
  cases hs : strip s.data.toList with
  | false =>
    have R := Lib.hid (cornV_no hs)
    go_enter Try.func36, Try.ntmps36
    go_wp2_with fail
    refine (implIsStrip_any _ hm _).mono ?_
    rintro e w' ⟨rfl, rfl⟩
    go_wp2
    go_ret
    exact ⟨_, rfl, by rw [R.out]; exact ownI_nil _ _, Below.refl _ _⟩
  | true =>
    have R := Lib.hid (cornV_yes hs)
    have hss := (strip_size hs).2.1
    go_enter Try.func36, Try.ntmps36
    go_wp2_with fail
    refine (implIsStrip_any _ hm _).mono ?_
    rintro e w' ⟨rfl, rfl⟩
    go_wp2
    go_loopw [3, 11] (fun v i wr => ∃ k : Nat, 0 ≤ k ∧ k ≤ s.size ∧ i = .int .i64 k ∧ OwnI w.heap.size v (crnI s k) wr ∧ Below w.heap.size w wr) (fun _ i _ => s.size - (intOf i).toNat)
    case atStart => exact ⟨0, Nat.zero_le _, Nat.zero_le _, rfl, ownI_made w _ (Nat.le_refl _), (Below.refl _ _).alloc (Nat.le_refl _) _⟩
    case round =>
      obtain ⟨k, _, hk, rfl, hown, hb⟩ := hrel
      have hl := crnI_le s k
      by_cases hlt : k < s.size
      · cases hc : crn s k with
        | true =>
          have HC := Lib.hid hc
          go_wp2_with fail
          refine (isCorner_any _ _ hm (by omega) _).mono ?_
          rintro e w' ⟨rfl, q, rfl⟩
          have hn1 : (crnI s k).length + 1 ≤ maxLen := by unfold maxLen; omega
          have hn2 : ((crnI s k).length + 1) * 8 ≤ 140737488355328 := by omega
          have hsz : w.heap.size ≤ (wr.drewN q).heap.size := hb.size
          have hown' : (wr.drewN q).ownsRow w.heap.size 3 1 u3 (crnI s k).length (intCells (crnI s k)) := hown
          have HI := Lib.hid (crnI_hit hc)
          clear HC
          go_wp2_with (at_builtin; refine wpList_app1 rfl _ _ 48 rfl w.heap.size 3 i0 (.int .i64 0) 8 Try.underlying48 hi hz0 hz1 hz2 rfl _ _ _ rfl hown' _ rfl rfl hn1 hn2 hsz ?_; intro g cap w1 hown1 hg1)
          have hown2 := ownI_snoc rfl hown1
          have hb1 := below_of_grown (wr := wr.drewN q) (dr_below' hb ⟨_, rfl⟩) hsz hown' hg1
          rw [← HI.out] at hown2
          clear hown1 hg1
          go_wp2
          go_roundw
          case rel => exact ⟨k + 1, by omega, by omega, by go_num, hown2, hb1⟩
          case measure => simp [intOf]; omega
        | false =>
          have HI := Lib.hid (crnI_miss hc)
          go_wp2_with fail
          refine (isCorner_any _ _ hm (by omega) _).mono ?_
          rintro e w' ⟨rfl, q, rfl⟩
          go_wp2
          go_roundw
          case rel => exact ⟨k + 1, by omega, by omega, by go_num, by rw [HI.out]; exact hown.drewN q, dr_below' hb ⟨_, rfl⟩⟩
          case measure => simp [intOf]; omega
      · obtain rfl : k = s.size := by omega
        go_wp2
        go_ret
        exact ⟨_, rfl, by rw [R.out]; exact hown, hb⟩

end Go.Proofs.Ytmpbhhggbmjfcaa
