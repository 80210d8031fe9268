/- Contracts of PlaceOf, StepLength, reach, ReachClosed, SpreadOf, StaysInside. -/
import Derived.Test.YtplcfgpmpacjeaaCornerFns2
import Derived.Test.YtplcfgpmpacjeaaPlace
namespace Go.Proofs.Ytplcfgpmpacjeaa
open Go.RowKit
set_option linter.unusedVariables false
set_option linter.unusedSimpArgs false

set_option maxHeartbeats 1600000 in
theorem implPlaceOf_any (s : ByteArray) (k o : Int) (hm : s.size ≤ maxLen) (w : World) :
    Calls Try.prog 58 #[.string s, .int .i64 k, .int .i64 o] w fun e w' => e = .returned (.tuple #[.int .i64 (plX s k o), .int .i64 (plY s k o), .bool (plB s k o)]) ∧ ∃ n, w' = w.drewN n := by
  by_cases h : strip s.data.toList = false ∨ k < 0 ∨ (s.size : Int) < k
  · have HB := Lib.hid (plB_no (s := s) (k := k) (o := o) (fun hh => by
      rcases h with h | h
      · rw [h] at hh; exact Bool.false_ne_true hh.1
      · omega))
    have HX := Lib.hid (plX_no HB.out); have HY := Lib.hid (plY_no HB.out)
    have H := Lib.hid h; clear h
    go_enter Try.func58, Try.ntmps58
    go_wp2_with fail
    refine (implStripAt_no _ _ hm H.out _).mono ?_
    rintro e w' ⟨rfl, n1, rfl⟩
    go_wp2
    go_ret3
    exact ⟨ret_iib HX.out HY.out HB.out, _, rfl⟩
  have hs : strip s.data.toList = true := by
    cases hh : strip s.data.toList with
    | true => rfl
    | false => exact absurd (Or.inl hh) h
  have hk : 0 ≤ k ∧ k ≤ (s.size : Int) := by
    have h2 : ¬ (k < 0 ∨ (s.size : Int) < k) := fun e => h (Or.inr e)
    omega
  clear h
  obtain ⟨j, rfl⟩ := Int.eq_ofNat_of_zero_le hk.1
  have hj : j ≤ s.size := by omega
  clear hk
  by_cases ho : 0 ≤ o ∧ o ≤ 2
  · have hb : plB s j o = true := plB_mk hs (by omega) (by omega) ho.1 ho.2
    have z := strip_size hs
    have b1 := cF_take_le s.data.toList j
    have b2 := cD_take_le s.data.toList j
    have y1 := downV_yes hs
    have HF : plF s j = cF (s.data.toList.take j) := rfl
    have HU : plU s j = (cD s.data.toList : Int) - cD (s.data.toList.take j) := rfl
    obtain ⟨_, z2, _, z4, z5, z6, z7⟩ := z
    obtain rfl | rfl | rfl : o = 0 ∨ o = 1 ∨ o = 2 := by omega
    · have HX : Hid (plX s j 0 = plF s j + plU s j) := Lib.hid (by rw [plX_yes hb]; simp)
      have HY : Hid (plY s j 0 = 0) := Lib.hid (by rw [plY_yes hb]; simp)
      have HFF := Lib.hid HF; have HUU := Lib.hid HU; have HB := Lib.hid hb
      clear HF HU hb ho
      go_enter Try.func58, Try.ntmps58
      go_wp2_with fail
      refine (implStripAt_yes _ _ hm hs hj _).mono ?_
      rintro e w' ⟨rfl, n1, rfl⟩
      go_wp2_with fail
      refine (within_yes _ _ _ (by omega) (by omega) _).mono ?_
      rintro e w' ⟨rfl, rfl⟩
      go_wp2_with fail
      refine (implDownOf_any _ hm _).mono ?_
      rintro e w' ⟨rfl, rfl⟩
      go_wp2
      go_ret3
      exact ⟨ret_iib (by rw [HX.out, HFF.out, HUU.out]) (by rw [HY.out]) HB.out, _, rfl⟩
    · have HX : Hid (plX s j 1 = plF s j) := Lib.hid (by rw [plX_yes hb]; simp)
      have HY : Hid (plY s j 1 = plU s j) := Lib.hid (by rw [plY_yes hb]; simp)
      have HFF := Lib.hid HF; have HUU := Lib.hid HU; have HB := Lib.hid hb
      clear HF HU hb ho
      go_enter Try.func58, Try.ntmps58
      go_wp2_with fail
      refine (implStripAt_yes _ _ hm hs hj _).mono ?_
      rintro e w' ⟨rfl, n1, rfl⟩
      go_wp2_with fail
      refine (within_yes _ _ _ (by omega) (by omega) _).mono ?_
      rintro e w' ⟨rfl, rfl⟩
      go_wp2_with fail
      refine (implDownOf_any _ hm _).mono ?_
      rintro e w' ⟨rfl, rfl⟩
      go_wp2
      go_ret3
      exact ⟨ret_iib (by rw [HX.out, HFF.out]) (by rw [HY.out, HUU.out]) HB.out, _, rfl⟩
    · have HX : Hid (plX s j 2 = plF s j - plU s j) := Lib.hid (by rw [plX_yes hb]; simp)
      have HY : Hid (plY s j 2 = 0) := Lib.hid (by rw [plY_yes hb]; simp)
      have HFF := Lib.hid HF; have HUU := Lib.hid HU; have HB := Lib.hid hb
      clear HF HU hb ho
      go_enter Try.func58, Try.ntmps58
      go_wp2_with fail
      refine (implStripAt_yes _ _ hm hs hj _).mono ?_
      rintro e w' ⟨rfl, n1, rfl⟩
      go_wp2_with fail
      refine (within_yes _ _ _ (by omega) (by omega) _).mono ?_
      rintro e w' ⟨rfl, rfl⟩
      go_wp2_with fail
      refine (implDownOf_any _ hm _).mono ?_
      rintro e w' ⟨rfl, rfl⟩
      go_wp2
      go_ret3
      exact ⟨ret_iib (by rw [HX.out, HFF.out, HUU.out]) (by rw [HY.out]) HB.out, _, rfl⟩
  · have HB := Lib.hid (plB_no (s := s) (k := j) (o := o) (fun hh => ho hh.2.2))
    have HX := Lib.hid (plX_no HB.out); have HY := Lib.hid (plY_no HB.out)
    have H := Lib.hid ho; clear ho
    go_enter Try.func58, Try.ntmps58
    go_wp2_with fail
    refine (implStripAt_yes _ _ hm hs hj _).mono ?_
    rintro e w' ⟨rfl, n1, rfl⟩
    go_wp2_with fail
    refine (within_no _ _ _ (by have := H.out; omega) _).mono ?_
    rintro e w' ⟨rfl, rfl⟩
    go_wp2
    go_ret3
    exact ⟨ret_iib HX.out HY.out HB.out, _, rfl⟩

end Go.Proofs.Ytplcfgpmpacjeaa
