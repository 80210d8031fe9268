/- FnCorners: for every input the law returns true and its arguments read afterwards as they read before. No condition. -/
import Derived.Test.YtmpbhhggbmjfcaaRows
import Derived.WalkKit
import Derived.ProofKit
import Derived.OpenShut
import Derived.ShutString
import Derived.ChangeOld
import Derived.Below
import Derived.Lib.SmallJoins
import Derived.SliceStrings
import Derived.Test.YtmpbhhggbmjfcaaCells
import Derived.Test.YtmpbhhggbmjfcaaCornP
import Derived.Test.YtmpbhhggbmjfcaaFromRuns2
import Derived.Test.YtmpbhhggbmjfcaaDrawS
import Derived.Test.YtmpbhhggbmjfcaaCornerFns2
import Derived.Test.YtmpbhhggbmjfcaaHand
import Derived.Test.YtmpbhhggbmjfcaaCards
import Derived.Deep.RegionHeld3
namespace Go.Proofs.Ytmpbhhggbmjfcaa.fnCorners
open Go.ChangeShapes Go.WideShapes Go.ChangeAt Go.RowKit Go.Joins
open Go.ChangeMaps (open_string shut_string)
set_option linter.unusedVariables false

theorem own : ownKnob Try.prog.godebug = none := by kernel_rfl
theorem laidOut : laidOutB Try.prog = true := by kernel_rfl

theorem big_no (a : Option Addr) (n cap : Nat) (hn : n ≤ 1048576) (w : World) :
    Calls Try.prog 34 #[.slice a n cap] w fun e w' => e = .returned (.bool false) ∧ w = w' := by
  go_enter Try.func34, Try.ntmps34
  go_wp2
  go_ret
  exact ⟨ret_bool (decide_eq_false (by omega)), rfl⟩
theorem btoi_any (b : Bool) (w : World) : Calls Try.prog 40 #[.bool b] w fun e w' => e = .returned (.int .i64 (if b then 1 else 0)) ∧ w = w' := by
  cases b
  all_goals
    go_enter Try.func40, Try.ntmps40
    go_wp2
    go_ret
    exact ⟨rfl, rfl⟩
theorem corn_pos {s : ByteArray} (hs : strip s.data.toList = true) : 0 < (cornV s).length := by
  rcases Nat.eq_zero_or_pos (cornV s).length with h | h
  · obtain ⟨a, ha, han, hl, _⟩ := runs_end hs
    rw [h] at ha hl
    have ha0 : a = 0 := by have : (0 : Int) = (a : Int) := ha; omega
    subst ha0
    obtain ⟨h2, _, hsum, h1d, h8d, h1f, h8f⟩ := strip_size hs
    have htake := take_const (s := s) (a := 0) s.size (by omega) (fun j h1 h2 => hl j h1 (by omega))
    rw [Nat.zero_add, take_all] at htake
    have h0 := byt_df hs (k := 0) (by omega)
    rcases lett_df (byt s 0) h0 0 with e | e <;> rw [e] at htake
    · rw [htake] at h1f; simp [cF, List.count_replicate] at h1f
    · rw [htake] at h1d; simp [cD, List.count_replicate] at h1d
  · exact h
theorem sI_bd {s : ByteArray} (hs : strip s.data.toList = true) (k : Nat) (hk : k ≤ (cornV s).length + 1) : 0 ≤ sI (runV s) k ∧ sI (runV s) k ≤ 16 := by
  rcases Nat.lt_or_ge (cornV s).length k with h | h
  · obtain rfl : k = (cornV s).length + 1 := by omega
    rw [sum_all hs]; have := strip_size hs; omega
  · rw [sum_runs hs k h]; exact fr_bd s k
theorem el_bd {s : ByteArray} (hs : strip s.data.toList = true) (k : Nat) (hk : k < (cornV s).length + 1) : -16 ≤ el (runV s) k ∧ el (runV s) k ≤ 16 := by
  have h1 := sI_bd hs k (by omega)
  have h2 := sI_bd hs (k + 1) (by omega)
  have : sI (runV s) (k + 1) = sI (runV s) k + el (runV s) k := rfl
  omega
theorem mtn_at {s : ByteArray} (hs : strip s.data.toList = true) {x : Nat} (c : UInt8) (hc : crn s x = true) : mtn s c x = decide (byt s (x - 1) = c) := by
  rw [mtn_in hs]; unfold crl; rw [hc, Bool.true_and]
theorem lett_flip {b : UInt8} (hb : b = 100 ∨ b = 102) (k : Nat) : lett b (k + 1) = oth (lett b k) := (lett_oth b hb k).symm
theorem first_of {s : ByteArray} (h : 0 < s.size) : s.extract 0 1 = ⟨#[byt s 0]⟩ := by
  apply ByteArray.ext
  apply Array.ext'
  rw [ByteArray.data_extract, Array.toList_extract]
  show List.take 1 (List.drop 0 s.data.toList) = [byt s 0]
  rw [byt_get s 0 h, List.drop_zero]
  have := take_snoc s 0 h
  simpa using this
theorem tell_again {s : ByteArray} (hs : strip s.data.toList = true) : frF (s.extract 0 1) (runV s) = s := by
  have h2 := (strip_size hs).1
  have h0 := byt_df hs (k := 0) (by omega)
  rw [first_of (by omega)]
  unfold frF
  rcases h0 with e | e
  · have := runs_tell hs
    rw [e] at this ⊢
    rw [if_pos rfl, this]
  · have := runs_tell hs
    rw [e] at this ⊢
    rw [if_neg (by decide), if_pos rfl, this]
theorem folds_sum {s : ByteArray} (hs : strip s.data.toList = true) (h0 : 0 < s.size) (h9 : s.size - 1 < s.size) : foldsV s = ((cornV s).length : Int) + (if ((s[0].toNat : Int) == 102) then 1 else 0) + (if ((s[s.size - 1].toNat : Int) == 100) then 1 else 0) := by
  rw [foldsV_yes hs, byt_get s 0 h0, byt_get s (s.size - 1) h9]
  have e : ∀ (n : Nat), (((n : Int) == 102) = true) ↔ n = 102 := fun n => by rw [beq_iff_eq]; omega
  have e' : ∀ (n : Nat), (((n : Int) == 100) = true) ↔ n = 100 := fun n => by rw [beq_iff_eq]; omega
  congr 1
  · congr 1
    by_cases h : s[0].toNat = 102
    · rw [if_pos h, if_pos ((e _).2 h)]
    · rw [if_neg h, if_neg (fun hh => h ((e _).1 hh))]
  · by_cases h : s[s.size - 1].toNat = 100
    · rw [if_pos h, if_pos ((e' _).2 h)]
    · rw [if_neg h, if_neg (fun hh => h ((e' _).1 hh))]
theorem OwnI.rdI0 {B g n c : Nat} {zs : List Int} {w : World} (h : OwnI B (.slice (some ⟨g, 0, none⟩) n c) zs w) : RdI w (some ⟨g, 0, none⟩) zs := by
  obtain ⟨a, c', e, hr⟩ := OwnI.rdI h
  obtain ⟨rfl, _⟩ : some (⟨g, 0, none⟩ : Addr) = a ∧ True := by simpa using (Value.slice.inj e).1
  exact hr

set_option maxRecDepth 100000 in
set_option maxHeartbeats 6400000 in
theorem walk (a : Option Addr) (n cap : Nat) (w : World) (hn : n ≤ maxLen) (hr : RdB w.heap.size w a n) :
    Calls Try.prog 10 #[.slice a n cap] w fun e w' => e = .returned (.bool true) ∧ Below w.heap.size w w' := by
  by_cases hg : 1048576 < n
  · unfold maxLen at hn
    clear hr
    go_enter Try.func10, Try.ntmps10
    go_wp2
    go_ret
    exact ⟨rfl, Below.refl _ _⟩
  have hn2 : n ≤ 1048576 := by omega
  clear hg hn
  have HR := Lib.hid hr; clear hr
  go_enter Try.func10, Try.ntmps10
  go_wp2_with fail
  refine (big_no _ _ _ hn2 _).mono ?_
  rintro e w' ⟨rfl, rfl⟩
  go_wp2_with fail
  refine (drawStrip_any _ _ _ _ hn2 HR.out).mono ?_
  rintro e w1 ⟨s, rfl, hs, b1⟩
  have HS := Lib.hid hs
  obtain ⟨z1, z2, _⟩ := strip_size hs
  have hm : s.size ≤ maxLen := by unfold maxLen; omega
  have HB1 := Lib.hid b1
  clear b1 hs
  go_wp2_with fail
  refine (implCornersOf_any s hm _).mono ?_
  rintro e w2 ⟨vc, rfl, oc, b2⟩
  have HB2 := Lib.hid (HB1.out.trans (b2.mono HB1.out.size)); clear b2
  go_wp2_with fail
  refine (implRunsOf_any s hm _).mono ?_
  rintro e w3 ⟨vr, rfl, orr, b3⟩
  have HB3 := Lib.hid (HB2.out.trans (b3.mono HB2.out.size))
  have oc3 := oc.below b3
  have hpos := corn_pos HS.out
  have hm16 := cornV_le16 HS.out
  have hlen := run_len HS.out
  rcases oc3.form with ⟨_, _, _, h0⟩ | ⟨g, cg, rfl, _, _⟩
  · rw [h0] at hpos; simp at hpos
  rcases orr.form with ⟨_, _, _, h0⟩ | ⟨gr, cr, rfl, _, _⟩
  · rw [h0] at hlen; simp at hlen
  have HOC := Lib.hid oc3; have HOR := Lib.hid orr
  clear oc oc3 orr b3
  rw [hlen]
  have HX := Lib.hid (fun k h => fold_letter HS.out (k := k) h)
  have HSI := Lib.hid (fun k h => sI_bd HS.out k h)
  have HEL := Lib.hid (fun k h => el_bd HS.out k h)
  have HSUM := Lib.hid (sum_all HS.out)
  have HLEN := Lib.hid hlen
  have HCN := Lib.hid (cornV_yes HS.out)
  generalize hmm : (cornV s).length = m at *
  have HM := Lib.hid hmm; clear hmm hlen
  go_wp2
  go_loop [6, 7] (fun u i => ∃ k : Nat, k ≤ m + 1 ∧ i = .int .i64 k ∧ u = .int .i64 (sI (runV s) k)) (fun _ i => m + 1 - (intOf i).toNat)
  case atStart => exact ⟨0, Nat.zero_le _, rfl, rfl⟩
  case round =>
    obtain ⟨k, hk, rfl, rfl⟩ := hrel
    by_cases hlt : k < m + 1
    · have hc := HOR.out.cellD k (by rw [HLEN.out]; exact hlt)
      have e1 : (k : Int) < (m : Int) + 1 := by omega
      obtain ⟨x1, x2⟩ := HSI.out k hk
      obtain ⟨x3, x4⟩ := HEL.out k hlt
      go_wp2
      go_round
      case rel => exact ⟨k + 1, by omega, by go_num, rfl⟩
      case measure => simp [intOf]; omega
    · have hke : k = m + 1 := by omega
      have e1 : decide ((k : Int) < (m : Int) + 1) = false := decide_eq_false (by omega)
      have hsum : sI (runV s) k = s.size := by rw [hke]; exact HSUM.out
      rw [hsum]
      clear hsum hke
      go_wp2
      go_loopw [8, 9] (fun u i wr => ∃ k : Nat, k ≤ m ∧ i = .int .i64 k ∧ u = .int .i64 (pk (byt s 0) k) ∧ Hid (∃ q, wr = w3.drewN q)) (fun _ i _ => m - (intOf i).toNat)
      case atStart => exact ⟨0, Nat.zero_le _, rfl, rfl, Lib.hid (dr_refl _)⟩
      case round =>
        clear hk hlt e1
        obtain ⟨k, hk, rfl, rfl, HQ⟩ := hrel
        by_cases hlt : k < m
        · have e1 : (k : Int) < (m : Int) := by omega
          obtain ⟨x, hx, x1, x2, hcx, hbx⟩ := HX.out k hlt
          have bx := dr_below HQ.out w3.heap.size
          have hc := (HOC.out.below bx).cellD k (by rw [HM.out]; exact hlt)
          rw [hx] at hc
          have HM1 := Lib.hid (mtn_at HS.out 102 hcx); have HM2 := Lib.hid (mtn_at HS.out 100 hcx)
          rw [hbx] at HM1 HM2
          have h0 := byt_df HS.out (k := 0) (by omega)
          have HH0 := Lib.hid h0
          have hpk : pk (byt s 0) k ≤ 16 := by
            have aux : ∀ j, pk (byt s 0) j ≤ j := fun j => by
              induction j with
              | zero => exact Nat.le_refl _
              | succ j ih => show pk (byt s 0) j + _ ≤ _; split <;> omega
            have := aux k; omega
          have HPS : Hid (pk (byt s 0) (k + 1) = pk (byt s 0) k + (if lett (byt s 0) k = 102 then 1 else 0)) := Lib.hid rfl
          rcases lett_df (byt s 0) h0 k with el | el
          all_goals (rw [el] at HM1 HM2 HPS)
          all_goals clear hcx hbx h0 hx bx
          · have M1 : mtn s 102 x = false := HM1.out
            have M2 : mtn s 100 x = true := HM2.out
            have HP : Hid (pk (byt s 0) (k + 1) = pk (byt s 0) k) := Lib.hid HPS.out
            by_cases hk0 : 0 < k
            · have e2 : (0 : Int) < (k : Int) := by omega
              obtain ⟨k', hk'⟩ : ∃ k', k = k' + 1 := ⟨k - 1, by omega⟩
              obtain ⟨y, hy, y1, y2, hcy, hby⟩ := HX.out k' (by omega)
              have hly : lett (byt s 0) k = oth (lett (byt s 0) k') := by rw [hk']; exact lett_flip HH0.out k'
              have M3 : mtn s 102 y = true := by
                rw [mtn_at HS.out 102 hcy, hby]
                rw [el] at hly
                rcases lett_df (byt s 0) HH0.out k' with h | h <;> rw [h] at hly ⊢ <;> first | rfl | exact absurd hly (by decide)
              have bx2 := dr_below HQ.out w3.heap.size
              have hc2 := (HOC.out.below bx2).cellD k' (by rw [HM.out]; omega)
              rw [hy] at hc2
              have e3 : IntKind.i64.wrap ((k : Int) - 1) = (k' : Int) := by rw [show (k : Int) - 1 = (k' : Int) from by omega]; exact IntWalk.i64_in _ (by omega)
              have e4 : (k' : Int) < (m : Int) := by omega
              clear hcy hby hly hy bx2 hk' el
              go_wp2_with fail
              refine (implIsMountain_any s x hm (by omega) _).mono ?_
              rw [M1]
              rintro e w5 ⟨rfl, n5, rfl⟩
              go_wp2_with fail
              refine (implIsValley_any s x hm (by omega) _).mono ?_
              rw [M2]
              rintro e w6 ⟨rfl, n6, rfl⟩
              go_wp2_with fail
              refine (implIsMountain_any s y hm (by omega) _).mono ?_
              rw [M3]
              rintro e w7 ⟨rfl, n7, rfl⟩
              go_wp2
              go_roundw
              case rel => exact ⟨k + 1, by omega, by go_num, by rw [HP.out]; try go_num, Lib.hid (dr_trans HQ.out (by first | exact ⟨_, rfl⟩ | exact dr_trans ⟨_, rfl⟩ ⟨_, rfl⟩ | exact dr_trans (dr_trans ⟨_, rfl⟩ ⟨_, rfl⟩) ⟨_, rfl⟩))⟩
              case measure => simp [intOf]; omega
            · have e2 : decide ((0 : Int) < (k : Int)) = false := decide_eq_false (by omega)
              have e2n : decide (0 < k) = false := decide_eq_false (by omega)
              clear el
              go_wp2_with fail
              refine (implIsMountain_any s x hm (by omega) _).mono ?_
              rw [M1]
              rintro e w5 ⟨rfl, n5, rfl⟩
              go_wp2_with fail
              refine (implIsValley_any s x hm (by omega) _).mono ?_
              rw [M2]
              rintro e w6 ⟨rfl, n6, rfl⟩
              go_wp2
              go_roundw
              case rel => exact ⟨k + 1, by omega, by go_num, by rw [HP.out]; try go_num, Lib.hid (dr_trans HQ.out (by first | exact ⟨_, rfl⟩ | exact dr_trans ⟨_, rfl⟩ ⟨_, rfl⟩ | exact dr_trans (dr_trans ⟨_, rfl⟩ ⟨_, rfl⟩) ⟨_, rfl⟩))⟩
              case measure => simp [intOf]; omega
          · have M1 : mtn s 102 x = true := HM1.out
            have M2 : mtn s 100 x = false := HM2.out
            have HP : Hid (pk (byt s 0) (k + 1) = pk (byt s 0) k + 1) := Lib.hid HPS.out
            by_cases hk0 : 0 < k
            · have e2 : (0 : Int) < (k : Int) := by omega
              obtain ⟨k', hk'⟩ : ∃ k', k = k' + 1 := ⟨k - 1, by omega⟩
              obtain ⟨y, hy, y1, y2, hcy, hby⟩ := HX.out k' (by omega)
              have hly : lett (byt s 0) k = oth (lett (byt s 0) k') := by rw [hk']; exact lett_flip HH0.out k'
              have M3 : mtn s 102 y = false := by
                rw [mtn_at HS.out 102 hcy, hby]
                rw [el] at hly
                rcases lett_df (byt s 0) HH0.out k' with h | h <;> rw [h] at hly ⊢ <;> first | rfl | exact absurd hly (by decide)
              have bx2 := dr_below HQ.out w3.heap.size
              have hc2 := (HOC.out.below bx2).cellD k' (by rw [HM.out]; omega)
              rw [hy] at hc2
              have e3 : IntKind.i64.wrap ((k : Int) - 1) = (k' : Int) := by rw [show (k : Int) - 1 = (k' : Int) from by omega]; exact IntWalk.i64_in _ (by omega)
              have e4 : (k' : Int) < (m : Int) := by omega
              clear hcy hby hly hy bx2 hk' el
              go_wp2_with fail
              refine (implIsMountain_any s x hm (by omega) _).mono ?_
              rw [M1]
              rintro e w5 ⟨rfl, n5, rfl⟩
              go_wp2_with fail
              refine (implIsValley_any s x hm (by omega) _).mono ?_
              rw [M2]
              rintro e w6 ⟨rfl, n6, rfl⟩
              go_wp2_with fail
              refine (implIsMountain_any s y hm (by omega) _).mono ?_
              rw [M3]
              rintro e w7 ⟨rfl, n7, rfl⟩
              go_wp2
              go_roundw
              case rel => exact ⟨k + 1, by omega, by go_num, by rw [HP.out]; try go_num, Lib.hid (dr_trans HQ.out (by first | exact ⟨_, rfl⟩ | exact dr_trans ⟨_, rfl⟩ ⟨_, rfl⟩ | exact dr_trans (dr_trans ⟨_, rfl⟩ ⟨_, rfl⟩) ⟨_, rfl⟩))⟩
              case measure => simp [intOf]; omega
            · have e2 : decide ((0 : Int) < (k : Int)) = false := decide_eq_false (by omega)
              have e2n : decide (0 < k) = false := decide_eq_false (by omega)
              clear el
              go_wp2_with fail
              refine (implIsMountain_any s x hm (by omega) _).mono ?_
              rw [M1]
              rintro e w5 ⟨rfl, n5, rfl⟩
              go_wp2_with fail
              refine (implIsValley_any s x hm (by omega) _).mono ?_
              rw [M2]
              rintro e w6 ⟨rfl, n6, rfl⟩
              go_wp2
              go_roundw
              case rel => exact ⟨k + 1, by omega, by go_num, by rw [HP.out]; try go_num, Lib.hid (dr_trans HQ.out (by first | exact ⟨_, rfl⟩ | exact dr_trans ⟨_, rfl⟩ ⟨_, rfl⟩ | exact dr_trans (dr_trans ⟨_, rfl⟩ ⟨_, rfl⟩) ⟨_, rfl⟩))⟩
              case measure => simp [intOf]; omega
        · have hke : k = m := by omega
          have e1 : decide ((k : Int) < (m : Int)) = false := decide_eq_false (by omega)
          have e1n : decide (k < m) = false := decide_eq_false (by omega)
          rw [hke]
          clear hke
          have HQ3 := Lib.hid HQ.out
          rename World => wq
          go_wp2
          go_loopw [11, 12] (fun u i wr => ∃ k : Nat, k ≤ s.size + 1 ∧ i = .int .i64 k ∧ u = .int .i64 ((crnI s k).length : Int) ∧ Hid (∃ q, wr = w3.drewN q)) (fun _ i _ => s.size + 1 - (intOf i).toNat)
          case atStart => exact ⟨0, Nat.zero_le _, rfl, rfl, HQ⟩
          case round =>
            clear hk hlt e1 e1n HQ
            obtain ⟨k, hk, rfl, rfl, HQ⟩ := hrel
            by_cases hlt : k ≤ s.size
            · have e1 : (k : Int) ≤ (s.size : Int) := by omega
              have hll := crnI_le s k
              cases hcx : crn s k with
              | false =>
                have HM1 := Lib.hid (mtn_out (c := 102) hcx); have HM2 := Lib.hid (mtn_out (c := 100) hcx)
                have HI := Lib.hid (crnI_miss hcx)
                clear hcx
                go_wp2_with fail
                refine (implIsMountain_any s k hm (by omega) _).mono ?_
                rw [HM1.out]
                rintro e w5 ⟨rfl, n5, rfl⟩
                go_wp2_with fail
                refine (implIsValley_any s k hm (by omega) _).mono ?_
                rw [HM2.out]
                rintro e w6 ⟨rfl, n6, rfl⟩
                go_wp2
                go_roundw
                case rel => exact ⟨k + 1, by omega, by go_num, by rw [HI.out]; try go_num, Lib.hid (dr_trans HQ.out (by first | exact ⟨_, rfl⟩ | exact dr_trans ⟨_, rfl⟩ ⟨_, rfl⟩))⟩
                case measure => simp [intOf]; omega
              | true =>
                have HI : Hid ((crnI s (k + 1)).length = (crnI s k).length + 1) := Lib.hid (by rw [crnI_hit hcx, List.length_append]; rfl)
                have hk1 : 1 ≤ k ∧ k < s.size := by
                  refine ⟨?_, ?_⟩
                  · rcases Nat.eq_zero_or_pos k with h | h
                    · subst h; rw [crn_out (.inl (by omega))] at hcx; cases hcx
                    · exact h
                  · rcases Nat.lt_or_ge k s.size with h | h
                    · exact h
                    · rw [crn_out (.inr h)] at hcx; cases hcx
                have HM1 := Lib.hid (mtn_at HS.out 102 hcx); have HM2 := Lib.hid (mtn_at HS.out 100 hcx)
                rcases byt_df HS.out (k := k - 1) (by omega) with el | el
                all_goals (rw [el] at HM1 HM2)
                all_goals clear hcx hk1 el
                · have M1 : mtn s 102 k = false := HM1.out
                  have M2 : mtn s 100 k = true := HM2.out
                  go_wp2_with fail
                  refine (implIsMountain_any s k hm (by omega) _).mono ?_
                  rw [M1]
                  rintro e w5 ⟨rfl, n5, rfl⟩
                  go_wp2_with fail
                  refine (implIsValley_any s k hm (by omega) _).mono ?_
                  rw [M2]
                  rintro e w6 ⟨rfl, n6, rfl⟩
                  go_wp2
                  go_roundw
                  case rel => exact ⟨k + 1, by omega, by go_num, by rw [HI.out]; try go_num, Lib.hid (dr_trans HQ.out (by first | exact ⟨_, rfl⟩ | exact dr_trans ⟨_, rfl⟩ ⟨_, rfl⟩))⟩
                  case measure => simp [intOf]; omega
                · have M1 : mtn s 102 k = true := HM1.out
                  have M2 : mtn s 100 k = false := HM2.out
                  go_wp2_with fail
                  refine (implIsMountain_any s k hm (by omega) _).mono ?_
                  rw [M1]
                  rintro e w5 ⟨rfl, n5, rfl⟩
                  go_wp2
                  go_roundw
                  case rel => exact ⟨k + 1, by omega, by go_num, by rw [HI.out]; try go_num, Lib.hid (dr_trans HQ.out (by first | exact ⟨_, rfl⟩ | exact dr_trans ⟨_, rfl⟩ ⟨_, rfl⟩))⟩
                  case measure => simp [intOf]; omega
            · have hke : k = s.size + 1 := by omega
              have e1 : decide ((k : Int) ≤ (s.size : Int)) = false := decide_eq_false (by omega)
              have e1n : decide (k ≤ s.size) = false := decide_eq_false (by omega)
              have hin : (crnI s k).length = m := by
                rw [hke, crnI_miss (crn_out (.inr (Nat.le_refl _))), ← HM.out, HCN.out]
              rw [hin]
              clear hin hke
              have HB5 := Lib.hid (HB3.out.trans ((dr_below HQ.out w3.heap.size).mono HB3.out.size))
              have HOR5 := Lib.hid (HOR.out.below (dr_below HQ.out w3.heap.size))
              go_wp2_with fail
              refine (implCountFolds_any s hm _).mono ?_
              rintro e w6 ⟨rfl, b6⟩
              have HB6 := Lib.hid (HB5.out.trans (b6.mono HB5.out.size))
              have r6 := OwnI.rdI0 (HOR5.out.below b6)
              clear b6
              have HFD := folds_sum HS.out (by omega) (by omega)
              have FO := folds_odd HS.out
              have PE : peaksV s = (pk (byt s 0) m : Int) := by rw [peaksV_yes HS.out, peaks_count HS.out _ (Nat.le_refl _), ← HCN.out, HM.out]
              have TE := tell_again HS.out
              rw [HM.out] at HFD
              have i0n : 0 < s.size := by omega
              have i0 : (0 : Int) < (s.size : Int) := by omega
              have i1 : (1 : Int) ≤ (s.size : Int) := by omega
              have i1n : 1 ≤ s.size := by omega
              have i2 : IntKind.i64.wrap ((s.size : Int) - 1) = ((s.size - 1 : Nat) : Int) := by rw [show (s.size : Int) - 1 = ((s.size - 1 : Nat) : Int) from by omega]; exact IntWalk.i64_in _ (by omega)
              have i3 : ((s.size - 1 : Nat) : Int) < (s.size : Int) := by omega
              have i3n : s.size - 1 < s.size := by omega
              generalize hf0 : ((s[0].toNat : Int) == 102) = B0 at *
              generalize hf9 : ((s[s.size - 1].toNat : Int) == 100) = B9 at *
              have F0 : (0 : Int) ≤ (if B0 then 1 else 0) ∧ (if B0 then (1 : Int) else 0) ≤ 1 := by cases B0 <;> decide
              have F9 : (0 : Int) ≤ (if B9 then 1 else 0) ∧ (if B9 then (1 : Int) else 0) ≤ 1 := by cases B9 <;> decide
              have C0 := Lib.hid (fun w => btoi_any B0 w); have C9 := Lib.hid (fun w => btoi_any B9 w)
              generalize (if B0 then (1 : Int) else 0) = x0 at *
              generalize (if B9 then (1 : Int) else 0) = x9 at *
              generalize foldsV s = FV at *
              have o1 : (FV == (m : Int) + x0 + x9) = true := beq_iff_eq.2 HFD
              have o2 : FV.tmod 2 = 1 := by rw [Int.tmod_eq_emod_of_nonneg (by omega)]; exact FO
              have o3 := FO
              have o4 : IntKind.i64.wrap ((m : Int) + x0) = (m : Int) + x0 := IntWalk.i64_in _ (by omega)
              have o5 : IntKind.i64.wrap ((m : Int) + x0 + x9) = (m : Int) + x0 + x9 := IntWalk.i64_in _ (by omega)
              have o6 : IntKind.i64.wrap ((m : Int) + 1) = (m : Int) + 1 := IntWalk.i64_in _ (by omega)
              have q1 : (s.toList == s.toList) = true := beq_self_eq_true _
              have HFR : Hid (∀ (u : World), RdI u (some ⟨gr, 0, none⟩) (runV s) → Calls Try.prog 42 #[.string (s.extract 0 1), .slice (some ⟨gr, 0, none⟩) (m + 1) cr] u fun e w' => e = .returned (.string s) ∧ Below u.heap.size u w') := Lib.hid (fun u hu => by
                have h := implFromRuns_any (s.extract 0 1) (some ⟨gr, 0, none⟩) cr (runV s) u hu (by rw [HLEN.out]; omega)
                rw [HLEN.out, TE] at h; exact h)
              have HPE : Hid (∀ u : World, Calls Try.prog 43 #[.string s] u fun e w' => e = .returned (.int .i64 (pk (byt s 0) m : Int)) ∧ ∃ n, w' = u.drewN n) := Lib.hid (fun u => by have h := implCountPeaks_any s hm u; rw [PE] at h; exact h)
              have q2 : ((pk (byt s 0) m : Int) == (pk (byt s 0) m : Int)) = true := beq_self_eq_true _
              generalize (pk (byt s 0) m : Int) = PK at *
              clear HFD FO PE TE z1 z2
              have hB6 := HB6.out
              go_wp2
              have S0 := dr_bel hB6 ⟨1, rfl⟩
              have R0 := r6.below (dr_bel (Below.refl w6.heap.size w6) ⟨1, rfl⟩)
              refine wp_hand (S := fun w' => Below w.heap.size w w' ∧ RdI w' (some ⟨gr, 0, none⟩) (runV s)) (by kernel_rfl) ⟨S0, R0⟩ (fun _ _ d _ _ h => by cases d <;> exact h) (fun hBl hHeld => ?_)
              refine take2 (i := 0) (v := ?_) (d := some 92) hBl rfl rfl (by kernel_rfl) (by kernel_rfl) (by kernel_rfl) (by kernel_rfl) ?_ hHeld ?_
              rotate_left
              · (intro w hSw; (try dsimp only at hSw); go_simp <;> with_reducible rfl)
              try simp only [Act.put, List.setIfInBounds_toArray, List.set_cons_zero, List.set_cons_succ]
              refine take2 (i := 1) (v := ?_) (d := some 93) hBl rfl rfl (by kernel_rfl) (by kernel_rfl) (by kernel_rfl) (by kernel_rfl) ?_ hHeld ?_
              rotate_left
              · (intro w hSw; (try dsimp only at hSw); go_simp <;> with_reducible rfl)
              try simp only [Act.put, List.setIfInBounds_toArray, List.set_cons_zero, List.set_cons_succ]
              refine take2 (i := 2) (v := ?_) (d := some 94) hBl rfl rfl (by kernel_rfl) (by kernel_rfl) (by kernel_rfl) (by kernel_rfl) ?_ hHeld ?_
              rotate_left
              · (intro w hSw; (try dsimp only at hSw); go_simp <;> with_reducible rfl)
              try simp only [Act.put, List.setIfInBounds_toArray, List.set_cons_zero, List.set_cons_succ]
              refine take2 (i := 3) (v := ?_) (d := some 95) hBl rfl rfl (by kernel_rfl) (by kernel_rfl) (by kernel_rfl) (by kernel_rfl) ?_ hHeld ?_
              rotate_left
              · (intro w hSw; (try dsimp only at hSw); go_simp <;> with_reducible rfl)
              try simp only [Act.put, List.setIfInBounds_toArray, List.set_cons_zero, List.set_cons_succ]
              refine take2 (i := 4) (v := ?_) (d := some 96) hBl rfl rfl (by kernel_rfl) (by kernel_rfl) (by kernel_rfl) (by kernel_rfl) ?_ hHeld ?_
              rotate_left
              · (intro w hSw; (try dsimp only at hSw); go_simp <;> with_reducible rfl)
              try simp only [Act.put, List.setIfInBounds_toArray, List.set_cons_zero, List.set_cons_succ]
              refine take2 (i := 5) (v := ?_) (d := some 97) hBl rfl rfl (by kernel_rfl) (by kernel_rfl) (by kernel_rfl) (by kernel_rfl) ?_ hHeld ?_
              rotate_left
              · (intro w hSw; (try dsimp only at hSw); go_simp <;> with_reducible rfl)
              try simp only [Act.put, List.setIfInBounds_toArray, List.set_cons_zero, List.set_cons_succ]
              refine take2 (i := 6) (v := ?_) (d := some 98) hBl rfl rfl (by kernel_rfl) (by kernel_rfl) (by kernel_rfl) (by kernel_rfl) ?_ hHeld ?_
              rotate_left
              · (intro w hSw; (try dsimp only at hSw); go_simp <;> with_reducible rfl)
              try simp only [Act.put, List.setIfInBounds_toArray, List.set_cons_zero, List.set_cons_succ]
              refine take2 (i := 7) (v := ?_) (d := some 99) hBl rfl rfl (by kernel_rfl) (by kernel_rfl) (by kernel_rfl) (by kernel_rfl) ?_ hHeld ?_
              rotate_left
              · (intro w hSw; (try dsimp only at hSw); go_simp <;> with_reducible rfl)
              try simp only [Act.put, List.setIfInBounds_toArray, List.set_cons_zero, List.set_cons_succ]
              refine take2 (i := 8) (v := ?_) (d := some 100) hBl rfl rfl (by kernel_rfl) (by kernel_rfl) (by kernel_rfl) (by kernel_rfl) ?_ hHeld ?_
              rotate_left
              · (intro w hSw; (try dsimp only at hSw); go_simp <;> with_reducible rfl)
              try simp only [Act.put, List.setIfInBounds_toArray, List.set_cons_zero, List.set_cons_succ]
              refine take2 (i := 9) (v := ?_) (d := some 101) hBl rfl rfl (by kernel_rfl) (by kernel_rfl) (by kernel_rfl) (by kernel_rfl) ?_ hHeld ?_
              rotate_left
              · (intro w hSw; (try dsimp only at hSw); go_simp <;> with_reducible rfl)
              try simp only [Act.put, List.setIfInBounds_toArray, List.set_cons_zero, List.set_cons_succ]
              refine take2 (i := 10) (v := ?_) (d := some 102) hBl rfl rfl (by kernel_rfl) (by kernel_rfl) (by kernel_rfl) (by kernel_rfl) ?_ hHeld ?_
              rotate_left
              · (intro w hSw; (try dsimp only at hSw); go_simp <;> with_reducible rfl)
              try simp only [Act.put, List.setIfInBounds_toArray, List.set_cons_zero, List.set_cons_succ]
              refine take2 (i := 11) (v := ?_) (d := some 103) hBl rfl rfl (by kernel_rfl) (by kernel_rfl) (by kernel_rfl) (by kernel_rfl) ?_ hHeld ?_
              rotate_left
              · (intro w hSw; (try dsimp only at hSw); go_simp <;> with_reducible rfl)
              try simp only [Act.put, List.setIfInBounds_toArray, List.set_cons_zero, List.set_cons_succ]
              refine take2 (i := 12) (v := ?_) (d := some 104) hBl rfl rfl (by kernel_rfl) (by kernel_rfl) (by kernel_rfl) (by kernel_rfl) ?_ hHeld ?_
              rotate_left
              · (intro w hSw; (try dsimp only at hSw); go_simp <;> with_reducible rfl)
              try simp only [Act.put, List.setIfInBounds_toArray, List.set_cons_zero, List.set_cons_succ]
              refine take2 (i := 13) (v := ?_) (d := some 105) hBl rfl rfl (by kernel_rfl) (by kernel_rfl) (by kernel_rfl) (by kernel_rfl) ?_ hHeld ?_
              rotate_left
              · (intro w hSw; (try dsimp only at hSw); go_simp <;> with_reducible rfl)
              try simp only [Act.put, List.setIfInBounds_toArray, List.set_cons_zero, List.set_cons_succ]
              refine take2 (i := 14) (v := ?_) (d := some 106) hBl rfl rfl (by kernel_rfl) (by kernel_rfl) (by kernel_rfl) (by kernel_rfl) ?_ hHeld ?_
              rotate_left
              · (intro w hSw; (try dsimp only at hSw); go_simp <;> with_reducible rfl)
              try simp only [Act.put, List.setIfInBounds_toArray, List.set_cons_zero, List.set_cons_succ]
              refine take2 (i := 15) (v := ?_) (d := some 107) hBl rfl rfl (by kernel_rfl) (by kernel_rfl) (by kernel_rfl) (by kernel_rfl) ?_ hHeld ?_
              rotate_left
              · (intro w hSw; (try dsimp only at hSw); go_simp <;> with_reducible rfl)
              try simp only [Act.put, List.setIfInBounds_toArray, List.set_cons_zero, List.set_cons_succ]
              refine take2 (i := 16) (v := ?_) (d := some 108) hBl rfl rfl (by kernel_rfl) (by kernel_rfl) (by kernel_rfl) (by kernel_rfl) ?_ hHeld ?_
              rotate_left
              · (intro w hSw; (try dsimp only at hSw); go_simp <;> with_reducible rfl)
              try simp only [Act.put, List.setIfInBounds_toArray, List.set_cons_zero, List.set_cons_succ]
              refine take2 (i := 17) (v := ?_) (d := some 109) hBl rfl rfl (by kernel_rfl) (by kernel_rfl) (by kernel_rfl) (by kernel_rfl) ?_ hHeld ?_
              rotate_left
              · (intro w hSw; (try dsimp only at hSw); go_simp <;> with_reducible rfl)
              try simp only [Act.put, List.setIfInBounds_toArray, List.set_cons_zero, List.set_cons_succ]
              refine take2 (i := 18) (v := ?_) (d := some 110) hBl rfl rfl (by kernel_rfl) (by kernel_rfl) (by kernel_rfl) (by kernel_rfl) ?_ hHeld ?_
              rotate_left
              · (intro w hSw; (try dsimp only at hSw); go_simp <;> with_reducible rfl)
              try simp only [Act.put, List.setIfInBounds_toArray, List.set_cons_zero, List.set_cons_succ]
              refine take2 (i := 19) (v := ?_) (d := some 111) hBl rfl rfl (by kernel_rfl) (by kernel_rfl) (by kernel_rfl) (by kernel_rfl) ?_ hHeld ?_
              rotate_left
              · (intro w hSw; (try dsimp only at hSw); go_simp <;> with_reducible rfl)
              try simp only [Act.put, List.setIfInBounds_toArray, List.set_cons_zero, List.set_cons_succ]
              refine take2 (i := 20) (v := ?_) (d := some 112) hBl rfl rfl (by kernel_rfl) (by kernel_rfl) (by kernel_rfl) (by kernel_rfl) ?_ hHeld ?_
              rotate_left
              · (intro w hSw; (try dsimp only at hSw); go_simp <;> with_reducible rfl)
              try simp only [Act.put, List.setIfInBounds_toArray, List.set_cons_zero, List.set_cons_succ]
              refine take2 (i := 21) (v := ?_) (d := some 113) hBl rfl rfl (by kernel_rfl) (by kernel_rfl) (by kernel_rfl) (by kernel_rfl) ?_ hHeld ?_
              rotate_left
              · (intro w hSw; (try dsimp only at hSw); go_simp <;> with_reducible rfl)
              try simp only [Act.put, List.setIfInBounds_toArray, List.set_cons_zero, List.set_cons_succ]
              refine take2 (i := 23) (v := ?_) (d := some 115) hBl rfl rfl (by kernel_rfl) (by kernel_rfl) (by kernel_rfl) (by kernel_rfl) ?_ hHeld ?_
              rotate_left
              · (intro w hSw; (try dsimp only at hSw); go_simp <;> with_reducible rfl)
              try simp only [Act.put, List.setIfInBounds_toArray, List.set_cons_zero, List.set_cons_succ]
              refine wpAnyH_ready (rs := [22]) (by kernel_rfl) (by simp) ?_
              refine AllReadyH.cons rfl (fun K hK => ?_) AllReadyH.nil
              go_simp
              (go_at_call 42; refine (HFR.out _ R0).mono ?_; rintro e v1 ⟨rfl, b7⟩; have S1 := S0.trans (b7.mono S0.size); have R1 := R0.below b7)
              go_wp2_with fail
              refine hK.out _ _ ⟨S1, R1⟩ (fun hHeld => ?_)
              clear hK K
              try simp only [Act.put, List.setIfInBounds_toArray, List.set_cons_zero, List.set_cons_succ]
              refine take2 (i := 24) (v := ?_) (d := some 116) hBl rfl rfl (by kernel_rfl) (by kernel_rfl) (by kernel_rfl) (by kernel_rfl) ?_ hHeld ?_
              rotate_left
              · (intro w hSw; (try dsimp only at hSw); go_simp <;> with_reducible rfl)
              try simp only [Act.put, List.setIfInBounds_toArray, List.set_cons_zero, List.set_cons_succ]
              refine take2 (i := 25) (v := ?_) (d := some 117) hBl rfl rfl (by kernel_rfl) (by kernel_rfl) (by kernel_rfl) (by kernel_rfl) ?_ hHeld ?_
              rotate_left
              · (intro w hSw; (try dsimp only at hSw); go_simp <;> with_reducible rfl)
              try simp only [Act.put, List.setIfInBounds_toArray, List.set_cons_zero, List.set_cons_succ]
              refine take2 (i := 26) (v := ?_) (d := some 118) hBl rfl rfl (by kernel_rfl) (by kernel_rfl) (by kernel_rfl) (by kernel_rfl) ?_ hHeld ?_
              rotate_left
              · (intro w hSw; (try dsimp only at hSw); go_simp <;> with_reducible rfl)
              try simp only [Act.put, List.setIfInBounds_toArray, List.set_cons_zero, List.set_cons_succ]
              refine take2 (i := 27) (v := ?_) (d := some 119) hBl rfl rfl (by kernel_rfl) (by kernel_rfl) (by kernel_rfl) (by kernel_rfl) ?_ hHeld ?_
              rotate_left
              · (intro w hSw; (try dsimp only at hSw); go_simp <;> with_reducible rfl)
              try simp only [Act.put, List.setIfInBounds_toArray, List.set_cons_zero, List.set_cons_succ]
              refine take2 (i := 29) (v := ?_) (d := some 121) hBl rfl rfl (by kernel_rfl) (by kernel_rfl) (by kernel_rfl) (by kernel_rfl) ?_ hHeld ?_
              rotate_left
              · (intro w hSw; (try dsimp only at hSw); go_simp <;> with_reducible rfl)
              try simp only [Act.put, List.setIfInBounds_toArray, List.set_cons_zero, List.set_cons_succ]
              refine wpAnyH_ready (rs := [28]) (by kernel_rfl) (by simp) ?_
              refine AllReadyH.cons rfl (fun K hK => ?_) AllReadyH.nil
              go_simp
              (go_at_call 43; refine (HPE.out _).mono ?_; rintro e v2 ⟨rfl, q7⟩; have S2 := dr_bel S1 q7; have R2 := R1.below (dr_bel (Below.refl v1.heap.size v1) q7))
              go_wp2_with fail
              refine hK.out _ _ ⟨S2, R2⟩ (fun hHeld => ?_)
              clear hK K
              try simp only [Act.put, List.setIfInBounds_toArray, List.set_cons_zero, List.set_cons_succ]
              refine take2 (i := 30) (v := ?_) (d := some 122) hBl rfl rfl (by kernel_rfl) (by kernel_rfl) (by kernel_rfl) (by kernel_rfl) ?_ hHeld ?_
              rotate_left
              · (intro w hSw; (try dsimp only at hSw); go_simp <;> with_reducible rfl)
              try simp only [Act.put, List.setIfInBounds_toArray, List.set_cons_zero, List.set_cons_succ]
              refine take2 (i := 31) (v := ?_) (d := some 123) hBl rfl rfl (by kernel_rfl) (by kernel_rfl) (by kernel_rfl) (by kernel_rfl) ?_ hHeld ?_
              rotate_left
              · (intro w hSw; (try dsimp only at hSw); go_simp <;> with_reducible rfl)
              try simp only [Act.put, List.setIfInBounds_toArray, List.set_cons_zero, List.set_cons_succ]
              refine take2 (i := 32) (v := ?_) (d := some 124) hBl rfl rfl (by kernel_rfl) (by kernel_rfl) (by kernel_rfl) (by kernel_rfl) ?_ hHeld ?_
              rotate_left
              · (intro w hSw; (try dsimp only at hSw); go_simp <;> with_reducible rfl)
              try simp only [Act.put, List.setIfInBounds_toArray, List.set_cons_zero, List.set_cons_succ]
              refine take2 (i := 33) (v := ?_) (d := some 125) hBl rfl rfl (by kernel_rfl) (by kernel_rfl) (by kernel_rfl) (by kernel_rfl) ?_ hHeld ?_
              rotate_left
              · (intro w hSw; (try dsimp only at hSw); go_simp <;> with_reducible rfl)
              try simp only [Act.put, List.setIfInBounds_toArray, List.set_cons_zero, List.set_cons_succ]
              refine take2 (i := 34) (v := ?_) (d := some 126) hBl rfl rfl (by kernel_rfl) (by kernel_rfl) (by kernel_rfl) (by kernel_rfl) ?_ hHeld ?_
              rotate_left
              · (intro w hSw; (try dsimp only at hSw); go_simp <;> with_reducible rfl)
              try simp only [Act.put, List.setIfInBounds_toArray, List.set_cons_zero, List.set_cons_succ]
              refine take2 (i := 35) (v := ?_) (d := some 127) hBl rfl rfl (by kernel_rfl) (by kernel_rfl) (by kernel_rfl) (by kernel_rfl) ?_ hHeld ?_
              rotate_left
              · (intro w hSw; (try dsimp only at hSw); go_simp <;> with_reducible rfl)
              try simp only [Act.put, List.setIfInBounds_toArray, List.set_cons_zero, List.set_cons_succ]
              refine take2 (i := 36) (v := ?_) (d := some 128) hBl rfl rfl (by kernel_rfl) (by kernel_rfl) (by kernel_rfl) (by kernel_rfl) ?_ hHeld ?_
              rotate_left
              · (intro w hSw; (try dsimp only at hSw); go_simp <;> with_reducible rfl)
              try simp only [Act.put, List.setIfInBounds_toArray, List.set_cons_zero, List.set_cons_succ]
              refine take2 (i := 37) (v := ?_) (d := some 129) hBl rfl rfl (by kernel_rfl) (by kernel_rfl) (by kernel_rfl) (by kernel_rfl) ?_ hHeld ?_
              rotate_left
              · (intro w hSw; (try dsimp only at hSw); go_simp <;> with_reducible rfl)
              try simp only [Act.put, List.setIfInBounds_toArray, List.set_cons_zero, List.set_cons_succ]
              refine take2 (i := 38) (v := ?_) (d := some 130) hBl rfl rfl (by kernel_rfl) (by kernel_rfl) (by kernel_rfl) (by kernel_rfl) ?_ hHeld ?_
              rotate_left
              · (intro w hSw; (try dsimp only at hSw); go_simp <;> with_reducible rfl)
              try simp only [Act.put, List.setIfInBounds_toArray, List.set_cons_zero, List.set_cons_succ]
              refine take2 (i := 41) (v := ?_) (d := some 133) hBl rfl rfl (by kernel_rfl) (by kernel_rfl) (by kernel_rfl) (by kernel_rfl) ?_ hHeld ?_
              rotate_left
              · (intro w hSw; (try dsimp only at hSw); go_simp <;> with_reducible rfl)
              try simp only [Act.put, List.setIfInBounds_toArray, List.set_cons_zero, List.set_cons_succ]
              refine take2 (i := 42) (v := ?_) (d := some 134) hBl rfl rfl (by kernel_rfl) (by kernel_rfl) (by kernel_rfl) (by kernel_rfl) ?_ hHeld ?_
              rotate_left
              · (intro w hSw; (try dsimp only at hSw); go_simp <;> with_reducible rfl)
              try simp only [Act.put, List.setIfInBounds_toArray, List.set_cons_zero, List.set_cons_succ]
              refine take2 (i := 43) (v := ?_) (d := some 135) hBl rfl rfl (by kernel_rfl) (by kernel_rfl) (by kernel_rfl) (by kernel_rfl) ?_ hHeld ?_
              rotate_left
              · (intro w hSw; (try dsimp only at hSw); go_simp <;> with_reducible rfl)
              try simp only [Act.put, List.setIfInBounds_toArray, List.set_cons_zero, List.set_cons_succ]
              refine take2 (i := 44) (v := ?_) (d := some 136) hBl rfl rfl (by kernel_rfl) (by kernel_rfl) (by kernel_rfl) (by kernel_rfl) ?_ hHeld ?_
              rotate_left
              · (intro w hSw; (try dsimp only at hSw); go_simp <;> with_reducible rfl)
              try simp only [Act.put, List.setIfInBounds_toArray, List.set_cons_zero, List.set_cons_succ]
              refine take2 (i := 45) (v := ?_) (d := some 137) hBl rfl rfl (by kernel_rfl) (by kernel_rfl) (by kernel_rfl) (by kernel_rfl) ?_ hHeld ?_
              rotate_left
              · (intro w hSw; (try dsimp only at hSw); go_simp <;> with_reducible rfl)
              try simp only [Act.put, List.setIfInBounds_toArray, List.set_cons_zero, List.set_cons_succ]
              refine take2 (i := 46) (v := ?_) (d := some 138) hBl rfl rfl (by kernel_rfl) (by kernel_rfl) (by kernel_rfl) (by kernel_rfl) ?_ hHeld ?_
              rotate_left
              · (intro w hSw; (try dsimp only at hSw); go_simp <;> with_reducible rfl)
              try simp only [Act.put, List.setIfInBounds_toArray, List.set_cons_zero, List.set_cons_succ]
              refine wpAnyH_ready (rs := [39]) (by kernel_rfl) (by simp) ?_
              refine AllReadyH.cons rfl (fun K hK => ?_) AllReadyH.nil
              go_simp
              (go_at_call 40; refine (C0.out _).mono ?_; rintro e v3 ⟨rfl, rfl⟩)
              go_wp2_with fail
              refine hK.out _ _ ⟨S2, R2⟩ (fun hHeld => ?_)
              clear hK K
              try simp only [Act.put, List.setIfInBounds_toArray, List.set_cons_zero, List.set_cons_succ]
              refine take2 (i := 40) (v := ?_) (d := some 132) hBl rfl rfl (by kernel_rfl) (by kernel_rfl) (by kernel_rfl) (by kernel_rfl) ?_ hHeld ?_
              rotate_left
              · (intro w hSw; (try dsimp only at hSw); go_simp <;> with_reducible rfl)
              try simp only [Act.put, List.setIfInBounds_toArray, List.set_cons_zero, List.set_cons_succ]
              refine wpAnyH_ready (rs := [47]) (by kernel_rfl) (by simp) ?_
              refine AllReadyH.cons rfl (fun K hK => ?_) AllReadyH.nil
              go_simp
              (go_at_call 40; refine (C9.out _).mono ?_; rintro e v4 ⟨rfl, rfl⟩)
              go_wp2_with fail
              refine hK.out _ _ ⟨S2, R2⟩ (fun hHeld => ?_)
              clear hK K
              try simp only [Act.put, List.setIfInBounds_toArray, List.set_cons_zero, List.set_cons_succ]
              refine take2 (i := 48) (v := ?_) (d := some 140) hBl rfl rfl (by kernel_rfl) (by kernel_rfl) (by kernel_rfl) (by kernel_rfl) ?_ hHeld ?_
              rotate_left
              · (intro w hSw; (try dsimp only at hSw); go_simp <;> with_reducible rfl)
              try simp only [Act.put, List.setIfInBounds_toArray, List.set_cons_zero, List.set_cons_succ]
              refine take2 (i := 49) (v := ?_) (d := some 141) hBl rfl rfl (by kernel_rfl) (by kernel_rfl) (by kernel_rfl) (by kernel_rfl) ?_ hHeld ?_
              rotate_left
              · (intro w hSw; (try dsimp only at hSw); go_simp <;> with_reducible rfl)
              try simp only [Act.put, List.setIfInBounds_toArray, List.set_cons_zero, List.set_cons_succ]
              refine take2 (i := 50) (v := ?_) (d := some 142) hBl rfl rfl (by kernel_rfl) (by kernel_rfl) (by kernel_rfl) (by kernel_rfl) ?_ hHeld ?_
              rotate_left
              · (intro w hSw; (try dsimp only at hSw); go_simp <;> with_reducible rfl)
              try simp only [Act.put, List.setIfInBounds_toArray, List.set_cons_zero, List.set_cons_succ]
              refine take2 (i := 51) (v := ?_) (d := some 143) hBl rfl rfl (by kernel_rfl) (by kernel_rfl) (by kernel_rfl) (by kernel_rfl) ?_ hHeld ?_
              rotate_left
              · (intro w hSw; (try dsimp only at hSw); go_simp <;> with_reducible rfl)
              try simp only [Act.put, List.setIfInBounds_toArray, List.set_cons_zero, List.set_cons_succ]
              refine take2 (i := 52) (v := ?_) (d := some 144) hBl rfl rfl (by kernel_rfl) (by kernel_rfl) (by kernel_rfl) (by kernel_rfl) ?_ hHeld ?_
              rotate_left
              · (intro w hSw; (try dsimp only at hSw); go_simp <;> with_reducible rfl)
              try simp only [Act.put, List.setIfInBounds_toArray, List.set_cons_zero, List.set_cons_succ]
              refine take2 (i := 53) (v := ?_) (d := some 145) hBl rfl rfl (by kernel_rfl) (by kernel_rfl) (by kernel_rfl) (by kernel_rfl) ?_ hHeld ?_
              rotate_left
              · (intro w hSw; (try dsimp only at hSw); go_simp <;> with_reducible rfl)
              try simp only [Act.put, List.setIfInBounds_toArray, List.set_cons_zero, List.set_cons_succ]
              refine take2 (i := 54) (v := ?_) (d := some 146) hBl rfl rfl (by kernel_rfl) (by kernel_rfl) (by kernel_rfl) (by kernel_rfl) ?_ hHeld ?_
              rotate_left
              · (intro w hSw; (try dsimp only at hSw); go_simp <;> with_reducible rfl)
              try simp only [Act.put, List.setIfInBounds_toArray, List.set_cons_zero, List.set_cons_succ]
              refine take2 (i := 55) (v := ?_) (d := some 147) hBl rfl rfl (by kernel_rfl) (by kernel_rfl) (by kernel_rfl) (by kernel_rfl) ?_ hHeld ?_
              rotate_left
              · (intro w hSw; (try dsimp only at hSw); go_simp <;> with_reducible rfl)
              try simp only [Act.put, List.setIfInBounds_toArray, List.set_cons_zero, List.set_cons_succ]
              refine take2 (i := 56) (v := ?_) (d := some 2) hBl rfl rfl (by kernel_rfl) (by kernel_rfl) (by kernel_rfl) (by kernel_rfl) ?_ hHeld ?_
              rotate_left
              · (intro w hSw; (try dsimp only at hSw); go_simp <;> with_reducible rfl)
              try simp only [Act.put, List.setIfInBounds_toArray, List.set_cons_zero, List.set_cons_succ]
              refine wpAnyH_done (by kernel_rfl) ?_ _
              go_wp2
              go_ret
              exact ⟨rfl, S2⟩

set_option maxRecDepth 100000 in
theorem lifted (os : Os) (started : os.Started) (H : Type) (enc : TypeId × Value → H) :
    ReturnsInHanded {} Try.checked os 10 .any (Rows.fnCornersSpec.pre6 enc Try.prog Try.f10 Rows.fnCornersRow.domain false) (Rows.fnCornersSpec.post enc Try.prog Try.f10 false true false false) := by
  refine returnsInHanded_of_change (C := Try.checked) own started (by kernel_rfl) Try.func10
    (ChangeSpec.witness6 (enc := enc) (C := Try.checked) false ⟨#[], #[.slice none 0 0], []⟩ 8 (by kernel_rfl) (by kernel_rfl) (by kernel_rfl) (by kernel_rfl)) ?_
  intro W base args ds gs before hval0 hW hcnd _
  have hval : ∀ (j : Nat) t v, Try.f10.params[j]? = some t → args[j]? = some v → Value.okWide Try.prog W .any base t v := hval0
  have hW' := hW
  obtain ⟨p, q, hA0, hV, rfl, hfz, hnd⟩ := hW
  have hA : DataW.TrodAll enc Try.prog W 0 (fun _ => true) true Try.f10.params.toList args.toList ds p := hA0
  rw [Try.params10] at hA hval
  obtain ⟨v0, vs0, d0, ds0, p0, q0, hargs, rfl, rfl, h0, r0⟩ := trodAll_cons hA
  obtain ⟨rfl, rfl, rfl⟩ := trodAll_nil r0
  obtain rfl : args = #[v0] := by cases args; simp_all
  obtain ⟨rfl, rfl⟩ := trodVars_none hV
  have k0 := h0
  have lt0 : ∀ x ∈ p0, x.block < W.heap.size := by obtain ⟨m, hm⟩ := k0; exact DataW.trod_lt m _ _ _ hm
  obtain ⟨ba0, bn0, bc0, rfl, bm0, br0⟩ := codeIn (hval 0 45 v0 rfl rfl) h0
  clear hA0 hval0
  refine (walk ba0 bn0 bc0 W bm0 br0).mono fun e W' ⟨he, bel⟩ => ?_
  subst he
  exact ⟨_, rfl, _, _, _, [], _, [], hW', trodAll_mk1 (shut_bool Try.underlying4 _), (trodAll_cons_mk (Below.trod laidOut (by kernel_rfl) (of_decide_eq_true (by kernel_rfl)) k0 bel lt0) trodAll_mk0), rfl, bel.frame _, fun h => by cases h⟩

theorem closed : joinedFacts Try.prog 10 Try.f10 Rows.fnCornersSpec Rows.fnCornersRow = true := by
  unfold joinedFacts
  rw [cellMay, cellFinal, cellMake]
  repeat' (with_reducible refine and_mk ?_ ?_)
  all_goals first | with_reducible rfl | as_aux_lemma => kernel_rfl
theorem proved : Rows.FnCornersSaid :=
  OpenClaim.holds_of_wide 10 Try.f10 rfl rfl rfl rfl rfl rfl rfl ⟨rfl, rfl, rfl, rfl, rfl⟩ rfl rfl rfl rfl rfl (by kernel_rfl) Try.func10 closed
    (of_decide_eq_true (by kernel_rfl)) (by unfold Func.isWrapper; first | (rw [if_pos (by decide +kernel)]; kernel_rfl) | (rw [if_neg (by decide +kernel)]; exact ⟨rfl, rfl⟩))
    (fun os started H enc _ => lifted os started H enc)
#print axioms proved
end Go.Proofs.Ytmpbhhggbmjfcaa.fnCorners
