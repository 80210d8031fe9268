/- Contracts of isSameStep, CutsBetween. -/
import Derived.Test.YtmpbhhggbmjfcaaOrderFns
import Derived.Test.YtmpbhhggbmjfcaaCut
namespace Go.Proofs.Ytmpbhhggbmjfcaa
open Go.RowKit
set_option linter.unusedVariables false
set_option linter.unusedSimpArgs false

set_option maxHeartbeats 1600000 in
theorem isSameStep_any (s t : ByteArray) (k : Nat) (hs : s.size ≤ maxLen) (ht : t.size ≤ maxLen) (hks : k < s.size) (hkt : k < t.size) (w : World) :
    Calls Try.prog 81 #[.string s, .string t, .int .i64 k] w fun e w' => e = .returned (.bool (!cut s t k)) ∧ ∃ n, w' = w.drewN n := by
  have hs' := hs
  unfold maxLen at hs' ht
  have hks' : (k : Int) < (s.size : Int) := by omega
  have hkt' : (k : Int) < (t.size : Int) := by omega
  have hm2 : t.size ≤ maxLen := by unfold maxLen; exact ht
  have hm1 : s.size ≤ maxLen := hs
  by_cases h1 : s[k].toNat = t[k].toNat
  · have q1 : ((s[k].toNat : Int) == (t[k].toNat : Int)) = true := beq_iff_eq.2 (by omega)
    by_cases h2 : cF (s.data.toList.take k) = cF (t.data.toList.take k)
    · have q2 : ((cF (s.data.toList.take k) : Int) == (cF (t.data.toList.take k) : Int)) = true := beq_iff_eq.2 (by omega)
      have R := Lib.hid (cut_not (byt_eq hks hkt h1) h2)
      clear h1 h2
      go_enter Try.func81, Try.ntmps81
      go_wp2
      go_quiet ((first | (go_at_call 80; with_reducible exact Calls.quiet_of_same ((forwards_any s k (by omega) hm1 _).mono fun _ _ h => ⟨h.1, h.2.symm⟩)) | (go_at_call 80; with_reducible exact Calls.quiet_of_same ((forwards_any t k (by omega) hm2 _).mono fun _ _ h => ⟨h.1, h.2.symm⟩))))
      go_wp2
      go_ret
      exact ⟨ret_bool (by rw [R.out]; rfl), _, rfl⟩
    · have q2 : ((cF (s.data.toList.take k) : Int) == (cF (t.data.toList.take k) : Int)) = false := beq_eq_false_iff_ne.2 (by omega)
      have R := Lib.hid (cut_cnt (s := s) (t := t) (k := k) h2)
      clear h1 h2
      go_enter Try.func81, Try.ntmps81
      go_wp2
      go_quiet ((first | (go_at_call 80; with_reducible exact Calls.quiet_of_same ((forwards_any s k (by omega) hm1 _).mono fun _ _ h => ⟨h.1, h.2.symm⟩)) | (go_at_call 80; with_reducible exact Calls.quiet_of_same ((forwards_any t k (by omega) hm2 _).mono fun _ _ h => ⟨h.1, h.2.symm⟩))))
      go_wp2
      go_ret
      exact ⟨ret_bool (by rw [R.out]; rfl), _, rfl⟩
  · have q1 : ((s[k].toNat : Int) == (t[k].toNat : Int)) = false := beq_eq_false_iff_ne.2 (by omega)
    have R := Lib.hid (cut_byte (byt_ne hks hkt h1))
    clear h1
    go_enter Try.func81, Try.ntmps81
    go_wp2
    go_quiet ((first | (go_at_call 80; with_reducible exact Calls.quiet_of_same ((forwards_any s k (by omega) hm1 _).mono fun _ _ h => ⟨h.1, h.2.symm⟩)) | (go_at_call 80; with_reducible exact Calls.quiet_of_same ((forwards_any t k (by omega) hm2 _).mono fun _ _ h => ⟨h.1, h.2.symm⟩))))
    go_wp2
    go_ret
    exact ⟨ret_bool (by rw [R.out]; rfl), _, rfl⟩

set_option maxHeartbeats 1600000 in
theorem implCutsBetween_any (s t : ByteArray) (hs : s.size ≤ maxLen) (ht : t.size ≤ maxLen) (w : World) :
    Calls Try.prog 50 #[.string s, .string t] w fun e w' => ∃ v, e = .returned v ∧ OwnI w.heap.size v (cutV s t) w' ∧ Below w.heap.size w w' := by
  have hs' := hs
  unfold maxLen at hs'
  obtain ⟨i0, hi, hz0, hz1, hz2⟩ := info_parts Try.info3
  cases hf : sameF s.data.toList t.data.toList with
  | false =>
    have R := Lib.hid (cutV_no hf)
    go_enter Try.func50, Try.ntmps50
    go_wp2_with fail
    refine (implSameFrame_any _ _ hs ht _).mono ?_
    rintro e w' ⟨rfl, rfl⟩
    go_wp2
    go_ret
    exact ⟨_, rfl, by rw [R.out]; exact ownI_nil _ _, Below.refl _ _⟩
  | true =>
    have R := Lib.hid (cutV_yes hf)
    obtain ⟨z1, _, z3, _, _⟩ := sameF_size hf
    have Z1 := Lib.hid z1; clear z1
    go_enter Try.func50, Try.ntmps50
    go_wp2_with fail
    refine (implSameFrame_any _ _ hs ht _).mono ?_
    rintro e w' ⟨rfl, rfl⟩
    go_wp2
    go_loopw [5, 14] (fun v i wr => ∃ k : Nat, k ≤ s.size ∧ i = .int .i64 k ∧ OwnI w.heap.size v (cutI s t k) wr ∧ Below w.heap.size w wr) (fun _ i _ => s.size - (intOf i).toNat)
    case atStart => exact ⟨0, Nat.zero_le _, rfl, ownI_made w _ (Nat.le_refl _), (Below.refl _ _).alloc (Nat.le_refl _) _⟩
    case round =>
      obtain ⟨k, hk, rfl, hown, hb⟩ := hrel
      have hl := cutI_le s t k
      by_cases hlt : k < s.size
      · have hkt : k < t.size := by have := Z1.out; omega
        cases hc : cut s t k with
        | true =>
          have HI := Lib.hid (cutI_hit hc)
          go_wp2_with fail
          refine (isSameStep_any _ _ _ hs ht hlt hkt _).mono ?_
          rintro e w' ⟨rfl, q, rfl⟩
          have hn1 : (cutI s t k).length + 1 ≤ maxLen := by unfold maxLen; omega
          have hn2 : ((cutI s t k).length + 1) * 8 ≤ 140737488355328 := by omega
          have hsz : w.heap.size ≤ (wr.drewN q).heap.size := hb.size
          have hown' : (wr.drewN q).ownsRow w.heap.size 3 1 u5 (cutI s t k).length (intCells (cutI s t k)) := hown
          go_wp2_with (at_builtin; refine wpList_app1 rfl _ _ 48 rfl w.heap.size 3 i0 (.int .i64 0) 8 Try.underlying48 hi hz0 hz1 hz2 rfl _ _ _ rfl hown' _ rfl rfl hn1 hn2 hsz ?_; intro g cap w1 hown1 hg1)
          have hown2 := ownI_snoc rfl hown1
          have hb1 := below_of_grown (wr := wr.drewN q) (dr_below' hb ⟨_, rfl⟩) hsz hown' hg1
          rw [← HI.out] at hown2
          clear hown1 hg1
          go_wp2
          go_roundw
          case rel => exact ⟨k + 1, by omega, by go_num, hown2, hb1⟩
          case measure => simp [intOf]; omega
        | false =>
          have HI := Lib.hid (cutI_miss hc)
          go_wp2_with fail
          refine (isSameStep_any _ _ _ hs ht hlt hkt _).mono ?_
          rintro e w' ⟨rfl, q, rfl⟩
          go_wp2
          go_roundw
          case rel => exact ⟨k + 1, by omega, by go_num, by rw [HI.out]; exact hown.drewN q, dr_below' hb ⟨_, rfl⟩⟩
          case measure => simp [intOf]; omega
      · obtain rfl : k = s.size := by omega
        go_wp2
        go_ret
        exact ⟨_, rfl, by rw [R.out]; exact hown, hb⟩

set_option maxHeartbeats 6400000 in
theorem specCutsBetween_any (s t : ByteArray) (hs : s.size ≤ maxLen) (ht : t.size ≤ maxLen) (w : World) :
    Calls Try.prog 49 #[.string s, .string t] w fun e w' => ∃ v, e = .returned v ∧ OwnI w.heap.size v (cutV s t) w' ∧ Below w.heap.size w w' := by
  have hs' := hs
  unfold maxLen at hs'
  obtain ⟨i0, hi, hz0, hz1, hz2⟩ := info_parts Try.info3
  cases hf : sameF s.data.toList t.data.toList with
  | false =>
    have R := Lib.hid (cutV_no hf)
    by_cases h0 : 0 < s.size
    · have h0' : (0 : Int) < (s.size : Int) := by omega
      go_enter Try.func49, Try.ntmps49
      go_wp2
      refine wp_loop_rounds 1 ?_
      rw [rounds_succ]
      go_wp2_with fail
      refine (specSameFrame_any _ _ hs ht _).mono ?_
      rintro e w' ⟨rfl, rfl⟩
      go_wp2
      go_ret
      exact ⟨_, rfl, by rw [R.out]; exact ownI_made w _ (Nat.le_refl _), (Below.refl _ _).alloc (Nat.le_refl _) _⟩
    · have h0' : (s.size : Int) ≤ 0 := by omega
      go_enter Try.func49, Try.ntmps49
      go_wp2
      refine wp_loop_rounds 1 ?_
      rw [rounds_succ]
      go_wp2
      go_ret
      exact ⟨_, rfl, by rw [R.out]; exact ownI_made w _ (Nat.le_refl _), (Below.refl _ _).alloc (Nat.le_refl _) _⟩
  | true =>
    have R := Lib.hid (cutV_yes hf)
    have H12 := (sameF_iff _ _).1 hf
    obtain ⟨z1, _, z3, _, _⟩ := sameF_size hf
    have Z1 := Lib.hid z1; have HSS := Lib.hid H12.1; have HTT := Lib.hid H12.2.1; clear z1 H12
    go_enter Try.func49, Try.ntmps49
    go_wp2
    go_loopw [5, 6, 7, 8] (fun v f g i wr => ∃ k : Nat, k ≤ s.size ∧ i = .int .i64 k ∧ f = .int .i64 (cF (s.data.toList.take k)) ∧ g = .int .i64 (cF (t.data.toList.take k)) ∧ OwnI w.heap.size v (cutI s t k) wr ∧ Below w.heap.size w wr) (fun _ _ _ i _ => s.size - (intOf i).toNat)
    case atStart => exact ⟨0, Nat.zero_le _, rfl, rfl, rfl, ownI_made w _ (Nat.le_refl _), (Below.refl _ _).alloc (Nat.le_refl _) _⟩
    case round =>
      obtain ⟨k, hk, rfl, rfl, rfl, hown, hb⟩ := hrel
      have hl := cutI_le s t k
      have hb1' := (cnt_take_le s.data.toList k).2
      have hb2' := (cnt_take_le t.data.toList k).2
      by_cases hlt : k < s.size
      · have hkt : k < t.size := by have := Z1.out; omega
        have hkt' : (k : Int) < (t.size : Int) := by omega
        have hks' : (k : Int) < (s.size : Int) := by omega
        have HS := Lib.hid (cF_snoc s k hlt)
        have HT := Lib.hid (cF_snoc t k hkt)
        have L1 := strip_letter HSS.out k hlt
        have L2 := strip_letter HTT.out k hkt
        by_cases ca : s[k].toNat = 102
        · by_cases cb : t[k].toNat = 102
          · by_cases cc : cF (s.data.toList.take k) = cF (t.data.toList.take k)
            · clear L1 L2
              have ls : ((s[k].toNat : Int) == 102) = true := beq_iff_eq.2 (by omega)
              have lt : ((t[k].toNat : Int) == 102) = true := beq_iff_eq.2 (by omega)
              have HA : Hid (cF (s.data.toList.take (k + 1)) = cF (s.data.toList.take k) + 1) := Lib.hid (by rw [HS.out, if_pos ca])
              have HB : Hid (cF (t.data.toList.take (k + 1)) = cF (t.data.toList.take k) + 1) := Lib.hid (by rw [HT.out, if_pos cb])
              have q1 : ((s[k].toNat : Int) != (t[k].toNat : Int)) = false := by rw [bne_eq_false_iff_eq]; omega
              have q2 : ((cF (s.data.toList.take k) : Int) != (cF (t.data.toList.take k) : Int)) = false := by rw [bne_eq_false_iff_eq]; omega
              have HC := Lib.hid (cut_not (byt_eq hlt hkt (by omega)) cc)
              have HI := Lib.hid (cutI_miss HC.out)
              clear ca cb cc
              go_wp2_with fail
              refine (specSameFrame_any _ _ hs ht _).mono ?_
              rintro e w' ⟨rfl, rfl⟩
              go_wp2
              go_quiet (fail)
              go_wp2
              go_roundw
              case rel => exact ⟨k + 1, by omega, by go_num, by rw [HA.out]; go_num, by rw [HB.out]; go_num, by rw [HI.out]; exact hown.drewN nq, dr_below' hb ⟨_, rfl⟩⟩
              case measure => simp [intOf]; omega
            · clear L1 L2
              have ls : ((s[k].toNat : Int) == 102) = true := beq_iff_eq.2 (by omega)
              have lt : ((t[k].toNat : Int) == 102) = true := beq_iff_eq.2 (by omega)
              have HA : Hid (cF (s.data.toList.take (k + 1)) = cF (s.data.toList.take k) + 1) := Lib.hid (by rw [HS.out, if_pos ca])
              have HB : Hid (cF (t.data.toList.take (k + 1)) = cF (t.data.toList.take k) + 1) := Lib.hid (by rw [HT.out, if_pos cb])
              have q1 : ((s[k].toNat : Int) != (t[k].toNat : Int)) = false := by rw [bne_eq_false_iff_eq]; omega
              have q2 : ((cF (s.data.toList.take k) : Int) != (cF (t.data.toList.take k) : Int)) = true := by rw [bne_iff_ne]; omega
              have HC := Lib.hid (cut_cnt (s := s) (t := t) (k := k) cc)
              have HI := Lib.hid (cutI_hit HC.out)
              clear ca cb cc
              go_wp2_with fail
              refine (specSameFrame_any _ _ hs ht _).mono ?_
              rintro e w' ⟨rfl, rfl⟩
              go_wp2
              go_quiet (fail)
              have hn1 : (cutI s t k).length + 1 ≤ maxLen := by unfold maxLen; omega
              have hn2 : ((cutI s t k).length + 1) * 8 ≤ 140737488355328 := by omega
              have hsz : w.heap.size ≤ (wr.drewN nq).heap.size := hb.size
              have hown' : (wr.drewN nq).ownsRow w.heap.size 3 1 u5 (cutI s t k).length (intCells (cutI s t k)) := hown
              go_wp2_with (at_builtin; refine wpList_app1 rfl _ _ 48 rfl w.heap.size 3 i0 (.int .i64 0) 8 Try.underlying48 hi hz0 hz1 hz2 rfl _ _ _ rfl hown' _ rfl rfl hn1 hn2 hsz ?_; intro g cap w1 hown1 hg1)
              have hown2 := ownI_snoc rfl hown1
              have hb1 := below_of_grown (wr := wr.drewN nq) (dr_below' hb ⟨_, rfl⟩) hsz hown' hg1
              rw [← HI.out] at hown2
              clear hown1 hg1
              go_wp2
              go_roundw
              case rel => exact ⟨k + 1, by omega, by go_num, by rw [HA.out]; go_num, by rw [HB.out]; go_num, hown2, hb1⟩
              case measure => simp [intOf]; omega
          · skip
            have ls : ((s[k].toNat : Int) == 102) = true := beq_iff_eq.2 (by omega)
            have lt : ((t[k].toNat : Int) == 102) = false := beq_eq_false_iff_ne.2 (by omega)
            have HA : Hid (cF (s.data.toList.take (k + 1)) = cF (s.data.toList.take k) + 1) := Lib.hid (by rw [HS.out, if_pos ca])
            have HB : Hid (cF (t.data.toList.take (k + 1)) = cF (t.data.toList.take k)) := Lib.hid (by rw [HT.out, if_neg cb]; rfl)
            have q1 : ((s[k].toNat : Int) != (t[k].toNat : Int)) = true := by rw [bne_iff_ne]; omega
            have HC := Lib.hid (cut_byte (byt_ne hlt hkt (by omega)))
            have HI := Lib.hid (cutI_hit HC.out)
            clear ca cb
            go_wp2_with fail
            refine (specSameFrame_any _ _ hs ht _).mono ?_
            rintro e w' ⟨rfl, rfl⟩
            go_wp2
            go_quiet (fail)
            have hn1 : (cutI s t k).length + 1 ≤ maxLen := by unfold maxLen; omega
            have hn2 : ((cutI s t k).length + 1) * 8 ≤ 140737488355328 := by omega
            have hsz : w.heap.size ≤ (wr.drewN nq).heap.size := hb.size
            have hown' : (wr.drewN nq).ownsRow w.heap.size 3 1 u5 (cutI s t k).length (intCells (cutI s t k)) := hown
            go_wp2_with (at_builtin; refine wpList_app1 rfl _ _ 48 rfl w.heap.size 3 i0 (.int .i64 0) 8 Try.underlying48 hi hz0 hz1 hz2 rfl _ _ _ rfl hown' _ rfl rfl hn1 hn2 hsz ?_; intro g cap w1 hown1 hg1)
            have hown2 := ownI_snoc rfl hown1
            have hb1 := below_of_grown (wr := wr.drewN nq) (dr_below' hb ⟨_, rfl⟩) hsz hown' hg1
            rw [← HI.out] at hown2
            clear hown1 hg1
            go_wp2
            go_roundw
            case rel => exact ⟨k + 1, by omega, by go_num, by rw [HA.out]; go_num, by rw [HB.out], hown2, hb1⟩
            case measure => simp [intOf]; omega
        · by_cases cb : t[k].toNat = 102
          · skip
            have ls : ((s[k].toNat : Int) == 102) = false := beq_eq_false_iff_ne.2 (by omega)
            have lt : ((t[k].toNat : Int) == 102) = true := beq_iff_eq.2 (by omega)
            have HA : Hid (cF (s.data.toList.take (k + 1)) = cF (s.data.toList.take k)) := Lib.hid (by rw [HS.out, if_neg ca]; rfl)
            have HB : Hid (cF (t.data.toList.take (k + 1)) = cF (t.data.toList.take k) + 1) := Lib.hid (by rw [HT.out, if_pos cb])
            have q1 : ((s[k].toNat : Int) != (t[k].toNat : Int)) = true := by rw [bne_iff_ne]; omega
            have HC := Lib.hid (cut_byte (byt_ne hlt hkt (by omega)))
            have HI := Lib.hid (cutI_hit HC.out)
            clear ca cb
            go_wp2_with fail
            refine (specSameFrame_any _ _ hs ht _).mono ?_
            rintro e w' ⟨rfl, rfl⟩
            go_wp2
            go_quiet (fail)
            have hn1 : (cutI s t k).length + 1 ≤ maxLen := by unfold maxLen; omega
            have hn2 : ((cutI s t k).length + 1) * 8 ≤ 140737488355328 := by omega
            have hsz : w.heap.size ≤ (wr.drewN nq).heap.size := hb.size
            have hown' : (wr.drewN nq).ownsRow w.heap.size 3 1 u5 (cutI s t k).length (intCells (cutI s t k)) := hown
            go_wp2_with (at_builtin; refine wpList_app1 rfl _ _ 48 rfl w.heap.size 3 i0 (.int .i64 0) 8 Try.underlying48 hi hz0 hz1 hz2 rfl _ _ _ rfl hown' _ rfl rfl hn1 hn2 hsz ?_; intro g cap w1 hown1 hg1)
            have hown2 := ownI_snoc rfl hown1
            have hb1 := below_of_grown (wr := wr.drewN nq) (dr_below' hb ⟨_, rfl⟩) hsz hown' hg1
            rw [← HI.out] at hown2
            clear hown1 hg1
            go_wp2
            go_roundw
            case rel => exact ⟨k + 1, by omega, by go_num, by rw [HA.out], by rw [HB.out]; go_num, hown2, hb1⟩
            case measure => simp [intOf]; omega
          · by_cases cc : cF (s.data.toList.take k) = cF (t.data.toList.take k)
            · skip
              have ls : ((s[k].toNat : Int) == 102) = false := beq_eq_false_iff_ne.2 (by omega)
              have lt : ((t[k].toNat : Int) == 102) = false := beq_eq_false_iff_ne.2 (by omega)
              have HA : Hid (cF (s.data.toList.take (k + 1)) = cF (s.data.toList.take k)) := Lib.hid (by rw [HS.out, if_neg ca]; rfl)
              have HB : Hid (cF (t.data.toList.take (k + 1)) = cF (t.data.toList.take k)) := Lib.hid (by rw [HT.out, if_neg cb]; rfl)
              have q1 : ((s[k].toNat : Int) != (t[k].toNat : Int)) = false := by rw [bne_eq_false_iff_eq]; omega
              have q2 : ((cF (s.data.toList.take k) : Int) != (cF (t.data.toList.take k) : Int)) = false := by rw [bne_eq_false_iff_eq]; omega
              have HC := Lib.hid (cut_not (byt_eq hlt hkt (by omega)) cc)
              have HI := Lib.hid (cutI_miss HC.out)
              clear ca cb cc
              go_wp2_with fail
              refine (specSameFrame_any _ _ hs ht _).mono ?_
              rintro e w' ⟨rfl, rfl⟩
              go_wp2
              go_quiet (fail)
              go_wp2
              go_roundw
              case rel => exact ⟨k + 1, by omega, by go_num, by rw [HA.out], by rw [HB.out], by rw [HI.out]; exact hown.drewN nq, dr_below' hb ⟨_, rfl⟩⟩
              case measure => simp [intOf]; omega
            · skip
              have ls : ((s[k].toNat : Int) == 102) = false := beq_eq_false_iff_ne.2 (by omega)
              have lt : ((t[k].toNat : Int) == 102) = false := beq_eq_false_iff_ne.2 (by omega)
              have HA : Hid (cF (s.data.toList.take (k + 1)) = cF (s.data.toList.take k)) := Lib.hid (by rw [HS.out, if_neg ca]; rfl)
              have HB : Hid (cF (t.data.toList.take (k + 1)) = cF (t.data.toList.take k)) := Lib.hid (by rw [HT.out, if_neg cb]; rfl)
              have q1 : ((s[k].toNat : Int) != (t[k].toNat : Int)) = false := by rw [bne_eq_false_iff_eq]; omega
              have q2 : ((cF (s.data.toList.take k) : Int) != (cF (t.data.toList.take k) : Int)) = true := by rw [bne_iff_ne]; omega
              have HC := Lib.hid (cut_cnt (s := s) (t := t) (k := k) cc)
              have HI := Lib.hid (cutI_hit HC.out)
              clear ca cb cc
              go_wp2_with fail
              refine (specSameFrame_any _ _ hs ht _).mono ?_
              rintro e w' ⟨rfl, rfl⟩
              go_wp2
              go_quiet (fail)
              have hn1 : (cutI s t k).length + 1 ≤ maxLen := by unfold maxLen; omega
              have hn2 : ((cutI s t k).length + 1) * 8 ≤ 140737488355328 := by omega
              have hsz : w.heap.size ≤ (wr.drewN nq).heap.size := hb.size
              have hown' : (wr.drewN nq).ownsRow w.heap.size 3 1 u5 (cutI s t k).length (intCells (cutI s t k)) := hown
              go_wp2_with (at_builtin; refine wpList_app1 rfl _ _ 48 rfl w.heap.size 3 i0 (.int .i64 0) 8 Try.underlying48 hi hz0 hz1 hz2 rfl _ _ _ rfl hown' _ rfl rfl hn1 hn2 hsz ?_; intro g cap w1 hown1 hg1)
              have hown2 := ownI_snoc rfl hown1
              have hb1 := below_of_grown (wr := wr.drewN nq) (dr_below' hb ⟨_, rfl⟩) hsz hown' hg1
              rw [← HI.out] at hown2
              clear hown1 hg1
              go_wp2
              go_roundw
              case rel => exact ⟨k + 1, by omega, by go_num, by rw [HA.out], by rw [HB.out], hown2, hb1⟩
              case measure => simp [intOf]; omega
      · obtain rfl : k = s.size := by omega
        go_wp2
        go_ret
        exact ⟨_, rfl, by rw [R.out]; exact hown, hb⟩

end Go.Proofs.Ytmpbhhggbmjfcaa
