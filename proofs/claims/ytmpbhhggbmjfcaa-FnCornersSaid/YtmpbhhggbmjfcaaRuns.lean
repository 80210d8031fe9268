/- Runs of a strip as plain lists; contracts of RunsOf and CountFolds. -/
import Derived.Test.YtmpbhhggbmjfcaaCorners
import Derived.Test.YtmpbhhggbmjfcaaOwn2
namespace Go.Proofs.Ytmpbhhggbmjfcaa
open Go.RowKit
set_option linter.unusedVariables false
set_option linter.unusedSimpArgs false

/-- The k-th element, 0 beyond the end. -/
def el (c : List Int) (k : Nat) : Int := c.getD k 0
/-- Where the k-th run begins: 0, or the fold ahead of it. -/
def frR (c : List Int) (k : Nat) : Int := if k = 0 then 0 else el c (k - 1)
theorem frR_zero (c : List Int) : frR c 0 = 0 := rfl
theorem frR_succ (c : List Int) (k : Nat) : frR c (k + 1) = el c k := by unfold frR; rw [if_neg (by omega), Nat.add_sub_cancel]
/-- The lengths of the first k runs. -/
def runsP (c : List Int) : Nat → List Int
  | 0 => []
  | k + 1 => runsP c k ++ [el c k - frR c k]
theorem runsP_length (c : List Int) (k : Nat) : (runsP c k).length = k := by
  induction k with
  | zero => rfl
  | succ k ih => show (runsP c k ++ _).length = _; rw [List.length_append, ih]; rfl
def runV (s : ByteArray) : List Int := if strip s.data.toList then runsP (cornV s) (cornV s).length ++ [(s.size : Int) - frR (cornV s) (cornV s).length] else []
theorem runV_no {s : ByteArray} (h : strip s.data.toList = false) : runV s = [] := by unfold runV; rw [h]; rfl
theorem runV_yes {s : ByteArray} (h : strip s.data.toList = true) : runV s = runsP (cornV s) (cornV s).length ++ [(s.size : Int) - frR (cornV s) (cornV s).length] := by unfold runV; rw [if_pos h]
theorem cornV_le16 {s : ByteArray} (h : strip s.data.toList = true) : (cornV s).length ≤ 16 := by rw [cornV_yes h]; have := crnI_le s s.size; have := (strip_size h).2.1; omega
theorem runV_le (s : ByteArray) : (runV s).length ≤ 1000000 := by
  cases h : strip s.data.toList with
  | false => rw [runV_no h]; exact Nat.zero_le _
  | true => rw [runV_yes h, List.length_append, runsP_length]; have := cornV_le16 h; simp; omega
theorem cornV_mem {s : ByteArray} {x : Int} (h : x ∈ cornV s) : 0 ≤ x ∧ x ≤ 16 := by
  cases hs : strip s.data.toList with
  | false => rw [cornV_no hs] at h; cases h
  | true =>
    rw [cornV_yes hs] at h
    unfold crnI crns at h
    obtain ⟨j, hj, rfl⟩ := List.mem_map.1 h
    have := List.mem_range.1 (List.mem_filter.1 hj).1
    have := (strip_size hs).2.1
    omega
theorem corn_bd (s : ByteArray) (k : Nat) : 0 ≤ el (cornV s) k ∧ el (cornV s) k ≤ 16 := by
  unfold el
  rw [List.getD_eq_getElem?_getD]
  cases h : (cornV s)[k]? with
  | none => simp
  | some x => exact cornV_mem (List.mem_of_getElem? h)
theorem fr_bd (s : ByteArray) (k : Nat) : 0 ≤ frR (cornV s) k ∧ frR (cornV s) k ≤ 16 := by
  unfold frR; split
  · omega
  · exact corn_bd s _
theorem OwnI.cellD {B g n cap : Nat} {xs : List Int} {w : World} (h : OwnI B (.slice (some ⟨g, 0, none⟩) n cap) xs w) (j : Nat) (hj : j < xs.length) : w.cell? ⟨g, j, none⟩ = some (.int .i64 (el xs j)) := by
  unfold el
  rw [h.cell j hj, List.getD_eq_getElem?_getD, List.getElem?_eq_getElem hj]; rfl
theorem OwnI.slice {B : Nat} {v : Value} {xs : List Int} {w : World} (h : OwnI B v xs w) : ∃ a c, v = .slice a xs.length c := by
  rcases h.form with ⟨a, c, rfl, h0⟩ | ⟨g, cap, rfl, _⟩
  · exact ⟨a, c, by rw [h0]; rfl⟩
  · exact ⟨_, _, rfl⟩

set_option maxHeartbeats 3200000 in
theorem implRunsOf_any (s : ByteArray) (hm : s.size ≤ maxLen) (w : World) :
    Calls Try.prog 37 #[.string s] w fun e w' => ∃ v, e = .returned v ∧ OwnI w.heap.size v (runV s) w' ∧ Below w.heap.size w w' := by
  have hm' := hm
  unfold maxLen at hm'
  obtain ⟨i0, hi, hz0, hz1, hz2⟩ := info_parts Try.info3
  cases hs : strip s.data.toList with
  | false =>
    have R := Lib.hid (runV_no hs)
    go_enter Try.func37, Try.ntmps37
    go_wp2_with fail
    refine (implIsStrip_any _ hm _).mono ?_
    rintro e w' ⟨rfl, rfl⟩
    go_wp2
    go_ret
    exact ⟨_, rfl, by rw [R.out]; exact ownI_nil _ _, Below.refl _ _⟩
  | true =>
    have R := Lib.hid (runV_yes hs)
    have hss := (strip_size hs).2.1
    have hcl := cornV_le16 hs
    go_enter Try.func37, Try.ntmps37
    go_wp2_with fail
    refine (implIsStrip_any _ hm _).mono ?_
    rintro e w' ⟨rfl, rfl⟩
    go_wp2_with fail
    refine (implCornersOf_any _ hm _).mono ?_
    rintro e wc ⟨v, rfl, ov, bv⟩
    have hb0 : Below w.heap.size w wc := ((Below.refl _ _).alloc (Nat.le_refl _) _).trans (bv.mono (by simp))
    have ho0 : OwnI w.heap.size (.slice (some ⟨w.heap.size, 0, none⟩) 0 0) [] wc := OwnI.below (ownI_made w _ (Nat.le_refl _)) bv
    have ha0 : Apart (.slice (some ⟨w.heap.size, 0, none⟩) 0 0) v := by
      intro b hb e1
      have hb' : w.heap.size = b := by simpa [Value.ownBlock] using hb
      have := (ov.lt b e1).1
      simp at this; omega
    clear bv
    rcases ov.form with ⟨a, c, rfl, h0⟩ | ⟨gv, cv, rfl, hgv, hpos⟩
    · have H0 := Lib.hid h0; clear h0 hcl ha0 ov
      have b2 := fr_bd s 0
      go_wp2
      refine wp_loop_rounds 1 ?_
      rw [rounds_succ]
      have hn1 : ([] : List Int).length + 1 ≤ maxLen := by unfold maxLen; simp
      have hn2 : (([] : List Int).length + 1) * 8 ≤ 140737488355328 := by simp
      have hsz : w.heap.size ≤ wc.heap.size := hb0.size
      have hown' : wc.ownsRow w.heap.size 3 1 (.slice (some ⟨w.heap.size, 0, none⟩) 0 0) ([] : List Int).length (intCells []) := ho0
      go_wp2_with (at_builtin; refine wpList_app1 rfl _ _ 48 rfl w.heap.size 3 i0 (.int .i64 0) 8 Try.underlying48 hi hz0 hz1 hz2 rfl _ _ _ rfl hown' _ rfl rfl hn1 hn2 hsz ?_; intro g cap w1 hown1 hg1)
      have hown2 := ownI_snoc rfl hown1
      have hb1 := below_of_grown hb0 hsz hown' hg1
      clear hown1 hg1
      go_wp2
      go_ret
      exact ⟨_, rfl, by rw [R.out, H0.out]; exact hown2, hb1⟩
    · have FZ := Lib.hid (frR_zero (cornV s))
      generalize hn : (cornV s).length = n at *
      have HN := Lib.hid hn; clear hn
      go_wp2
      go_loopw [3, 4, 14] (fun u la i wr => ∃ k : Nat, k ≤ n ∧ i = .int .i64 k ∧ la = .int .i64 (frR (cornV s) k) ∧ OwnI w.heap.size u (runsP (cornV s) k) wr ∧ Apart u (.slice (some ⟨gv, 0, none⟩) n cv) ∧ OwnI (w.heap.size + 1) (.slice (some ⟨gv, 0, none⟩) n cv) (cornV s) wr ∧ Below w.heap.size w wr) (fun _ _ i _ => n - (intOf i).toNat)
      case atStart => exact ⟨0, Nat.zero_le _, rfl, by rw [FZ.out], ho0, ha0, by simpa using ov, hb0⟩
      case round =>
        obtain ⟨k, hk, rfl, rfl, hown, hap, hv, hb⟩ := hrel
        have hl := runsP_length (cornV s) k
        have b1 := corn_bd s k
        have b2 := fr_bd s k
        have hn1 : (runsP (cornV s) k).length + 1 ≤ maxLen := by rw [hl]; unfold maxLen; omega
        have hn2 : ((runsP (cornV s) k).length + 1) * 8 ≤ 140737488355328 := by rw [hl]; omega
        have hsz : w.heap.size ≤ wr.heap.size := hb.size
        have hown' : wr.ownsRow w.heap.size 3 1 u3 (runsP (cornV s) k).length (intCells (runsP (cornV s) k)) := hown
        clear hl
        by_cases hlt : k < n
        · have hc := hv.cellD k (by rw [HN.out]; exact hlt)
          have e1 : (k : Int) < (n : Int) := by omega
          have HFS := Lib.hid (frR_succ (cornV s) k)
          go_wp2_with (at_builtin; refine wpList_app1L rfl _ _ 48 rfl w.heap.size 3 i0 (.int .i64 0) 8 Try.underlying48 hi hz0 hz1 hz2 rfl _ _ _ rfl hown' _ rfl rfl hn1 hn2 hsz ?_; intro g cap w1 hown1 hg1 hat)
          have hown2 := ownI_snoc rfl hown1
          obtain ⟨hv2, hap2⟩ := apart_kept (m := (runsP (cornV s) k).length + 1) (cap := cap) hv hap hg1 hat
          have hb1 := below_of_grown hb hsz hown' hg1
          have hvc : OwnI (w.heap.size + 1) (.slice (some ⟨gv, 0, none⟩) n cv) (cornV s) w1 := hv2
          have hc1 := hvc.cellD k (by rw [HN.out]; exact hlt)
          clear hown1 hg1 hat hc hv2
          go_wp2
          go_roundw
          case rel => exact ⟨k + 1, by omega, by go_num, by rw [HFS.out], hown2, hap2, hvc, hb1⟩
          case measure => simp [intOf]; omega
        · obtain rfl : k = n := by omega
          go_wp2_with (at_builtin; refine wpList_app1 rfl _ _ 48 rfl w.heap.size 3 i0 (.int .i64 0) 8 Try.underlying48 hi hz0 hz1 hz2 rfl _ _ _ rfl hown' _ rfl rfl hn1 hn2 hsz ?_; intro g cap w1 hown1 hg1)
          have hown2 := ownI_snoc rfl hown1
          have hb1 := below_of_grown hb hsz hown' hg1
          clear hown1 hg1
          go_wp2
          go_ret
          exact ⟨_, rfl, by rw [R.out]; exact hown2, hb1⟩

def foldsV (s : ByteArray) : Int := if strip s.data.toList then ((cornV s).length : Int) + (if (byt s 0).toNat = 102 then 1 else 0) + (if (byt s (s.size - 1)).toNat = 100 then 1 else 0) else -1
theorem foldsV_no {s : ByteArray} (h : strip s.data.toList = false) : foldsV s = -1 := by unfold foldsV; rw [h]; rfl
theorem foldsV_yes {s : ByteArray} (h : strip s.data.toList = true) : foldsV s = ((cornV s).length : Int) + (if (byt s 0).toNat = 102 then 1 else 0) + (if (byt s (s.size - 1)).toNat = 100 then 1 else 0) := by unfold foldsV; rw [if_pos h]

set_option maxHeartbeats 1600000 in
theorem implCountFolds_any (s : ByteArray) (hm : s.size ≤ maxLen) (w : World) :
    Calls Try.prog 41 #[.string s] w fun e w' => e = .returned (.int .i64 (foldsV s)) ∧ Below w.heap.size w w' := by
  have hm' := hm
  unfold maxLen at hm'
  cases hs : strip s.data.toList with
  | false =>
    have R := Lib.hid (foldsV_no hs)
    go_enter Try.func41, Try.ntmps41
    go_wp2_with fail
    refine (implIsStrip_any _ hm _).mono ?_
    rintro e w' ⟨rfl, rfl⟩
    go_wp2
    go_ret
    exact ⟨ret_int R.out.symm, Below.refl _ _⟩
  | true =>
    have z := strip_size hs
    have hcl := cornV_le16 hs
    have h0 : 0 < s.size := by omega
    have h1 : s.size - 1 < s.size := by omega
    have r := foldsV_yes hs
    rw [byt_get s 0 h0, byt_get s (s.size - 1) h1] at r
    have R0 := Lib.hid r; clear r
    have e0 : (0 : Int) < (s.size : Int) := by omega
    have e1 : IntKind.i64.wrap ((s.size : Int) - 1) = (s.size : Int) - 1 := IntWalk.i64_in _ (by omega)
    have e2 : ((s.size : Int) - 1).toNat = s.size - 1 := by omega
    have e3 : (0 : Int) ≤ (s.size : Int) - 1 := by omega
    have e3' : (1 : Int) ≤ (s.size : Int) := by omega
    have e4 : (s.size : Int) - 1 < (s.size : Int) := by omega
    have hsz16 : s.size ≤ 16 := z.2.1
    clear z
    by_cases ca : s[0].toNat = 102
    · by_cases cb : s[s.size - 1].toNat = 100
      · have la : ((s[0].toNat : Int) == 102) = true := beq_iff_eq.2 (by omega)
        have lb : ((s[s.size - 1].toNat : Int) == 100) = true := beq_iff_eq.2 (by omega)
        have r2 := R0.out
        rw [if_pos ca, if_pos cb] at r2
        have R := Lib.hid r2; clear r2
        clear ca cb
        go_enter Try.func41, Try.ntmps41
        go_wp2_with fail
        refine (implIsStrip_any _ hm _).mono ?_
        rintro e w' ⟨rfl, rfl⟩
        go_wp2_with fail
        refine (implCornersOf_any _ hm _).mono ?_
        rintro e wc ⟨v, rfl, ov, bv⟩
        obtain ⟨av, cv, rfl⟩ := ov.slice
        go_wp2
        go_ret
        exact ⟨ret_int (by rw [R.out]; first | done | omega), bv⟩
      · have la : ((s[0].toNat : Int) == 102) = true := beq_iff_eq.2 (by omega)
        have lb : ((s[s.size - 1].toNat : Int) == 100) = false := beq_eq_false_iff_ne.2 (by omega)
        have r2 := R0.out
        rw [if_pos ca, if_neg cb] at r2
        have R := Lib.hid r2; clear r2
        clear ca cb
        go_enter Try.func41, Try.ntmps41
        go_wp2_with fail
        refine (implIsStrip_any _ hm _).mono ?_
        rintro e w' ⟨rfl, rfl⟩
        go_wp2_with fail
        refine (implCornersOf_any _ hm _).mono ?_
        rintro e wc ⟨v, rfl, ov, bv⟩
        obtain ⟨av, cv, rfl⟩ := ov.slice
        go_wp2
        go_ret
        exact ⟨ret_int (by rw [R.out]; first | done | omega), bv⟩
    · by_cases cb : s[s.size - 1].toNat = 100
      · have la : ((s[0].toNat : Int) == 102) = false := beq_eq_false_iff_ne.2 (by omega)
        have lb : ((s[s.size - 1].toNat : Int) == 100) = true := beq_iff_eq.2 (by omega)
        have r2 := R0.out
        rw [if_neg ca, if_pos cb] at r2
        have R := Lib.hid r2; clear r2
        clear ca cb
        go_enter Try.func41, Try.ntmps41
        go_wp2_with fail
        refine (implIsStrip_any _ hm _).mono ?_
        rintro e w' ⟨rfl, rfl⟩
        go_wp2_with fail
        refine (implCornersOf_any _ hm _).mono ?_
        rintro e wc ⟨v, rfl, ov, bv⟩
        obtain ⟨av, cv, rfl⟩ := ov.slice
        go_wp2
        go_ret
        exact ⟨ret_int (by rw [R.out]; first | done | omega), bv⟩
      · have la : ((s[0].toNat : Int) == 102) = false := beq_eq_false_iff_ne.2 (by omega)
        have lb : ((s[s.size - 1].toNat : Int) == 100) = false := beq_eq_false_iff_ne.2 (by omega)
        have r2 := R0.out
        rw [if_neg ca, if_neg cb] at r2
        have R := Lib.hid r2; clear r2
        clear ca cb
        go_enter Try.func41, Try.ntmps41
        go_wp2_with fail
        refine (implIsStrip_any _ hm _).mono ?_
        rintro e w' ⟨rfl, rfl⟩
        go_wp2_with fail
        refine (implCornersOf_any _ hm _).mono ?_
        rintro e wc ⟨v, rfl, ov, bv⟩
        obtain ⟨av, cv, rfl⟩ := ov.slice
        go_wp2
        go_ret
        exact ⟨ret_int (by rw [R.out]; first | done | omega), bv⟩

end Go.Proofs.Ytmpbhhggbmjfcaa
