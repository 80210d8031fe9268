/- Cards: contracts of szCard, toCard, eqCard (at two equal cards), CardOk. -/
import Derived.Test.YtmpbhhggbmjfcaaStrs
import Derived.Test.YtmpbhhggbmjfcaaStripFns
import Derived.Test.YtmpbhhggbmjfcaaFlat
import Derived.Deep.Onto
namespace Go.Proofs.Ytmpbhhggbmjfcaa
open Go.RowKit
set_option linter.unusedVariables false
set_option linter.unusedSimpArgs false

theorem bcell {W w1 : World} (hb : Below W.heap.size W w1) : (∀ b o, b < W.heap.size → w1.cell? ⟨b, o, none⟩ = W.cell? ⟨b, o, none⟩) ∧ (∀ b o, b < W.heap.size → w1.frozen? ⟨b, o, none⟩ = W.frozen? ⟨b, o, none⟩) :=
  ⟨fun b o h => hb.cell (p := ⟨b, o, none⟩) h, fun b o h => hb.frozen (p := ⟨b, o, none⟩) h⟩
theorem OwnS.drewN {B : Nat} {v : Value} {ss : List ByteArray} {w : World} (h : OwnS B v ss w) (n : Nat) : OwnS B v ss (w.drewN n) := h
theorem RdS.drewN {a : Option Addr} {ss : List ByteArray} {w : World} (h : RdS w a ss) (n : Nat) : RdS (w.drewN n) a ss := h.below (dr_below ⟨n, rfl⟩ _)
theorem RdS.alloc {a : Option Addr} {ss : List ByteArray} {w : World} (h : RdS w a ss) (o : Obj) : RdS (w.alloc o) a ss := h.below ((Below.refl _ _).alloc (Nat.le_refl _) _)
/-- A strip of the card's frame. -/
def fits (d f : Int) (s : ByteArray) : Bool := decide (downV s.data.toList = d) && decide (fwdV s.data.toList = f)
theorem fits_yes {d f : Int} {s : ByteArray} (h1 : downV s.data.toList = d) (h2 : fwdV s.data.toList = f) : fits d f s = true := by unfold fits; rw [decide_eq_true h1, decide_eq_true h2]; rfl
theorem fits_no1 {d f : Int} {s : ByteArray} (h1 : ¬ downV s.data.toList = d) : fits d f s = false := by unfold fits; rw [decide_eq_false h1]; rfl
theorem fits_no2 {d f : Int} {s : ByteArray} (h1 : ¬ fwdV s.data.toList = f) : fits d f s = false := by unfold fits; rw [decide_eq_false h1]; simp
theorem fits_iff (d f : Int) (s : ByteArray) : fits d f s = true ↔ downV s.data.toList = d ∧ fwdV s.data.toList = f := by unfold fits; simp
def okC (d f : Int) (ss : List ByteArray) : Bool := decide (1 ≤ d ∧ d ≤ 8 ∧ 1 ≤ f ∧ f ≤ 8) && decide (1 ≤ ss.length ∧ ss.length ≤ 10) && (List.range ss.length).all fun j => fits d f (sel ss j)
theorem okC_frame {d f : Int} {ss : List ByteArray} (h : ¬ (1 ≤ d ∧ d ≤ 8 ∧ 1 ≤ f ∧ f ≤ 8)) : okC d f ss = false := by unfold okC; rw [decide_eq_false h]; rfl
theorem okC_len {d f : Int} {ss : List ByteArray} (h : ¬ (1 ≤ ss.length ∧ ss.length ≤ 10)) : okC d f ss = false := by unfold okC; rw [decide_eq_false h]; simp
theorem okC_bad {d f : Int} {ss : List ByteArray} {j : Nat} (hj : j < ss.length) (h : fits d f (sel ss j) = false) : okC d f ss = false := by
  unfold okC
  rw [Bool.and_eq_false_iff]; right
  rw [List.all_eq_false]
  exact ⟨j, List.mem_range.2 hj, by rw [h]; exact Bool.false_ne_true⟩
theorem okC_mk {d f : Int} {ss : List ByteArray} (h1 : 1 ≤ d ∧ d ≤ 8 ∧ 1 ≤ f ∧ f ≤ 8) (h2 : 1 ≤ ss.length ∧ ss.length ≤ 10) (h3 : ∀ j, j < ss.length → fits d f (sel ss j) = true) : okC d f ss = true := by
  unfold okC
  rw [decide_eq_true h1, decide_eq_true h2, Bool.true_and, Bool.true_and, List.all_eq_true]
  exact fun j hj => h3 j (List.mem_range.1 hj)
theorem okC_iff (d f : Int) (ss : List ByteArray) : okC d f ss = true ↔ (1 ≤ d ∧ d ≤ 8 ∧ 1 ≤ f ∧ f ≤ 8) ∧ (1 ≤ ss.length ∧ ss.length ≤ 10) ∧ ∀ j, j < ss.length → fits d f (sel ss j) = true := by
  constructor
  · intro h
    unfold okC at h
    rw [Bool.and_eq_true, Bool.and_eq_true, List.all_eq_true] at h
    exact ⟨of_decide_eq_true h.1.1, of_decide_eq_true h.1.2, fun j hj => h.2 j (List.mem_range.2 hj)⟩
  · rintro ⟨h1, h2, h3⟩; exact okC_mk h1 h2 h3

set_option maxHeartbeats 800000 in
theorem szCard_any (w : World) (d f : Int) (a : Option Addr) (c : Nat) (ss : List ByteArray) (h : RdS w a ss) (hz : SzS ss) (left : Int) (h0 : 0 ≤ left) (h1 : left ≤ 1048576) :
    Calls Try.prog 19 #[.agg #[.int .i64 d, .int .i64 f, .slice a ss.length c], .int .i64 left] w fun e w' => (∃ x, e = .returned (.int .i64 x) ∧ SzOk x left ss) ∧ Below w.heap.size w w' := by
  go_enter Try.func19, Try.ntmps19
  go_wp2_with fail
  refine (szStringS_any _ _ _ _ _ (h.alloc _) hz h0 h1).mono ?_
  rintro e w' ⟨⟨x, rfl, hx⟩, rfl⟩
  have HX := Lib.hid hx; clear hx
  by_cases hneg : x < 0
  · go_wp2
    go_ret
    exact ⟨⟨-1, rfl, .inl (by omega)⟩, (Below.refl _ _).alloc (Nat.le_refl _) _⟩
  · have hpos : 0 ≤ x := by omega
    go_wp2
    go_ret
    exact ⟨⟨x, rfl, HX.out⟩, (Below.refl _ _).alloc (Nat.le_refl _) _⟩

set_option maxHeartbeats 800000 in
theorem toCard_any (w : World) (d f : Int) (a : Option Addr) (c : Nat) (ss : List ByteArray) (h : RdS w a ss) (hl : ss.length ≤ 1048576) :
    Calls Try.prog 21 #[.agg #[.int .i64 d, .int .i64 f, .slice a ss.length c]] w fun e w' => ∃ a' c', e = .returned (.agg #[.int .i64 d, .int .i64 f, .slice a' ss.length c']) ∧ OwnS w.heap.size (.slice a' ss.length c') ss w' ∧ Below w.heap.size w w' := by
  go_enter Try.func21, Try.ntmps21
  go_wp2_with fail
  refine (toStringS_any _ _ _ _ (((h.alloc _).alloc _).alloc _) hl).mono ?_
  rintro e w1 ⟨v, rfl, ov, bv⟩
  obtain ⟨hc, hf⟩ := bcell bv
  have hz := bv.size
  obtain ⟨a', c', rfl, _⟩ := ov.read
  go_wp2
  refine bodyPost_ret (v := .agg #[.int .i64 d, .int .i64 f, .slice a' ss.length c']) (by simp [results, Try.results21, go_sem, hc, hz]) rfl ⟨a', c', rfl, ?_, ?_⟩
  · exact World.ownsRow.mono (ownsRow_setCell_below (ownsRow_setCell_below (ownsRow_setCell_below (ownsRow_setCell_below ov (by first | (simp; done) | (simp; omega)) _) (by first | (simp; done) | (simp; omega)) _) (by first | (simp; done) | (simp; omega)) _) (by first | (simp; done) | (simp; omega)) _) (by first | (simp; done) | (simp; omega))
  · exact (((((((Below.refl _ _).alloc (Nat.le_refl _) _).alloc (by first | (simp; done) | (simp; omega)) _).alloc (by first | (simp; done) | (simp; omega)) _).trans (bv.mono (by first | (simp; done) | (simp; omega)))).setCell (by first | (simp; done) | (simp; omega)) _ |>.setCell (by first | (simp; done) | (simp; omega)) _).setCell (by first | (simp; done) | (simp; omega)) _).setCell (by first | (simp; done) | (simp; omega)) _

set_option maxHeartbeats 800000 in
theorem eqCard_same (w : World) (d f : Int) (a1 a2 : Option Addr) (c1 c2 : Nat) (ss : List ByteArray) (h1 : RdS w a1 ss) (h2 : RdS w a2 ss) (hm : ss.length ≤ maxLen) :
    Calls Try.prog 23 #[.agg #[.int .i64 d, .int .i64 f, .slice a1 ss.length c1], .agg #[.int .i64 d, .int .i64 f, .slice a2 ss.length c2]] w fun e w' => e = .returned (.bool true) ∧ Below w.heap.size w w' := by
  go_enter Try.func23, Try.ntmps23
  go_wp2_with fail
  refine (eqStringS_same _ _ _ _ _ _ ((h1.alloc _).alloc _) ((h2.alloc _).alloc _) hm).mono ?_
  rintro e w' ⟨rfl, n, rfl⟩
  go_wp2
  go_ret
  exact ⟨rfl, dr_bel (((Below.refl _ _).alloc (Nat.le_refl _) _).alloc (by first | (simp; done) | (simp; omega)) _) ⟨_, rfl⟩⟩

set_option maxHeartbeats 3200000 in
theorem specCardOk_any (w : World) (d f : Int) (a : Option Addr) (c : Nat) (ss : List ByteArray) (h : RdS w a ss) (hz : SzS ss) :
    Calls Try.prog 59 #[.agg #[.int .i64 d, .int .i64 f, .slice a ss.length c]] w fun e w' => e = .returned (.bool (okC d f ss)) ∧ Below w.heap.size w w' := by
  by_cases hfr : 1 ≤ d ∧ d ≤ 8 ∧ 1 ≤ f ∧ f ≤ 8
  · by_cases hln : 1 ≤ ss.length ∧ ss.length ≤ 10
    · rcases h with rfl | ⟨b, o, rfl, hp, hl, hc⟩
      · simp at hln
      obtain ⟨f1, f2, f3, f4⟩ := hfr
      have FR : Hid (1 ≤ d ∧ d ≤ 8 ∧ 1 ≤ f ∧ f ≤ 8) := Lib.hid ⟨f1, f2, f3, f4⟩
      have LN := Lib.hid hln
      obtain ⟨l1, l2⟩ := hln
      have HC : Hid (∀ j, j < ss.length → (w.alloc (.cells #[.int .i64 d, .int .i64 f, .slice (some ⟨b, o, none⟩) ss.length c] 34)).cell? ⟨b, o + j, none⟩ = some (.string (sel ss j))) := Lib.hid (fun j hj => by rw [World.cell?_alloc_past _ _ _ hl]; exact hc j hj)
      clear hc
      have HZ := Lib.hid hz; clear hz
      generalize hn : ss.length = n at *
      have HN := Lib.hid hn; clear hn
      go_enter Try.func59, Try.ntmps59
      go_wp2_with fail
      refine (frame_yes _ _ f1 f2 f3 f4 _).mono ?_
      rintro e w' ⟨rfl, rfl⟩
      go_wp2_with fail
      refine (in_yes _ _ _ (by omega) (by omega) _).mono ?_
      rintro e w' ⟨rfl, rfl⟩
      go_wp2
      go_loopw [3] (fun i wr => ∃ k : Nat, k ≤ n ∧ i = .int .i64 k ∧ Hid (∀ j, j < k → fits d f (sel ss j) = true) ∧ ∃ q, wr = (w.alloc (.cells #[.int .i64 d, .int .i64 f, .slice (some ⟨b, o, none⟩) n c] 34)).drewN q) (fun i _ => n - (intOf i).toNat)
      case atStart => exact ⟨0, Nat.zero_le _, rfl, Lib.hid (fun j hj => by omega), dr_refl _⟩
      case round =>
      obtain ⟨k, hk, rfl, HA, hwr⟩ := hrel
      have HW := Lib.hid hwr; clear hwr
      have c0 : wr.cell? ⟨w.heap.size, 0, none⟩ = some (.int .i64 d) := by obtain ⟨q, rfl⟩ := HW.out; simp [go_sem]
      have c1 : wr.cell? ⟨w.heap.size, 1, none⟩ = some (.int .i64 f) := by obtain ⟨q, rfl⟩ := HW.out; simp [go_sem]
      have c2 : wr.cell? ⟨w.heap.size, 2, none⟩ = some (.slice (some ⟨b, o, none⟩) n c) := by obtain ⟨q, rfl⟩ := HW.out; simp [go_sem]
      by_cases hlt : k < n
      · have g1 : wr.cell? ⟨b, o + k, none⟩ = some (.string (sel ss k)) := by obtain ⟨q, rfl⟩ := HW.out; rw [World.cell?_drewN]; exact HC.out k hlt
        have e1 : (k : Int) < (n : Int) := by omega
        have hzk := HZ.out.2 k
        by_cases hd : downV (sel ss k).data.toList = d
        · have q1 : (downV (sel ss k).data.toList != d) = false := by rw [bne_eq_false_iff_eq]; exact hd
          by_cases hf : fwdV (sel ss k).data.toList = f
          · have q2 : (fwdV (sel ss k).data.toList != f) = false := by rw [bne_eq_false_iff_eq]; exact hf
            have HA2 : Hid (∀ j, j < k + 1 → fits d f (sel ss j) = true) := Lib.hid (fun j hj => by
              rcases Nat.lt_or_ge j k with h | h
              · exact HA.out j h
              · obtain rfl : j = k := by omega
                exact fits_yes hd hf)
            clear hd hf
            go_wp2
            go_quiet ((first | (go_at_call 86; exact quiet_any (specDownOf_any _ hzk _) (by first | exact ⟨_, rfl⟩ | exact ⟨_, (World.drewN_drewN _ _ _).symm⟩)) | (go_at_call 87; exact quiet_any (specForwardOf_any _ hzk _) (by first | exact ⟨_, rfl⟩ | exact ⟨_, (World.drewN_drewN _ _ _).symm⟩))))
            go_wp2
            go_roundw
            case rel => exact ⟨k + 1, by omega, by go_num, HA2, dr_trans HW.out ⟨_, rfl⟩⟩
            case measure => simp [intOf]; omega
          · have q2 : (fwdV (sel ss k).data.toList != f) = true := by rw [bne_iff_ne]; exact hf
            have R := Lib.hid (okC_bad (by rw [HN.out]; exact hlt) (fits_no2 (d := d) hf))
            clear hd hf
            go_wp2
            go_quiet ((first | (go_at_call 86; exact quiet_any (specDownOf_any _ hzk _) (by first | exact ⟨_, rfl⟩ | exact ⟨_, (World.drewN_drewN _ _ _).symm⟩)) | (go_at_call 87; exact quiet_any (specForwardOf_any _ hzk _) (by first | exact ⟨_, rfl⟩ | exact ⟨_, (World.drewN_drewN _ _ _).symm⟩))))
            go_wp2
            go_ret
            exact ⟨ret_bool (by rw [R.out]), dr_bel ((Below.refl _ _).alloc (Nat.le_refl _) _) (by first | exact HW.out | exact dr_trans HW.out ⟨_, rfl⟩)⟩
        · have q1 : (downV (sel ss k).data.toList != d) = true := by rw [bne_iff_ne]; exact hd
          have R := Lib.hid (okC_bad (by rw [HN.out]; exact hlt) (fits_no1 (f := f) hd))
          clear hd
          go_wp2
          go_quiet ((first | (go_at_call 86; exact quiet_any (specDownOf_any _ hzk _) (by first | exact ⟨_, rfl⟩ | exact ⟨_, (World.drewN_drewN _ _ _).symm⟩)) | (go_at_call 87; exact quiet_any (specForwardOf_any _ hzk _) (by first | exact ⟨_, rfl⟩ | exact ⟨_, (World.drewN_drewN _ _ _).symm⟩))))
          go_wp2
          go_ret
          exact ⟨ret_bool (by rw [R.out]), dr_bel ((Below.refl _ _).alloc (Nat.le_refl _) _) (by first | exact HW.out | exact dr_trans HW.out ⟨_, rfl⟩)⟩
      · obtain rfl : k = n := by omega
        have R := Lib.hid (okC_mk FR.out (by rw [HN.out]; exact LN.out) (fun j hj => HA.out j (by rw [HN.out] at hj; exact hj)))
        go_wp2
        go_ret
        exact ⟨ret_bool (by rw [R.out]), dr_bel ((Below.refl _ _).alloc (Nat.le_refl _) _) (by first | exact HW.out | exact dr_trans HW.out ⟨_, rfl⟩)⟩
    · have R := Lib.hid (okC_len (d := d) (f := f) hln)
      obtain ⟨f1, f2, f3, f4⟩ := hfr
      have H : Hid ((ss.length : Int) < 1 ∨ 10 < (ss.length : Int)) := Lib.hid (by omega)
      clear hln
      go_enter Try.func59, Try.ntmps59
      go_wp2_with fail
      refine (frame_yes _ _ f1 f2 f3 f4 _).mono ?_
      rintro e w' ⟨rfl, rfl⟩
      go_wp2_with fail
      refine (in_no _ _ _ H.out _).mono ?_
      rintro e w' ⟨rfl, rfl⟩
      go_wp2
      go_ret
      exact ⟨ret_bool (by rw [R.out]), (Below.refl _ _).alloc (Nat.le_refl _) _⟩
  · have R := Lib.hid (okC_frame (ss := ss) hfr)
    have H := Lib.hid hfr; clear hfr
    go_enter Try.func59, Try.ntmps59
    go_wp2_with fail
    refine (frame_no _ _ H.out _).mono ?_
    rintro e w' ⟨rfl, rfl⟩
    go_wp2
    go_ret
    exact ⟨ret_bool (by rw [R.out]), (Below.refl _ _).alloc (Nat.le_refl _) _⟩

set_option maxHeartbeats 3200000 in
theorem implCardOk_any (w : World) (d f : Int) (a : Option Addr) (c : Nat) (ss : List ByteArray) (h : RdS w a ss) (hz : SzS ss) :
    Calls Try.prog 65 #[.agg #[.int .i64 d, .int .i64 f, .slice a ss.length c]] w fun e w' => e = .returned (.bool (okC d f ss)) ∧ Below w.heap.size w w' := by
  rcases h with rfl | ⟨b, o, rfl, hp, hl, hc⟩
  · have R := Lib.hid (okC_len (d := d) (f := f) (ss := []) (by simp))
    by_cases hd1 : 1 ≤ d ∧ d ≤ 8
    · by_cases hf1 : 1 ≤ f ∧ f ≤ 8
      · obtain ⟨d1, d2⟩ := hd1
        obtain ⟨f1, f2⟩ := hf1
        go_enter Try.func65, Try.ntmps65
        go_wp2
        refine wp_loop_rounds 1 ?_
        rw [rounds_succ]
        go_wp2_with fail
        refine (isSteps_yes _ d1 d2 _).mono ?_
        rintro e w' ⟨rfl, rfl⟩
        go_wp2_with fail
        refine (isSteps_yes _ f1 f2 _).mono ?_
        rintro e w' ⟨rfl, rfl⟩
        go_wp2_with fail
        refine (within_no _ _ _ (by omega) _).mono ?_
        rintro e w' ⟨rfl, rfl⟩
        go_wp2
        go_ret
        exact ⟨ret_bool (by rw [R.out]), (Below.refl _ _).alloc (Nat.le_refl _) _⟩
      · obtain ⟨d1, d2⟩ := hd1
        have H : Hid (f < 1 ∨ 8 < f) := Lib.hid (by omega)
        clear hf1
        go_enter Try.func65, Try.ntmps65
        go_wp2
        refine wp_loop_rounds 1 ?_
        rw [rounds_succ]
        go_wp2_with fail
        refine (isSteps_yes _ d1 d2 _).mono ?_
        rintro e w' ⟨rfl, rfl⟩
        go_wp2_with fail
        refine (isSteps_no _ H.out _).mono ?_
        rintro e w' ⟨rfl, rfl⟩
        go_wp2
        go_ret
        exact ⟨ret_bool (by rw [R.out]), (Below.refl _ _).alloc (Nat.le_refl _) _⟩
    · have H : Hid (d < 1 ∨ 8 < d) := Lib.hid (by omega)
      clear hd1
      go_enter Try.func65, Try.ntmps65
      go_wp2
      refine wp_loop_rounds 1 ?_
      rw [rounds_succ]
      go_wp2_with fail
      refine (isSteps_no _ H.out _).mono ?_
      rintro e w' ⟨rfl, rfl⟩
      go_wp2
      go_ret
      exact ⟨ret_bool (by rw [R.out]), (Below.refl _ _).alloc (Nat.le_refl _) _⟩
  · have hz1 := hz.1
    unfold maxLen at hz1
    have HC : Hid (∀ j, j < ss.length → (w.alloc (.cells #[.int .i64 d, .int .i64 f, .slice (some ⟨b, o, none⟩) ss.length c] 34)).cell? ⟨b, o + j, none⟩ = some (.string (sel ss j))) := Lib.hid (fun j hj => by rw [World.cell?_alloc_past _ _ _ hl]; exact hc j hj)
    clear hc
    have HZ := Lib.hid hz; clear hz
    generalize hn : ss.length = n at *
    have HN := Lib.hid hn; clear hn
    go_enter Try.func65, Try.ntmps65
    go_wp2
    go_loopw [8] (fun i wr => ∃ k : Nat, k ≤ n ∧ i = .int .i64 k ∧ Hid (∀ j, j < k → fits d f (sel ss j) = true) ∧ ∃ q, wr = (w.alloc (.cells #[.int .i64 d, .int .i64 f, .slice (some ⟨b, o, none⟩) n c] 34)).drewN q) (fun i _ => n - (intOf i).toNat)
    case atStart => exact ⟨0, Nat.zero_le _, rfl, Lib.hid (fun j hj => by omega), dr_refl _⟩
    case round =>
      obtain ⟨k, hk, rfl, HA, hwr⟩ := hrel
      have HW := Lib.hid hwr; clear hwr
      have c0 : wr.cell? ⟨w.heap.size, 0, none⟩ = some (.int .i64 d) := by obtain ⟨q, rfl⟩ := HW.out; simp [go_sem]
      have c1 : wr.cell? ⟨w.heap.size, 1, none⟩ = some (.int .i64 f) := by obtain ⟨q, rfl⟩ := HW.out; simp [go_sem]
      have c2 : wr.cell? ⟨w.heap.size, 2, none⟩ = some (.slice (some ⟨b, o, none⟩) n c) := by obtain ⟨q, rfl⟩ := HW.out; simp [go_sem]
      by_cases hlt : k < n
      · have g1 : wr.cell? ⟨b, o + k, none⟩ = some (.string (sel ss k)) := by obtain ⟨q, rfl⟩ := HW.out; rw [World.cell?_drewN]; exact HC.out k hlt
        have e1 : (k : Int) < (n : Int) := by omega
        have hzk := HZ.out.2 k
        by_cases hd : downV (sel ss k).data.toList = d
        · have q1 : (downV (sel ss k).data.toList != d) = false := by rw [bne_eq_false_iff_eq]; exact hd
          by_cases hf : fwdV (sel ss k).data.toList = f
          · have q2 : (fwdV (sel ss k).data.toList != f) = false := by rw [bne_eq_false_iff_eq]; exact hf
            have HA2 : Hid (∀ j, j < k + 1 → fits d f (sel ss j) = true) := Lib.hid (fun j hj => by
              rcases Nat.lt_or_ge j k with h | h
              · exact HA.out j h
              · obtain rfl : j = k := by omega
                exact fits_yes hd hf)
            clear hd hf
            go_wp2
            go_quiet ((first | (go_at_call 91; exact quiet_any (implDownOf_any _ hzk _) (by first | exact ⟨_, rfl⟩ | exact ⟨_, (World.drewN_drewN _ _ _).symm⟩)) | (go_at_call 92; exact quiet_any (implForwardOf_any _ hzk _) (by first | exact ⟨_, rfl⟩ | exact ⟨_, (World.drewN_drewN _ _ _).symm⟩))))
            go_wp2
            go_roundw
            case rel => exact ⟨k + 1, by omega, by go_num, HA2, dr_trans HW.out ⟨_, rfl⟩⟩
            case measure => simp [intOf]; omega
          · have q2 : (fwdV (sel ss k).data.toList != f) = true := by rw [bne_iff_ne]; exact hf
            have R := Lib.hid (okC_bad (by rw [HN.out]; exact hlt) (fits_no2 (d := d) hf))
            clear hd hf
            go_wp2
            go_quiet ((first | (go_at_call 91; exact quiet_any (implDownOf_any _ hzk _) (by first | exact ⟨_, rfl⟩ | exact ⟨_, (World.drewN_drewN _ _ _).symm⟩)) | (go_at_call 92; exact quiet_any (implForwardOf_any _ hzk _) (by first | exact ⟨_, rfl⟩ | exact ⟨_, (World.drewN_drewN _ _ _).symm⟩))))
            go_wp2
            go_ret
            exact ⟨ret_bool (by rw [R.out]), dr_bel ((Below.refl _ _).alloc (Nat.le_refl _) _) (by first | exact HW.out | exact dr_trans HW.out ⟨_, rfl⟩)⟩
        · have q1 : (downV (sel ss k).data.toList != d) = true := by rw [bne_iff_ne]; exact hd
          have R := Lib.hid (okC_bad (by rw [HN.out]; exact hlt) (fits_no1 (f := f) hd))
          clear hd
          go_wp2
          go_quiet ((first | (go_at_call 91; exact quiet_any (implDownOf_any _ hzk _) (by first | exact ⟨_, rfl⟩ | exact ⟨_, (World.drewN_drewN _ _ _).symm⟩)) | (go_at_call 92; exact quiet_any (implForwardOf_any _ hzk _) (by first | exact ⟨_, rfl⟩ | exact ⟨_, (World.drewN_drewN _ _ _).symm⟩))))
          go_wp2
          go_ret
          exact ⟨ret_bool (by rw [R.out]), dr_bel ((Below.refl _ _).alloc (Nat.le_refl _) _) (by first | exact HW.out | exact dr_trans HW.out ⟨_, rfl⟩)⟩
      · obtain rfl : k = n := by omega
        by_cases hd1 : 1 ≤ d ∧ d ≤ 8
        · by_cases hf1 : 1 ≤ f ∧ f ≤ 8
          · by_cases hln : 1 ≤ k ∧ k ≤ 10
            · have R := Lib.hid (okC_mk ⟨hd1.1, hd1.2, hf1.1, hf1.2⟩ (by rw [HN.out]; exact hln) (fun j hj => HA.out j (by rw [HN.out] at hj; exact hj)))
              obtain ⟨d1, d2⟩ := hd1
              obtain ⟨f1, f2⟩ := hf1
              obtain ⟨l1, l2⟩ := hln
              go_wp2_with fail
              refine (isSteps_yes _ d1 d2 _).mono ?_
              rintro e w' ⟨rfl, rfl⟩
              go_wp2_with fail
              refine (isSteps_yes _ f1 f2 _).mono ?_
              rintro e w' ⟨rfl, rfl⟩
              go_wp2_with fail
              refine (within_yes _ _ _ (by omega) (by omega) _).mono ?_
              rintro e w' ⟨rfl, rfl⟩
              go_wp2
              go_ret
              exact ⟨ret_bool (by rw [R.out]), dr_bel ((Below.refl _ _).alloc (Nat.le_refl _) _) (by first | exact HW.out | exact dr_trans HW.out ⟨_, rfl⟩)⟩
            · have R := Lib.hid (okC_len (d := d) (f := f) (ss := ss) (by rw [HN.out]; exact hln))
              obtain ⟨d1, d2⟩ := hd1
              obtain ⟨f1, f2⟩ := hf1
              have H : Hid ((k : Int) < 1 ∨ 10 < (k : Int)) := Lib.hid (by omega)
              clear hln
              go_wp2_with fail
              refine (isSteps_yes _ d1 d2 _).mono ?_
              rintro e w' ⟨rfl, rfl⟩
              go_wp2_with fail
              refine (isSteps_yes _ f1 f2 _).mono ?_
              rintro e w' ⟨rfl, rfl⟩
              go_wp2_with fail
              refine (within_no _ _ _ H.out _).mono ?_
              rintro e w' ⟨rfl, rfl⟩
              go_wp2
              go_ret
              exact ⟨ret_bool (by rw [R.out]), dr_bel ((Below.refl _ _).alloc (Nat.le_refl _) _) (by first | exact HW.out | exact dr_trans HW.out ⟨_, rfl⟩)⟩
          · have R := Lib.hid (okC_frame (ss := ss) (fun hh => hf1 ⟨hh.2.2.1, hh.2.2.2⟩) (d := d))
            obtain ⟨d1, d2⟩ := hd1
            have H : Hid (f < 1 ∨ 8 < f) := Lib.hid (by omega)
            clear hf1
            go_wp2_with fail
            refine (isSteps_yes _ d1 d2 _).mono ?_
            rintro e w' ⟨rfl, rfl⟩
            go_wp2_with fail
            refine (isSteps_no _ H.out _).mono ?_
            rintro e w' ⟨rfl, rfl⟩
            go_wp2
            go_ret
            exact ⟨ret_bool (by rw [R.out]), dr_bel ((Below.refl _ _).alloc (Nat.le_refl _) _) (by first | exact HW.out | exact dr_trans HW.out ⟨_, rfl⟩)⟩
        · have R := Lib.hid (okC_frame (ss := ss) (f := f) (fun hh => hd1 ⟨hh.1, hh.2.1⟩))
          have H : Hid (d < 1 ∨ 8 < d) := Lib.hid (by omega)
          clear hd1
          go_wp2_with fail
          refine (isSteps_no _ H.out _).mono ?_
          rintro e w' ⟨rfl, rfl⟩
          go_wp2
          go_ret
          exact ⟨ret_bool (by rw [R.out]), dr_bel ((Below.refl _ _).alloc (Nat.le_refl _) _) (by first | exact HW.out | exact dr_trans HW.out ⟨_, rfl⟩)⟩

end Go.Proofs.Ytmpbhhggbmjfcaa
