/- Contracts of eqIntSS, markIntSS, heldIntSS on slices of slices of ints that the call made. -/
import Derived.Test.YtmpbhhggbmjfcaaCutR
import Derived.Deep.QuietTactic
import Derived.BigQuiet
import Derived.IntWalk
namespace Go.Proofs.Ytmpbhhggbmjfcaa
open Go.RowKit
set_option linter.unusedVariables false
set_option linter.unusedSimpArgs false
set_option maxRecDepth 20000

theorem quiet_drawn {P : Program} {f : FuncId} {args : Array Value} {w w0 : World} {v : Value} (h : Calls P f args w0 fun e w' => e = .returned v ∧ ∃ n, w' = w0.drewN n) (hw : ∃ m, w0 = w.drewN m) :
    Calls P f args w0 fun e w'' => e = .returned v ∧ ∃ m, w'' = w.drewN m := by
  refine h.mono ?_
  rintro e w' ⟨rfl, h2⟩
  exact ⟨rfl, dr_trans hw h2⟩
set_option maxHeartbeats 1600000 in
theorem eqIntSS_same (v1 v2 : Value) (B1 B2 n : Nat) (G1 G2 C1 C2 : Nat → Nat) (Z : Nat → List Int) (w : World) (h1 : OwnR B1 v1 n G1 C1 Z w) (h2 : OwnR B2 v2 n G2 C2 Z w) (hn : n ≤ 100000) :
    Calls Try.prog 14 #[v1, v2] w fun e w' => e = .returned (.bool true) ∧ ∃ n, w' = w.drewN n := by
  rcases h1.form with ⟨a1, c1, rfl, h0⟩ | ⟨g1, cap1, rfl, _, hpos⟩
  · subst h0
    obtain ⟨a2, c2, rfl⟩ := h2.slice
    clear h1 h2
    go_enter Try.func14, Try.ntmps14
    go_wp2
    refine wp_loop_rounds 1 ?_
    rw [rounds_succ]
    go_wp2
    go_ret
    exact ⟨rfl, dr_refl _⟩
  · rcases h2.form with ⟨a2, c2, _, h0⟩ | ⟨g2, cap2, rfl, _, _⟩
    · omega
    have H1 := Lib.hid h1; have H2 := Lib.hid h2
    clear h1 h2
    go_enter Try.func14, Try.ntmps14
    go_wp2
    go_loopw [5] (fun i wr => ∃ k : Nat, k ≤ n ∧ i = .int .i64 k ∧ Hid (∃ q, wr = w.drewN q)) (fun i _ => n - (intOf i).toNat)
    case atStart => exact ⟨0, Nat.zero_le _, rfl, Lib.hid (dr_refl _)⟩
    case round =>
      obtain ⟨k, hk, rfl, HW⟩ := hrel
      have H1 := Lib.hid (H1.out.below (dr_below HW.out _)); have H2 := Lib.hid (H2.out.below (dr_below HW.out _))
      by_cases hlt : k < n
      · have g1' := H1.out.cell k hlt
        have g2' := H2.out.cell k hlt
        have e1 : (k : Int) < (n : Int) := by omega
        have r1 := H1.out.row k hlt
        have r2 := H2.out.row k hlt
        go_wp2
        go_quiet ((go_at_call 51; exact Calls.quiet_of (eqIntS_same _ _ B1 B2 (Z k) _ (show OwnI B1 _ (Z k) _ from r1) (show OwnI B2 _ (Z k) _ from r2))))
        go_wp2
        go_roundw
        case rel => exact ⟨k + 1, by omega, by go_num, Lib.hid (dr_trans HW.out ⟨_, rfl⟩)⟩
        case measure => simp [intOf]; omega
      · obtain rfl : k = n := by omega
        go_wp2
        go_ret
        exact ⟨rfl, HW.out⟩

set_option maxHeartbeats 1600000 in
theorem markIntS_only (v : Value) (B : Nat) (xs : List Int) (m : Int) (w : World) (h : OwnI B v xs w) (hm0 : 0 ≤ m) (hm1 : m ≤ 1000000) (hl : xs.length ≤ 1000000) :
    Calls Try.prog 52 #[v, .int .i64 m] w fun e w' => e = .returned (.int .i64 (m + xs.length)) ∧ OwnI B v (marks m xs.length) w' ∧ Only (fun k => v.ownBlock = some k) w w' := by
  rcases h.form with ⟨a1, c1, rfl, rfl⟩ | ⟨g, cap, rfl, hB, hpos⟩
  · go_enter Try.func52, Try.ntmps52
    go_wp2
    refine wp_loop_rounds 1 ?_
    rw [rounds_succ]
    go_wp2
    go_ret
    exact ⟨ret_int (by simp), h, Only.refl _ _⟩
  · have HP := Lib.hid (pm_all m xs)
    go_enter Try.func52, Try.ntmps52
    go_wp2
    go_loopw [1, 5] (fun j i wr => ∃ k : Nat, k ≤ xs.length ∧ i = .int .i64 k ∧ j = .int .i64 (m + k) ∧ OwnI B (.slice (some ⟨g, 0, none⟩) xs.length cap) (pm m k xs) wr ∧ Only (fun k => (Value.slice (some ⟨g, 0, none⟩) xs.length cap).ownBlock = some k) w wr) (fun _ i _ => xs.length - (intOf i).toNat)
    case atStart => exact ⟨0, Nat.zero_le _, rfl, by simp, by rw [pm_zero]; exact h, Only.refl _ _⟩
    case round =>
      obtain ⟨k, hk, rfl, rfl, hown, hb⟩ := hrel
      by_cases hlt : k < xs.length
      · have hc := hown.cell k (by rw [pm_length]; exact hlt)
        have hf := hown.frozen k
        have e1 : (k : Int) < (xs.length : Int) := by omega
        have hown2 := hown.set k (m + k)
        rw [pm_succ] at hown2
        have hb2 := hb.trans (only_set wr g k (.int .i64 (m + k)) (S := fun k => (Value.slice (some ⟨g, 0, none⟩) xs.length cap).ownBlock = some k) rfl)
        go_wp2
        go_roundw
        case rel => exact ⟨k + 1, by omega, by go_num, by go_num, hown2, hb2⟩
        case measure => simp [intOf]; omega
      · obtain rfl : k = xs.length := by omega
        go_wp2
        go_ret
        exact ⟨rfl, by rw [← HP.out]; exact hown, hb⟩

theorem OwnR.remark {B n k : Nat} {v : Value} {G C : Nat → Nat} {Z : Nat → List Int} {m : Nat} {w w' : World} (h : OwnR B v n G C (mk2 m k Z) w) (hk : k < n) (hz : (Z k).length = 2) (ho : OwnI B (.slice (some ⟨G k, 0, none⟩) 2 (C k)) (marks ((m + 2 * k : Nat) : Int) 2) w') (hb : Only (fun b => (Value.slice (some ⟨G k, 0, none⟩) 2 (C k)).ownBlock = some b) w w') : OwnR B v n G C (mk2 m (k + 1) Z) w' := by
  obtain ⟨h1, h2, h3, h4⟩ := h
  have hl : ∀ j, (mk2 m (k + 1) Z j).length = (mk2 m k Z j).length := fun j => by
    rw [← mk2_step]
    by_cases e : j = k
    · subst e; rw [upd_same, mk2_at, hz, marks_length]
    · rw [upd_other _ _ e]
  refine ⟨?_, fun j hj => ?_, h3, h4⟩
  · rw [rowCells_congr (G := G) (C := C) (fun j hj => ⟨rfl, rfl, hl j⟩)]
    exact own_only h1 hb (fun b e e2 => h3 k hk (by rw [e]; simpa [Value.ownBlock] using e2.symm))
  · unfold rowCell
    rw [hl]
    by_cases e : j = k
    · subst e
      rw [mk2_at, hz, ← mk2_step, upd_same]; exact ho
    · rw [← mk2_step, upd_other _ _ e]
      exact (h2 j hj).only hb (fun b e1 e2 => h4 j k hj hk e (by
        have a1 : G j = b := by simpa [rowCell, Value.ownBlock] using e1
        have a2 : G k = b := by simpa [Value.ownBlock] using e2
        rw [a1, a2]))
theorem Its.rows {v : Value} {n : Nat} {G : Nat → Nat} {k : Nat} (h : Rws n G k) : Its v n G k := .inr h
set_option maxHeartbeats 1600000 in
theorem markIntSS_two (v : Value) (B n : Nat) (G C : Nat → Nat) (Z : Nat → List Int) (m : Nat) (w : World) (h : OwnR B v n G C Z w) (hz : ∀ j, j < n → (Z j).length = 2) (hn : n ≤ 100000) (hm : m ≤ 100000) :
    Calls Try.prog 15 #[v, .int .i64 (m : Int)] w fun e w' => e = .returned (.int .i64 ((m + 2 * n : Nat) : Int)) ∧ OwnR B v n G C (mk2 m n Z) w' ∧ Only (Rws n G) w w' := by
  rcases h.form with ⟨a1, c1, rfl, h0⟩ | ⟨g, cap, rfl, hB, hpos⟩
  · subst h0
    go_enter Try.func15, Try.ntmps15
    go_wp2
    refine wp_loop_rounds 1 ?_
    rw [rounds_succ]
    go_wp2
    go_ret
    exact ⟨rfl, by rw [mk2_zero]; exact h, Only.refl _ _⟩
  · have HZ := Lib.hid hz; clear hz
    go_enter Try.func15, Try.ntmps15
    go_wp2
    go_loopw [1, 5] (fun j i wr => ∃ k : Nat, k ≤ n ∧ i = .int .i64 k ∧ j = .int .i64 ((m + 2 * k : Nat) : Int) ∧ OwnR B (.slice (some ⟨g, 0, none⟩) n cap) n G C (mk2 m k Z) wr ∧ Only (Rws n G) w wr) (fun _ i _ => n - (intOf i).toNat)
    case atStart => exact ⟨0, Nat.zero_le _, rfl, by simp, by rw [mk2_zero]; exact h, Only.refl _ _⟩
    case round =>
      obtain ⟨k, hk, rfl, rfl, hown, hb⟩ := hrel
      by_cases hlt : k < n
      · have hc := hown.cell k hlt
        have hr := hown.row k hlt
        have hz := HZ.out k hlt
        rw [mk2_at, hz] at hc hr
        have e1 : (k : Int) < (n : Int) := by omega
        have HW := Lib.hid (fun (w' : World) a b => OwnR.remark (w' := w') hown hlt hz a b)
        go_wp2_with fail
        refine (markIntS_only _ B (Z k) ((m + 2 * k : Nat) : Int) _ hr (by omega) (by omega) (by omega)).mono ?_
        rw [hz]
        rintro e w1 ⟨rfl, ho, hb1⟩
        have hown2 := HW.out w1 ho hb1
        have hb2 : Only (Rws n G) w w1 := hb.trans (hb1.mono (fun b _ e => ⟨k, hlt, by simpa [Value.ownBlock] using e⟩))
        go_wp2
        go_roundw
        case rel => exact ⟨k + 1, by omega, by go_num, by go_num, hown2, hb2⟩
        case measure => simp [intOf]; omega
      · obtain rfl : k = n := by omega
        go_wp2
        go_ret
        exact ⟨rfl, hown, hb⟩

set_option maxHeartbeats 1600000 in
theorem heldIntSS_two (v : Value) (B n : Nat) (G C : Nat → Nat) (Z : Nat → List Int) (m : Nat) (w : World) (h : OwnR B v n G C (mk2 m n Z) w) (hn : n ≤ 100000) (hm : m ≤ 100000) :
    Calls Try.prog 16 #[v, .int .i64 (m : Int)] w fun e w' => e = .returned (.int .i64 ((m + 2 * n : Nat) : Int)) ∧ w = w' := by
  rcases h.form with ⟨a1, c1, rfl, h0⟩ | ⟨g, cap, rfl, hB, hpos⟩
  · subst h0
    clear h
    go_enter Try.func16, Try.ntmps16
    go_wp2
    refine wp_loop_rounds 1 ?_
    rw [rounds_succ]
    go_wp2
    go_ret
    exact ⟨rfl, rfl⟩
  · have HO := Lib.hid h; clear h
    go_enter Try.func16, Try.ntmps16
    go_wp2
    go_loop [1, 5] (fun j i => ∃ k : Nat, k ≤ n ∧ i = .int .i64 k ∧ j = .int .i64 ((m + 2 * k : Nat) : Int)) (fun _ i => n - (intOf i).toNat)
    case atStart => exact ⟨0, Nat.zero_le _, rfl, by simp⟩
    case round =>
      obtain ⟨k, hk, rfl, rfl⟩ := hrel
      by_cases hlt : k < n
      · have hc := HO.out.cell k hlt
        have hr := HO.out.row k hlt
        have hq : mk2 m n Z k = marks ((m + 2 * k : Nat) : Int) 2 := by unfold mk2; rw [if_pos hlt]
        rw [hq, marks_length] at hc hr
        clear hq
        have e1 : (k : Int) < (n : Int) := by omega
        go_wp2_with fail
        refine (heldIntS_any _ B 2 ((m + 2 * k : Nat) : Int) _ hr (by omega) (by omega) (by omega)).mono ?_
        rintro e w1 ⟨rfl, rfl⟩
        go_wp2
        go_round
        case rel => exact ⟨k + 1, by omega, by go_num, by go_num⟩
        case measure => simp [intOf]; omega
      · obtain rfl : k = n := by omega
        go_wp2
        go_ret
        exact ⟨rfl, rfl⟩

end Go.Proofs.Ytmpbhhggbmjfcaa
