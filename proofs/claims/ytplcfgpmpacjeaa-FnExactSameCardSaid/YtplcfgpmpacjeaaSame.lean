/- Contracts of SameCard, both sides. -/
import Derived.Test.YtplcfgpmpacjeaaCards
import Derived.Deep.RegionWith
namespace Go.Proofs.Ytplcfgpmpacjeaa
open Go.RowKit
set_option linter.unusedVariables false
set_option linter.unusedSimpArgs false

def scV (d1 f1 d2 f2 : Int) (ss tt : List ByteArray) : Bool := decide (d1 = d2) && decide (f1 = f2) && decide (ss = tt)
theorem scV_d {d1 f1 d2 f2 : Int} {ss tt : List ByteArray} (h : ¬ d1 = d2) : scV d1 f1 d2 f2 ss tt = false := by unfold scV; rw [decide_eq_false h]; rfl
theorem scV_f {d1 f1 d2 f2 : Int} {ss tt : List ByteArray} (h : ¬ f1 = f2) : scV d1 f1 d2 f2 ss tt = false := by unfold scV; rw [decide_eq_false h]; simp
theorem scV_s {d1 f1 d2 f2 : Int} {ss tt : List ByteArray} (h : ¬ ss = tt) : scV d1 f1 d2 f2 ss tt = false := by unfold scV; rw [decide_eq_false h]; simp
theorem scV_in {d f : Int} {ss tt : List ByteArray} : scV d f d f ss tt = decide (ss = tt) := by unfold scV; simp
theorem toList_inj {a b : ByteArray} (h : a.toList = b.toList) : a = b := by
  rw [Go.ByteArray.toList_eq, Go.ByteArray.toList_eq] at h; exact ByteArray.ext (Array.toList_inj.1 h)
theorem ne_len {ss tt : List ByteArray} (h : ¬ ss.length = tt.length) : ¬ ss = tt := fun e => h (by rw [e])
theorem ne_sel {ss tt : List ByteArray} {k : Nat} (h : ¬ sel ss k = sel tt k) : ¬ ss = tt := fun e => h (by rw [e])
theorem eq_sel {ss tt : List ByteArray} {n : Nat} (h1 : ss.length = n) (h2 : tt.length = n) (h : ∀ j, j < n → sel ss j = sel tt j) : ss = tt := by
  apply List.ext_getElem (by omega)
  intro i a1 a2
  have := h i (by omega)
  rwa [sel_get ss i a1, sel_get tt i a2] at this

/-- slices.Equal at two slices of strings. -/
theorem equalS_any (a1 a2 : Option Addr) (c1 c2 : Nat) (ss tt : List ByteArray) (w : World) (h1 : RdS w a1 ss) (h2 : RdS w a2 tt) (m1 : ss.length ≤ maxLen) (m2 : tt.length ≤ maxLen) :
    Calls Try.prog 88 #[.slice a1 ss.length c1, .slice a2 tt.length c2] w fun e w' => e = .returned (.bool (decide (ss = tt))) ∧ ∃ q, w' = w.drewN q := by
  unfold maxLen at m1 m2
  by_cases hl : ss.length = tt.length
  · rcases h1 with rfl | ⟨b1, o1, rfl, hp, hl1, hc1⟩
    · refine (Try.slices_Equal_string_empty a1 a2 c1 tt.length c2 w m2).mono ?_
      rintro e w' ⟨rfl, rfl⟩
      have h0 : tt = [] := List.length_eq_zero_iff.1 hl.symm
      refine ⟨ret_bool ?_, 0, rfl⟩
      rw [h0]; simp
    · rcases h2 with rfl | ⟨b2, o2, rfl, _, hl2, hc2⟩
      · simp at hl; rw [hl] at hp; simp at hp
      refine (Try.slices_Equal_string b1 o1 ss.length c1 b2 o2 tt.length c2 ss tt w (Nat.le_refl _) (Nat.le_refl _) m1 m2 (fun j hj => hc1 j hj) (fun j hj => hc2 j hj)).mono ?_
      rintro e w' ⟨rfl, hq⟩
      exact ⟨ret_bool (by rw [List.take_length, List.take_length]), hq⟩
  · refine (Try.slices_Equal_string_lens a1 a2 ss.length c1 tt.length c2 w hl).mono ?_
    rintro e w' ⟨rfl, rfl⟩
    exact ⟨ret_bool (by rw [decide_eq_false (ne_len hl)]), 0, rfl⟩

set_option maxRecDepth 20000 in
set_option maxHeartbeats 1600000 in
theorem implSame_any (w : World) (d1 f1 d2 f2 : Int) (a1 a2 : Option Addr) (c1 c2 : Nat) (ss tt : List ByteArray) (h1 : RdS w a1 ss) (h2 : RdS w a2 tt) (m1 : ss.length ≤ maxLen) (m2 : tt.length ≤ maxLen) :
    Calls Try.prog 26 #[.agg #[.int .i64 d1, .int .i64 f1, .slice a1 ss.length c1], .agg #[.int .i64 d2, .int .i64 f2, .slice a2 tt.length c2]] w fun e w' => e = .returned (.bool (scV d1 f1 d2 f2 ss tt)) ∧ Below w.heap.size w w' := by
  have M1 := Lib.hid m1; have M2 := Lib.hid m2; clear m1 m2
  by_cases hd : d1 = d2
  · subst hd
    by_cases hf : f1 = f2
    · subst hf
      have R := Lib.hid (scV_in (d := d1) (f := f1) (ss := ss) (tt := tt))
      have hb : (d1 == d1) = true := beq_self_eq_true d1
      have hb2 : (f1 == f1) = true := beq_self_eq_true f1
      go_enter Try.func26, Try.ntmps26
      go_wp2_with fail
      refine (equalS_any _ _ _ _ ss tt _ ((h1.alloc _).alloc _) ((h2.alloc _).alloc _) M1.out M2.out).mono ?_
      rintro e w' ⟨rfl, q, rfl⟩
      go_wp2
      go_ret
      exact ⟨ret_bool R.out.symm, dr_bel (((Below.refl _ _).alloc (Nat.le_refl _) _).alloc (by simp) _) ⟨_, rfl⟩⟩
    · have R := Lib.hid (scV_f (d1 := d1) (d2 := d1) (ss := ss) (tt := tt) hf)
      have hb : (d1 == d1) = true := beq_self_eq_true d1
      have hb2 : (f1 == f2) = false := beq_eq_false_iff_ne.2 hf
      clear hf
      go_enter Try.func26, Try.ntmps26
      go_wp2
      go_ret
      exact ⟨ret_bool R.out.symm, ((Below.refl _ _).alloc (Nat.le_refl _) _).alloc (by simp) _⟩
  · have R := Lib.hid (scV_d (f1 := f1) (f2 := f2) (ss := ss) (tt := tt) hd)
    have hb : (d1 == d2) = false := beq_eq_false_iff_ne.2 hd
    clear hd
    go_enter Try.func26, Try.ntmps26
    go_wp2
    go_ret
    exact ⟨ret_bool R.out.symm, ((Below.refl _ _).alloc (Nat.le_refl _) _).alloc (by simp) _⟩

set_option maxRecDepth 20000 in
set_option maxHeartbeats 3200000 in
theorem specSame_any (w : World) (d1 f1 d2 f2 : Int) (a1 a2 : Option Addr) (c1 c2 : Nat) (ss tt : List ByteArray) (h1 : RdS w a1 ss) (h2 : RdS w a2 tt) (m1 : ss.length ≤ maxLen) (m2 : tt.length ≤ maxLen) :
    Calls Try.prog 24 #[.agg #[.int .i64 d1, .int .i64 f1, .slice a1 ss.length c1], .agg #[.int .i64 d2, .int .i64 f2, .slice a2 tt.length c2]] w fun e w' => e = .returned (.bool (scV d1 f1 d2 f2 ss tt)) ∧ Below w.heap.size w w' := by
  unfold maxLen at m1 m2
  by_cases hd : d1 = d2
  · subst hd
    have hb : (d1 != d1) = false := by simp
    by_cases hf : f1 = f2
    · subst hf
      have hb2 : (f1 != f1) = false := by simp
      by_cases hl : ss.length = tt.length
      · have hb3 : ((ss.length : Int) != (tt.length : Int)) = false := by rw [hl]; simp
        have HL := Lib.hid hl
        rcases h1 with rfl | ⟨b1, o1, rfl, hp, hl1, hc1⟩
        · have h0 : tt = [] := List.length_eq_zero_iff.1 hl.symm
          subst h0
          have R : Hid (scV d1 f1 d1 f1 [] [] = true) := Lib.hid (by rw [scV_in]; simp)
          clear hl HL hb3 m2
          go_enter Try.func24, Try.ntmps24
          go_wp2
          refine wp_loop_rounds 1 ?_
          rw [rounds_succ]
          go_wp2
          go_ret
          exact ⟨ret_bool R.out.symm, ((Below.refl _ _).alloc (Nat.le_refl _) _).alloc (by simp) _⟩
        · rcases h2 with rfl | ⟨b2, o2, rfl, _, hl2, hc2⟩
          · simp at hl; rw [hl] at hp; simp at hp
          rw [← hl] at hc2 hb3 ⊢
          have HT := Lib.hid hl.symm
          clear hl m2 HL
          generalize hn : ss.length = n at *
          have HN := Lib.hid hn; clear hn
          have HC1 : Hid (∀ j, j < n → ((w.alloc (.cells #[.int .i64 d1, .int .i64 f1, .slice (some ⟨b1, o1, none⟩) n c1] 31)).alloc (.cells #[.int .i64 d1, .int .i64 f1, .slice (some ⟨b2, o2, none⟩) n c2] 31)).cell? ⟨b1, o1 + j, none⟩ = some (.string (sel ss j))) := Lib.hid (fun j hj => by
            rw [World.cell?_alloc_past _ _ _ (by simp; omega), World.cell?_alloc_past _ _ _ hl1]; exact hc1 j hj)
          have HC2 : Hid (∀ j, j < n → ((w.alloc (.cells #[.int .i64 d1, .int .i64 f1, .slice (some ⟨b1, o1, none⟩) n c1] 31)).alloc (.cells #[.int .i64 d1, .int .i64 f1, .slice (some ⟨b2, o2, none⟩) n c2] 31)).cell? ⟨b2, o2 + j, none⟩ = some (.string (sel tt j))) := Lib.hid (fun j hj => by
            rw [World.cell?_alloc_past _ _ _ (by simp; omega), World.cell?_alloc_past _ _ _ hl2]; exact hc2 j hj)
          have HB : Below w.heap.size w ((w.alloc (.cells #[.int .i64 d1, .int .i64 f1, .slice (some ⟨b1, o1, none⟩) n c1] 31)).alloc (.cells #[.int .i64 d1, .int .i64 f1, .slice (some ⟨b2, o2, none⟩) n c2] 31)) := ((Below.refl _ _).alloc (Nat.le_refl _) _).alloc (by simp) _
          clear hc1 hc2
          go_enter Try.func24, Try.ntmps24
          go_wp2
          go_loopw [5] (fun i wr => ∃ k : Nat, k ≤ n ∧ i = .int .i64 k ∧ Hid (∀ j, j < k → sel ss j = sel tt j) ∧ ∃ q, wr = ((w.alloc (.cells #[.int .i64 d1, .int .i64 f1, .slice (some ⟨b1, o1, none⟩) n c1] 31)).alloc (.cells #[.int .i64 d1, .int .i64 f1, .slice (some ⟨b2, o2, none⟩) n c2] 31)).drewN q) (fun i _ => n - (intOf i).toNat)
          case atStart => exact ⟨0, Nat.zero_le _, rfl, Lib.hid (fun j hj => by omega), dr_refl _⟩
          case round =>
            obtain ⟨k, hk, rfl, HA, hwr⟩ := hrel
            have HW := Lib.hid hwr; clear hwr
            have c0 : wr.cell? ⟨w.heap.size, 2, none⟩ = some (.slice (some ⟨b1, o1, none⟩) n c1) := by obtain ⟨q, rfl⟩ := HW.out; simp [go_sem]
            have c1' : wr.cell? ⟨w.heap.size + 1, 2, none⟩ = some (.slice (some ⟨b2, o2, none⟩) n c2) := by obtain ⟨q, rfl⟩ := HW.out; simp [go_sem]
            by_cases hlt : k < n
            · have g1 : wr.cell? ⟨b1, o1 + k, none⟩ = some (.string (sel ss k)) := by obtain ⟨q, rfl⟩ := HW.out; rw [World.cell?_drewN]; exact HC1.out k hlt
              have g2 : wr.cell? ⟨b2, o2 + k, none⟩ = some (.string (sel tt k)) := by obtain ⟨q, rfl⟩ := HW.out; rw [World.cell?_drewN]; exact HC2.out k hlt
              have e1 : (k : Int) < (n : Int) := by omega
              by_cases he : sel ss k = sel tt k
              · have t1 : ((sel ss k).toList == (sel tt k).toList) = true := by rw [he]; simp
                have HA2 : Hid (∀ j, j < k + 1 → sel ss j = sel tt j) := Lib.hid (fun j hj => by
                  rcases Nat.lt_or_ge j k with h | h
                  · exact HA.out j h
                  · obtain rfl : j = k := by omega
                    exact he)
                clear he
                go_wp2
                go_quiet (fail)
                go_wp2
                go_roundw
                case rel => exact ⟨k + 1, by omega, by go_num, HA2, dr_trans HW.out ⟨_, rfl⟩⟩
                case measure => simp [intOf]; omega
              · have t1 : ((sel ss k).toList == (sel tt k).toList) = false := beq_eq_false_iff_ne.2 (fun e => he (toList_inj e))
                have R : Hid (scV d1 f1 d1 f1 ss tt = false) := Lib.hid (scV_s (ne_sel he))
                clear he
                go_wp2
                go_quiet (fail)
                go_wp2
                go_ret
                exact ⟨ret_bool R.out.symm, dr_bel HB (by first | exact HW.out | exact dr_trans HW.out ⟨_, rfl⟩)⟩
            · obtain rfl : k = n := by omega
              have R : Hid (scV d1 f1 d1 f1 ss tt = true) := Lib.hid (by rw [scV_in]; exact decide_eq_true (eq_sel HN.out HT.out HA.out))
              go_wp2
              go_ret
              exact ⟨ret_bool R.out.symm, dr_bel HB (by first | exact HW.out | exact dr_trans HW.out ⟨_, rfl⟩)⟩
      · have R := Lib.hid (scV_s (d1 := d1) (f1 := f1) (d2 := d1) (f2 := f1) (ne_len hl))
        have hb3 : ((ss.length : Int) != (tt.length : Int)) = true := by rw [bne_iff_ne]; omega
        clear hl
        go_enter Try.func24, Try.ntmps24
        go_wp2
        go_ret
        exact ⟨ret_bool R.out.symm, ((Below.refl _ _).alloc (Nat.le_refl _) _).alloc (by simp) _⟩
    · have R := Lib.hid (scV_f (d1 := d1) (d2 := d1) (ss := ss) (tt := tt) hf)
      have hb2 : (f1 != f2) = true := by rw [bne_iff_ne]; exact hf
      clear hf
      go_enter Try.func24, Try.ntmps24
      go_wp2
      go_ret
      exact ⟨ret_bool R.out.symm, ((Below.refl _ _).alloc (Nat.le_refl _) _).alloc (by simp) _⟩
  · have R := Lib.hid (scV_d (f1 := f1) (f2 := f2) (ss := ss) (tt := tt) hd)
    have hb : (d1 != d2) = true := by rw [bne_iff_ne]; exact hd
    clear hd
    go_enter Try.func24, Try.ntmps24
    go_wp2
    go_ret
    exact ⟨ret_bool R.out.symm, ((Below.refl _ _).alloc (Nat.le_refl _) _).alloc (by simp) _⟩
end Go.Proofs.Ytplcfgpmpacjeaa
