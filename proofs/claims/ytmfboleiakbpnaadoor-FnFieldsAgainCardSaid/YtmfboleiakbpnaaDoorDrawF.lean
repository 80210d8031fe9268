/- Contracts of l01Pick, DrawSplitFields: a text of bounded length. -/
import Derived.Test.YtmfboleiakbpnaaDoorDrawT
import Derived.Test.YtmfboleiakbpnaaDoorFmt
namespace Go.Proofs.YtmfboleiakbpnaaDoor
open Go.RowKit
set_option linter.unusedVariables false
set_option linter.unusedSimpArgs false
set_option maxRecDepth 20000

/-- Short texts in a block. -/
def RowT (w : World) (b m : Nat) : Prop := b < w.heap.size ∧ ∀ j : Nat, j < m → ∃ z : ByteArray, w.cell? ⟨b, j, none⟩ = some (.string z) ∧ z.size ≤ 10
theorem RowT.grown {w w' : World} {b m g : Nat} (h : RowT w b m) (hg : w.grownBy w' (some g)) (hne : b ≠ g) : RowT w' b m :=
  ⟨Nat.lt_of_lt_of_le h.1 hg.size, fun j hj => by obtain ⟨z, hz, hz2⟩ := h.2 j hj; exact ⟨z, hg.cell hz (fun e => hne (Option.some.inj e)), hz2⟩⟩
theorem app_size (s t : ByteArray) : (s ++ t).size = s.size + t.size := ByteArray.size_append
theorem one_byte (b : UInt8) : (⟨#[b]⟩ : ByteArray).size = 1 := rfl
theorem u8_conv {x : Int} (h0 : 0 ≤ x) (h1 : x ≤ 93) : (33 : Int) + x = ((UInt8.ofNat (33 + x.toNat)).toNat : Int) := by rw [UInt8.toNat_ofNat']; omega
set_option maxHeartbeats 400000 in
theorem l01Pick_any (B : Nat) (a : Option Addr) (n cap g : Nat) (b m c : Nat) (hm : 1 ≤ m) (hm2 : m ≤ 1000) (hbg : b ≠ g) (w : World) (hc : Cur B a n cap g w) (hr : RowT w b m) :
    Calls Tryd.prog 35 #[.pointer (some ⟨g, 0, none⟩), .slice (some ⟨b, 0, none⟩) m c] w fun e w' => ∃ z : ByteArray, e = .returned (.string z) ∧ z.size ≤ 10 ∧ Cur B a n cap g w' ∧ w.grownBy w' (some g) := by
  have HC := Lib.hid hc; have HR := Lib.hid hr; clear hc hr
  go_enter Tryd.func35, Tryd.ntmps35
  go_wp2_with fail
  refine (l01Below_pos B a n cap g m (by omega) (by omega) _ HC.out).mono ?_
  rintro e w1 ⟨x, rfl, x0, x1, hc1, gr1⟩
  obtain ⟨j, rfl⟩ := Int.eq_ofNat_of_zero_le x0
  have hj : j < m := by omega
  obtain ⟨z, hz, hz2⟩ := (HR.out.grown gr1 hbg).2 j hj
  have e1 : (j : Int) < (m : Int) := by omega
  have HC1 := Lib.hid hc1; have G1 := Lib.hid gr1; clear hc1 gr1
  go_wp2
  go_ret
  exact ⟨z, rfl, hz2, HC1.out, G1.out⟩

theorem grown_of_below {a b : World} (h : Below a.heap.size a b) (row : Option Nat) : a.grownBy b row := ⟨h.os, h.tape, h.output, h.size, fun k hk _ => h.block k hk⟩
set_option maxHeartbeats 16000000 in
theorem drawSplit_any (a : Option Addr) (n cap : Nat) (w : World) (hn : n ≤ 1048576) (hr : RdB w.heap.size w a n) :
    Calls Tryd.prog 20 #[.slice a n cap] w fun e w' => ∃ s : ByteArray, e = .returned (.string s) ∧ s.size ≤ 2000 ∧ Below w.heap.size w w' := by
  go_enter Tryd.func20, Tryd.ntmps20
  go_wp2_with fail
  refine (l01New_any a n cap w hn hr).mono ?_
  rintro e w1 ⟨g, rfl, hc, hb, hg⟩
  have HC0 := Lib.hid hc; have HB := Lib.hid hb; clear hc hb
  have hB1 : w.heap.size ≤ w1.heap.size := HB.out.size
  have HR0 : Hid (w1.grownBy w1 (some g)) := Lib.hid (World.grownBy.refl _ _)
  obtain ⟨B0, hB0⟩ : ∃ B0, B0 = w.heap.size := ⟨_, rfl⟩
  rw [← hB0] at hB1
  have HC0 : Hid (Cur B0 a n cap g w1) := Lib.hid (by rw [hB0]; exact HC0.out)
  go_wp2_with fail
  refine (l01Below_pos _ a n cap g _ (by omega) (by omega) _ HC0.out).mono ?_
  rintro e w2 ⟨n0, rfl, n00, n01, hc1, gr1⟩
  have HCa := Lib.hid hc1; have HGa := Lib.hid (gr_trans HR0.out gr1); clear hc1 gr1
  obtain ⟨m, rfl⟩ := Int.eq_ofNat_of_zero_le n00
  have hm8 : m ≤ 25 := by omega
  go_wp2_with fail
  refine (l01Once_any _ a n cap g _ (by omega) (by omega) _ HCa.out).mono ?_
  rintro e w3 ⟨b, rfl, hc1, gr1⟩
  have HCb := Lib.hid hc1; have HGb := Lib.hid (gr_trans HGa.out gr1); clear hc1 gr1
  cases b with
  | true =>
    clear hm8 n00 n01
    go_wp2_with fail
    refine (l01Below_pos _ a n cap g _ (by omega) (by omega) _ HCb.out).mono ?_
    rintro e w4 ⟨n1, rfl, n10, n11, hc1, gr1⟩
    have HCc := Lib.hid hc1; have HGc := Lib.hid (gr_trans HGb.out gr1); clear hc1 gr1
    obtain ⟨m, hm⟩ : ∃ m' : Nat, (24 : Int) + n1 = (m' : Int) := ⟨((24 : Int) + n1).toNat, by omega⟩
    have hm8 : m ≤ 25 := by omega
    have hn1 : n1 = (m : Int) - 24 := by omega
    subst hn1
    have hq : (24 : Int) + ((m : Int) - 24) = (m : Int) := by omega
    clear n10 n11 hm
    go_wp2
    go_loopw [5, 6] (fun u i wx => ∃ (k : Nat) (t : ByteArray), k ≤ m ∧ i = .int .i64 k ∧ u = .string t ∧ t.size ≤ 8 * k ∧ Hid (Cur B0 a n cap g wx) ∧ Hid (w1.grownBy wx (some g))) (fun _ i _ => m - (intOf i).toNat)
    case atStart => exact ⟨0, ⟨#[]⟩, Nat.zero_le _, rfl, rfl, Nat.zero_le _, HCc, HGc⟩
    case round =>
      obtain ⟨k, t, hk, rfl, rfl, hts, HC1, HG1⟩ := hrel
      by_cases hlt : k < m
      · have e1 : (k : Int) < (m : Int) := by omega
        by_cases hk0 : 0 < k
        · have e2 : (0 : Int) < (k : Int) := by omega
          go_wp2_with fail
          refine (l01Below_pos _ a n cap g _ (by omega) (by omega) _ HC1.out).mono ?_
          rintro e w3 ⟨x, rfl, x0, x1, hc1, gr1⟩
          have HC3 := Lib.hid hc1; have HG3 := Lib.hid (gr_trans HG1.out gr1); clear hc1 gr1
          go_wp2_with fail
          refine (l01Below_pos _ a n cap g _ (by omega) (by omega) _ HC3.out).mono ?_
          rintro e w4 ⟨y, rfl, y0, y1, hc1, gr1⟩
          have HC4 := Lib.hid hc1; have HG4 := Lib.hid (gr_trans HG3.out gr1); clear hc1 gr1
          have q1 : x * y ≤ 1 * y := Int.mul_le_mul_of_nonneg_right (by omega) y0
          have q2 : 0 ≤ x * y := Int.mul_nonneg x0 y0
          obtain ⟨m2, hm2⟩ : ∃ m2 : Nat, x * y = (m2 : Int) := ⟨(x * y).toNat, by omega⟩
          rw [hm2] at q1
          have q5 : (1 : Int) + (m2 : Int) = (m2 : Int) + 1 := by omega
          have hlong : Hid (∀ w : World, Calls Tryd.prog 31 #[.int .i64 ((m2 : Int) + 1), .int .u8 32] w (fun e w' => (∃ s : ByteArray, e = .returned (.string s) ∧ s.size = m2 + 1) ∧ Below w.heap.size w w')) := Lib.hid (fun w => l01Long_any (m2 + 1) (by omega) 32 w)
          have hmm : m2 ≤ 2 := by omega
          clear q1 q2
          go_wp2_with fail
          try rw [hm2]
          try rw [q5]
          refine (hlong.out _).mono ?_
          rintro e w5 ⟨⟨lg, rfl, hls⟩, hb5⟩
          have hg14 : g < w4.heap.size := HC4.out.lt
          have HC5 := Lib.hid (HC4.out.low hb5 (Nat.le_trans hB1 HG4.out.size) hg14)
          have HG5 := Lib.hid (gr_trans HG4.out (grown_of_below hb5 (some g)))
          clear hb5 hlong
          have hbound : (t ++ lg).size ≤ 8 * k + 3 := by rw [app_size]; omega
          go_wp2
          go_loopw [5, 7] (fun u i wy => ∃ (j : Nat) (t : ByteArray), j ≤ 5 ∧ i = .int .i64 j ∧ u = .string t ∧ Hid (t.size ≤ 8 * k + 3 + j) ∧ Hid (Cur B0 a n cap g wy) ∧ Hid (w1.grownBy wy (some g))) (fun _ i _ => 5 - (intOf i).toNat)
          case atStart => exact ⟨0, _, Nat.zero_le _, rfl, rfl, Lib.hid hbound, HC5, HG5⟩
          case round =>
            obtain ⟨j, t, hj, rfl, rfl, HS, HCi, HGi⟩ := hrel
            go_wp2_with fail
            refine (l01Below_pos _ a n cap g _ (by omega) (by omega) _ HCi.out).mono ?_
            rintro e w6 ⟨x, rfl, x0, x1, hc1, gr1⟩
            have HC6 := Lib.hid hc1; have HG6 := Lib.hid (gr_trans HGi.out gr1); clear hc1 gr1
            by_cases hjx : (j : Int) ≤ x
            · have hts : t.size ≤ 8 * k + 8 := by have := HS.out; omega
              go_wp2_with fail
              refine (l01Below_pos _ a n cap g _ (by omega) (by omega) _ HC6.out).mono ?_
              rintro e w7 ⟨c, rfl, c0, c1, hc1, gr1⟩
              have HC7 := Lib.hid hc1; have HG7 := Lib.hid (gr_trans HG6.out gr1); clear hc1 gr1
              have hcv := conv_one w7 (UInt8.ofNat (33 + c.toNat)) _ (u8_conv c0 (by omega))
              have hB7 : B0 ≤ w7.heap.size := Nat.le_trans hB1 HG7.out.size
              have HC8 := Lib.hid (HC7.out.alloc hB7 (.cells #[.int .u8 ((33 : Int) + c)] 5))
              have HG8 := Lib.hid (gr_trans HG7.out (World.grownBy_alloc w7 (.cells #[.int .u8 ((33 : Int) + c)] 5) (some g)))
              have HS2 : Hid ((t ++ ⟨#[UInt8.ofNat (33 + c.toNat)]⟩).size ≤ 8 * k + 3 + (j + 1)) := Lib.hid (by rw [app_size, one_byte]; have := HS.out; omega)
              clear hB7
              generalize hbb : (⟨#[UInt8.ofNat (33 + c.toNat)]⟩ : ByteArray) = bb at *
              have hbs : bb.size = 1 := by rw [← hbb]; rfl
              clear hbb
              go_wp2
              go_roundw
              case rel => exact ⟨j + 1, _, by omega, by go_num, rfl, HS2, HC8, HG8⟩
              case measure => simp [intOf]; omega
            · have hts := HS.out
              have hdx : decide ((j : Int) ≤ x) = false := decide_eq_false hjx
              go_wp2
              go_roundw
              case rel => exact ⟨k + 1, t, by omega, by go_num, rfl, by omega, HC6, HG6⟩
              case measure => simp [intOf]; omega
        · have e2 : decide ((0 : Int) < (k : Int)) = false := decide_eq_false (by omega)
          go_wp2_with fail
          refine (l01Once_any _ a n cap g _ (by omega) (by omega) _ HC1.out).mono ?_
          rintro e w2 ⟨b, rfl, hc1, gr1⟩
          have HC2 := Lib.hid hc1; have HG2 := Lib.hid (gr_trans HG1.out gr1); clear hc1 gr1
          cases b with
          | true =>
            go_wp2_with fail
            refine (l01Below_pos _ a n cap g _ (by omega) (by omega) _ HC2.out).mono ?_
            rintro e w3 ⟨x, rfl, x0, x1, hc1, gr1⟩
            have HC3 := Lib.hid hc1; have HG3 := Lib.hid (gr_trans HG2.out gr1); clear hc1 gr1
            go_wp2_with fail
            refine (l01Below_pos _ a n cap g _ (by omega) (by omega) _ HC3.out).mono ?_
            rintro e w4 ⟨y, rfl, y0, y1, hc1, gr1⟩
            have HC4 := Lib.hid hc1; have HG4 := Lib.hid (gr_trans HG3.out gr1); clear hc1 gr1
            have q1 : x * y ≤ 1 * y := Int.mul_le_mul_of_nonneg_right (by omega) y0
            have q2 : 0 ≤ x * y := Int.mul_nonneg x0 y0
            obtain ⟨m2, hm2⟩ : ∃ m2 : Nat, x * y = (m2 : Int) := ⟨(x * y).toNat, by omega⟩
            rw [hm2] at q1
            have q5 : (1 : Int) + (m2 : Int) = (m2 : Int) + 1 := by omega
            have hlong : Hid (∀ w : World, Calls Tryd.prog 31 #[.int .i64 ((m2 : Int) + 1), .int .u8 32] w (fun e w' => (∃ s : ByteArray, e = .returned (.string s) ∧ s.size = m2 + 1) ∧ Below w.heap.size w w')) := Lib.hid (fun w => l01Long_any (m2 + 1) (by omega) 32 w)
            have hmm : m2 ≤ 2 := by omega
            clear q1 q2
            go_wp2_with fail
            try rw [hm2]
            try rw [q5]
            refine (hlong.out _).mono ?_
            rintro e w5 ⟨⟨lg, rfl, hls⟩, hb5⟩
            have hg14 : g < w4.heap.size := HC4.out.lt
            have HC5 := Lib.hid (HC4.out.low hb5 (Nat.le_trans hB1 HG4.out.size) hg14)
            have HG5 := Lib.hid (gr_trans HG4.out (grown_of_below hb5 (some g)))
            clear hb5 hlong
            have hbound : (t ++ lg).size ≤ 8 * k + 3 := by rw [app_size]; omega
            go_wp2
            go_loopw [5, 7] (fun u i wy => ∃ (j : Nat) (t : ByteArray), j ≤ 5 ∧ i = .int .i64 j ∧ u = .string t ∧ Hid (t.size ≤ 8 * k + 3 + j) ∧ Hid (Cur B0 a n cap g wy) ∧ Hid (w1.grownBy wy (some g))) (fun _ i _ => 5 - (intOf i).toNat)
            case atStart => exact ⟨0, _, Nat.zero_le _, rfl, rfl, Lib.hid hbound, HC5, HG5⟩
            case round =>
              obtain ⟨j, t, hj, rfl, rfl, HS, HCi, HGi⟩ := hrel
              go_wp2_with fail
              refine (l01Below_pos _ a n cap g _ (by omega) (by omega) _ HCi.out).mono ?_
              rintro e w6 ⟨x, rfl, x0, x1, hc1, gr1⟩
              have HC6 := Lib.hid hc1; have HG6 := Lib.hid (gr_trans HGi.out gr1); clear hc1 gr1
              by_cases hjx : (j : Int) ≤ x
              · have hts : t.size ≤ 8 * k + 8 := by have := HS.out; omega
                go_wp2_with fail
                refine (l01Below_pos _ a n cap g _ (by omega) (by omega) _ HC6.out).mono ?_
                rintro e w7 ⟨c, rfl, c0, c1, hc1, gr1⟩
                have HC7 := Lib.hid hc1; have HG7 := Lib.hid (gr_trans HG6.out gr1); clear hc1 gr1
                have hcv := conv_one w7 (UInt8.ofNat (33 + c.toNat)) _ (u8_conv c0 (by omega))
                have hB7 : B0 ≤ w7.heap.size := Nat.le_trans hB1 HG7.out.size
                have HC8 := Lib.hid (HC7.out.alloc hB7 (.cells #[.int .u8 ((33 : Int) + c)] 5))
                have HG8 := Lib.hid (gr_trans HG7.out (World.grownBy_alloc w7 (.cells #[.int .u8 ((33 : Int) + c)] 5) (some g)))
                have HS2 : Hid ((t ++ ⟨#[UInt8.ofNat (33 + c.toNat)]⟩).size ≤ 8 * k + 3 + (j + 1)) := Lib.hid (by rw [app_size, one_byte]; have := HS.out; omega)
                clear hB7
                generalize hbb : (⟨#[UInt8.ofNat (33 + c.toNat)]⟩ : ByteArray) = bb at *
                have hbs : bb.size = 1 := by rw [← hbb]; rfl
                clear hbb
                go_wp2
                go_roundw
                case rel => exact ⟨j + 1, _, by omega, by go_num, rfl, HS2, HC8, HG8⟩
                case measure => simp [intOf]; omega
              · have hts := HS.out
                have hdx : decide ((j : Int) ≤ x) = false := decide_eq_false hjx
                go_wp2
                go_roundw
                case rel => exact ⟨k + 1, t, by omega, by go_num, rfl, by omega, HC6, HG6⟩
                case measure => simp [intOf]; omega
          | false =>
            have hbound : (t).size ≤ 8 * k + 3 := by omega
            go_wp2
            go_loopw [5, 7] (fun u i wy => ∃ (j : Nat) (t : ByteArray), j ≤ 5 ∧ i = .int .i64 j ∧ u = .string t ∧ Hid (t.size ≤ 8 * k + 3 + j) ∧ Hid (Cur B0 a n cap g wy) ∧ Hid (w1.grownBy wy (some g))) (fun _ i _ => 5 - (intOf i).toNat)
            case atStart => exact ⟨0, _, Nat.zero_le _, rfl, rfl, Lib.hid hbound, HC2, HG2⟩
            case round =>
              obtain ⟨j, t, hj, rfl, rfl, HS, HCi, HGi⟩ := hrel
              go_wp2_with fail
              refine (l01Below_pos _ a n cap g _ (by omega) (by omega) _ HCi.out).mono ?_
              rintro e w6 ⟨x, rfl, x0, x1, hc1, gr1⟩
              have HC6 := Lib.hid hc1; have HG6 := Lib.hid (gr_trans HGi.out gr1); clear hc1 gr1
              by_cases hjx : (j : Int) ≤ x
              · have hts : t.size ≤ 8 * k + 8 := by have := HS.out; omega
                go_wp2_with fail
                refine (l01Below_pos _ a n cap g _ (by omega) (by omega) _ HC6.out).mono ?_
                rintro e w7 ⟨c, rfl, c0, c1, hc1, gr1⟩
                have HC7 := Lib.hid hc1; have HG7 := Lib.hid (gr_trans HG6.out gr1); clear hc1 gr1
                have hcv := conv_one w7 (UInt8.ofNat (33 + c.toNat)) _ (u8_conv c0 (by omega))
                have hB7 : B0 ≤ w7.heap.size := Nat.le_trans hB1 HG7.out.size
                have HC8 := Lib.hid (HC7.out.alloc hB7 (.cells #[.int .u8 ((33 : Int) + c)] 5))
                have HG8 := Lib.hid (gr_trans HG7.out (World.grownBy_alloc w7 (.cells #[.int .u8 ((33 : Int) + c)] 5) (some g)))
                have HS2 : Hid ((t ++ ⟨#[UInt8.ofNat (33 + c.toNat)]⟩).size ≤ 8 * k + 3 + (j + 1)) := Lib.hid (by rw [app_size, one_byte]; have := HS.out; omega)
                clear hB7
                generalize hbb : (⟨#[UInt8.ofNat (33 + c.toNat)]⟩ : ByteArray) = bb at *
                have hbs : bb.size = 1 := by rw [← hbb]; rfl
                clear hbb
                go_wp2
                go_roundw
                case rel => exact ⟨j + 1, _, by omega, by go_num, rfl, HS2, HC8, HG8⟩
                case measure => simp [intOf]; omega
              · have hts := HS.out
                have hdx : decide ((j : Int) ≤ x) = false := decide_eq_false hjx
                go_wp2
                go_roundw
                case rel => exact ⟨k + 1, t, by omega, by go_num, rfl, by omega, HC6, HG6⟩
                case measure => simp [intOf]; omega
      · obtain rfl : k = m := by omega
        go_wp2_with fail
        refine (l01Below_pos _ a n cap g _ (by omega) (by omega) _ HC1.out).mono ?_
        rintro e w8 ⟨z, rfl, z0, z1, hc1, gr1⟩
        have HC8 := Lib.hid hc1; have HG8 := Lib.hid (gr_trans HG1.out gr1); clear hc1 gr1
        have hsz8 : B0 ≤ w8.heap.size := Nat.le_trans hB1 HG8.out.size
        have hgl8 : g < w8.heap.size := HC8.out.lt
        by_cases z2 : z = 0
        · have t0 : (z == 0) = true := beq_iff_eq.2 z2
          clear z2
          go_wp2_with fail
          refine (l01Pick_any B0 a n cap g w8.heap.size 6 6 (by omega) (by omega) (by omega) _ (HC8.out.alloc hsz8 _) ⟨by simp, fun j hj => ?_⟩).mono ?_
          · match j, hj with
            | 0, _ | 1, _ | 2, _ | 3, _ | 4, _ | 5, _ => exact ⟨_, by simp [go_sem]; rfl, by decide⟩
          rintro e w9 ⟨p, rfl, hp, hc2, gr2⟩
          have HG9 := Lib.hid (gr_trans HG8.out (gr_trans (World.grownBy_alloc _ _ _) gr2)); clear hc2 gr2
          go_wp2
          go_ret
          exact ⟨_, rfl, by rw [app_size]; omega, HB.out.trans (by rw [← hB0]; exact gr_below HG9.out hB1 HC0.out.le)⟩
        · have t0 : (z == 0) = false := beq_eq_false_iff_ne.2 z2
          by_cases z3 : z = 1
          · have t1 : (z == 1) = true := beq_iff_eq.2 z3
            by_cases h6 : t.size < 600
            · have e6 : (t.size : Int) < 600 := by omega
              go_wp2_with fail
              refine (l01Below_pos _ a n cap g _ (by omega) (by omega) _ HC8.out).mono ?_
              rintro e w9 ⟨y, rfl, y0, y1, hc1, gr1⟩
              have HC9 := Lib.hid hc1; have HG9 := Lib.hid (gr_trans HG8.out gr1); clear hc1 gr1
              obtain ⟨m3, hm3⟩ : ∃ m3 : Nat, (600 : Int) - (t.size : Int) + y = (m3 : Int) := ⟨((600 : Int) - (t.size : Int) + y).toNat, by omega⟩
              have hm31 : m3 ≤ 700 := by omega
              have hlong := Lib.hid (fun w => l01Long_any m3 (by omega) 32 w)
              clear z2 z3 h6
              go_wp2_with fail
              try rw [hm3]
              refine (hlong.out _).mono ?_
              rintro e w10 ⟨⟨lg, rfl, hls⟩, hb5⟩
              have HG10 := Lib.hid (gr_trans HG9.out (grown_of_below hb5 (some g)))
              clear hb5 hlong
              go_wp2
              go_ret
              exact ⟨_, rfl, by rw [app_size]; omega, HB.out.trans (by rw [← hB0]; exact gr_below HG10.out hB1 HC0.out.le)⟩
            · have e6 : decide ((t.size : Int) < 600) = false := decide_eq_false (by omega)
              clear z2 z3 h6
              go_wp2
              go_ret
              exact ⟨t, rfl, by omega, HB.out.trans (by rw [← hB0]; exact gr_below HG8.out hB1 HC0.out.le)⟩
          · have t1 : (z == 1) = false := beq_eq_false_iff_ne.2 z3
            clear z2 z3
            go_wp2
            go_ret
            exact ⟨t, rfl, by omega, HB.out.trans (by rw [← hB0]; exact gr_below HG8.out hB1 HC0.out.le)⟩
  | false =>
    go_wp2
    go_loopw [5, 6] (fun u i wx => ∃ (k : Nat) (t : ByteArray), k ≤ m ∧ i = .int .i64 k ∧ u = .string t ∧ t.size ≤ 8 * k ∧ Hid (Cur B0 a n cap g wx) ∧ Hid (w1.grownBy wx (some g))) (fun _ i _ => m - (intOf i).toNat)
    case atStart => exact ⟨0, ⟨#[]⟩, Nat.zero_le _, rfl, rfl, Nat.zero_le _, HCb, HGb⟩
    case round =>
      obtain ⟨k, t, hk, rfl, rfl, hts, HC1, HG1⟩ := hrel
      by_cases hlt : k < m
      · have e1 : (k : Int) < (m : Int) := by omega
        by_cases hk0 : 0 < k
        · have e2 : (0 : Int) < (k : Int) := by omega
          go_wp2_with fail
          refine (l01Below_pos _ a n cap g _ (by omega) (by omega) _ HC1.out).mono ?_
          rintro e w3 ⟨x, rfl, x0, x1, hc1, gr1⟩
          have HC3 := Lib.hid hc1; have HG3 := Lib.hid (gr_trans HG1.out gr1); clear hc1 gr1
          go_wp2_with fail
          refine (l01Below_pos _ a n cap g _ (by omega) (by omega) _ HC3.out).mono ?_
          rintro e w4 ⟨y, rfl, y0, y1, hc1, gr1⟩
          have HC4 := Lib.hid hc1; have HG4 := Lib.hid (gr_trans HG3.out gr1); clear hc1 gr1
          have q1 : x * y ≤ 1 * y := Int.mul_le_mul_of_nonneg_right (by omega) y0
          have q2 : 0 ≤ x * y := Int.mul_nonneg x0 y0
          obtain ⟨m2, hm2⟩ : ∃ m2 : Nat, x * y = (m2 : Int) := ⟨(x * y).toNat, by omega⟩
          rw [hm2] at q1
          have q5 : (1 : Int) + (m2 : Int) = (m2 : Int) + 1 := by omega
          have hlong : Hid (∀ w : World, Calls Tryd.prog 31 #[.int .i64 ((m2 : Int) + 1), .int .u8 32] w (fun e w' => (∃ s : ByteArray, e = .returned (.string s) ∧ s.size = m2 + 1) ∧ Below w.heap.size w w')) := Lib.hid (fun w => l01Long_any (m2 + 1) (by omega) 32 w)
          have hmm : m2 ≤ 2 := by omega
          clear q1 q2
          go_wp2_with fail
          try rw [hm2]
          try rw [q5]
          refine (hlong.out _).mono ?_
          rintro e w5 ⟨⟨lg, rfl, hls⟩, hb5⟩
          have hg14 : g < w4.heap.size := HC4.out.lt
          have HC5 := Lib.hid (HC4.out.low hb5 (Nat.le_trans hB1 HG4.out.size) hg14)
          have HG5 := Lib.hid (gr_trans HG4.out (grown_of_below hb5 (some g)))
          clear hb5 hlong
          have hbound : (t ++ lg).size ≤ 8 * k + 3 := by rw [app_size]; omega
          go_wp2
          go_loopw [5, 7] (fun u i wy => ∃ (j : Nat) (t : ByteArray), j ≤ 5 ∧ i = .int .i64 j ∧ u = .string t ∧ Hid (t.size ≤ 8 * k + 3 + j) ∧ Hid (Cur B0 a n cap g wy) ∧ Hid (w1.grownBy wy (some g))) (fun _ i _ => 5 - (intOf i).toNat)
          case atStart => exact ⟨0, _, Nat.zero_le _, rfl, rfl, Lib.hid hbound, HC5, HG5⟩
          case round =>
            obtain ⟨j, t, hj, rfl, rfl, HS, HCi, HGi⟩ := hrel
            go_wp2_with fail
            refine (l01Below_pos _ a n cap g _ (by omega) (by omega) _ HCi.out).mono ?_
            rintro e w6 ⟨x, rfl, x0, x1, hc1, gr1⟩
            have HC6 := Lib.hid hc1; have HG6 := Lib.hid (gr_trans HGi.out gr1); clear hc1 gr1
            by_cases hjx : (j : Int) ≤ x
            · have hts : t.size ≤ 8 * k + 8 := by have := HS.out; omega
              go_wp2_with fail
              refine (l01Below_pos _ a n cap g _ (by omega) (by omega) _ HC6.out).mono ?_
              rintro e w7 ⟨c, rfl, c0, c1, hc1, gr1⟩
              have HC7 := Lib.hid hc1; have HG7 := Lib.hid (gr_trans HG6.out gr1); clear hc1 gr1
              have hcv := conv_one w7 (UInt8.ofNat (33 + c.toNat)) _ (u8_conv c0 (by omega))
              have hB7 : B0 ≤ w7.heap.size := Nat.le_trans hB1 HG7.out.size
              have HC8 := Lib.hid (HC7.out.alloc hB7 (.cells #[.int .u8 ((33 : Int) + c)] 5))
              have HG8 := Lib.hid (gr_trans HG7.out (World.grownBy_alloc w7 (.cells #[.int .u8 ((33 : Int) + c)] 5) (some g)))
              have HS2 : Hid ((t ++ ⟨#[UInt8.ofNat (33 + c.toNat)]⟩).size ≤ 8 * k + 3 + (j + 1)) := Lib.hid (by rw [app_size, one_byte]; have := HS.out; omega)
              clear hB7
              generalize hbb : (⟨#[UInt8.ofNat (33 + c.toNat)]⟩ : ByteArray) = bb at *
              have hbs : bb.size = 1 := by rw [← hbb]; rfl
              clear hbb
              go_wp2
              go_roundw
              case rel => exact ⟨j + 1, _, by omega, by go_num, rfl, HS2, HC8, HG8⟩
              case measure => simp [intOf]; omega
            · have hts := HS.out
              have hdx : decide ((j : Int) ≤ x) = false := decide_eq_false hjx
              go_wp2
              go_roundw
              case rel => exact ⟨k + 1, t, by omega, by go_num, rfl, by omega, HC6, HG6⟩
              case measure => simp [intOf]; omega
        · have e2 : decide ((0 : Int) < (k : Int)) = false := decide_eq_false (by omega)
          go_wp2_with fail
          refine (l01Once_any _ a n cap g _ (by omega) (by omega) _ HC1.out).mono ?_
          rintro e w2 ⟨b, rfl, hc1, gr1⟩
          have HC2 := Lib.hid hc1; have HG2 := Lib.hid (gr_trans HG1.out gr1); clear hc1 gr1
          cases b with
          | true =>
            go_wp2_with fail
            refine (l01Below_pos _ a n cap g _ (by omega) (by omega) _ HC2.out).mono ?_
            rintro e w3 ⟨x, rfl, x0, x1, hc1, gr1⟩
            have HC3 := Lib.hid hc1; have HG3 := Lib.hid (gr_trans HG2.out gr1); clear hc1 gr1
            go_wp2_with fail
            refine (l01Below_pos _ a n cap g _ (by omega) (by omega) _ HC3.out).mono ?_
            rintro e w4 ⟨y, rfl, y0, y1, hc1, gr1⟩
            have HC4 := Lib.hid hc1; have HG4 := Lib.hid (gr_trans HG3.out gr1); clear hc1 gr1
            have q1 : x * y ≤ 1 * y := Int.mul_le_mul_of_nonneg_right (by omega) y0
            have q2 : 0 ≤ x * y := Int.mul_nonneg x0 y0
            obtain ⟨m2, hm2⟩ : ∃ m2 : Nat, x * y = (m2 : Int) := ⟨(x * y).toNat, by omega⟩
            rw [hm2] at q1
            have q5 : (1 : Int) + (m2 : Int) = (m2 : Int) + 1 := by omega
            have hlong : Hid (∀ w : World, Calls Tryd.prog 31 #[.int .i64 ((m2 : Int) + 1), .int .u8 32] w (fun e w' => (∃ s : ByteArray, e = .returned (.string s) ∧ s.size = m2 + 1) ∧ Below w.heap.size w w')) := Lib.hid (fun w => l01Long_any (m2 + 1) (by omega) 32 w)
            have hmm : m2 ≤ 2 := by omega
            clear q1 q2
            go_wp2_with fail
            try rw [hm2]
            try rw [q5]
            refine (hlong.out _).mono ?_
            rintro e w5 ⟨⟨lg, rfl, hls⟩, hb5⟩
            have hg14 : g < w4.heap.size := HC4.out.lt
            have HC5 := Lib.hid (HC4.out.low hb5 (Nat.le_trans hB1 HG4.out.size) hg14)
            have HG5 := Lib.hid (gr_trans HG4.out (grown_of_below hb5 (some g)))
            clear hb5 hlong
            have hbound : (t ++ lg).size ≤ 8 * k + 3 := by rw [app_size]; omega
            go_wp2
            go_loopw [5, 7] (fun u i wy => ∃ (j : Nat) (t : ByteArray), j ≤ 5 ∧ i = .int .i64 j ∧ u = .string t ∧ Hid (t.size ≤ 8 * k + 3 + j) ∧ Hid (Cur B0 a n cap g wy) ∧ Hid (w1.grownBy wy (some g))) (fun _ i _ => 5 - (intOf i).toNat)
            case atStart => exact ⟨0, _, Nat.zero_le _, rfl, rfl, Lib.hid hbound, HC5, HG5⟩
            case round =>
              obtain ⟨j, t, hj, rfl, rfl, HS, HCi, HGi⟩ := hrel
              go_wp2_with fail
              refine (l01Below_pos _ a n cap g _ (by omega) (by omega) _ HCi.out).mono ?_
              rintro e w6 ⟨x, rfl, x0, x1, hc1, gr1⟩
              have HC6 := Lib.hid hc1; have HG6 := Lib.hid (gr_trans HGi.out gr1); clear hc1 gr1
              by_cases hjx : (j : Int) ≤ x
              · have hts : t.size ≤ 8 * k + 8 := by have := HS.out; omega
                go_wp2_with fail
                refine (l01Below_pos _ a n cap g _ (by omega) (by omega) _ HC6.out).mono ?_
                rintro e w7 ⟨c, rfl, c0, c1, hc1, gr1⟩
                have HC7 := Lib.hid hc1; have HG7 := Lib.hid (gr_trans HG6.out gr1); clear hc1 gr1
                have hcv := conv_one w7 (UInt8.ofNat (33 + c.toNat)) _ (u8_conv c0 (by omega))
                have hB7 : B0 ≤ w7.heap.size := Nat.le_trans hB1 HG7.out.size
                have HC8 := Lib.hid (HC7.out.alloc hB7 (.cells #[.int .u8 ((33 : Int) + c)] 5))
                have HG8 := Lib.hid (gr_trans HG7.out (World.grownBy_alloc w7 (.cells #[.int .u8 ((33 : Int) + c)] 5) (some g)))
                have HS2 : Hid ((t ++ ⟨#[UInt8.ofNat (33 + c.toNat)]⟩).size ≤ 8 * k + 3 + (j + 1)) := Lib.hid (by rw [app_size, one_byte]; have := HS.out; omega)
                clear hB7
                generalize hbb : (⟨#[UInt8.ofNat (33 + c.toNat)]⟩ : ByteArray) = bb at *
                have hbs : bb.size = 1 := by rw [← hbb]; rfl
                clear hbb
                go_wp2
                go_roundw
                case rel => exact ⟨j + 1, _, by omega, by go_num, rfl, HS2, HC8, HG8⟩
                case measure => simp [intOf]; omega
              · have hts := HS.out
                have hdx : decide ((j : Int) ≤ x) = false := decide_eq_false hjx
                go_wp2
                go_roundw
                case rel => exact ⟨k + 1, t, by omega, by go_num, rfl, by omega, HC6, HG6⟩
                case measure => simp [intOf]; omega
          | false =>
            have hbound : (t).size ≤ 8 * k + 3 := by omega
            go_wp2
            go_loopw [5, 7] (fun u i wy => ∃ (j : Nat) (t : ByteArray), j ≤ 5 ∧ i = .int .i64 j ∧ u = .string t ∧ Hid (t.size ≤ 8 * k + 3 + j) ∧ Hid (Cur B0 a n cap g wy) ∧ Hid (w1.grownBy wy (some g))) (fun _ i _ => 5 - (intOf i).toNat)
            case atStart => exact ⟨0, _, Nat.zero_le _, rfl, rfl, Lib.hid hbound, HC2, HG2⟩
            case round =>
              obtain ⟨j, t, hj, rfl, rfl, HS, HCi, HGi⟩ := hrel
              go_wp2_with fail
              refine (l01Below_pos _ a n cap g _ (by omega) (by omega) _ HCi.out).mono ?_
              rintro e w6 ⟨x, rfl, x0, x1, hc1, gr1⟩
              have HC6 := Lib.hid hc1; have HG6 := Lib.hid (gr_trans HGi.out gr1); clear hc1 gr1
              by_cases hjx : (j : Int) ≤ x
              · have hts : t.size ≤ 8 * k + 8 := by have := HS.out; omega
                go_wp2_with fail
                refine (l01Below_pos _ a n cap g _ (by omega) (by omega) _ HC6.out).mono ?_
                rintro e w7 ⟨c, rfl, c0, c1, hc1, gr1⟩
                have HC7 := Lib.hid hc1; have HG7 := Lib.hid (gr_trans HG6.out gr1); clear hc1 gr1
                have hcv := conv_one w7 (UInt8.ofNat (33 + c.toNat)) _ (u8_conv c0 (by omega))
                have hB7 : B0 ≤ w7.heap.size := Nat.le_trans hB1 HG7.out.size
                have HC8 := Lib.hid (HC7.out.alloc hB7 (.cells #[.int .u8 ((33 : Int) + c)] 5))
                have HG8 := Lib.hid (gr_trans HG7.out (World.grownBy_alloc w7 (.cells #[.int .u8 ((33 : Int) + c)] 5) (some g)))
                have HS2 : Hid ((t ++ ⟨#[UInt8.ofNat (33 + c.toNat)]⟩).size ≤ 8 * k + 3 + (j + 1)) := Lib.hid (by rw [app_size, one_byte]; have := HS.out; omega)
                clear hB7
                generalize hbb : (⟨#[UInt8.ofNat (33 + c.toNat)]⟩ : ByteArray) = bb at *
                have hbs : bb.size = 1 := by rw [← hbb]; rfl
                clear hbb
                go_wp2
                go_roundw
                case rel => exact ⟨j + 1, _, by omega, by go_num, rfl, HS2, HC8, HG8⟩
                case measure => simp [intOf]; omega
              · have hts := HS.out
                have hdx : decide ((j : Int) ≤ x) = false := decide_eq_false hjx
                go_wp2
                go_roundw
                case rel => exact ⟨k + 1, t, by omega, by go_num, rfl, by omega, HC6, HG6⟩
                case measure => simp [intOf]; omega
      · obtain rfl : k = m := by omega
        go_wp2_with fail
        refine (l01Below_pos _ a n cap g _ (by omega) (by omega) _ HC1.out).mono ?_
        rintro e w8 ⟨z, rfl, z0, z1, hc1, gr1⟩
        have HC8 := Lib.hid hc1; have HG8 := Lib.hid (gr_trans HG1.out gr1); clear hc1 gr1
        have hsz8 : B0 ≤ w8.heap.size := Nat.le_trans hB1 HG8.out.size
        have hgl8 : g < w8.heap.size := HC8.out.lt
        by_cases z2 : z = 0
        · have t0 : (z == 0) = true := beq_iff_eq.2 z2
          clear z2
          go_wp2_with fail
          refine (l01Pick_any B0 a n cap g w8.heap.size 6 6 (by omega) (by omega) (by omega) _ (HC8.out.alloc hsz8 _) ⟨by simp, fun j hj => ?_⟩).mono ?_
          · match j, hj with
            | 0, _ | 1, _ | 2, _ | 3, _ | 4, _ | 5, _ => exact ⟨_, by simp [go_sem]; rfl, by decide⟩
          rintro e w9 ⟨p, rfl, hp, hc2, gr2⟩
          have HG9 := Lib.hid (gr_trans HG8.out (gr_trans (World.grownBy_alloc _ _ _) gr2)); clear hc2 gr2
          go_wp2
          go_ret
          exact ⟨_, rfl, by rw [app_size]; omega, HB.out.trans (by rw [← hB0]; exact gr_below HG9.out hB1 HC0.out.le)⟩
        · have t0 : (z == 0) = false := beq_eq_false_iff_ne.2 z2
          by_cases z3 : z = 1
          · have t1 : (z == 1) = true := beq_iff_eq.2 z3
            by_cases h6 : t.size < 600
            · have e6 : (t.size : Int) < 600 := by omega
              go_wp2_with fail
              refine (l01Below_pos _ a n cap g _ (by omega) (by omega) _ HC8.out).mono ?_
              rintro e w9 ⟨y, rfl, y0, y1, hc1, gr1⟩
              have HC9 := Lib.hid hc1; have HG9 := Lib.hid (gr_trans HG8.out gr1); clear hc1 gr1
              obtain ⟨m3, hm3⟩ : ∃ m3 : Nat, (600 : Int) - (t.size : Int) + y = (m3 : Int) := ⟨((600 : Int) - (t.size : Int) + y).toNat, by omega⟩
              have hm31 : m3 ≤ 700 := by omega
              have hlong := Lib.hid (fun w => l01Long_any m3 (by omega) 32 w)
              clear z2 z3 h6
              go_wp2_with fail
              try rw [hm3]
              refine (hlong.out _).mono ?_
              rintro e w10 ⟨⟨lg, rfl, hls⟩, hb5⟩
              have HG10 := Lib.hid (gr_trans HG9.out (grown_of_below hb5 (some g)))
              clear hb5 hlong
              go_wp2
              go_ret
              exact ⟨_, rfl, by rw [app_size]; omega, HB.out.trans (by rw [← hB0]; exact gr_below HG10.out hB1 HC0.out.le)⟩
            · have e6 : decide ((t.size : Int) < 600) = false := decide_eq_false (by omega)
              clear z2 z3 h6
              go_wp2
              go_ret
              exact ⟨t, rfl, by omega, HB.out.trans (by rw [← hB0]; exact gr_below HG8.out hB1 HC0.out.le)⟩
          · have t1 : (z == 1) = false := beq_eq_false_iff_ne.2 z3
            clear z2 z3
            go_wp2
            go_ret
            exact ⟨t, rfl, by omega, HB.out.trans (by rw [← hB0]; exact gr_below HG8.out hB1 HC0.out.le)⟩

end Go.Proofs.YtmfboleiakbpnaaDoor
