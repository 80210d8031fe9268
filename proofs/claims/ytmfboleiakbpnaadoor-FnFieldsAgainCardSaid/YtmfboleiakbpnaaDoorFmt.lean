/- Contract of spec.FormatInt: the decimal numeral. -/
import Derived.Test.YtmfboleiakbpnaaDoorHex
import Derived.Test.YtmfboleiakbpnaaDoorNum
import Derived.Lib.Hide
import Derived.IntWalk
namespace Go.Proofs.YtmfboleiakbpnaaDoor
open Go.RowKit
set_option linter.unusedVariables false
set_option linter.unusedSimpArgs false
set_option maxRecDepth 20000

theorem conv_one (w : World) (b : UInt8) (x : Int) (hx : x = (b.toNat : Int)) :
    (convert 30 9 (.slice (some ⟨w.heap.size, 0, none⟩) 1 1)).run Tryd.prog (w.alloc (.cells #[.int .u8 x] 5)) = .ok (.string ⟨#[b]⟩) (w.alloc (.cells #[.int .u8 x] 5)) := by
  subst hx
  refine run_convert_bytes_back _ 30 9 5 ⟨w.heap.size, 0, none⟩ 1 [b] Tryd.underlying30 Tryd.underlying5 Tryd.underlying9 fun j hj => ?_
  obtain rfl : j = 0 := by simpa using hj
  simp [Addr.add]
def dg1 (r : Nat) : UInt8 := UInt8.ofNat (48 + r)
theorem one_size (b : UInt8) (s : ByteArray) : ((⟨#[b]⟩ : ByteArray) ++ s).size = s.size + 1 := by rw [ByteArray.size_append]; show 1 + _ = _; omega
theorem dig_nat {r : Nat} (h : r < 10) : (48 : Int) + (r : Int) = ((dg1 r).toNat : Int) := by unfold dg1; rw [digit_nat h]; omega
theorem below_al {B : Nat} {w u : World} (h : Below B w u) (hB : B ≤ u.heap.size) (o : Obj) : Below B w (u.alloc o) := h.alloc hB o
/-- One digit ahead of the text. -/
theorem fmt_step {u N : Nat} {t : ByteArray} (hu : 0 < u) (h : dgs u ++ t.data.toList = dgs N) : dgs (u / 10) ++ ((⟨#[dg1 (u % 10)]⟩ : ByteArray) ++ t).data.toList = dgs N := by
  rw [← h, dgs_step hu]; unfold dg1; simp
theorem fmt_size {u N : Nat} {t : ByteArray} (h : dgs u ++ t.data.toList = dgs N) (hN : N ≤ 9223372036854775808) : t.size ≤ 20 := by
  have h2 : (dgs N).length ≤ 20 := by
    unfold dgs; split
    · simp
    · rw [Go.Lib.decDigits_length]; exact nDigits_le 19 N (by omega)
  have h3 := congrArg List.length h
  rw [List.length_append] at h3
  have : t.data.toList.length = t.size := by simp
  omega
theorem fmt_done {t : ByteArray} {N : Nat} (h : dgs 0 ++ t.data.toList = dgs N) : t = ⟨(dgs N).toArray⟩ := by
  rw [← h]; rw [dgs_zero, List.nil_append]
theorem hexd_dig {d : Nat} (h : d < 10) : hexd d = UInt8.ofNat (48 + d) := by unfold hexd; rw [if_pos h]
theorem itoa_pos {N : Nat} (h : 0 < N) : (⟨(Go.Lib.itoa (N : Int)).toArray⟩ : ByteArray) = ⟨(dgs N).toArray⟩ := by
  rw [itoa_dgs (by omega), if_neg (by omega)]; simp
theorem itoa_min {N : Nat} (h : 0 < N) : (⟨(Go.Lib.itoa (-(N : Int))).toArray⟩ : ByteArray) = ⟨#[45]⟩ ++ ⟨(dgs N).toArray⟩ := by
  rw [itoa_dgs (by omega), if_pos (by omega), Int.natAbs_neg, Int.natAbs_natCast]
  apply ByteArray.ext; apply Array.ext'; simp

set_option maxHeartbeats 1600000 in
theorem specFormat_pos (N : Nat) (hN : 0 < N) (hN2 : N ≤ 9223372036854775807) (w : World) :
    Calls Tryd.prog 9 #[.int .i64 (N : Int)] w fun e w' => e = .returned (.string ⟨(Go.Lib.itoa (N : Int)).toArray⟩) ∧ Below w.heap.size w w' := by
  have HB : Hid (w.heap.size = w.heap.size) := Lib.hid rfl
  have e0 : (((N : Int)) == 0) = false := beq_eq_false_iff_ne.2 (by omega)
  have e1 : (0 : Int) ≤ (N : Int) := by omega
  go_enter Tryd.func9, Tryd.ntmps9
  go_wp2
  go_loopw [0, 4] (fun x s wr => ∃ (u : Nat) (t : ByteArray), x = .int .i64 ((u : Int)) ∧ s = .string t ∧ u ≤ N ∧ Hid (dgs u ++ t.data.toList = dgs N) ∧ t.size ≤ 20 ∧ Below w.heap.size w wr) (fun x _ _ => (intOf x).natAbs)
  case atStart => exact ⟨N, _, rfl, rfl, Nat.le_refl _, Lib.hid (by simp), by decide, Below.refl _ _⟩
  case round =>
    obtain ⟨u, t, rfl, rfl, hu, HD, hts, hb⟩ := hrel
    have hsz : w.heap.size ≤ wr.heap.size := hb.size
    by_cases h0 : u = 0
    · subst h0
      have HT := Lib.hid (fmt_done HD.out)
      go_wp2
      go_ret
      exact ⟨ret_str (by rw [HT.out, itoa_pos hN]), hb⟩
    · have hp : 0 < u := by omega
      have HD2 := Lib.hid (fmt_step hp HD.out)
      have hts2 := fmt_size HD2.out (by omega)
      have t0 : (((u : Int)) != 0) = true := by rw [bne_iff_ne]; omega
      have r3 : (u : Int).tmod 10 = ((u % 10 : Nat) : Int) := rfl
      have r4 : (u : Int).tdiv 10 = ((u / 10 : Nat) : Int) := rfl
      have q1 : u / 10 ≤ u := by omega
      have q3 : u / 10 < u := by omega
      have q2 : u % 10 < 10 := by omega
      generalize u / 10 = q at *
      generalize u % 10 = r at *
      have HS := Lib.hid (one_size (dg1 r) t)
      have hcv := conv_one wr (dg1 r) _ (dig_nat q2)
      clear h0
      go_wp2
      go_roundw
      case rel => exact ⟨q, _, rfl, rfl, by omega, HD2, hts2, hb.alloc hsz _⟩
      case measure => simp [intOf]; omega

set_option maxHeartbeats 1600000 in
theorem specFormat_neg (N : Nat) (hN : 0 < N) (hN2 : N ≤ 9223372036854775808) (w : World) :
    Calls Tryd.prog 9 #[.int .i64 (-(N : Int))] w fun e w' => e = .returned (.string ⟨(Go.Lib.itoa (-(N : Int))).toArray⟩) ∧ Below w.heap.size w w' := by
  have HB : Hid (w.heap.size = w.heap.size) := Lib.hid rfl
  have e0 : ((-(N : Int)) == 0) = false := beq_eq_false_iff_ne.2 (by omega)
  have e1 : (-(N : Int)) < 0 := by omega
  go_enter Tryd.func9, Tryd.ntmps9
  go_wp2
  go_loopw [0, 4] (fun x s wr => ∃ (u : Nat) (t : ByteArray), x = .int .i64 (-(u : Int)) ∧ s = .string t ∧ u ≤ N ∧ Hid (dgs u ++ t.data.toList = dgs N) ∧ t.size ≤ 20 ∧ Below w.heap.size w wr) (fun x _ _ => (intOf x).natAbs)
  case atStart => exact ⟨N, _, rfl, rfl, Nat.le_refl _, Lib.hid (by simp), by decide, Below.refl _ _⟩
  case round =>
    obtain ⟨u, t, rfl, rfl, hu, HD, hts, hb⟩ := hrel
    have hsz : w.heap.size ≤ wr.heap.size := hb.size
    by_cases h0 : u = 0
    · subst h0
      have HT := Lib.hid (fmt_done HD.out)
      go_wp2
      go_ret
      exact ⟨ret_str (by rw [HT.out, itoa_min hN]), hb⟩
    · have hp : 0 < u := by omega
      have HD2 := Lib.hid (fmt_step hp HD.out)
      have hts2 := fmt_size HD2.out (by omega)
      have t0 : ((-(u : Int)) != 0) = true := by rw [bne_iff_ne]; omega
      have r3 : (-(u : Int)).tmod 10 = -((u % 10 : Nat) : Int) := by rw [Int.neg_tmod]; rfl
      have r4 : (-(u : Int)).tdiv 10 = -((u / 10 : Nat) : Int) := by rw [Int.neg_tdiv]; rfl
      have q1 : u / 10 ≤ u := by omega
      have q3 : u / 10 < u := by omega
      have q2 : u % 10 < 10 := by omega
      generalize u / 10 = q at *
      generalize u % 10 = r at *
      have HS := Lib.hid (one_size (dg1 r) t)
      have hcv := conv_one wr (dg1 r) _ (dig_nat q2)
      clear h0
      by_cases hr0 : r = 0
      · subst hr0
        have hcv := conv_one wr (dg1 0) 48 rfl
        have r5 : ¬ ((0 : Int) < 0) := by omega
        go_wp2
        go_roundw
        case rel => exact ⟨q, _, rfl, rfl, by omega, HD2, hts2, hb.alloc hsz _⟩
        case measure => simp [intOf]; omega
      · have r5 : (-(r : Int)) < 0 := by omega
        go_wp2
        go_roundw
        case rel => exact ⟨q, _, rfl, rfl, by omega, HD2, hts2, hb.alloc hsz _⟩
        case measure => simp [intOf]; omega

set_option maxHeartbeats 400000 in
theorem specFormat_zero  (w : World) :
    Calls Tryd.prog 9 #[.int .i64 0] w fun e w' => e = .returned (.string ⟨(Go.Lib.itoa 0).toArray⟩) ∧ Below w.heap.size w w' := by
  go_enter Tryd.func9, Tryd.ntmps9
  go_wp2
  go_ret
  exact ⟨ret_str (by rw [itoa_zero]), Below.refl _ _⟩

set_option maxHeartbeats 400000 in
theorem specFormat_any (n : Int) (h0 : -9223372036854775808 ≤ n) (h1 : n ≤ 9223372036854775807) (w : World) :
    Calls Tryd.prog 9 #[.int .i64 n] w fun e w' => e = .returned (.string ⟨(Go.Lib.itoa n).toArray⟩) ∧ Below w.heap.size w w' := by
  rcases Int.lt_trichotomy n 0 with h | h | h
  · obtain ⟨N, rfl⟩ : ∃ N : Nat, n = -(N : Int) := ⟨n.natAbs, by omega⟩
    exact specFormat_neg N (by omega) (by omega) w
  · subst h; exact specFormat_zero w
  · obtain ⟨N, rfl⟩ : ∃ N : Nat, n = (N : Int) := ⟨n.natAbs, by omega⟩
    exact specFormat_pos N (by omega) (by omega) w

end Go.Proofs.YtmfboleiakbpnaaDoor
