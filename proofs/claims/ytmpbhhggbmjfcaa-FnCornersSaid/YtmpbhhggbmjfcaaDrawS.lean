/- Contracts of l02Draw, l02Strip, DrawStrip, at. -/
import Derived.Test.YtmpbhhggbmjfcaaDraw
import Derived.Test.YtmpbhhggbmjfcaaFlat
namespace Go.Proofs.Ytmpbhhggbmjfcaa
open Go.RowKit
set_option linter.unusedVariables false
set_option linter.unusedSimpArgs false

theorem app_cnt (s : ByteArray) (b : UInt8) : cD (s ++ ⟨#[b]⟩).data.toList = cD s.data.toList + (if b.toNat = 100 then 1 else 0) ∧ cF (s ++ ⟨#[b]⟩).data.toList = cF s.data.toList + (if b.toNat = 102 then 1 else 0) ∧ (s ++ ⟨#[b]⟩).size = s.size + 1 := by
  have e : (s ++ ⟨#[b]⟩).data.toList = s.data.toList ++ [b] := by rw [ByteArray.data_append, Array.toList_append]
  rw [e, cD_append, cF_append, cD_one, cF_one, ByteArray.size_append]
  exact ⟨rfl, rfl, rfl⟩

set_option maxRecDepth 20000 in
set_option maxHeartbeats 1000000 in
theorem l02Draw_any (B : Nat) (a : Option Addr) (n cap g : Nat) (d f : Nat) (hd : d ≤ 8) (hf : f ≤ 8) (w : World) (hc : Cur B a n cap g w) :
    Calls Try.prog 100 #[.pointer (some ⟨g, 0, none⟩), .int .i64 d, .int .i64 f] w fun e w' => ∃ s : ByteArray, e = .returned (.string s) ∧ cD s.data.toList = d ∧ cF s.data.toList = f ∧ s.size = d + f ∧ Cur B a n cap g w' ∧ w.grownBy w' (some g) := by
  have HC := Lib.hid hc; clear hc
  go_enter Try.func100, Try.ntmps100
  go_wp2
  go_loopw [1, 2, 7] (fun x y o wr => ∃ (p q : Nat) (s : ByteArray), p ≤ d ∧ q ≤ f ∧ x = .int .i64 p ∧ y = .int .i64 q ∧ o = .string s ∧ Hid (cD s.data.toList + p = d) ∧ Hid (cF s.data.toList + q = f) ∧ Hid (s.size + p + q = d + f) ∧ Hid (Cur B a n cap g wr) ∧ Hid (w.grownBy wr (some g))) (fun x y _ _ => (intOf x).toNat + (intOf y).toNat)
  case atStart => exact ⟨d, f, ⟨#[]⟩, Nat.le_refl _, Nat.le_refl _, rfl, rfl, rfl, Lib.hid (by show 0 + d = d; omega), Lib.hid (by show 0 + f = f; omega), Lib.hid (by show 0 + d + f = d + f; omega), HC, Lib.hid (World.grownBy.refl _ _)⟩
  case round =>
    obtain ⟨p, q, s, hp, hq, rfl, rfl, rfl, HD, HF, HS, HC1, HG⟩ := hrel
    by_cases hlt : 0 < p + q
    · have e0 : (0 : Int) < (p : Int) + (q : Int) := by omega
      have hsz : s.size ≤ 16 := by have := HS.out; omega
      go_wp2_with fail
      refine (l01Below_pos B a n cap g _ (by omega) (by omega) _ HC1.out).mono ?_
      rintro e w1 ⟨x, rfl, x0, x1, hc1, gr1⟩
      have HC2 := Lib.hid hc1; have HG2 := Lib.hid (gr_trans HG.out gr1); clear hc1 gr1
      by_cases hx : x < (p : Int)
      · obtain ⟨p, rfl⟩ : ∃ p', p = p' + 1 := ⟨p - 1, by omega⟩
        have ac := app_cnt s 100
        have HA := Lib.hid ac; clear ac
        go_wp2
        go_roundw
        case rel => exact ⟨p, q, s ++ ⟨#[100]⟩, by omega, by omega, by go_num, by go_num, rfl, Lib.hid (by rw [HA.out.1]; have := HD.out; simp; omega), Lib.hid (by rw [HA.out.2.1]; have := HF.out; simp; omega), Lib.hid (by rw [HA.out.2.2]; have := HS.out; omega), HC2, HG2⟩
        case measure => simp [intOf]; try omega
      · obtain ⟨q, rfl⟩ : ∃ q', q = q' + 1 := ⟨q - 1, by omega⟩
        have ac := app_cnt s 102
        have HA := Lib.hid ac; clear ac
        go_wp2
        go_roundw
        case rel => exact ⟨p, q, s ++ ⟨#[102]⟩, by omega, by omega, by go_num, by go_num, rfl, Lib.hid (by rw [HA.out.1]; have := HD.out; simp; omega), Lib.hid (by rw [HA.out.2.1]; have := HF.out; simp; omega), Lib.hid (by rw [HA.out.2.2]; have := HS.out; omega), HC2, HG2⟩
        case measure => simp [intOf]; try omega
    · obtain rfl : p = 0 := by omega
      obtain rfl : q = 0 := by omega
      go_wp2
      go_ret
      exact ⟨s, rfl, by have := HD.out; omega, by have := HF.out; omega, by have := HS.out; omega, HC1.out, HG.out⟩

set_option maxRecDepth 20000 in
set_option maxHeartbeats 1000000 in
theorem l02Strip_any (B : Nat) (a : Option Addr) (n cap g : Nat) (w : World) (hc : Cur B a n cap g w) :
    Calls Try.prog 72 #[.pointer (some ⟨g, 0, none⟩)] w fun e w' => ∃ s : ByteArray, e = .returned (.string s) ∧ strip s.data.toList = true ∧ Cur B a n cap g w' ∧ w.grownBy w' (some g) := by
  have HC := Lib.hid hc; clear hc
  go_enter Try.func72, Try.ntmps72
  go_wp2_with fail
  refine (l01Below_pos B a n cap g _ (by omega) (by omega) _ HC.out).mono ?_
  rintro e w1 ⟨x, rfl, x0, x1, hc1, gr1⟩
  have HC1 := Lib.hid hc1; have HG1 := Lib.hid gr1; clear hc1 gr1
  go_wp2_with fail
  refine (l01Below_pos B a n cap g _ (by omega) (by omega) _ HC1.out).mono ?_
  rintro e w2 ⟨y, rfl, y0, y1, hc1, gr1⟩
  have HC2 := Lib.hid hc1; have HG2 := Lib.hid (gr_trans HG1.out gr1); clear hc1 gr1
  obtain ⟨p, rfl⟩ := Int.eq_ofNat_of_zero_le x0
  obtain ⟨q, rfl⟩ := Int.eq_ofNat_of_zero_le y0
  have L := l02Draw_any B a n cap g (1 + p) (1 + q) (by omega) (by omega) w2 HC2.out
  rw [Int.natCast_add, Int.natCast_add] at L
  go_wp2_with fail
  refine L.mono ?_
  rintro e w3 ⟨s, rfl, h1, h2, h3, hc1, gr1⟩
  have H1 := Lib.hid h1; have H2 := Lib.hid h2; have H3 := Lib.hid h3
  have HC3 := Lib.hid hc1; have HG3 := Lib.hid (gr_trans HG2.out gr1); clear hc1 gr1 h1 h2 h3 L
  go_wp2
  go_ret
  exact ⟨s, rfl, strip_mk (by rw [H1.out, H2.out, size_len, H3.out]) (by rw [H1.out]; omega) (by rw [H1.out]; omega) (by rw [H2.out]; omega) (by rw [H2.out]; omega), HC3.out, HG3.out⟩

set_option maxRecDepth 20000 in
set_option maxHeartbeats 1000000 in
theorem drawStrip_any (a : Option Addr) (n cap : Nat) (w : World) (hn : n ≤ 1048576) (hr : RdB w.heap.size w a n) :
    Calls Try.prog 35 #[.slice a n cap] w fun e w' => ∃ s : ByteArray, e = .returned (.string s) ∧ strip s.data.toList = true ∧ Below w.heap.size w w' := by
  go_enter Try.func35, Try.ntmps35
  go_wp2_with fail
  refine (l01New_any a n cap w hn hr).mono ?_
  rintro e w1 ⟨g, rfl, hc, hb, hg⟩
  have HC := Lib.hid hc; have HB := Lib.hid hb; clear hc hb
  go_wp2_with fail
  refine (l02Strip_any _ a n cap g _ HC.out).mono ?_
  rintro e w2 ⟨s, rfl, hs, hc2, gr2⟩
  have HS := Lib.hid hs; have G2 := Lib.hid gr2; clear hs gr2 hc2
  go_wp2
  go_ret
  exact ⟨s, rfl, HS.out, HB.out.trans (gr_below G2.out HB.out.size HC.out.le)⟩
end Go.Proofs.Ytmpbhhggbmjfcaa
