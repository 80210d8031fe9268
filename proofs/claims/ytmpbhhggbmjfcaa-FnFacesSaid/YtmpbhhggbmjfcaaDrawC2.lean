/- Contracts of DrawCard, at. -/
import Derived.Test.YtmpbhhggbmjfcaaDrawC
namespace Go.Proofs.Ytmpbhhggbmjfcaa
open Go.RowKit
set_option linter.unusedVariables false
set_option linter.unusedSimpArgs false
set_option maxRecDepth 20000

theorem RdB.upto {B B' n : Nat} {w : World} {a : Option Addr} (h : RdB B w a n) (hb : B ≤ B') : RdB B' w a n := by
  rcases h with h | ⟨b, off, rfl, hl, hc⟩
  · exact .inl h
  · exact .inr ⟨b, off, rfl, by omega, hc⟩
set_option maxHeartbeats 1600000 in
theorem drawCard_any (a : Option Addr) (n cap : Nat) (w : World) (hn : n ≤ 1048576) (hr : RdB w.heap.size w a n) :
    Calls Try.prog 44 #[.slice a n cap] w fun e w' => ∃ (d f : Nat) (p : Option Addr) (q : Nat) (ss : List ByteArray), e = .returned (.agg #[.int .i64 d, .int .i64 f, .slice p ss.length q]) ∧ okC (d : Int) (f : Int) ss = true ∧ OwnS w.heap.size (.slice p ss.length q) ss w' ∧ Below w.heap.size w w' := by
  have bal := (Below.refl w.heap.size w).alloc (Nat.le_refl _) (.cells #[.int .i64 0, .int .i64 0, .slice none 0 0] 34)
  have HR := Lib.hid ((hr.old bal).upto (B' := (w.alloc (.cells #[.int .i64 0, .int .i64 0, .slice none 0 0] 34)).heap.size) (by simp))
  have HBL := Lib.hid bal
  clear hr bal
  go_enter Try.func44, Try.ntmps44
  go_wp2_with fail
  refine (l01New_any a n cap _ hn HR.out).mono ?_
  rintro e w1 ⟨g, rfl, hc, hb, hg⟩
  have A1 := Lib.hid ((Blk.new w (.int .i64 0) (.int .i64 0) (.slice none 0 0)).below hb)
  have HB := Lib.hid (HBL.out.trans (hb.mono (by simp)))
  have HC := Lib.hid hc
  have hgle : w.heap.size + 1 ≤ g := by have := hc.le; simpa using this
  clear hc hb HR HBL
  go_wp2_with fail
  refine (l05Card_any _ a n cap g _ HC.out).mono ?_
  rintro e w2 ⟨d, f, p, q, ss, rfl, hok, how, hon⟩
  have A2 := A1.out.of (hon.block w.heap.size A1.out.lt (by omega))
  have HB2 := Lib.hid (HB.out.trans (hon.toBelow HB.out.size (fun k h1 h2 => by omega)))
  have l1 : w.heap.size < w1.heap.size := A1.out.lt
  have HOK := Lib.hid hok
  have j0 := A2.c0
  have j1 := A2.c1
  have j2 := A2.c2
  have m0 := A2.fz 0
  have m1 := A2.fz 1
  have m2 := A2.fz 2
  have l2 := A2.lt
  clear hok hon A2
  go_wp2
  refine bodyPost_ret (v := .agg #[.int .i64 d, .int .i64 f, .slice p ss.length q]) (by simp [results, go_sem, j0, j1, j2, m0, m1, m2, l1, l2, Try.results44]) rfl ⟨d, f, p, q, ss, rfl, HOK.out, ?_, ?_⟩
  · exact World.ownsRow.mono (ownsRow_setCell_below (ownsRow_setCell_below (ownsRow_setCell_below how (by simp; try omega) _) (by simp; try omega) _) (by simp; try omega) _) (by omega)
  · exact Below.trans HB2.out (Only.toBelow (S := fun k => k = w.heap.size) (((only_set _ _ _ _ (by exact rfl)).trans (only_set _ _ _ _ (by exact rfl))).trans (only_set _ _ _ _ (by exact rfl))) HB2.out.size (fun k h1 h2 => by omega))

set_option maxRecDepth 20000 in
set_option maxHeartbeats 1000000 in
theorem at1_any (B : Nat) (a : Option Addr) (n cap : Nat) (w : World) (hn : n ≤ 1048576) (hr : RdB B w a n) :
    Calls Try.prog 46 #[.slice a n cap, .int .i64 1] w fun e w' => ∃ x : Int, e = .returned (.int .i64 x) ∧ 0 ≤ x ∧ x ≤ 255 ∧ w = w' := by
  rcases Nat.eq_zero_or_pos n with rfl | hp
  · go_enter Try.func46, Try.ntmps46
    go_wp2
    go_ret
    exact ⟨0, rfl, by omega, by omega, rfl⟩
  · rcases hr with h0 | ⟨b, off, rfl, hb, hc⟩
    · omega
    obtain ⟨m, hm⟩ : ∃ m : Nat, (6 : Int) % (n : Int) = (m : Int) := ⟨6 % n, by simp⟩
    have hml : m < n := by
      have := Int.emod_lt_of_pos 6 (show (0 : Int) < (n : Int) by omega)
      omega
    obtain ⟨x, x0, x1, hx⟩ := hc m hml
    clear hc
    have t0 : ((n : Int) == 0) = false := beq_eq_false_iff_ne.2 (by omega)
    have e1 : (m : Int) < (n : Int) := by omega
    go_enter Try.func46, Try.ntmps46
    go_wp2
    go_ret
    exact ⟨x, rfl, x0, x1, rfl⟩
end Go.Proofs.Ytmpbhhggbmjfcaa
