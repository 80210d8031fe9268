/- Contracts of l01Once, l01PickInt, l01Number (with bounds), DrawFormatInt. -/
import Derived.Test.YtmfboleiakbpnaaDoorDraw
import Derived.IntWalk
namespace Go.Proofs.YtmfboleiakbpnaaDoor
open Go.RowKit
set_option linter.unusedVariables false
set_option linter.unusedSimpArgs false

set_option maxHeartbeats 400000 in
theorem l01Once_any (B : Nat) (a : Option Addr) (n cap g : Nat) (N : Int) (h1 : 1 ≤ N) (h2 : N ≤ 9223372036854775807) (w : World) (hc : Cur B a n cap g w) :
    Calls Tryd.prog 30 #[.pointer (some ⟨g, 0, none⟩), .int .i64 N] w fun e w' => ∃ b : Bool, e = .returned (.bool b) ∧ Cur B a n cap g w' ∧ w.grownBy w' (some g) := by
  have HC := Lib.hid hc; clear hc
  go_enter Tryd.func30, Tryd.ntmps30
  go_wp2_with fail
  refine (l01Below_pos B a n cap g N h1 h2 _ HC.out).mono ?_
  rintro e w1 ⟨x, rfl, x0, x1, hc1, gr1⟩
  have HC1 := Lib.hid hc1; have G1 := Lib.hid gr1; clear hc1 gr1
  go_wp2
  go_ret
  exact ⟨_, rfl, HC1.out, G1.out⟩

/-- Ints in a block. -/
def Row (w : World) (b m : Nat) : Prop := b < w.heap.size ∧ ∀ j : Nat, j < m → ∃ z : Int, w.cell? ⟨b, j, none⟩ = some (.int .i64 z) ∧ -9223372036854775808 ≤ z ∧ z ≤ 9223372036854775807
theorem Row.grown {w w' : World} {b m g : Nat} (h : Row w b m) (hg : w.grownBy w' (some g)) (hne : b ≠ g) : Row w' b m :=
  ⟨Nat.lt_of_lt_of_le h.1 hg.size, fun j hj => by obtain ⟨z, hz, hz2⟩ := h.2 j hj; exact ⟨z, hg.cell hz (fun e => hne (Option.some.inj e)), hz2⟩⟩

set_option maxHeartbeats 400000 in
theorem l01PickInt_any (B : Nat) (a : Option Addr) (n cap g : Nat) (b m c : Nat) (hm : 1 ≤ m) (hm2 : m ≤ 1000) (hbg : b ≠ g) (w : World) (hc : Cur B a n cap g w) (hr : Row w b m) :
    Calls Tryd.prog 46 #[.pointer (some ⟨g, 0, none⟩), .slice (some ⟨b, 0, none⟩) m c] w fun e w' => ∃ x : Int, e = .returned (.int .i64 x) ∧ (-9223372036854775808 ≤ x ∧ x ≤ 9223372036854775807) ∧ Cur B a n cap g w' ∧ w.grownBy w' (some g) := by
  have HC := Lib.hid hc; have HR := Lib.hid hr; clear hc hr
  go_enter Tryd.func46, Tryd.ntmps46
  go_wp2_with fail
  refine (l01Below_pos B a n cap g m (by omega) (by omega) _ HC.out).mono ?_
  rintro e w1 ⟨x, rfl, x0, x1, hc1, gr1⟩
  obtain ⟨j, rfl⟩ := Int.eq_ofNat_of_zero_le x0
  have hj : j < m := by omega
  obtain ⟨z, hz, zb⟩ := (HR.out.grown gr1 hbg).2 j hj
  have e1 : (j : Int) < (m : Int) := by omega
  have HC1 := Lib.hid hc1; have G1 := Lib.hid gr1; clear hc1 gr1
  go_wp2
  go_ret
  exact ⟨z, rfl, zb, HC1.out, G1.out⟩

def NumR (B : Nat) (a : Option Addr) (n cap g : Nat) (w : World) (e : Ending) (w' : World) : Prop := ∃ x : Int, e = .returned (.int .i64 x) ∧ (-9223372036854775808 ≤ x ∧ x ≤ 9223372036854775807) ∧ Cur B a n cap g w' ∧ w.grownBy w' (some g)
theorem Cur.alloc {B : Nat} {a : Option Addr} {n cap g : Nat} {w : World} (h : Cur B a n cap g w) (hB : B ≤ w.heap.size) (o : Obj) : Cur B a n cap g (w.alloc o) := by
  obtain ⟨i, hh, hi, hblk⟩ := h.blk
  exact ⟨h.le, h.sz, h.rd.old ((Below.refl _ _).alloc hB o), i, hh, hi, by rw [Below.heap_alloc w o g (Array.getElem?_eq_some_iff.1 hblk).1]; exact hblk⟩
theorem Cur.lt {B : Nat} {a : Option Addr} {n cap g : Nat} {w : World} (h : Cur B a n cap g w) : g < w.heap.size := by
  obtain ⟨i, hh, hi, hblk⟩ := h.blk; exact (Array.getElem?_eq_some_iff.1 hblk).1

set_option maxRecDepth 20000 in
set_option maxHeartbeats 1000000 in
theorem l01Number_any (B : Nat) (a : Option Addr) (n cap g : Nat) (w : World) (hc : Cur B a n cap g w) :
    Calls Tryd.prog 38 #[.pointer (some ⟨g, 0, none⟩)] w fun e w' => NumR B a n cap g w e w' := by
  have HC := Lib.hid hc; clear hc
  go_enter Tryd.func38, Tryd.ntmps38
  go_wp2_with fail
  refine (l01Below_pos B a n cap g _ (by omega) (by omega) _ HC.out).mono ?_
  rintro e w1 ⟨x, rfl, x0, x1, hc1, gr1⟩
  have HC1 := Lib.hid hc1; have G1 := Lib.hid gr1; clear hc1 gr1
  by_cases h0 : x = 0
  · have t0 : (x == 0) = true := beq_iff_eq.2 h0
    clear h0
    have hl := HC1.out.lt
    have hle := HC1.out.le
    go_wp2_with fail
    refine (l01PickInt_any B a n cap g w1.heap.size 10 10 (by omega) (by omega) (by omega) _ (HC1.out.alloc (by omega) _) ⟨by simp, fun j hj => ?_⟩).mono ?_
    · match j, hj with
      | 0, _ | 1, _ | 2, _ | 3, _ | 4, _ | 5, _ | 6, _ | 7, _ | 8, _ | 9, _ => exact ⟨_, by simp [go_sem]; rfl, by omega, by omega⟩
    rintro e w2 ⟨z, rfl, zb, hc2, gr2⟩
    have HC2 := Lib.hid hc2; have G2 := Lib.hid (gr_trans G1.out (gr_trans (World.grownBy_alloc _ _ _) gr2)); clear hc2 gr2
    go_wp2
    go_ret
    exact ⟨z, rfl, by omega, HC2.out, G2.out⟩
  · have t0 : (x == 0) = false := beq_eq_false_iff_ne.2 h0
    clear h0
    by_cases h1 : x = 1
    · have t1 : (x == 1) = true := beq_iff_eq.2 h1
      clear h1
      go_wp2_with fail
      refine (l01Below_pos B a n cap g _ (by omega) (by omega) _ HC1.out).mono ?_
      rintro e w2 ⟨z, rfl, z0, z1, hc2, gr2⟩
      have HC2 := Lib.hid hc2; have G2 := Lib.hid (gr_trans G1.out gr2); clear hc2 gr2
      go_wp2
      go_ret
      exact ⟨z, rfl, by omega, HC2.out, G2.out⟩
    · have t1 : (x == 1) = false := beq_eq_false_iff_ne.2 h1
      clear h1
      go_wp2_with fail
      refine (l01Below_pos B a n cap g _ (by omega) (by omega) _ HC1.out).mono ?_
      rintro e w2 ⟨z, rfl, z0, z1, hc2, gr2⟩
      have HC2 := Lib.hid hc2; have G2 := Lib.hid (gr_trans G1.out gr2); clear hc2 gr2
      go_wp2
      go_ret
      exact ⟨z, rfl, by omega, HC2.out, G2.out⟩

set_option maxRecDepth 20000 in
set_option maxHeartbeats 1000000 in
theorem drawFormat_any (a : Option Addr) (n cap : Nat) (w : World) (hn : n ≤ 1048576) (hr : RdB w.heap.size w a n) :
    Calls Tryd.prog 24 #[.slice a n cap] w fun e w' => ∃ x : Int, e = .returned (.int .i64 x) ∧ (-9223372036854775808 ≤ x ∧ x ≤ 9223372036854775807) ∧ Below w.heap.size w w' := by
  go_enter Tryd.func24, Tryd.ntmps24
  go_wp2_with fail
  refine (l01New_any a n cap w hn hr).mono ?_
  rintro e w1 ⟨g, rfl, hc, hb, hg⟩
  have HC := Lib.hid hc; have HB := Lib.hid hb; clear hc hb
  go_wp2_with fail
  refine (l01Once_any _ a n cap g _ (by omega) (by omega) _ HC.out).mono ?_
  rintro e w2 ⟨b, rfl, hc1, gr1⟩
  have HC1 := Lib.hid hc1; have G1 := Lib.hid gr1; clear hc1 gr1
  cases b with
  | true =>
    go_wp2_with fail
    refine (l01Below_pos _ a n cap g _ (by omega) (by omega) _ HC1.out).mono ?_
    rintro e w3 ⟨x, rfl, x0, x1, hc1, gr1⟩
    have HC2 := Lib.hid hc1; have G2 := Lib.hid (gr_trans G1.out gr1); clear hc1 gr1
    go_wp2_with fail
    refine (l01Below_pos _ a n cap g _ (by omega) (by omega) _ HC2.out).mono ?_
    rintro e w4 ⟨y, rfl, y0, y1, hc1, gr1⟩
    have HC3 := Lib.hid hc1; have G3 := Lib.hid (gr_trans G2.out gr1); clear hc1 gr1
    have q1 : x * (y - 1000000) ≤ x * 1000000 := Int.mul_le_mul_of_nonneg_left (by omega) x0
    have q2 : x * (-1000000) ≤ x * (y - 1000000) := Int.mul_le_mul_of_nonneg_left (by omega) x0
    have q3 : IntKind.i64.wrap (x * (y - 1000000)) = x * (y - 1000000) := IntWalk.i64_in _ (by omega)
    have q4 : IntKind.i64.wrap (y - 1000000) = y - 1000000 := IntWalk.i64_in _ (by omega)
    have qb : -9223372036854775808 ≤ x * (y - 1000000) ∧ x * (y - 1000000) ≤ 9223372036854775807 := by omega
    have QB := Lib.hid qb
    clear q1 q2 qb
    go_wp2
    go_ret
    exact ⟨_, rfl, QB.out, HB.out.trans (gr_below G3.out HB.out.size HC.out.le)⟩
  | false =>
    go_wp2_with fail
    refine (l01Number_any _ a n cap g _ HC1.out).mono ?_
    rintro e w3 ⟨x, rfl, xb, hc1, gr1⟩
    have HC2 := Lib.hid hc1; have G2 := Lib.hid (gr_trans G1.out gr1); clear hc1 gr1
    go_wp2
    go_ret
    exact ⟨x, rfl, xb, HB.out.trans (gr_below G2.out HB.out.size HC.out.le)⟩
end Go.Proofs.YtmfboleiakbpnaaDoor
