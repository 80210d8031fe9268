/- The cursor over the bytes of a draw: contracts of l01Byte, l01Below, l01New. -/
import Derived.Test.YtmpbhhggbmjfcaaRows
import Derived.Test.YtmpbhhggbmjfcaaOwn
import Derived.Deep.QuietTactic
import Derived.BigQuiet
import Derived.IntWalk
import Derived.Lib.Hide
import Derived.OwnWalk
import Derived.ProofKit
import Derived.OpenShut
import Derived.ChangeOld
import Derived.Laws.BitsLemmas
namespace Go.Proofs.Ytmpbhhggbmjfcaa
open Go.RowKit
set_option linter.unusedVariables false
set_option linter.unusedSimpArgs false

theorem and_bd (x : Int) (m : Nat) (hm : m < 2147483648) : 0 ≤ bits .and .i64 x (m : Int) ∧ bits .and .i64 x (m : Int) ≤ (m : Int) := by
  have h1 : (BitVec.ofInt 64 x &&& BitVec.ofInt 64 (m : Int)).toNat ≤ m := by
    rw [BitVec.toNat_and, BitVec.ofInt_natCast, BitVec.toNat_ofNat]
    exact Nat.le_trans Nat.and_le_right (Nat.mod_le _ _)
  have e : bits .and .i64 x (m : Int) = ((BitVec.ofInt 64 x &&& BitVec.ofInt 64 (m : Int)).toNat : Int) := by
    show IntKind.i64.wrap (((BitVec.ofInt 64 x &&& BitVec.ofInt 64 (m : Int)).toNat : Nat) : Int) = _
    exact IntWalk.i64_in _ (by omega)
  rw [e]; omega
theorem and255 (x : Int) : 0 ≤ bits .and .i64 x 255 ∧ bits .and .i64 x 255 ≤ 255 := and_bd x 255 (by omega)
/-- A slice at the address a, of n bytes, its block below B. -/
def RdB (B : Nat) (w : World) (a : Option Addr) (n : Nat) : Prop :=
  n = 0 ∨ ∃ b off, a = some ⟨b, off, none⟩ ∧ b < B ∧ ∀ j, j < n → ∃ x : Int, 0 ≤ x ∧ x ≤ 255 ∧ w.cell? ⟨b, off + j, none⟩ = some (.int .u8 x)
theorem RdB.grown {B g n : Nat} {w w' : World} {a : Option Addr} (h : RdB B w a n) (hg : w.grownBy w' (some g)) (hB : B ≤ g) : RdB B w' a n := by
  rcases h with h | ⟨b, off, rfl, hb, hc⟩
  · exact .inl h
  · refine .inr ⟨b, off, rfl, hb, fun j hj => ?_⟩
    obtain ⟨x, x0, x1, hx⟩ := hc j hj
    exact ⟨x, x0, x1, hg.cell hx (fun e => by have := Option.some.inj e; simp at this; omega)⟩
/-- The cursor lies in block g. -/
structure Cur (B : Nat) (a : Option Addr) (n cap : Nat) (g : Nat) (w : World) : Prop where
  le : B ≤ g
  sz : n ≤ maxLen
  rd : RdB B w a n
  blk : ∃ (i : Nat) (h : Int), i ≤ n ∧ w.heap[g]? = some (.cells #[.slice a n cap, .int .i64 i, .int .i64 h] 92 (0, 0))
theorem cur3 {w : World} {g : Nat} {x y z : Value} (h : w.heap[g]? = some (.cells #[x, y, z] 92 (0, 0))) :
    w.cell? ⟨g, 0, none⟩ = some x ∧ w.cell? ⟨g, 1, none⟩ = some y ∧ w.cell? ⟨g, 2, none⟩ = some z ∧ (∀ o, w.frozen? ⟨g, o, none⟩ = false) ∧ g < w.heap.size :=
  ⟨by simp [World.cell?, h], by simp [World.cell?, h], by simp [World.cell?, h], fun o => by simp [World.frozen?, h], (Array.getElem?_eq_some_iff.1 h).1⟩
theorem cur_set {w : World} {g : Nat} {x y z : Value} (h : w.heap[g]? = some (.cells #[x, y, z] 92 (0, 0))) (u : Value) :
    (w.setCell ⟨g, 1, none⟩ u).heap[g]? = some (.cells #[x, u, z] 92 (0, 0)) ∧ (w.setCell ⟨g, 2, none⟩ u).heap[g]? = some (.cells #[x, y, u] 92 (0, 0)) := by
  have h1 := heap_setCell_same w g 1 #[x, y, z] _ u h
  have h2 := heap_setCell_same w g 2 #[x, y, z] _ u h
  exact ⟨by simpa using h1, by simpa using h2⟩
theorem set_grown (a : World) (g j : Nat) (u : Value) : a.grownBy (a.setCell ⟨g, j, none⟩ u) (some g) :=
  ⟨rfl, rfl, rfl, by simp [World.setCell], fun k hk hr => Below.heap_setCell _ _ _ _ (fun e => hr (by rw [e]))⟩
theorem drewN_grown {a b : World} {r : Option Nat} (h : a.grownBy b r) (n : Nat) : a.grownBy (b.drewN n) r := ⟨h.os, h.tape, h.output, h.size, h.block⟩
theorem gr_trans {a b c : World} {row : Option Nat} (h : a.grownBy b row) (k : b.grownBy c row) : a.grownBy c row :=
  ⟨k.os.trans h.os, k.tape.trans h.tape, k.output.trans h.output, Nat.le_trans h.size k.size, fun i hi hr => (k.block i (Nat.lt_of_lt_of_le hi h.size) hr).trans (h.block i hi hr)⟩
/-- What a drawn number tells. -/
def DrawnN (B : Nat) (a : Option Addr) (n cap g : Nat) (lo hi : Int) (w : World) (e : Ending) (w' : World) : Prop := ∃ x : Int, e = .returned (.int .i64 x) ∧ lo ≤ x ∧ x ≤ hi ∧ Cur B a n cap g w' ∧ w.grownBy w' (some g)

set_option maxRecDepth 20000 in
set_option maxHeartbeats 1000000 in
theorem l01Byte_any (B : Nat) (a : Option Addr) (n cap g : Nat) (w : World) (hc : Cur B a n cap g w) :
    Calls Try.prog 111 #[.pointer (some ⟨g, 0, none⟩)] w fun e w' => DrawnN B a n cap g 0 255 w e w' := by
  obtain ⟨hle, hsz, hrd, i, h, hi, hblk⟩ := hc
  unfold maxLen at hsz
  obtain ⟨c0, c1, c2, cf, hlt⟩ := cur3 hblk
  have f1 := cf 1; have f2 := cf 2
  have HB := Lib.hid hblk; clear hblk cf
  by_cases hin : i < n
  · rcases hrd with h0 | ⟨b, off, rfl, hb, hcell⟩
    · omega
    obtain ⟨x, x0, x1, hx⟩ := hcell i hin
    have HC := Lib.hid hcell; clear hcell
    have hbg : b ≠ g := by omega
    have e1 : (i : Int) < (n : Int) := by omega
    go_enter Try.func111, Try.ntmps111
    go_wp2
    generalize wrap64 (wrap64 (h * 6364136223846793005) + 1442695040888963407) = H
    have hb2 := (cur_set HB.out (.int .i64 H)).2
    obtain ⟨d0, d1, d2, df, dl⟩ := cur3 hb2
    have g1 := df 1
    have G1 := Lib.hid (set_grown w g 2 (.int .i64 H))
    have hx1 : (w.setCell ⟨g, 2, none⟩ (.int .i64 H)).cell? ⟨b, off + i, none⟩ = some (.int .u8 x) := G1.out.cell hx (fun e => hbg (Option.some.inj e))
    have HB2 := Lib.hid hb2
    clear hb2 df c0 c1 c2 f1 f2 HB hlt
    generalize hw1 : w.setCell ⟨g, 2, none⟩ (.int .i64 H) = w1 at *
    clear hw1
    go_quiet (fail)
    go_wp2
    generalize hy : bits .and .i64 _ 255 = y
    have hyb : 0 ≤ y ∧ y ≤ 255 := by rw [← hy]; exact and255 _
    clear hy
    obtain ⟨y0, y1⟩ := hyb
    go_quiet (fail)
    go_wp2
    go_quiet (fail)
    go_wp2
    go_ret
    have hb3 := (cur_set HB2.out (.int .i64 ((i + 1 : Nat) : Int))).1
    have gr : w.grownBy (w1.setCell ⟨g, 1, none⟩ (.int .i64 ((i + 1 : Nat) : Int))) (some g) := gr_trans G1.out (set_grown w1 g 1 _)
    have rd : RdB B (w1.setCell ⟨g, 1, none⟩ (.int .i64 ((i + 1 : Nat) : Int))) (some ⟨b, off, none⟩) n := RdB.grown (.inr ⟨b, off, rfl, hb, HC.out⟩) gr hle
    exact ⟨_, rfl, (and255 _).1, (and255 _).2, ⟨hle, by unfold maxLen; omega, rd, i + 1, H, by omega, hb3⟩, drewN_grown gr _⟩
  · have e1 : ¬ (i : Int) < (n : Int) := by omega
    go_enter Try.func111, Try.ntmps111
    go_wp2
    generalize wrap64 (wrap64 (h * 6364136223846793005) + 1442695040888963407) = H
    have hb2 := (cur_set HB.out (.int .i64 H)).2
    obtain ⟨d0, d1, d2, df, dl⟩ := cur3 hb2
    have g1 := df 1
    have G1 := Lib.hid (set_grown w g 2 (.int .i64 H))
    have HB2 := Lib.hid hb2
    clear hb2 df c0 c1 c2 f1 f2 HB hlt
    generalize hw1 : w.setCell ⟨g, 2, none⟩ (.int .i64 H) = w1 at *
    clear hw1
    go_quiet (fail)
    go_wp2
    generalize hy : bits .and .i64 _ 255 = y
    have hyb : 0 ≤ y ∧ y ≤ 255 := by rw [← hy]; exact and255 _
    clear hy
    obtain ⟨y0, y1⟩ := hyb
    go_quiet (fail)
    go_wp2
    go_ret
    exact ⟨y, rfl, y0, y1, ⟨hle, by unfold maxLen; omega, show RdB B w1 a n from RdB.grown hrd G1.out hle, i, H, by omega, HB2.out⟩, drewN_grown (drewN_grown G1.out _) _⟩

set_option maxRecDepth 20000 in
set_option maxHeartbeats 1000000 in
theorem l01Below_non (B : Nat) (a : Option Addr) (n cap g : Nat) (N : Int) (hN : N ≤ 0) (w : World) :
    Calls Try.prog 99 #[.pointer (some ⟨g, 0, none⟩), .int .i64 N] w fun e w' => e = .returned (.int .i64 0) ∧ w = w' := by
  go_enter Try.func99, Try.ntmps99
  go_wp2
  go_ret
  exact ⟨rfl, rfl⟩

set_option maxRecDepth 20000 in
set_option maxHeartbeats 1000000 in
theorem l01Below_pos (B : Nat) (a : Option Addr) (n cap g : Nat) (N : Int) (h1 : 1 ≤ N) (h2 : N ≤ 9223372036854775807) (w : World) (hc : Cur B a n cap g w) :
    Calls Try.prog 99 #[.pointer (some ⟨g, 0, none⟩), .int .i64 N] w fun e w' => DrawnN B a n cap g 0 (N - 1) w e w' := by
  have hn0 : ¬ N ≤ 0 := by omega
  have hz : (N == 0) = false := beq_eq_false_iff_ne.2 (by omega)
  have HC := Lib.hid hc; clear hc
  by_cases hs : N ≤ 256
  · go_enter Try.func99, Try.ntmps99
    go_wp2_with fail
    refine (l01Byte_any B a n cap g _ HC.out).mono ?_
    rintro e w1 ⟨x, rfl, x0, x1, hc1, gr1⟩
    have HC1 := Lib.hid hc1; have G1 := Lib.hid gr1; clear hc1 gr1
    go_wp2
    go_ret
    have b1 := Int.emod_nonneg x (show N ≠ 0 by omega)
    have b2 := Int.emod_lt_of_pos x (show 0 < N by omega)
    exact ⟨x % N, rfl, b1, by omega, HC1.out, G1.out⟩
  · go_enter Try.func99, Try.ntmps99
    go_wp2_with fail
    refine (l01Byte_any B a n cap g _ HC.out).mono ?_
    rintro e w1 ⟨x, rfl, x0, x1, hc1, gr1⟩
    have HC1 := Lib.hid hc1; have G1 := Lib.hid gr1; clear hc1 gr1
    go_wp2_with fail
    refine (l01Byte_any B a n cap g _ HC1.out).mono ?_
    rintro e w2 ⟨y, rfl, y0, y1, hc1, gr1⟩
    have HC2 := Lib.hid hc1; have G2 := Lib.hid (gr_trans G1.out gr1); clear hc1 gr1
    go_wp2_with fail
    refine (l01Byte_any B a n cap g _ HC2.out).mono ?_
    rintro e w3 ⟨z, rfl, z0, z1, hc1, gr1⟩
    have HC3 := Lib.hid hc1; have G3 := Lib.hid (gr_trans G2.out gr1); clear hc1 gr1
    go_wp2_with fail
    refine (l01Byte_any B a n cap g _ HC3.out).mono ?_
    rintro e w4 ⟨v, rfl, v0, v1, hc1, gr1⟩
    have HC4 := Lib.hid hc1; have G4 := Lib.hid (gr_trans G3.out gr1); clear hc1 gr1
    go_wp2
    go_ret
    have b1 := Int.emod_nonneg (x * 16777216 + y * 65536 + z * 256 + v) (show N ≠ 0 by omega)
    have b2 := Int.emod_lt_of_pos (x * 16777216 + y * 65536 + z * 256 + v) (show 0 < N by omega)
    exact ⟨(x * 16777216 + y * 65536 + z * 256 + v) % N, rfl, b1, by omega, HC4.out, G4.out⟩

theorem RdB.old {B n : Nat} {w w' : World} {a : Option Addr} (h : RdB B w a n) (hb : Below B w w') : RdB B w' a n := by
  rcases h with h | ⟨b, off, rfl, hl, hc⟩
  · exact .inl h
  · refine .inr ⟨b, off, rfl, hl, fun j hj => ?_⟩
    obtain ⟨x, x0, x1, hx⟩ := hc j hj
    exact ⟨x, x0, x1, (hb.cell (p := ⟨b, off + j, none⟩) hl).trans hx⟩
theorem gr_below {B : Nat} {a b : World} {g : Nat} (h : a.grownBy b (some g)) (hB : B ≤ a.heap.size) (hg : B ≤ g) : Below B a b := (Below.refl _ _).grown h hB (fun k e => by cases e; exact hg)

set_option maxRecDepth 20000 in
set_option maxHeartbeats 1000000 in
theorem l01New_any (a : Option Addr) (n cap : Nat) (w : World) (hn : n ≤ 1048576) (hr : RdB w.heap.size w a n) :
    Calls Try.prog 73 #[.slice a n cap] w fun e w' => ∃ g, e = .returned (.pointer (some ⟨g, 0, none⟩)) ∧ Cur w.heap.size a n cap g w' ∧ Below w.heap.size w w' ∧ g < w'.heap.size := by
  have HR := Lib.hid hr; clear hr
  go_enter Try.func73, Try.ntmps73
  go_wp2
  go_loop [3, 4] (fun h i => ∃ (k : Nat) (x : Int), k ≤ n ∧ k ≤ 4000 ∧ i = .int .i64 k ∧ h = .int .i64 x ∧ 0 ≤ x ∧ x ≤ 1073741823) (fun _ i => n - (intOf i).toNat)
  case atStart => exact ⟨0, 33051 + n, Nat.zero_le _, Nat.zero_le _, rfl, rfl, by omega, by omega⟩
  case round =>
    obtain ⟨k, x, hk, hk2, rfl, rfl, x0, x1⟩ := hrel
    by_cases hlt : k < n
    · by_cases h4 : k < 4000
      · rcases HR.out with h0 | ⟨b, off, rfl, hb, hcell⟩
        · omega
        obtain ⟨y, y0, y1, hy⟩ := hcell k hlt
        clear hcell
        have e1 : (k : Int) < (n : Int) := by omega
        have e2 : (k : Int) < 4000 := by omega
        go_wp2
        generalize hz : bits .and .i64 _ 1073741823 = z
        have hzb : 0 ≤ z ∧ z ≤ 1073741823 := by rw [← hz]; exact and_bd _ 1073741823 (by omega)
        clear hz
        obtain ⟨z0, z1⟩ := hzb
        go_round
        case rel => exact ⟨k + 1, z, by omega, by omega, by go_num, rfl, z0, z1⟩
        case measure => simp [intOf]; omega
      · have e1 : (k : Int) < (n : Int) := by omega
        have e2 : ¬ (k : Int) < 4000 := by omega
        go_wp2
        go_ret
        exact ⟨w.heap.size, rfl, ⟨Nat.le_refl _, by unfold maxLen; omega, HR.out.old ((Below.refl _ _).alloc (Nat.le_refl _) _), 0, x, Nat.zero_le _, heap_alloc_new w _⟩, (Below.refl _ _).alloc (Nat.le_refl _) _, by simp⟩
    · have e1 : ¬ (k : Int) < (n : Int) := by omega
      go_wp2
      go_ret
      exact ⟨w.heap.size, rfl, ⟨Nat.le_refl _, by unfold maxLen; omega, HR.out.old ((Below.refl _ _).alloc (Nat.le_refl _) _), 0, x, Nat.zero_le _, heap_alloc_new w _⟩, (Below.refl _ _).alloc (Nat.le_refl _) _, by simp⟩

set_option maxRecDepth 100000 in
open Go.ChangeShapes Go.WideShapes Go.ChangeAt in
theorem codeIn {H : Type} {enc : TypeId × Value → H} {W : World} {base : Nat} {v : Value} {d : DataW H} {p : List MemPlace}
    (hv : Value.okWide Try.prog W .any base 45 v) (h : DataW.Trod enc Try.prog W 0 (fun _ => true) true 45 v d p) :
    ∃ (a : Option Addr) (n cap : Nat), v = .slice a n cap ∧ n ≤ maxLen ∧ RdB W.heap.size W a n := by
  obtain ⟨a, n, cap, rfl⟩ := okWide_slice Try.underlying45 hv
  obtain ⟨m, hm⟩ := h
  rcases open_ints Try.underlying45 Try.underlying5 (by kernel_rfl) hm with ⟨hcs, _⟩ | ⟨ad, len, cap', zs, hcs, _, hl, hmx, hz, _, hcell, hwz⟩
  · simp [Value.cells] at hcs
    obtain ⟨rfl, rfl, rfl⟩ := hcs
    exact ⟨none, 0, 0, rfl, Nat.zero_le _, .inl rfl⟩
  · simp [Value.cells] at hcs
    obtain ⟨rfl, rfl, rfl⟩ := hcs
    refine ⟨some ad, n, cap, rfl, by omega, ?_⟩
    rcases Nat.eq_zero_or_pos n with h0 | h0
    · exact .inl h0
    · have hzl : zs.length = cap := by simpa using hz
      obtain ⟨b, off, rfl, hc⟩ := ints_at hcell (by omega)
      refine .inr ⟨b, off, rfl, World.block_lt_of_cell? W _ (hc 0 (by omega)), fun j hj => ?_⟩
      have hw : (Lit.int .u8 (zs.getD j 0)).wf = true := hwz _ (by rw [List.getD_eq_getElem?_getD, List.getElem?_eq_getElem (by omega)]; exact List.getElem_mem _)
      have := bounds_u8 hw
      exact ⟨_, this.1, this.2, hc j (by omega)⟩
end Go.Proofs.Ytmpbhhggbmjfcaa
