/- Contracts of joined where the cards fit: the upper ones. -/
import Derived.Test.YtolnhmmgmkehfaaJoin
import Derived.Deep.RegionLaw
namespace Go.Proofs.Ytolnhmmgmkehfaa
open Go.RowKit
set_option linter.unusedVariables false
set_option linter.unusedSimpArgs false

set_option maxRecDepth 20000 in
set_option maxHeartbeats 3200000 in
theorem joinedU_6 (w : World) (d1 f1 d2 f2 : Int) (a1 a2 : Option Addr) (c1 c2 : Nat) (ss tt : List ByteArray) (r1 : RdS w a1 ss) (r2 : RdS w a2 tt) (z1 : SzS ss) (z2 : SzS tt) (h1 : okC d1 f1 ss = true) (h2 : okC d2 f2 tt = true) (h3 : d1 = d2) (h4 : f1 = f2) (h5 : ss.length = tt.length) :
    Calls Try.prog 67 #[.agg #[.int .i64 d1, .int .i64 f1, .slice a1 ss.length c1], .agg #[.int .i64 d2, .int .i64 f2, .slice a2 tt.length c2], .func (Fn.func 71) #[] #[]] w fun e w' => CardR w.heap.size d1 f1 (mixL ss tt true ss.length) true e w' ∧ Below w.heap.size w w' := by
  have S0 : Two w d1 f1 d2 f2 a1 a2 c1 c2 ss tt ((w.alloc (.cells #[.int .i64 d1, .int .i64 f1, .slice a1 ss.length c1] 34)).alloc (.cells #[.int .i64 d2, .int .i64 f2, .slice a2 tt.length c2] 34)) := Two.start w d1 f1 d2 f2 a1 a2 c1 c2 ss tt 34 34 r1 r2
  have S := S0.below (bel_new _ (.cells #[.int .i64 0, .int .i64 0, .slice none 0 0] 34))
  have A : Blk (((w.alloc (.cells #[.int .i64 d1, .int .i64 f1, .slice a1 ss.length c1] 34)).alloc (.cells #[.int .i64 d2, .int .i64 f2, .slice a2 tt.length c2] 34)).alloc (.cells #[.int .i64 0, .int .i64 0, .slice none 0 0] 34)) (w.heap.size + 2) (.int .i64 0) (.int .i64 0) (.slice none 0 0) := Blk.new' (by simp) _ _ _
  clear S0
  have H1 := Lib.hid h1; clear h1
  have H2 := Lib.hid h2; clear h2
  have t3 : (d1 != d2) = false := by rw [bne_eq_false_iff_eq]; exact h3
  clear h3
  have t4 : (f1 != f2) = false := by rw [bne_eq_false_iff_eq]; exact h4
  clear h4
  have t5 : ((ss.length : Int) != (tt.length : Int)) = false := by rw [bne_eq_false_iff_eq]; omega
  obtain ⟨_, ⟨l1, l2⟩, _⟩ := (okC_iff d1 f1 ss).1 H1.out
  have HR1 := Lib.hid r1; have HR2 := Lib.hid r2
  obtain ⟨b1', o1', rfl, hl1, hc1⟩ := rd_at r1 (by omega)
  obtain ⟨b2', o2', rfl, hl2, hc2⟩ := rd_at r2 (by omega)
  have HC1 := Lib.hid hc1; have HC2 := Lib.hid hc2
  have HL := Lib.hid h5
  clear hc1 hc2 r1 r2 h5
  obtain ⟨i0, hi, hz0, hz1, hz2⟩ := info_parts Try.info9s
  go_enter Try.func67, Try.ntmps67
  go_wp2_with fail
  have CK := implCardOk_any _ d1 f1 _ c1 ss S.rb z1
  rw [H1.out] at CK
  refine CK.mono ?_
  rintro e u1 ⟨rfl, b1⟩
  have S := S.below b1
  have A := A.below b1
  have f0 := A.fz 0; have f1' := A.fz 1; have f2' := A.fz 2; have x0 := A.c0; have x1 := A.c1; have x2 := A.c2; have lA := A.lt
  clear CK b1
  obtain ⟨_, k0, k1, k2⟩ := S.kb; obtain ⟨_, m0, m1, m2⟩ := S.kc
  go_wp2_with fail
  have CK := implCardOk_any _ d2 f2 _ c2 tt S.rc z2
  rw [H2.out] at CK
  refine CK.mono ?_
  rintro e u2 ⟨rfl, b1⟩
  have S := S.below b1
  have A := A.below b1
  have f0 := A.fz 0; have f1' := A.fz 1; have f2' := A.fz 2; have x0 := A.c0; have x1 := A.c1; have x2 := A.c2; have lA := A.lt
  clear CK b1 k0 k1 k2 m0 m1 m2
  obtain ⟨_, k0, k1, k2⟩ := S.kb; obtain ⟨_, m0, m1, m2⟩ := S.kc
  have SA := Lib.hid A; clear A
  have B0 : Below u2.heap.size u2 (u2.alloc (.cells #[.int .i64 d1, .int .i64 f1, .slice none 0 0] 34)) := bel_new _ _
  have hX : w.heap.size + 3 ≤ u2.heap.size := by omega
  have S9 := S.below B0
  have A9 := SA.out.below B0
  have N9 := Blk.new u2 (.int .i64 d1) (.int .i64 f1) (.slice none 0 0)
  have HS9 := Lib.hid S9; have HA9 := Lib.hid A9; have HN9 := Lib.hid N9
  clear S9 A9 N9 B0 x0 x1 x2 f0 f1' f2'
  go_wp2
  go_loopw [51] (fun i wr => ∃ (k : Nat) (v : Value), k ≤ ss.length ∧ i = .int .i64 k ∧ Two w d1 f1 d2 f2 (some ⟨b1', o1', none⟩) (some ⟨b2', o2', none⟩) c1 c2 ss tt wr ∧ Blk wr (w.heap.size + 2) (.int .i64 0) (.int .i64 0) (.slice none 0 0) ∧ Blk wr u2.heap.size (.int .i64 d1) (.int .i64 f1) v ∧ OwnS (u2.heap.size + 1) v (mixL ss tt true k) wr) (fun i _ => ss.length - (intOf i).toNat)
  case atStart => exact ⟨0, .slice none 0 0, Nat.zero_le _, rfl, HS9.out, HA9.out, HN9.out, World.ownsRow_nil _ _ _ _⟩
  case round =>
    clear HS9 HA9 HN9 S k0 k1 k2 m0 m1 m2
    obtain ⟨k, v, hk, rfl, hS, hA, hB, hown⟩ := hrel
    have HS := Lib.hid hS; have HA := Lib.hid hA; have HB := Lib.hid hB
    have hl := hB.lt
    by_cases hlt : k < ss.length
    · obtain ⟨_, k0, k1, k2⟩ := hS.kb; obtain ⟨_, m0, m1, m2⟩ := hS.kc
      have c2' := hB.c2
      have g1 : wr.cell? ⟨b1', o1' + k, none⟩ = some (.string (sel ss k)) := (HS.out.W.cell (p := ⟨b1', o1' + k, none⟩) hl1).trans (HC1.out k hlt)
      have g2 : wr.cell? ⟨b2', o2' + k, none⟩ = some (.string (sel tt k)) := (HS.out.W.cell (p := ⟨b2', o2' + k, none⟩) hl2).trans (HC2.out k (by rw [← HL.out]; exact hlt))
      have hlw : b1' < wr.heap.size := Nat.lt_of_lt_of_le hl1 HS.out.W.size
      have hlw2 : b2' < wr.heap.size := Nat.lt_of_lt_of_le hl2 HS.out.W.size
      clear hA hB hS
      have HO := own_mk2 hown
      have HO' : Hid (wr.drew.ownsRow (u2.heap.size + 1) 9 1 v k (strCells (mixL ss tt true k))) := HO
      have hn1 : k + 1 ≤ maxLen := by unfold maxLen; omega
      have hn2 : (k + 1) * 16 ≤ 140737488355328 := by omega
      have e1 : (k : Int) < (ss.length : Int) := by omega
      have e2 : (k : Int) < (tt.length : Int) := by have := HL.out; omega
      have e3 : (0 : Int) ≤ (k : Int) := by omega
      have hs1 : Hid (u2.heap.size + 1 ≤ wr.drew.heap.size) := Lib.hid (by show _ ≤ wr.heap.size; omega)
      go_wp2
      go_region_law (first
        | (refine step_app1 (by rfl) _ _ 29 (by rfl) (u2.heap.size + 1) 9 i0 (.string ByteArray.empty) 16 Try.underlying29 hi hz0 hz1 hz2 rfl v k (strCells (mixL ss tt true k)) (by rfl) HO'.out _ (by rfl) rfl hn1 hn2 hs1.out ?_; intro g cap w1 hown1 hg1; have hA2 := Lib.hid (((show Blk wr.drew _ _ _ _ from HA.out).alloc _).grown hg1 (own_ne HO'.out (by omega))); have hB2 := ((show Blk wr.drew _ _ _ _ from HB.out).alloc _).grown hg1 (own_ne HO'.out (by omega)); have z2 := hB2.c2; have z3 := hB2.fz 2; have HB2 := Lib.hid hB2; have y2 := Lib.hid (below_grown2 (Below.refl (w.heap.size + 2) wr.drew) (by show _ ≤ wr.heap.size; omega) (by omega) HO'.out hg1); have T2 := Two.keep (Two.drew HS.out) HR1.out HR2.out y2.out; have HT2 := Lib.hid T2; obtain ⟨_, k0, k1, k2⟩ := T2.kb; obtain ⟨_, m0, m1, m2⟩ := T2.kc; have g1 := (HT2.out.W.cell (p := ⟨b1', o1' + k, none⟩) hl1).trans (HC1.out k hlt); have g2 := (HT2.out.W.cell (p := ⟨b2', o2' + k, none⟩) hl2).trans (HC2.out k (by rw [← HL.out]; exact hlt)); clear hB2 T2)
        | (go_simp; go_at_call 71; refine (implUpperOf_any (sel ss k) (sel tt k) (z1.2 k) (z2.2 k) _).mono ?_; rintro e w' ⟨rfl, rfl⟩))
      all_goals
        have O2 := ownsRow_setCell_below (mixL_snoc hown1) (a := ⟨u2.heap.size, 2, none⟩) (by simp) (.slice (some ⟨g, 0, none⟩) (k + 1) cap)
        have T3 := HT2.out.keep HR1.out HR2.out ((Below.refl (w.heap.size + 2) w1).setCell (p := ⟨u2.heap.size, 2, none⟩) (by simp; omega) (.slice (some ⟨g, 0, none⟩) (k + 1) cap))
        have hA3 := hA2.out.other (a := ⟨u2.heap.size, 2, none⟩) (by simp; omega) (.slice (some ⟨g, 0, none⟩) (k + 1) cap)
        clear hown1 hg1
        go_wp2
        go_roundw
        case rel => exact ⟨k + 1, _, by omega, by go_num, T3, hA3, HB2.out.set2 _, O2⟩
        case measure => simp [intOf]; omega
    · obtain rfl : k = ss.length := by omega
      obtain ⟨a', c', rfl, hrd⟩ := hown.read
      rw [mixL_length] at HB hB hown
      obtain ⟨_, k0, k1, k2⟩ := hS.kb; obtain ⟨_, m0, m1, m2⟩ := hS.kc
      have d0 := hB.c0; have d1' := hB.c1; have d2' := hB.c2
      have f0 := hA.fz 0; have f1' := hA.fz 1; have f2' := hA.fz 2; have x0 := hA.c0; have x1 := hA.c1; have x2 := hA.c2; have lA := hA.lt
      clear hA hB hS hrd
      go_wp2
      refine bodyPost_ret (v := .tuple #[.agg #[.int .i64 d1, .int .i64 f1, .slice a' ss.length c'], .bool true]) (by simp [results, Try.results67, go_sem, lA, hl, d0, d1', d2', x0, x1, x2, f0, f1', f2']) rfl ⟨⟨a', c', by rw [mixL_length], ?_⟩, ?_⟩
      · rw [mixL_length]
        exact World.ownsRow.mono (ownsRow_setCell_below (ownsRow_setCell_below (ownsRow_setCell_below hown (by simp; try omega) _) (by simp; try omega) _) (by simp; try omega) _) (by omega)
      · exact ((HS.out.W.setCell (by show w.heap.size ≤ w.heap.size + 2; omega) _).setCell (by show w.heap.size ≤ w.heap.size + 2; omega) _).setCell (by show w.heap.size ≤ w.heap.size + 2; omega) _

end Go.Proofs.Ytolnhmmgmkehfaa
