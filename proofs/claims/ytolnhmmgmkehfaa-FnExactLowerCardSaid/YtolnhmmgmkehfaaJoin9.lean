/- Contracts of the reference's l08Card where the cards do not fit. -/
import Derived.Test.YtolnhmmgmkehfaaJoin8
namespace Go.Proofs.Ytolnhmmgmkehfaa
open Go.RowKit
set_option linter.unusedVariables false
set_option linter.unusedSimpArgs false

theorem sameC_parts {d1 f1 d2 f2 : Int} {ss tt : List ByteArray} (h : sameC d1 f1 d2 f2 ss tt = true) : okC d1 f1 ss = true ∧ ss.length = tt.length := by
  unfold sameC at h
  simp only [Bool.and_eq_true, decide_eq_true_eq] at h
  exact ⟨h.1.1.1.1, h.2⟩
set_option maxRecDepth 20000 in
set_option maxHeartbeats 6400000 in
theorem l08CardU_no (w : World) (d1 f1 d2 f2 : Int) (a1 a2 : Option Addr) (c1 c2 : Nat) (ss tt : List ByteArray) (r1 : RdS w a1 ss) (r2 : RdS w a2 tt) (z1 : SzS ss) (z2 : SzS tt) (hs : sameC d1 f1 d2 f2 ss tt = false) :
    Calls Try.prog 66 #[.agg #[.int .i64 d1, .int .i64 f1, .slice a1 ss.length c1], .agg #[.int .i64 d2, .int .i64 f2, .slice a2 tt.length c2], .bool true] w fun e w' => CardR w.heap.size 0 0 [] false e w' ∧ Below w.heap.size w w' := by
  have S0 : Two w d1 f1 d2 f2 a1 a2 c1 c2 ss tt ((w.alloc (.cells #[.int .i64 d1, .int .i64 f1, .slice a1 ss.length c1] 34)).alloc (.cells #[.int .i64 d2, .int .i64 f2, .slice a2 tt.length c2] 34)) := Two.start w d1 f1 d2 f2 a1 a2 c1 c2 ss tt 34 34 r1 r2
  have S := S0.below (bel_new _ (.cells #[.int .i64 0, .int .i64 0, .slice none 0 0] 34))
  have A : Blk (((w.alloc (.cells #[.int .i64 d1, .int .i64 f1, .slice a1 ss.length c1] 34)).alloc (.cells #[.int .i64 d2, .int .i64 f2, .slice a2 tt.length c2] 34)).alloc (.cells #[.int .i64 0, .int .i64 0, .slice none 0 0] 34)) (w.heap.size + 2) (.int .i64 0) (.int .i64 0) (.slice none 0 0) := Blk.new' (by simp) _ _ _
  clear S0
  have HSM := Lib.hid hs; clear hs
  obtain ⟨_, k0, k1, k2⟩ := S.kb; obtain ⟨_, m0, m1, m2⟩ := S.kc
  go_enter Try.func66, Try.ntmps66
  go_wp2_with fail
  have CK := l08Same_any _ d1 f1 d2 f2 _ _ c1 c2 ss tt S.rb S.rc z1 z2
  rw [HSM.out] at CK
  refine CK.mono ?_
  rintro e u2 ⟨rfl, b1⟩
  have S := S.below b1
  have A := A.below b1
  have f0 := A.fz 0; have f1' := A.fz 1; have f2' := A.fz 2; have x0 := A.c0; have x1 := A.c1; have x2 := A.c2; have lA := A.lt
  clear CK b1 k0 k1 k2 m0 m1 m2
  obtain ⟨_, k0, k1, k2⟩ := S.kb; obtain ⟨_, m0, m1, m2⟩ := S.kc
  go_wp2
  refine bodyPost_ret (v := .tuple #[.agg #[.int .i64 0, .int .i64 0, .slice none 0 0], .bool false]) (by simp [results, Try.results66, go_sem, lA, x0, x1, x2, f0, f1', f2']) rfl ⟨⟨none, 0, rfl, World.ownsRow_nil _ _ _ _⟩, ?_⟩
  exact ((S.W.setCell (by show w.heap.size ≤ w.heap.size + 2; omega) _).setCell (by show w.heap.size ≤ w.heap.size + 2; omega) _).setCell (by show w.heap.size ≤ w.heap.size + 2; omega) _

set_option maxRecDepth 20000 in
set_option maxHeartbeats 6400000 in
theorem l08CardL_no (w : World) (d1 f1 d2 f2 : Int) (a1 a2 : Option Addr) (c1 c2 : Nat) (ss tt : List ByteArray) (r1 : RdS w a1 ss) (r2 : RdS w a2 tt) (z1 : SzS ss) (z2 : SzS tt) (hs : sameC d1 f1 d2 f2 ss tt = false) :
    Calls Try.prog 66 #[.agg #[.int .i64 d1, .int .i64 f1, .slice a1 ss.length c1], .agg #[.int .i64 d2, .int .i64 f2, .slice a2 tt.length c2], .bool false] w fun e w' => CardR w.heap.size 0 0 [] false e w' ∧ Below w.heap.size w w' := by
  have S0 : Two w d1 f1 d2 f2 a1 a2 c1 c2 ss tt ((w.alloc (.cells #[.int .i64 d1, .int .i64 f1, .slice a1 ss.length c1] 34)).alloc (.cells #[.int .i64 d2, .int .i64 f2, .slice a2 tt.length c2] 34)) := Two.start w d1 f1 d2 f2 a1 a2 c1 c2 ss tt 34 34 r1 r2
  have S := S0.below (bel_new _ (.cells #[.int .i64 0, .int .i64 0, .slice none 0 0] 34))
  have A : Blk (((w.alloc (.cells #[.int .i64 d1, .int .i64 f1, .slice a1 ss.length c1] 34)).alloc (.cells #[.int .i64 d2, .int .i64 f2, .slice a2 tt.length c2] 34)).alloc (.cells #[.int .i64 0, .int .i64 0, .slice none 0 0] 34)) (w.heap.size + 2) (.int .i64 0) (.int .i64 0) (.slice none 0 0) := Blk.new' (by simp) _ _ _
  clear S0
  have HSM := Lib.hid hs; clear hs
  obtain ⟨_, k0, k1, k2⟩ := S.kb; obtain ⟨_, m0, m1, m2⟩ := S.kc
  go_enter Try.func66, Try.ntmps66
  go_wp2_with fail
  have CK := l08Same_any _ d1 f1 d2 f2 _ _ c1 c2 ss tt S.rb S.rc z1 z2
  rw [HSM.out] at CK
  refine CK.mono ?_
  rintro e u2 ⟨rfl, b1⟩
  have S := S.below b1
  have A := A.below b1
  have f0 := A.fz 0; have f1' := A.fz 1; have f2' := A.fz 2; have x0 := A.c0; have x1 := A.c1; have x2 := A.c2; have lA := A.lt
  clear CK b1 k0 k1 k2 m0 m1 m2
  obtain ⟨_, k0, k1, k2⟩ := S.kb; obtain ⟨_, m0, m1, m2⟩ := S.kc
  go_wp2
  refine bodyPost_ret (v := .tuple #[.agg #[.int .i64 0, .int .i64 0, .slice none 0 0], .bool false]) (by simp [results, Try.results66, go_sem, lA, x0, x1, x2, f0, f1', f2']) rfl ⟨⟨none, 0, rfl, World.ownsRow_nil _ _ _ _⟩, ?_⟩
  exact ((S.W.setCell (by show w.heap.size ≤ w.heap.size + 2; omega) _).setCell (by show w.heap.size ≤ w.heap.size + 2; omega) _).setCell (by show w.heap.size ≤ w.heap.size + 2; omega) _

end Go.Proofs.Ytolnhmmgmkehfaa
