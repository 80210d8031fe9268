/- Contracts of UpperCard and LowerCard, both sides. -/
import Derived.Test.YtolnhmmgmkehfaaJoin6
import Derived.Test.YtolnhmmgmkehfaaJoin7
import Derived.Test.YtolnhmmgmkehfaaJoin10
import Derived.Test.YtolnhmmgmkehfaaJoin11
namespace Go.Proofs.Ytolnhmmgmkehfaa
open Go.RowKit
set_option linter.unusedVariables false
set_option linter.unusedSimpArgs false

theorem sameC_mk {d1 f1 d2 f2 : Int} {ss tt : List ByteArray} (h : sameC d1 f1 d2 f2 ss tt = true) : okC d1 f1 ss = true ∧ okC d2 f2 tt = true ∧ d1 = d2 ∧ f1 = f2 ∧ ss.length = tt.length := by
  unfold sameC at h
  simp only [Bool.and_eq_true, decide_eq_true_eq] at h
  exact ⟨h.1.1.1.1, h.1.1.1.2, h.1.1.2, h.1.2, h.2⟩
theorem joinedU_no (w : World) (d1 f1 d2 f2 : Int) (a1 a2 : Option Addr) (c1 c2 : Nat) (ss tt : List ByteArray) (r1 : RdS w a1 ss) (r2 : RdS w a2 tt) (z1 : SzS ss) (z2 : SzS tt) (hs : sameC d1 f1 d2 f2 ss tt = false) :
    Calls Try.prog 67 #[.agg #[.int .i64 d1, .int .i64 f1, .slice a1 ss.length c1], .agg #[.int .i64 d2, .int .i64 f2, .slice a2 tt.length c2], .func (Fn.func 71) #[] #[]] w fun e w' => CardR w.heap.size 0 0 [] false e w' ∧ Below w.heap.size w w' := by
  cases h1 : okC d1 f1 ss with
  | false => exact joinedU_1 w d1 f1 d2 f2 a1 a2 c1 c2 ss tt r1 r2 z1 z2 h1
  | true =>
  cases h2 : okC d2 f2 tt with
  | false => exact joinedU_2 w d1 f1 d2 f2 a1 a2 c1 c2 ss tt r1 r2 z1 z2 h1 h2
  | true =>
  by_cases h3 : d1 = d2
  · by_cases h4 : f1 = f2
    · by_cases h5 : ss.length = tt.length
      · exfalso; unfold sameC at hs; rw [h1, h2, decide_eq_true h3, decide_eq_true h4, decide_eq_true h5] at hs; exact Bool.noConfusion hs
      · exact joinedU_5 w d1 f1 d2 f2 a1 a2 c1 c2 ss tt r1 r2 z1 z2 h1 h2 h3 h4 h5
    · exact joinedU_4 w d1 f1 d2 f2 a1 a2 c1 c2 ss tt r1 r2 z1 z2 h1 h2 h3 h4
  · exact joinedU_3 w d1 f1 d2 f2 a1 a2 c1 c2 ss tt r1 r2 z1 z2 h1 h2 h3
theorem joinedU_yes (w : World) (d1 f1 d2 f2 : Int) (a1 a2 : Option Addr) (c1 c2 : Nat) (ss tt : List ByteArray) (r1 : RdS w a1 ss) (r2 : RdS w a2 tt) (z1 : SzS ss) (z2 : SzS tt) (hs : sameC d1 f1 d2 f2 ss tt = true) :
    Calls Try.prog 67 #[.agg #[.int .i64 d1, .int .i64 f1, .slice a1 ss.length c1], .agg #[.int .i64 d2, .int .i64 f2, .slice a2 tt.length c2], .func (Fn.func 71) #[] #[]] w fun e w' => CardR w.heap.size d1 f1 (mixL ss tt true ss.length) true e w' ∧ Below w.heap.size w w' := by
  obtain ⟨h1, h2, h3, h4, h5⟩ := sameC_mk hs
  exact joinedU_6 w d1 f1 d2 f2 a1 a2 c1 c2 ss tt r1 r2 z1 z2 h1 h2 h3 h4 h5

set_option maxRecDepth 20000 in
set_option maxHeartbeats 1600000 in
theorem implUpper_yes (w : World) (d1 f1 d2 f2 : Int) (a1 a2 : Option Addr) (c1 c2 : Nat) (ss tt : List ByteArray) (r1 : RdS w a1 ss) (r2 : RdS w a2 tt) (z1 : SzS ss) (z2 : SzS tt) (hs : sameC d1 f1 d2 f2 ss tt = true) :
    Calls Try.prog 33 #[.agg #[.int .i64 d1, .int .i64 f1, .slice a1 ss.length c1], .agg #[.int .i64 d2, .int .i64 f2, .slice a2 tt.length c2]] w fun e w' => CardR w.heap.size d1 f1 (mixL ss tt true ss.length) true e w' ∧ Below w.heap.size w w' := by
  have S0 : Two w d1 f1 d2 f2 a1 a2 c1 c2 ss tt ((w.alloc (.cells #[.int .i64 d1, .int .i64 f1, .slice a1 ss.length c1] 34)).alloc (.cells #[.int .i64 d2, .int .i64 f2, .slice a2 tt.length c2] 34)) := Two.start w d1 f1 d2 f2 a1 a2 c1 c2 ss tt 34 34 r1 r2
  have S := S0.below (bel_new _ (.cells #[.int .i64 0, .int .i64 0, .slice none 0 0] 34))
  have A : Blk (((w.alloc (.cells #[.int .i64 d1, .int .i64 f1, .slice a1 ss.length c1] 34)).alloc (.cells #[.int .i64 d2, .int .i64 f2, .slice a2 tt.length c2] 34)).alloc (.cells #[.int .i64 0, .int .i64 0, .slice none 0 0] 34)) (w.heap.size + 2) (.int .i64 0) (.int .i64 0) (.slice none 0 0) := Blk.new' (by simp) _ _ _
  clear S0
  have HSM := Lib.hid hs; clear hs
  obtain ⟨_, k0, k1, k2⟩ := S.kb; obtain ⟨_, m0, m1, m2⟩ := S.kc
  go_enter Try.func33, Try.ntmps33
  go_wp2_with fail
  refine (joinedU_yes _ d1 f1 d2 f2 a1 a2 c1 c2 ss tt S.rb S.rc z1 z2 HSM.out).mono ?_
  rintro e u1 ⟨⟨a', c', rfl, o1⟩, b1⟩
  have S := S.below b1
  have A := A.below b1
  have f0 := A.fz 0; have f1' := A.fz 1; have f2' := A.fz 2; have x0 := A.c0; have x1 := A.c1; have x2 := A.c2; have lA := A.lt
  clear b1 k0 k1 k2 m0 m1 m2
  obtain ⟨_, k0, k1, k2⟩ := S.kb; obtain ⟨_, m0, m1, m2⟩ := S.kc
  generalize hln : (mixL ss tt true ss.length).length = n at *
  have HLN := Lib.hid hln; clear hln
  go_wp2
  refine bodyPost_ret (v := .tuple #[.agg #[.int .i64 d1, .int .i64 f1, .slice a' n c'], .bool true]) (by simp [results, Try.results33, go_sem, lA, x0, x1, x2, f0, f1', f2']) rfl ⟨⟨a', c', by rw [HLN.out], ?_⟩, ?_⟩
  · rw [HLN.out]
    exact World.ownsRow.mono (ownsRow_setCell_below (ownsRow_setCell_below (ownsRow_setCell_below o1 (by simp; try omega) _) (by simp; try omega) _) (by simp; try omega) _) (by simp; try omega)
  · exact ((S.W.setCell (by show w.heap.size ≤ w.heap.size + 2; omega) _).setCell (by show w.heap.size ≤ w.heap.size + 2; omega) _).setCell (by show w.heap.size ≤ w.heap.size + 2; omega) _

set_option maxRecDepth 20000 in
set_option maxHeartbeats 1600000 in
theorem implUpper_no (w : World) (d1 f1 d2 f2 : Int) (a1 a2 : Option Addr) (c1 c2 : Nat) (ss tt : List ByteArray) (r1 : RdS w a1 ss) (r2 : RdS w a2 tt) (z1 : SzS ss) (z2 : SzS tt) (hs : sameC d1 f1 d2 f2 ss tt = false) :
    Calls Try.prog 33 #[.agg #[.int .i64 d1, .int .i64 f1, .slice a1 ss.length c1], .agg #[.int .i64 d2, .int .i64 f2, .slice a2 tt.length c2]] w fun e w' => CardR w.heap.size 0 0 [] false e w' ∧ Below w.heap.size w w' := by
  have S0 : Two w d1 f1 d2 f2 a1 a2 c1 c2 ss tt ((w.alloc (.cells #[.int .i64 d1, .int .i64 f1, .slice a1 ss.length c1] 34)).alloc (.cells #[.int .i64 d2, .int .i64 f2, .slice a2 tt.length c2] 34)) := Two.start w d1 f1 d2 f2 a1 a2 c1 c2 ss tt 34 34 r1 r2
  have S := S0.below (bel_new _ (.cells #[.int .i64 0, .int .i64 0, .slice none 0 0] 34))
  have A : Blk (((w.alloc (.cells #[.int .i64 d1, .int .i64 f1, .slice a1 ss.length c1] 34)).alloc (.cells #[.int .i64 d2, .int .i64 f2, .slice a2 tt.length c2] 34)).alloc (.cells #[.int .i64 0, .int .i64 0, .slice none 0 0] 34)) (w.heap.size + 2) (.int .i64 0) (.int .i64 0) (.slice none 0 0) := Blk.new' (by simp) _ _ _
  clear S0
  have HSM := Lib.hid hs; clear hs
  obtain ⟨_, k0, k1, k2⟩ := S.kb; obtain ⟨_, m0, m1, m2⟩ := S.kc
  go_enter Try.func33, Try.ntmps33
  go_wp2_with fail
  refine (joinedU_no _ d1 f1 d2 f2 a1 a2 c1 c2 ss tt S.rb S.rc z1 z2 HSM.out).mono ?_
  rintro e u1 ⟨⟨a', c', rfl, o1⟩, b1⟩
  have S := S.below b1
  have A := A.below b1
  have f0 := A.fz 0; have f1' := A.fz 1; have f2' := A.fz 2; have x0 := A.c0; have x1 := A.c1; have x2 := A.c2; have lA := A.lt
  clear b1 k0 k1 k2 m0 m1 m2
  obtain ⟨_, k0, k1, k2⟩ := S.kb; obtain ⟨_, m0, m1, m2⟩ := S.kc
  generalize hln : ([] : List ByteArray).length = n at *
  have HLN := Lib.hid hln; clear hln
  go_wp2
  refine bodyPost_ret (v := .tuple #[.agg #[.int .i64 0, .int .i64 0, .slice a' n c'], .bool false]) (by simp [results, Try.results33, go_sem, lA, x0, x1, x2, f0, f1', f2']) rfl ⟨⟨a', c', by rw [HLN.out], ?_⟩, ?_⟩
  · rw [HLN.out]
    exact World.ownsRow.mono (ownsRow_setCell_below (ownsRow_setCell_below (ownsRow_setCell_below o1 (by simp; try omega) _) (by simp; try omega) _) (by simp; try omega) _) (by simp; try omega)
  · exact ((S.W.setCell (by show w.heap.size ≤ w.heap.size + 2; omega) _).setCell (by show w.heap.size ≤ w.heap.size + 2; omega) _).setCell (by show w.heap.size ≤ w.heap.size + 2; omega) _

set_option maxRecDepth 20000 in
set_option maxHeartbeats 1600000 in
theorem specUpper_yes (w : World) (d1 f1 d2 f2 : Int) (a1 a2 : Option Addr) (c1 c2 : Nat) (ss tt : List ByteArray) (r1 : RdS w a1 ss) (r2 : RdS w a2 tt) (z1 : SzS ss) (z2 : SzS tt) (hs : sameC d1 f1 d2 f2 ss tt = true) :
    Calls Try.prog 32 #[.agg #[.int .i64 d1, .int .i64 f1, .slice a1 ss.length c1], .agg #[.int .i64 d2, .int .i64 f2, .slice a2 tt.length c2]] w fun e w' => CardR w.heap.size d1 f1 (mixL ss tt true ss.length) true e w' ∧ Below w.heap.size w w' := by
  have S0 : Two w d1 f1 d2 f2 a1 a2 c1 c2 ss tt ((w.alloc (.cells #[.int .i64 d1, .int .i64 f1, .slice a1 ss.length c1] 34)).alloc (.cells #[.int .i64 d2, .int .i64 f2, .slice a2 tt.length c2] 34)) := Two.start w d1 f1 d2 f2 a1 a2 c1 c2 ss tt 34 34 r1 r2
  have S := S0.below (bel_new _ (.cells #[.int .i64 0, .int .i64 0, .slice none 0 0] 34))
  have A : Blk (((w.alloc (.cells #[.int .i64 d1, .int .i64 f1, .slice a1 ss.length c1] 34)).alloc (.cells #[.int .i64 d2, .int .i64 f2, .slice a2 tt.length c2] 34)).alloc (.cells #[.int .i64 0, .int .i64 0, .slice none 0 0] 34)) (w.heap.size + 2) (.int .i64 0) (.int .i64 0) (.slice none 0 0) := Blk.new' (by simp) _ _ _
  clear S0
  have HSM := Lib.hid hs; clear hs
  obtain ⟨_, k0, k1, k2⟩ := S.kb; obtain ⟨_, m0, m1, m2⟩ := S.kc
  go_enter Try.func32, Try.ntmps32
  go_wp2_with fail
  refine (l08CardU_yes _ d1 f1 d2 f2 a1 a2 c1 c2 ss tt S.rb S.rc z1 z2 HSM.out).mono ?_
  rintro e u1 ⟨⟨a', c', rfl, o1⟩, b1⟩
  have S := S.below b1
  have A := A.below b1
  have f0 := A.fz 0; have f1' := A.fz 1; have f2' := A.fz 2; have x0 := A.c0; have x1 := A.c1; have x2 := A.c2; have lA := A.lt
  clear b1 k0 k1 k2 m0 m1 m2
  obtain ⟨_, k0, k1, k2⟩ := S.kb; obtain ⟨_, m0, m1, m2⟩ := S.kc
  generalize hln : (mixL ss tt true ss.length).length = n at *
  have HLN := Lib.hid hln; clear hln
  go_wp2
  refine bodyPost_ret (v := .tuple #[.agg #[.int .i64 d1, .int .i64 f1, .slice a' n c'], .bool true]) (by simp [results, Try.results32, go_sem, lA, x0, x1, x2, f0, f1', f2']) rfl ⟨⟨a', c', by rw [HLN.out], ?_⟩, ?_⟩
  · rw [HLN.out]
    exact World.ownsRow.mono (World.ownsRow.alloc (ownsRow_setCell_below (ownsRow_setCell_below (ownsRow_setCell_below o1 (by simp; try omega) _) (by simp; try omega) _) (by simp; try omega) _) _) (by simp; try omega)
  · exact Below.alloc (((S.W.setCell (by show w.heap.size ≤ w.heap.size + 2; omega) _).setCell (by show w.heap.size ≤ w.heap.size + 2; omega) _).setCell (by show w.heap.size ≤ w.heap.size + 2; omega) _) (by simp; exact S.W.size) _

set_option maxRecDepth 20000 in
set_option maxHeartbeats 1600000 in
theorem specUpper_no (w : World) (d1 f1 d2 f2 : Int) (a1 a2 : Option Addr) (c1 c2 : Nat) (ss tt : List ByteArray) (r1 : RdS w a1 ss) (r2 : RdS w a2 tt) (z1 : SzS ss) (z2 : SzS tt) (hs : sameC d1 f1 d2 f2 ss tt = false) :
    Calls Try.prog 32 #[.agg #[.int .i64 d1, .int .i64 f1, .slice a1 ss.length c1], .agg #[.int .i64 d2, .int .i64 f2, .slice a2 tt.length c2]] w fun e w' => CardR w.heap.size 0 0 [] false e w' ∧ Below w.heap.size w w' := by
  have S0 : Two w d1 f1 d2 f2 a1 a2 c1 c2 ss tt ((w.alloc (.cells #[.int .i64 d1, .int .i64 f1, .slice a1 ss.length c1] 34)).alloc (.cells #[.int .i64 d2, .int .i64 f2, .slice a2 tt.length c2] 34)) := Two.start w d1 f1 d2 f2 a1 a2 c1 c2 ss tt 34 34 r1 r2
  have S := S0.below (bel_new _ (.cells #[.int .i64 0, .int .i64 0, .slice none 0 0] 34))
  have A : Blk (((w.alloc (.cells #[.int .i64 d1, .int .i64 f1, .slice a1 ss.length c1] 34)).alloc (.cells #[.int .i64 d2, .int .i64 f2, .slice a2 tt.length c2] 34)).alloc (.cells #[.int .i64 0, .int .i64 0, .slice none 0 0] 34)) (w.heap.size + 2) (.int .i64 0) (.int .i64 0) (.slice none 0 0) := Blk.new' (by simp) _ _ _
  clear S0
  have HSM := Lib.hid hs; clear hs
  obtain ⟨_, k0, k1, k2⟩ := S.kb; obtain ⟨_, m0, m1, m2⟩ := S.kc
  go_enter Try.func32, Try.ntmps32
  go_wp2_with fail
  refine (l08CardU_no _ d1 f1 d2 f2 a1 a2 c1 c2 ss tt S.rb S.rc z1 z2 HSM.out).mono ?_
  rintro e u1 ⟨⟨a', c', rfl, o1⟩, b1⟩
  have S := S.below b1
  have A := A.below b1
  have f0 := A.fz 0; have f1' := A.fz 1; have f2' := A.fz 2; have x0 := A.c0; have x1 := A.c1; have x2 := A.c2; have lA := A.lt
  clear b1 k0 k1 k2 m0 m1 m2
  obtain ⟨_, k0, k1, k2⟩ := S.kb; obtain ⟨_, m0, m1, m2⟩ := S.kc
  generalize hln : ([] : List ByteArray).length = n at *
  have HLN := Lib.hid hln; clear hln
  go_wp2
  refine bodyPost_ret (v := .tuple #[.agg #[.int .i64 0, .int .i64 0, .slice a' n c'], .bool false]) (by simp [results, Try.results32, go_sem, lA, x0, x1, x2, f0, f1', f2']) rfl ⟨⟨a', c', by rw [HLN.out], ?_⟩, ?_⟩
  · rw [HLN.out]
    exact World.ownsRow.mono (World.ownsRow.alloc (ownsRow_setCell_below (ownsRow_setCell_below (ownsRow_setCell_below o1 (by simp; try omega) _) (by simp; try omega) _) (by simp; try omega) _) _) (by simp; try omega)
  · exact Below.alloc (((S.W.setCell (by show w.heap.size ≤ w.heap.size + 2; omega) _).setCell (by show w.heap.size ≤ w.heap.size + 2; omega) _).setCell (by show w.heap.size ≤ w.heap.size + 2; omega) _) (by simp; exact S.W.size) _

theorem joinedL_no (w : World) (d1 f1 d2 f2 : Int) (a1 a2 : Option Addr) (c1 c2 : Nat) (ss tt : List ByteArray) (r1 : RdS w a1 ss) (r2 : RdS w a2 tt) (z1 : SzS ss) (z2 : SzS tt) (hs : sameC d1 f1 d2 f2 ss tt = false) :
    Calls Try.prog 67 #[.agg #[.int .i64 d1, .int .i64 f1, .slice a1 ss.length c1], .agg #[.int .i64 d2, .int .i64 f2, .slice a2 tt.length c2], .func (Fn.func 68) #[] #[]] w fun e w' => CardR w.heap.size 0 0 [] false e w' ∧ Below w.heap.size w w' := by
  cases h1 : okC d1 f1 ss with
  | false => exact joinedL_1 w d1 f1 d2 f2 a1 a2 c1 c2 ss tt r1 r2 z1 z2 h1
  | true =>
  cases h2 : okC d2 f2 tt with
  | false => exact joinedL_2 w d1 f1 d2 f2 a1 a2 c1 c2 ss tt r1 r2 z1 z2 h1 h2
  | true =>
  by_cases h3 : d1 = d2
  · by_cases h4 : f1 = f2
    · by_cases h5 : ss.length = tt.length
      · exfalso; unfold sameC at hs; rw [h1, h2, decide_eq_true h3, decide_eq_true h4, decide_eq_true h5] at hs; exact Bool.noConfusion hs
      · exact joinedL_5 w d1 f1 d2 f2 a1 a2 c1 c2 ss tt r1 r2 z1 z2 h1 h2 h3 h4 h5
    · exact joinedL_4 w d1 f1 d2 f2 a1 a2 c1 c2 ss tt r1 r2 z1 z2 h1 h2 h3 h4
  · exact joinedL_3 w d1 f1 d2 f2 a1 a2 c1 c2 ss tt r1 r2 z1 z2 h1 h2 h3
theorem joinedL_yes (w : World) (d1 f1 d2 f2 : Int) (a1 a2 : Option Addr) (c1 c2 : Nat) (ss tt : List ByteArray) (r1 : RdS w a1 ss) (r2 : RdS w a2 tt) (z1 : SzS ss) (z2 : SzS tt) (hs : sameC d1 f1 d2 f2 ss tt = true) :
    Calls Try.prog 67 #[.agg #[.int .i64 d1, .int .i64 f1, .slice a1 ss.length c1], .agg #[.int .i64 d2, .int .i64 f2, .slice a2 tt.length c2], .func (Fn.func 68) #[] #[]] w fun e w' => CardR w.heap.size d1 f1 (mixL ss tt false ss.length) true e w' ∧ Below w.heap.size w w' := by
  obtain ⟨h1, h2, h3, h4, h5⟩ := sameC_mk hs
  exact joinedL_6 w d1 f1 d2 f2 a1 a2 c1 c2 ss tt r1 r2 z1 z2 h1 h2 h3 h4 h5

set_option maxRecDepth 20000 in
set_option maxHeartbeats 1600000 in
theorem implLower_yes (w : World) (d1 f1 d2 f2 : Int) (a1 a2 : Option Addr) (c1 c2 : Nat) (ss tt : List ByteArray) (r1 : RdS w a1 ss) (r2 : RdS w a2 tt) (z1 : SzS ss) (z2 : SzS tt) (hs : sameC d1 f1 d2 f2 ss tt = true) :
    Calls Try.prog 29 #[.agg #[.int .i64 d1, .int .i64 f1, .slice a1 ss.length c1], .agg #[.int .i64 d2, .int .i64 f2, .slice a2 tt.length c2]] w fun e w' => CardR w.heap.size d1 f1 (mixL ss tt false ss.length) true e w' ∧ Below w.heap.size w w' := by
  have S0 : Two w d1 f1 d2 f2 a1 a2 c1 c2 ss tt ((w.alloc (.cells #[.int .i64 d1, .int .i64 f1, .slice a1 ss.length c1] 34)).alloc (.cells #[.int .i64 d2, .int .i64 f2, .slice a2 tt.length c2] 34)) := Two.start w d1 f1 d2 f2 a1 a2 c1 c2 ss tt 34 34 r1 r2
  have S := S0.below (bel_new _ (.cells #[.int .i64 0, .int .i64 0, .slice none 0 0] 34))
  have A : Blk (((w.alloc (.cells #[.int .i64 d1, .int .i64 f1, .slice a1 ss.length c1] 34)).alloc (.cells #[.int .i64 d2, .int .i64 f2, .slice a2 tt.length c2] 34)).alloc (.cells #[.int .i64 0, .int .i64 0, .slice none 0 0] 34)) (w.heap.size + 2) (.int .i64 0) (.int .i64 0) (.slice none 0 0) := Blk.new' (by simp) _ _ _
  clear S0
  have HSM := Lib.hid hs; clear hs
  obtain ⟨_, k0, k1, k2⟩ := S.kb; obtain ⟨_, m0, m1, m2⟩ := S.kc
  go_enter Try.func29, Try.ntmps29
  go_wp2_with fail
  refine (joinedL_yes _ d1 f1 d2 f2 a1 a2 c1 c2 ss tt S.rb S.rc z1 z2 HSM.out).mono ?_
  rintro e u1 ⟨⟨a', c', rfl, o1⟩, b1⟩
  have S := S.below b1
  have A := A.below b1
  have f0 := A.fz 0; have f1' := A.fz 1; have f2' := A.fz 2; have x0 := A.c0; have x1 := A.c1; have x2 := A.c2; have lA := A.lt
  clear b1 k0 k1 k2 m0 m1 m2
  obtain ⟨_, k0, k1, k2⟩ := S.kb; obtain ⟨_, m0, m1, m2⟩ := S.kc
  generalize hln : (mixL ss tt false ss.length).length = n at *
  have HLN := Lib.hid hln; clear hln
  go_wp2
  refine bodyPost_ret (v := .tuple #[.agg #[.int .i64 d1, .int .i64 f1, .slice a' n c'], .bool true]) (by simp [results, Try.results29, go_sem, lA, x0, x1, x2, f0, f1', f2']) rfl ⟨⟨a', c', by rw [HLN.out], ?_⟩, ?_⟩
  · rw [HLN.out]
    exact World.ownsRow.mono (ownsRow_setCell_below (ownsRow_setCell_below (ownsRow_setCell_below o1 (by simp; try omega) _) (by simp; try omega) _) (by simp; try omega) _) (by simp; try omega)
  · exact ((S.W.setCell (by show w.heap.size ≤ w.heap.size + 2; omega) _).setCell (by show w.heap.size ≤ w.heap.size + 2; omega) _).setCell (by show w.heap.size ≤ w.heap.size + 2; omega) _

set_option maxRecDepth 20000 in
set_option maxHeartbeats 1600000 in
theorem implLower_no (w : World) (d1 f1 d2 f2 : Int) (a1 a2 : Option Addr) (c1 c2 : Nat) (ss tt : List ByteArray) (r1 : RdS w a1 ss) (r2 : RdS w a2 tt) (z1 : SzS ss) (z2 : SzS tt) (hs : sameC d1 f1 d2 f2 ss tt = false) :
    Calls Try.prog 29 #[.agg #[.int .i64 d1, .int .i64 f1, .slice a1 ss.length c1], .agg #[.int .i64 d2, .int .i64 f2, .slice a2 tt.length c2]] w fun e w' => CardR w.heap.size 0 0 [] false e w' ∧ Below w.heap.size w w' := by
  have S0 : Two w d1 f1 d2 f2 a1 a2 c1 c2 ss tt ((w.alloc (.cells #[.int .i64 d1, .int .i64 f1, .slice a1 ss.length c1] 34)).alloc (.cells #[.int .i64 d2, .int .i64 f2, .slice a2 tt.length c2] 34)) := Two.start w d1 f1 d2 f2 a1 a2 c1 c2 ss tt 34 34 r1 r2
  have S := S0.below (bel_new _ (.cells #[.int .i64 0, .int .i64 0, .slice none 0 0] 34))
  have A : Blk (((w.alloc (.cells #[.int .i64 d1, .int .i64 f1, .slice a1 ss.length c1] 34)).alloc (.cells #[.int .i64 d2, .int .i64 f2, .slice a2 tt.length c2] 34)).alloc (.cells #[.int .i64 0, .int .i64 0, .slice none 0 0] 34)) (w.heap.size + 2) (.int .i64 0) (.int .i64 0) (.slice none 0 0) := Blk.new' (by simp) _ _ _
  clear S0
  have HSM := Lib.hid hs; clear hs
  obtain ⟨_, k0, k1, k2⟩ := S.kb; obtain ⟨_, m0, m1, m2⟩ := S.kc
  go_enter Try.func29, Try.ntmps29
  go_wp2_with fail
  refine (joinedL_no _ d1 f1 d2 f2 a1 a2 c1 c2 ss tt S.rb S.rc z1 z2 HSM.out).mono ?_
  rintro e u1 ⟨⟨a', c', rfl, o1⟩, b1⟩
  have S := S.below b1
  have A := A.below b1
  have f0 := A.fz 0; have f1' := A.fz 1; have f2' := A.fz 2; have x0 := A.c0; have x1 := A.c1; have x2 := A.c2; have lA := A.lt
  clear b1 k0 k1 k2 m0 m1 m2
  obtain ⟨_, k0, k1, k2⟩ := S.kb; obtain ⟨_, m0, m1, m2⟩ := S.kc
  generalize hln : ([] : List ByteArray).length = n at *
  have HLN := Lib.hid hln; clear hln
  go_wp2
  refine bodyPost_ret (v := .tuple #[.agg #[.int .i64 0, .int .i64 0, .slice a' n c'], .bool false]) (by simp [results, Try.results29, go_sem, lA, x0, x1, x2, f0, f1', f2']) rfl ⟨⟨a', c', by rw [HLN.out], ?_⟩, ?_⟩
  · rw [HLN.out]
    exact World.ownsRow.mono (ownsRow_setCell_below (ownsRow_setCell_below (ownsRow_setCell_below o1 (by simp; try omega) _) (by simp; try omega) _) (by simp; try omega) _) (by simp; try omega)
  · exact ((S.W.setCell (by show w.heap.size ≤ w.heap.size + 2; omega) _).setCell (by show w.heap.size ≤ w.heap.size + 2; omega) _).setCell (by show w.heap.size ≤ w.heap.size + 2; omega) _

set_option maxRecDepth 20000 in
set_option maxHeartbeats 1600000 in
theorem specLower_yes (w : World) (d1 f1 d2 f2 : Int) (a1 a2 : Option Addr) (c1 c2 : Nat) (ss tt : List ByteArray) (r1 : RdS w a1 ss) (r2 : RdS w a2 tt) (z1 : SzS ss) (z2 : SzS tt) (hs : sameC d1 f1 d2 f2 ss tt = true) :
    Calls Try.prog 28 #[.agg #[.int .i64 d1, .int .i64 f1, .slice a1 ss.length c1], .agg #[.int .i64 d2, .int .i64 f2, .slice a2 tt.length c2]] w fun e w' => CardR w.heap.size d1 f1 (mixL ss tt false ss.length) true e w' ∧ Below w.heap.size w w' := by
  have S0 : Two w d1 f1 d2 f2 a1 a2 c1 c2 ss tt ((w.alloc (.cells #[.int .i64 d1, .int .i64 f1, .slice a1 ss.length c1] 34)).alloc (.cells #[.int .i64 d2, .int .i64 f2, .slice a2 tt.length c2] 34)) := Two.start w d1 f1 d2 f2 a1 a2 c1 c2 ss tt 34 34 r1 r2
  have S := S0.below (bel_new _ (.cells #[.int .i64 0, .int .i64 0, .slice none 0 0] 34))
  have A : Blk (((w.alloc (.cells #[.int .i64 d1, .int .i64 f1, .slice a1 ss.length c1] 34)).alloc (.cells #[.int .i64 d2, .int .i64 f2, .slice a2 tt.length c2] 34)).alloc (.cells #[.int .i64 0, .int .i64 0, .slice none 0 0] 34)) (w.heap.size + 2) (.int .i64 0) (.int .i64 0) (.slice none 0 0) := Blk.new' (by simp) _ _ _
  clear S0
  have HSM := Lib.hid hs; clear hs
  obtain ⟨_, k0, k1, k2⟩ := S.kb; obtain ⟨_, m0, m1, m2⟩ := S.kc
  go_enter Try.func28, Try.ntmps28
  go_wp2_with fail
  refine (l08CardL_yes _ d1 f1 d2 f2 a1 a2 c1 c2 ss tt S.rb S.rc z1 z2 HSM.out).mono ?_
  rintro e u1 ⟨⟨a', c', rfl, o1⟩, b1⟩
  have S := S.below b1
  have A := A.below b1
  have f0 := A.fz 0; have f1' := A.fz 1; have f2' := A.fz 2; have x0 := A.c0; have x1 := A.c1; have x2 := A.c2; have lA := A.lt
  clear b1 k0 k1 k2 m0 m1 m2
  obtain ⟨_, k0, k1, k2⟩ := S.kb; obtain ⟨_, m0, m1, m2⟩ := S.kc
  generalize hln : (mixL ss tt false ss.length).length = n at *
  have HLN := Lib.hid hln; clear hln
  go_wp2
  refine bodyPost_ret (v := .tuple #[.agg #[.int .i64 d1, .int .i64 f1, .slice a' n c'], .bool true]) (by simp [results, Try.results28, go_sem, lA, x0, x1, x2, f0, f1', f2']) rfl ⟨⟨a', c', by rw [HLN.out], ?_⟩, ?_⟩
  · rw [HLN.out]
    exact World.ownsRow.mono (World.ownsRow.alloc (ownsRow_setCell_below (ownsRow_setCell_below (ownsRow_setCell_below o1 (by simp; try omega) _) (by simp; try omega) _) (by simp; try omega) _) _) (by simp; try omega)
  · exact Below.alloc (((S.W.setCell (by show w.heap.size ≤ w.heap.size + 2; omega) _).setCell (by show w.heap.size ≤ w.heap.size + 2; omega) _).setCell (by show w.heap.size ≤ w.heap.size + 2; omega) _) (by simp; exact S.W.size) _

set_option maxRecDepth 20000 in
set_option maxHeartbeats 1600000 in
theorem specLower_no (w : World) (d1 f1 d2 f2 : Int) (a1 a2 : Option Addr) (c1 c2 : Nat) (ss tt : List ByteArray) (r1 : RdS w a1 ss) (r2 : RdS w a2 tt) (z1 : SzS ss) (z2 : SzS tt) (hs : sameC d1 f1 d2 f2 ss tt = false) :
    Calls Try.prog 28 #[.agg #[.int .i64 d1, .int .i64 f1, .slice a1 ss.length c1], .agg #[.int .i64 d2, .int .i64 f2, .slice a2 tt.length c2]] w fun e w' => CardR w.heap.size 0 0 [] false e w' ∧ Below w.heap.size w w' := by
  have S0 : Two w d1 f1 d2 f2 a1 a2 c1 c2 ss tt ((w.alloc (.cells #[.int .i64 d1, .int .i64 f1, .slice a1 ss.length c1] 34)).alloc (.cells #[.int .i64 d2, .int .i64 f2, .slice a2 tt.length c2] 34)) := Two.start w d1 f1 d2 f2 a1 a2 c1 c2 ss tt 34 34 r1 r2
  have S := S0.below (bel_new _ (.cells #[.int .i64 0, .int .i64 0, .slice none 0 0] 34))
  have A : Blk (((w.alloc (.cells #[.int .i64 d1, .int .i64 f1, .slice a1 ss.length c1] 34)).alloc (.cells #[.int .i64 d2, .int .i64 f2, .slice a2 tt.length c2] 34)).alloc (.cells #[.int .i64 0, .int .i64 0, .slice none 0 0] 34)) (w.heap.size + 2) (.int .i64 0) (.int .i64 0) (.slice none 0 0) := Blk.new' (by simp) _ _ _
  clear S0
  have HSM := Lib.hid hs; clear hs
  obtain ⟨_, k0, k1, k2⟩ := S.kb; obtain ⟨_, m0, m1, m2⟩ := S.kc
  go_enter Try.func28, Try.ntmps28
  go_wp2_with fail
  refine (l08CardL_no _ d1 f1 d2 f2 a1 a2 c1 c2 ss tt S.rb S.rc z1 z2 HSM.out).mono ?_
  rintro e u1 ⟨⟨a', c', rfl, o1⟩, b1⟩
  have S := S.below b1
  have A := A.below b1
  have f0 := A.fz 0; have f1' := A.fz 1; have f2' := A.fz 2; have x0 := A.c0; have x1 := A.c1; have x2 := A.c2; have lA := A.lt
  clear b1 k0 k1 k2 m0 m1 m2
  obtain ⟨_, k0, k1, k2⟩ := S.kb; obtain ⟨_, m0, m1, m2⟩ := S.kc
  generalize hln : ([] : List ByteArray).length = n at *
  have HLN := Lib.hid hln; clear hln
  go_wp2
  refine bodyPost_ret (v := .tuple #[.agg #[.int .i64 0, .int .i64 0, .slice a' n c'], .bool false]) (by simp [results, Try.results28, go_sem, lA, x0, x1, x2, f0, f1', f2']) rfl ⟨⟨a', c', by rw [HLN.out], ?_⟩, ?_⟩
  · rw [HLN.out]
    exact World.ownsRow.mono (World.ownsRow.alloc (ownsRow_setCell_below (ownsRow_setCell_below (ownsRow_setCell_below o1 (by simp; try omega) _) (by simp; try omega) _) (by simp; try omega) _) _) (by simp; try omega)
  · exact Below.alloc (((S.W.setCell (by show w.heap.size ≤ w.heap.size + 2; omega) _).setCell (by show w.heap.size ≤ w.heap.size + 2; omega) _).setCell (by show w.heap.size ≤ w.heap.size + 2; omega) _) (by simp; exact S.W.size) _

end Go.Proofs.Ytolnhmmgmkehfaa
