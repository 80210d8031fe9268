/- Contracts of joined where the cards fit, the reference's l08Same. -/
import Derived.Test.YtolnhmmgmkehfaaJoin
import Derived.Deep.RegionLaw
namespace Go.Proofs.Ytolnhmmgmkehfaa
open Go.RowKit
set_option linter.unusedVariables false
set_option linter.unusedSimpArgs false

def sameC (d1 f1 d2 f2 : Int) (ss tt : List ByteArray) : Bool := okC d1 f1 ss && okC d2 f2 tt && decide (d1 = d2) && decide (f1 = f2) && decide (ss.length = tt.length)
set_option maxRecDepth 20000 in
set_option maxHeartbeats 1000000 in
theorem l08Same_1 (w : World) (d1 f1 d2 f2 : Int) (a1 a2 : Option Addr) (c1 c2 : Nat) (ss tt : List ByteArray) (r1 : RdS w a1 ss) (r2 : RdS w a2 tt) (z1 : SzS ss) (z2 : SzS tt) (h1 : okC d1 f1 ss = false) :
    Calls Try.prog 93 #[.agg #[.int .i64 d1, .int .i64 f1, .slice a1 ss.length c1], .agg #[.int .i64 d2, .int .i64 f2, .slice a2 tt.length c2]] w fun e w' => e = .returned (.bool false) ∧ Below w.heap.size w w' := by
  have S : Two w d1 f1 d2 f2 a1 a2 c1 c2 ss tt ((w.alloc (.cells #[.int .i64 d1, .int .i64 f1, .slice a1 ss.length c1] 34)).alloc (.cells #[.int .i64 d2, .int .i64 f2, .slice a2 tt.length c2] 34)) := Two.start w d1 f1 d2 f2 a1 a2 c1 c2 ss tt 34 34 r1 r2
  have H1 := Lib.hid h1; clear h1
  go_enter Try.func93, Try.ntmps93
  go_wp2_with fail
  have CK := specCardOk_any _ d1 f1 _ c1 ss S.rb z1
  rw [H1.out] at CK
  refine CK.mono ?_
  rintro e u1 ⟨rfl, b1⟩
  have S := S.below b1
  clear CK b1
  obtain ⟨_, k0, k1, k2⟩ := S.kb; obtain ⟨_, m0, m1, m2⟩ := S.kc
  go_wp2
  go_ret
  exact ⟨rfl, S.W⟩

set_option maxRecDepth 20000 in
set_option maxHeartbeats 1000000 in
theorem l08Same_2 (w : World) (d1 f1 d2 f2 : Int) (a1 a2 : Option Addr) (c1 c2 : Nat) (ss tt : List ByteArray) (r1 : RdS w a1 ss) (r2 : RdS w a2 tt) (z1 : SzS ss) (z2 : SzS tt) (h1 : okC d1 f1 ss = true) (h2 : okC d2 f2 tt = false) :
    Calls Try.prog 93 #[.agg #[.int .i64 d1, .int .i64 f1, .slice a1 ss.length c1], .agg #[.int .i64 d2, .int .i64 f2, .slice a2 tt.length c2]] w fun e w' => e = .returned (.bool false) ∧ Below w.heap.size w w' := by
  have S : Two w d1 f1 d2 f2 a1 a2 c1 c2 ss tt ((w.alloc (.cells #[.int .i64 d1, .int .i64 f1, .slice a1 ss.length c1] 34)).alloc (.cells #[.int .i64 d2, .int .i64 f2, .slice a2 tt.length c2] 34)) := Two.start w d1 f1 d2 f2 a1 a2 c1 c2 ss tt 34 34 r1 r2
  have H1 := Lib.hid h1; clear h1
  have H2 := Lib.hid h2; clear h2
  go_enter Try.func93, Try.ntmps93
  go_wp2_with fail
  have CK := specCardOk_any _ d1 f1 _ c1 ss S.rb z1
  rw [H1.out] at CK
  refine CK.mono ?_
  rintro e u1 ⟨rfl, b1⟩
  have S := S.below b1
  clear CK b1
  obtain ⟨_, k0, k1, k2⟩ := S.kb; obtain ⟨_, m0, m1, m2⟩ := S.kc
  go_wp2_with fail
  have CK := specCardOk_any _ d2 f2 _ c2 tt S.rc z2
  rw [H2.out] at CK
  refine CK.mono ?_
  rintro e u2 ⟨rfl, b1⟩
  have S := S.below b1
  clear CK b1 k0 k1 k2 m0 m1 m2
  obtain ⟨_, k0, k1, k2⟩ := S.kb; obtain ⟨_, m0, m1, m2⟩ := S.kc
  go_wp2
  go_ret
  exact ⟨rfl, S.W⟩

set_option maxRecDepth 20000 in
set_option maxHeartbeats 1000000 in
theorem l08Same_3 (w : World) (d1 f1 d2 f2 : Int) (a1 a2 : Option Addr) (c1 c2 : Nat) (ss tt : List ByteArray) (r1 : RdS w a1 ss) (r2 : RdS w a2 tt) (z1 : SzS ss) (z2 : SzS tt) (h1 : okC d1 f1 ss = true) (h2 : okC d2 f2 tt = true) (h3 : ¬ d1 = d2) :
    Calls Try.prog 93 #[.agg #[.int .i64 d1, .int .i64 f1, .slice a1 ss.length c1], .agg #[.int .i64 d2, .int .i64 f2, .slice a2 tt.length c2]] w fun e w' => e = .returned (.bool false) ∧ Below w.heap.size w w' := by
  have S : Two w d1 f1 d2 f2 a1 a2 c1 c2 ss tt ((w.alloc (.cells #[.int .i64 d1, .int .i64 f1, .slice a1 ss.length c1] 34)).alloc (.cells #[.int .i64 d2, .int .i64 f2, .slice a2 tt.length c2] 34)) := Two.start w d1 f1 d2 f2 a1 a2 c1 c2 ss tt 34 34 r1 r2
  have H1 := Lib.hid h1; clear h1
  have H2 := Lib.hid h2; clear h2
  have t3 : (d1 == d2) = false := beq_eq_false_iff_ne.2 h3
  clear h3
  go_enter Try.func93, Try.ntmps93
  go_wp2_with fail
  have CK := specCardOk_any _ d1 f1 _ c1 ss S.rb z1
  rw [H1.out] at CK
  refine CK.mono ?_
  rintro e u1 ⟨rfl, b1⟩
  have S := S.below b1
  clear CK b1
  obtain ⟨_, k0, k1, k2⟩ := S.kb; obtain ⟨_, m0, m1, m2⟩ := S.kc
  go_wp2_with fail
  have CK := specCardOk_any _ d2 f2 _ c2 tt S.rc z2
  rw [H2.out] at CK
  refine CK.mono ?_
  rintro e u2 ⟨rfl, b1⟩
  have S := S.below b1
  clear CK b1 k0 k1 k2 m0 m1 m2
  obtain ⟨_, k0, k1, k2⟩ := S.kb; obtain ⟨_, m0, m1, m2⟩ := S.kc
  go_wp2
  go_ret
  exact ⟨rfl, S.W⟩

set_option maxRecDepth 20000 in
set_option maxHeartbeats 1000000 in
theorem l08Same_4 (w : World) (d1 f1 d2 f2 : Int) (a1 a2 : Option Addr) (c1 c2 : Nat) (ss tt : List ByteArray) (r1 : RdS w a1 ss) (r2 : RdS w a2 tt) (z1 : SzS ss) (z2 : SzS tt) (h1 : okC d1 f1 ss = true) (h2 : okC d2 f2 tt = true) (h3 : d1 = d2) (h4 : ¬ f1 = f2) :
    Calls Try.prog 93 #[.agg #[.int .i64 d1, .int .i64 f1, .slice a1 ss.length c1], .agg #[.int .i64 d2, .int .i64 f2, .slice a2 tt.length c2]] w fun e w' => e = .returned (.bool false) ∧ Below w.heap.size w w' := by
  have S : Two w d1 f1 d2 f2 a1 a2 c1 c2 ss tt ((w.alloc (.cells #[.int .i64 d1, .int .i64 f1, .slice a1 ss.length c1] 34)).alloc (.cells #[.int .i64 d2, .int .i64 f2, .slice a2 tt.length c2] 34)) := Two.start w d1 f1 d2 f2 a1 a2 c1 c2 ss tt 34 34 r1 r2
  have H1 := Lib.hid h1; clear h1
  have H2 := Lib.hid h2; clear h2
  have t3 : (d1 == d2) = true := beq_iff_eq.2 h3
  clear h3
  have t4 : (f1 == f2) = false := beq_eq_false_iff_ne.2 h4
  clear h4
  go_enter Try.func93, Try.ntmps93
  go_wp2_with fail
  have CK := specCardOk_any _ d1 f1 _ c1 ss S.rb z1
  rw [H1.out] at CK
  refine CK.mono ?_
  rintro e u1 ⟨rfl, b1⟩
  have S := S.below b1
  clear CK b1
  obtain ⟨_, k0, k1, k2⟩ := S.kb; obtain ⟨_, m0, m1, m2⟩ := S.kc
  go_wp2_with fail
  have CK := specCardOk_any _ d2 f2 _ c2 tt S.rc z2
  rw [H2.out] at CK
  refine CK.mono ?_
  rintro e u2 ⟨rfl, b1⟩
  have S := S.below b1
  clear CK b1 k0 k1 k2 m0 m1 m2
  obtain ⟨_, k0, k1, k2⟩ := S.kb; obtain ⟨_, m0, m1, m2⟩ := S.kc
  go_wp2
  go_ret
  exact ⟨rfl, S.W⟩

set_option maxRecDepth 20000 in
set_option maxHeartbeats 1000000 in
theorem l08Same_5 (w : World) (d1 f1 d2 f2 : Int) (a1 a2 : Option Addr) (c1 c2 : Nat) (ss tt : List ByteArray) (r1 : RdS w a1 ss) (r2 : RdS w a2 tt) (z1 : SzS ss) (z2 : SzS tt) (h1 : okC d1 f1 ss = true) (h2 : okC d2 f2 tt = true) (h3 : d1 = d2) (h4 : f1 = f2) (h5 : ¬ ss.length = tt.length) :
    Calls Try.prog 93 #[.agg #[.int .i64 d1, .int .i64 f1, .slice a1 ss.length c1], .agg #[.int .i64 d2, .int .i64 f2, .slice a2 tt.length c2]] w fun e w' => e = .returned (.bool false) ∧ Below w.heap.size w w' := by
  have S : Two w d1 f1 d2 f2 a1 a2 c1 c2 ss tt ((w.alloc (.cells #[.int .i64 d1, .int .i64 f1, .slice a1 ss.length c1] 34)).alloc (.cells #[.int .i64 d2, .int .i64 f2, .slice a2 tt.length c2] 34)) := Two.start w d1 f1 d2 f2 a1 a2 c1 c2 ss tt 34 34 r1 r2
  have H1 := Lib.hid h1; clear h1
  have H2 := Lib.hid h2; clear h2
  have t3 : (d1 == d2) = true := beq_iff_eq.2 h3
  clear h3
  have t4 : (f1 == f2) = true := beq_iff_eq.2 h4
  clear h4
  have t5 : ((ss.length : Int) == (tt.length : Int)) = false := beq_eq_false_iff_ne.2 (by omega)
  clear h5
  go_enter Try.func93, Try.ntmps93
  go_wp2_with fail
  have CK := specCardOk_any _ d1 f1 _ c1 ss S.rb z1
  rw [H1.out] at CK
  refine CK.mono ?_
  rintro e u1 ⟨rfl, b1⟩
  have S := S.below b1
  clear CK b1
  obtain ⟨_, k0, k1, k2⟩ := S.kb; obtain ⟨_, m0, m1, m2⟩ := S.kc
  go_wp2_with fail
  have CK := specCardOk_any _ d2 f2 _ c2 tt S.rc z2
  rw [H2.out] at CK
  refine CK.mono ?_
  rintro e u2 ⟨rfl, b1⟩
  have S := S.below b1
  clear CK b1 k0 k1 k2 m0 m1 m2
  obtain ⟨_, k0, k1, k2⟩ := S.kb; obtain ⟨_, m0, m1, m2⟩ := S.kc
  go_wp2
  go_ret
  exact ⟨rfl, S.W⟩

set_option maxRecDepth 20000 in
set_option maxHeartbeats 1000000 in
theorem l08Same_6 (w : World) (d1 f1 d2 f2 : Int) (a1 a2 : Option Addr) (c1 c2 : Nat) (ss tt : List ByteArray) (r1 : RdS w a1 ss) (r2 : RdS w a2 tt) (z1 : SzS ss) (z2 : SzS tt) (h1 : okC d1 f1 ss = true) (h2 : okC d2 f2 tt = true) (h3 : d1 = d2) (h4 : f1 = f2) (h5 : ss.length = tt.length) :
    Calls Try.prog 93 #[.agg #[.int .i64 d1, .int .i64 f1, .slice a1 ss.length c1], .agg #[.int .i64 d2, .int .i64 f2, .slice a2 tt.length c2]] w fun e w' => e = .returned (.bool true) ∧ Below w.heap.size w w' := by
  have S : Two w d1 f1 d2 f2 a1 a2 c1 c2 ss tt ((w.alloc (.cells #[.int .i64 d1, .int .i64 f1, .slice a1 ss.length c1] 34)).alloc (.cells #[.int .i64 d2, .int .i64 f2, .slice a2 tt.length c2] 34)) := Two.start w d1 f1 d2 f2 a1 a2 c1 c2 ss tt 34 34 r1 r2
  have H1 := Lib.hid h1; clear h1
  have H2 := Lib.hid h2; clear h2
  have t3 : (d1 == d2) = true := beq_iff_eq.2 h3
  clear h3
  have t4 : (f1 == f2) = true := beq_iff_eq.2 h4
  clear h4
  have t5 : ((ss.length : Int) == (tt.length : Int)) = true := beq_iff_eq.2 (by omega)
  clear h5
  go_enter Try.func93, Try.ntmps93
  go_wp2_with fail
  have CK := specCardOk_any _ d1 f1 _ c1 ss S.rb z1
  rw [H1.out] at CK
  refine CK.mono ?_
  rintro e u1 ⟨rfl, b1⟩
  have S := S.below b1
  clear CK b1
  obtain ⟨_, k0, k1, k2⟩ := S.kb; obtain ⟨_, m0, m1, m2⟩ := S.kc
  go_wp2_with fail
  have CK := specCardOk_any _ d2 f2 _ c2 tt S.rc z2
  rw [H2.out] at CK
  refine CK.mono ?_
  rintro e u2 ⟨rfl, b1⟩
  have S := S.below b1
  clear CK b1 k0 k1 k2 m0 m1 m2
  obtain ⟨_, k0, k1, k2⟩ := S.kb; obtain ⟨_, m0, m1, m2⟩ := S.kc
  go_wp2
  go_ret
  exact ⟨rfl, S.W⟩

theorem l08Same_any (w : World) (d1 f1 d2 f2 : Int) (a1 a2 : Option Addr) (c1 c2 : Nat) (ss tt : List ByteArray) (r1 : RdS w a1 ss) (r2 : RdS w a2 tt) (z1 : SzS ss) (z2 : SzS tt) :
    Calls Try.prog 93 #[.agg #[.int .i64 d1, .int .i64 f1, .slice a1 ss.length c1], .agg #[.int .i64 d2, .int .i64 f2, .slice a2 tt.length c2]] w fun e w' => e = .returned (.bool (sameC d1 f1 d2 f2 ss tt)) ∧ Below w.heap.size w w' := by
  have R : ∀ b, sameC d1 f1 d2 f2 ss tt = b → (Calls Try.prog 93 #[.agg #[.int .i64 d1, .int .i64 f1, .slice a1 ss.length c1], .agg #[.int .i64 d2, .int .i64 f2, .slice a2 tt.length c2]] w fun e w' => e = .returned (.bool b) ∧ Below w.heap.size w w') → Calls Try.prog 93 #[.agg #[.int .i64 d1, .int .i64 f1, .slice a1 ss.length c1], .agg #[.int .i64 d2, .int .i64 f2, .slice a2 tt.length c2]] w fun e w' => e = .returned (.bool (sameC d1 f1 d2 f2 ss tt)) ∧ Below w.heap.size w w' := fun b e h => by rw [e]; exact h
  cases h1 : okC d1 f1 ss with
  | false => exact R false (by unfold sameC; rw [h1]; rfl) (l08Same_1 w d1 f1 d2 f2 a1 a2 c1 c2 ss tt r1 r2 z1 z2 h1)
  | true =>
  cases h2 : okC d2 f2 tt with
  | false => exact R false (by unfold sameC; rw [h1, h2]; rfl) (l08Same_2 w d1 f1 d2 f2 a1 a2 c1 c2 ss tt r1 r2 z1 z2 h1 h2)
  | true =>
  by_cases h3 : d1 = d2
  · by_cases h4 : f1 = f2
    · by_cases h5 : ss.length = tt.length
      · exact R true (by unfold sameC; rw [h1, h2, decide_eq_true h3, decide_eq_true h4, decide_eq_true h5]; rfl) (l08Same_6 w d1 f1 d2 f2 a1 a2 c1 c2 ss tt r1 r2 z1 z2 h1 h2 h3 h4 h5)
      · exact R false (by unfold sameC; rw [h1, h2, decide_eq_false h5]; simp) (l08Same_5 w d1 f1 d2 f2 a1 a2 c1 c2 ss tt r1 r2 z1 z2 h1 h2 h3 h4 h5)
    · exact R false (by unfold sameC; rw [h1, h2, decide_eq_false h4]; simp) (l08Same_4 w d1 f1 d2 f2 a1 a2 c1 c2 ss tt r1 r2 z1 z2 h1 h2 h3 h4)
  · exact R false (by unfold sameC; rw [h1, h2, decide_eq_false h3]; simp) (l08Same_3 w d1 f1 d2 f2 a1 a2 c1 c2 ss tt r1 r2 z1 z2 h1 h2 h3)
end Go.Proofs.Ytolnhmmgmkehfaa
