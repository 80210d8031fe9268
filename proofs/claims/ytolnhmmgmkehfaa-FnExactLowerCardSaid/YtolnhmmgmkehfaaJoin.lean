/- Contracts of joined, UpperCard, LowerCard, l08Same, l08Card. -/
import Derived.Test.YtolnhmmgmkehfaaPlain
import Derived.Test.YtolnhmmgmkehfaaTwo
import Derived.Test.YtolnhmmgmkehfaaMix
import Derived.Deep.RegionHeld3
namespace Go.Proofs.Ytolnhmmgmkehfaa
open Go.RowKit
set_option linter.unusedVariables false
set_option linter.unusedSimpArgs false

theorem Two.keep {w : World} {d1 f1 d2 f2 : Int} {a1 a2 : Option Addr} {c1 c2 : Nat} {ss tt : List ByteArray} {u u' : World} (h : Two w d1 f1 d2 f2 a1 a2 c1 c2 ss tt u) (r1 : RdS w a1 ss) (r2 : RdS w a2 tt) (hb : Below (w.heap.size + 2) u u') : Two w d1 f1 d2 f2 a1 a2 c1 c2 ss tt u' := by
  have hW := h.W.trans (hb.mono (by omega))
  have c : ∀ (b o : Nat), b < w.heap.size + 2 → u'.cell? ⟨b, o, none⟩ = u.cell? ⟨b, o, none⟩ := fun b o hh => hb.cell (p := ⟨b, o, none⟩) hh
  refine ⟨⟨Nat.lt_of_lt_of_le h.kb.1 hb.size, ?_, ?_, ?_⟩, ⟨Nat.lt_of_lt_of_le h.kc.1 hb.size, ?_, ?_, ?_⟩, r1.below hW, r2.below hW, hW⟩
  · exact (c _ _ (by omega)).trans h.kb.2.1
  · exact (c _ _ (by omega)).trans h.kb.2.2.1
  · exact (c _ _ (by omega)).trans h.kb.2.2.2
  · exact (c _ _ (by omega)).trans h.kc.2.1
  · exact (c _ _ (by omega)).trans h.kc.2.2.1
  · exact (c _ _ (by omega)).trans h.kc.2.2.2
/-- The strips of the joined card. -/
def mixL (ss tt : List ByteArray) (up : Bool) (k : Nat) : List ByteArray := (List.range k).map fun j => mixV (sel ss j) (sel tt j) up
theorem mixL_length (ss tt : List ByteArray) (up : Bool) (k : Nat) : (mixL ss tt up k).length = k := by simp [mixL]
theorem mixL_snoc {B k : Nat} {g cap : Nat} {ss tt : List ByteArray} {up : Bool} {w : World} (h : w.ownsRow B 9 1 (.slice (some ⟨g, 0, none⟩) (k + 1) cap) (k + 1) (strCells (mixL ss tt up k) ++ [.string (mixV (sel ss k) (sel tt k) up)])) : OwnS B (.slice (some ⟨g, 0, none⟩) (k + 1) cap) (mixL ss tt up (k + 1)) w := by
  unfold OwnS
  rw [mixL_length]
  have : strCells (mixL ss tt up (k + 1)) = strCells (mixL ss tt up k) ++ [.string (mixV (sel ss k) (sel tt k) up)] := by simp [strCells, mixL, List.range_succ]
  rw [this]; exact h
theorem own_mk2 {B k : Nat} {v : Value} {ss tt : List ByteArray} {up : Bool} {w : World} (h : OwnS B v (mixL ss tt up k) w) : Hid (w.ownsRow B 9 1 v k (strCells (mixL ss tt up k))) := by
  unfold OwnS at h; rw [mixL_length] at h; exact h
theorem rd_at {u : World} {a : Option Addr} {ss : List ByteArray} (h : RdS u a ss) (hp : 0 < ss.length) : ∃ b o, a = some ⟨b, o, none⟩ ∧ b < u.heap.size ∧ ∀ j, j < ss.length → u.cell? ⟨b, o + j, none⟩ = some (.string (sel ss j)) := by
  rcases h with rfl | ⟨b, o, rfl, _, hl, hc⟩
  · simp at hp
  · exact ⟨b, o, rfl, hl, hc⟩
set_option maxRecDepth 20000 in
set_option maxHeartbeats 3200000 in
theorem joinedU_1 (w : World) (d1 f1 d2 f2 : Int) (a1 a2 : Option Addr) (c1 c2 : Nat) (ss tt : List ByteArray) (r1 : RdS w a1 ss) (r2 : RdS w a2 tt) (z1 : SzS ss) (z2 : SzS tt) (h1 : okC d1 f1 ss = false) :
    Calls Try.prog 67 #[.agg #[.int .i64 d1, .int .i64 f1, .slice a1 ss.length c1], .agg #[.int .i64 d2, .int .i64 f2, .slice a2 tt.length c2], .func (Fn.func 71) #[] #[]] w fun e w' => CardR w.heap.size 0 0 [] false e w' ∧ Below w.heap.size w w' := by
  have S0 : Two w d1 f1 d2 f2 a1 a2 c1 c2 ss tt ((w.alloc (.cells #[.int .i64 d1, .int .i64 f1, .slice a1 ss.length c1] 34)).alloc (.cells #[.int .i64 d2, .int .i64 f2, .slice a2 tt.length c2] 34)) := Two.start w d1 f1 d2 f2 a1 a2 c1 c2 ss tt 34 34 r1 r2
  have S := S0.below (bel_new _ (.cells #[.int .i64 0, .int .i64 0, .slice none 0 0] 34))
  have A : Blk (((w.alloc (.cells #[.int .i64 d1, .int .i64 f1, .slice a1 ss.length c1] 34)).alloc (.cells #[.int .i64 d2, .int .i64 f2, .slice a2 tt.length c2] 34)).alloc (.cells #[.int .i64 0, .int .i64 0, .slice none 0 0] 34)) (w.heap.size + 2) (.int .i64 0) (.int .i64 0) (.slice none 0 0) := Blk.new' (by simp) _ _ _
  clear S0
  have H1 := Lib.hid h1; clear h1
  go_enter Try.func67, Try.ntmps67
  go_wp2_with fail
  have CK := implCardOk_any _ d1 f1 _ c1 ss S.rb z1
  rw [H1.out] at CK
  refine CK.mono ?_
  rintro e u1 ⟨rfl, b1⟩
  have S := S.below b1
  have A := A.below b1
  have f0 := A.fz 0; have f1' := A.fz 1; have f2' := A.fz 2; have x0 := A.c0; have x1 := A.c1; have x2 := A.c2; have lA := A.lt
  clear CK b1
  obtain ⟨_, k0, k1, k2⟩ := S.kb; obtain ⟨_, m0, m1, m2⟩ := S.kc
  go_wp2
  refine bodyPost_ret (v := .tuple #[.agg #[.int .i64 0, .int .i64 0, .slice none 0 0], .bool false]) (by simp [results, Try.results67, go_sem, lA, x0, x1, x2, f0, f1', f2']) rfl ⟨⟨none, 0, rfl, World.ownsRow_nil _ _ _ _⟩, ?_⟩
  exact ((S.W.setCell (by show w.heap.size ≤ w.heap.size + 2; omega) _).setCell (by show w.heap.size ≤ w.heap.size + 2; omega) _).setCell (by show w.heap.size ≤ w.heap.size + 2; omega) _

set_option maxRecDepth 20000 in
set_option maxHeartbeats 3200000 in
theorem joinedL_1 (w : World) (d1 f1 d2 f2 : Int) (a1 a2 : Option Addr) (c1 c2 : Nat) (ss tt : List ByteArray) (r1 : RdS w a1 ss) (r2 : RdS w a2 tt) (z1 : SzS ss) (z2 : SzS tt) (h1 : okC d1 f1 ss = false) :
    Calls Try.prog 67 #[.agg #[.int .i64 d1, .int .i64 f1, .slice a1 ss.length c1], .agg #[.int .i64 d2, .int .i64 f2, .slice a2 tt.length c2], .func (Fn.func 68) #[] #[]] w fun e w' => CardR w.heap.size 0 0 [] false e w' ∧ Below w.heap.size w w' := by
  have S0 : Two w d1 f1 d2 f2 a1 a2 c1 c2 ss tt ((w.alloc (.cells #[.int .i64 d1, .int .i64 f1, .slice a1 ss.length c1] 34)).alloc (.cells #[.int .i64 d2, .int .i64 f2, .slice a2 tt.length c2] 34)) := Two.start w d1 f1 d2 f2 a1 a2 c1 c2 ss tt 34 34 r1 r2
  have S := S0.below (bel_new _ (.cells #[.int .i64 0, .int .i64 0, .slice none 0 0] 34))
  have A : Blk (((w.alloc (.cells #[.int .i64 d1, .int .i64 f1, .slice a1 ss.length c1] 34)).alloc (.cells #[.int .i64 d2, .int .i64 f2, .slice a2 tt.length c2] 34)).alloc (.cells #[.int .i64 0, .int .i64 0, .slice none 0 0] 34)) (w.heap.size + 2) (.int .i64 0) (.int .i64 0) (.slice none 0 0) := Blk.new' (by simp) _ _ _
  clear S0
  have H1 := Lib.hid h1; clear h1
  go_enter Try.func67, Try.ntmps67
  go_wp2_with fail
  have CK := implCardOk_any _ d1 f1 _ c1 ss S.rb z1
  rw [H1.out] at CK
  refine CK.mono ?_
  rintro e u1 ⟨rfl, b1⟩
  have S := S.below b1
  have A := A.below b1
  have f0 := A.fz 0; have f1' := A.fz 1; have f2' := A.fz 2; have x0 := A.c0; have x1 := A.c1; have x2 := A.c2; have lA := A.lt
  clear CK b1
  obtain ⟨_, k0, k1, k2⟩ := S.kb; obtain ⟨_, m0, m1, m2⟩ := S.kc
  go_wp2
  refine bodyPost_ret (v := .tuple #[.agg #[.int .i64 0, .int .i64 0, .slice none 0 0], .bool false]) (by simp [results, Try.results67, go_sem, lA, x0, x1, x2, f0, f1', f2']) rfl ⟨⟨none, 0, rfl, World.ownsRow_nil _ _ _ _⟩, ?_⟩
  exact ((S.W.setCell (by show w.heap.size ≤ w.heap.size + 2; omega) _).setCell (by show w.heap.size ≤ w.heap.size + 2; omega) _).setCell (by show w.heap.size ≤ w.heap.size + 2; omega) _

set_option maxRecDepth 20000 in
set_option maxHeartbeats 3200000 in
theorem joinedU_2 (w : World) (d1 f1 d2 f2 : Int) (a1 a2 : Option Addr) (c1 c2 : Nat) (ss tt : List ByteArray) (r1 : RdS w a1 ss) (r2 : RdS w a2 tt) (z1 : SzS ss) (z2 : SzS tt) (h1 : okC d1 f1 ss = true) (h2 : okC d2 f2 tt = false) :
    Calls Try.prog 67 #[.agg #[.int .i64 d1, .int .i64 f1, .slice a1 ss.length c1], .agg #[.int .i64 d2, .int .i64 f2, .slice a2 tt.length c2], .func (Fn.func 71) #[] #[]] w fun e w' => CardR w.heap.size 0 0 [] false e w' ∧ Below w.heap.size w w' := by
  have S0 : Two w d1 f1 d2 f2 a1 a2 c1 c2 ss tt ((w.alloc (.cells #[.int .i64 d1, .int .i64 f1, .slice a1 ss.length c1] 34)).alloc (.cells #[.int .i64 d2, .int .i64 f2, .slice a2 tt.length c2] 34)) := Two.start w d1 f1 d2 f2 a1 a2 c1 c2 ss tt 34 34 r1 r2
  have S := S0.below (bel_new _ (.cells #[.int .i64 0, .int .i64 0, .slice none 0 0] 34))
  have A : Blk (((w.alloc (.cells #[.int .i64 d1, .int .i64 f1, .slice a1 ss.length c1] 34)).alloc (.cells #[.int .i64 d2, .int .i64 f2, .slice a2 tt.length c2] 34)).alloc (.cells #[.int .i64 0, .int .i64 0, .slice none 0 0] 34)) (w.heap.size + 2) (.int .i64 0) (.int .i64 0) (.slice none 0 0) := Blk.new' (by simp) _ _ _
  clear S0
  have H1 := Lib.hid h1; clear h1
  have H2 := Lib.hid h2; clear h2
  go_enter Try.func67, Try.ntmps67
  go_wp2_with fail
  have CK := implCardOk_any _ d1 f1 _ c1 ss S.rb z1
  rw [H1.out] at CK
  refine CK.mono ?_
  rintro e u1 ⟨rfl, b1⟩
  have S := S.below b1
  have A := A.below b1
  have f0 := A.fz 0; have f1' := A.fz 1; have f2' := A.fz 2; have x0 := A.c0; have x1 := A.c1; have x2 := A.c2; have lA := A.lt
  clear CK b1
  obtain ⟨_, k0, k1, k2⟩ := S.kb; obtain ⟨_, m0, m1, m2⟩ := S.kc
  go_wp2_with fail
  have CK := implCardOk_any _ d2 f2 _ c2 tt S.rc z2
  rw [H2.out] at CK
  refine CK.mono ?_
  rintro e u2 ⟨rfl, b1⟩
  have S := S.below b1
  have A := A.below b1
  have f0 := A.fz 0; have f1' := A.fz 1; have f2' := A.fz 2; have x0 := A.c0; have x1 := A.c1; have x2 := A.c2; have lA := A.lt
  clear CK b1 k0 k1 k2 m0 m1 m2
  obtain ⟨_, k0, k1, k2⟩ := S.kb; obtain ⟨_, m0, m1, m2⟩ := S.kc
  go_wp2
  refine bodyPost_ret (v := .tuple #[.agg #[.int .i64 0, .int .i64 0, .slice none 0 0], .bool false]) (by simp [results, Try.results67, go_sem, lA, x0, x1, x2, f0, f1', f2']) rfl ⟨⟨none, 0, rfl, World.ownsRow_nil _ _ _ _⟩, ?_⟩
  exact ((S.W.setCell (by show w.heap.size ≤ w.heap.size + 2; omega) _).setCell (by show w.heap.size ≤ w.heap.size + 2; omega) _).setCell (by show w.heap.size ≤ w.heap.size + 2; omega) _

set_option maxRecDepth 20000 in
set_option maxHeartbeats 3200000 in
theorem joinedL_2 (w : World) (d1 f1 d2 f2 : Int) (a1 a2 : Option Addr) (c1 c2 : Nat) (ss tt : List ByteArray) (r1 : RdS w a1 ss) (r2 : RdS w a2 tt) (z1 : SzS ss) (z2 : SzS tt) (h1 : okC d1 f1 ss = true) (h2 : okC d2 f2 tt = false) :
    Calls Try.prog 67 #[.agg #[.int .i64 d1, .int .i64 f1, .slice a1 ss.length c1], .agg #[.int .i64 d2, .int .i64 f2, .slice a2 tt.length c2], .func (Fn.func 68) #[] #[]] w fun e w' => CardR w.heap.size 0 0 [] false e w' ∧ Below w.heap.size w w' := by
  have S0 : Two w d1 f1 d2 f2 a1 a2 c1 c2 ss tt ((w.alloc (.cells #[.int .i64 d1, .int .i64 f1, .slice a1 ss.length c1] 34)).alloc (.cells #[.int .i64 d2, .int .i64 f2, .slice a2 tt.length c2] 34)) := Two.start w d1 f1 d2 f2 a1 a2 c1 c2 ss tt 34 34 r1 r2
  have S := S0.below (bel_new _ (.cells #[.int .i64 0, .int .i64 0, .slice none 0 0] 34))
  have A : Blk (((w.alloc (.cells #[.int .i64 d1, .int .i64 f1, .slice a1 ss.length c1] 34)).alloc (.cells #[.int .i64 d2, .int .i64 f2, .slice a2 tt.length c2] 34)).alloc (.cells #[.int .i64 0, .int .i64 0, .slice none 0 0] 34)) (w.heap.size + 2) (.int .i64 0) (.int .i64 0) (.slice none 0 0) := Blk.new' (by simp) _ _ _
  clear S0
  have H1 := Lib.hid h1; clear h1
  have H2 := Lib.hid h2; clear h2
  go_enter Try.func67, Try.ntmps67
  go_wp2_with fail
  have CK := implCardOk_any _ d1 f1 _ c1 ss S.rb z1
  rw [H1.out] at CK
  refine CK.mono ?_
  rintro e u1 ⟨rfl, b1⟩
  have S := S.below b1
  have A := A.below b1
  have f0 := A.fz 0; have f1' := A.fz 1; have f2' := A.fz 2; have x0 := A.c0; have x1 := A.c1; have x2 := A.c2; have lA := A.lt
  clear CK b1
  obtain ⟨_, k0, k1, k2⟩ := S.kb; obtain ⟨_, m0, m1, m2⟩ := S.kc
  go_wp2_with fail
  have CK := implCardOk_any _ d2 f2 _ c2 tt S.rc z2
  rw [H2.out] at CK
  refine CK.mono ?_
  rintro e u2 ⟨rfl, b1⟩
  have S := S.below b1
  have A := A.below b1
  have f0 := A.fz 0; have f1' := A.fz 1; have f2' := A.fz 2; have x0 := A.c0; have x1 := A.c1; have x2 := A.c2; have lA := A.lt
  clear CK b1 k0 k1 k2 m0 m1 m2
  obtain ⟨_, k0, k1, k2⟩ := S.kb; obtain ⟨_, m0, m1, m2⟩ := S.kc
  go_wp2
  refine bodyPost_ret (v := .tuple #[.agg #[.int .i64 0, .int .i64 0, .slice none 0 0], .bool false]) (by simp [results, Try.results67, go_sem, lA, x0, x1, x2, f0, f1', f2']) rfl ⟨⟨none, 0, rfl, World.ownsRow_nil _ _ _ _⟩, ?_⟩
  exact ((S.W.setCell (by show w.heap.size ≤ w.heap.size + 2; omega) _).setCell (by show w.heap.size ≤ w.heap.size + 2; omega) _).setCell (by show w.heap.size ≤ w.heap.size + 2; omega) _

set_option maxRecDepth 20000 in
set_option maxHeartbeats 3200000 in
theorem joinedU_3 (w : World) (d1 f1 d2 f2 : Int) (a1 a2 : Option Addr) (c1 c2 : Nat) (ss tt : List ByteArray) (r1 : RdS w a1 ss) (r2 : RdS w a2 tt) (z1 : SzS ss) (z2 : SzS tt) (h1 : okC d1 f1 ss = true) (h2 : okC d2 f2 tt = true) (h3 : ¬ d1 = d2) :
    Calls Try.prog 67 #[.agg #[.int .i64 d1, .int .i64 f1, .slice a1 ss.length c1], .agg #[.int .i64 d2, .int .i64 f2, .slice a2 tt.length c2], .func (Fn.func 71) #[] #[]] w fun e w' => CardR w.heap.size 0 0 [] false e w' ∧ Below w.heap.size w w' := by
  have S0 : Two w d1 f1 d2 f2 a1 a2 c1 c2 ss tt ((w.alloc (.cells #[.int .i64 d1, .int .i64 f1, .slice a1 ss.length c1] 34)).alloc (.cells #[.int .i64 d2, .int .i64 f2, .slice a2 tt.length c2] 34)) := Two.start w d1 f1 d2 f2 a1 a2 c1 c2 ss tt 34 34 r1 r2
  have S := S0.below (bel_new _ (.cells #[.int .i64 0, .int .i64 0, .slice none 0 0] 34))
  have A : Blk (((w.alloc (.cells #[.int .i64 d1, .int .i64 f1, .slice a1 ss.length c1] 34)).alloc (.cells #[.int .i64 d2, .int .i64 f2, .slice a2 tt.length c2] 34)).alloc (.cells #[.int .i64 0, .int .i64 0, .slice none 0 0] 34)) (w.heap.size + 2) (.int .i64 0) (.int .i64 0) (.slice none 0 0) := Blk.new' (by simp) _ _ _
  clear S0
  have H1 := Lib.hid h1; clear h1
  have H2 := Lib.hid h2; clear h2
  have t3 : (d1 != d2) = true := by rw [bne_iff_ne]; exact h3
  clear h3
  go_enter Try.func67, Try.ntmps67
  go_wp2_with fail
  have CK := implCardOk_any _ d1 f1 _ c1 ss S.rb z1
  rw [H1.out] at CK
  refine CK.mono ?_
  rintro e u1 ⟨rfl, b1⟩
  have S := S.below b1
  have A := A.below b1
  have f0 := A.fz 0; have f1' := A.fz 1; have f2' := A.fz 2; have x0 := A.c0; have x1 := A.c1; have x2 := A.c2; have lA := A.lt
  clear CK b1
  obtain ⟨_, k0, k1, k2⟩ := S.kb; obtain ⟨_, m0, m1, m2⟩ := S.kc
  go_wp2_with fail
  have CK := implCardOk_any _ d2 f2 _ c2 tt S.rc z2
  rw [H2.out] at CK
  refine CK.mono ?_
  rintro e u2 ⟨rfl, b1⟩
  have S := S.below b1
  have A := A.below b1
  have f0 := A.fz 0; have f1' := A.fz 1; have f2' := A.fz 2; have x0 := A.c0; have x1 := A.c1; have x2 := A.c2; have lA := A.lt
  clear CK b1 k0 k1 k2 m0 m1 m2
  obtain ⟨_, k0, k1, k2⟩ := S.kb; obtain ⟨_, m0, m1, m2⟩ := S.kc
  go_wp2
  refine bodyPost_ret (v := .tuple #[.agg #[.int .i64 0, .int .i64 0, .slice none 0 0], .bool false]) (by simp [results, Try.results67, go_sem, lA, x0, x1, x2, f0, f1', f2']) rfl ⟨⟨none, 0, rfl, World.ownsRow_nil _ _ _ _⟩, ?_⟩
  exact ((S.W.setCell (by show w.heap.size ≤ w.heap.size + 2; omega) _).setCell (by show w.heap.size ≤ w.heap.size + 2; omega) _).setCell (by show w.heap.size ≤ w.heap.size + 2; omega) _

set_option maxRecDepth 20000 in
set_option maxHeartbeats 3200000 in
theorem joinedL_3 (w : World) (d1 f1 d2 f2 : Int) (a1 a2 : Option Addr) (c1 c2 : Nat) (ss tt : List ByteArray) (r1 : RdS w a1 ss) (r2 : RdS w a2 tt) (z1 : SzS ss) (z2 : SzS tt) (h1 : okC d1 f1 ss = true) (h2 : okC d2 f2 tt = true) (h3 : ¬ d1 = d2) :
    Calls Try.prog 67 #[.agg #[.int .i64 d1, .int .i64 f1, .slice a1 ss.length c1], .agg #[.int .i64 d2, .int .i64 f2, .slice a2 tt.length c2], .func (Fn.func 68) #[] #[]] w fun e w' => CardR w.heap.size 0 0 [] false e w' ∧ Below w.heap.size w w' := by
  have S0 : Two w d1 f1 d2 f2 a1 a2 c1 c2 ss tt ((w.alloc (.cells #[.int .i64 d1, .int .i64 f1, .slice a1 ss.length c1] 34)).alloc (.cells #[.int .i64 d2, .int .i64 f2, .slice a2 tt.length c2] 34)) := Two.start w d1 f1 d2 f2 a1 a2 c1 c2 ss tt 34 34 r1 r2
  have S := S0.below (bel_new _ (.cells #[.int .i64 0, .int .i64 0, .slice none 0 0] 34))
  have A : Blk (((w.alloc (.cells #[.int .i64 d1, .int .i64 f1, .slice a1 ss.length c1] 34)).alloc (.cells #[.int .i64 d2, .int .i64 f2, .slice a2 tt.length c2] 34)).alloc (.cells #[.int .i64 0, .int .i64 0, .slice none 0 0] 34)) (w.heap.size + 2) (.int .i64 0) (.int .i64 0) (.slice none 0 0) := Blk.new' (by simp) _ _ _
  clear S0
  have H1 := Lib.hid h1; clear h1
  have H2 := Lib.hid h2; clear h2
  have t3 : (d1 != d2) = true := by rw [bne_iff_ne]; exact h3
  clear h3
  go_enter Try.func67, Try.ntmps67
  go_wp2_with fail
  have CK := implCardOk_any _ d1 f1 _ c1 ss S.rb z1
  rw [H1.out] at CK
  refine CK.mono ?_
  rintro e u1 ⟨rfl, b1⟩
  have S := S.below b1
  have A := A.below b1
  have f0 := A.fz 0; have f1' := A.fz 1; have f2' := A.fz 2; have x0 := A.c0; have x1 := A.c1; have x2 := A.c2; have lA := A.lt
  clear CK b1
  obtain ⟨_, k0, k1, k2⟩ := S.kb; obtain ⟨_, m0, m1, m2⟩ := S.kc
  go_wp2_with fail
  have CK := implCardOk_any _ d2 f2 _ c2 tt S.rc z2
  rw [H2.out] at CK
  refine CK.mono ?_
  rintro e u2 ⟨rfl, b1⟩
  have S := S.below b1
  have A := A.below b1
  have f0 := A.fz 0; have f1' := A.fz 1; have f2' := A.fz 2; have x0 := A.c0; have x1 := A.c1; have x2 := A.c2; have lA := A.lt
  clear CK b1 k0 k1 k2 m0 m1 m2
  obtain ⟨_, k0, k1, k2⟩ := S.kb; obtain ⟨_, m0, m1, m2⟩ := S.kc
  go_wp2
  refine bodyPost_ret (v := .tuple #[.agg #[.int .i64 0, .int .i64 0, .slice none 0 0], .bool false]) (by simp [results, Try.results67, go_sem, lA, x0, x1, x2, f0, f1', f2']) rfl ⟨⟨none, 0, rfl, World.ownsRow_nil _ _ _ _⟩, ?_⟩
  exact ((S.W.setCell (by show w.heap.size ≤ w.heap.size + 2; omega) _).setCell (by show w.heap.size ≤ w.heap.size + 2; omega) _).setCell (by show w.heap.size ≤ w.heap.size + 2; omega) _

set_option maxRecDepth 20000 in
set_option maxHeartbeats 3200000 in
theorem joinedU_4 (w : World) (d1 f1 d2 f2 : Int) (a1 a2 : Option Addr) (c1 c2 : Nat) (ss tt : List ByteArray) (r1 : RdS w a1 ss) (r2 : RdS w a2 tt) (z1 : SzS ss) (z2 : SzS tt) (h1 : okC d1 f1 ss = true) (h2 : okC d2 f2 tt = true) (h3 : d1 = d2) (h4 : ¬ f1 = f2) :
    Calls Try.prog 67 #[.agg #[.int .i64 d1, .int .i64 f1, .slice a1 ss.length c1], .agg #[.int .i64 d2, .int .i64 f2, .slice a2 tt.length c2], .func (Fn.func 71) #[] #[]] w fun e w' => CardR w.heap.size 0 0 [] false e w' ∧ Below w.heap.size w w' := by
  have S0 : Two w d1 f1 d2 f2 a1 a2 c1 c2 ss tt ((w.alloc (.cells #[.int .i64 d1, .int .i64 f1, .slice a1 ss.length c1] 34)).alloc (.cells #[.int .i64 d2, .int .i64 f2, .slice a2 tt.length c2] 34)) := Two.start w d1 f1 d2 f2 a1 a2 c1 c2 ss tt 34 34 r1 r2
  have S := S0.below (bel_new _ (.cells #[.int .i64 0, .int .i64 0, .slice none 0 0] 34))
  have A : Blk (((w.alloc (.cells #[.int .i64 d1, .int .i64 f1, .slice a1 ss.length c1] 34)).alloc (.cells #[.int .i64 d2, .int .i64 f2, .slice a2 tt.length c2] 34)).alloc (.cells #[.int .i64 0, .int .i64 0, .slice none 0 0] 34)) (w.heap.size + 2) (.int .i64 0) (.int .i64 0) (.slice none 0 0) := Blk.new' (by simp) _ _ _
  clear S0
  have H1 := Lib.hid h1; clear h1
  have H2 := Lib.hid h2; clear h2
  have t3 : (d1 != d2) = false := by rw [bne_eq_false_iff_eq]; exact h3
  clear h3
  have t4 : (f1 != f2) = true := by rw [bne_iff_ne]; exact h4
  clear h4
  go_enter Try.func67, Try.ntmps67
  go_wp2_with fail
  have CK := implCardOk_any _ d1 f1 _ c1 ss S.rb z1
  rw [H1.out] at CK
  refine CK.mono ?_
  rintro e u1 ⟨rfl, b1⟩
  have S := S.below b1
  have A := A.below b1
  have f0 := A.fz 0; have f1' := A.fz 1; have f2' := A.fz 2; have x0 := A.c0; have x1 := A.c1; have x2 := A.c2; have lA := A.lt
  clear CK b1
  obtain ⟨_, k0, k1, k2⟩ := S.kb; obtain ⟨_, m0, m1, m2⟩ := S.kc
  go_wp2_with fail
  have CK := implCardOk_any _ d2 f2 _ c2 tt S.rc z2
  rw [H2.out] at CK
  refine CK.mono ?_
  rintro e u2 ⟨rfl, b1⟩
  have S := S.below b1
  have A := A.below b1
  have f0 := A.fz 0; have f1' := A.fz 1; have f2' := A.fz 2; have x0 := A.c0; have x1 := A.c1; have x2 := A.c2; have lA := A.lt
  clear CK b1 k0 k1 k2 m0 m1 m2
  obtain ⟨_, k0, k1, k2⟩ := S.kb; obtain ⟨_, m0, m1, m2⟩ := S.kc
  go_wp2
  refine bodyPost_ret (v := .tuple #[.agg #[.int .i64 0, .int .i64 0, .slice none 0 0], .bool false]) (by simp [results, Try.results67, go_sem, lA, x0, x1, x2, f0, f1', f2']) rfl ⟨⟨none, 0, rfl, World.ownsRow_nil _ _ _ _⟩, ?_⟩
  exact ((S.W.setCell (by show w.heap.size ≤ w.heap.size + 2; omega) _).setCell (by show w.heap.size ≤ w.heap.size + 2; omega) _).setCell (by show w.heap.size ≤ w.heap.size + 2; omega) _

set_option maxRecDepth 20000 in
set_option maxHeartbeats 3200000 in
theorem joinedL_4 (w : World) (d1 f1 d2 f2 : Int) (a1 a2 : Option Addr) (c1 c2 : Nat) (ss tt : List ByteArray) (r1 : RdS w a1 ss) (r2 : RdS w a2 tt) (z1 : SzS ss) (z2 : SzS tt) (h1 : okC d1 f1 ss = true) (h2 : okC d2 f2 tt = true) (h3 : d1 = d2) (h4 : ¬ f1 = f2) :
    Calls Try.prog 67 #[.agg #[.int .i64 d1, .int .i64 f1, .slice a1 ss.length c1], .agg #[.int .i64 d2, .int .i64 f2, .slice a2 tt.length c2], .func (Fn.func 68) #[] #[]] w fun e w' => CardR w.heap.size 0 0 [] false e w' ∧ Below w.heap.size w w' := by
  have S0 : Two w d1 f1 d2 f2 a1 a2 c1 c2 ss tt ((w.alloc (.cells #[.int .i64 d1, .int .i64 f1, .slice a1 ss.length c1] 34)).alloc (.cells #[.int .i64 d2, .int .i64 f2, .slice a2 tt.length c2] 34)) := Two.start w d1 f1 d2 f2 a1 a2 c1 c2 ss tt 34 34 r1 r2
  have S := S0.below (bel_new _ (.cells #[.int .i64 0, .int .i64 0, .slice none 0 0] 34))
  have A : Blk (((w.alloc (.cells #[.int .i64 d1, .int .i64 f1, .slice a1 ss.length c1] 34)).alloc (.cells #[.int .i64 d2, .int .i64 f2, .slice a2 tt.length c2] 34)).alloc (.cells #[.int .i64 0, .int .i64 0, .slice none 0 0] 34)) (w.heap.size + 2) (.int .i64 0) (.int .i64 0) (.slice none 0 0) := Blk.new' (by simp) _ _ _
  clear S0
  have H1 := Lib.hid h1; clear h1
  have H2 := Lib.hid h2; clear h2
  have t3 : (d1 != d2) = false := by rw [bne_eq_false_iff_eq]; exact h3
  clear h3
  have t4 : (f1 != f2) = true := by rw [bne_iff_ne]; exact h4
  clear h4
  go_enter Try.func67, Try.ntmps67
  go_wp2_with fail
  have CK := implCardOk_any _ d1 f1 _ c1 ss S.rb z1
  rw [H1.out] at CK
  refine CK.mono ?_
  rintro e u1 ⟨rfl, b1⟩
  have S := S.below b1
  have A := A.below b1
  have f0 := A.fz 0; have f1' := A.fz 1; have f2' := A.fz 2; have x0 := A.c0; have x1 := A.c1; have x2 := A.c2; have lA := A.lt
  clear CK b1
  obtain ⟨_, k0, k1, k2⟩ := S.kb; obtain ⟨_, m0, m1, m2⟩ := S.kc
  go_wp2_with fail
  have CK := implCardOk_any _ d2 f2 _ c2 tt S.rc z2
  rw [H2.out] at CK
  refine CK.mono ?_
  rintro e u2 ⟨rfl, b1⟩
  have S := S.below b1
  have A := A.below b1
  have f0 := A.fz 0; have f1' := A.fz 1; have f2' := A.fz 2; have x0 := A.c0; have x1 := A.c1; have x2 := A.c2; have lA := A.lt
  clear CK b1 k0 k1 k2 m0 m1 m2
  obtain ⟨_, k0, k1, k2⟩ := S.kb; obtain ⟨_, m0, m1, m2⟩ := S.kc
  go_wp2
  refine bodyPost_ret (v := .tuple #[.agg #[.int .i64 0, .int .i64 0, .slice none 0 0], .bool false]) (by simp [results, Try.results67, go_sem, lA, x0, x1, x2, f0, f1', f2']) rfl ⟨⟨none, 0, rfl, World.ownsRow_nil _ _ _ _⟩, ?_⟩
  exact ((S.W.setCell (by show w.heap.size ≤ w.heap.size + 2; omega) _).setCell (by show w.heap.size ≤ w.heap.size + 2; omega) _).setCell (by show w.heap.size ≤ w.heap.size + 2; omega) _

set_option maxRecDepth 20000 in
set_option maxHeartbeats 3200000 in
theorem joinedU_5 (w : World) (d1 f1 d2 f2 : Int) (a1 a2 : Option Addr) (c1 c2 : Nat) (ss tt : List ByteArray) (r1 : RdS w a1 ss) (r2 : RdS w a2 tt) (z1 : SzS ss) (z2 : SzS tt) (h1 : okC d1 f1 ss = true) (h2 : okC d2 f2 tt = true) (h3 : d1 = d2) (h4 : f1 = f2) (h5 : ¬ ss.length = tt.length) :
    Calls Try.prog 67 #[.agg #[.int .i64 d1, .int .i64 f1, .slice a1 ss.length c1], .agg #[.int .i64 d2, .int .i64 f2, .slice a2 tt.length c2], .func (Fn.func 71) #[] #[]] w fun e w' => CardR w.heap.size 0 0 [] false e w' ∧ Below w.heap.size w w' := by
  have S0 : Two w d1 f1 d2 f2 a1 a2 c1 c2 ss tt ((w.alloc (.cells #[.int .i64 d1, .int .i64 f1, .slice a1 ss.length c1] 34)).alloc (.cells #[.int .i64 d2, .int .i64 f2, .slice a2 tt.length c2] 34)) := Two.start w d1 f1 d2 f2 a1 a2 c1 c2 ss tt 34 34 r1 r2
  have S := S0.below (bel_new _ (.cells #[.int .i64 0, .int .i64 0, .slice none 0 0] 34))
  have A : Blk (((w.alloc (.cells #[.int .i64 d1, .int .i64 f1, .slice a1 ss.length c1] 34)).alloc (.cells #[.int .i64 d2, .int .i64 f2, .slice a2 tt.length c2] 34)).alloc (.cells #[.int .i64 0, .int .i64 0, .slice none 0 0] 34)) (w.heap.size + 2) (.int .i64 0) (.int .i64 0) (.slice none 0 0) := Blk.new' (by simp) _ _ _
  clear S0
  have H1 := Lib.hid h1; clear h1
  have H2 := Lib.hid h2; clear h2
  have t3 : (d1 != d2) = false := by rw [bne_eq_false_iff_eq]; exact h3
  clear h3
  have t4 : (f1 != f2) = false := by rw [bne_eq_false_iff_eq]; exact h4
  clear h4
  have t5 : ((ss.length : Int) != (tt.length : Int)) = true := by rw [bne_iff_ne]; omega
  clear h5
  go_enter Try.func67, Try.ntmps67
  go_wp2_with fail
  have CK := implCardOk_any _ d1 f1 _ c1 ss S.rb z1
  rw [H1.out] at CK
  refine CK.mono ?_
  rintro e u1 ⟨rfl, b1⟩
  have S := S.below b1
  have A := A.below b1
  have f0 := A.fz 0; have f1' := A.fz 1; have f2' := A.fz 2; have x0 := A.c0; have x1 := A.c1; have x2 := A.c2; have lA := A.lt
  clear CK b1
  obtain ⟨_, k0, k1, k2⟩ := S.kb; obtain ⟨_, m0, m1, m2⟩ := S.kc
  go_wp2_with fail
  have CK := implCardOk_any _ d2 f2 _ c2 tt S.rc z2
  rw [H2.out] at CK
  refine CK.mono ?_
  rintro e u2 ⟨rfl, b1⟩
  have S := S.below b1
  have A := A.below b1
  have f0 := A.fz 0; have f1' := A.fz 1; have f2' := A.fz 2; have x0 := A.c0; have x1 := A.c1; have x2 := A.c2; have lA := A.lt
  clear CK b1 k0 k1 k2 m0 m1 m2
  obtain ⟨_, k0, k1, k2⟩ := S.kb; obtain ⟨_, m0, m1, m2⟩ := S.kc
  go_wp2
  refine bodyPost_ret (v := .tuple #[.agg #[.int .i64 0, .int .i64 0, .slice none 0 0], .bool false]) (by simp [results, Try.results67, go_sem, lA, x0, x1, x2, f0, f1', f2']) rfl ⟨⟨none, 0, rfl, World.ownsRow_nil _ _ _ _⟩, ?_⟩
  exact ((S.W.setCell (by show w.heap.size ≤ w.heap.size + 2; omega) _).setCell (by show w.heap.size ≤ w.heap.size + 2; omega) _).setCell (by show w.heap.size ≤ w.heap.size + 2; omega) _

set_option maxRecDepth 20000 in
set_option maxHeartbeats 3200000 in
theorem joinedL_5 (w : World) (d1 f1 d2 f2 : Int) (a1 a2 : Option Addr) (c1 c2 : Nat) (ss tt : List ByteArray) (r1 : RdS w a1 ss) (r2 : RdS w a2 tt) (z1 : SzS ss) (z2 : SzS tt) (h1 : okC d1 f1 ss = true) (h2 : okC d2 f2 tt = true) (h3 : d1 = d2) (h4 : f1 = f2) (h5 : ¬ ss.length = tt.length) :
    Calls Try.prog 67 #[.agg #[.int .i64 d1, .int .i64 f1, .slice a1 ss.length c1], .agg #[.int .i64 d2, .int .i64 f2, .slice a2 tt.length c2], .func (Fn.func 68) #[] #[]] w fun e w' => CardR w.heap.size 0 0 [] false e w' ∧ Below w.heap.size w w' := by
  have S0 : Two w d1 f1 d2 f2 a1 a2 c1 c2 ss tt ((w.alloc (.cells #[.int .i64 d1, .int .i64 f1, .slice a1 ss.length c1] 34)).alloc (.cells #[.int .i64 d2, .int .i64 f2, .slice a2 tt.length c2] 34)) := Two.start w d1 f1 d2 f2 a1 a2 c1 c2 ss tt 34 34 r1 r2
  have S := S0.below (bel_new _ (.cells #[.int .i64 0, .int .i64 0, .slice none 0 0] 34))
  have A : Blk (((w.alloc (.cells #[.int .i64 d1, .int .i64 f1, .slice a1 ss.length c1] 34)).alloc (.cells #[.int .i64 d2, .int .i64 f2, .slice a2 tt.length c2] 34)).alloc (.cells #[.int .i64 0, .int .i64 0, .slice none 0 0] 34)) (w.heap.size + 2) (.int .i64 0) (.int .i64 0) (.slice none 0 0) := Blk.new' (by simp) _ _ _
  clear S0
  have H1 := Lib.hid h1; clear h1
  have H2 := Lib.hid h2; clear h2
  have t3 : (d1 != d2) = false := by rw [bne_eq_false_iff_eq]; exact h3
  clear h3
  have t4 : (f1 != f2) = false := by rw [bne_eq_false_iff_eq]; exact h4
  clear h4
  have t5 : ((ss.length : Int) != (tt.length : Int)) = true := by rw [bne_iff_ne]; omega
  clear h5
  go_enter Try.func67, Try.ntmps67
  go_wp2_with fail
  have CK := implCardOk_any _ d1 f1 _ c1 ss S.rb z1
  rw [H1.out] at CK
  refine CK.mono ?_
  rintro e u1 ⟨rfl, b1⟩
  have S := S.below b1
  have A := A.below b1
  have f0 := A.fz 0; have f1' := A.fz 1; have f2' := A.fz 2; have x0 := A.c0; have x1 := A.c1; have x2 := A.c2; have lA := A.lt
  clear CK b1
  obtain ⟨_, k0, k1, k2⟩ := S.kb; obtain ⟨_, m0, m1, m2⟩ := S.kc
  go_wp2_with fail
  have CK := implCardOk_any _ d2 f2 _ c2 tt S.rc z2
  rw [H2.out] at CK
  refine CK.mono ?_
  rintro e u2 ⟨rfl, b1⟩
  have S := S.below b1
  have A := A.below b1
  have f0 := A.fz 0; have f1' := A.fz 1; have f2' := A.fz 2; have x0 := A.c0; have x1 := A.c1; have x2 := A.c2; have lA := A.lt
  clear CK b1 k0 k1 k2 m0 m1 m2
  obtain ⟨_, k0, k1, k2⟩ := S.kb; obtain ⟨_, m0, m1, m2⟩ := S.kc
  go_wp2
  refine bodyPost_ret (v := .tuple #[.agg #[.int .i64 0, .int .i64 0, .slice none 0 0], .bool false]) (by simp [results, Try.results67, go_sem, lA, x0, x1, x2, f0, f1', f2']) rfl ⟨⟨none, 0, rfl, World.ownsRow_nil _ _ _ _⟩, ?_⟩
  exact ((S.W.setCell (by show w.heap.size ≤ w.heap.size + 2; omega) _).setCell (by show w.heap.size ≤ w.heap.size + 2; omega) _).setCell (by show w.heap.size ≤ w.heap.size + 2; omega) _

end Go.Proofs.Ytolnhmmgmkehfaa
