/- The state of a law on two cards: the two boxed cards, what they read as, the world below. -/
import Derived.Test.YtolnhmmgmkehfaaCards
namespace Go.Proofs.Ytolnhmmgmkehfaa
open Go.RowKit
set_option linter.unusedVariables false

/-- Three cells of a block that is there. -/
def CelL (u : World) (b : Nat) (x y z : Value) : Prop := b < u.heap.size ∧ u.cell? ⟨b, 0, none⟩ = some x ∧ u.cell? ⟨b, 1, none⟩ = some y ∧ u.cell? ⟨b, 2, none⟩ = some z
theorem CelL.below {u u' : World} {b : Nat} {x y z : Value} (h : CelL u b x y z) (hb : Below u.heap.size u u') : CelL u' b x y z :=
  ⟨Nat.lt_of_lt_of_le h.1 hb.size, (hb.cell (p := ⟨b, 0, none⟩) h.1).trans h.2.1, (hb.cell (p := ⟨b, 1, none⟩) h.1).trans h.2.2.1, (hb.cell (p := ⟨b, 2, none⟩) h.1).trans h.2.2.2⟩
theorem CelL.drew {u : World} {b : Nat} {x y z : Value} (h : CelL u b x y z) : CelL u.drew b x y z := h
theorem CelL.new (u : World) (x y z : Value) (t : TypeId) : CelL (u.alloc (.cells #[x, y, z] t)) u.heap.size x y z := ⟨by simp, by simp [go_sem], by simp [go_sem], by simp [go_sem]⟩
theorem CelL.grown {u u' : World} {b : Nat} {x y z : Value} {row : Option Nat} (h : CelL u b x y z) (hg : u.grownBy u' row) (hr : some b ≠ row) : CelL u' b x y z :=
  ⟨Nat.lt_of_lt_of_le h.1 hg.size, hg.cell h.2.1 hr, hg.cell h.2.2.1 hr, hg.cell h.2.2.2 hr⟩
theorem bel_new (u : World) (o : Obj) : Below u.heap.size u (u.alloc o) := (Below.refl _ _).alloc (Nat.le_refl _) o

structure Two (w : World) (d1 f1 d2 f2 : Int) (a1 a2 : Option Addr) (c1 c2 : Nat) (ss tt : List ByteArray) (u : World) : Prop where
  kb : CelL u w.heap.size (.int .i64 d1) (.int .i64 f1) (.slice a1 ss.length c1)
  kc : CelL u (w.heap.size + 1) (.int .i64 d2) (.int .i64 f2) (.slice a2 tt.length c2)
  rb : RdS u a1 ss
  rc : RdS u a2 tt
  W : Below w.heap.size w u
theorem Two.below {w : World} {d1 f1 d2 f2 : Int} {a1 a2 : Option Addr} {c1 c2 : Nat} {ss tt : List ByteArray} {u u' : World} (h : Two w d1 f1 d2 f2 a1 a2 c1 c2 ss tt u) (hb : Below u.heap.size u u') : Two w d1 f1 d2 f2 a1 a2 c1 c2 ss tt u' :=
  ⟨h.kb.below hb, h.kc.below hb, h.rb.below hb, h.rc.below hb, h.W.trans (hb.mono h.W.size)⟩
theorem Two.drew {w : World} {d1 f1 d2 f2 : Int} {a1 a2 : Option Addr} {c1 c2 : Nat} {ss tt : List ByteArray} {u : World} (h : Two w d1 f1 d2 f2 a1 a2 c1 c2 ss tt u) : Two w d1 f1 d2 f2 a1 a2 c1 c2 ss tt u.drew :=
  h.below (dr_below ⟨1, rfl⟩ _)
theorem Two.start (w : World) (d1 f1 d2 f2 : Int) (a1 a2 : Option Addr) (c1 c2 : Nat) (ss tt : List ByteArray) (t t' : TypeId) (h1 : RdS w a1 ss) (h2 : RdS w a2 tt) :
    Two w d1 f1 d2 f2 a1 a2 c1 c2 ss tt ((w.alloc (.cells #[.int .i64 d1, .int .i64 f1, .slice a1 ss.length c1] t)).alloc (.cells #[.int .i64 d2, .int .i64 f2, .slice a2 tt.length c2] t')) :=
  ⟨(CelL.new w _ _ _ _).below (bel_new _ _), by have := CelL.new (w.alloc (.cells #[.int .i64 d1, .int .i64 f1, .slice a1 ss.length c1] t)) (.int .i64 d2) (.int .i64 f2) (.slice a2 tt.length c2) t'; simpa using this, (h1.alloc _).alloc _, (h2.alloc _).alloc _, (bel_new w _).trans ((bel_new _ _).mono (by simp))⟩
end Go.Proofs.Ytolnhmmgmkehfaa
