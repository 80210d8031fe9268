/- Cards in part: eqCard at two equal cards, a card's block, what a made card tells. -/
import Derived.Test.YtcddajghmdnkcaaStrsL
import Derived.Deep.Onto
namespace Go.Proofs.Ytcddajghmdnkcaa
open Go.RowKit
set_option linter.unusedVariables false
set_option linter.unusedSimpArgs false

theorem bcell {W w1 : World} (hb : Below W.heap.size W w1) : (∀ b o, b < W.heap.size → w1.cell? ⟨b, o, none⟩ = W.cell? ⟨b, o, none⟩) ∧ (∀ b o, b < W.heap.size → w1.frozen? ⟨b, o, none⟩ = W.frozen? ⟨b, o, none⟩) :=
  ⟨fun b o h => hb.cell (p := ⟨b, o, none⟩) h, fun b o h => hb.frozen (p := ⟨b, o, none⟩) h⟩
theorem OwnS.drewN {B : Nat} {v : Value} {ss : List ByteArray} {w : World} (h : OwnS B v ss w) (n : Nat) : OwnS B v ss (w.drewN n) := h
theorem RdS.drewN {a : Option Addr} {ss : List ByteArray} {w : World} (h : RdS w a ss) (n : Nat) : RdS (w.drewN n) a ss := h.below (dr_below ⟨n, rfl⟩ _)
theorem RdS.alloc {a : Option Addr} {ss : List ByteArray} {w : World} (h : RdS w a ss) (o : Obj) : RdS (w.alloc o) a ss := h.below ((Below.refl _ _).alloc (Nat.le_refl _) _)
set_option maxHeartbeats 800000 in
theorem eqCard_same (w : World) (d f : Int) (a1 a2 : Option Addr) (c1 c2 : Nat) (ss : List ByteArray) (h1 : RdS w a1 ss) (h2 : RdS w a2 ss) (hm : ss.length ≤ maxLen) :
    Calls Try.prog 10 #[.agg #[.int .i64 d, .int .i64 f, .slice a1 ss.length c1], .agg #[.int .i64 d, .int .i64 f, .slice a2 ss.length c2]] w fun e w' => e = .returned (.bool true) ∧ Below w.heap.size w w' := by
  go_enter Try.func10, Try.ntmps10
  go_wp2_with fail
  refine (eqStringS_same _ _ _ _ _ _ ((h1.alloc _).alloc _) ((h2.alloc _).alloc _) hm).mono ?_
  rintro e w' ⟨rfl, n, rfl⟩
  go_wp2
  go_ret
  exact ⟨rfl, dr_bel (((Below.refl _ _).alloc (Nat.le_refl _) _).alloc (by first | (simp; done) | (simp; omega)) _) ⟨_, rfl⟩⟩

theorem OwnS.rd {B n c : Nat} {a : Option Addr} {ss : List ByteArray} {w : World} (h : OwnS B (.slice a n c) ss w) : RdS w a ss := by
  obtain ⟨a', c', e, hr⟩ := h.read
  obtain ⟨rfl, _⟩ : a = a' ∧ True := by simpa using (Value.slice.inj e).1
  exact hr
/-- A block of a card. -/
def Blk (w : World) (b : Nat) (x y z : Value) : Prop := w.heap[b]? = some (.cells #[x, y, z] 29 (0, 0))
theorem Blk.c0 {w : World} {b : Nat} {x y z : Value} (h : Blk w b x y z) : w.cell? ⟨b, 0, none⟩ = some x := by unfold Blk at h; simp [World.cell?, h]
theorem Blk.c1 {w : World} {b : Nat} {x y z : Value} (h : Blk w b x y z) : w.cell? ⟨b, 1, none⟩ = some y := by unfold Blk at h; simp [World.cell?, h]
theorem Blk.c2 {w : World} {b : Nat} {x y z : Value} (h : Blk w b x y z) : w.cell? ⟨b, 2, none⟩ = some z := by unfold Blk at h; simp [World.cell?, h]
theorem Blk.fz {w : World} {b : Nat} {x y z : Value} (h : Blk w b x y z) (o : Nat) : w.frozen? ⟨b, o, none⟩ = false := by unfold Blk at h; simp [World.frozen?, h]
theorem Blk.lt {w : World} {b : Nat} {x y z : Value} (h : Blk w b x y z) : b < w.heap.size := (Array.getElem?_eq_some_iff.1 h).1
theorem Blk.of {w w' : World} {b : Nat} {x y z : Value} (h : Blk w b x y z) (e : w'.heap[b]? = w.heap[b]?) : Blk w' b x y z := e.trans h
theorem Blk.below {w w' : World} {b : Nat} {x y z : Value} (h : Blk w b x y z) (hb : Below w.heap.size w w') : Blk w' b x y z := h.of (hb.block b h.lt)
theorem Blk.grown {w w' : World} {b : Nat} {x y z : Value} {row : Option Nat} (h : Blk w b x y z) (hg : w.grownBy w' row) (hr : some b ≠ row) : Blk w' b x y z := h.of (hg.block b h.lt hr)
theorem Blk.alloc {w : World} {b : Nat} {x y z : Value} (h : Blk w b x y z) (o : Obj) : Blk (w.alloc o) b x y z := h.of (Below.heap_alloc w o b h.lt)
theorem Blk.set2 {w : World} {b : Nat} {x y z : Value} (h : Blk w b x y z) (u : Value) : Blk (w.setCell ⟨b, 2, none⟩ u) b x y u := by
  have := heap_setCell_same w b 2 #[x, y, z] _ u h
  simpa [Blk] using this
theorem Blk.other {w : World} {b : Nat} {x y z : Value} (h : Blk w b x y z) {a : Addr} (ha : b ≠ a.block) (u : Value) : Blk (w.setCell a u) b x y z := h.of (Below.heap_setCell w a u b ha)
theorem Blk.new (w : World) (x y z : Value) : Blk (w.alloc (.cells #[x, y, z] 29)) w.heap.size x y z := heap_alloc_new w _
theorem Blk.new' {w : World} {b : Nat} (hb : b = w.heap.size) (x y z : Value) : Blk (w.alloc (.cells #[x, y, z] 29)) b x y z := by subst hb; exact heap_alloc_new w _


end Go.Proofs.Ytcddajghmdnkcaa
