/- Contracts of PlainCard, both sides. -/
import Derived.Test.YtmpbhhggbmjfcaaCards
import Derived.Test.YtmpbhhggbmjfcaaOwn2
import Derived.Deep.RegionWith
import Derived.Deep.RegionLaw
namespace Go.Proofs.Ytmpbhhggbmjfcaa
open Go.RowKit
set_option linter.unusedVariables false
set_option linter.unusedSimpArgs false

def flV (d f : Int) : ByteArray := if 1 ≤ d ∧ d ≤ 8 ∧ 1 ≤ f ∧ f ≤ 8 then flatS d.toNat f.toNat else ⟨#[]⟩
theorem specFlat_any (d f : Int) (w : World) :
    Calls Try.prog 108 #[.int .i64 d, .int .i64 f] w fun e w' => e = .returned (.string (flV d f)) ∧ Below w.heap.size w w' := by
  by_cases h : 1 ≤ d ∧ d ≤ 8 ∧ 1 ≤ f ∧ f ≤ 8
  · obtain ⟨d, rfl⟩ : ∃ n : Nat, d = n := ⟨d.toNat, by omega⟩
    obtain ⟨f, rfl⟩ : ∃ n : Nat, f = n := ⟨f.toNat, by omega⟩
    refine (specFlatStrip_yes d f (by omega) (by omega) (by omega) (by omega) w).mono ?_
    rintro e w' ⟨rfl, hb⟩
    exact ⟨ret_str (by unfold flV; rw [if_pos h]; rfl), hb⟩
  · refine (specFlatStrip_no d f h w).mono ?_
    rintro e w' ⟨rfl, rfl⟩
    exact ⟨ret_str (by unfold flV; rw [if_neg h]), Below.refl _ _⟩
theorem flV_size (d f : Int) : (flV d f).size ≤ 16 := by
  unfold flV; split
  · unfold flatS; rw [ByteArray.size_append, repS_size, repS_size]; omega
  · exact Nat.zero_le _
/-- k flat strips. -/
def flS (d f : Int) (k : Nat) : List ByteArray := List.replicate k (flV d f)
theorem flS_length (d f : Int) (k : Nat) : (flS d f k).length = k := by simp [flS]
theorem flS_sel (d f : Int) (k j : Nat) : sel (flS d f k) j = flV d f ∨ sel (flS d f k) j = ByteArray.empty := by
  rcases Nat.lt_or_ge j k with h | h
  · left; rw [sel_get _ _ (by rw [flS_length]; exact h)]; simp [flS]
  · right; unfold sel; rw [List.getD_eq_getElem?_getD, List.getElem?_eq_none (by rw [flS_length]; exact h)]; rfl
theorem flS_sz (d f : Int) (k : Nat) (hk : k ≤ 1000) : SzS (flS d f k) := by
  refine ⟨by rw [flS_length]; unfold maxLen; omega, fun j => ?_⟩
  have := flV_size d f
  rcases flS_sel d f k j with h | h <;> rw [h]
  · unfold maxLen; omega
  · exact Nat.zero_le _
theorem flS_snoc {B k : Nat} {g cap : Nat} {d f : Int} {w : World} (h : w.ownsRow B 9 1 (.slice (some ⟨g, 0, none⟩) (k + 1) cap) (k + 1) (strCells (flS d f k) ++ [.string (flV d f)])) : OwnS B (.slice (some ⟨g, 0, none⟩) (k + 1) cap) (flS d f (k + 1)) w := by
  unfold OwnS
  rw [flS_length]
  have : strCells (flS d f (k + 1)) = strCells (flS d f k) ++ [.string (flV d f)] := by simp [strCells, flS, List.replicate_succ']
  rw [this]; exact h

/-- A block of a card. -/
def Blk (w : World) (b : Nat) (x y z : Value) : Prop := w.heap[b]? = some (.cells #[x, y, z] 34 (0, 0))
theorem Blk.c0 {w : World} {b : Nat} {x y z : Value} (h : Blk w b x y z) : w.cell? ⟨b, 0, none⟩ = some x := by unfold Blk at h; simp [World.cell?, h]
theorem Blk.c1 {w : World} {b : Nat} {x y z : Value} (h : Blk w b x y z) : w.cell? ⟨b, 1, none⟩ = some y := by unfold Blk at h; simp [World.cell?, h]
theorem Blk.c2 {w : World} {b : Nat} {x y z : Value} (h : Blk w b x y z) : w.cell? ⟨b, 2, none⟩ = some z := by unfold Blk at h; simp [World.cell?, h]
theorem Blk.fz {w : World} {b : Nat} {x y z : Value} (h : Blk w b x y z) (o : Nat) : w.frozen? ⟨b, o, none⟩ = false := by unfold Blk at h; simp [World.frozen?, h]
theorem Blk.lt {w : World} {b : Nat} {x y z : Value} (h : Blk w b x y z) : b < w.heap.size := (Array.getElem?_eq_some_iff.1 h).1
theorem Blk.of {w w' : World} {b : Nat} {x y z : Value} (h : Blk w b x y z) (e : w'.heap[b]? = w.heap[b]?) : Blk w' b x y z := e.trans h
theorem Blk.below {w w' : World} {b : Nat} {x y z : Value} (h : Blk w b x y z) (hb : Below w.heap.size w w') : Blk w' b x y z := h.of (hb.block b h.lt)
theorem Blk.grown {w w' : World} {b : Nat} {x y z : Value} {row : Option Nat} (h : Blk w b x y z) (hg : w.grownBy w' row) (hr : some b ≠ row) : Blk w' b x y z := h.of (hg.block b h.lt hr)
theorem Blk.alloc {w : World} {b : Nat} {x y z : Value} (h : Blk w b x y z) (o : Obj) : Blk (w.alloc o) b x y z := h.of (Below.heap_alloc w o b h.lt)
theorem Blk.set2 {w : World} {b : Nat} {x y z : Value} (h : Blk w b x y z) (u : Value) : Blk (w.setCell ⟨b, 2, none⟩ u) b x y u := by
  have := heap_setCell_same w b 2 #[x, y, z] _ u h
  simpa [Blk] using this
theorem Blk.other {w : World} {b : Nat} {x y z : Value} (h : Blk w b x y z) {a : Addr} (ha : b ≠ a.block) (u : Value) : Blk (w.setCell a u) b x y z := h.of (Below.heap_setCell w a u b ha)
theorem Blk.new (w : World) (x y z : Value) : Blk (w.alloc (.cells #[x, y, z] 34)) w.heap.size x y z := heap_alloc_new w _
theorem Blk.new' {w : World} {b : Nat} (hb : b = w.heap.size) (x y z : Value) : Blk (w.alloc (.cells #[x, y, z] 34)) b x y z := by subst hb; exact heap_alloc_new w _

theorem below_grown2 {B B' : Nat} {w wr w1 : World} {u : Value} {o : Obj} {e size n : Nat} {xs : List Value} (hb : Below B w wr) (hB : B ≤ wr.heap.size) (hBB : B ≤ B') (hown : wr.ownsRow B' e size u n xs) (hg : (wr.alloc o).grownBy w1 u.ownBlock) : Below B w w1 :=
  (hb.alloc hB o).grown hg (by simp; omega) (fun j hj => Nat.le_trans hBB (hown.lt j hj).1)
theorem own_mk {B k : Nat} {v : Value} {d f : Int} {w : World} (h : OwnS B v (flS d f k) w) : Hid (w.ownsRow B 9 1 v k (strCells (flS d f k))) := by
  unfold OwnS at h; rw [flS_length] at h; exact h
/-- What a card that was made so tells. -/
def CardR (B : Nat) (d f : Int) (ss : List ByteArray) (ok : Bool) (e : Ending) (w' : World) : Prop := ∃ a c, e = .returned (.tuple #[.agg #[.int .i64 d, .int .i64 f, .slice a ss.length c], .bool ok]) ∧ OwnS B (.slice a ss.length c) ss w'
theorem own_ne {B k n size : Nat} {e : TypeId} {v : Value} {xs : List Value} {w : World} (h : w.ownsRow B e size v n xs) (hk : k < B) : some k ≠ v.ownBlock := fun e => by have := (h.lt k e.symm).1; omega

end Go.Proofs.Ytmpbhhggbmjfcaa
