/- Contracts of TileCount, CutLength, FreeEdges. -/
import Derived.Test.YtmpbhhggbmjfcaaCards
import Derived.Test.YtmpbhhggbmjfcaaCutFns
import Derived.Deep.RegionWith
namespace Go.Proofs.Ytmpbhhggbmjfcaa
open Go.RowKit
set_option linter.unusedVariables false
set_option linter.unusedSimpArgs false

def tcV (d f : Int) (ss : List ByteArray) : Int := if okC d f ss then (ss.length : Int) * (d + f) else -1
theorem tcV_no {d f : Int} {ss : List ByteArray} (h : okC d f ss = false) : tcV d f ss = -1 := by unfold tcV; rw [h]; rfl
theorem tcV_yes {d f : Int} {ss : List ByteArray} (h : okC d f ss = true) : tcV d f ss = (ss.length : Int) * (d + f) := by unfold tcV; rw [if_pos h]
/-- The cuts between the first k strips. -/
def clN (ss : List ByteArray) : Nat → Nat
  | 0 => 0
  | k + 1 => clN ss k + if 1 ≤ k then (cutV (sel ss (k - 1)) (sel ss k)).length else 0
theorem clN_one (ss : List ByteArray) : clN ss 1 = 0 := rfl
theorem clN_succ (ss : List ByteArray) {k : Nat} (h : 1 ≤ k) : clN ss (k + 1) = clN ss k + (cutV (sel ss (k - 1)) (sel ss k)).length := by show clN ss k + (if 1 ≤ k then _ else 0) = _; rw [if_pos h]
theorem clN_le (ss : List ByteArray) (k : Nat) : clN ss k ≤ 16 * k := by
  induction k with
  | zero => exact Nat.le_refl _
  | succ k ih =>
    have := cutV_le16 (sel ss (k - 1)) (sel ss k)
    unfold clN; split <;> omega
def clV (d f : Int) (ss : List ByteArray) : Int := if okC d f ss then (clN ss ss.length : Int) else -1
theorem clV_no {d f : Int} {ss : List ByteArray} (h : okC d f ss = false) : clV d f ss = -1 := by unfold clV; rw [h]; rfl
theorem clV_yes {d f : Int} {ss : List ByteArray} (h : okC d f ss = true) : clV d f ss = clN ss ss.length := by unfold clV; rw [if_pos h]
def feV (d f : Int) (ss : List ByteArray) : Int := if okC d f ss then 2 * (clN ss ss.length : Int) + 2 * (d + f) else -1
theorem feV_no {d f : Int} {ss : List ByteArray} (h : okC d f ss = false) : feV d f ss = -1 := by unfold feV; rw [h]; rfl
theorem feV_yes {d f : Int} {ss : List ByteArray} (h : okC d f ss = true) : feV d f ss = 2 * (clN ss ss.length : Int) + 2 * (d + f) := by unfold feV; rw [if_pos h]
theorem ownI_slice {B : Nat} {v : Value} {xs : List Int} {w : World} (h : OwnI B v xs w) : ∃ a c, v = .slice a xs.length c := by
  rcases h.form with ⟨a, c, rfl, h0⟩ | ⟨g, cap, rfl, _⟩
  · exact ⟨a, c, by rw [h0]; rfl⟩
  · exact ⟨_, _, rfl⟩

set_option maxHeartbeats 1600000 in
theorem implTileCount_any (w : World) (d f : Int) (a : Option Addr) (c : Nat) (ss : List ByteArray) (h : RdS w a ss) (hz : SzS ss) :
    Calls Try.prog 45 #[.agg #[.int .i64 d, .int .i64 f, .slice a ss.length c]] w fun e w' => e = .returned (.int .i64 (tcV d f ss)) ∧ Below w.heap.size w w' := by
  cases hk : okC d f ss with
  | false =>
  have R := Lib.hid (tcV_no hk)
  go_enter Try.func45, Try.ntmps45
  go_wp2_with fail
  refine (implCardOk_any _ _ _ _ _ _ (h.alloc _) hz).mono ?_
  rintro e u0 ⟨rfl, b0⟩
  obtain ⟨hc, hf'⟩ := bcell b0
  have hsz := b0.size
  have k0 : u0.cell? ⟨w.heap.size, 0, none⟩ = some (.int .i64 d) := by rw [hc _ _ (by simp)]; simp [go_sem]
  have k1 : u0.cell? ⟨w.heap.size, 1, none⟩ = some (.int .i64 f) := by rw [hc _ _ (by simp)]; simp [go_sem]
  have k2 : u0.cell? ⟨w.heap.size, 2, none⟩ = some (.slice a ss.length c) := by rw [hc _ _ (by simp)]; simp [go_sem]
  have B0 : Below w.heap.size w u0 := ((Below.refl _ _).alloc (Nat.le_refl _) _).trans (b0.mono (by simp))
  have hwu : w.heap.size < u0.heap.size := by simp at hsz; omega
  have r0 := h.below B0
  clear hc hf' hsz b0
  go_wp2
  go_ret
  exact ⟨ret_int R.out.symm, B0⟩
  | true =>
  have R := Lib.hid (tcV_yes hk)
  obtain ⟨⟨d1, d2, f1, f2⟩, ⟨l1, l2⟩, _⟩ := (okC_iff d f ss).1 hk
  have m0 : 0 ≤ (ss.length : Int) * (d + f) := Int.mul_nonneg (by omega) (by omega)
  have m1 : (ss.length : Int) * (d + f) ≤ 10 * 16 := Int.mul_le_mul (by omega) (by omega) (by omega) (by omega)
  go_enter Try.func45, Try.ntmps45
  go_wp2_with fail
  refine (implCardOk_any _ _ _ _ _ _ (h.alloc _) hz).mono ?_
  rintro e u0 ⟨rfl, b0⟩
  obtain ⟨hc, hf'⟩ := bcell b0
  have hsz := b0.size
  have k0 : u0.cell? ⟨w.heap.size, 0, none⟩ = some (.int .i64 d) := by rw [hc _ _ (by simp)]; simp [go_sem]
  have k1 : u0.cell? ⟨w.heap.size, 1, none⟩ = some (.int .i64 f) := by rw [hc _ _ (by simp)]; simp [go_sem]
  have k2 : u0.cell? ⟨w.heap.size, 2, none⟩ = some (.slice a ss.length c) := by rw [hc _ _ (by simp)]; simp [go_sem]
  have B0 : Below w.heap.size w u0 := ((Below.refl _ _).alloc (Nat.le_refl _) _).trans (b0.mono (by simp))
  have hwu : w.heap.size < u0.heap.size := by simp at hsz; omega
  have r0 := h.below B0
  clear hc hf' hsz b0
  go_wp2
  go_ret
  exact ⟨ret_int R.out.symm, B0⟩

end Go.Proofs.Ytmpbhhggbmjfcaa
