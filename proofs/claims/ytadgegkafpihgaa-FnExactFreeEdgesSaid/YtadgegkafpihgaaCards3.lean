/- Contracts of FreeEdges. -/
import Derived.Test.YtadgegkafpihgaaCards2
namespace Go.Proofs.Ytadgegkafpihgaa
open Go.RowKit
set_option linter.unusedVariables false
set_option linter.unusedSimpArgs false

set_option maxHeartbeats 1600000 in
theorem implFreeEdges_any (w : World) (d f : Int) (a : Option Addr) (c : Nat) (ss : List ByteArray) (h : RdS w a ss) (hz : SzS ss) :
    Calls Try.prog 37 #[.agg #[.int .i64 d, .int .i64 f, .slice a ss.length c]] w fun e w' => e = .returned (.int .i64 (feV d f ss)) ∧ Below w.heap.size w w' := by
  cases hk : okC d f ss with
  | false =>
  have R := Lib.hid (feV_no hk)
  go_enter Try.func37, Try.ntmps37
  go_wp2_with fail
  refine (implCardOk_any _ _ _ _ _ _ (h.alloc _) hz).mono ?_
  rintro e u0 ⟨rfl, b0⟩
  obtain ⟨hc, hf'⟩ := bcell b0
  have hsz := b0.size
  have k0 : u0.cell? ⟨w.heap.size, 0, none⟩ = some (.int .i64 d) := by rw [hc _ _ (by simp)]; simp [go_sem]
  have k1 : u0.cell? ⟨w.heap.size, 1, none⟩ = some (.int .i64 f) := by rw [hc _ _ (by simp)]; simp [go_sem]
  have k2 : u0.cell? ⟨w.heap.size, 2, none⟩ = some (.slice a ss.length c) := by rw [hc _ _ (by simp)]; simp [go_sem]
  have B0 : Below w.heap.size w u0 := ((Below.refl _ _).alloc (Nat.le_refl _) _).trans (b0.mono (by simp))
  have hwu : w.heap.size < u0.heap.size := by simp at hsz; omega
  have r0 := h.below B0
  clear hc hf' hsz b0
  go_wp2
  go_ret
  exact ⟨ret_int R.out.symm, B0⟩
  | true =>
  have R := Lib.hid (feV_yes hk)
  have Y := Lib.hid (clV_yes hk)
  have hcl := clN_le ss ss.length
  obtain ⟨⟨d1, d2, f1, f2⟩, ⟨l1, l2⟩, _⟩ := (okC_iff d f ss).1 hk
  have X1 : Hid (IntKind.i64.wrap (d + f) = d + f) := Lib.hid (IntWalk.i64_in _ (by omega))
  have X2 : Hid (IntKind.i64.wrap (2 * (clN ss ss.length : Int)) = 2 * (clN ss ss.length : Int)) := Lib.hid (IntWalk.i64_in _ (by omega))
  have X3 : Hid (IntKind.i64.wrap (2 * (d + f)) = 2 * (d + f)) := Lib.hid (IntWalk.i64_in _ (by omega))
  have X4 : Hid (IntKind.i64.wrap (2 * (clN ss ss.length : Int) + 2 * (d + f)) = 2 * (clN ss ss.length : Int) + 2 * (d + f)) := Lib.hid (IntWalk.i64_in _ (by omega))
  go_enter Try.func37, Try.ntmps37
  go_wp2_with fail
  refine (implCardOk_any _ _ _ _ _ _ (h.alloc _) hz).mono ?_
  rintro e u0 ⟨rfl, b0⟩
  obtain ⟨hc, hf'⟩ := bcell b0
  have hsz := b0.size
  have k0 : u0.cell? ⟨w.heap.size, 0, none⟩ = some (.int .i64 d) := by rw [hc _ _ (by simp)]; simp [go_sem]
  have k1 : u0.cell? ⟨w.heap.size, 1, none⟩ = some (.int .i64 f) := by rw [hc _ _ (by simp)]; simp [go_sem]
  have k2 : u0.cell? ⟨w.heap.size, 2, none⟩ = some (.slice a ss.length c) := by rw [hc _ _ (by simp)]; simp [go_sem]
  have B0 : Below w.heap.size w u0 := ((Below.refl _ _).alloc (Nat.le_refl _) _).trans (b0.mono (by simp))
  have hwu : w.heap.size < u0.heap.size := by simp at hsz; omega
  have r0 := h.below B0
  clear hc hf' hsz b0
  go_wp2
  go_region_with ((go_at_call 35; refine (implCutLength_any _ _ _ _ _ _ (show RdS u0.drew a ss from r0) hz).mono ?_; rw [Y.out]; rintro e u1 ⟨rfl, b1⟩; have j0 := (b1.cell (p := ⟨w.heap.size, 0, none⟩) hwu).trans k0; have j1 := (b1.cell (p := ⟨w.heap.size, 1, none⟩) hwu).trans k1; have B1 := (dr_bel B0 ⟨1, rfl⟩).trans (b1.mono B0.size)))
  all_goals
    go_wp2
    go_ret
    exact ⟨ret_int (by first | exact R.out.symm | (rw [X1.out, X2.out, X3.out, X4.out]; exact R.out.symm)), B1⟩

set_option maxHeartbeats 1600000 in
theorem specFreeEdges_any (w : World) (d f : Int) (a : Option Addr) (c : Nat) (ss : List ByteArray) (h : RdS w a ss) (hz : SzS ss) :
    Calls Try.prog 36 #[.agg #[.int .i64 d, .int .i64 f, .slice a ss.length c]] w fun e w' => e = .returned (.int .i64 (feV d f ss)) ∧ Below w.heap.size w w' := by
  cases hk : okC d f ss with
  | false =>
  have R := Lib.hid (feV_no hk)
  have Y := Lib.hid (clV_no hk)
  go_enter Try.func36, Try.ntmps36
  go_wp2_with fail
  refine (specCutLength_any _ _ _ _ _ _ (h.alloc _) hz).mono ?_
  rintro e u0 ⟨rfl, b0⟩
  rw [Y.out]
  obtain ⟨hc, hf'⟩ := bcell b0
  have hsz := b0.size
  have k0 : u0.cell? ⟨w.heap.size, 0, none⟩ = some (.int .i64 d) := by rw [hc _ _ (by simp)]; simp [go_sem]
  have k1 : u0.cell? ⟨w.heap.size, 1, none⟩ = some (.int .i64 f) := by rw [hc _ _ (by simp)]; simp [go_sem]
  have B0 : Below w.heap.size w u0 := ((Below.refl _ _).alloc (Nat.le_refl _) _).trans (b0.mono (by simp))
  clear hc hf' b0
  go_wp2
  go_ret
  exact ⟨ret_int R.out.symm, B0⟩
  | true =>
  have R := Lib.hid (feV_yes hk)
  have Y := Lib.hid (clV_yes hk)
  have hcl := clN_le ss ss.length
  obtain ⟨⟨d1, d2, f1, f2⟩, ⟨l1, l2⟩, _⟩ := (okC_iff d f ss).1 hk
  go_enter Try.func36, Try.ntmps36
  go_wp2_with fail
  refine (specCutLength_any _ _ _ _ _ _ (h.alloc _) hz).mono ?_
  rintro e u0 ⟨rfl, b0⟩
  rw [Y.out]
  obtain ⟨hc, hf'⟩ := bcell b0
  have hsz := b0.size
  have k0 : u0.cell? ⟨w.heap.size, 0, none⟩ = some (.int .i64 d) := by rw [hc _ _ (by simp)]; simp [go_sem]
  have k1 : u0.cell? ⟨w.heap.size, 1, none⟩ = some (.int .i64 f) := by rw [hc _ _ (by simp)]; simp [go_sem]
  have B0 : Below w.heap.size w u0 := ((Below.refl _ _).alloc (Nat.le_refl _) _).trans (b0.mono (by simp))
  clear hc hf' b0
  go_wp2
  go_ret
  exact ⟨ret_int R.out.symm, B0⟩

end Go.Proofs.Ytadgegkafpihgaa
