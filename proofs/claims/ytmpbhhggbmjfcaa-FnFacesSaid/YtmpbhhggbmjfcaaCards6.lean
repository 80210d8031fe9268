/- Contract of impl.AreJoined. -/
import Derived.Test.YtmpbhhggbmjfcaaCards5
import Derived.Test.YtmpbhhggbmjfcaaHand
import Derived.Deep.RegionHeld3
namespace Go.Proofs.Ytmpbhhggbmjfcaa
open Go.RowKit
set_option linter.unusedVariables false
set_option linter.unusedSimpArgs false

theorem rd_cell {u : World} {b o j : Nat} {ss : List ByteArray} (h : RdS u (some ⟨b, o, none⟩) ss) (hj : j < ss.length) : u.cell? ⟨b, o + j, none⟩ = some (.string (sel ss j)) := by
  rcases h with h | ⟨b', o', h', _, _, hc⟩
  · cases h; exact absurd hj (by simp)
  · cases h'; exact hc j hj
set_option maxRecDepth 20000 in
set_option maxHeartbeats 1600000 in
theorem implAreJoined_n (w : World) (d f : Int) (a : Option Addr) (c : Nat) (ss : List ByteArray) (h : RdS w a ss) (hz : SzS ss) (k i j : Int) (hne : ¬ i = j) :
    Calls Try.prog 48 #[.agg #[.int .i64 d, .int .i64 f, .slice a ss.length c], .int .i64 k, .int .i64 i, .int .i64 j] w fun e w' => e = .returned (.bool (joV d f ss k i j)) ∧ Below w.heap.size w w' := by
  have R := Lib.hid (joV_ne (d := d) (f := f) (k := k) (ss := ss) hne)
  have hb : (i == j) = false := beq_eq_false_iff_ne.2 hne
  clear hne
  have k0 : (w.alloc (.cells #[.int .i64 d, .int .i64 f, .slice a ss.length c] 34)).cell? ⟨w.heap.size, 0, none⟩ = some (.int .i64 d) := by simp [go_sem]
  have k1 : (w.alloc (.cells #[.int .i64 d, .int .i64 f, .slice a ss.length c] 34)).cell? ⟨w.heap.size, 1, none⟩ = some (.int .i64 f) := by simp [go_sem]
  have k2 : (w.alloc (.cells #[.int .i64 d, .int .i64 f, .slice a ss.length c] 34)).cell? ⟨w.heap.size, 2, none⟩ = some (.slice a ss.length c) := by simp [go_sem]
  have B0 : Below w.heap.size w (w.alloc (.cells #[.int .i64 d, .int .i64 f, .slice a ss.length c] 34)) := (Below.refl _ _).alloc (Nat.le_refl _) _
  have hwu : w.heap.size < (w.alloc (.cells #[.int .i64 d, .int .i64 f, .slice a ss.length c] 34)).heap.size := by simp
  have r0 : RdS (w.alloc (.cells #[.int .i64 d, .int .i64 f, .slice a ss.length c] 34)) a ss := h.alloc _
  go_enter Try.func48, Try.ntmps48
  go_wp2
  generalize (w.alloc (.cells #[.int .i64 d, .int .i64 f, .slice a ss.length c] 34)) = u0 at *
  refine wp_hand (S := fun w' => w'.cell? ⟨w.heap.size, 0, none⟩ = some (.int .i64 d) ∧ w'.cell? ⟨w.heap.size, 1, none⟩ = some (.int .i64 f) ∧ w'.cell? ⟨w.heap.size, 2, none⟩ = some (.slice a ss.length c) ∧ RdS w' a ss ∧ Below w.heap.size w w' ∧ w.heap.size < w'.heap.size) (by kernel_rfl) ⟨k0, k1, k2, r0, dr_bel B0 ⟨1, rfl⟩, hwu⟩ (fun _ _ d _ _ h => by cases d <;> exact h) (fun hBl hHeld => ?_)
  refine take2 (i := 0) (v := ?_) (d := some 9) hBl rfl rfl (by kernel_rfl) (by kernel_rfl) (by kernel_rfl) (by kernel_rfl) ?_ hHeld ?_
  rotate_left
  · (intro w hSw; (try dsimp only at hSw); go_simp <;> with_reducible rfl)
  try simp only [Act.put, List.setIfInBounds_toArray, List.set_cons_zero, List.set_cons_succ]
  refine take2 (i := 1) (v := ?_) (d := some 10) hBl rfl rfl (by kernel_rfl) (by kernel_rfl) (by kernel_rfl) (by kernel_rfl) ?_ hHeld ?_
  rotate_left
  · (intro w hSw; (try dsimp only at hSw); go_simp <;> with_reducible rfl)
  try simp only [Act.put, List.setIfInBounds_toArray, List.set_cons_zero, List.set_cons_succ]
  refine take2 (i := 2) (v := ?_) (d := some 11) hBl rfl rfl (by kernel_rfl) (by kernel_rfl) (by kernel_rfl) (by kernel_rfl) ?_ hHeld ?_
  rotate_left
  · (intro w hSw; (try dsimp only at hSw); go_simp <;> with_reducible rfl)
  try simp only [Act.put, List.setIfInBounds_toArray, List.set_cons_zero, List.set_cons_succ]
  refine take2 (i := 3) (v := ?_) (d := some 12) hBl rfl rfl (by kernel_rfl) (by kernel_rfl) (by kernel_rfl) (by kernel_rfl) ?_ hHeld ?_
  rotate_left
  · (intro w hSw; (try dsimp only at hSw); go_simp <;> with_reducible rfl)
  try simp only [Act.put, List.setIfInBounds_toArray, List.set_cons_zero, List.set_cons_succ]
  refine skip_all (fuel := 24) hBl hHeld [4, 5, 6, 7] (by kernel_rfl) (by kernel_rfl) (by kernel_rfl) (by kernel_rfl) ?_
  refine take2 (i := 8) (v := ?_) (d := some 17) hBl rfl rfl (by kernel_rfl) (by kernel_rfl) (by kernel_rfl) (by kernel_rfl) ?_ hHeld ?_
  rotate_left
  · (intro w hSw; (try dsimp only at hSw); go_simp <;> with_reducible rfl)
  try simp only [Act.put, List.setIfInBounds_toArray, List.set_cons_zero, List.set_cons_succ]
  refine take2 (i := 9) (v := ?_) (d := some 18) hBl rfl rfl (by kernel_rfl) (by kernel_rfl) (by kernel_rfl) (by kernel_rfl) ?_ hHeld ?_
  rotate_left
  · (intro w hSw; (try dsimp only at hSw); go_simp <;> with_reducible rfl)
  try simp only [Act.put, List.setIfInBounds_toArray, List.set_cons_zero, List.set_cons_succ]
  refine skip_all (fuel := 17) hBl hHeld [10, 11, 12, 13, 14] (by kernel_rfl) (by kernel_rfl) (by kernel_rfl) (by kernel_rfl) ?_
  refine take2 (i := 15) (v := ?_) (d := some 24) hBl rfl rfl (by kernel_rfl) (by kernel_rfl) (by kernel_rfl) (by kernel_rfl) ?_ hHeld ?_
  rotate_left
  · (intro w hSw; (try dsimp only at hSw); go_simp <;> with_reducible rfl)
  try simp only [Act.put, List.setIfInBounds_toArray, List.set_cons_zero, List.set_cons_succ]
  refine take2 (i := 16) (v := ?_) (d := some 25) hBl rfl rfl (by kernel_rfl) (by kernel_rfl) (by kernel_rfl) (by kernel_rfl) ?_ hHeld ?_
  rotate_left
  · (intro w hSw; (try dsimp only at hSw); go_simp <;> with_reducible rfl)
  try simp only [Act.put, List.setIfInBounds_toArray, List.set_cons_zero, List.set_cons_succ]
  refine skip_all (fuel := 2) hBl hHeld [17, 18, 19, 20, 21, 22, 23, 24, 25, 26, 27, 28, 29] (by kernel_rfl) (by kernel_rfl) (by kernel_rfl) (by kernel_rfl) ?_
  refine take2 (i := 30) (v := ?_) (d := some 39) hBl rfl rfl (by kernel_rfl) (by kernel_rfl) (by kernel_rfl) (by kernel_rfl) ?_ hHeld ?_
  rotate_left
  · (intro w hSw; (try dsimp only at hSw); go_simp <;> with_reducible rfl)
  try simp only [Act.put, List.setIfInBounds_toArray, List.set_cons_zero, List.set_cons_succ]
  refine take2 (i := 31) (v := ?_) (d := some 8) hBl rfl rfl (by kernel_rfl) (by kernel_rfl) (by kernel_rfl) (by kernel_rfl) ?_ hHeld ?_
  rotate_left
  · (intro w hSw; (try dsimp only at hSw); go_simp <;> with_reducible rfl)
  try simp only [Act.put, List.setIfInBounds_toArray, List.set_cons_zero, List.set_cons_succ]
  refine wpAnyH_done (by kernel_rfl) ?_ _
  go_wp2
  go_ret
  exact ⟨ret_bool R.out.symm, dr_bel B0 ⟨1, rfl⟩⟩

set_option maxRecDepth 20000 in
set_option maxHeartbeats 1600000 in
theorem implAreJoined_a (w : World) (d f : Int) (a : Option Addr) (c : Nat) (ss : List ByteArray) (h : RdS w a ss) (hz : SzS ss) (k i : Int) (ht : tile d f ss k i = false) :
    Calls Try.prog 48 #[.agg #[.int .i64 d, .int .i64 f, .slice a ss.length c], .int .i64 k, .int .i64 i, .int .i64 i] w fun e w' => e = .returned (.bool (joV d f ss k i i)) ∧ Below w.heap.size w w' := by
  have R := Lib.hid (joV_a ht)
  have hb : (i == i) = true := beq_self_eq_true i
  have k0 : (w.alloc (.cells #[.int .i64 d, .int .i64 f, .slice a ss.length c] 34)).cell? ⟨w.heap.size, 0, none⟩ = some (.int .i64 d) := by simp [go_sem]
  have k1 : (w.alloc (.cells #[.int .i64 d, .int .i64 f, .slice a ss.length c] 34)).cell? ⟨w.heap.size, 1, none⟩ = some (.int .i64 f) := by simp [go_sem]
  have k2 : (w.alloc (.cells #[.int .i64 d, .int .i64 f, .slice a ss.length c] 34)).cell? ⟨w.heap.size, 2, none⟩ = some (.slice a ss.length c) := by simp [go_sem]
  have B0 : Below w.heap.size w (w.alloc (.cells #[.int .i64 d, .int .i64 f, .slice a ss.length c] 34)) := (Below.refl _ _).alloc (Nat.le_refl _) _
  have hwu : w.heap.size < (w.alloc (.cells #[.int .i64 d, .int .i64 f, .slice a ss.length c] 34)).heap.size := by simp
  have r0 : RdS (w.alloc (.cells #[.int .i64 d, .int .i64 f, .slice a ss.length c] 34)) a ss := h.alloc _
  go_enter Try.func48, Try.ntmps48
  go_wp2
  generalize (w.alloc (.cells #[.int .i64 d, .int .i64 f, .slice a ss.length c] 34)) = u0 at *
  refine wp_hand (S := fun w' => w'.cell? ⟨w.heap.size, 0, none⟩ = some (.int .i64 d) ∧ w'.cell? ⟨w.heap.size, 1, none⟩ = some (.int .i64 f) ∧ w'.cell? ⟨w.heap.size, 2, none⟩ = some (.slice a ss.length c) ∧ RdS w' a ss ∧ Below w.heap.size w w' ∧ w.heap.size < w'.heap.size) (by kernel_rfl) ⟨k0, k1, k2, r0, dr_bel B0 ⟨1, rfl⟩, hwu⟩ (fun _ _ d _ _ h => by cases d <;> exact h) (fun hBl hHeld => ?_)
  refine take2 (i := 0) (v := ?_) (d := some 9) hBl rfl rfl (by kernel_rfl) (by kernel_rfl) (by kernel_rfl) (by kernel_rfl) ?_ hHeld ?_
  rotate_left
  · (intro w hSw; (try dsimp only at hSw); go_simp <;> with_reducible rfl)
  try simp only [Act.put, List.setIfInBounds_toArray, List.set_cons_zero, List.set_cons_succ]
  refine take2 (i := 1) (v := ?_) (d := some 10) hBl rfl rfl (by kernel_rfl) (by kernel_rfl) (by kernel_rfl) (by kernel_rfl) ?_ hHeld ?_
  rotate_left
  · (intro w hSw; (try dsimp only at hSw); go_simp <;> with_reducible rfl)
  try simp only [Act.put, List.setIfInBounds_toArray, List.set_cons_zero, List.set_cons_succ]
  refine take2 (i := 2) (v := ?_) (d := some 11) hBl rfl rfl (by kernel_rfl) (by kernel_rfl) (by kernel_rfl) (by kernel_rfl) ?_ hHeld ?_
  rotate_left
  · (intro w hSw; (try dsimp only at hSw); go_simp <;> with_reducible rfl)
  try simp only [Act.put, List.setIfInBounds_toArray, List.set_cons_zero, List.set_cons_succ]
  refine take2 (i := 3) (v := ?_) (d := some 12) hBl rfl rfl (by kernel_rfl) (by kernel_rfl) (by kernel_rfl) (by kernel_rfl) ?_ hHeld ?_
  rotate_left
  · (intro w hSw; (try dsimp only at hSw); go_simp <;> with_reducible rfl)
  try simp only [Act.put, List.setIfInBounds_toArray, List.set_cons_zero, List.set_cons_succ]
  refine take2 (i := 4) (v := ?_) (d := some 13) hBl rfl rfl (by kernel_rfl) (by kernel_rfl) (by kernel_rfl) (by kernel_rfl) ?_ hHeld ?_
  rotate_left
  · (intro w hSw; (try dsimp only at hSw); go_simp <;> with_reducible rfl)
  try simp only [Act.put, List.setIfInBounds_toArray, List.set_cons_zero, List.set_cons_succ]
  refine take2 (i := 5) (v := ?_) (d := some 14) hBl rfl rfl (by kernel_rfl) (by kernel_rfl) (by kernel_rfl) (by kernel_rfl) ?_ hHeld ?_
  rotate_left
  · (intro w hSw; (try dsimp only at hSw); go_simp <;> with_reducible rfl)
  try simp only [Act.put, List.setIfInBounds_toArray, List.set_cons_zero, List.set_cons_succ]
  refine take2 (i := 6) (v := ?_) (d := some 15) hBl rfl rfl (by kernel_rfl) (by kernel_rfl) (by kernel_rfl) (by kernel_rfl) ?_ hHeld ?_
  rotate_left
  · (intro w hSw; (try dsimp only at hSw); go_simp <;> with_reducible rfl)
  try simp only [Act.put, List.setIfInBounds_toArray, List.set_cons_zero, List.set_cons_succ]
  refine wpAnyH_ready (rs := [7]) (by kernel_rfl) (by simp) ?_
  refine AllReadyH.cons rfl (fun K hK => ?_) AllReadyH.nil
  go_simp
  (go_at_call 62; refine (hasTile_any _ _ _ _ _ _ (show RdS u0.drew a ss from r0) hz k i).mono ?_; rw [ht]; rintro e u1 ⟨rfl, b1⟩; have m0_1 := (b1.cell (p := ⟨w.heap.size, 0, none⟩) hwu).trans k0; have m1_1 := (b1.cell (p := ⟨w.heap.size, 1, none⟩) hwu).trans k1; have m2_1 := (b1.cell (p := ⟨w.heap.size, 2, none⟩) hwu).trans k2; have B_1 := Below.trans (dr_bel B0 ⟨1, rfl⟩) (b1.mono (Below.size (dr_bel B0 ⟨1, rfl⟩))); have r_1 := RdS.below (show RdS u0.drew a ss from r0) b1; have hw_1 := Nat.lt_of_lt_of_le hwu b1.size)
  go_wp2_with fail
  refine hK.out _ _ ⟨m0_1, m1_1, m2_1, r_1, B_1, hw_1⟩ (fun hHeld => ?_)
  clear hK K
  try simp only [Act.put, List.setIfInBounds_toArray, List.set_cons_zero, List.set_cons_succ]
  refine take2 (i := 8) (v := ?_) (d := some 17) hBl rfl rfl (by kernel_rfl) (by kernel_rfl) (by kernel_rfl) (by kernel_rfl) ?_ hHeld ?_
  rotate_left
  · (intro w hSw; (try dsimp only at hSw); go_simp <;> with_reducible rfl)
  try simp only [Act.put, List.setIfInBounds_toArray, List.set_cons_zero, List.set_cons_succ]
  refine take2 (i := 9) (v := ?_) (d := some 18) hBl rfl rfl (by kernel_rfl) (by kernel_rfl) (by kernel_rfl) (by kernel_rfl) ?_ hHeld ?_
  rotate_left
  · (intro w hSw; (try dsimp only at hSw); go_simp <;> with_reducible rfl)
  try simp only [Act.put, List.setIfInBounds_toArray, List.set_cons_zero, List.set_cons_succ]
  refine skip_all (fuel := 17) hBl hHeld [10, 11, 12, 13, 14] (by kernel_rfl) (by kernel_rfl) (by kernel_rfl) (by kernel_rfl) ?_
  refine take2 (i := 15) (v := ?_) (d := some 24) hBl rfl rfl (by kernel_rfl) (by kernel_rfl) (by kernel_rfl) (by kernel_rfl) ?_ hHeld ?_
  rotate_left
  · (intro w hSw; (try dsimp only at hSw); go_simp <;> with_reducible rfl)
  try simp only [Act.put, List.setIfInBounds_toArray, List.set_cons_zero, List.set_cons_succ]
  refine take2 (i := 16) (v := ?_) (d := some 25) hBl rfl rfl (by kernel_rfl) (by kernel_rfl) (by kernel_rfl) (by kernel_rfl) ?_ hHeld ?_
  rotate_left
  · (intro w hSw; (try dsimp only at hSw); go_simp <;> with_reducible rfl)
  try simp only [Act.put, List.setIfInBounds_toArray, List.set_cons_zero, List.set_cons_succ]
  refine skip_all (fuel := 2) hBl hHeld [17, 18, 19, 20, 21, 22, 23, 24, 25, 26, 27, 28, 29] (by kernel_rfl) (by kernel_rfl) (by kernel_rfl) (by kernel_rfl) ?_
  refine take2 (i := 30) (v := ?_) (d := some 39) hBl rfl rfl (by kernel_rfl) (by kernel_rfl) (by kernel_rfl) (by kernel_rfl) ?_ hHeld ?_
  rotate_left
  · (intro w hSw; (try dsimp only at hSw); go_simp <;> with_reducible rfl)
  try simp only [Act.put, List.setIfInBounds_toArray, List.set_cons_zero, List.set_cons_succ]
  refine take2 (i := 31) (v := ?_) (d := some 8) hBl rfl rfl (by kernel_rfl) (by kernel_rfl) (by kernel_rfl) (by kernel_rfl) ?_ hHeld ?_
  rotate_left
  · (intro w hSw; (try dsimp only at hSw); go_simp <;> with_reducible rfl)
  try simp only [Act.put, List.setIfInBounds_toArray, List.set_cons_zero, List.set_cons_succ]
  refine wpAnyH_done (by kernel_rfl) ?_ _
  go_wp2
  go_ret
  exact ⟨ret_bool R.out.symm, B_1⟩

set_option maxRecDepth 20000 in
set_option maxHeartbeats 1600000 in
theorem implAreJoined_b (w : World) (d f : Int) (a : Option Addr) (c : Nat) (ss : List ByteArray) (h : RdS w a ss) (hz : SzS ss) (k i : Int) (ht : tile d f ss k i = true) (ht2 : tile d f ss (k + 1) i = false) (hkw : k + 1 ≤ 9223372036854775807) :
    Calls Try.prog 48 #[.agg #[.int .i64 d, .int .i64 f, .slice a ss.length c], .int .i64 k, .int .i64 i, .int .i64 i] w fun e w' => e = .returned (.bool (joV d f ss k i i)) ∧ Below w.heap.size w w' := by
  obtain ⟨hok, hkr, hir⟩ := (tile_iff d f k i ss).1 ht
  have e2 : IntKind.i64.wrap (k + 1) = k + 1 := IntWalk.i64_in _ (by omega)
  have R := Lib.hid (joV_b ht2)
  obtain ⟨q1, q2⟩ := hkr
  obtain ⟨q3, q4⟩ := hir
  clear hok
  have hb : (i == i) = true := beq_self_eq_true i
  have k0 : (w.alloc (.cells #[.int .i64 d, .int .i64 f, .slice a ss.length c] 34)).cell? ⟨w.heap.size, 0, none⟩ = some (.int .i64 d) := by simp [go_sem]
  have k1 : (w.alloc (.cells #[.int .i64 d, .int .i64 f, .slice a ss.length c] 34)).cell? ⟨w.heap.size, 1, none⟩ = some (.int .i64 f) := by simp [go_sem]
  have k2 : (w.alloc (.cells #[.int .i64 d, .int .i64 f, .slice a ss.length c] 34)).cell? ⟨w.heap.size, 2, none⟩ = some (.slice a ss.length c) := by simp [go_sem]
  have B0 : Below w.heap.size w (w.alloc (.cells #[.int .i64 d, .int .i64 f, .slice a ss.length c] 34)) := (Below.refl _ _).alloc (Nat.le_refl _) _
  have hwu : w.heap.size < (w.alloc (.cells #[.int .i64 d, .int .i64 f, .slice a ss.length c] 34)).heap.size := by simp
  have r0 : RdS (w.alloc (.cells #[.int .i64 d, .int .i64 f, .slice a ss.length c] 34)) a ss := h.alloc _
  go_enter Try.func48, Try.ntmps48
  go_wp2
  generalize (w.alloc (.cells #[.int .i64 d, .int .i64 f, .slice a ss.length c] 34)) = u0 at *
  refine wp_hand (S := fun w' => w'.cell? ⟨w.heap.size, 0, none⟩ = some (.int .i64 d) ∧ w'.cell? ⟨w.heap.size, 1, none⟩ = some (.int .i64 f) ∧ w'.cell? ⟨w.heap.size, 2, none⟩ = some (.slice a ss.length c) ∧ RdS w' a ss ∧ Below w.heap.size w w' ∧ w.heap.size < w'.heap.size) (by kernel_rfl) ⟨k0, k1, k2, r0, dr_bel B0 ⟨1, rfl⟩, hwu⟩ (fun _ _ d _ _ h => by cases d <;> exact h) (fun hBl hHeld => ?_)
  refine take2 (i := 0) (v := ?_) (d := some 9) hBl rfl rfl (by kernel_rfl) (by kernel_rfl) (by kernel_rfl) (by kernel_rfl) ?_ hHeld ?_
  rotate_left
  · (intro w hSw; (try dsimp only at hSw); go_simp <;> with_reducible rfl)
  try simp only [Act.put, List.setIfInBounds_toArray, List.set_cons_zero, List.set_cons_succ]
  refine take2 (i := 1) (v := ?_) (d := some 10) hBl rfl rfl (by kernel_rfl) (by kernel_rfl) (by kernel_rfl) (by kernel_rfl) ?_ hHeld ?_
  rotate_left
  · (intro w hSw; (try dsimp only at hSw); go_simp <;> with_reducible rfl)
  try simp only [Act.put, List.setIfInBounds_toArray, List.set_cons_zero, List.set_cons_succ]
  refine take2 (i := 2) (v := ?_) (d := some 11) hBl rfl rfl (by kernel_rfl) (by kernel_rfl) (by kernel_rfl) (by kernel_rfl) ?_ hHeld ?_
  rotate_left
  · (intro w hSw; (try dsimp only at hSw); go_simp <;> with_reducible rfl)
  try simp only [Act.put, List.setIfInBounds_toArray, List.set_cons_zero, List.set_cons_succ]
  refine take2 (i := 3) (v := ?_) (d := some 12) hBl rfl rfl (by kernel_rfl) (by kernel_rfl) (by kernel_rfl) (by kernel_rfl) ?_ hHeld ?_
  rotate_left
  · (intro w hSw; (try dsimp only at hSw); go_simp <;> with_reducible rfl)
  try simp only [Act.put, List.setIfInBounds_toArray, List.set_cons_zero, List.set_cons_succ]
  refine take2 (i := 4) (v := ?_) (d := some 13) hBl rfl rfl (by kernel_rfl) (by kernel_rfl) (by kernel_rfl) (by kernel_rfl) ?_ hHeld ?_
  rotate_left
  · (intro w hSw; (try dsimp only at hSw); go_simp <;> with_reducible rfl)
  try simp only [Act.put, List.setIfInBounds_toArray, List.set_cons_zero, List.set_cons_succ]
  refine take2 (i := 5) (v := ?_) (d := some 14) hBl rfl rfl (by kernel_rfl) (by kernel_rfl) (by kernel_rfl) (by kernel_rfl) ?_ hHeld ?_
  rotate_left
  · (intro w hSw; (try dsimp only at hSw); go_simp <;> with_reducible rfl)
  try simp only [Act.put, List.setIfInBounds_toArray, List.set_cons_zero, List.set_cons_succ]
  refine take2 (i := 6) (v := ?_) (d := some 15) hBl rfl rfl (by kernel_rfl) (by kernel_rfl) (by kernel_rfl) (by kernel_rfl) ?_ hHeld ?_
  rotate_left
  · (intro w hSw; (try dsimp only at hSw); go_simp <;> with_reducible rfl)
  try simp only [Act.put, List.setIfInBounds_toArray, List.set_cons_zero, List.set_cons_succ]
  refine wpAnyH_ready (rs := [7]) (by kernel_rfl) (by simp) ?_
  refine AllReadyH.cons rfl (fun K hK => ?_) AllReadyH.nil
  go_simp
  (go_at_call 62; refine (hasTile_any _ _ _ _ _ _ (show RdS u0.drew a ss from r0) hz k i).mono ?_; rw [ht]; rintro e u1 ⟨rfl, b1⟩; have m0_1 := (b1.cell (p := ⟨w.heap.size, 0, none⟩) hwu).trans k0; have m1_1 := (b1.cell (p := ⟨w.heap.size, 1, none⟩) hwu).trans k1; have m2_1 := (b1.cell (p := ⟨w.heap.size, 2, none⟩) hwu).trans k2; have B_1 := Below.trans (dr_bel B0 ⟨1, rfl⟩) (b1.mono (Below.size (dr_bel B0 ⟨1, rfl⟩))); have r_1 := RdS.below (show RdS u0.drew a ss from r0) b1; have hw_1 := Nat.lt_of_lt_of_le hwu b1.size)
  go_wp2_with fail
  refine hK.out _ _ ⟨m0_1, m1_1, m2_1, r_1, B_1, hw_1⟩ (fun hHeld => ?_)
  clear hK K
  try simp only [Act.put, List.setIfInBounds_toArray, List.set_cons_zero, List.set_cons_succ]
  refine take2 (i := 8) (v := ?_) (d := some 17) hBl rfl rfl (by kernel_rfl) (by kernel_rfl) (by kernel_rfl) (by kernel_rfl) ?_ hHeld ?_
  rotate_left
  · (intro w hSw; (try dsimp only at hSw); go_simp <;> with_reducible rfl)
  try simp only [Act.put, List.setIfInBounds_toArray, List.set_cons_zero, List.set_cons_succ]
  refine take2 (i := 9) (v := ?_) (d := some 18) hBl rfl rfl (by kernel_rfl) (by kernel_rfl) (by kernel_rfl) (by kernel_rfl) ?_ hHeld ?_
  rotate_left
  · (intro w hSw; (try dsimp only at hSw); go_simp <;> with_reducible rfl)
  try simp only [Act.put, List.setIfInBounds_toArray, List.set_cons_zero, List.set_cons_succ]
  refine take2 (i := 10) (v := ?_) (d := some 19) hBl rfl rfl (by kernel_rfl) (by kernel_rfl) (by kernel_rfl) (by kernel_rfl) ?_ hHeld ?_
  rotate_left
  · (intro w hSw; (try dsimp only at hSw); go_simp <;> with_reducible rfl)
  try simp only [Act.put, List.setIfInBounds_toArray, List.set_cons_zero, List.set_cons_succ]
  refine take2 (i := 11) (v := ?_) (d := some 20) hBl rfl rfl (by kernel_rfl) (by kernel_rfl) (by kernel_rfl) (by kernel_rfl) ?_ hHeld ?_
  rotate_left
  · (intro w hSw; (try dsimp only at hSw); go_simp <;> with_reducible rfl)
  try simp only [Act.put, List.setIfInBounds_toArray, List.set_cons_zero, List.set_cons_succ]
  refine take2 (i := 12) (v := ?_) (d := some 21) hBl rfl rfl (by kernel_rfl) (by kernel_rfl) (by kernel_rfl) (by kernel_rfl) ?_ hHeld ?_
  rotate_left
  · (intro w hSw; (try dsimp only at hSw); go_simp <;> with_reducible rfl)
  try simp only [Act.put, List.setIfInBounds_toArray, List.set_cons_zero, List.set_cons_succ]
  refine take2 (i := 13) (v := ?_) (d := some 22) hBl rfl rfl (by kernel_rfl) (by kernel_rfl) (by kernel_rfl) (by kernel_rfl) ?_ hHeld ?_
  rotate_left
  · (intro w hSw; (try dsimp only at hSw); go_simp <;> with_reducible rfl)
  try simp only [Act.put, List.setIfInBounds_toArray, List.set_cons_zero, List.set_cons_succ]
  refine wpAnyH_ready (rs := [14]) (by kernel_rfl) (by simp) ?_
  refine AllReadyH.cons rfl (fun K hK => ?_) AllReadyH.nil
  go_simp
  (go_at_call 62; refine (hasTile_any _ _ _ _ _ _ r_1 hz (k + 1) i).mono ?_; rw [ht2]; rintro e u2 ⟨rfl, b2⟩; have m0_2 := (b2.cell (p := ⟨w.heap.size, 0, none⟩) hw_1).trans m0_1; have m1_2 := (b2.cell (p := ⟨w.heap.size, 1, none⟩) hw_1).trans m1_1; have m2_2 := (b2.cell (p := ⟨w.heap.size, 2, none⟩) hw_1).trans m2_1; have B_2 := Below.trans B_1 (b2.mono (Below.size B_1)); have r_2 := RdS.below r_1 b2; have hw_2 := Nat.lt_of_lt_of_le hw_1 b2.size)
  go_wp2_with fail
  refine hK.out _ _ ⟨m0_2, m1_2, m2_2, r_2, B_2, hw_2⟩ (fun hHeld => ?_)
  clear hK K
  try simp only [Act.put, List.setIfInBounds_toArray, List.set_cons_zero, List.set_cons_succ]
  refine take2 (i := 15) (v := ?_) (d := some 24) hBl rfl rfl (by kernel_rfl) (by kernel_rfl) (by kernel_rfl) (by kernel_rfl) ?_ hHeld ?_
  rotate_left
  · (intro w hSw; (try dsimp only at hSw); go_simp <;> with_reducible rfl)
  try simp only [Act.put, List.setIfInBounds_toArray, List.set_cons_zero, List.set_cons_succ]
  refine take2 (i := 16) (v := ?_) (d := some 25) hBl rfl rfl (by kernel_rfl) (by kernel_rfl) (by kernel_rfl) (by kernel_rfl) ?_ hHeld ?_
  rotate_left
  · (intro w hSw; (try dsimp only at hSw); go_simp <;> with_reducible rfl)
  try simp only [Act.put, List.setIfInBounds_toArray, List.set_cons_zero, List.set_cons_succ]
  refine skip_all (fuel := 2) hBl hHeld [17, 18, 19, 20, 21, 22, 23, 24, 25, 26, 27, 28, 29] (by kernel_rfl) (by kernel_rfl) (by kernel_rfl) (by kernel_rfl) ?_
  refine take2 (i := 30) (v := ?_) (d := some 39) hBl rfl rfl (by kernel_rfl) (by kernel_rfl) (by kernel_rfl) (by kernel_rfl) ?_ hHeld ?_
  rotate_left
  · (intro w hSw; (try dsimp only at hSw); go_simp <;> with_reducible rfl)
  try simp only [Act.put, List.setIfInBounds_toArray, List.set_cons_zero, List.set_cons_succ]
  refine take2 (i := 31) (v := ?_) (d := some 8) hBl rfl rfl (by kernel_rfl) (by kernel_rfl) (by kernel_rfl) (by kernel_rfl) ?_ hHeld ?_
  rotate_left
  · (intro w hSw; (try dsimp only at hSw); go_simp <;> with_reducible rfl)
  try simp only [Act.put, List.setIfInBounds_toArray, List.set_cons_zero, List.set_cons_succ]
  refine wpAnyH_done (by kernel_rfl) ?_ _
  go_wp2
  go_ret
  exact ⟨ret_bool R.out.symm, B_2⟩

set_option maxRecDepth 20000 in
set_option maxHeartbeats 1600000 in
theorem implAreJoined_c (w : World) (d f : Int) (b o : Nat) (c : Nat) (ss : List ByteArray) (h : RdS w (some ⟨b, o, none⟩) ss) (hz : SzS ss) (k i : Nat) (ht : tile d f ss k i = true) (ht2 : tile d f ss ((k : Int) + 1) i = true) (hkn : k < ss.length) (hkn2 : k + 1 < ss.length) (hl : ss.length ≤ 10) (hi : i < (sel ss k).size) (hi2 : i < (sel ss (k + 1)).size) (hib : i ≤ 16) :
    Calls Try.prog 48 #[.agg #[.int .i64 d, .int .i64 f, .slice (some ⟨b, o, none⟩) ss.length c], .int .i64 k, .int .i64 i, .int .i64 i] w fun e w' => e = .returned (.bool (joV d f ss k i i)) ∧ Below w.heap.size w w' := by
  have e2 : IntKind.i64.wrap ((k : Int) + 1) = (k : Int) + 1 := IntWalk.i64_in _ (by omega)
  have e3 : ((k : Int) + 1).toNat = k + 1 := by omega
  have e4 : (0 : Int) ≤ (k : Int) := by omega
  have e5 : (0 : Int) ≤ (k : Int) + 1 := by omega
  have e6 : (k : Int) < (ss.length : Int) := by omega
  have e7 : (k : Int) + 1 < (ss.length : Int) := by omega
  have R : Hid (joV d f ss k i i = sameV (sel ss k) (sel ss (k + 1)) i) := Lib.hid (by rw [joV_yes ht ht2]; simp)
  have hb : ((i : Int) == (i : Int)) = true := beq_self_eq_true _
  have k0 : (w.alloc (.cells #[.int .i64 d, .int .i64 f, .slice (some ⟨b, o, none⟩) ss.length c] 34)).cell? ⟨w.heap.size, 0, none⟩ = some (.int .i64 d) := by simp [go_sem]
  have k1 : (w.alloc (.cells #[.int .i64 d, .int .i64 f, .slice (some ⟨b, o, none⟩) ss.length c] 34)).cell? ⟨w.heap.size, 1, none⟩ = some (.int .i64 f) := by simp [go_sem]
  have k2 : (w.alloc (.cells #[.int .i64 d, .int .i64 f, .slice (some ⟨b, o, none⟩) ss.length c] 34)).cell? ⟨w.heap.size, 2, none⟩ = some (.slice (some ⟨b, o, none⟩) ss.length c) := by simp [go_sem]
  have B0 : Below w.heap.size w (w.alloc (.cells #[.int .i64 d, .int .i64 f, .slice (some ⟨b, o, none⟩) ss.length c] 34)) := (Below.refl _ _).alloc (Nat.le_refl _) _
  have hwu : w.heap.size < (w.alloc (.cells #[.int .i64 d, .int .i64 f, .slice (some ⟨b, o, none⟩) ss.length c] 34)).heap.size := by simp
  have r0 : RdS (w.alloc (.cells #[.int .i64 d, .int .i64 f, .slice (some ⟨b, o, none⟩) ss.length c] 34)) (some ⟨b, o, none⟩) ss := h.alloc _
  go_enter Try.func48, Try.ntmps48
  go_wp2
  generalize (w.alloc (.cells #[.int .i64 d, .int .i64 f, .slice (some ⟨b, o, none⟩) ss.length c] 34)) = u0 at *
  have g0 := rd_cell r0 hkn; have h0 := rd_cell r0 hkn2
  refine wp_hand (S := fun w' => w'.cell? ⟨w.heap.size, 0, none⟩ = some (.int .i64 d) ∧ w'.cell? ⟨w.heap.size, 1, none⟩ = some (.int .i64 f) ∧ w'.cell? ⟨w.heap.size, 2, none⟩ = some (.slice (some ⟨b, o, none⟩) ss.length c) ∧ w'.cell? ⟨b, o + k, none⟩ = some (.string (sel ss k)) ∧ w'.cell? ⟨b, o + (k + 1), none⟩ = some (.string (sel ss (k + 1))) ∧ RdS w' (some ⟨b, o, none⟩) ss ∧ Below w.heap.size w w' ∧ w.heap.size < w'.heap.size) (by kernel_rfl) ⟨k0, k1, k2, g0, h0, r0, dr_bel B0 ⟨1, rfl⟩, hwu⟩ (fun _ _ d _ _ h => by cases d <;> exact h) (fun hBl hHeld => ?_)
  refine take2 (i := 0) (v := ?_) (d := some 9) hBl rfl rfl (by kernel_rfl) (by kernel_rfl) (by kernel_rfl) (by kernel_rfl) ?_ hHeld ?_
  rotate_left
  · (intro w hSw; (try dsimp only at hSw); go_simp <;> with_reducible rfl)
  try simp only [Act.put, List.setIfInBounds_toArray, List.set_cons_zero, List.set_cons_succ]
  refine take2 (i := 1) (v := ?_) (d := some 10) hBl rfl rfl (by kernel_rfl) (by kernel_rfl) (by kernel_rfl) (by kernel_rfl) ?_ hHeld ?_
  rotate_left
  · (intro w hSw; (try dsimp only at hSw); go_simp <;> with_reducible rfl)
  try simp only [Act.put, List.setIfInBounds_toArray, List.set_cons_zero, List.set_cons_succ]
  refine take2 (i := 2) (v := ?_) (d := some 11) hBl rfl rfl (by kernel_rfl) (by kernel_rfl) (by kernel_rfl) (by kernel_rfl) ?_ hHeld ?_
  rotate_left
  · (intro w hSw; (try dsimp only at hSw); go_simp <;> with_reducible rfl)
  try simp only [Act.put, List.setIfInBounds_toArray, List.set_cons_zero, List.set_cons_succ]
  refine take2 (i := 3) (v := ?_) (d := some 12) hBl rfl rfl (by kernel_rfl) (by kernel_rfl) (by kernel_rfl) (by kernel_rfl) ?_ hHeld ?_
  rotate_left
  · (intro w hSw; (try dsimp only at hSw); go_simp <;> with_reducible rfl)
  try simp only [Act.put, List.setIfInBounds_toArray, List.set_cons_zero, List.set_cons_succ]
  refine take2 (i := 4) (v := ?_) (d := some 13) hBl rfl rfl (by kernel_rfl) (by kernel_rfl) (by kernel_rfl) (by kernel_rfl) ?_ hHeld ?_
  rotate_left
  · (intro w hSw; (try dsimp only at hSw); go_simp <;> with_reducible rfl)
  try simp only [Act.put, List.setIfInBounds_toArray, List.set_cons_zero, List.set_cons_succ]
  refine take2 (i := 5) (v := ?_) (d := some 14) hBl rfl rfl (by kernel_rfl) (by kernel_rfl) (by kernel_rfl) (by kernel_rfl) ?_ hHeld ?_
  rotate_left
  · (intro w hSw; (try dsimp only at hSw); go_simp <;> with_reducible rfl)
  try simp only [Act.put, List.setIfInBounds_toArray, List.set_cons_zero, List.set_cons_succ]
  refine take2 (i := 6) (v := ?_) (d := some 15) hBl rfl rfl (by kernel_rfl) (by kernel_rfl) (by kernel_rfl) (by kernel_rfl) ?_ hHeld ?_
  rotate_left
  · (intro w hSw; (try dsimp only at hSw); go_simp <;> with_reducible rfl)
  try simp only [Act.put, List.setIfInBounds_toArray, List.set_cons_zero, List.set_cons_succ]
  refine wpAnyH_ready (rs := [7]) (by kernel_rfl) (by simp) ?_
  refine AllReadyH.cons rfl (fun K hK => ?_) AllReadyH.nil
  go_simp
  (go_at_call 62; refine (hasTile_any _ _ _ _ _ _ (show RdS u0.drew (some ⟨b, o, none⟩) ss from r0) hz k i).mono ?_; rw [ht]; rintro e u1 ⟨rfl, b1⟩; have m0_1 := (b1.cell (p := ⟨w.heap.size, 0, none⟩) hwu).trans k0; have m1_1 := (b1.cell (p := ⟨w.heap.size, 1, none⟩) hwu).trans k1; have m2_1 := (b1.cell (p := ⟨w.heap.size, 2, none⟩) hwu).trans k2; have B_1 := Below.trans (dr_bel B0 ⟨1, rfl⟩) (b1.mono (Below.size (dr_bel B0 ⟨1, rfl⟩))); have r_1 := RdS.below (show RdS u0.drew (some ⟨b, o, none⟩) ss from r0) b1; have hw_1 := Nat.lt_of_lt_of_le hwu b1.size; have g_1 := rd_cell r_1 hkn; have h_1 := rd_cell r_1 hkn2)
  go_wp2_with fail
  refine hK.out _ _ ⟨m0_1, m1_1, m2_1, g_1, h_1, r_1, B_1, hw_1⟩ (fun hHeld => ?_)
  clear hK K
  try simp only [Act.put, List.setIfInBounds_toArray, List.set_cons_zero, List.set_cons_succ]
  refine take2 (i := 8) (v := ?_) (d := some 17) hBl rfl rfl (by kernel_rfl) (by kernel_rfl) (by kernel_rfl) (by kernel_rfl) ?_ hHeld ?_
  rotate_left
  · (intro w hSw; (try dsimp only at hSw); go_simp <;> with_reducible rfl)
  try simp only [Act.put, List.setIfInBounds_toArray, List.set_cons_zero, List.set_cons_succ]
  refine take2 (i := 9) (v := ?_) (d := some 18) hBl rfl rfl (by kernel_rfl) (by kernel_rfl) (by kernel_rfl) (by kernel_rfl) ?_ hHeld ?_
  rotate_left
  · (intro w hSw; (try dsimp only at hSw); go_simp <;> with_reducible rfl)
  try simp only [Act.put, List.setIfInBounds_toArray, List.set_cons_zero, List.set_cons_succ]
  refine take2 (i := 10) (v := ?_) (d := some 19) hBl rfl rfl (by kernel_rfl) (by kernel_rfl) (by kernel_rfl) (by kernel_rfl) ?_ hHeld ?_
  rotate_left
  · (intro w hSw; (try dsimp only at hSw); go_simp <;> with_reducible rfl)
  try simp only [Act.put, List.setIfInBounds_toArray, List.set_cons_zero, List.set_cons_succ]
  refine take2 (i := 11) (v := ?_) (d := some 20) hBl rfl rfl (by kernel_rfl) (by kernel_rfl) (by kernel_rfl) (by kernel_rfl) ?_ hHeld ?_
  rotate_left
  · (intro w hSw; (try dsimp only at hSw); go_simp <;> with_reducible rfl)
  try simp only [Act.put, List.setIfInBounds_toArray, List.set_cons_zero, List.set_cons_succ]
  refine take2 (i := 12) (v := ?_) (d := some 21) hBl rfl rfl (by kernel_rfl) (by kernel_rfl) (by kernel_rfl) (by kernel_rfl) ?_ hHeld ?_
  rotate_left
  · (intro w hSw; (try dsimp only at hSw); go_simp <;> with_reducible rfl)
  try simp only [Act.put, List.setIfInBounds_toArray, List.set_cons_zero, List.set_cons_succ]
  refine take2 (i := 13) (v := ?_) (d := some 22) hBl rfl rfl (by kernel_rfl) (by kernel_rfl) (by kernel_rfl) (by kernel_rfl) ?_ hHeld ?_
  rotate_left
  · (intro w hSw; (try dsimp only at hSw); go_simp <;> with_reducible rfl)
  try simp only [Act.put, List.setIfInBounds_toArray, List.set_cons_zero, List.set_cons_succ]
  refine wpAnyH_ready (rs := [14]) (by kernel_rfl) (by simp) ?_
  refine AllReadyH.cons rfl (fun K hK => ?_) AllReadyH.nil
  go_simp
  (go_at_call 62; refine (hasTile_any _ _ _ _ _ _ r_1 hz (k + 1) i).mono ?_; rw [ht2]; rintro e u2 ⟨rfl, b2⟩; have m0_2 := (b2.cell (p := ⟨w.heap.size, 0, none⟩) hw_1).trans m0_1; have m1_2 := (b2.cell (p := ⟨w.heap.size, 1, none⟩) hw_1).trans m1_1; have m2_2 := (b2.cell (p := ⟨w.heap.size, 2, none⟩) hw_1).trans m2_1; have B_2 := Below.trans B_1 (b2.mono (Below.size B_1)); have r_2 := RdS.below r_1 b2; have hw_2 := Nat.lt_of_lt_of_le hw_1 b2.size; have g_2 := rd_cell r_2 hkn; have h_2 := rd_cell r_2 hkn2)
  go_wp2_with fail
  refine hK.out _ _ ⟨m0_2, m1_2, m2_2, g_2, h_2, r_2, B_2, hw_2⟩ (fun hHeld => ?_)
  clear hK K
  try simp only [Act.put, List.setIfInBounds_toArray, List.set_cons_zero, List.set_cons_succ]
  refine take2 (i := 15) (v := ?_) (d := some 24) hBl rfl rfl (by kernel_rfl) (by kernel_rfl) (by kernel_rfl) (by kernel_rfl) ?_ hHeld ?_
  rotate_left
  · (intro w hSw; (try dsimp only at hSw); go_simp <;> with_reducible rfl)
  try simp only [Act.put, List.setIfInBounds_toArray, List.set_cons_zero, List.set_cons_succ]
  refine take2 (i := 16) (v := ?_) (d := some 25) hBl rfl rfl (by kernel_rfl) (by kernel_rfl) (by kernel_rfl) (by kernel_rfl) ?_ hHeld ?_
  rotate_left
  · (intro w hSw; (try dsimp only at hSw); go_simp <;> with_reducible rfl)
  try simp only [Act.put, List.setIfInBounds_toArray, List.set_cons_zero, List.set_cons_succ]
  refine take2 (i := 17) (v := ?_) (d := some 26) hBl rfl rfl (by kernel_rfl) (by kernel_rfl) (by kernel_rfl) (by kernel_rfl) ?_ hHeld ?_
  rotate_left
  · (intro w hSw; (try dsimp only at hSw); go_simp <;> with_reducible rfl)
  try simp only [Act.put, List.setIfInBounds_toArray, List.set_cons_zero, List.set_cons_succ]
  refine take2 (i := 18) (v := ?_) (d := some 27) hBl rfl rfl (by kernel_rfl) (by kernel_rfl) (by kernel_rfl) (by kernel_rfl) ?_ hHeld ?_
  rotate_left
  · (intro w hSw; (try dsimp only at hSw); go_simp <;> with_reducible rfl)
  try simp only [Act.put, List.setIfInBounds_toArray, List.set_cons_zero, List.set_cons_succ]
  refine take2 (i := 19) (v := ?_) (d := some 28) hBl rfl rfl (by kernel_rfl) (by kernel_rfl) (by kernel_rfl) (by kernel_rfl) ?_ hHeld ?_
  rotate_left
  · (intro w hSw; (try dsimp only at hSw); go_simp <;> with_reducible rfl)
  try simp only [Act.put, List.setIfInBounds_toArray, List.set_cons_zero, List.set_cons_succ]
  refine take2 (i := 20) (v := ?_) (d := some 29) hBl rfl rfl (by kernel_rfl) (by kernel_rfl) (by kernel_rfl) (by kernel_rfl) ?_ hHeld ?_
  rotate_left
  · (intro w hSw; (try dsimp only at hSw); go_simp <;> with_reducible rfl)
  try simp only [Act.put, List.setIfInBounds_toArray, List.set_cons_zero, List.set_cons_succ]
  refine take2 (i := 21) (v := ?_) (d := some 30) hBl rfl rfl (by kernel_rfl) (by kernel_rfl) (by kernel_rfl) (by kernel_rfl) ?_ hHeld ?_
  rotate_left
  · (intro w hSw; (try dsimp only at hSw); go_simp <;> with_reducible rfl)
  try simp only [Act.put, List.setIfInBounds_toArray, List.set_cons_zero, List.set_cons_succ]
  refine take2 (i := 22) (v := ?_) (d := some 31) hBl rfl rfl (by kernel_rfl) (by kernel_rfl) (by kernel_rfl) (by kernel_rfl) ?_ hHeld ?_
  rotate_left
  · (intro w hSw; (try dsimp only at hSw); go_simp <;> with_reducible rfl)
  try simp only [Act.put, List.setIfInBounds_toArray, List.set_cons_zero, List.set_cons_succ]
  refine take2 (i := 23) (v := ?_) (d := some 32) hBl rfl rfl (by kernel_rfl) (by kernel_rfl) (by kernel_rfl) (by kernel_rfl) ?_ hHeld ?_
  rotate_left
  · (intro w hSw; (try dsimp only at hSw); go_simp <;> with_reducible rfl)
  try simp only [Act.put, List.setIfInBounds_toArray, List.set_cons_zero, List.set_cons_succ]
  refine take2 (i := 24) (v := ?_) (d := some 33) hBl rfl rfl (by kernel_rfl) (by kernel_rfl) (by kernel_rfl) (by kernel_rfl) ?_ hHeld ?_
  rotate_left
  · (intro w hSw; (try dsimp only at hSw); go_simp <;> with_reducible rfl)
  try simp only [Act.put, List.setIfInBounds_toArray, List.set_cons_zero, List.set_cons_succ]
  refine take2 (i := 25) (v := ?_) (d := some 34) hBl rfl rfl (by kernel_rfl) (by kernel_rfl) (by kernel_rfl) (by kernel_rfl) ?_ hHeld ?_
  rotate_left
  · (intro w hSw; (try dsimp only at hSw); go_simp <;> with_reducible rfl)
  try simp only [Act.put, List.setIfInBounds_toArray, List.set_cons_zero, List.set_cons_succ]
  refine take2 (i := 26) (v := ?_) (d := some 35) hBl rfl rfl (by kernel_rfl) (by kernel_rfl) (by kernel_rfl) (by kernel_rfl) ?_ hHeld ?_
  rotate_left
  · (intro w hSw; (try dsimp only at hSw); go_simp <;> with_reducible rfl)
  try simp only [Act.put, List.setIfInBounds_toArray, List.set_cons_zero, List.set_cons_succ]
  refine take2 (i := 27) (v := ?_) (d := some 36) hBl rfl rfl (by kernel_rfl) (by kernel_rfl) (by kernel_rfl) (by kernel_rfl) ?_ hHeld ?_
  rotate_left
  · (intro w hSw; (try dsimp only at hSw); go_simp <;> with_reducible rfl)
  try simp only [Act.put, List.setIfInBounds_toArray, List.set_cons_zero, List.set_cons_succ]
  refine take2 (i := 28) (v := ?_) (d := some 37) hBl rfl rfl (by kernel_rfl) (by kernel_rfl) (by kernel_rfl) (by kernel_rfl) ?_ hHeld ?_
  rotate_left
  · (intro w hSw; (try dsimp only at hSw); go_simp <;> with_reducible rfl)
  try simp only [Act.put, List.setIfInBounds_toArray, List.set_cons_zero, List.set_cons_succ]
  refine wpAnyH_ready (rs := [29]) (by kernel_rfl) (by simp) ?_
  refine AllReadyH.cons rfl (fun K hK => ?_) AllReadyH.nil
  go_simp
  (go_at_call 81; refine (isSameStepC _ _ i hi hi2 (hz.2 _) (hz.2 _) (by omega) _).mono ?_; rintro e u3 ⟨rfl, n3, rfl⟩; have b3 := dr_bel (Below.refl u2.heap.size u2) ⟨n3, rfl⟩; have m0_3 := (b3.cell (p := ⟨w.heap.size, 0, none⟩) hw_2).trans m0_2; have m1_3 := (b3.cell (p := ⟨w.heap.size, 1, none⟩) hw_2).trans m1_2; have m2_3 := (b3.cell (p := ⟨w.heap.size, 2, none⟩) hw_2).trans m2_2; have B_3 := Below.trans B_2 (b3.mono (Below.size B_2)); have r_3 := RdS.below r_2 b3; have hw_3 := Nat.lt_of_lt_of_le hw_2 b3.size; have g_3 := rd_cell r_3 hkn; have h_3 := rd_cell r_3 hkn2)
  go_wp2_with fail
  refine hK.out _ _ ⟨m0_3, m1_3, m2_3, g_3, h_3, r_3, B_3, hw_3⟩ (fun hHeld => ?_)
  clear hK K
  try simp only [Act.put, List.setIfInBounds_toArray, List.set_cons_zero, List.set_cons_succ]
  refine take2 (i := 30) (v := ?_) (d := some 39) hBl rfl rfl (by kernel_rfl) (by kernel_rfl) (by kernel_rfl) (by kernel_rfl) ?_ hHeld ?_
  rotate_left
  · (intro w hSw; (try dsimp only at hSw); go_simp <;> with_reducible rfl)
  try simp only [Act.put, List.setIfInBounds_toArray, List.set_cons_zero, List.set_cons_succ]
  refine take2 (i := 31) (v := ?_) (d := some 8) hBl rfl rfl (by kernel_rfl) (by kernel_rfl) (by kernel_rfl) (by kernel_rfl) ?_ hHeld ?_
  rotate_left
  · (intro w hSw; (try dsimp only at hSw); go_simp <;> with_reducible rfl)
  try simp only [Act.put, List.setIfInBounds_toArray, List.set_cons_zero, List.set_cons_succ]
  refine wpAnyH_done (by kernel_rfl) ?_ _
  go_wp2
  go_ret
  exact ⟨ret_bool R.out.symm, B_3⟩

end Go.Proofs.Ytmpbhhggbmjfcaa
