/- Slices of ints that the call made: what they read as; the contract of eqIntS at two equal lists. -/
import Derived.Test.YtmpbhhggbmjfcaaRows
import Derived.Test.YtmpbhhggbmjfcaaOwn
import Derived.Test.YtmpbhhggbmjfcaaCorner
import Derived.Deep.QuietTactic
import Derived.BigQuiet
import Derived.IntWalk
import Derived.Lib.Hide
namespace Go.Proofs.Ytmpbhhggbmjfcaa
open Go.RowKit
set_option linter.unusedVariables false

theorem Try.info3 : (Try.prog.info? 3).map (fun i => (i.zero, i.size, i.bytes)) = some (some (.int .i64 0), 1, 8) := by kernel_rfl
def intCells (xs : List Int) : List Value := xs.map (Value.int .i64)
/-- The slice v, made by the call (its block is B or later), reads as xs. -/
def OwnI (B : Nat) (v : Value) (xs : List Int) (w : World) : Prop := w.ownsRow B 3 1 v xs.length (intCells xs)
theorem OwnI.below {B : Nat} {v : Value} {xs : List Int} {w w' : World} (h : OwnI B v xs w) (hb : Below w.heap.size w w') : OwnI B v xs w' := own_below h hb
/-- .. kept where all blocks below B' are kept and its own lies below B'. -/
theorem OwnI.kept {B B' : Nat} {v : Value} {xs : List Int} {w0 w w' : World} (h : OwnI B v xs w0) (hb0 : Below w0.heap.size w0 w) (hB : w0.heap.size ≤ B') (hb : Below B' w w') : OwnI B v xs w' :=
  own_below h ⟨hb.os.trans hb0.os, hb.tape.trans hb0.tape, hb.output.trans hb0.output, Nat.le_trans hb0.size hb.size, fun k hk => (hb.block k (Nat.lt_of_lt_of_le hk hB)).trans (hb0.block k hk)⟩
theorem OwnI.drewN {B : Nat} {v : Value} {xs : List Int} {w : World} (h : OwnI B v xs w) (n : Nat) : OwnI B v xs (w.drewN n) := h
theorem OwnI.form {B : Nat} {v : Value} {xs : List Int} {w : World} (h : OwnI B v xs w) :
    (∃ a c, v = .slice a 0 c ∧ xs = []) ∨ ∃ g cap, v = .slice (some ⟨g, 0, none⟩) xs.length cap ∧ B ≤ g ∧ 0 < xs.length := by
  rcases h.2 with ⟨rfl, h0⟩ | ⟨g, cap, cur, rfl, hg, _⟩
  · exact .inl ⟨_, _, rfl, List.length_eq_zero_iff.1 h0⟩
  · rcases Nat.eq_zero_or_pos xs.length with h0 | h0
    · exact .inl ⟨_, _, by rw [h0], List.length_eq_zero_iff.1 h0⟩
    · exact .inr ⟨g, cap, rfl, hg, h0⟩
theorem OwnI.cell {B g n cap : Nat} {xs : List Int} {w : World} (h : OwnI B (.slice (some ⟨g, 0, none⟩) n cap) xs w) (j : Nat) (hj : j < xs.length) : w.cell? ⟨g, j, none⟩ = some (.int .i64 xs[j]) := by
  have := h.cells (g := g) rfl j (.int .i64 xs[j]) (by simp [intCells, List.getElem?_eq_getElem hj])
  rwa [show (⟨g, 0, none⟩ : Addr).add j = ⟨g, j, none⟩ from by unfold Addr.add; split <;> simp_all] at this
theorem OwnI.frozen {B g n cap : Nat} {xs : List Int} {w : World} (h : OwnI B (.slice (some ⟨g, 0, none⟩) n cap) xs w) (j : Nat) : w.frozen? ⟨g, j, none⟩ = false := by
  rcases h.2 with ⟨h1, _⟩ | ⟨g', cap', cur, h1, _, hg, _⟩
  · cases h1
  · simp only [Value.slice.injEq, Option.some.injEq, Addr.mk.injEq] at h1
    obtain ⟨⟨rfl, _⟩, _⟩ := h1
    unfold World.frozen?; rw [hg]; simp
theorem OwnI.set {B g n cap : Nat} {xs : List Int} {w : World} (h : OwnI B (.slice (some ⟨g, 0, none⟩) n cap) xs w) (j : Nat) (x : Int) : OwnI B (.slice (some ⟨g, 0, none⟩) n cap) (xs.set j x) (w.setCell ⟨g, j, none⟩ (.int .i64 x)) := by
  unfold OwnI at h ⊢
  have hl := h.1
  refine ⟨by simp [intCells], ?_⟩
  rcases h.2 with ⟨h1, _⟩ | ⟨g', cap', cur, h1, hB, hg, hle, hcap, hsz, htake⟩
  · cases h1
  · simp only [Value.slice.injEq, Option.some.injEq, Addr.mk.injEq] at h1
    obtain ⟨⟨rfl, _⟩, h2, rfl⟩ := h1
    refine .inr ⟨g, cap, cur.setIfInBounds j (.int .i64 x), by rw [List.length_set, h2], hB, heap_setCell_same w g j cur _ _ hg, by rw [List.length_set]; exact hle, hcap, by simpa using hsz, ?_⟩
    rw [List.length_set, Array.toList_setIfInBounds, List.take_set, htake]
    simp [intCells, List.map_set]
theorem OwnI.nonneg {B : Nat} {v : Value} {xs : List Int} {w : World} (h : OwnI B v xs w) : xs.length ≤ maxLen := by
  rcases h.2 with ⟨_, h0⟩ | ⟨g, cap, cur, _, _, _, hle, hcap, _⟩
  · rw [h0]; exact Nat.zero_le _
  · exact Nat.le_trans hle hcap
/-- A new empty slice that is not nil. -/
theorem ownI_made (w : World) (B : Nat) (hB : B ≤ w.heap.size) : OwnI B (.slice (some ⟨w.heap.size, 0, none⟩) 0 0) [] (w.alloc (.cells #[] 3)) := World.ownsRow_made w #[] 0 hB (Nat.zero_le _) rfl
theorem ownI_nil (w : World) (B : Nat) : OwnI B (.slice none 0 0) [] w := World.ownsRow_nil w B _ _
theorem ownI_snoc {B n : Nat} {v : Value} {xs : List Int} {x : Int} {w : World} (hn : n = xs.length) (h : w.ownsRow B 3 1 v (n + 1) (intCells xs ++ [.int .i64 x])) : OwnI B v (xs ++ [x]) w := by
  subst hn; unfold OwnI intCells; rw [List.map_append, List.length_append]; exact h

/-- The marks m, m + 1, .. on the first k places. -/
def pm (m : Int) (k : Nat) (xs : List Int) : List Int := (List.range xs.length).map fun j => if j < k then m + j else xs.getD j 0
theorem pm_length (m : Int) (k : Nat) (xs : List Int) : (pm m k xs).length = xs.length := by simp [pm]
theorem pm_zero (m : Int) (xs : List Int) : pm m 0 xs = xs := by
  apply List.ext_getElem
  · exact pm_length _ _ _
  · intro i h1 h2; simp [pm, h2]
theorem pm_succ (m : Int) (k : Nat) (xs : List Int) : (pm m k xs).set k (m + k) = pm m (k + 1) xs := by
  apply List.ext_getElem
  · rw [List.length_set, pm_length, pm_length]
  · intro i h1 h2
    rw [List.getElem_set]
    split
    · rename_i h; subst h; simp [pm]
    · rename_i h
      simp only [pm, List.getElem_map, List.getElem_range]
      by_cases hik : i < k
      · rw [if_pos hik, if_pos (by omega)]
      · rw [if_neg hik, if_neg (by omega)]
def marks (m : Int) (n : Nat) : List Int := (List.range n).map fun (j : Nat) => m + (j : Int)
theorem marks_length (m : Int) (n : Nat) : (marks m n).length = n := by simp [marks]
theorem pm_all (m : Int) (xs : List Int) : pm m xs.length xs = marks m xs.length := by
  apply List.ext_getElem
  · rw [pm_length, marks_length]
  · intro i h1 h2
    rw [marks_length] at h2
    simp [pm, marks, h2]
theorem marks_get (m : Int) (n j : Nat) (h : j < (marks m n).length) : (marks m n)[j] = m + j := by simp [marks]

set_option maxHeartbeats 800000 in
theorem eqIntS_same (v1 v2 : Value) (B1 B2 : Nat) (xs : List Int) (w : World) (h1 : OwnI B1 v1 xs w) (h2 : OwnI B2 v2 xs w) :
    Calls Try.prog 51 #[v1, v2] w fun e w' => e = .returned (.bool true) ∧ ∃ n, w' = w.drewN n := by
  have hmx := h1.nonneg
  unfold maxLen at hmx
  rcases h1.form with ⟨a1, c1, rfl, rfl⟩ | ⟨g1, cap1, rfl, _, hpos⟩
  · rcases h2.form with ⟨a2, c2, rfl, _⟩ | ⟨g2, cap2, _, _, hpos⟩
    · clear h1 h2 hmx
      go_enter Try.func51, Try.ntmps51
      go_wp2
      refine wp_loop_rounds 1 ?_
      rw [rounds_succ]
      go_wp2
      go_ret
      exact ⟨rfl, dr_refl _⟩
    · simp at hpos
  · rcases h2.form with ⟨a2, c2, _, h0⟩ | ⟨g2, cap2, rfl, _, _⟩
    · rw [h0] at hpos; simp at hpos
    generalize hn : xs.length = n at *
    go_enter Try.func51, Try.ntmps51
    go_wp2
    go_loopw [5] (fun i wr => ∃ k : Nat, k ≤ n ∧ i = .int .i64 k ∧ ∃ q, wr = w.drewN q) (fun i _ => n - (intOf i).toNat)
    case atStart => exact ⟨0, Nat.zero_le _, rfl, dr_refl _⟩
    case round =>
      obtain ⟨k, hk, rfl, q, rfl⟩ := hrel
      by_cases hlt : k < n
      · have hc1 := h1.cell k (by omega)
        have hc2 := h2.cell k (by omega)
        have e1 : (k : Int) < (n : Int) := by omega
        go_wp2
        go_quiet (fail)
        go_wp2
        go_roundw
        case rel => exact ⟨k + 1, by omega, by go_num, _, rfl⟩
        case measure => simp [intOf]; omega
      · obtain rfl : k = n := by omega
        go_wp2
        go_ret
        exact ⟨rfl, _, rfl⟩

end Go.Proofs.Ytmpbhhggbmjfcaa
