/- Runs of numbers that follow one another, as rows of a first and a last one: plain lists. -/
import Derived.Test.YtmpbhhggbmjfcaaOwnR
import Derived.Test.YtmpbhhggbmjfcaaMarks
namespace Go.Proofs.Ytmpbhhggbmjfcaa
open Go.RowKit
set_option linter.unusedVariables false

/-- The k-th element, 0 beyond the end. -/
def elv (c : List Int) (k : Nat) : Int := c.getD k 0
theorem OwnI.cellE {B g n cap : Nat} {xs : List Int} {w : World} (h : OwnI B (.slice (some ⟨g, 0, none⟩) n cap) xs w) (j : Nat) (hj : j < xs.length) : w.cell? ⟨g, j, none⟩ = some (.int .i64 (elv xs j)) := by
  unfold elv
  rw [h.cell j hj, List.getD_eq_getElem?_getD, List.getElem?_eq_getElem hj]; rfl
theorem upd_upd {α : Type} (f : Nat → α) (t : Nat) (v u : α) : upd (upd f t v) t u = upd f t u := by
  funext x; unfold upd; by_cases h : x = t
  · rw [if_pos h, if_pos h]
  · rw [if_neg h, if_neg h, if_neg h]
/-- The k-th number follows the one ahead of it. -/
def jn (l : List Int) (k : Nat) : Bool := decide (0 < k ∧ elv l k = elv l (k - 1) + 1)
/-- How many rows the first k numbers make. -/
def crN (l : List Int) : Nat → Nat
  | 0 => 0
  | k + 1 => if jn l k then crN l k else crN l k + 1
/-- The rows. -/
def crT (l : List Int) : Nat → Nat → List Int
  | 0 => fun _ => []
  | k + 1 => if jn l k then upd (crT l k) (crN l k - 1) ((crT l k (crN l k - 1)).set 1 (elv l k)) else upd (crT l k) (crN l k) [elv l k, elv l k]
theorem jn_zero (l : List Int) : jn l 0 = false := decide_eq_false (fun h => by omega)
theorem jn_yes {l : List Int} {k : Nat} (h : elv l (k + 1) = elv l k + 1) : jn l (k + 1) = true := decide_eq_true ⟨by omega, h⟩
theorem jn_no {l : List Int} {k : Nat} (h : ¬ elv l (k + 1) = elv l k + 1) : jn l (k + 1) = false := decide_eq_false (fun h2 => h h2.2)
theorem crN_yes {l : List Int} {k : Nat} (h : jn l k = true) : crN l (k + 1) = crN l k := by show (if _ then _ else _) = _; rw [if_pos h]
theorem crN_no {l : List Int} {k : Nat} (h : jn l k = false) : crN l (k + 1) = crN l k + 1 := by show (if _ then _ else _) = _; rw [h]; rfl
theorem crT_yes {l : List Int} {k : Nat} (h : jn l k = true) : crT l (k + 1) = upd (crT l k) (crN l k - 1) ((crT l k (crN l k - 1)).set 1 (elv l k)) := by show (if _ then _ else _) = _; rw [if_pos h]
theorem crT_no {l : List Int} {k : Nat} (h : jn l k = false) : crT l (k + 1) = upd (crT l k) (crN l k) [elv l k, elv l k] := by show (if _ then _ else _) = _; rw [h]; rfl
theorem crN_le (l : List Int) : ∀ k, crN l k ≤ k
  | 0 => Nat.le_refl _
  | k + 1 => by
    have := crN_le l k
    cases h : jn l k with
    | true => rw [crN_yes h]; omega
    | false => rw [crN_no h]; omega
/-- The last row of the first k + 1 numbers ends with the k-th. -/
theorem cr_last (l : List Int) : ∀ k, 1 ≤ crN l (k + 1) ∧ ∃ a, crT l (k + 1) (crN l (k + 1) - 1) = [a, elv l k]
  | 0 => by
    rw [crN_no (jn_zero l), crT_no (jn_zero l)]
    exact ⟨by omega, _, upd_same _ _ _⟩
  | k + 1 => by
    obtain ⟨h1, a, h2⟩ := cr_last l k
    cases h : jn l (k + 1) with
    | true => rw [crN_yes h, crT_yes h, upd_same, h2]; exact ⟨h1, a, rfl⟩
    | false =>
      rw [crN_no h, crT_no h]
      exact ⟨by omega, _, upd_same _ _ _⟩
theorem cr_two (l : List Int) : ∀ k j, j < crN l k → (crT l k j).length = 2
  | 0, j, hj => by simp [crN] at hj
  | k + 1, j, hj => by
    cases h : jn l k with
    | true =>
      rw [crN_yes h] at hj
      rw [crT_yes h]
      by_cases e : j = crN l k - 1
      · subst e; rw [upd_same, List.length_set]; exact cr_two l k _ (by omega)
      · rw [upd_other _ _ e]; exact cr_two l k j hj
    | false =>
      rw [crN_no h] at hj
      rw [crT_no h]
      by_cases e : j = crN l k
      · subst e; rw [upd_same]; rfl
      · rw [upd_other _ _ e]; exact cr_two l k j (by omega)
/-- Through a run that begins at the b-th number. -/
theorem cr_run (l : List Int) (b : Nat) (hb : jn l b = false) : ∀ d, (∀ i, i < d → jn l (b + i + 1) = true) → crN l (b + d + 1) = crN l b + 1 ∧ crT l (b + d + 1) = upd (crT l b) (crN l b) [elv l b, elv l (b + d)]
  | 0, _ => by rw [Nat.add_zero]; exact ⟨crN_no hb, crT_no hb⟩
  | d + 1, h => by
    obtain ⟨h1, h2⟩ := cr_run l b hb d (fun i hi => h i (by omega))
    have hj := h d (by omega)
    rw [show b + (d + 1) + 1 = (b + d + 1) + 1 from by omega, crN_yes hj, crT_yes hj, h1, h2]
    refine ⟨rfl, ?_⟩
    rw [show crN l b + 1 - 1 = crN l b from by omega, upd_upd, upd_same]
    rfl
/-- Marks on rows of two. -/
def mk2 (m : Nat) (k : Nat) (Z : Nat → List Int) (j : Nat) : List Int := if j < k then marks ((m + 2 * j : Nat) : Int) 2 else Z j
theorem mk2_zero (m : Nat) (Z : Nat → List Int) : mk2 m 0 Z = Z := by funext j; unfold mk2; rw [if_neg (by omega)]
theorem mk2_at (m k : Nat) (Z : Nat → List Int) : mk2 m k Z k = Z k := by unfold mk2; rw [if_neg (by omega)]
theorem mk2_step (m k : Nat) (Z : Nat → List Int) : upd (mk2 m k Z) k (marks ((m + 2 * k : Nat) : Int) 2) = mk2 m (k + 1) Z := by
  funext j
  by_cases h : j = k
  · subst h; rw [upd_same]; unfold mk2; rw [if_pos (by omega)]
  · rw [upd_other _ _ h]; unfold mk2
    by_cases h2 : j < k
    · rw [if_pos h2, if_pos (by omega)]
    · rw [if_neg h2, if_neg (by omega)]
end Go.Proofs.Ytmpbhhggbmjfcaa
