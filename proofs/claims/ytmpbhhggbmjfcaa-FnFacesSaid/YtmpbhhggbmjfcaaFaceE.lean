/- The edges between the tiles of a card, and the union along them. No program stands in it. -/
import Derived.Test.YtmpbhhggbmjfcaaFacesP
import Derived.Test.YtmpbhhggbmjfcaaCards5
namespace Go.Proofs.Ytmpbhhggbmjfcaa
open Go.RowKit
set_option linter.unusedVariables false
set_option linter.unusedSimpArgs false

def E1 (ss : List ByteArray) (N m x y : Nat) : Prop := y < m ∧ x + 1 = y ∧ 0 < y % N ∧ byt (sel ss (y / N)) (y % N) = byt (sel ss (y / N)) (y % N - 1)
def E2 (ss : List ByteArray) (N m x y : Nat) : Prop := y < m ∧ x + N = y ∧ sameV (sel ss (y / N - 1)) (sel ss (y / N)) (y % N) = true
def Ed (ss : List ByteArray) (N m x y : Nat) : Prop := E1 ss N m x y ∨ E2 ss N m x y
theorem ed_lt {ss : List ByteArray} {N m : Nat} : ∀ a b, Ed ss N m a b → a < m ∧ b < m := by
  rintro a b (⟨h, e, _⟩ | ⟨h, e, _⟩)
  · omega
  · omega
/-- Joined so far: all edges to tiles ahead of t, and those of t that are asked. -/
def Jn (ss : List ByteArray) (N m t q : Nat) (g : Nat → Nat) : Prop :=
  (∀ a b, E1 ss N m a b → (b < t ∨ b = t ∧ 1 ≤ q) → g a = g b) ∧ ∀ a b, E2 ss N m a b → (b < t ∨ b = t ∧ 2 ≤ q) → g a = g b
variable {ss : List ByteArray} {N m t q : Nat} {g : Nat → Nat}
theorem fjn_zero (ss : List ByteArray) (N m : Nat) (g : Nat → Nat) : Jn ss N m 0 0 g := ⟨fun a b _ h => by omega, fun a b _ h => by omega⟩
theorem fjn_next (h : Jn ss N m t 2 g) : Jn ss N m (t + 1) 0 g := ⟨fun a b e h' => h.1 a b e (by omega), fun a b e h' => h.2 a b e (by omega)⟩
theorem fjn_one (h : Jn ss N m t 0 g) (h1 : ∀ a, E1 ss N m a t → g a = g t) : Jn ss N m t 1 g := by
  refine ⟨fun a b e h' => ?_, fun a b e h' => h.2 a b e (by omega)⟩
  rcases Nat.lt_or_ge b t with h2 | h2
  · exact h.1 a b e (.inl h2)
  · obtain rfl : b = t := by omega
    exact h1 a e
theorem fjn_two (h : Jn ss N m t 1 g) (h1 : ∀ a, E2 ss N m a t → g a = g t) : Jn ss N m t 2 g := by
  refine ⟨fun a b e h' => h.1 a b e (by omega), fun a b e h' => ?_⟩
  rcases Nat.lt_or_ge b t with h2 | h2
  · exact h.2 a b e (.inl h2)
  · obtain rfl : b = t := by omega
    exact h1 a e
theorem fjn_merge (h : Jn ss N m t q g) (a b : Nat) : Jn ss N m t q (merge g a b) := ⟨fun x y e h' => merge_eq a b (h.1 x y e h'), fun x y e h' => merge_eq a b (h.2 x y e h')⟩
theorem fjn_all (h : Jn ss N m m 0 g) : ∀ a b, Ed ss N m a b → g a = g b := by
  rintro a b (e | e)
  · exact h.1 a b e (.inl e.1)
  · exact h.2 a b e (.inl e.1)
/-- The first k members merged. -/
def mgx (g : Nat → Nat) (a b k : Nat) : Nat → Nat := fun x => if x < k ∧ g x = b then a else g x
theorem mgx_zero (g : Nat → Nat) (a b : Nat) : mgx g a b 0 = g := by funext x; unfold mgx; rw [if_neg (by omega)]
theorem mgx_at (g : Nat → Nat) (a b k : Nat) : mgx g a b k k = g k := by unfold mgx; rw [if_neg (by omega)]
theorem mgx_hit {g : Nat → Nat} {a b k : Nat} (h : g k = b) : (fun x => if x = k then a else mgx g a b k x) = mgx g a b (k + 1) := by
  funext x; unfold mgx
  by_cases e : x = k
  · subst e; rw [if_pos rfl, if_pos ⟨by omega, h⟩]
  · rw [if_neg e]
    by_cases h2 : x < k ∧ g x = b
    · rw [if_pos h2, if_pos ⟨by omega, h2.2⟩]
    · rw [if_neg h2, if_neg (fun h3 => h2 ⟨by omega, h3.2⟩)]
theorem mgx_miss {g : Nat → Nat} {a b k : Nat} (h : ¬ g k = b) : mgx g a b k = mgx g a b (k + 1) := by
  funext x; unfold mgx
  by_cases h2 : x < k ∧ g x = b
  · rw [if_pos h2, if_pos ⟨by omega, h2.2⟩]
  · rw [if_neg h2, if_neg (fun h3 => h2 ⟨by
      rcases Nat.lt_or_ge x k with h4 | h4
      · exact h4
      · obtain rfl : x = k := by omega
        exact absurd h3.2 h, h3.2⟩)]
theorem mgx_all {g : Nat → Nat} {a b k x : Nat} (h : x < k) : mgx g a b k x = merge g a b x := by
  unfold mgx merge
  by_cases h2 : g x = b
  · rw [if_pos ⟨h, h2⟩, if_pos h2]
  · rw [if_neg (fun h3 => h2 h3.2), if_neg h2]
theorem mgx_le {g : Nat → Nat} {a b k x M : Nat} (h : g x ≤ M) (ha : a ≤ M) : mgx g a b k x ≤ M := by
  unfold mgx; split <;> omega
end Go.Proofs.Ytmpbhhggbmjfcaa
