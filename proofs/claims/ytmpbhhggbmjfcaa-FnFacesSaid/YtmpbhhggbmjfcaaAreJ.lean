/- Contract of impl.AreJoined for every input. -/
import Derived.Test.YtmpbhhggbmjfcaaCards6
namespace Go.Proofs.Ytmpbhhggbmjfcaa
open Go.RowKit
set_option linter.unusedVariables false

theorem implAreJoined_any (w : World) (d f : Int) (a : Option Addr) (c : Nat) (ss : List ByteArray) (h : RdS w a ss) (hz : SzS ss) (k i j : Int) :
    Calls Try.prog 48 #[.agg #[.int .i64 d, .int .i64 f, .slice a ss.length c], .int .i64 k, .int .i64 i, .int .i64 j] w fun e w' => e = .returned (.bool (joV d f ss k i j)) ∧ Below w.heap.size w w' := by
  by_cases hij : i = j
  · subst hij
    cases ht : tile d f ss k i with
    | false => exact implAreJoined_a w d f a c ss h hz k i ht
    | true =>
      obtain ⟨hok, hk, hi⟩ := (tile_iff d f k i ss).1 ht
      obtain ⟨⟨d1, d2, f1, f2⟩, ⟨l1, l2⟩, _⟩ := (okC_iff d f ss).1 hok
      cases ht2 : tile d f ss (k + 1) i with
      | false => exact implAreJoined_b w d f a c ss h hz k i ht ht2 (by omega)
      | true =>
        obtain ⟨_, hk2, _⟩ := (tile_iff d f (k + 1) i ss).1 ht2
        obtain ⟨k, rfl⟩ : ∃ n : Nat, k = n := ⟨k.toNat, by omega⟩
        obtain ⟨i, rfl⟩ : ∃ n : Nat, i = n := ⟨i.toNat, by omega⟩
        have s1 := okC_sel hok (k := k) (by omega)
        have s2 := okC_sel hok (k := k + 1) (by omega)
        rcases h with rfl | ⟨b, o, rfl, hp, hl, hc⟩
        · simp at l1
        exact implAreJoined_c w d f b o c ss (.inr ⟨b, o, rfl, hp, hl, hc⟩) hz k i ht ht2 (by omega) (by omega) (by omega) (by omega) (by omega) (by omega)
  · exact implAreJoined_n w d f a c ss h hz k i j hij
end Go.Proofs.Ytmpbhhggbmjfcaa
