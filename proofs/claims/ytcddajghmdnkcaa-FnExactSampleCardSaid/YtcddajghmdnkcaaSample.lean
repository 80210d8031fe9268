/- Contracts of SampleCard, both sides. -/
import Derived.Test.YtcddajghmdnkcaaCardsL
namespace Go.Proofs.Ytcddajghmdnkcaa
open Go.RowKit
set_option linter.unusedVariables false
set_option linter.unusedSimpArgs false

def CardR1 (B : Nat) (d f : Int) (ss : List ByteArray) (e : Ending) (w' : World) : Prop := ∃ a c, e = .returned (.agg #[.int .i64 d, .int .i64 f, .slice a ss.length c]) ∧ OwnS B (.slice a ss.length c) ss w'
def smp : List ByteArray := [⟨#[100, 100, 100, 102, 102, 102, 102]⟩, ⟨#[100, 102, 100, 102, 102, 100, 102]⟩, ⟨#[100, 102, 100, 102, 102, 100, 102]⟩, ⟨#[102, 102, 100, 100, 102, 102, 100]⟩, ⟨#[100, 100, 100, 102, 102, 102, 102]⟩]
set_option maxRecDepth 20000 in
set_option maxHeartbeats 1000000 in
theorem impl_sample (w : World) :
    Calls Try.prog 9 #[] w fun e w' => CardR1 w.heap.size 3 4 smp e w' ∧ Below w.heap.size w w' := by
  go_enter Try.func9, Try.ntmps9
  go_wp2
  refine bodyPost_ret (v := .agg #[.int .i64 3, .int .i64 4, .slice (some ⟨w.heap.size + 1, 0, none⟩) 5 5]) (by simp [results, Try.results9, go_sem]) rfl ⟨⟨_, _, rfl, ?_⟩, ?_⟩
  · have h := World.ownsRow_lit (base := w.heap.size) (e := 9) (size := 1) (w.alloc (.cells #[.int .i64 3, .int .i64 4, .slice (some ⟨w.heap.size + 1, 0, none⟩) 5 5] 29)) #[.string ⟨#[100, 100, 100, 102, 102, 102, 102]⟩, .string ⟨#[100, 102, 100, 102, 102, 100, 102]⟩, .string ⟨#[100, 102, 100, 102, 102, 100, 102]⟩, .string ⟨#[102, 102, 100, 100, 102, 102, 100]⟩, .string ⟨#[100, 100, 100, 102, 102, 102, 102]⟩] 5 (by simp) (by unfold maxLen; omega) rfl
    simp at h
    exact h
  · exact ((Below.refl _ _).alloc (Nat.le_refl _) _).alloc (by simp) _

set_option maxRecDepth 20000 in
set_option maxHeartbeats 1000000 in
theorem spec_sample (w : World) :
    Calls Try.prog 8 #[] w fun e w' => CardR1 w.heap.size 3 4 smp e w' ∧ Below w.heap.size w w' := by
  go_enter Try.func8, Try.ntmps8
  go_wp2
  refine bodyPost_ret (v := .agg #[.int .i64 3, .int .i64 4, .slice (some ⟨w.heap.size + 1, 0, none⟩) 5 5]) (by simp [results, Try.results8, go_sem]) rfl ⟨⟨_, _, rfl, ?_⟩, ?_⟩
  · have h := World.ownsRow_lit (base := w.heap.size) (e := 9) (size := 1) (w.alloc (.cells #[.int .i64 3, .int .i64 4, .slice (some ⟨w.heap.size + 1, 0, none⟩) 5 5] 29)) #[.string ⟨#[100, 100, 100, 102, 102, 102, 102]⟩, .string ⟨#[100, 102, 100, 102, 102, 100, 102]⟩, .string ⟨#[100, 102, 100, 102, 102, 100, 102]⟩, .string ⟨#[102, 102, 100, 100, 102, 102, 100]⟩, .string ⟨#[100, 100, 100, 102, 102, 102, 102]⟩] 5 (by simp) (by unfold maxLen; omega) rfl
    simp at h
    exact h
  · exact ((Below.refl _ _).alloc (Nat.le_refl _) _).alloc (by simp) _

end Go.Proofs.Ytcddajghmdnkcaa
