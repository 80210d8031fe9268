/- Slices of slices of ints that the call made: what they read as, and what keeps them. -/
import Derived.Test.YtmpbhhggbmjfcaaInts
import Derived.Test.YtmpbhhggbmjfcaaOwn2
import Derived.Test.YtmpbhhggbmjfcaaFacesP
namespace Go.Proofs.Ytmpbhhggbmjfcaa
open Go.RowKit
set_option linter.unusedVariables false
set_option linter.unusedSimpArgs false

theorem Try.info48 : (Try.prog.info? 48).map (fun i => (i.zero, i.size, i.bytes)) = some (some (.slice none 0 0), 1, 24) := by kernel_rfl
/-- All blocks but those of S are as they were. -/
structure Only (S : Nat → Prop) (w w' : World) : Prop where
  os : w'.os = w.os
  tape : w'.tape = w.tape
  output : w'.output = w.output
  size : w.heap.size ≤ w'.heap.size
  block : ∀ k, k < w.heap.size → ¬ S k → w'.heap[k]? = w.heap[k]?
theorem Only.refl (S : Nat → Prop) (w : World) : Only S w w := ⟨rfl, rfl, rfl, Nat.le_refl _, fun _ _ _ => rfl⟩
theorem Only.trans {S : Nat → Prop} {a b c : World} (h : Only S a b) (k : Only S b c) : Only S a c :=
  ⟨k.os.trans h.os, k.tape.trans h.tape, k.output.trans h.output, Nat.le_trans h.size k.size, fun i hi hs => (k.block i (Nat.lt_of_lt_of_le hi h.size) hs).trans (h.block i hi hs)⟩
theorem Only.mono {S T : Nat → Prop} {a b : World} (h : Only S a b) (hs : ∀ k, k < a.heap.size → S k → T k) : Only T a b := ⟨h.os, h.tape, h.output, h.size, fun i hi ht => h.block i hi (fun e => ht (hs i hi e))⟩
theorem only_below {a b : World} (h : Below a.heap.size a b) (S : Nat → Prop) : Only S a b := ⟨h.os, h.tape, h.output, h.size, fun k hk _ => h.block k hk⟩
theorem only_grown {a b : World} {row : Option Nat} {S : Nat → Prop} (h : a.grownBy b row) (hs : ∀ k, row = some k → S k) : Only S a b := ⟨h.os, h.tape, h.output, h.size, fun k hk hn => h.block k hk (fun e => hn (hs k e.symm))⟩
theorem only_set (w : World) (g j : Nat) (u : Value) {S : Nat → Prop} (h : S g) : Only S w (w.setCell ⟨g, j, none⟩ u) :=
  ⟨rfl, rfl, rfl, by simp [World.setCell], fun k hk hr => Below.heap_setCell _ _ _ _ (fun e => hr (by rw [e]; exact h))⟩
theorem only_alloc (w : World) (o : Obj) (S : Nat → Prop) : Only S w (w.alloc o) := ⟨rfl, rfl, rfl, by simp, fun k hk _ => (World.grownBy_alloc w o none).block k hk (by simp)⟩
theorem Only.drewN {S : Nat → Prop} {a b : World} (h : Only S a b) (n : Nat) : Only S a (b.drewN n) := h.trans (only_below (dr_below ⟨n, rfl⟩ _) S)
theorem Only.toBelow {S : Nat → Prop} {a b : World} (h : Only S a b) {B : Nat} (hB : B ≤ a.heap.size) (hs : ∀ k, k < B → ¬ S k) : Below B a b := ⟨h.os, h.tape, h.output, h.size, fun k hk => h.block k (Nat.lt_of_lt_of_le hk hB) (hs k hk)⟩
theorem own_only {w w' : World} {B e size n : Nat} {v : Value} {xs : List Value} {S : Nat → Prop} (h : w.ownsRow B e size v n xs) (hb : Only S w w') (hs : ∀ k, v.ownBlock = some k → ¬ S k) : w'.ownsRow B e size v n xs := by
  refine ⟨h.1, ?_⟩
  rcases h.2 with hn | ⟨g, cap, cur, rfl, hbg, hgg, rest⟩
  · exact .inl hn
  · exact .inr ⟨g, cap, cur, rfl, hbg, by rw [hb.block g (Array.getElem?_eq_some_iff.1 hgg).1 (hs g rfl)]; exact hgg, rest⟩
theorem own_mono {w : World} {B B' e size n : Nat} {v : Value} {xs : List Value} (h : w.ownsRow B e size v n xs) (hb : B' ≤ B) : w.ownsRow B' e size v n xs := by
  refine ⟨h.1, ?_⟩
  rcases h.2 with hn | ⟨g, cap, cur, rfl, hbg, rest⟩
  · exact .inl hn
  · exact .inr ⟨g, cap, cur, rfl, Nat.le_trans hb hbg, rest⟩
theorem OwnI.only {B : Nat} {v : Value} {xs : List Int} {w w' : World} {S : Nat → Prop} (h : OwnI B v xs w) (hb : Only S w w') (hs : ∀ k, v.ownBlock = some k → ¬ S k) : OwnI B v xs w' := own_only h hb hs

/-- The cell of the j-th row. -/
def rowCell (G C : Nat → Nat) (Z : Nat → List Int) (j : Nat) : Value := .slice (some ⟨G j, 0, none⟩) (Z j).length (C j)
def rowCells (n : Nat) (G C : Nat → Nat) (Z : Nat → List Int) : List Value := (List.range n).map (rowCell G C Z)
/-- The slice v holds n rows, in blocks of their own; the j-th reads as Z j. -/
def OwnR (B : Nat) (v : Value) (n : Nat) (G C : Nat → Nat) (Z : Nat → List Int) (w : World) : Prop :=
  w.ownsRow B 48 1 v n (rowCells n G C Z) ∧ (∀ j, j < n → OwnI B (rowCell G C Z j) (Z j) w) ∧ (∀ j, j < n → v.ownBlock ≠ some (G j)) ∧ ∀ i j, i < n → j < n → i ≠ j → G i ≠ G j
variable {B n : Nat} {v : Value} {G C : Nat → Nat} {Z : Nat → List Int} {w w' : World}
/-- The blocks of the rows and of the slice that holds them. -/
def Its (v : Value) (n : Nat) (G : Nat → Nat) (k : Nat) : Prop := v.ownBlock = some k ∨ ∃ j, j < n ∧ G j = k
/-- The blocks of the rows. -/
def Rws (n : Nat) (G : Nat → Nat) (k : Nat) : Prop := ∃ j, j < n ∧ G j = k
theorem rowCells_congr {G' C' : Nat → Nat} {Z' : Nat → List Int} (h : ∀ j, j < n → G j = G' j ∧ C j = C' j ∧ (Z j).length = (Z' j).length) : rowCells n G C Z = rowCells n G' C' Z' := by
  unfold rowCells rowCell
  refine List.map_congr_left (fun j hj => ?_)
  obtain ⟨h1, h2, h3⟩ := h j (List.mem_range.1 hj)
  rw [h1, h2, h3]
theorem OwnR.congr {Z' : Nat → List Int} (h : OwnR B v n G C Z w) (e : ∀ j, j < n → Z j = Z' j) : OwnR B v n G C Z' w := by
  obtain ⟨h1, h2, h3⟩ := h
  refine ⟨by rw [← rowCells_congr (G := G) (C := C) (Z := Z) (fun j hj => ⟨rfl, rfl, by rw [e j hj]⟩)]; exact h1, fun j hj => ?_, h3⟩
  have := h2 j hj
  unfold rowCell at this ⊢
  rw [← e j hj]; exact this
theorem OwnR.mono {B' : Nat} (h : OwnR B v n G C Z w) (hb : B' ≤ B) : OwnR B' v n G C Z w := ⟨own_mono h.1 hb, fun j hj => own_mono (h.2.1 j hj) hb, h.2.2⟩
theorem OwnR.below (h : OwnR B v n G C Z w) (hb : Below w.heap.size w w') : OwnR B v n G C Z w' := ⟨own_below h.1 hb, fun j hj => (h.2.1 j hj).below hb, h.2.2⟩
theorem OwnR.only {S : Nat → Prop} (h : OwnR B v n G C Z w) (hb : Only S w w') (hs : ∀ k, Its v n G k → ¬ S k) : OwnR B v n G C Z w' :=
  ⟨own_only h.1 hb (fun k e => hs k (.inl e)), fun j hj => (h.2.1 j hj).only hb (fun k e => hs k (.inr ⟨j, hj, by simpa [rowCell, Value.ownBlock] using e⟩)), h.2.2⟩
theorem OwnR.lt (h : OwnR B v n G C Z w) {k : Nat} (hk : Its v n G k) : B ≤ k ∧ k < w.heap.size := by
  rcases hk with e | ⟨j, hj, rfl⟩
  · exact h.1.lt k e
  · exact (h.2.1 j hj).lt (G j) rfl
theorem OwnR.slice (h : OwnR B v n G C Z w) : ∃ a c, v = .slice a n c := by
  rcases h.1.2 with ⟨rfl, h0⟩ | ⟨g, cap, cur, rfl, _⟩
  · exact ⟨none, 0, by rw [h0]⟩
  · exact ⟨_, _, rfl⟩
theorem OwnR.form (h : OwnR B v n G C Z w) : (∃ a c, v = .slice a 0 c ∧ n = 0) ∨ ∃ g cap, v = .slice (some ⟨g, 0, none⟩) n cap ∧ B ≤ g ∧ 0 < n := by
  rcases h.1.2 with ⟨rfl, h0⟩ | ⟨g, cap, cur, rfl, hg, _⟩
  · exact .inl ⟨_, _, rfl, h0⟩
  · rcases Nat.eq_zero_or_pos n with h0 | h0
    · exact .inl ⟨_, _, by rw [h0], h0⟩
    · exact .inr ⟨g, cap, rfl, hg, h0⟩
theorem OwnR.cell {g m cap : Nat} (h : OwnR B (.slice (some ⟨g, 0, none⟩) m cap) n G C Z w) (j : Nat) (hj : j < n) : w.cell? ⟨g, j, none⟩ = some (.slice (some ⟨G j, 0, none⟩) (Z j).length (C j)) := by
  have := h.1.cells (g := g) rfl j (rowCell G C Z j) (by simp [rowCells, hj])
  rwa [show (⟨g, 0, none⟩ : Addr).add j = ⟨g, j, none⟩ from by unfold Addr.add; split <;> simp_all] at this
theorem OwnR.row (h : OwnR B v n G C Z w) (j : Nat) (hj : j < n) : OwnI B (.slice (some ⟨G j, 0, none⟩) (Z j).length (C j)) (Z j) w := h.2.1 j hj
theorem OwnR.setRow (h : OwnR B v n G C Z w) {k : Nat} (hk : k < n) (i : Nat) (x : Int) : OwnR B v n G C (upd Z k ((Z k).set i x)) (w.setCell ⟨G k, i, none⟩ (.int .i64 x)) := by
  obtain ⟨h1, h2, h3, h4⟩ := h
  have hl : ∀ j, (upd Z k ((Z k).set i x) j).length = (Z j).length := fun j => by
    by_cases e : j = k
    · subst e; rw [upd_same, List.length_set]
    · rw [upd_other _ _ e]
  have hb : Only (fun b => b = G k) w (w.setCell ⟨G k, i, none⟩ (.int .i64 x)) := only_set _ _ _ _ rfl
  refine ⟨?_, fun j hj => ?_, h3, h4⟩
  · rw [rowCells_congr (fun j hj => ⟨rfl, rfl, hl j⟩)]
    exact own_only h1 hb (fun b e e2 => h3 k hk (by rw [e, e2]))
  · unfold rowCell
    rw [hl]
    by_cases e : j = k
    · subst e
      rw [upd_same]
      have := (h2 j hj).set (g := G j) i x
      exact this
    · rw [upd_other _ _ e]
      exact (h2 j hj).only hb (fun b e1 e2 => h4 j k hj hk e (by rw [← e2]; simpa [rowCell, Value.ownBlock] using e1))
theorem ownR_nil (w : World) (B : Nat) (G C : Nat → Nat) (Z : Nat → List Int) : OwnR B (.slice none 0 0) 0 G C Z w := ⟨World.ownsRow_nil w B _ _, fun j hj => by omega, fun j hj => by omega, fun i j hi => by omega⟩
theorem ownR_made (w : World) (B : Nat) (hB : B ≤ w.heap.size) (G C : Nat → Nat) (Z : Nat → List Int) : OwnR B (.slice (some ⟨w.heap.size, 0, none⟩) 0 0) 0 G C Z (w.alloc (.cells #[] 48)) :=
  ⟨World.ownsRow_made w #[] 0 hB (Nat.zero_le _) rfl, fun j hj => by omega, fun j hj => by omega, fun i j hi => by omega⟩
/-- One row more, by an append. -/
theorem OwnR.snoc {w1 : World} {v' : Value} {gr cr g : Nat} {zs : List Int} {o : Obj} (h : OwnR B v n G C Z w) (hr : OwnI B (.slice (some ⟨gr, 0, none⟩) zs.length cr) zs w) (hv : v.ownBlock ≠ some gr) (hG : ∀ j, j < n → G j ≠ gr)
    (hown : w1.ownsRow B 48 1 v' (n + 1) (rowCells n G C Z ++ [.slice (some ⟨gr, 0, none⟩) zs.length cr])) (hg : (w.alloc o).grownBy w1 v.ownBlock) (hb : v'.ownBlock = some g) (hat : v.ownBlock = some g ∨ g = w.heap.size + 1) :
    OwnR B v' (n + 1) (upd G n gr) (upd C n cr) (upd Z n zs) w1 := by
  obtain ⟨h1, h2, h3, h4⟩ := h
  have out : ∀ k, k < w.heap.size → v.ownBlock ≠ some k → g ≠ k := fun k hk hne e => by
    rcases hat with h | h
    · exact hne (by rw [h, e])
    · omega
  refine ⟨?_, fun j hj => ?_, fun j hj => ?_, fun i j hi hj hne => ?_⟩
  · have e : rowCells (n + 1) (upd G n gr) (upd C n cr) (upd Z n zs) = rowCells n G C Z ++ [.slice (some ⟨gr, 0, none⟩) zs.length cr] := by
      show (List.range (n + 1)).map _ = _
      rw [List.range_succ, List.map_append]
      congr 1
      · exact rowCells_congr (fun j hj => ⟨upd_other _ _ (by omega), upd_other _ _ (by omega), by rw [upd_other _ _ (by omega)]⟩)
      · simp [rowCell, upd_same]
    rw [e]; exact hown
  · by_cases e : j = n
    · subst e
      unfold rowCell
      rw [upd_same, upd_same, upd_same]
      exact (World.ownsRow.alloc hr o).kept hg (.inr (fun e => hv e.symm))
    · unfold rowCell
      rw [upd_other _ _ e, upd_other _ _ e, upd_other _ _ e]
      exact (World.ownsRow.alloc (h2 j (by omega)) o).kept hg (.inr (fun e => h3 j (by omega) e.symm))
  · rw [hb]
    by_cases e : j = n
    · subst e
      rw [upd_same]
      exact fun e => out gr (hr.lt gr rfl).2 hv (Option.some.inj e)
    · rw [upd_other _ _ e]
      exact fun e => out (G j) ((h2 j (by omega)).lt (G j) rfl).2 (h3 j (by omega)) (Option.some.inj e)
  · by_cases e : i = n <;> by_cases e2 : j = n
    · omega
    · subst e; rw [upd_same, upd_other _ _ e2]; exact fun e => hG j (by omega) e.symm
    · subst e2; rw [upd_same, upd_other _ _ e]; exact hG i (by omega)
    · rw [upd_other _ _ e, upd_other _ _ e2]; exact h4 i j (by omega) (by omega) hne
end Go.Proofs.Ytmpbhhggbmjfcaa
