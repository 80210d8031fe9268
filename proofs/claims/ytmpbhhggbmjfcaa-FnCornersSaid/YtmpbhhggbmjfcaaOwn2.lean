/- An append that tells where the new slice lies; two slices of the call's own in different blocks. -/
import Derived.Test.YtmpbhhggbmjfcaaOwn
namespace Go.Proofs.Ytmpbhhggbmjfcaa
open Go.RowKit
set_option linter.unusedVariables false

/-- 'append(v, p)' of one new element of one cell; the new slice lies in the old row or in a block that is made now. -/
theorem wpList_app1L {P : Program} {ops : Array Oper} {rest : List Oper} {o : Oper} {a : Act} {Q : Exit → Act → World → Prop} {wr : World} (hgd : o.guard = none) (s x : Operand) (t : TypeId)
    (ho : o.op = .call { callee := .builtin .append, args := #[s, x], argTypes := #[t, t] })
    (B : Nat) (e : TypeId) (i : TypeInfo) (z : Value) (bytes : Nat) (ht : P.underlying t = some (.slice e)) (hi : P.info? e = some i) (hz : i.zero = some z)
    (hsize : i.size = 1) (hby : i.bytes = bytes) (hzs : z.cells.size = 1)
    (v : Value) (n : Nat) (xs : List Value) (hs : a.eval s = v) (hown : wr.ownsRow B e 1 v n xs) (p : Value) (hx : a.eval x = .slice (some ⟨wr.heap.size, 0, none⟩) 1 1) (hp : p.oneCell' = true)
    (h63 : n + 1 ≤ maxLen) (hbytes : (n + 1) * bytes ≤ 140737488355328) (hbase : B ≤ wr.heap.size)
    (h : ∀ g cap w', w'.ownsRow B e 1 (.slice (some ⟨g, 0, none⟩) (n + 1) cap) (n + 1) (xs ++ [p]) → (wr.alloc (.cells #[p] e)).grownBy w' v.ownBlock → (v.ownBlock = some g ∨ g = wr.heap.size + 1) → wpList P ops Q rest (a.put o.dst (.slice (some ⟨g, 0, none⟩) (n + 1) cap)) w') :
    wpList P ops Q (o :: rest) a (wr.alloc (.cells #[p] e)) :=
  wpList_append_lies _ hgd s x t ho B e i z 1 bytes ht hi hz hsize hby hzs (by decide) v n xs hs (hown.alloc _) ⟨wr.heap.size, 0, none⟩ 1 1 [p] hx rfl (cell_one_new _ _ _) (by simp [hp]) (by decide) h63 hbytes (by simp; omega) _ (by simp)
    (fun g cap w' a1 a2 a3 _ => h g cap w' a1 a2 a3)
/-- Two slices of the call's own lie in different blocks. -/
def Apart (u v : Value) : Prop := ∀ b, u.ownBlock = some b → v.ownBlock ≠ some b
/-- The other slice is kept by an append, and stays apart. -/
theorem apart_kept {wr w1 : World} {Bv ev size nv g cap m : Nat} {u v : Value} {xv : List Value} {o : Obj} (hv : wr.ownsRow Bv ev size v nv xv) (ha : Apart u v) (hg : (wr.alloc o).grownBy w1 u.ownBlock) (hat : u.ownBlock = some g ∨ g = wr.heap.size + 1) :
    w1.ownsRow Bv ev size v nv xv ∧ Apart (.slice (some ⟨g, 0, none⟩) m cap) v := by
  constructor
  · refine (hv.alloc o).kept hg ?_
    cases hu : u.ownBlock with
    | none => cases hvb : v.ownBlock with
      | none => exact .inl rfl
      | some b => exact .inr (by simp)
    | some b => exact .inr (ha b hu)
  · intro b hb
    have hb' : g = b := by simpa [Value.ownBlock] using hb
    subst hb'
    rcases hat with h | h
    · exact ha g h
    · intro e1; have := (hv.lt g e1).2; omega
end Go.Proofs.Ytmpbhhggbmjfcaa
