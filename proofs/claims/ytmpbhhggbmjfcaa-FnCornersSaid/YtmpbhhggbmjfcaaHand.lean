/- Laws for a drawn region that is walked by hand: the blindness of the post at a panic is shown once; operations whose guards are false are passed over together. -/
import Derived.Test.YtmpbhhggbmjfcaaRows
import Derived.Deep.RegionHeld3
namespace Go.Proofs.Ytmpbhhggbmjfcaa
open Go
set_option linter.unusedVariables false

section
variable {P : Program} {ops : Array Oper} {Q : Exit → Act → World → Prop} {md : Region.Mode} {S : World → Prop}

def Blind (Q : Exit → Act → World → Prop) : Prop := ∀ (c : _) (a : Act) (d : Option Tmp) (v : Value) (w : World), Q (.panic c) (a.put d v) w → Q (.panic c) a w

theorem wp_hand {id : Nat} {a : Act} {w : World} (hm : P.follows .mixedOrders = true) (hS : S w.drew) (hb : Blind Q)
    (h : Blind Q → S w.drew → wpAnyH P .any ops Q S ops.size (Array.replicate ops.size false) a w.drew) : (Code.region id ops true).wp P Q a w :=
  wp_region_held_drew hm hS (h hb)

theorem take1 {i : Nat} {oi : Oper} {v : Value} {fuel : Nat} {listed : Array Bool} {a : Act} {w : World} (hB : Blind Q) (hi : ops[i]? = some oi)
    (hs : Region.noSelect ops = true) (hf : Region.free md ops listed i = true) (hr : (Region.ready md ops listed).contains i = true)
    (hw : Region.wanted oi (yielded ops a.tmps) = true) (hy : ∀ w, S w → (execOp a.eval oi).run P w = .ok (.value v) w) (hS : S w)
    (h : wpAnyH P md ops Q S fuel (listed.setIfInBounds i true) (a.put oi.dst v) w) : wpAnyH P md ops Q S (fuel + 1) listed a w :=
  wpAnyH_take hi hs hf hr (fun c a w => hB c a _ _ w) (.inl ⟨hw, hy⟩) hS h

theorem take2 {i : Nat} {oi : Oper} {v : Value} {d : Option Tmp} {fuel : Nat} {listed : Array Bool} {a : Act} {w : World} (hB : Blind Q) (hi : ops[i]? = some oi) (hd : oi.dst = d)
    (hs : Region.noSelect ops = true) (hf : Region.free md ops listed i = true) (hr : (Region.ready md ops listed).contains i = true)
    (hw : Region.wanted oi (yielded ops a.tmps) = true) (hy : ∀ w, S w → (execOp a.eval oi).run P w = .ok (.value v) w) (hS : S w)
    (h : wpAnyH P md ops Q S fuel (listed.setIfInBounds i true) (a.put d v) w) : wpAnyH P md ops Q S (fuel + 1) listed a w := by
  subst hd; exact take1 hB hi hs hf hr hw hy hS h

def skip1 (ops : Array Oper) (a : Act) (i : Nat) : Act := match ops[i]? with | some o => a.put o.dst undef | none => a
def skipTo (ops : Array Oper) : List Nat → Act → Act
  | [], a => a
  | i :: is, a => skipTo ops is (skip1 ops a i)
def skipL : List Nat → Array Bool → Array Bool
  | [], l => l
  | i :: is, l => skipL is (l.setIfInBounds i true)
def skipOk (md : Region.Mode) (ops : Array Oper) : List Nat → Array Bool → Act → Bool
  | [], _, _ => true
  | i :: is, l, a => (match ops[i]? with
      | some o => Region.free md ops l i && ((Region.ready md ops l).contains i && !(Region.wanted o (yielded ops a.tmps)))
      | none => false) && skipOk md ops is (l.setIfInBounds i true) (skip1 ops a i)

theorem skip_many (hB : Blind Q) (hs : Region.noSelect ops = true) {w : World} (hS : S w) : ∀ (is : List Nat) (fuel : Nat) (l : Array Bool) (a : Act),
    skipOk md ops is l a = true → wpAnyH P md ops Q S fuel (skipL is l) (skipTo ops is a) w → wpAnyH P md ops Q S (fuel + is.length) l a w
  | [], _, _, _, _, h => h
  | i :: is, fuel, l, a, hk, h => by
    unfold skipOk at hk
    cases ho : ops[i]? with
    | none => rw [ho] at hk; simp at hk
    | some o =>
      rw [ho] at hk
      simp only [Bool.and_eq_true, Bool.not_eq_true'] at hk
      obtain ⟨⟨h1, h2, h3⟩, h4⟩ := hk
      have e : skip1 ops a i = a.put o.dst undef := by unfold skip1; rw [ho]
      have ih := skip_many hB hs hS is fuel _ _ h4 (by unfold skipL skipTo at h; exact h)
      rw [e] at ih
      exact wpAnyH_take (fuel := fuel + is.length) ho hs h1 h2 (fun c a w => hB c a _ _ w) (.inr ⟨h3, rfl⟩) hS ih

/-- Operations whose guards are false, and whose slots hold nothing yet. -/
theorem skip_all {F fuel : Nat} {l : Array Bool} {a : Act} {w : World} (hB : Blind Q) (hS : S w) (is : List Nat) (hs : Region.noSelect ops = true) (hF : F = fuel + is.length)
    (hk : skipOk md ops is l a = true) (ha : skipTo ops is a = a) (h : wpAnyH P md ops Q S fuel (skipL is l) a w) : wpAnyH P md ops Q S F l a w := by
  subst hF
  exact skip_many hB hs hS is fuel l a hk (by rw [ha]; exact h)
end
end Go.Proofs.Ytmpbhhggbmjfcaa
