/- FnExactPlainCard: for every input the law returns true and its arguments read afterwards as they read before. No condition. -/
import Derived.Test.YtplcfgpmpacjeaaRows
import Derived.WalkKit
import Derived.ProofKit
import Derived.OpenShut
import Derived.ShutString
import Derived.ChangeOld
import Derived.Below
import Derived.Lib.SmallJoins
import Derived.SliceStrings
import Derived.Test.YtplcfgpmpacjeaaCells
import Derived.Test.YtplcfgpmpacjeaaPlain
import Derived.Test.YtplcfgpmpacjeaaMarksS
import Derived.Test.YtplcfgpmpacjeaaCardIn
namespace Go.Proofs.Ytplcfgpmpacjeaa.fnExactPlainCard
open Go.ChangeShapes Go.WideShapes Go.ChangeAt Go.RowKit Go.Joins
open Go.ChangeMaps (open_string shut_string)
set_option linter.unusedVariables false

theorem own : ownKnob Try.prog.godebug = none := by kernel_rfl
theorem laidOut : laidOutB Try.prog = true := by kernel_rfl

set_option maxRecDepth 20000 in
set_option maxHeartbeats 3200000 in
theorem core (x : Int) (y : Int) (n : Int) (D E : Int) (S : List ByteArray) (ok : Bool) (hS : S.length ≤ 1000) (w : World)
    (cs : ∀ w, Calls Try.prog 47 #[.int .i64 x, .int .i64 y, .int .i64 n] w fun e w' => CardR w.heap.size D E S ok e w' ∧ Below w.heap.size w w')
    (ci : ∀ w, Calls Try.prog 48 #[.int .i64 x, .int .i64 y, .int .i64 n] w fun e w' => CardR w.heap.size D E S ok e w' ∧ Below w.heap.size w w') :
    Calls Try.prog 13 #[.int .i64 x, .int .i64 y, .int .i64 n] w fun e w' => e = .returned (.bool true) ∧ Below w.heap.size w w' := by
  have CS := Lib.hid cs; have CI := Lib.hid ci; clear cs ci
  have hm : S.length ≤ maxLen := by unfold maxLen; omega
  have hk : 1 + S.length ≤ 10000000 := by omega
  go_enter Try.func13, Try.ntmps13
  go_wp2_with fail
  refine (CS.out _).mono ?_
  rintro e u1 ⟨⟨a1, c1, rfl, o1⟩, b1⟩
  have z1 := b1.size
  go_wp2_with fail
  refine (CI.out _).mono ?_
  rintro e u2 ⟨⟨a2, c2, rfl, o2⟩, b2⟩
  have k7 := (Blk.new u1 (.int .i64 D) (.int .i64 E) (.slice a1 S.length c1)).below b2
  have z2 := b2.size
  have l7 : u1.heap.size < u2.heap.size := k7.lt
  have k7' := (k7.alloc (.cells #[.int .i64 D, .int .i64 E, .slice a2 S.length c2] 31))
  have k9' := Blk.new u2 (.int .i64 D) (.int .i64 E) (.slice a2 S.length c2)
  have p1 : OwnS w.heap.size (.slice a1 S.length c1) S (u2.alloc (.cells #[.int .i64 D, .int .i64 E, .slice a2 S.length c2] 31)) := (OwnS.below (OwnS.below o1 ((Below.refl _ _).alloc (Nat.le_refl _) _)) b2).below ((Below.refl _ _).alloc (Nat.le_refl _) _)
  have p2 := OwnS.below o2 ((Below.refl _ _).alloc (Nat.le_refl _) (.cells #[.int .i64 D, .int .i64 E, .slice a2 S.length c2] 31))
  have i7 := k7.c0; have j7 := k7.c1; have q7 := k7.c2
  have W2 := ((b1.alloc z1 (.cells #[.int .i64 D, .int .i64 E, .slice a1 S.length c1] 31)).trans (b2.mono (by simp; omega))).alloc (by omega) (.cells #[.int .i64 D, .int .i64 E, .slice a2 S.length c2] 31)
  have K7 := Lib.hid k7'; have K9 := Lib.hid k9'; clear k7 k7' k9' b1 b2
  go_wp2_with fail
  refine (eqCard_same _ _ _ _ _ _ _ S (OwnS.rd p2) (OwnS.rd p1) hm).mono ?_
  rintro e u3 ⟨rfl, b3⟩
  have A7 := K7.out.below b3
  have A9 := K9.out.below b3
  have p1 := OwnS.below p1 b3
  have p2 := OwnS.below p2 b3
  have i7 := A7.c0; have j7 := A7.c1; have q7 := A7.c2
  have i9 := A9.c0; have j9 := A9.c1; have q9 := A9.c2
  have l9 := A9.lt
  have W3 := W2.trans (b3.mono W2.size)
  have K7 := Lib.hid A7; have K9 := Lib.hid A9; clear A7 A9 b3 W2
  go_wp2_with fail
  refine (markCard_any _ _ _ _ _ S 1 _ p2 hk).mono ?_
  rintro e u4 ⟨rfl, m2, g4⟩
  have ne7 : some u1.heap.size ≠ (Value.slice a2 S.length c2).ownBlock := fun e => by have := (o2.lt _ e.symm).1; first | (simp at this; done) | (simp at this; omega)
  have ne9 : some u2.heap.size ≠ (Value.slice a2 S.length c2).ownBlock := fun e => by have := (o2.lt _ e.symm).2; omega
  have A7 := K7.out.grown g4 ne7
  have A9 := K9.out.grown g4 ne9
  have p1 : OwnS w.heap.size (.slice a1 S.length c1) S u4 := World.ownsRow.kept p1 g4 (by
    cases h : (Value.slice a1 S.length c1).ownBlock with
    | none => exact .inl rfl
    | some b => exact .inr (fun e => by have h1 := (o1.lt _ h).2; have h2 := (o2.lt _ e.symm).1; simp at h2; omega))
  have W4 := W3.trans (below_grown g4 W3.size (fun k e => by have := (o2.lt _ e).1; first | (simp at this; done) | (simp at this; omega)))
  have i7 := A7.c0; have j7 := A7.c1; have q7 := A7.c2
  have i9 := A9.c0; have j9 := A9.c1; have q9 := A9.c2
  have K7 := Lib.hid A7; have K9 := Lib.hid A9; clear A7 A9 W3 g4 p2 ne7 ne9
  have m2r : RdS u4 a2 (marksS 1 S.length) := by have h := m2.read; rw [marksS_length] at h; obtain ⟨a', c', e, hr⟩ := h; obtain ⟨rfl, _⟩ : a2 = a' ∧ True := by simpa using (Value.slice.inj e).1
                                                 exact hr
  clear m2
  go_wp2_with fail
  refine (heldCard_any _ _ _ _ _ 1 _ m2r hk).mono ?_
  rintro e u5 ⟨rfl, b5⟩
  have A7 := K7.out.below b5
  have A9 := K9.out.below b5
  have p1 := OwnS.below p1 b5
  have m2r := m2r.below b5
  have i7 := A7.c0; have j7 := A7.c1; have q7 := A7.c2
  have i9 := A9.c0; have j9 := A9.c1; have q9 := A9.c2
  have W5 := W4.trans (b5.mono W4.size)
  have K7 := Lib.hid A7; have K9 := Lib.hid A9; clear A7 A9 b5 W4
  have npos : (0 : Int) ≤ ((1 + S.length : Nat) : Int) := by omega
  go_wp2_with fail
  refine (CI.out _).mono ?_
  rintro e u6 ⟨⟨a6, c6, rfl, o6⟩, b6⟩
  have A7 := K7.out.below b6
  have A9 := K9.out.below b6
  have p1 := OwnS.below p1 b6
  have m2r := m2r.below b6
  have i7 := A7.c0; have j7 := A7.c1; have q7 := A7.c2
  have i9 := A9.c0; have j9 := A9.c1; have q9 := A9.c2
  have l7 := A7.lt
  have l9 := A9.lt
  have W6 := (W5.trans (b6.mono W5.size)).alloc (Nat.le_trans W5.size b6.size) (.cells #[.int .i64 D, .int .i64 E, .slice a6 S.length c6] 31)
  have bal := (Below.refl u6.heap.size u6).alloc (Nat.le_refl _) (.cells #[.int .i64 D, .int .i64 E, .slice a6 S.length c6] 31)
  have p1 := OwnS.below p1 bal
  have p6 := OwnS.below o6 bal
  have m2r := m2r.below bal
  have K7 := Lib.hid (A7.below bal); have K9 := Lib.hid (A9.below bal); clear A7 A9 b6 W5 bal
  go_wp2_with fail
  refine (eqCard_same _ _ _ _ _ _ _ S (OwnS.rd p6) (OwnS.rd p1) hm).mono ?_
  rintro e u7 ⟨rfl, b7⟩
  have A9 := K9.out.below b7
  have m2r := m2r.below b7
  have i9 := A9.c0; have j9 := A9.c1; have q9 := A9.c2
  have W7 := W6.trans (b7.mono W6.size)
  clear A9 b7 W6 K7 K9 p1 p6
  go_wp2_with fail
  refine (heldCard_any _ _ _ _ _ 1 _ m2r hk).mono ?_
  rintro e u8 ⟨rfl, b8⟩
  have W8 := W7.trans (b8.mono W7.size)
  clear b8 W7
  go_wp2
  go_ret
  exact ⟨rfl, W8⟩

theorem walk (a0 : Int) (a1 : Int) (a2 : Int) (w : World) (w0 : (Lit.int .i64 a0).wf = true) (w1 : (Lit.int .i64 a1).wf = true) (w2 : (Lit.int .i64 a2).wf = true) :
    Calls Try.prog 13 #[.int .i64 a0, .int .i64 a1, .int .i64 a2] w fun e w' => e = .returned (.bool true) ∧ Below w.heap.size w w' := by
  by_cases h : 1 ≤ a2 ∧ a2 ≤ 10
  · obtain ⟨n, rfl⟩ : ∃ k : Nat, a2 = k := ⟨a2.toNat, by omega⟩
    have hc : ∀ k : Nat, k < n ↔ ((k : Int) < (n : Int) ∧ (k : Int) ≤ 10) := fun k => by omega
    cases hok : okC a0 a1 (flS a0 a1 n) with
    | true => exact core _ _ _ a0 a1 (flS a0 a1 n) true (by rw [flS_length]; omega) w (fun w => specPlain_yes a0 a1 n n w (by omega) hc hok) (fun w => implPlain_yes a0 a1 n w (by omega) (by omega) hok)
    | false => exact core _ _ _ 0 0 [] false (Nat.zero_le _) w (fun w => specPlain_bad a0 a1 n n w (by omega) hc hok) (fun w => implPlain_bad a0 a1 n w (by omega) (by omega) hok)
  · have hbad : ∀ M : Nat, M = 0 ∨ 10 < M → okC a0 a1 (flS a0 a1 M) = false := fun M hM => okC_len (by rw [flS_length]; omega)
    obtain ⟨M, hM, hM2, hc⟩ : ∃ M : Nat, M ≤ 11 ∧ (M = 0 ∨ 10 < M) ∧ ∀ k : Nat, k < M ↔ ((k : Int) < a2 ∧ (k : Int) ≤ 10) := by
      by_cases h1 : a2 < 1
      · exact ⟨0, by omega, .inl rfl, fun k => by omega⟩
      · exact ⟨11, by omega, .inr (by omega), fun k => by omega⟩
    exact core _ _ _ 0 0 [] false (Nat.zero_le _) w (fun w => specPlain_bad a0 a1 a2 M w hM hc (hbad M hM2)) (fun w => implPlain_out a0 a1 a2 w (by omega))

set_option maxRecDepth 100000 in
theorem lifted (os : Os) (started : os.Started) (H : Type) (enc : TypeId × Value → H) :
    ReturnsInHanded {} Try.checked os 13 .any (Rows.fnExactPlainCardSpec.pre6 enc Try.prog Try.f13 Rows.fnExactPlainCardRow.domain false) (Rows.fnExactPlainCardSpec.post enc Try.prog Try.f13 false true false false) := by
  refine returnsInHanded_of_change (C := Try.checked) own started (by kernel_rfl) Try.func13
    (ChangeSpec.witness6 (enc := enc) (C := Try.checked) false ⟨#[], #[.int .i64 0, .int .i64 0, .int .i64 0], []⟩ 8 (by kernel_rfl) (by kernel_rfl) (by kernel_rfl) (by kernel_rfl)) ?_
  intro W base args ds gs before hval0 hW hcnd _
  have hval : ∀ (j : Nat) t v, Try.f13.params[j]? = some t → args[j]? = some v → Value.okWide Try.prog W .any base t v := hval0
  have hW' := hW
  obtain ⟨p, q, hA0, hV, rfl, hfz, hnd⟩ := hW
  have hA : DataW.TrodAll enc Try.prog W 0 (fun _ => true) true Try.f13.params.toList args.toList ds p := hA0
  rw [Try.params13] at hA hval
  obtain ⟨v0, vs0, d0, ds0, p0, q0, hargs, rfl, rfl, h0, r0⟩ := trodAll_cons hA
  obtain ⟨v1, vs1, d1, ds1, p1, q1, rfl, rfl, rfl, h1, r1⟩ := trodAll_cons r0
  obtain ⟨v2, vs2, d2, ds2, p2, q2, rfl, rfl, rfl, h2, r2⟩ := trodAll_cons r1
  obtain ⟨rfl, rfl, rfl⟩ := trodAll_nil r2
  obtain rfl : args = #[v0, v1, v2] := by cases args; simp_all
  obtain ⟨rfl, rfl⟩ := trodVars_none hV
  obtain ⟨a0, rfl, rfl, rfl, w0⟩ := open_int Try.underlying3 (hval 0 3 v0 rfl rfl) h0
  obtain ⟨a1, rfl, rfl, rfl, w1⟩ := open_int Try.underlying3 (hval 1 3 v1 rfl rfl) h1
  obtain ⟨a2, rfl, rfl, rfl, w2⟩ := open_int Try.underlying3 (hval 2 3 v2 rfl rfl) h2
  clear hA0 hval0
  refine (walk a0 a1 a2 W w0 w1 w2).mono fun e W' ⟨he, bel⟩ => ?_
  subst he
  exact ⟨_, rfl, _, _, _, [], _, [], hW', trodAll_mk1 (shut_bool Try.underlying4 _), (trodAll_cons_mk (shut_int Try.underlying3 w0) (trodAll_cons_mk (shut_int Try.underlying3 w1) (trodAll_cons_mk (shut_int Try.underlying3 w2) trodAll_mk0))), rfl, bel.frame _, fun h => by cases h⟩

theorem closed : joinedFacts Try.prog 13 Try.f13 Rows.fnExactPlainCardSpec Rows.fnExactPlainCardRow = true := by
  unfold joinedFacts
  rw [cellMay, cellFinal, cellMake]
  repeat' (with_reducible refine and_mk ?_ ?_)
  all_goals first | with_reducible rfl | as_aux_lemma => kernel_rfl
theorem proved : Rows.FnExactPlainCardSaid :=
  OpenClaim.holds_of_wide 13 Try.f13 rfl rfl rfl rfl rfl rfl rfl ⟨rfl, rfl, rfl, rfl, rfl⟩ rfl rfl rfl rfl rfl (by kernel_rfl) Try.func13 closed
    (of_decide_eq_true (by kernel_rfl)) (by unfold Func.isWrapper; first | (rw [if_pos (by decide +kernel)]; kernel_rfl) | (rw [if_neg (by decide +kernel)]; exact ⟨rfl, rfl⟩))
    (fun os started H enc _ => lifted os started H enc)
#print axioms proved
end Go.Proofs.Ytplcfgpmpacjeaa.fnExactPlainCard
