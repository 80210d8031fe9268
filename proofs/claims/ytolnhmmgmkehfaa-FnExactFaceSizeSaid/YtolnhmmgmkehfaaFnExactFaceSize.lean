/- FnExactFaceSize: for every input the law returns true and its arguments read afterwards as they read before. No condition. -/
import Derived.Test.YtolnhmmgmkehfaaRows
import Derived.WalkKit
import Derived.ProofKit
import Derived.OpenShut
import Derived.ShutString
import Derived.ChangeOld
import Derived.Below
import Derived.Lib.SmallJoins
import Derived.SliceStrings
import Derived.Test.YtolnhmmgmkehfaaCells
import Derived.Test.YtolnhmmgmkehfaaCardIn
import Derived.Test.YtolnhmmgmkehfaaFaceF
import Derived.Deep.RegionWith
namespace Go.Proofs.Ytolnhmmgmkehfaa.fnExactFaceSize
open Go.ChangeShapes Go.WideShapes Go.ChangeAt Go.RowKit Go.Joins
open Go.ChangeMaps (open_string shut_string)
set_option linter.unusedVariables false

theorem own : ownKnob Try.prog.godebug = none := by kernel_rfl
theorem laidOut : laidOutB Try.prog = true := by kernel_rfl

set_option maxHeartbeats 6400000 in
set_option maxRecDepth 100000 in
theorem walk (d f : Int) (a : Option Addr) (c : Nat) (ss : List ByteArray) (x1 : Int) (w : World) (r : RdS w a ss) (z : SzS ss) (w1 : (Lit.int .i64 x1).wf = true) :
    Calls Try.prog 7 #[.agg #[.int .i64 d, .int .i64 f, .slice a ss.length c], .int .i64 x1] w fun e w' => e = .returned (.bool true) ∧ Below w.heap.size w w' := by
  go_enter Try.func7, Try.ntmps7
  go_wp2_with fail
  refine (szCard_any _ _ _ _ _ _ (r.alloc _) z _ (by omega) (by omega)).mono ?_
  rintro e u0 ⟨⟨x, rfl, hx⟩, b0⟩
  have HX := Lib.hid hx; clear hx
  obtain ⟨hc, hf⟩ := bcell b0
  have hz := b0.size
  have B0 : Below w.heap.size w u0 := ((Below.refl _ _).alloc (Nat.le_refl _) _).trans (b0.mono (by simp))
  have k0 : u0.cell? ⟨w.heap.size, 0, none⟩ = some (.int .i64 d) := by rw [hc _ _ (by simp)]; simp [go_sem]
  have k1 : u0.cell? ⟨w.heap.size, 1, none⟩ = some (.int .i64 f) := by rw [hc _ _ (by simp)]; simp [go_sem]
  have k2 : u0.cell? ⟨w.heap.size, 2, none⟩ = some (.slice a ss.length c) := by rw [hc _ _ (by simp)]; simp [go_sem]
  have hsz : w.heap.size < u0.heap.size := by simp at hz; omega
  clear hc hf hz b0
  by_cases hneg : x < 0
  · go_wp2
    go_ret
    exact ⟨rfl, B0⟩
  have hpos : 0 ≤ x := by omega
  clear hneg
  have hss : ss.length ≤ 1048576 := by
    rcases HX.out with h | h
    · omega
    · exact h.2.2.1
  have hmx : ss.length ≤ maxLen := z.1
  have r0 := r.below B0
  go_wp2_with fail
  refine (toCard_any _ _ _ _ _ _ r0 hss).mono ?_
  rintro e u1 ⟨a1, c1, rfl, o1, b1⟩
  have r1 := o1.rd
  go_wp2_with fail
  refine (specFaceSize_ex _ _ _ a1 c1 _ r1 z _).mono ?_
  rintro e u2 ⟨lab, hlab, rfl, b2⟩
  have B2 : Below u0.heap.size u0 u2 := b1.trans (b2.mono b1.size)
  have k0 : u2.cell? ⟨w.heap.size, 0, none⟩ = some (.int .i64 d) := (B2.cell (p := ⟨w.heap.size, 0, none⟩) hsz).trans k0
  have k1 : u2.cell? ⟨w.heap.size, 1, none⟩ = some (.int .i64 f) := (B2.cell (p := ⟨w.heap.size, 1, none⟩) hsz).trans k1
  have k2 : u2.cell? ⟨w.heap.size, 2, none⟩ = some (.slice a ss.length c) := (B2.cell (p := ⟨w.heap.size, 2, none⟩) hsz).trans k2
  have r2 := r0.below B2
  have hsz : w.heap.size < u2.heap.size := Nat.lt_of_lt_of_le hsz B2.size
  have W2 := B0.trans (B2.mono B0.size)
  clear r1 o1 b1 b2 B2 B0 r0
  go_wp2_with fail
  refine (toCard_any _ _ _ _ _ _ r2 hss).mono ?_
  rintro e u3 ⟨a3, c3, rfl, o3, b3⟩
  have k0 : u3.cell? ⟨w.heap.size, 0, none⟩ = some (.int .i64 d) := (b3.cell (p := ⟨w.heap.size, 0, none⟩) hsz).trans k0
  have k1 : u3.cell? ⟨w.heap.size, 1, none⟩ = some (.int .i64 f) := (b3.cell (p := ⟨w.heap.size, 1, none⟩) hsz).trans k1
  have k2 : u3.cell? ⟨w.heap.size, 2, none⟩ = some (.slice a ss.length c) := (b3.cell (p := ⟨w.heap.size, 2, none⟩) hsz).trans k2
  have r3 := r2.below b3
  have q3 := o3.rd
  have hsz : w.heap.size < u3.heap.size := Nat.lt_of_lt_of_le hsz b3.size
  have W3 := W2.trans (b3.mono W2.size)
  clear o3 b3 r2 W2
  go_wp2_with fail
  refine (implFaceSize_any _ _ _ a3 c3 _ (q3.alloc _) z _ lab hlab).mono ?_
  rintro e u4 ⟨rfl, b4⟩
  obtain ⟨hc, hf⟩ := bcell b4
  have hz := b4.size
  have j0 : u4.cell? ⟨u3.heap.size, 0, none⟩ = some (.int .i64 d) := by rw [hc _ _ (by simp)]; simp [go_sem]
  have j1 : u4.cell? ⟨u3.heap.size, 1, none⟩ = some (.int .i64 f) := by rw [hc _ _ (by simp)]; simp [go_sem]
  have j2 : u4.cell? ⟨u3.heap.size, 2, none⟩ = some (.slice a3 ss.length c3) := by rw [hc _ _ (by simp)]; simp [go_sem]
  have B4 : Below u3.heap.size u3 u4 := ((Below.refl _ _).alloc (Nat.le_refl _) _).trans (b4.mono (by simp))
  have hs3 : u3.heap.size < u4.heap.size := by simp at hz; omega
  clear hc hf hz b4
  have k0 : u4.cell? ⟨w.heap.size, 0, none⟩ = some (.int .i64 d) := (B4.cell (p := ⟨w.heap.size, 0, none⟩) hsz).trans k0
  have k1 : u4.cell? ⟨w.heap.size, 1, none⟩ = some (.int .i64 f) := (B4.cell (p := ⟨w.heap.size, 1, none⟩) hsz).trans k1
  have k2 : u4.cell? ⟨w.heap.size, 2, none⟩ = some (.slice a ss.length c) := (B4.cell (p := ⟨w.heap.size, 2, none⟩) hsz).trans k2
  have r4 := r3.below B4
  have q4 := q3.below B4
  have hsz : w.heap.size < u4.heap.size := Nat.lt_of_lt_of_le hsz B4.size
  have W4 := W3.trans (B4.mono W3.size)
  clear B4 W3 r3 q3
  go_wp2
  go_region_with ((first
    | (go_at_call 21; refine (toCard_any _ _ _ _ _ _ (show RdS u4.drew a ss from r4) hss).mono ?_; rintro e u5 ⟨a5, c5, rfl, o5, b5⟩; have i0 := (b5.cell (p := ⟨u3.heap.size, 0, none⟩) hs3).trans j0; have i1 := (b5.cell (p := ⟨u3.heap.size, 1, none⟩) hs3).trans j1; have i2 := (b5.cell (p := ⟨u3.heap.size, 2, none⟩) hs3).trans j2; have W5 := (dr_bel W4 ⟨1, rfl⟩).trans (b5.mono W4.size); have q5 := RdS.below (w := u4.drew) q4 b5; have p5 := o5.rd)
    | (go_at_call 23; refine (eqCard_same _ _ _ _ _ _ _ _ q5 p5 hmx).mono ?_; rintro e u6 ⟨rfl, b6⟩; have W6 := W5.trans (b6.mono W5.size))))
  all_goals
    go_wp2
    go_ret
    exact ⟨rfl, W6⟩

set_option maxRecDepth 100000 in
theorem lifted (os : Os) (started : os.Started) (H : Type) (enc : TypeId × Value → H) :
    ReturnsInHanded {} Try.checked os 7 .any (Rows.fnExactFaceSizeSpec.pre6 enc Try.prog Try.f7 Rows.fnExactFaceSizeRow.domain false) (Rows.fnExactFaceSizeSpec.post enc Try.prog Try.f7 false true false false) := by
  refine returnsInHanded_of_change (C := Try.checked) own started (by kernel_rfl) Try.func7
    (ChangeSpec.witness6 (enc := enc) (C := Try.checked) false ⟨#[], #[.agg #[.int .i64 0, .int .i64 0, .slice none 0 0], .int .i64 0], []⟩ 8 (by kernel_rfl) (by kernel_rfl) (by kernel_rfl) (by kernel_rfl)) ?_
  intro W base args ds gs before hval0 hW hcnd _
  have hval : ∀ (j : Nat) t v, Try.f7.params[j]? = some t → args[j]? = some v → Value.okWide Try.prog W .any base t v := hval0
  have hW' := hW
  obtain ⟨p, q, hA0, hV, rfl, hfz, hnd⟩ := hW
  have hA : DataW.TrodAll enc Try.prog W 0 (fun _ => true) true Try.f7.params.toList args.toList ds p := hA0
  rw [Try.params7] at hA hval
  obtain ⟨v0, vs0, d0, ds0, p0, q0, hargs, rfl, rfl, h0, r0⟩ := trodAll_cons hA
  obtain ⟨v1, vs1, d1, ds1, p1, q1, rfl, rfl, rfl, h1, r1⟩ := trodAll_cons r0
  obtain ⟨rfl, rfl, rfl⟩ := trodAll_nil r1
  obtain rfl : args = #[v0, v1] := by cases args; simp_all
  obtain ⟨rfl, rfl⟩ := trodVars_none hV
  have k0 := h0
  have lt0 : ∀ x ∈ p0, x.block < W.heap.size := by obtain ⟨m, hm⟩ := k0; exact DataW.trod_lt m _ _ _ hm
  obtain ⟨cd0, cf0, ca0, cc0, cs0, rfl, cr0, cz0, wd0, wf0⟩ := cardIn (hval 0 31 v0 rfl rfl) h0
  obtain ⟨a1, rfl, rfl, rfl, w1⟩ := open_int Try.underlying3 (hval 1 3 v1 rfl rfl) h1
  clear hA0 hval0
  refine (walk cd0 cf0 ca0 cc0 cs0 a1 W cr0 cz0 w1).mono fun e W' ⟨he, bel⟩ => ?_
  subst he
  exact ⟨_, rfl, _, _, _, [], _, [], hW', trodAll_mk1 (shut_bool Try.underlying4 _), (trodAll_cons_mk (Below.trod laidOut (by kernel_rfl) (of_decide_eq_true (by kernel_rfl)) k0 bel lt0) (trodAll_cons_mk (shut_int Try.underlying3 w1) trodAll_mk0)), rfl, bel.frame _, fun h => by cases h⟩

theorem closed : joinedFacts Try.prog 7 Try.f7 Rows.fnExactFaceSizeSpec Rows.fnExactFaceSizeRow = true := by
  unfold joinedFacts
  rw [cellMay, cellFinal, cellMake]
  repeat' (with_reducible refine and_mk ?_ ?_)
  all_goals first | with_reducible rfl | as_aux_lemma => kernel_rfl
theorem proved : Rows.FnExactFaceSizeSaid :=
  OpenClaim.holds_of_wide 7 Try.f7 rfl rfl rfl rfl rfl rfl rfl ⟨rfl, rfl, rfl, rfl, rfl⟩ rfl rfl rfl rfl rfl (by kernel_rfl) Try.func7 closed
    (of_decide_eq_true (by kernel_rfl)) (by unfold Func.isWrapper; first | (rw [if_pos (by decide +kernel)]; kernel_rfl) | (rw [if_neg (by decide +kernel)]; exact ⟨rfl, rfl⟩))
    (fun os started H enc _ => lifted os started H enc)
#print axioms proved
end Go.Proofs.Ytolnhmmgmkehfaa.fnExactFaceSize
