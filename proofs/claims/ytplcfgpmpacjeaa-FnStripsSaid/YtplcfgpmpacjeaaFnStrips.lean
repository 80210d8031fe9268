/- FnStrips: for every input the law returns true and its arguments read afterwards as they read before. No condition. -/
import Derived.Test.YtplcfgpmpacjeaaRows
import Derived.WalkKit
import Derived.ProofKit
import Derived.OpenShut
import Derived.ShutString
import Derived.ChangeOld
import Derived.Below
import Derived.Lib.SmallJoins
import Derived.SliceStrings
import Derived.Test.YtplcfgpmpacjeaaCells
import Derived.Test.YtplcfgpmpacjeaaStripsL
import Derived.Test.YtplcfgpmpacjeaaCards
namespace Go.Proofs.Ytplcfgpmpacjeaa.fnStrips
open Go.ChangeShapes Go.WideShapes Go.ChangeAt Go.RowKit Go.Joins
open Go.ChangeMaps (open_string shut_string)
set_option linter.unusedVariables false

theorem own : ownKnob Try.prog.godebug = none := by kernel_rfl
theorem laidOut : laidOutB Try.prog = true := by kernel_rfl

theorem big_no (a : Option Addr) (n cap : Nat) (hn : n ≤ 1048576) (w : World) :
    Calls Try.prog 53 #[.slice a n cap] w fun e w' => e = .returned (.bool false) ∧ w = w' := by
  go_enter Try.func53, Try.ntmps53
  go_wp2
  go_ret
  exact ⟨ret_bool (decide_eq_false (by omega)), rfl⟩
theorem flat_pos {d f : Nat} (h : 1 ≤ d) : 0 < (flatS d f).size := by rw [(flat_cnt d f).2.2]; omega
theorem high_pos {d f : Nat} (h : 1 ≤ f) : 0 < (highS d f).size := by rw [(high_cnt d f).2.2]; omega
theorem flat23 (w : World) : Calls Try.prog 67 #[.int .i64 2, .int .i64 3] w fun e w' => e = .returned (.string ⟨#[100, 100, 102, 102, 102]⟩) ∧ Below w.heap.size w w' :=
  implFlatStrip_yes 2 3 (by omega) (by omega) (by omega) (by omega) w

set_option maxRecDepth 100000 in
set_option maxHeartbeats 3200000 in
theorem walk (a : Option Addr) (n cap : Nat) (w : World) (hn : n ≤ maxLen) (hr : RdB w.heap.size w a n) :
    Calls Try.prog 16 #[.slice a n cap] w fun e w' => e = .returned (.bool true) ∧ Below w.heap.size w w' := by
  by_cases hg : 1048576 < n
  · unfold maxLen at hn
    clear hr
    go_enter Try.func16, Try.ntmps16
    go_wp2
    go_ret
    exact ⟨rfl, Below.refl _ _⟩
  have hn2 : n ≤ 1048576 := by omega
  clear hg hn
  have HR := Lib.hid hr; clear hr
  go_enter Try.func16, Try.ntmps16
  go_wp2_with fail
  refine (big_no _ _ _ hn2 _).mono ?_
  rintro e w' ⟨rfl, rfl⟩
  go_wp2_with fail
  refine (drawStrip_any _ _ _ _ hn2 HR.out).mono ?_
  rintro e w1 ⟨s, rfl, hs, b1⟩
  obtain ⟨z1, z2, z3, z4, z5, z6, z7⟩ := strip_size hs
  have hm : s.size ≤ maxLen := by unfold maxLen; omega
  have Y := Lib.hid (downV_yes hs); have X := Lib.hid (fwdV_yes hs)
  have HS := Lib.hid hs; have HB := Lib.hid b1; have Z3 := Lib.hid z3
  clear hs b1 z3
  generalize hd : cD s.data.toList = d at *
  generalize hf : cF s.data.toList = f at *
  have HD := Lib.hid hd; have HF := Lib.hid hf
  clear hd hf
  go_wp2_with fail
  refine (implDownOf_any s hm _).mono ?_
  rw [Y.out]
  rintro e w' ⟨rfl, rfl⟩
  go_wp2_with fail
  refine (implForwardOf_any s hm _).mono ?_
  rw [X.out]
  rintro e w' ⟨rfl, rfl⟩
  go_wp2_with fail
  refine (at0_any _ _ _ _ _ hn2 (HR.out.old HB.out)).mono ?_
  rintro e w' ⟨x, rfl, x0, x1, rfl⟩
  obtain ⟨k, hk⟩ : ∃ k : Nat, x % ((s.size : Int) + 1) = (k : Int) := Int.eq_ofNat_of_zero_le (Int.emod_nonneg _ (by omega))
  have hks : k ≤ s.size := by have := Int.emod_lt_of_pos x (show (0 : Int) < (s.size : Int) + 1 by omega); omega
  have t0 : ((s.size : Int) + 1 == 0) = false := beq_eq_false_iff_ne.2 (by omega)
  have y0 := cnt_take_le s.data.toList k
  have y1 := cD_take_le s.data.toList k
  have y2 := cF_take_le s.data.toList k
  rw [HD.out] at y1
  rw [HF.out] at y2
  have y3 := strip_take HS.out k hks
  go_wp2_with fail
  refine (implStripAt_yes s k hm HS.out hks _).mono ?_
  rintro e w' ⟨rfl, n1, rfl⟩
  have HK := Lib.hid hk
  clear hk t0 x0 x1
  generalize cF (List.take k s.data.toList) = fk at *
  generalize cD (List.take k s.data.toList) = dk at *
  have B1 := Lib.hid (dr_bel HB.out ⟨n1, rfl⟩)
  go_wp2_with fail
  refine (implFlatStrip_yes d f z4 z5 z6 z7 _).mono ?_
  rintro e w2 ⟨rfl, b2⟩
  have B2 := Lib.hid (B1.out.trans (b2.mono B1.out.size)); clear b2
  obtain ⟨p1, p2, p3⟩ := flat_cnt d f
  obtain ⟨q1, q2, q3⟩ := high_cnt d f
  have i1 := flat_pos (f := f) z4
  have i2 := high_pos (d := d) z6
  have pf := flat_first (f := f) z4 i1
  have qf := high_first (d := d) z6 i2
  have sp := flat_strip z4 z5 z6 z7
  have sq := high_strip z4 z5 z6 z7
  have SF1 : Hid (sameF s.data.toList (flatS d f).data.toList = true) := Lib.hid (sameF_mk HS.out sp (by rw [HD.out, p1]) (by rw [HF.out, p2]))
  have SF2 : Hid (sameF (flatS d f).data.toList (highS d f).data.toList = true) := Lib.hid (sameF_mk sp sq (by rw [p1, q1]) (by rw [p2, q2]))
  go_wp2_with fail
  refine (implHighStrip_yes d f z4 z5 z6 z7 _).mono ?_
  rintro e w3 ⟨rfl, b3⟩
  have B3 := Lib.hid (B2.out.trans (b3.mono B2.out.size)); clear b3
  clear p1 p2 q1 q2 sp sq
  generalize hp : flatS d f = P at *
  generalize hq : highS d f = Q at *
  clear hp hq
  have m1 : P.size ≤ maxLen := by unfold maxLen; omega
  have m2 : Q.size ≤ maxLen := by unfold maxLen; omega
  have j1 : ((P[0].toNat : Int) == 100) = true := by rw [pf]; rfl
  have j2 : ((Q[0].toNat : Int) == 102) = true := by rw [qf]; rfl
  have l1 : ((d : Int) + (f : Int) == (s.size : Int)) = true := beq_iff_eq.2 (by have := Z3.out; omega)
  have l2 : ((fk : Int) + (dk : Int) == (k : Int)) = true := beq_iff_eq.2 (by omega)
  have l2' : ((fk : Int) + (dk : Int) == x % ((s.size : Int) + 1)) = true := by rw [HK.out]; exact l2
  have l3 : ((P.size : Int) == (s.size : Int)) = true := beq_iff_eq.2 (by have := Z3.out; omega)
  have Z2 := Lib.hid p3; have Q3 := Lib.hid q3; have Y3 := Lib.hid y3
  clear p3 q3 y3 pf qf
  have r1 : (1 : Int) ≤ (d : Int) := by omega
  have r2 : (1 : Int) ≤ (f : Int) := by omega
  have r3 : (0 : Int) ≤ (fk : Int) := by omega
  have r4 : (0 : Int) ≤ (dk : Int) := by omega
  have r5 : (fk : Int) ≤ (f : Int) := by omega
  have r6 : (dk : Int) ≤ (d : Int) := by omega
  go_wp2_with fail
  refine (implIsStrip_any s hm _).mono ?_
  rw [HS.out]
  rintro e w' ⟨rfl, rfl⟩
  go_wp2_with fail
  refine (implSameFrame_any s P hm m1 _).mono ?_
  rw [SF1.out]
  rintro e w' ⟨rfl, rfl⟩
  go_wp2_with fail
  refine (implSameFrame_any P Q m1 m2 _).mono ?_
  rw [SF2.out]
  rintro e w' ⟨rfl, rfl⟩
  go_wp2_with fail
  refine (flat23 _).mono ?_
  rintro e w4 ⟨rfl, b4⟩
  have B4 := Lib.hid (B3.out.trans (b4.mono B3.out.size)); clear b4
  go_wp2
  go_ret
  exact ⟨rfl, B4.out⟩

set_option maxRecDepth 100000 in
theorem lifted (os : Os) (started : os.Started) (H : Type) (enc : TypeId × Value → H) :
    ReturnsInHanded {} Try.checked os 16 .any (Rows.fnStripsSpec.pre6 enc Try.prog Try.f16 Rows.fnStripsRow.domain false) (Rows.fnStripsSpec.post enc Try.prog Try.f16 false true false false) := by
  refine returnsInHanded_of_change (C := Try.checked) own started (by kernel_rfl) Try.func16
    (ChangeSpec.witness6 (enc := enc) (C := Try.checked) false ⟨#[], #[.slice none 0 0], []⟩ 8 (by kernel_rfl) (by kernel_rfl) (by kernel_rfl) (by kernel_rfl)) ?_
  intro W base args ds gs before hval0 hW hcnd _
  have hval : ∀ (j : Nat) t v, Try.f16.params[j]? = some t → args[j]? = some v → Value.okWide Try.prog W .any base t v := hval0
  have hW' := hW
  obtain ⟨p, q, hA0, hV, rfl, hfz, hnd⟩ := hW
  have hA : DataW.TrodAll enc Try.prog W 0 (fun _ => true) true Try.f16.params.toList args.toList ds p := hA0
  rw [Try.params16] at hA hval
  obtain ⟨v0, vs0, d0, ds0, p0, q0, hargs, rfl, rfl, h0, r0⟩ := trodAll_cons hA
  obtain ⟨rfl, rfl, rfl⟩ := trodAll_nil r0
  obtain rfl : args = #[v0] := by cases args; simp_all
  obtain ⟨rfl, rfl⟩ := trodVars_none hV
  have k0 := h0
  have lt0 : ∀ x ∈ p0, x.block < W.heap.size := by obtain ⟨m, hm⟩ := k0; exact DataW.trod_lt m _ _ _ hm
  obtain ⟨ba0, bn0, bc0, rfl, bm0, br0⟩ := codeIn (hval 0 55 v0 rfl rfl) h0
  clear hA0 hval0
  refine (walk ba0 bn0 bc0 W bm0 br0).mono fun e W' ⟨he, bel⟩ => ?_
  subst he
  exact ⟨_, rfl, _, _, _, [], _, [], hW', trodAll_mk1 (shut_bool Try.underlying4 _), (trodAll_cons_mk (Below.trod laidOut (by kernel_rfl) (of_decide_eq_true (by kernel_rfl)) k0 bel lt0) trodAll_mk0), rfl, bel.frame _, fun h => by cases h⟩

theorem closed : joinedFacts Try.prog 16 Try.f16 Rows.fnStripsSpec Rows.fnStripsRow = true := by
  unfold joinedFacts
  rw [cellMay, cellFinal, cellMake]
  repeat' (with_reducible refine and_mk ?_ ?_)
  all_goals first | with_reducible rfl | as_aux_lemma => kernel_rfl
theorem proved : Rows.FnStripsSaid :=
  OpenClaim.holds_of_wide 16 Try.f16 rfl rfl rfl rfl rfl rfl rfl ⟨rfl, rfl, rfl, rfl, rfl⟩ rfl rfl rfl rfl rfl (by kernel_rfl) Try.func16 closed
    (of_decide_eq_true (by kernel_rfl)) (by unfold Func.isWrapper; first | (rw [if_pos (by decide +kernel)]; kernel_rfl) | (rw [if_neg (by decide +kernel)]; exact ⟨rfl, rfl⟩))
    (fun os started H enc _ => lifted os started H enc)
#print axioms proved
end Go.Proofs.Ytplcfgpmpacjeaa.fnStrips
