/- FnPlaces: for every input the law returns true and its arguments read afterwards as they read before. No condition. -/
import Derived.Test.YtplcfgpmpacjeaaRows
import Derived.WalkKit
import Derived.ProofKit
import Derived.OpenShut
import Derived.ShutString
import Derived.ChangeOld
import Derived.Below
import Derived.Lib.SmallJoins
import Derived.SliceStrings
import Derived.Test.YtplcfgpmpacjeaaCells
import Derived.Test.YtplcfgpmpacjeaaPlacesL
import Derived.Test.YtplcfgpmpacjeaaPlaceFns2
import Derived.Test.YtplcfgpmpacjeaaCards
namespace Go.Proofs.Ytplcfgpmpacjeaa.fnPlaces
open Go.ChangeShapes Go.WideShapes Go.ChangeAt Go.RowKit Go.Joins
open Go.ChangeMaps (open_string shut_string)
set_option linter.unusedVariables false

theorem own : ownKnob Try.prog.godebug = none := by kernel_rfl
theorem laidOut : laidOutB Try.prog = true := by kernel_rfl

theorem big_no (a : Option Addr) (n cap : Nat) (hn : n ≤ 1048576) (w : World) :
    Calls Try.prog 53 #[.slice a n cap] w fun e w' => e = .returned (.bool false) ∧ w = w' := by
  go_enter Try.func53, Try.ntmps53
  go_wp2
  go_ret
  exact ⟨ret_bool (decide_eq_false (by omega)), rfl⟩
theorem toList_inj' {a b : ByteArray} (h : a.toList = b.toList) : a = b := by
  rw [Go.ByteArray.toList_eq, Go.ByteArray.toList_eq] at h; exact ByteArray.ext (Array.toList_inj.1 h)

set_option maxRecDepth 100000 in
set_option maxHeartbeats 3200000 in
theorem walk (a : Option Addr) (n cap : Nat) (w : World) (hn : n ≤ maxLen) (hr : RdB w.heap.size w a n) :
    Calls Try.prog 15 #[.slice a n cap] w fun e w' => e = .returned (.bool true) ∧ Below w.heap.size w w' := by
  by_cases hg : 1048576 < n
  · unfold maxLen at hn
    clear hr
    go_enter Try.func15, Try.ntmps15
    go_wp2
    go_ret
    exact ⟨rfl, Below.refl _ _⟩
  have hn2 : n ≤ 1048576 := by omega
  clear hg hn
  have HR := Lib.hid hr; clear hr
  go_enter Try.func15, Try.ntmps15
  go_wp2_with fail
  refine (big_no _ _ _ hn2 _).mono ?_
  rintro e w' ⟨rfl, rfl⟩
  go_wp2_with fail
  refine (drawStrip_any _ _ _ _ hn2 HR.out).mono ?_
  rintro e w1 ⟨s, rfl, hs, b1⟩
  obtain ⟨z1, z2, z3, z4, z5, z6, z7⟩ := strip_size hs
  have hm : s.size ≤ maxLen := by unfold maxLen; omega
  have Y := Lib.hid (downV_yes hs); have X := Lib.hid (fwdV_yes hs)
  have HS := Lib.hid hs; have HB := Lib.hid b1; have Z3 := Lib.hid z3
  have RB := reach_bd hs
  obtain ⟨rb1, rb2, rb3⟩ := RB
  have RG : Hid (∀ k : Nat, k ≤ s.size → plX s k 0 ≤ reachV s) := Lib.hid (fun k hk => reach_ge hs hk)
  have PA : Hid (∀ k : Nat, k ≤ s.size → _) := Lib.hid (fun k hk => pl_all hs (k := k) hk)
  have RH := Lib.hid (reach_high hs)
  have SP := Lib.hid (spread_all hs)
  have SA := Lib.hid (stays_all hs)
  clear hs b1 z3
  generalize hN : reachV s = N at *
  generalize hd : cD s.data.toList = d at *
  generalize hf : cF s.data.toList = f at *
  clear hd hf
  have HN := Lib.hid hN; clear hN
  go_wp2_with fail
  refine (implReachClosed_any s hm _).mono ?_
  rw [HN.out]
  rintro e w' ⟨rfl, q1, rfl⟩
  go_wp2_with fail
  refine (specDownOf_any s hm _).mono ?_
  rw [Y.out]
  rintro e w' ⟨rfl, rfl⟩
  go_wp2_with fail
  refine (specForwardOf_any s hm _).mono ?_
  rw [X.out]
  rintro e w' ⟨rfl, rfl⟩
  go_wp2
  go_loopw [7] (fun i wr => ∃ k : Nat, k ≤ s.size + 1 ∧ i = .int .i64 k ∧ ∃ q, wr = w1.drewN q) (fun i _ => s.size + 1 - (intOf i).toNat)
  case atStart => exact ⟨0, Nat.zero_le _, rfl, _, rfl⟩
  case round =>
    obtain ⟨k, hk, rfl, q, rfl⟩ := hrel
    by_cases hlt : k ≤ s.size
    · obtain ⟨⟨c0, c1, c2⟩, y0, y2, x0, x2, x3, _⟩ := PA.out k hlt
      have hre := RG.out k hlt
      rw [x0] at hre
      rw [x2] at x3
      have ub := plX_bd s k 1
      have vb := plY_bd s k 1
      have C0 := Lib.hid c0; have C1 := Lib.hid c1; have C2 := Lib.hid c2; have Y0 := Lib.hid y0; have Y2 := Lib.hid y2; have X0 := Lib.hid x0; have X2 := Lib.hid x2
      clear c0 c1 c2 y0 y2 x0 x2
      go_wp2_with fail
      refine (implPlaceOf_any s k 0 hm _).mono ?_
      rw [C0.out, Y0.out, X0.out]
      rintro e w' ⟨rfl, q2, rfl⟩
      go_wp2_with fail
      refine (implPlaceOf_any s k 1 hm _).mono ?_
      rw [C1.out]
      rintro e w' ⟨rfl, q3, rfl⟩
      go_wp2_with fail
      refine (implPlaceOf_any s k 2 hm _).mono ?_
      rw [C2.out, Y2.out, X2.out]
      rintro e w' ⟨rfl, q4, rfl⟩
      generalize hu : plX s k 1 = u at *
      generalize hv : plY s k 1 = v at *
      clear hu hv
      obtain ⟨u0, u1⟩ := ub
      obtain ⟨v0, v1⟩ := vb
      have e1 : (k : Int) ≤ (s.size : Int) := by omega
      have e2 : ¬ N < u + v := by omega
      have e3 : (u - v != (k : Int) - (d : Int)) = false := by rw [bne_eq_false_iff_eq]; exact x3
      clear x3 hre
      by_cases hk0 : k = 0
      · have e4 : ¬ (0 : Int) < (k : Int) := by omega
        clear hk0
        go_wp2
        go_roundw
        case rel => exact ⟨k + 1, by omega, by go_num, _, by first | rfl | exact (World.drewN_drewN _ _ _).symm | (simp only [World.drewN_drewN])⟩
        case measure => simp [intOf]; omega
      · have e4 : (0 : Int) < (k : Int) := by omega
        have st : ∀ o : Int, 0 ≤ o → o ≤ 2 → stepV s k o = 1 := fun o h1 h2 => stepV_yes ⟨HS.out, ⟨by omega, by omega⟩, h1, h2⟩
        have S0 := Lib.hid (st 0 (by omega) (by omega)); have S1 := Lib.hid (st 1 (by omega) (by omega)); have S2 := Lib.hid (st 2 (by omega) (by omega))
        clear st
        go_wp2_with fail
        refine (implStepLength_any s k 0 hm (by omega) (by omega) _).mono ?_
        rw [S0.out]
        rintro e w' ⟨rfl, q5, rfl⟩
        go_wp2_with fail
        refine (implStepLength_any s k 1 hm (by omega) (by omega) _).mono ?_
        rw [S1.out]
        rintro e w' ⟨rfl, q6, rfl⟩
        go_wp2_with fail
        refine (implStepLength_any s k 2 hm (by omega) (by omega) _).mono ?_
        rw [S2.out]
        rintro e w' ⟨rfl, q7, rfl⟩
        go_wp2
        go_roundw
        case rel => exact ⟨k + 1, by omega, by go_num, _, by first | rfl | exact (World.drewN_drewN _ _ _).symm | (simp only [World.drewN_drewN])⟩
        case measure => simp [intOf]; omega
    · obtain rfl : k = s.size + 1 := by omega
      have e1 : ¬ ((s.size + 1 : Nat) : Int) ≤ (s.size : Int) := by omega
      have e2 : max (d : Int) (f : Int) ≤ N := by omega
      by_cases hh : s = highS d f
      · have t1 : (N == (d : Int) + (f : Int)) = true := beq_iff_eq.2 (RH.out.2 hh)
        have t2 : (s.toList == (highS d f).toList) = true := by rw [← hh]; simp
        clear hh
        go_wp2_with fail
        refine (specHighStrip_yes d f z4 z5 z6 z7 _).mono ?_
        rintro e w2 ⟨rfl, b2⟩
        have B2 := Lib.hid ((dr_bel HB.out ⟨_, rfl⟩).trans (b2.mono HB.out.size)); clear b2
        go_wp2_with fail
        refine (implSpreadOf_any s hm _).mono ?_
        rw [SP.out]
        rintro e w' ⟨rfl, q8, rfl⟩
        go_wp2_with fail
        refine (implStaysInside_any s _ hm _).mono ?_
        rw [SA.out.1]
        rintro e w' ⟨rfl, q9, rfl⟩
        go_wp2_with fail
        refine (implStaysInside_any s _ hm _).mono ?_
        rw [SA.out.2]
        rintro e w' ⟨rfl, q10, rfl⟩
        go_wp2
        go_ret
        exact ⟨rfl, dr_bel B2.out (by first | exact ⟨_, rfl⟩ | exact ⟨_, by simp only [World.drewN_drewN]; rfl⟩)⟩
      · have t1 : (N == (d : Int) + (f : Int)) = false := beq_eq_false_iff_ne.2 (fun h => hh (RH.out.1 h))
        have t2 : (s.toList == (highS d f).toList) = false := beq_eq_false_iff_ne.2 (fun h => hh (toList_inj' h))
        clear hh
        go_wp2_with fail
        refine (specHighStrip_yes d f z4 z5 z6 z7 _).mono ?_
        rintro e w2 ⟨rfl, b2⟩
        have B2 := Lib.hid ((dr_bel HB.out ⟨_, rfl⟩).trans (b2.mono HB.out.size)); clear b2
        go_wp2_with fail
        refine (implSpreadOf_any s hm _).mono ?_
        rw [SP.out]
        rintro e w' ⟨rfl, q8, rfl⟩
        go_wp2_with fail
        refine (implStaysInside_any s _ hm _).mono ?_
        rw [SA.out.1]
        rintro e w' ⟨rfl, q9, rfl⟩
        go_wp2_with fail
        refine (implStaysInside_any s _ hm _).mono ?_
        rw [SA.out.2]
        rintro e w' ⟨rfl, q10, rfl⟩
        go_wp2
        go_ret
        exact ⟨rfl, dr_bel B2.out (by first | exact ⟨_, rfl⟩ | exact ⟨_, by simp only [World.drewN_drewN]; rfl⟩)⟩

set_option maxRecDepth 100000 in
theorem lifted (os : Os) (started : os.Started) (H : Type) (enc : TypeId × Value → H) :
    ReturnsInHanded {} Try.checked os 15 .any (Rows.fnPlacesSpec.pre6 enc Try.prog Try.f15 Rows.fnPlacesRow.domain false) (Rows.fnPlacesSpec.post enc Try.prog Try.f15 false true false false) := by
  refine returnsInHanded_of_change (C := Try.checked) own started (by kernel_rfl) Try.func15
    (ChangeSpec.witness6 (enc := enc) (C := Try.checked) false ⟨#[], #[.slice none 0 0], []⟩ 8 (by kernel_rfl) (by kernel_rfl) (by kernel_rfl) (by kernel_rfl)) ?_
  intro W base args ds gs before hval0 hW hcnd _
  have hval : ∀ (j : Nat) t v, Try.f15.params[j]? = some t → args[j]? = some v → Value.okWide Try.prog W .any base t v := hval0
  have hW' := hW
  obtain ⟨p, q, hA0, hV, rfl, hfz, hnd⟩ := hW
  have hA : DataW.TrodAll enc Try.prog W 0 (fun _ => true) true Try.f15.params.toList args.toList ds p := hA0
  rw [Try.params15] at hA hval
  obtain ⟨v0, vs0, d0, ds0, p0, q0, hargs, rfl, rfl, h0, r0⟩ := trodAll_cons hA
  obtain ⟨rfl, rfl, rfl⟩ := trodAll_nil r0
  obtain rfl : args = #[v0] := by cases args; simp_all
  obtain ⟨rfl, rfl⟩ := trodVars_none hV
  have k0 := h0
  have lt0 : ∀ x ∈ p0, x.block < W.heap.size := by obtain ⟨m, hm⟩ := k0; exact DataW.trod_lt m _ _ _ hm
  obtain ⟨ba0, bn0, bc0, rfl, bm0, br0⟩ := codeIn (hval 0 55 v0 rfl rfl) h0
  clear hA0 hval0
  refine (walk ba0 bn0 bc0 W bm0 br0).mono fun e W' ⟨he, bel⟩ => ?_
  subst he
  exact ⟨_, rfl, _, _, _, [], _, [], hW', trodAll_mk1 (shut_bool Try.underlying4 _), (trodAll_cons_mk (Below.trod laidOut (by kernel_rfl) (of_decide_eq_true (by kernel_rfl)) k0 bel lt0) trodAll_mk0), rfl, bel.frame _, fun h => by cases h⟩

theorem closed : joinedFacts Try.prog 15 Try.f15 Rows.fnPlacesSpec Rows.fnPlacesRow = true := by
  unfold joinedFacts
  rw [cellMay, cellFinal, cellMake]
  repeat' (with_reducible refine and_mk ?_ ?_)
  all_goals first | with_reducible rfl | as_aux_lemma => kernel_rfl
theorem proved : Rows.FnPlacesSaid :=
  OpenClaim.holds_of_wide 15 Try.f15 rfl rfl rfl rfl rfl rfl rfl ⟨rfl, rfl, rfl, rfl, rfl⟩ rfl rfl rfl rfl rfl (by kernel_rfl) Try.func15 closed
    (of_decide_eq_true (by kernel_rfl)) (by unfold Func.isWrapper; first | (rw [if_pos (by decide +kernel)]; kernel_rfl) | (rw [if_neg (by decide +kernel)]; exact ⟨rfl, rfl⟩))
    (fun os started H enc _ => lifted os started H enc)
#print axioms proved
end Go.Proofs.Ytplcfgpmpacjeaa.fnPlaces
