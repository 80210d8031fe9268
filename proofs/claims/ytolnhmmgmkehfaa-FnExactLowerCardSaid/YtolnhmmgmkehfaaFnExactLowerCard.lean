/- FnExactLowerCard: for every input the law returns true and its arguments read afterwards as they read before. No condition. -/
import Derived.Test.YtolnhmmgmkehfaaRows
import Derived.WalkKit
import Derived.ProofKit
import Derived.OpenShut
import Derived.ShutString
import Derived.ChangeOld
import Derived.Below
import Derived.Lib.SmallJoins
import Derived.SliceStrings
import Derived.Test.YtolnhmmgmkehfaaCells
import Derived.Test.YtolnhmmgmkehfaaUpper
import Derived.Test.YtolnhmmgmkehfaaTwo
import Derived.Test.YtolnhmmgmkehfaaMarksS
import Derived.Test.YtolnhmmgmkehfaaCardIn
import Derived.Test.YtolnhmmgmkehfaaHand
import Derived.Deep.RegionHeld3
import Derived.Deep.DeepCutAuto
namespace Go.Proofs.Ytolnhmmgmkehfaa.fnExactLowerCard
open Go.ChangeShapes Go.WideShapes Go.ChangeAt Go.RowKit Go.Joins
open Go.ChangeMaps (open_string shut_string)
set_option linter.unusedVariables false

theorem own : ownKnob Try.prog.godebug = none := by kernel_rfl
theorem laidOut : laidOutB Try.prog = true := by kernel_rfl

theorem Blk.set0 {w : World} {b : Nat} {x y z : Value} (h : Blk w b x y z) (u : Value) : Blk (w.setCell ⟨b, 0, none⟩ u) b u y z := by
  have := heap_setCell_same w b 0 #[x, y, z] _ u h
  simpa [Blk] using this
theorem Blk.set1 {w : World} {b : Nat} {x y z : Value} (h : Blk w b x y z) (u : Value) : Blk (w.setCell ⟨b, 1, none⟩ u) b x u z := by
  have := heap_setCell_same w b 1 #[x, y, z] _ u h
  simpa [Blk] using this
theorem Blk.cel {w : World} {b : Nat} {x y z : Value} (h : Blk w b x y z) : CelL w b x y z := ⟨h.lt, h.c0, h.c1, h.c2⟩
theorem own_far {B X : Nat} {v : Value} {xs : List ByteArray} {w : World} (h : OwnS B v xs w) (hX : v.ownBlock ≠ some X) (j : Nat) (u : Value) : OwnS B v xs (w.setCell ⟨X, j, none⟩ u) :=
  World.ownsRow.kept h (grown_set w X j u) (.inr hX)

set_option maxHeartbeats 6400000 in
set_option maxRecDepth 100000 in
theorem core (D E : Int) (R : List ByteArray) (ok : Bool) (hR : R.length ≤ 1000) (d1 f1 : Int) (a1 : Option Addr) (c1 : Nat) (ss : List ByteArray) (d2 f2 : Int) (a2 : Option Addr) (c2 : Nat) (tt : List ByteArray) (w : World) (r1 : RdS w a1 ss) (z1 : SzS ss) (r2 : RdS w a2 tt) (z2 : SzS tt)
    (cs : ∀ (w : World) (a1 a2 : Option Addr) (c1 c2 : Nat), RdS w a1 ss → RdS w a2 tt → Calls Try.prog 28 #[.agg #[.int .i64 d1, .int .i64 f1, .slice a1 ss.length c1], .agg #[.int .i64 d2, .int .i64 f2, .slice a2 tt.length c2]] w fun e w' => CardR w.heap.size D E R ok e w' ∧ Below w.heap.size w w')
    (ci : ∀ (w : World) (a1 a2 : Option Addr) (c1 c2 : Nat), RdS w a1 ss → RdS w a2 tt → Calls Try.prog 29 #[.agg #[.int .i64 d1, .int .i64 f1, .slice a1 ss.length c1], .agg #[.int .i64 d2, .int .i64 f2, .slice a2 tt.length c2]] w fun e w' => CardR w.heap.size D E R ok e w' ∧ Below w.heap.size w w') :
    Calls Try.prog 8 #[.agg #[.int .i64 d1, .int .i64 f1, .slice a1 ss.length c1], .agg #[.int .i64 d2, .int .i64 f2, .slice a2 tt.length c2]] w fun e w' => e = .returned (.bool true) ∧ Below w.heap.size w w' := by
  have CS := Lib.hid cs; have CI := Lib.hid ci; clear cs ci
  have hm : R.length ≤ maxLen := by unfold maxLen; omega
  have hk : 1 + R.length ≤ 10000000 := by omega
  have S0 := Two.start w d1 f1 d2 f2 a1 a2 c1 c2 ss tt 31 31 r1 r2
  go_enter Try.func8, Try.ntmps8
  go_wp2_with fail
  refine (szCard_any _ _ _ _ _ _ S0.rb z1 _ (by omega) (by omega)).mono ?_
  rintro e u0 ⟨⟨x, rfl, hx⟩, b0⟩
  have S := S0.below b0
  have HX := Lib.hid hx; clear hx S0 b0
  obtain ⟨_, k0, k1, k2⟩ := S.kb; obtain ⟨_, m0, m1, m2⟩ := S.kc
  by_cases hneg : x < 0
  · go_wp2
    go_ret
    exact ⟨rfl, S.W⟩
  have hpos : 0 ≤ x := by omega
  have hss : ss.length ≤ 1048576 := by rcases HX.out with h | h <;> omega
  have hxle : x ≤ 1048576 := by rcases HX.out with h | h <;> omega
  clear hneg
  go_wp2_with fail
  refine (szCard_any _ _ _ _ _ _ S.rc z2 _ hpos hxle).mono ?_
  rintro e u1 ⟨⟨y, rfl, hy⟩, b0⟩
  have S := S.below b0
  have HY := Lib.hid hy; clear hy b0 k0 k1 k2 m0 m1 m2
  obtain ⟨_, k0, k1, k2⟩ := S.kb; obtain ⟨_, m0, m1, m2⟩ := S.kc
  by_cases hneg : y < 0
  · go_wp2
    go_ret
    exact ⟨rfl, S.W⟩
  have hpos2 : 0 ≤ y := by omega
  have htt : tt.length ≤ 1048576 := by rcases HY.out with h | h <;> omega
  clear hneg
  clear HX HY
  have hcut0 : w.heap.size + 2 ≤ u1.heap.size := by have := S.kc.1; omega
  go_upto_region 8 with fail
  go_cut [6, 7] (fun s6 s7 wx => ∃ (X : Nat) (p0 : Option Addr) (q0 : Nat), s6 = .pointer (some ⟨X, 0, none⟩) ∧ s7 = .bool ok ∧ Hid (w.heap.size + 2 ≤ X) ∧ Two w d1 f1 d2 f2 a1 a2 c1 c2 ss tt wx ∧ CelL wx X (.int .i64 D) (.int .i64 E) (.slice p0 R.length q0) ∧ OwnS w.heap.size (.slice p0 R.length q0) R wx)
  case first =>
    clear k0 k1 k2 m0 m1 m2
    have T := S.drew
    have BB : Below u1.heap.size u1 u1.drew := dr_below ⟨1, rfl⟩ _
    refine wp_hand (S := (fun w' => w'.cell? ⟨w.heap.size, 0, none⟩ = some (.int .i64 d1) ∧ w'.cell? ⟨w.heap.size, 1, none⟩ = some (.int .i64 f1) ∧ w'.cell? ⟨w.heap.size, 2, none⟩ = some (.slice a1 ss.length c1) ∧ w'.cell? ⟨w.heap.size + 1, 0, none⟩ = some (.int .i64 d2) ∧ w'.cell? ⟨w.heap.size + 1, 1, none⟩ = some (.int .i64 f2) ∧ w'.cell? ⟨w.heap.size + 1, 2, none⟩ = some (.slice a2 tt.length c2))) (by kernel_rfl) ⟨T.kb.2.1, T.kb.2.2.1, T.kb.2.2.2, T.kc.2.1, T.kc.2.2.1, T.kc.2.2.2⟩ (fun _ _ d _ _ h => by cases d <;> exact h) (fun hBl hHeld => ?_)
    refine take2 (i := 0) (v := ?_) (d := some 28) hBl rfl rfl (by kernel_rfl) (by kernel_rfl) (by kernel_rfl) (by kernel_rfl) ?_ hHeld ?_
    rotate_left
    · (intro w hSw; (try dsimp only at hSw); go_simp <;> with_reducible rfl)
    try simp only [Act.put, List.setIfInBounds_toArray, List.set_cons_zero, List.set_cons_succ]
    refine take2 (i := 2) (v := ?_) (d := some 30) hBl rfl rfl (by kernel_rfl) (by kernel_rfl) (by kernel_rfl) (by kernel_rfl) ?_ hHeld ?_
    rotate_left
    · (intro w hSw; (try dsimp only at hSw); go_simp <;> with_reducible rfl)
    try simp only [Act.put, List.setIfInBounds_toArray, List.set_cons_zero, List.set_cons_succ]
    refine wpAnyH_ready (rs := [1, 8]) (by kernel_rfl) (by simp) ?_
    refine AllReadyH.cons rfl (fun K hK => ?_) (AllReadyH.cons rfl (fun K hK => ?_) AllReadyH.nil)
    · go_simp
      (go_at_call 21; refine (toCard_any _ d1 f1 a1 c1 ss T.rb hss).mono ?_; rintro e v1 ⟨p1, q1, rfl, o1, b1⟩)
      have T' := T.below b1
      have T := T'
      have BB := BB.trans (b1.mono BB.size)
      have g1 := OwnS.rd o1
      go_wp2_with fail
      refine hK.out _ _ ⟨T.kb.2.1, T.kb.2.2.1, T.kb.2.2.2, T.kc.2.1, T.kc.2.2.1, T.kc.2.2.2⟩ (fun hHeld => ?_)
      clear hK K b1
      try simp only [Act.put, List.setIfInBounds_toArray, List.set_cons_zero, List.set_cons_succ]
      refine wpAnyH_ready (rs := [3, 8]) (by kernel_rfl) (by simp) ?_
      refine AllReadyH.cons rfl (fun K hK => ?_) (AllReadyH.cons rfl (fun K hK => ?_) AllReadyH.nil)
      · go_simp
        (go_at_call 21; refine (toCard_any _ d2 f2 a2 c2 tt T.rc htt).mono ?_; rintro e v2 ⟨p2, q2, rfl, o2, b1⟩)
        have T' := T.below b1
        have T := T'
        have BB := BB.trans (b1.mono BB.size)
        have g1 := g1.below b1
        have g2 := OwnS.rd o2
        go_wp2_with fail
        refine hK.out _ _ ⟨T.kb.2.1, T.kb.2.2.1, T.kb.2.2.2, T.kc.2.1, T.kc.2.2.1, T.kc.2.2.2⟩ (fun hHeld => ?_)
        clear hK K b1
        try simp only [Act.put, List.setIfInBounds_toArray, List.set_cons_zero, List.set_cons_succ]
        refine wpAnyH_ready (rs := [4, 8]) (by kernel_rfl) (by simp) ?_
        refine AllReadyH.cons rfl (fun K hK => ?_) (AllReadyH.cons rfl (fun K hK => ?_) AllReadyH.nil)
        · go_simp
          (go_at_call 28; refine (CS.out _ p1 p2 q1 q2 g1 g2).mono ?_; rintro e v3 ⟨⟨p3, q3, rfl, o3⟩, b1⟩)
          have o3 : OwnS w.heap.size (.slice p3 R.length q3) R v3 := World.ownsRow.mono o3 T.W.size
          have T' := T.below b1
          have T := T'
          have BB := BB.trans (b1.mono BB.size)
          go_wp2_with fail
          refine hK.out _ _ ⟨T.kb.2.1, T.kb.2.2.1, T.kb.2.2.2, T.kc.2.1, T.kc.2.2.1, T.kc.2.2.2⟩ (fun hHeld => ?_)
          clear hK K b1
          try simp only [Act.put, List.setIfInBounds_toArray, List.set_cons_zero, List.set_cons_succ]
          refine take2 (i := 5) (v := ?_) (d := some 27) hBl rfl rfl (by kernel_rfl) (by kernel_rfl) (by kernel_rfl) (by kernel_rfl) ?_ hHeld ?_
          rotate_left
          · (intro w hSw; (try dsimp only at hSw); go_simp <;> with_reducible rfl)
          try simp only [Act.put, List.setIfInBounds_toArray, List.set_cons_zero, List.set_cons_succ]
          refine take2 (i := 6) (v := ?_) (d := some 33) hBl rfl rfl (by kernel_rfl) (by kernel_rfl) (by kernel_rfl) (by kernel_rfl) ?_ hHeld ?_
          rotate_left
          · (intro w hSw; (try dsimp only at hSw); go_simp <;> with_reducible rfl)
          try simp only [Act.put, List.setIfInBounds_toArray, List.set_cons_zero, List.set_cons_succ]
          refine take2 (i := 7) (v := ?_) (d := some 34) hBl rfl rfl (by kernel_rfl) (by kernel_rfl) (by kernel_rfl) (by kernel_rfl) ?_ hHeld ?_
          rotate_left
          · (intro w hSw; (try dsimp only at hSw); go_simp <;> with_reducible rfl)
          try simp only [Act.put, List.setIfInBounds_toArray, List.set_cons_zero, List.set_cons_succ]
          refine wpAnyH_ready (rs := [8]) (by kernel_rfl) (by simp) ?_
          refine AllReadyH.cons rfl (fun K hK => ?_) AllReadyH.nil
          · go_simp
            refine hK.out _ _ ⟨(T.below (bel_new _ _)).kb.2.1, (T.below (bel_new _ _)).kb.2.2.1, (T.below (bel_new _ _)).kb.2.2.2, (T.below (bel_new _ _)).kc.2.1, (T.below (bel_new _ _)).kc.2.2.1, (T.below (bel_new _ _)).kc.2.2.2⟩ (fun hHeld => ?_)
            clear hK K
            try simp only [Act.put, List.setIfInBounds_toArray, List.set_cons_zero, List.set_cons_succ]
            have A6 := Blk.new v3 (.int .i64 0) (.int .i64 0) (.slice none 0 0)
            have T := T.below (bel_new _ (.cells #[.int .i64 0, .int .i64 0, .slice none 0 0] 34))
            have g1 := g1.below (bel_new _ (.cells #[.int .i64 0, .int .i64 0, .slice none 0 0] 34))
            have g2 := g2.below (bel_new _ (.cells #[.int .i64 0, .int .i64 0, .slice none 0 0] 34))
            have hXo : (Value.slice p3 R.length q3).ownBlock ≠ some v3.heap.size := fun e => by have := (o3.lt _ e).2; omega
            have o3 := OwnS.below o3 (bel_new _ (.cells #[.int .i64 0, .int .i64 0, .slice none 0 0] 34))
            have hXB : u1.heap.size ≤ v3.heap.size := BB.size
            have BB := BB.trans ((bel_new _ (.cells #[.int .i64 0, .int .i64 0, .slice none 0 0] 34)).mono BB.size)
            have hX : w.heap.size + 2 ≤ v3.heap.size := by have := T'.kc.1; omega
            generalize hXX : v3.heap.size = X at hX hXB A6 hXo ⊢
            generalize (v3.alloc (.cells #[.int .i64 0, .int .i64 0, .slice none 0 0] 34)) = va at hHeld A6 T BB g1 g2 o3 ⊢
            clear hXX
            refine wpAnyH_ready (rs := [9]) (by kernel_rfl) (by simp) ?_
            refine AllReadyH.cons rfl (fun K hK => ?_) AllReadyH.nil
            have y0 := A6.c0; have y1 := A6.c1; have y2 := A6.c2; have yf0 := A6.fz 0; have yf1 := A6.fz 1; have yf2 := A6.fz 2; have yl := A6.lt
            have T9 := T.keep r1 r2 (((Below.refl (w.heap.size + 2) _).setCell (p := ⟨X, 0, none⟩) hX (.int .i64 D)).setCell (p := ⟨X, 1, none⟩) hX (.int .i64 E) |>.setCell (p := ⟨X, 2, none⟩) hX (.slice p3 R.length q3))
            have K6r : CelL _ X (.int .i64 D) (.int .i64 E) (.slice p3 R.length q3) := Blk.cel (Blk.set2 (Blk.set1 (Blk.set0 A6 (.int .i64 D)) (.int .i64 E)) (.slice p3 R.length q3))
            have O6r : OwnS w.heap.size (.slice p3 R.length q3) R _ := own_far (own_far (own_far o3 hXo 0 (.int .i64 D)) hXo 1 (.int .i64 E)) hXo 2 (.slice p3 R.length q3)
            go_simp
            refine hK.out _ _ ⟨T9.kb.2.1, T9.kb.2.2.1, T9.kb.2.2.2, T9.kc.2.1, T9.kc.2.2.1, T9.kc.2.2.2⟩ (fun hHeld => ?_)
            clear hK K
            try simp only [Act.put, List.setIfInBounds_toArray, List.set_cons_zero, List.set_cons_succ]
            refine take2 (i := 10) (v := ?_) (d := some 7) hBl rfl rfl (by kernel_rfl) (by kernel_rfl) (by kernel_rfl) (by kernel_rfl) ?_ hHeld ?_
            rotate_left
            · (intro w hSw; (try dsimp only at hSw); go_simp <;> with_reducible rfl)
            try simp only [Act.put, List.setIfInBounds_toArray, List.set_cons_zero, List.set_cons_succ]
            refine wpAnyH_done (by kernel_rfl) ?_ _
            go_wp2_with fail
            go_meet
            exact ⟨X, p3, q3, rfl, rfl, hX, T9, K6r, O6r⟩
        · go_simp
          refine hK.out _ _ ⟨(T.below (bel_new _ _)).kb.2.1, (T.below (bel_new _ _)).kb.2.2.1, (T.below (bel_new _ _)).kb.2.2.2, (T.below (bel_new _ _)).kc.2.1, (T.below (bel_new _ _)).kc.2.2.1, (T.below (bel_new _ _)).kc.2.2.2⟩ (fun hHeld => ?_)
          clear hK K
          try simp only [Act.put, List.setIfInBounds_toArray, List.set_cons_zero, List.set_cons_succ]
          have A6 := Blk.new v2 (.int .i64 0) (.int .i64 0) (.slice none 0 0)
          have T := T.below (bel_new _ (.cells #[.int .i64 0, .int .i64 0, .slice none 0 0] 34))
          have g1 := g1.below (bel_new _ (.cells #[.int .i64 0, .int .i64 0, .slice none 0 0] 34))
          have g2 := g2.below (bel_new _ (.cells #[.int .i64 0, .int .i64 0, .slice none 0 0] 34))
          have hXB : u1.heap.size ≤ v2.heap.size := BB.size
          have BB := BB.trans ((bel_new _ (.cells #[.int .i64 0, .int .i64 0, .slice none 0 0] 34)).mono BB.size)
          have hX : w.heap.size + 2 ≤ v2.heap.size := by have := T'.kc.1; omega
          generalize hXX : v2.heap.size = X at hX hXB A6 ⊢
          generalize (v2.alloc (.cells #[.int .i64 0, .int .i64 0, .slice none 0 0] 34)) = va at hHeld A6 T BB g1 g2 ⊢
          clear hXX
          refine wpAnyH_ready (rs := [4]) (by kernel_rfl) (by simp) ?_
          refine AllReadyH.cons rfl (fun K hK => ?_) AllReadyH.nil
          · go_simp
            (go_at_call 28; refine (CS.out _ p1 p2 q1 q2 g1 g2).mono ?_; rintro e v3 ⟨⟨p3, q3, rfl, o3⟩, b1⟩)
            have hXo : (Value.slice p3 R.length q3).ownBlock ≠ some X := fun e => by have h1 := (o3.lt _ e).1; have h2 := A6.lt; omega
            have o3 : OwnS w.heap.size (.slice p3 R.length q3) R v3 := World.ownsRow.mono o3 T.W.size
            have T' := T.below b1
            have T := T'
            have A6 := A6.below b1
            have BB := BB.trans (b1.mono BB.size)
            go_wp2_with fail
            refine hK.out _ _ ⟨T.kb.2.1, T.kb.2.2.1, T.kb.2.2.2, T.kc.2.1, T.kc.2.2.1, T.kc.2.2.2⟩ (fun hHeld => ?_)
            clear hK K b1
            try simp only [Act.put, List.setIfInBounds_toArray, List.set_cons_zero, List.set_cons_succ]
            refine take2 (i := 5) (v := ?_) (d := some 27) hBl rfl rfl (by kernel_rfl) (by kernel_rfl) (by kernel_rfl) (by kernel_rfl) ?_ hHeld ?_
            rotate_left
            · (intro w hSw; (try dsimp only at hSw); go_simp <;> with_reducible rfl)
            try simp only [Act.put, List.setIfInBounds_toArray, List.set_cons_zero, List.set_cons_succ]
            refine take2 (i := 6) (v := ?_) (d := some 33) hBl rfl rfl (by kernel_rfl) (by kernel_rfl) (by kernel_rfl) (by kernel_rfl) ?_ hHeld ?_
            rotate_left
            · (intro w hSw; (try dsimp only at hSw); go_simp <;> with_reducible rfl)
            try simp only [Act.put, List.setIfInBounds_toArray, List.set_cons_zero, List.set_cons_succ]
            refine take2 (i := 7) (v := ?_) (d := some 34) hBl rfl rfl (by kernel_rfl) (by kernel_rfl) (by kernel_rfl) (by kernel_rfl) ?_ hHeld ?_
            rotate_left
            · (intro w hSw; (try dsimp only at hSw); go_simp <;> with_reducible rfl)
            try simp only [Act.put, List.setIfInBounds_toArray, List.set_cons_zero, List.set_cons_succ]
            refine wpAnyH_ready (rs := [9]) (by kernel_rfl) (by simp) ?_
            refine AllReadyH.cons rfl (fun K hK => ?_) AllReadyH.nil
            have y0 := A6.c0; have y1 := A6.c1; have y2 := A6.c2; have yf0 := A6.fz 0; have yf1 := A6.fz 1; have yf2 := A6.fz 2; have yl := A6.lt
            have T9 := T.keep r1 r2 (((Below.refl (w.heap.size + 2) _).setCell (p := ⟨X, 0, none⟩) hX (.int .i64 D)).setCell (p := ⟨X, 1, none⟩) hX (.int .i64 E) |>.setCell (p := ⟨X, 2, none⟩) hX (.slice p3 R.length q3))
            have K6r : CelL _ X (.int .i64 D) (.int .i64 E) (.slice p3 R.length q3) := Blk.cel (Blk.set2 (Blk.set1 (Blk.set0 A6 (.int .i64 D)) (.int .i64 E)) (.slice p3 R.length q3))
            have O6r : OwnS w.heap.size (.slice p3 R.length q3) R _ := own_far (own_far (own_far o3 hXo 0 (.int .i64 D)) hXo 1 (.int .i64 E)) hXo 2 (.slice p3 R.length q3)
            go_simp
            refine hK.out _ _ ⟨T9.kb.2.1, T9.kb.2.2.1, T9.kb.2.2.2, T9.kc.2.1, T9.kc.2.2.1, T9.kc.2.2.2⟩ (fun hHeld => ?_)
            clear hK K
            try simp only [Act.put, List.setIfInBounds_toArray, List.set_cons_zero, List.set_cons_succ]
            refine take2 (i := 10) (v := ?_) (d := some 7) hBl rfl rfl (by kernel_rfl) (by kernel_rfl) (by kernel_rfl) (by kernel_rfl) ?_ hHeld ?_
            rotate_left
            · (intro w hSw; (try dsimp only at hSw); go_simp <;> with_reducible rfl)
            try simp only [Act.put, List.setIfInBounds_toArray, List.set_cons_zero, List.set_cons_succ]
            refine wpAnyH_done (by kernel_rfl) ?_ _
            go_wp2_with fail
            go_meet
            exact ⟨X, p3, q3, rfl, rfl, hX, T9, K6r, O6r⟩
      · go_simp
        refine hK.out _ _ ⟨(T.below (bel_new _ _)).kb.2.1, (T.below (bel_new _ _)).kb.2.2.1, (T.below (bel_new _ _)).kb.2.2.2, (T.below (bel_new _ _)).kc.2.1, (T.below (bel_new _ _)).kc.2.2.1, (T.below (bel_new _ _)).kc.2.2.2⟩ (fun hHeld => ?_)
        clear hK K
        try simp only [Act.put, List.setIfInBounds_toArray, List.set_cons_zero, List.set_cons_succ]
        have A6 := Blk.new v1 (.int .i64 0) (.int .i64 0) (.slice none 0 0)
        have T := T.below (bel_new _ (.cells #[.int .i64 0, .int .i64 0, .slice none 0 0] 34))
        have g1 := g1.below (bel_new _ (.cells #[.int .i64 0, .int .i64 0, .slice none 0 0] 34))
        have hXB : u1.heap.size ≤ v1.heap.size := BB.size
        have BB := BB.trans ((bel_new _ (.cells #[.int .i64 0, .int .i64 0, .slice none 0 0] 34)).mono BB.size)
        have hX : w.heap.size + 2 ≤ v1.heap.size := by have := T'.kc.1; omega
        generalize hXX : v1.heap.size = X at hX hXB A6 ⊢
        generalize (v1.alloc (.cells #[.int .i64 0, .int .i64 0, .slice none 0 0] 34)) = va at hHeld A6 T BB g1 ⊢
        clear hXX
        refine wpAnyH_ready (rs := [3]) (by kernel_rfl) (by simp) ?_
        refine AllReadyH.cons rfl (fun K hK => ?_) AllReadyH.nil
        · go_simp
          (go_at_call 21; refine (toCard_any _ d2 f2 a2 c2 tt T.rc htt).mono ?_; rintro e v2 ⟨p2, q2, rfl, o2, b1⟩)
          have T' := T.below b1
          have T := T'
          have A6 := A6.below b1
          have BB := BB.trans (b1.mono BB.size)
          have g1 := g1.below b1
          have g2 := OwnS.rd o2
          go_wp2_with fail
          refine hK.out _ _ ⟨T.kb.2.1, T.kb.2.2.1, T.kb.2.2.2, T.kc.2.1, T.kc.2.2.1, T.kc.2.2.2⟩ (fun hHeld => ?_)
          clear hK K b1
          try simp only [Act.put, List.setIfInBounds_toArray, List.set_cons_zero, List.set_cons_succ]
          refine wpAnyH_ready (rs := [4]) (by kernel_rfl) (by simp) ?_
          refine AllReadyH.cons rfl (fun K hK => ?_) AllReadyH.nil
          · go_simp
            (go_at_call 28; refine (CS.out _ p1 p2 q1 q2 g1 g2).mono ?_; rintro e v3 ⟨⟨p3, q3, rfl, o3⟩, b1⟩)
            have hXo : (Value.slice p3 R.length q3).ownBlock ≠ some X := fun e => by have h1 := (o3.lt _ e).1; have h2 := A6.lt; omega
            have o3 : OwnS w.heap.size (.slice p3 R.length q3) R v3 := World.ownsRow.mono o3 T.W.size
            have T' := T.below b1
            have T := T'
            have A6 := A6.below b1
            have BB := BB.trans (b1.mono BB.size)
            go_wp2_with fail
            refine hK.out _ _ ⟨T.kb.2.1, T.kb.2.2.1, T.kb.2.2.2, T.kc.2.1, T.kc.2.2.1, T.kc.2.2.2⟩ (fun hHeld => ?_)
            clear hK K b1
            try simp only [Act.put, List.setIfInBounds_toArray, List.set_cons_zero, List.set_cons_succ]
            refine take2 (i := 5) (v := ?_) (d := some 27) hBl rfl rfl (by kernel_rfl) (by kernel_rfl) (by kernel_rfl) (by kernel_rfl) ?_ hHeld ?_
            rotate_left
            · (intro w hSw; (try dsimp only at hSw); go_simp <;> with_reducible rfl)
            try simp only [Act.put, List.setIfInBounds_toArray, List.set_cons_zero, List.set_cons_succ]
            refine take2 (i := 6) (v := ?_) (d := some 33) hBl rfl rfl (by kernel_rfl) (by kernel_rfl) (by kernel_rfl) (by kernel_rfl) ?_ hHeld ?_
            rotate_left
            · (intro w hSw; (try dsimp only at hSw); go_simp <;> with_reducible rfl)
            try simp only [Act.put, List.setIfInBounds_toArray, List.set_cons_zero, List.set_cons_succ]
            refine take2 (i := 7) (v := ?_) (d := some 34) hBl rfl rfl (by kernel_rfl) (by kernel_rfl) (by kernel_rfl) (by kernel_rfl) ?_ hHeld ?_
            rotate_left
            · (intro w hSw; (try dsimp only at hSw); go_simp <;> with_reducible rfl)
            try simp only [Act.put, List.setIfInBounds_toArray, List.set_cons_zero, List.set_cons_succ]
            refine wpAnyH_ready (rs := [9]) (by kernel_rfl) (by simp) ?_
            refine AllReadyH.cons rfl (fun K hK => ?_) AllReadyH.nil
            have y0 := A6.c0; have y1 := A6.c1; have y2 := A6.c2; have yf0 := A6.fz 0; have yf1 := A6.fz 1; have yf2 := A6.fz 2; have yl := A6.lt
            have T9 := T.keep r1 r2 (((Below.refl (w.heap.size + 2) _).setCell (p := ⟨X, 0, none⟩) hX (.int .i64 D)).setCell (p := ⟨X, 1, none⟩) hX (.int .i64 E) |>.setCell (p := ⟨X, 2, none⟩) hX (.slice p3 R.length q3))
            have K6r : CelL _ X (.int .i64 D) (.int .i64 E) (.slice p3 R.length q3) := Blk.cel (Blk.set2 (Blk.set1 (Blk.set0 A6 (.int .i64 D)) (.int .i64 E)) (.slice p3 R.length q3))
            have O6r : OwnS w.heap.size (.slice p3 R.length q3) R _ := own_far (own_far (own_far o3 hXo 0 (.int .i64 D)) hXo 1 (.int .i64 E)) hXo 2 (.slice p3 R.length q3)
            go_simp
            refine hK.out _ _ ⟨T9.kb.2.1, T9.kb.2.2.1, T9.kb.2.2.2, T9.kc.2.1, T9.kc.2.2.1, T9.kc.2.2.2⟩ (fun hHeld => ?_)
            clear hK K
            try simp only [Act.put, List.setIfInBounds_toArray, List.set_cons_zero, List.set_cons_succ]
            refine take2 (i := 10) (v := ?_) (d := some 7) hBl rfl rfl (by kernel_rfl) (by kernel_rfl) (by kernel_rfl) (by kernel_rfl) ?_ hHeld ?_
            rotate_left
            · (intro w hSw; (try dsimp only at hSw); go_simp <;> with_reducible rfl)
            try simp only [Act.put, List.setIfInBounds_toArray, List.set_cons_zero, List.set_cons_succ]
            refine wpAnyH_done (by kernel_rfl) ?_ _
            go_wp2_with fail
            go_meet
            exact ⟨X, p3, q3, rfl, rfl, hX, T9, K6r, O6r⟩
    · go_simp
      refine hK.out _ _ ⟨(T.below (bel_new _ _)).kb.2.1, (T.below (bel_new _ _)).kb.2.2.1, (T.below (bel_new _ _)).kb.2.2.2, (T.below (bel_new _ _)).kc.2.1, (T.below (bel_new _ _)).kc.2.2.1, (T.below (bel_new _ _)).kc.2.2.2⟩ (fun hHeld => ?_)
      clear hK K
      try simp only [Act.put, List.setIfInBounds_toArray, List.set_cons_zero, List.set_cons_succ]
      have A6 : Blk ((u1.alloc (.cells #[.int .i64 0, .int .i64 0, .slice none 0 0] 34)).drew) u1.heap.size (.int .i64 0) (.int .i64 0) (.slice none 0 0) := Blk.new u1.drew (.int .i64 0) (.int .i64 0) (.slice none 0 0)
      have T : Two w d1 f1 d2 f2 a1 a2 c1 c2 ss tt ((u1.alloc (.cells #[.int .i64 0, .int .i64 0, .slice none 0 0] 34)).drew) := T.below (bel_new u1.drew (.cells #[.int .i64 0, .int .i64 0, .slice none 0 0] 34))
      have BB : Below u1.heap.size u1 ((u1.alloc (.cells #[.int .i64 0, .int .i64 0, .slice none 0 0] 34)).drew) := BB.trans (bel_new u1.drew (.cells #[.int .i64 0, .int .i64 0, .slice none 0 0] 34))
      have hX : w.heap.size + 2 ≤ u1.heap.size := hcut0
      generalize hXX : u1.heap.size = X at hX A6 ⊢
      have hXB : u1.heap.size ≤ X := Nat.le_of_eq hXX
      generalize ((u1.alloc (.cells #[.int .i64 0, .int .i64 0, .slice none 0 0] 34)).drew) = va at hHeld A6 T BB ⊢
      clear hXX
      refine wpAnyH_ready (rs := [1]) (by kernel_rfl) (by simp) ?_
      refine AllReadyH.cons rfl (fun K hK => ?_) AllReadyH.nil
      · go_simp
        (go_at_call 21; refine (toCard_any _ d1 f1 a1 c1 ss T.rb hss).mono ?_; rintro e v1 ⟨p1, q1, rfl, o1, b1⟩)
        have T' := T.below b1
        have T := T'
        have A6 := A6.below b1
        have BB := BB.trans (b1.mono BB.size)
        have g1 := OwnS.rd o1
        go_wp2_with fail
        refine hK.out _ _ ⟨T.kb.2.1, T.kb.2.2.1, T.kb.2.2.2, T.kc.2.1, T.kc.2.2.1, T.kc.2.2.2⟩ (fun hHeld => ?_)
        clear hK K b1
        try simp only [Act.put, List.setIfInBounds_toArray, List.set_cons_zero, List.set_cons_succ]
        refine wpAnyH_ready (rs := [3]) (by kernel_rfl) (by simp) ?_
        refine AllReadyH.cons rfl (fun K hK => ?_) AllReadyH.nil
        · go_simp
          (go_at_call 21; refine (toCard_any _ d2 f2 a2 c2 tt T.rc htt).mono ?_; rintro e v2 ⟨p2, q2, rfl, o2, b1⟩)
          have T' := T.below b1
          have T := T'
          have A6 := A6.below b1
          have BB := BB.trans (b1.mono BB.size)
          have g1 := g1.below b1
          have g2 := OwnS.rd o2
          go_wp2_with fail
          refine hK.out _ _ ⟨T.kb.2.1, T.kb.2.2.1, T.kb.2.2.2, T.kc.2.1, T.kc.2.2.1, T.kc.2.2.2⟩ (fun hHeld => ?_)
          clear hK K b1
          try simp only [Act.put, List.setIfInBounds_toArray, List.set_cons_zero, List.set_cons_succ]
          refine wpAnyH_ready (rs := [4]) (by kernel_rfl) (by simp) ?_
          refine AllReadyH.cons rfl (fun K hK => ?_) AllReadyH.nil
          · go_simp
            (go_at_call 28; refine (CS.out _ p1 p2 q1 q2 g1 g2).mono ?_; rintro e v3 ⟨⟨p3, q3, rfl, o3⟩, b1⟩)
            have hXo : (Value.slice p3 R.length q3).ownBlock ≠ some X := fun e => by have h1 := (o3.lt _ e).1; have h2 := A6.lt; omega
            have o3 : OwnS w.heap.size (.slice p3 R.length q3) R v3 := World.ownsRow.mono o3 T.W.size
            have T' := T.below b1
            have T := T'
            have A6 := A6.below b1
            have BB := BB.trans (b1.mono BB.size)
            go_wp2_with fail
            refine hK.out _ _ ⟨T.kb.2.1, T.kb.2.2.1, T.kb.2.2.2, T.kc.2.1, T.kc.2.2.1, T.kc.2.2.2⟩ (fun hHeld => ?_)
            clear hK K b1
            try simp only [Act.put, List.setIfInBounds_toArray, List.set_cons_zero, List.set_cons_succ]
            refine take2 (i := 5) (v := ?_) (d := some 27) hBl rfl rfl (by kernel_rfl) (by kernel_rfl) (by kernel_rfl) (by kernel_rfl) ?_ hHeld ?_
            rotate_left
            · (intro w hSw; (try dsimp only at hSw); go_simp <;> with_reducible rfl)
            try simp only [Act.put, List.setIfInBounds_toArray, List.set_cons_zero, List.set_cons_succ]
            refine take2 (i := 6) (v := ?_) (d := some 33) hBl rfl rfl (by kernel_rfl) (by kernel_rfl) (by kernel_rfl) (by kernel_rfl) ?_ hHeld ?_
            rotate_left
            · (intro w hSw; (try dsimp only at hSw); go_simp <;> with_reducible rfl)
            try simp only [Act.put, List.setIfInBounds_toArray, List.set_cons_zero, List.set_cons_succ]
            refine take2 (i := 7) (v := ?_) (d := some 34) hBl rfl rfl (by kernel_rfl) (by kernel_rfl) (by kernel_rfl) (by kernel_rfl) ?_ hHeld ?_
            rotate_left
            · (intro w hSw; (try dsimp only at hSw); go_simp <;> with_reducible rfl)
            try simp only [Act.put, List.setIfInBounds_toArray, List.set_cons_zero, List.set_cons_succ]
            refine wpAnyH_ready (rs := [9]) (by kernel_rfl) (by simp) ?_
            refine AllReadyH.cons rfl (fun K hK => ?_) AllReadyH.nil
            have y0 := A6.c0; have y1 := A6.c1; have y2 := A6.c2; have yf0 := A6.fz 0; have yf1 := A6.fz 1; have yf2 := A6.fz 2; have yl := A6.lt
            have T9 := T.keep r1 r2 (((Below.refl (w.heap.size + 2) _).setCell (p := ⟨X, 0, none⟩) hX (.int .i64 D)).setCell (p := ⟨X, 1, none⟩) hX (.int .i64 E) |>.setCell (p := ⟨X, 2, none⟩) hX (.slice p3 R.length q3))
            have K6r : CelL _ X (.int .i64 D) (.int .i64 E) (.slice p3 R.length q3) := Blk.cel (Blk.set2 (Blk.set1 (Blk.set0 A6 (.int .i64 D)) (.int .i64 E)) (.slice p3 R.length q3))
            have O6r : OwnS w.heap.size (.slice p3 R.length q3) R _ := own_far (own_far (own_far o3 hXo 0 (.int .i64 D)) hXo 1 (.int .i64 E)) hXo 2 (.slice p3 R.length q3)
            go_simp
            refine hK.out _ _ ⟨T9.kb.2.1, T9.kb.2.2.1, T9.kb.2.2.2, T9.kc.2.1, T9.kc.2.2.1, T9.kc.2.2.2⟩ (fun hHeld => ?_)
            clear hK K
            try simp only [Act.put, List.setIfInBounds_toArray, List.set_cons_zero, List.set_cons_succ]
            refine take2 (i := 10) (v := ?_) (d := some 7) hBl rfl rfl (by kernel_rfl) (by kernel_rfl) (by kernel_rfl) (by kernel_rfl) ?_ hHeld ?_
            rotate_left
            · (intro w hSw; (try dsimp only at hSw); go_simp <;> with_reducible rfl)
            try simp only [Act.put, List.setIfInBounds_toArray, List.set_cons_zero, List.set_cons_succ]
            refine wpAnyH_done (by kernel_rfl) ?_ _
            go_wp2_with fail
            go_meet
            exact ⟨X, p3, q3, rfl, rfl, hX, T9, K6r, O6r⟩
  case rest =>
    obtain ⟨X, p0, q0, rfl, rfl, hX, S2, K6, O0⟩ := hcut
    have hX := hX.out
    clear S
    have S := S2
    clear S2
    have lX := K6.1
    have L0 : ∀ k, (Value.slice p0 R.length q0).ownBlock = some k → w.heap.size ≤ k ∧ k < wc.heap.size := fun k e => O0.lt k e
    have lS : w.heap.size + 2 ≤ wc.heap.size := by have := S.kc.1; omega
    try clear k0 k1 k2 m0 m1 m2
    try clear x60 x61 x62
    try clear x80 x81 x82
    try clear x90 x91 x92
    try clear x100 x101 x102
    try clear x150 x151 x152
    obtain ⟨_, k0, k1, k2⟩ := S.kb; obtain ⟨_, m0, m1, m2⟩ := S.kc
    go_wp2_with fail
    refine (toCard_any _ d1 f1 a1 c1 ss S.rb hss).mono ?_
    rintro e u4 ⟨p4, q4, rfl, O4, b⟩
    have S := S.below b
    have K6 := K6.below b
    have O0 := OwnS.below O0 b
    have L4 : ∀ k, (Value.slice p4 ss.length q4).ownBlock = some k → wc.heap.size ≤ k ∧ k < u4.heap.size := fun k e => O4.lt k e
    have l4 := b.size
    clear b
    try clear k0 k1 k2 m0 m1 m2
    try clear x60 x61 x62
    try clear x80 x81 x82
    try clear x90 x91 x92
    try clear x100 x101 x102
    try clear x150 x151 x152
    obtain ⟨_, k0, k1, k2⟩ := S.kb; obtain ⟨_, m0, m1, m2⟩ := S.kc
    have ba := bel_new u4 (.cells #[.int .i64 d1, .int .i64 f1, .slice p4 ss.length q4] 34)
    have S := S.below ba
    have K6 := K6.below ba
    have O0 := OwnS.below O0 ba
    have O4 := OwnS.below O4 ba
    have K8 := CelL.new u4 (.int .i64 d1) (.int .i64 f1) (.slice p4 ss.length q4) 34
    go_wp2_with fail
    refine (toCard_any _ d2 f2 a2 c2 tt S.rc htt).mono ?_
    rintro e u5 ⟨p5, q5, rfl, O5, b⟩
    have S := S.below b
    have K6 := K6.below b
    have K8 := K8.below b
    have O0 := OwnS.below O0 b
    have O4 := OwnS.below O4 b
    have L5 : ∀ k, (Value.slice p5 tt.length q5).ownBlock = some k → u4.heap.size + 1 ≤ k ∧ k < u5.heap.size := fun k e => by have h := O5.lt k e; simpa using h
    have l5 : u4.heap.size < u5.heap.size := K8.1
    clear b ba
    try clear k0 k1 k2 m0 m1 m2
    try clear x60 x61 x62
    try clear x80 x81 x82
    try clear x90 x91 x92
    try clear x100 x101 x102
    try clear x150 x151 x152
    obtain ⟨_, k0, k1, k2⟩ := S.kb; obtain ⟨_, m0, m1, m2⟩ := S.kc
    obtain ⟨x80, x81, x82⟩ := K8.2
    have ba := bel_new u5 (.cells #[.int .i64 d2, .int .i64 f2, .slice p5 tt.length q5] 34)
    have S := S.below ba
    have K6 := K6.below ba
    have K8 := K8.below ba
    have O0 := OwnS.below O0 ba
    have O4 := OwnS.below O4 ba
    have O5 := OwnS.below O5 ba
    have K9 := CelL.new u5 (.int .i64 d2) (.int .i64 f2) (.slice p5 tt.length q5) 34
    go_wp2_with fail
    refine (CI.out _ p4 p5 q4 q5 (OwnS.rd O4) (OwnS.rd O5)).mono ?_
    rintro e u6 ⟨⟨p6, q6, rfl, O6⟩, b⟩
    have S := S.below b
    have K6 := K6.below b
    have K8 := K8.below b
    have K9 := K9.below b
    have O0 := OwnS.below O0 b
    have O4 := OwnS.below O4 b
    have O5 := OwnS.below O5 b
    have L6 : ∀ k, (Value.slice p6 R.length q6).ownBlock = some k → u5.heap.size + 1 ≤ k ∧ k < u6.heap.size := fun k e => by have h := O6.lt k e; simpa using h
    have l6 : u5.heap.size < u6.heap.size := K9.1
    clear b ba
    have lX6 : X < u6.heap.size := K6.1
    try clear k0 k1 k2 m0 m1 m2
    try clear x60 x61 x62
    try clear x80 x81 x82
    try clear x90 x91 x92
    try clear x100 x101 x102
    try clear x150 x151 x152
    obtain ⟨_, k0, k1, k2⟩ := S.kb; obtain ⟨_, m0, m1, m2⟩ := S.kc
    obtain ⟨x60, x61, x62⟩ := K6.2
    have ba := bel_new u6 (.cells #[.int .i64 D, .int .i64 E, .slice p6 R.length q6] 34)
    have S := S.below ba
    have K6 := K6.below ba
    have K8 := K8.below ba
    have K9 := K9.below ba
    have O0 := OwnS.below O0 ba
    have O4 := OwnS.below O4 ba
    have O5 := OwnS.below O5 ba
    have O6 := OwnS.below O6 ba
    have K10 := CelL.new u6 (.int .i64 D) (.int .i64 E) (.slice p6 R.length q6) 34
    go_wp2_with fail
    refine (eqCard_same _ _ _ _ _ _ _ R (OwnS.rd O6) (OwnS.rd O0) hm).mono ?_
    rintro e u7 ⟨rfl, b⟩
    have S := S.below b
    have K6 := K6.below b
    have K8 := K8.below b
    have K9 := K9.below b
    have K10 := K10.below b
    have O0 := OwnS.below O0 b
    have O4 := OwnS.below O4 b
    have O5 := OwnS.below O5 b
    have O6 := OwnS.below O6 b
    clear b ba
    try clear k0 k1 k2 m0 m1 m2
    try clear x60 x61 x62
    try clear x80 x81 x82
    try clear x90 x91 x92
    try clear x100 x101 x102
    try clear x150 x151 x152
    obtain ⟨_, k0, k1, k2⟩ := S.kb; obtain ⟨_, m0, m1, m2⟩ := S.kc
    obtain ⟨x80, x81, x82⟩ := K8.2
    have J1 := K8.1
    have J2 := S.kb.1
    have hr0 := S.drew.rb
    have hr4 : RdS u7.drew p4 ss := OwnS.rd (show OwnS _ (.slice p4 ss.length q4) ss u7.drew from O4)
    go_wp2
    go_region_held3 (fun w' => w'.cell? ⟨u4.heap.size, 0, none⟩ = some (.int .i64 d1) ∧ w'.cell? ⟨u4.heap.size, 1, none⟩ = some (.int .i64 f1) ∧ w'.cell? ⟨u4.heap.size, 2, none⟩ = some (.slice p4 ss.length q4) ∧ w'.cell? ⟨w.heap.size, 0, none⟩ = some (.int .i64 d1) ∧ w'.cell? ⟨w.heap.size, 1, none⟩ = some (.int .i64 f1) ∧ w'.cell? ⟨w.heap.size, 2, none⟩ = some (.slice a1 ss.length c1)) (first | go_keep | ((repeat' apply And.intro) <;> first | assumption | go_keep)) (first
      | (go_at_call 21; refine (toCard_any _ d1 f1 a1 c1 ss hr0 hss).mono ?_; rintro e v9 ⟨p9, q9, rfl, o9, b9⟩; have h9 := OwnS.rd o9; have hr9 := hr4.below b9; have J3 := Nat.lt_of_lt_of_le (show _ < u7.drew.heap.size from J1) b9.size; have J4 := Nat.lt_of_lt_of_le (show _ < u7.drew.heap.size from J2) b9.size; have y0 := (b9.cell (p := ⟨u4.heap.size, 0, none⟩) J1).trans x80; have y1 := (b9.cell (p := ⟨u4.heap.size, 1, none⟩) J1).trans x81; have y2 := (b9.cell (p := ⟨u4.heap.size, 2, none⟩) J1).trans x82; have z0 := (b9.cell (p := ⟨w.heap.size, 0, none⟩) J2).trans k0; have z1 := (b9.cell (p := ⟨w.heap.size, 1, none⟩) J2).trans k1; have z2 := (b9.cell (p := ⟨w.heap.size, 2, none⟩) J2).trans k2)
      | (go_at_call 23; refine (eqCard_same _ _ _ _ _ _ _ ss hr9 h9 (by unfold maxLen; omega)).mono ?_; rintro e v10 ⟨rfl, b10⟩; have y0' := (b10.cell (p := ⟨u4.heap.size, 0, none⟩) J3).trans y0; have y1' := (b10.cell (p := ⟨u4.heap.size, 1, none⟩) J3).trans y1; have y2' := (b10.cell (p := ⟨u4.heap.size, 2, none⟩) J3).trans y2; have z0' := (b10.cell (p := ⟨w.heap.size, 0, none⟩) J4).trans z0; have z1' := (b10.cell (p := ⟨w.heap.size, 1, none⟩) J4).trans z1; have z2' := (b10.cell (p := ⟨w.heap.size, 2, none⟩) J4).trans z2))
    have b := (dr_below ⟨1, rfl⟩ u7.heap.size : Below u7.heap.size u7 u7.drew).trans ((b9.trans (b10.mono b9.size)).mono (Nat.le_refl _))
    have S := S.below b
    have K6 := K6.below b
    have K8 := K8.below b
    have K9 := K9.below b
    have K10 := K10.below b
    have O0 := OwnS.below O0 b
    have O4 := OwnS.below O4 b
    have O5 := OwnS.below O5 b
    have O6 := OwnS.below O6 b
    clear b b9 b10 y0 y1 y2 z0 z1 z2 y0' y1' y2' z0' z1' z2' J1 J2 J3 J4 hr0 hr4 h9 hr9 o9
    generalize v10 = w8 at *
    try clear k0 k1 k2 m0 m1 m2
    try clear x60 x61 x62
    try clear x80 x81 x82
    try clear x90 x91 x92
    try clear x100 x101 x102
    try clear x150 x151 x152
    obtain ⟨_, k0, k1, k2⟩ := S.kb; obtain ⟨_, m0, m1, m2⟩ := S.kc
    obtain ⟨x90, x91, x92⟩ := K9.2
    have J1 := K9.1
    have J2 := S.kc.1
    have hr0 := S.drew.rc
    have hr4 : RdS w8.drew p5 tt := OwnS.rd (show OwnS _ (.slice p5 tt.length q5) tt w8.drew from O5)
    go_wp2
    go_region_held3 (fun w' => w'.cell? ⟨u5.heap.size, 0, none⟩ = some (.int .i64 d2) ∧ w'.cell? ⟨u5.heap.size, 1, none⟩ = some (.int .i64 f2) ∧ w'.cell? ⟨u5.heap.size, 2, none⟩ = some (.slice p5 tt.length q5) ∧ w'.cell? ⟨w.heap.size + 1, 0, none⟩ = some (.int .i64 d2) ∧ w'.cell? ⟨w.heap.size + 1, 1, none⟩ = some (.int .i64 f2) ∧ w'.cell? ⟨w.heap.size + 1, 2, none⟩ = some (.slice a2 tt.length c2)) (first | go_keep | ((repeat' apply And.intro) <;> first | assumption | go_keep)) (first
      | (go_at_call 21; refine (toCard_any _ d2 f2 a2 c2 tt hr0 htt).mono ?_; rintro e v9 ⟨p9, q9, rfl, o9, b9⟩; have h9 := OwnS.rd o9; have hr9 := hr4.below b9; have J3 := Nat.lt_of_lt_of_le (show _ < w8.drew.heap.size from J1) b9.size; have J4 := Nat.lt_of_lt_of_le (show _ < w8.drew.heap.size from J2) b9.size; have y0 := (b9.cell (p := ⟨u5.heap.size, 0, none⟩) J1).trans x90; have y1 := (b9.cell (p := ⟨u5.heap.size, 1, none⟩) J1).trans x91; have y2 := (b9.cell (p := ⟨u5.heap.size, 2, none⟩) J1).trans x92; have z0 := (b9.cell (p := ⟨w.heap.size + 1, 0, none⟩) J2).trans m0; have z1 := (b9.cell (p := ⟨w.heap.size + 1, 1, none⟩) J2).trans m1; have z2 := (b9.cell (p := ⟨w.heap.size + 1, 2, none⟩) J2).trans m2)
      | (go_at_call 23; refine (eqCard_same _ _ _ _ _ _ _ tt hr9 h9 (by unfold maxLen; omega)).mono ?_; rintro e v10 ⟨rfl, b10⟩; have y0' := (b10.cell (p := ⟨u5.heap.size, 0, none⟩) J3).trans y0; have y1' := (b10.cell (p := ⟨u5.heap.size, 1, none⟩) J3).trans y1; have y2' := (b10.cell (p := ⟨u5.heap.size, 2, none⟩) J3).trans y2; have z0' := (b10.cell (p := ⟨w.heap.size + 1, 0, none⟩) J4).trans z0; have z1' := (b10.cell (p := ⟨w.heap.size + 1, 1, none⟩) J4).trans z1; have z2' := (b10.cell (p := ⟨w.heap.size + 1, 2, none⟩) J4).trans z2))
    have b := (dr_below ⟨1, rfl⟩ w8.heap.size : Below w8.heap.size w8 w8.drew).trans ((b9.trans (b10.mono b9.size)).mono (Nat.le_refl _))
    have S := S.below b
    have K6 := K6.below b
    have K8 := K8.below b
    have K9 := K9.below b
    have K10 := K10.below b
    have O0 := OwnS.below O0 b
    have O4 := OwnS.below O4 b
    have O5 := OwnS.below O5 b
    have O6 := OwnS.below O6 b
    clear b b9 b10 y0 y1 y2 z0 z1 z2 y0' y1' y2' z0' z1' z2' J1 J2 J3 J4 hr0 hr4 h9 hr9 o9
    generalize v10 = w9 at *
    try clear k0 k1 k2 m0 m1 m2
    try clear x60 x61 x62
    try clear x80 x81 x82
    try clear x90 x91 x92
    try clear x100 x101 x102
    try clear x150 x151 x152
    obtain ⟨x80, x81, x82⟩ := K8.2
    go_wp2_with fail
    refine (markCard_any _ _ _ _ _ ss 1 _ O4 (by omega)).mono ?_
    rintro e u11 ⟨rfl, M4, g⟩
    have K6 := K6.grown g (fun e => by have h := L4 _ e.symm; omega)
    have K8 := K8.grown g (fun e => by have h := L4 _ e.symm; omega)
    have K9 := K9.grown g (fun e => by have h := L4 _ e.symm; omega)
    have K10 := K10.grown g (fun e => by have h := L4 _ e.symm; omega)
    have O0 : OwnS _ (.slice p0 R.length q0) R _ := World.ownsRow.kept O0 g (by
      cases hob : (Value.slice p0 R.length q0).ownBlock with
      | none => exact .inl rfl
      | some b => exact .inr (fun e => by have h1 := L0 b hob; have h2 := L4 b e.symm; omega))
    have O5 : OwnS _ (.slice p5 tt.length q5) tt _ := World.ownsRow.kept O5 g (by
      cases hob : (Value.slice p5 tt.length q5).ownBlock with
      | none => exact .inl rfl
      | some b => exact .inr (fun e => by have h1 := L5 b hob; have h2 := L4 b e.symm; omega))
    have O6 : OwnS _ (.slice p6 R.length q6) R _ := World.ownsRow.kept O6 g (by
      cases hob : (Value.slice p6 R.length q6).ownBlock with
      | none => exact .inl rfl
      | some b => exact .inr (fun e => by have h1 := L6 b hob; have h2 := L4 b e.symm; omega))
    have S := S.keep r1 r2 (below_grown g S.kc.1 (fun k e => by have h := L4 k e; omega))
    clear g M4 O4
    try clear k0 k1 k2 m0 m1 m2
    try clear x60 x61 x62
    try clear x80 x81 x82
    try clear x90 x91 x92
    try clear x100 x101 x102
    try clear x150 x151 x152
    obtain ⟨x90, x91, x92⟩ := K9.2
    go_wp2_with fail
    refine (markCard_any _ _ _ _ _ tt (1 + ss.length) _ O5 (by omega)).mono ?_
    rintro e u12 ⟨rfl, M5, g⟩
    have K6 := K6.grown g (fun e => by have h := L5 _ e.symm; omega)
    have K8 := K8.grown g (fun e => by have h := L5 _ e.symm; omega)
    have K9 := K9.grown g (fun e => by have h := L5 _ e.symm; omega)
    have K10 := K10.grown g (fun e => by have h := L5 _ e.symm; omega)
    have O0 : OwnS _ (.slice p0 R.length q0) R _ := World.ownsRow.kept O0 g (by
      cases hob : (Value.slice p0 R.length q0).ownBlock with
      | none => exact .inl rfl
      | some b => exact .inr (fun e => by have h1 := L0 b hob; have h2 := L5 b e.symm; omega))
    have O6 : OwnS _ (.slice p6 R.length q6) R _ := World.ownsRow.kept O6 g (by
      cases hob : (Value.slice p6 R.length q6).ownBlock with
      | none => exact .inl rfl
      | some b => exact .inr (fun e => by have h1 := L6 b hob; have h2 := L5 b e.symm; omega))
    have S := S.keep r1 r2 (below_grown g S.kc.1 (fun k e => by have h := L5 k e; omega))
    clear g M5 O5
    try clear k0 k1 k2 m0 m1 m2
    try clear x60 x61 x62
    try clear x80 x81 x82
    try clear x90 x91 x92
    try clear x100 x101 x102
    try clear x150 x151 x152
    obtain ⟨x100, x101, x102⟩ := K10.2
    obtain ⟨x60, x61, x62⟩ := K6.2
    have npos : (0 : Int) ≤ ((1 + ss.length + tt.length : Nat) : Int) := by omega
    go_wp2_with fail
    refine (eqCard_same _ _ _ _ _ _ _ R (OwnS.rd O6) (OwnS.rd O0) hm).mono ?_
    rintro e u13 ⟨rfl, b⟩
    clear npos
    have S := S.below b
    have K6 := K6.below b
    have K10 := K10.below b
    have O0 := OwnS.below O0 b
    have O6 := OwnS.below O6 b
    clear b
    try clear k0 k1 k2 m0 m1 m2
    try clear x60 x61 x62
    try clear x80 x81 x82
    try clear x90 x91 x92
    try clear x100 x101 x102
    try clear x150 x151 x152
    obtain ⟨x100, x101, x102⟩ := K10.2
    go_wp2_with fail
    refine (markCard_any _ _ _ _ _ R 1 _ O6 hk).mono ?_
    rintro e u14 ⟨rfl, M6, g⟩
    have K6 := K6.grown g (fun e => by have h := L6 _ e.symm; omega)
    have K10 := K10.grown g (fun e => by have h := L6 _ e.symm; omega)
    have O0 : OwnS _ (.slice p0 R.length q0) R _ := World.ownsRow.kept O0 g (by
      cases hob : (Value.slice p0 R.length q0).ownBlock with
      | none => exact .inl rfl
      | some b => exact .inr (fun e => by have h1 := L0 b hob; have h2 := L6 b e.symm; omega))
    have S := S.keep r1 r2 (below_grown g S.kc.1 (fun k e => by have h := L6 k e; omega))
    have m6 : RdS u14 p6 (marksS 1 R.length) := by
      have h := M6.read; rw [marksS_length] at h; obtain ⟨a', c', e, hr⟩ := h; obtain ⟨rfl, _⟩ : p6 = a' ∧ True := by simpa using (Value.slice.inj e).1
      exact hr
    clear g M6 O6
    try clear k0 k1 k2 m0 m1 m2
    try clear x60 x61 x62
    try clear x80 x81 x82
    try clear x90 x91 x92
    try clear x100 x101 x102
    try clear x150 x151 x152
    obtain ⟨x100, x101, x102⟩ := K10.2
    go_wp2_with fail
    refine (heldCard_any _ _ _ _ _ 1 _ m6 hk).mono ?_
    rintro e u15 ⟨rfl, b⟩
    have S := S.below b
    have K6 := K6.below b
    have K10 := K10.below b
    have O0 := OwnS.below O0 b
    have m6 := m6.below b
    clear b
    have npos : (0 : Int) ≤ ((1 + R.length : Nat) : Int) := by omega
    have hcut0 : w.heap.size + 2 ≤ u15.heap.size := by have := S.kc.1; omega
    try clear k0 k1 k2 m0 m1 m2 x60 x61 x62 x100 x101 x102
    go_upto_region 31 with fail
    go_cut [15, 16] (fun s6 s7 wx => ∃ (X2 : Nat) (p7 : Option Addr) (q7 : Nat), s6 = .pointer (some ⟨X2, 0, none⟩) ∧ s7 = .bool ok ∧ Hid (w.heap.size + 2 ≤ X2) ∧ Two w d1 f1 d2 f2 a1 a2 c1 c2 ss tt wx ∧ CelL wx X2 (.int .i64 D) (.int .i64 E) (.slice p7 R.length q7) ∧ OwnS w.heap.size (.slice p7 R.length q7) R wx ∧ CelL wx X (.int .i64 D) (.int .i64 E) (.slice p0 R.length q0) ∧ CelL wx u6.heap.size (.int .i64 D) (.int .i64 E) (.slice p6 R.length q6) ∧ OwnS w.heap.size (.slice p0 R.length q0) R wx ∧ RdS wx p6 (marksS 1 R.length))
    case first =>
      have T := S.drew
      have BB : Below u15.heap.size u15 u15.drew := dr_below ⟨1, rfl⟩ _
      refine wp_hand (S := (fun w' => w'.cell? ⟨w.heap.size, 0, none⟩ = some (.int .i64 d1) ∧ w'.cell? ⟨w.heap.size, 1, none⟩ = some (.int .i64 f1) ∧ w'.cell? ⟨w.heap.size, 2, none⟩ = some (.slice a1 ss.length c1) ∧ w'.cell? ⟨w.heap.size + 1, 0, none⟩ = some (.int .i64 d2) ∧ w'.cell? ⟨w.heap.size + 1, 1, none⟩ = some (.int .i64 f2) ∧ w'.cell? ⟨w.heap.size + 1, 2, none⟩ = some (.slice a2 tt.length c2))) (by kernel_rfl) ⟨T.kb.2.1, T.kb.2.2.1, T.kb.2.2.2, T.kc.2.1, T.kc.2.2.1, T.kc.2.2.2⟩ (fun _ _ d _ _ h => by cases d <;> exact h) (fun hBl hHeld => ?_)
      refine take2 (i := 0) (v := ?_) (d := some 95) hBl rfl rfl (by kernel_rfl) (by kernel_rfl) (by kernel_rfl) (by kernel_rfl) ?_ hHeld ?_
      rotate_left
      · (intro w hSw; (try dsimp only at hSw); go_simp <;> with_reducible rfl)
      try simp only [Act.put, List.setIfInBounds_toArray, List.set_cons_zero, List.set_cons_succ]
      refine take2 (i := 2) (v := ?_) (d := some 97) hBl rfl rfl (by kernel_rfl) (by kernel_rfl) (by kernel_rfl) (by kernel_rfl) ?_ hHeld ?_
      rotate_left
      · (intro w hSw; (try dsimp only at hSw); go_simp <;> with_reducible rfl)
      try simp only [Act.put, List.setIfInBounds_toArray, List.set_cons_zero, List.set_cons_succ]
      refine wpAnyH_ready (rs := [1, 8]) (by kernel_rfl) (by simp) ?_
      refine AllReadyH.cons rfl (fun K hK => ?_) (AllReadyH.cons rfl (fun K hK => ?_) AllReadyH.nil)
      · go_simp
        (go_at_call 21; refine (toCard_any _ d1 f1 a1 c1 ss T.rb hss).mono ?_; rintro e v1 ⟨p1, q1, rfl, o1, b1⟩)
        have T' := T.below b1
        have T := T'
        have BB := BB.trans (b1.mono BB.size)
        have g1 := OwnS.rd o1
        go_wp2_with fail
        refine hK.out _ _ ⟨T.kb.2.1, T.kb.2.2.1, T.kb.2.2.2, T.kc.2.1, T.kc.2.2.1, T.kc.2.2.2⟩ (fun hHeld => ?_)
        clear hK K b1
        try simp only [Act.put, List.setIfInBounds_toArray, List.set_cons_zero, List.set_cons_succ]
        refine wpAnyH_ready (rs := [3, 8]) (by kernel_rfl) (by simp) ?_
        refine AllReadyH.cons rfl (fun K hK => ?_) (AllReadyH.cons rfl (fun K hK => ?_) AllReadyH.nil)
        · go_simp
          (go_at_call 21; refine (toCard_any _ d2 f2 a2 c2 tt T.rc htt).mono ?_; rintro e v2 ⟨p2, q2, rfl, o2, b1⟩)
          have T' := T.below b1
          have T := T'
          have BB := BB.trans (b1.mono BB.size)
          have g1 := g1.below b1
          have g2 := OwnS.rd o2
          go_wp2_with fail
          refine hK.out _ _ ⟨T.kb.2.1, T.kb.2.2.1, T.kb.2.2.2, T.kc.2.1, T.kc.2.2.1, T.kc.2.2.2⟩ (fun hHeld => ?_)
          clear hK K b1
          try simp only [Act.put, List.setIfInBounds_toArray, List.set_cons_zero, List.set_cons_succ]
          refine wpAnyH_ready (rs := [4, 8]) (by kernel_rfl) (by simp) ?_
          refine AllReadyH.cons rfl (fun K hK => ?_) (AllReadyH.cons rfl (fun K hK => ?_) AllReadyH.nil)
          · go_simp
            (go_at_call 29; refine (CI.out _ p1 p2 q1 q2 g1 g2).mono ?_; rintro e v3 ⟨⟨p3, q3, rfl, o3⟩, b1⟩)
            have o3 : OwnS w.heap.size (.slice p3 R.length q3) R v3 := World.ownsRow.mono o3 T.W.size
            have T' := T.below b1
            have T := T'
            have BB := BB.trans (b1.mono BB.size)
            go_wp2_with fail
            refine hK.out _ _ ⟨T.kb.2.1, T.kb.2.2.1, T.kb.2.2.2, T.kc.2.1, T.kc.2.2.1, T.kc.2.2.2⟩ (fun hHeld => ?_)
            clear hK K b1
            try simp only [Act.put, List.setIfInBounds_toArray, List.set_cons_zero, List.set_cons_succ]
            refine take2 (i := 5) (v := ?_) (d := some 94) hBl rfl rfl (by kernel_rfl) (by kernel_rfl) (by kernel_rfl) (by kernel_rfl) ?_ hHeld ?_
            rotate_left
            · (intro w hSw; (try dsimp only at hSw); go_simp <;> with_reducible rfl)
            try simp only [Act.put, List.setIfInBounds_toArray, List.set_cons_zero, List.set_cons_succ]
            refine take2 (i := 6) (v := ?_) (d := some 100) hBl rfl rfl (by kernel_rfl) (by kernel_rfl) (by kernel_rfl) (by kernel_rfl) ?_ hHeld ?_
            rotate_left
            · (intro w hSw; (try dsimp only at hSw); go_simp <;> with_reducible rfl)
            try simp only [Act.put, List.setIfInBounds_toArray, List.set_cons_zero, List.set_cons_succ]
            refine take2 (i := 7) (v := ?_) (d := some 101) hBl rfl rfl (by kernel_rfl) (by kernel_rfl) (by kernel_rfl) (by kernel_rfl) ?_ hHeld ?_
            rotate_left
            · (intro w hSw; (try dsimp only at hSw); go_simp <;> with_reducible rfl)
            try simp only [Act.put, List.setIfInBounds_toArray, List.set_cons_zero, List.set_cons_succ]
            refine wpAnyH_ready (rs := [8]) (by kernel_rfl) (by simp) ?_
            refine AllReadyH.cons rfl (fun K hK => ?_) AllReadyH.nil
            · go_simp
              refine hK.out _ _ ⟨(T.below (bel_new _ _)).kb.2.1, (T.below (bel_new _ _)).kb.2.2.1, (T.below (bel_new _ _)).kb.2.2.2, (T.below (bel_new _ _)).kc.2.1, (T.below (bel_new _ _)).kc.2.2.1, (T.below (bel_new _ _)).kc.2.2.2⟩ (fun hHeld => ?_)
              clear hK K
              try simp only [Act.put, List.setIfInBounds_toArray, List.set_cons_zero, List.set_cons_succ]
              have A6 := Blk.new v3 (.int .i64 0) (.int .i64 0) (.slice none 0 0)
              have T := T.below (bel_new _ (.cells #[.int .i64 0, .int .i64 0, .slice none 0 0] 34))
              have g1 := g1.below (bel_new _ (.cells #[.int .i64 0, .int .i64 0, .slice none 0 0] 34))
              have g2 := g2.below (bel_new _ (.cells #[.int .i64 0, .int .i64 0, .slice none 0 0] 34))
              have hXo : (Value.slice p3 R.length q3).ownBlock ≠ some v3.heap.size := fun e => by have := (o3.lt _ e).2; omega
              have o3 := OwnS.below o3 (bel_new _ (.cells #[.int .i64 0, .int .i64 0, .slice none 0 0] 34))
              have hXB : u15.heap.size ≤ v3.heap.size := BB.size
              have BB := BB.trans ((bel_new _ (.cells #[.int .i64 0, .int .i64 0, .slice none 0 0] 34)).mono BB.size)
              have hX : w.heap.size + 2 ≤ v3.heap.size := by have := T'.kc.1; omega
              generalize hXX : v3.heap.size = X2 at hX hXB A6 hXo ⊢
              generalize (v3.alloc (.cells #[.int .i64 0, .int .i64 0, .slice none 0 0] 34)) = va at hHeld A6 T BB g1 g2 o3 ⊢
              clear hXX
              refine wpAnyH_ready (rs := [9]) (by kernel_rfl) (by simp) ?_
              refine AllReadyH.cons rfl (fun K hK => ?_) AllReadyH.nil
              have y0 := A6.c0; have y1 := A6.c1; have y2 := A6.c2; have yf0 := A6.fz 0; have yf1 := A6.fz 1; have yf2 := A6.fz 2; have yl := A6.lt
              have T9 := T.keep r1 r2 (((Below.refl (w.heap.size + 2) _).setCell (p := ⟨X2, 0, none⟩) hX (.int .i64 D)).setCell (p := ⟨X2, 1, none⟩) hX (.int .i64 E) |>.setCell (p := ⟨X2, 2, none⟩) hX (.slice p3 R.length q3))
              have K6r : CelL _ X2 (.int .i64 D) (.int .i64 E) (.slice p3 R.length q3) := Blk.cel (Blk.set2 (Blk.set1 (Blk.set0 A6 (.int .i64 D)) (.int .i64 E)) (.slice p3 R.length q3))
              have O6r : OwnS w.heap.size (.slice p3 R.length q3) R _ := own_far (own_far (own_far o3 hXo 0 (.int .i64 D)) hXo 1 (.int .i64 E)) hXo 2 (.slice p3 R.length q3)
              go_simp
              refine hK.out _ _ ⟨T9.kb.2.1, T9.kb.2.2.1, T9.kb.2.2.2, T9.kc.2.1, T9.kc.2.2.1, T9.kc.2.2.2⟩ (fun hHeld => ?_)
              clear hK K
              try simp only [Act.put, List.setIfInBounds_toArray, List.set_cons_zero, List.set_cons_succ]
              refine take2 (i := 10) (v := ?_) (d := some 16) hBl rfl rfl (by kernel_rfl) (by kernel_rfl) (by kernel_rfl) (by kernel_rfl) ?_ hHeld ?_
              rotate_left
              · (intro w hSw; (try dsimp only at hSw); go_simp <;> with_reducible rfl)
              try simp only [Act.put, List.setIfInBounds_toArray, List.set_cons_zero, List.set_cons_succ]
              refine wpAnyH_done (by kernel_rfl) ?_ _
              go_wp2_with fail
              go_meet
              have BB' := ((BB.setCell (p := ⟨X2, 0, none⟩) hXB (.int .i64 D)).setCell (p := ⟨X2, 1, none⟩) hXB (.int .i64 E)).setCell (p := ⟨X2, 2, none⟩) hXB (.slice p3 R.length q3)
              exact ⟨X2, p3, q3, rfl, rfl, hX, T9, K6r, O6r, K6.below BB', K10.below BB', OwnS.below O0 BB', m6.below BB'⟩
          · go_simp
            refine hK.out _ _ ⟨(T.below (bel_new _ _)).kb.2.1, (T.below (bel_new _ _)).kb.2.2.1, (T.below (bel_new _ _)).kb.2.2.2, (T.below (bel_new _ _)).kc.2.1, (T.below (bel_new _ _)).kc.2.2.1, (T.below (bel_new _ _)).kc.2.2.2⟩ (fun hHeld => ?_)
            clear hK K
            try simp only [Act.put, List.setIfInBounds_toArray, List.set_cons_zero, List.set_cons_succ]
            have A6 := Blk.new v2 (.int .i64 0) (.int .i64 0) (.slice none 0 0)
            have T := T.below (bel_new _ (.cells #[.int .i64 0, .int .i64 0, .slice none 0 0] 34))
            have g1 := g1.below (bel_new _ (.cells #[.int .i64 0, .int .i64 0, .slice none 0 0] 34))
            have g2 := g2.below (bel_new _ (.cells #[.int .i64 0, .int .i64 0, .slice none 0 0] 34))
            have hXB : u15.heap.size ≤ v2.heap.size := BB.size
            have BB := BB.trans ((bel_new _ (.cells #[.int .i64 0, .int .i64 0, .slice none 0 0] 34)).mono BB.size)
            have hX : w.heap.size + 2 ≤ v2.heap.size := by have := T'.kc.1; omega
            generalize hXX : v2.heap.size = X2 at hX hXB A6 ⊢
            generalize (v2.alloc (.cells #[.int .i64 0, .int .i64 0, .slice none 0 0] 34)) = va at hHeld A6 T BB g1 g2 ⊢
            clear hXX
            refine wpAnyH_ready (rs := [4]) (by kernel_rfl) (by simp) ?_
            refine AllReadyH.cons rfl (fun K hK => ?_) AllReadyH.nil
            · go_simp
              (go_at_call 29; refine (CI.out _ p1 p2 q1 q2 g1 g2).mono ?_; rintro e v3 ⟨⟨p3, q3, rfl, o3⟩, b1⟩)
              have hXo : (Value.slice p3 R.length q3).ownBlock ≠ some X2 := fun e => by have h1 := (o3.lt _ e).1; have h2 := A6.lt; omega
              have o3 : OwnS w.heap.size (.slice p3 R.length q3) R v3 := World.ownsRow.mono o3 T.W.size
              have T' := T.below b1
              have T := T'
              have A6 := A6.below b1
              have BB := BB.trans (b1.mono BB.size)
              go_wp2_with fail
              refine hK.out _ _ ⟨T.kb.2.1, T.kb.2.2.1, T.kb.2.2.2, T.kc.2.1, T.kc.2.2.1, T.kc.2.2.2⟩ (fun hHeld => ?_)
              clear hK K b1
              try simp only [Act.put, List.setIfInBounds_toArray, List.set_cons_zero, List.set_cons_succ]
              refine take2 (i := 5) (v := ?_) (d := some 94) hBl rfl rfl (by kernel_rfl) (by kernel_rfl) (by kernel_rfl) (by kernel_rfl) ?_ hHeld ?_
              rotate_left
              · (intro w hSw; (try dsimp only at hSw); go_simp <;> with_reducible rfl)
              try simp only [Act.put, List.setIfInBounds_toArray, List.set_cons_zero, List.set_cons_succ]
              refine take2 (i := 6) (v := ?_) (d := some 100) hBl rfl rfl (by kernel_rfl) (by kernel_rfl) (by kernel_rfl) (by kernel_rfl) ?_ hHeld ?_
              rotate_left
              · (intro w hSw; (try dsimp only at hSw); go_simp <;> with_reducible rfl)
              try simp only [Act.put, List.setIfInBounds_toArray, List.set_cons_zero, List.set_cons_succ]
              refine take2 (i := 7) (v := ?_) (d := some 101) hBl rfl rfl (by kernel_rfl) (by kernel_rfl) (by kernel_rfl) (by kernel_rfl) ?_ hHeld ?_
              rotate_left
              · (intro w hSw; (try dsimp only at hSw); go_simp <;> with_reducible rfl)
              try simp only [Act.put, List.setIfInBounds_toArray, List.set_cons_zero, List.set_cons_succ]
              refine wpAnyH_ready (rs := [9]) (by kernel_rfl) (by simp) ?_
              refine AllReadyH.cons rfl (fun K hK => ?_) AllReadyH.nil
              have y0 := A6.c0; have y1 := A6.c1; have y2 := A6.c2; have yf0 := A6.fz 0; have yf1 := A6.fz 1; have yf2 := A6.fz 2; have yl := A6.lt
              have T9 := T.keep r1 r2 (((Below.refl (w.heap.size + 2) _).setCell (p := ⟨X2, 0, none⟩) hX (.int .i64 D)).setCell (p := ⟨X2, 1, none⟩) hX (.int .i64 E) |>.setCell (p := ⟨X2, 2, none⟩) hX (.slice p3 R.length q3))
              have K6r : CelL _ X2 (.int .i64 D) (.int .i64 E) (.slice p3 R.length q3) := Blk.cel (Blk.set2 (Blk.set1 (Blk.set0 A6 (.int .i64 D)) (.int .i64 E)) (.slice p3 R.length q3))
              have O6r : OwnS w.heap.size (.slice p3 R.length q3) R _ := own_far (own_far (own_far o3 hXo 0 (.int .i64 D)) hXo 1 (.int .i64 E)) hXo 2 (.slice p3 R.length q3)
              go_simp
              refine hK.out _ _ ⟨T9.kb.2.1, T9.kb.2.2.1, T9.kb.2.2.2, T9.kc.2.1, T9.kc.2.2.1, T9.kc.2.2.2⟩ (fun hHeld => ?_)
              clear hK K
              try simp only [Act.put, List.setIfInBounds_toArray, List.set_cons_zero, List.set_cons_succ]
              refine take2 (i := 10) (v := ?_) (d := some 16) hBl rfl rfl (by kernel_rfl) (by kernel_rfl) (by kernel_rfl) (by kernel_rfl) ?_ hHeld ?_
              rotate_left
              · (intro w hSw; (try dsimp only at hSw); go_simp <;> with_reducible rfl)
              try simp only [Act.put, List.setIfInBounds_toArray, List.set_cons_zero, List.set_cons_succ]
              refine wpAnyH_done (by kernel_rfl) ?_ _
              go_wp2_with fail
              go_meet
              have BB' := ((BB.setCell (p := ⟨X2, 0, none⟩) hXB (.int .i64 D)).setCell (p := ⟨X2, 1, none⟩) hXB (.int .i64 E)).setCell (p := ⟨X2, 2, none⟩) hXB (.slice p3 R.length q3)
              exact ⟨X2, p3, q3, rfl, rfl, hX, T9, K6r, O6r, K6.below BB', K10.below BB', OwnS.below O0 BB', m6.below BB'⟩
        · go_simp
          refine hK.out _ _ ⟨(T.below (bel_new _ _)).kb.2.1, (T.below (bel_new _ _)).kb.2.2.1, (T.below (bel_new _ _)).kb.2.2.2, (T.below (bel_new _ _)).kc.2.1, (T.below (bel_new _ _)).kc.2.2.1, (T.below (bel_new _ _)).kc.2.2.2⟩ (fun hHeld => ?_)
          clear hK K
          try simp only [Act.put, List.setIfInBounds_toArray, List.set_cons_zero, List.set_cons_succ]
          have A6 := Blk.new v1 (.int .i64 0) (.int .i64 0) (.slice none 0 0)
          have T := T.below (bel_new _ (.cells #[.int .i64 0, .int .i64 0, .slice none 0 0] 34))
          have g1 := g1.below (bel_new _ (.cells #[.int .i64 0, .int .i64 0, .slice none 0 0] 34))
          have hXB : u15.heap.size ≤ v1.heap.size := BB.size
          have BB := BB.trans ((bel_new _ (.cells #[.int .i64 0, .int .i64 0, .slice none 0 0] 34)).mono BB.size)
          have hX : w.heap.size + 2 ≤ v1.heap.size := by have := T'.kc.1; omega
          generalize hXX : v1.heap.size = X2 at hX hXB A6 ⊢
          generalize (v1.alloc (.cells #[.int .i64 0, .int .i64 0, .slice none 0 0] 34)) = va at hHeld A6 T BB g1 ⊢
          clear hXX
          refine wpAnyH_ready (rs := [3]) (by kernel_rfl) (by simp) ?_
          refine AllReadyH.cons rfl (fun K hK => ?_) AllReadyH.nil
          · go_simp
            (go_at_call 21; refine (toCard_any _ d2 f2 a2 c2 tt T.rc htt).mono ?_; rintro e v2 ⟨p2, q2, rfl, o2, b1⟩)
            have T' := T.below b1
            have T := T'
            have A6 := A6.below b1
            have BB := BB.trans (b1.mono BB.size)
            have g1 := g1.below b1
            have g2 := OwnS.rd o2
            go_wp2_with fail
            refine hK.out _ _ ⟨T.kb.2.1, T.kb.2.2.1, T.kb.2.2.2, T.kc.2.1, T.kc.2.2.1, T.kc.2.2.2⟩ (fun hHeld => ?_)
            clear hK K b1
            try simp only [Act.put, List.setIfInBounds_toArray, List.set_cons_zero, List.set_cons_succ]
            refine wpAnyH_ready (rs := [4]) (by kernel_rfl) (by simp) ?_
            refine AllReadyH.cons rfl (fun K hK => ?_) AllReadyH.nil
            · go_simp
              (go_at_call 29; refine (CI.out _ p1 p2 q1 q2 g1 g2).mono ?_; rintro e v3 ⟨⟨p3, q3, rfl, o3⟩, b1⟩)
              have hXo : (Value.slice p3 R.length q3).ownBlock ≠ some X2 := fun e => by have h1 := (o3.lt _ e).1; have h2 := A6.lt; omega
              have o3 : OwnS w.heap.size (.slice p3 R.length q3) R v3 := World.ownsRow.mono o3 T.W.size
              have T' := T.below b1
              have T := T'
              have A6 := A6.below b1
              have BB := BB.trans (b1.mono BB.size)
              go_wp2_with fail
              refine hK.out _ _ ⟨T.kb.2.1, T.kb.2.2.1, T.kb.2.2.2, T.kc.2.1, T.kc.2.2.1, T.kc.2.2.2⟩ (fun hHeld => ?_)
              clear hK K b1
              try simp only [Act.put, List.setIfInBounds_toArray, List.set_cons_zero, List.set_cons_succ]
              refine take2 (i := 5) (v := ?_) (d := some 94) hBl rfl rfl (by kernel_rfl) (by kernel_rfl) (by kernel_rfl) (by kernel_rfl) ?_ hHeld ?_
              rotate_left
              · (intro w hSw; (try dsimp only at hSw); go_simp <;> with_reducible rfl)
              try simp only [Act.put, List.setIfInBounds_toArray, List.set_cons_zero, List.set_cons_succ]
              refine take2 (i := 6) (v := ?_) (d := some 100) hBl rfl rfl (by kernel_rfl) (by kernel_rfl) (by kernel_rfl) (by kernel_rfl) ?_ hHeld ?_
              rotate_left
              · (intro w hSw; (try dsimp only at hSw); go_simp <;> with_reducible rfl)
              try simp only [Act.put, List.setIfInBounds_toArray, List.set_cons_zero, List.set_cons_succ]
              refine take2 (i := 7) (v := ?_) (d := some 101) hBl rfl rfl (by kernel_rfl) (by kernel_rfl) (by kernel_rfl) (by kernel_rfl) ?_ hHeld ?_
              rotate_left
              · (intro w hSw; (try dsimp only at hSw); go_simp <;> with_reducible rfl)
              try simp only [Act.put, List.setIfInBounds_toArray, List.set_cons_zero, List.set_cons_succ]
              refine wpAnyH_ready (rs := [9]) (by kernel_rfl) (by simp) ?_
              refine AllReadyH.cons rfl (fun K hK => ?_) AllReadyH.nil
              have y0 := A6.c0; have y1 := A6.c1; have y2 := A6.c2; have yf0 := A6.fz 0; have yf1 := A6.fz 1; have yf2 := A6.fz 2; have yl := A6.lt
              have T9 := T.keep r1 r2 (((Below.refl (w.heap.size + 2) _).setCell (p := ⟨X2, 0, none⟩) hX (.int .i64 D)).setCell (p := ⟨X2, 1, none⟩) hX (.int .i64 E) |>.setCell (p := ⟨X2, 2, none⟩) hX (.slice p3 R.length q3))
              have K6r : CelL _ X2 (.int .i64 D) (.int .i64 E) (.slice p3 R.length q3) := Blk.cel (Blk.set2 (Blk.set1 (Blk.set0 A6 (.int .i64 D)) (.int .i64 E)) (.slice p3 R.length q3))
              have O6r : OwnS w.heap.size (.slice p3 R.length q3) R _ := own_far (own_far (own_far o3 hXo 0 (.int .i64 D)) hXo 1 (.int .i64 E)) hXo 2 (.slice p3 R.length q3)
              go_simp
              refine hK.out _ _ ⟨T9.kb.2.1, T9.kb.2.2.1, T9.kb.2.2.2, T9.kc.2.1, T9.kc.2.2.1, T9.kc.2.2.2⟩ (fun hHeld => ?_)
              clear hK K
              try simp only [Act.put, List.setIfInBounds_toArray, List.set_cons_zero, List.set_cons_succ]
              refine take2 (i := 10) (v := ?_) (d := some 16) hBl rfl rfl (by kernel_rfl) (by kernel_rfl) (by kernel_rfl) (by kernel_rfl) ?_ hHeld ?_
              rotate_left
              · (intro w hSw; (try dsimp only at hSw); go_simp <;> with_reducible rfl)
              try simp only [Act.put, List.setIfInBounds_toArray, List.set_cons_zero, List.set_cons_succ]
              refine wpAnyH_done (by kernel_rfl) ?_ _
              go_wp2_with fail
              go_meet
              have BB' := ((BB.setCell (p := ⟨X2, 0, none⟩) hXB (.int .i64 D)).setCell (p := ⟨X2, 1, none⟩) hXB (.int .i64 E)).setCell (p := ⟨X2, 2, none⟩) hXB (.slice p3 R.length q3)
              exact ⟨X2, p3, q3, rfl, rfl, hX, T9, K6r, O6r, K6.below BB', K10.below BB', OwnS.below O0 BB', m6.below BB'⟩
      · go_simp
        refine hK.out _ _ ⟨(T.below (bel_new _ _)).kb.2.1, (T.below (bel_new _ _)).kb.2.2.1, (T.below (bel_new _ _)).kb.2.2.2, (T.below (bel_new _ _)).kc.2.1, (T.below (bel_new _ _)).kc.2.2.1, (T.below (bel_new _ _)).kc.2.2.2⟩ (fun hHeld => ?_)
        clear hK K
        try simp only [Act.put, List.setIfInBounds_toArray, List.set_cons_zero, List.set_cons_succ]
        have A6 : Blk ((u15.alloc (.cells #[.int .i64 0, .int .i64 0, .slice none 0 0] 34)).drew) u15.heap.size (.int .i64 0) (.int .i64 0) (.slice none 0 0) := Blk.new u15.drew (.int .i64 0) (.int .i64 0) (.slice none 0 0)
        have T : Two w d1 f1 d2 f2 a1 a2 c1 c2 ss tt ((u15.alloc (.cells #[.int .i64 0, .int .i64 0, .slice none 0 0] 34)).drew) := T.below (bel_new u15.drew (.cells #[.int .i64 0, .int .i64 0, .slice none 0 0] 34))
        have BB : Below u15.heap.size u15 ((u15.alloc (.cells #[.int .i64 0, .int .i64 0, .slice none 0 0] 34)).drew) := BB.trans (bel_new u15.drew (.cells #[.int .i64 0, .int .i64 0, .slice none 0 0] 34))
        have hX : w.heap.size + 2 ≤ u15.heap.size := hcut0
        generalize hXX : u15.heap.size = X2 at hX A6 ⊢
        have hXB : u15.heap.size ≤ X2 := Nat.le_of_eq hXX
        generalize ((u15.alloc (.cells #[.int .i64 0, .int .i64 0, .slice none 0 0] 34)).drew) = va at hHeld A6 T BB ⊢
        clear hXX
        refine wpAnyH_ready (rs := [1]) (by kernel_rfl) (by simp) ?_
        refine AllReadyH.cons rfl (fun K hK => ?_) AllReadyH.nil
        · go_simp
          (go_at_call 21; refine (toCard_any _ d1 f1 a1 c1 ss T.rb hss).mono ?_; rintro e v1 ⟨p1, q1, rfl, o1, b1⟩)
          have T' := T.below b1
          have T := T'
          have A6 := A6.below b1
          have BB := BB.trans (b1.mono BB.size)
          have g1 := OwnS.rd o1
          go_wp2_with fail
          refine hK.out _ _ ⟨T.kb.2.1, T.kb.2.2.1, T.kb.2.2.2, T.kc.2.1, T.kc.2.2.1, T.kc.2.2.2⟩ (fun hHeld => ?_)
          clear hK K b1
          try simp only [Act.put, List.setIfInBounds_toArray, List.set_cons_zero, List.set_cons_succ]
          refine wpAnyH_ready (rs := [3]) (by kernel_rfl) (by simp) ?_
          refine AllReadyH.cons rfl (fun K hK => ?_) AllReadyH.nil
          · go_simp
            (go_at_call 21; refine (toCard_any _ d2 f2 a2 c2 tt T.rc htt).mono ?_; rintro e v2 ⟨p2, q2, rfl, o2, b1⟩)
            have T' := T.below b1
            have T := T'
            have A6 := A6.below b1
            have BB := BB.trans (b1.mono BB.size)
            have g1 := g1.below b1
            have g2 := OwnS.rd o2
            go_wp2_with fail
            refine hK.out _ _ ⟨T.kb.2.1, T.kb.2.2.1, T.kb.2.2.2, T.kc.2.1, T.kc.2.2.1, T.kc.2.2.2⟩ (fun hHeld => ?_)
            clear hK K b1
            try simp only [Act.put, List.setIfInBounds_toArray, List.set_cons_zero, List.set_cons_succ]
            refine wpAnyH_ready (rs := [4]) (by kernel_rfl) (by simp) ?_
            refine AllReadyH.cons rfl (fun K hK => ?_) AllReadyH.nil
            · go_simp
              (go_at_call 29; refine (CI.out _ p1 p2 q1 q2 g1 g2).mono ?_; rintro e v3 ⟨⟨p3, q3, rfl, o3⟩, b1⟩)
              have hXo : (Value.slice p3 R.length q3).ownBlock ≠ some X2 := fun e => by have h1 := (o3.lt _ e).1; have h2 := A6.lt; omega
              have o3 : OwnS w.heap.size (.slice p3 R.length q3) R v3 := World.ownsRow.mono o3 T.W.size
              have T' := T.below b1
              have T := T'
              have A6 := A6.below b1
              have BB := BB.trans (b1.mono BB.size)
              go_wp2_with fail
              refine hK.out _ _ ⟨T.kb.2.1, T.kb.2.2.1, T.kb.2.2.2, T.kc.2.1, T.kc.2.2.1, T.kc.2.2.2⟩ (fun hHeld => ?_)
              clear hK K b1
              try simp only [Act.put, List.setIfInBounds_toArray, List.set_cons_zero, List.set_cons_succ]
              refine take2 (i := 5) (v := ?_) (d := some 94) hBl rfl rfl (by kernel_rfl) (by kernel_rfl) (by kernel_rfl) (by kernel_rfl) ?_ hHeld ?_
              rotate_left
              · (intro w hSw; (try dsimp only at hSw); go_simp <;> with_reducible rfl)
              try simp only [Act.put, List.setIfInBounds_toArray, List.set_cons_zero, List.set_cons_succ]
              refine take2 (i := 6) (v := ?_) (d := some 100) hBl rfl rfl (by kernel_rfl) (by kernel_rfl) (by kernel_rfl) (by kernel_rfl) ?_ hHeld ?_
              rotate_left
              · (intro w hSw; (try dsimp only at hSw); go_simp <;> with_reducible rfl)
              try simp only [Act.put, List.setIfInBounds_toArray, List.set_cons_zero, List.set_cons_succ]
              refine take2 (i := 7) (v := ?_) (d := some 101) hBl rfl rfl (by kernel_rfl) (by kernel_rfl) (by kernel_rfl) (by kernel_rfl) ?_ hHeld ?_
              rotate_left
              · (intro w hSw; (try dsimp only at hSw); go_simp <;> with_reducible rfl)
              try simp only [Act.put, List.setIfInBounds_toArray, List.set_cons_zero, List.set_cons_succ]
              refine wpAnyH_ready (rs := [9]) (by kernel_rfl) (by simp) ?_
              refine AllReadyH.cons rfl (fun K hK => ?_) AllReadyH.nil
              have y0 := A6.c0; have y1 := A6.c1; have y2 := A6.c2; have yf0 := A6.fz 0; have yf1 := A6.fz 1; have yf2 := A6.fz 2; have yl := A6.lt
              have T9 := T.keep r1 r2 (((Below.refl (w.heap.size + 2) _).setCell (p := ⟨X2, 0, none⟩) hX (.int .i64 D)).setCell (p := ⟨X2, 1, none⟩) hX (.int .i64 E) |>.setCell (p := ⟨X2, 2, none⟩) hX (.slice p3 R.length q3))
              have K6r : CelL _ X2 (.int .i64 D) (.int .i64 E) (.slice p3 R.length q3) := Blk.cel (Blk.set2 (Blk.set1 (Blk.set0 A6 (.int .i64 D)) (.int .i64 E)) (.slice p3 R.length q3))
              have O6r : OwnS w.heap.size (.slice p3 R.length q3) R _ := own_far (own_far (own_far o3 hXo 0 (.int .i64 D)) hXo 1 (.int .i64 E)) hXo 2 (.slice p3 R.length q3)
              go_simp
              refine hK.out _ _ ⟨T9.kb.2.1, T9.kb.2.2.1, T9.kb.2.2.2, T9.kc.2.1, T9.kc.2.2.1, T9.kc.2.2.2⟩ (fun hHeld => ?_)
              clear hK K
              try simp only [Act.put, List.setIfInBounds_toArray, List.set_cons_zero, List.set_cons_succ]
              refine take2 (i := 10) (v := ?_) (d := some 16) hBl rfl rfl (by kernel_rfl) (by kernel_rfl) (by kernel_rfl) (by kernel_rfl) ?_ hHeld ?_
              rotate_left
              · (intro w hSw; (try dsimp only at hSw); go_simp <;> with_reducible rfl)
              try simp only [Act.put, List.setIfInBounds_toArray, List.set_cons_zero, List.set_cons_succ]
              refine wpAnyH_done (by kernel_rfl) ?_ _
              go_wp2_with fail
              go_meet
              have BB' := ((BB.setCell (p := ⟨X2, 0, none⟩) hXB (.int .i64 D)).setCell (p := ⟨X2, 1, none⟩) hXB (.int .i64 E)).setCell (p := ⟨X2, 2, none⟩) hXB (.slice p3 R.length q3)
              exact ⟨X2, p3, q3, rfl, rfl, hX, T9, K6r, O6r, K6.below BB', K10.below BB', OwnS.below O0 BB', m6.below BB'⟩
    case rest =>
      obtain ⟨X2, p7, q7, rfl, rfl, hX2, S2, K15, O7, K6, K10, O0, m6⟩ := hcut
      clear S
      have S := S2
      clear S2 hX2
      try clear k0 k1 k2 m0 m1 m2
      try clear x60 x61 x62
      try clear x80 x81 x82
      try clear x90 x91 x92
      try clear x100 x101 x102
      try clear x150 x151 x152
      obtain ⟨x150, x151, x152⟩ := K15.2
      obtain ⟨x60, x61, x62⟩ := K6.2
      go_wp2_with fail
      refine (eqCard_same _ _ _ _ _ _ _ R (OwnS.rd O7) (OwnS.rd O0) hm).mono ?_
      rintro e u17 ⟨rfl, b⟩
      have S := S.below b
      have K10 := K10.below b
      have m6 := m6.below b
      clear b
      try clear k0 k1 k2 m0 m1 m2
      try clear x60 x61 x62
      try clear x80 x81 x82
      try clear x90 x91 x92
      try clear x100 x101 x102
      try clear x150 x151 x152
      obtain ⟨x100, x101, x102⟩ := K10.2
      go_wp2_with fail
      refine (heldCard_any _ _ _ _ _ 1 _ m6 hk).mono ?_
      rintro e u18 ⟨rfl, b⟩
      have S := S.below b
      clear b
      go_wp2
      go_ret
      exact ⟨rfl, S.W⟩

theorem walk (d1 f1 : Int) (a1 : Option Addr) (c1 : Nat) (ss : List ByteArray) (d2 f2 : Int) (a2 : Option Addr) (c2 : Nat) (tt : List ByteArray) (w : World) (r1 : RdS w a1 ss) (z1 : SzS ss) (r2 : RdS w a2 tt) (z2 : SzS tt) :
    Calls Try.prog 8 #[.agg #[.int .i64 d1, .int .i64 f1, .slice a1 ss.length c1], .agg #[.int .i64 d2, .int .i64 f2, .slice a2 tt.length c2]] w fun e w' => e = .returned (.bool true) ∧ Below w.heap.size w w' := by
  cases hs : sameC d1 f1 d2 f2 ss tt with
  | true =>
    obtain ⟨h1, _⟩ := sameC_mk hs
    obtain ⟨_, ⟨_, l2⟩, _⟩ := (okC_iff d1 f1 ss).1 h1
    have hl := mixL_length ss tt false ss.length
    exact core d1 f1 (mixL ss tt false ss.length) true (by omega) d1 f1 a1 c1 ss d2 f2 a2 c2 tt w r1 z1 r2 z2 (fun w a1 a2 c1 c2 r1 r2 => specLower_yes w d1 f1 d2 f2 a1 a2 c1 c2 ss tt r1 r2 z1 z2 hs) (fun w a1 a2 c1 c2 r1 r2 => implLower_yes w d1 f1 d2 f2 a1 a2 c1 c2 ss tt r1 r2 z1 z2 hs)
  | false => exact core 0 0 [] false (Nat.zero_le _) d1 f1 a1 c1 ss d2 f2 a2 c2 tt w r1 z1 r2 z2 (fun w a1 a2 c1 c2 r1 r2 => specLower_no w d1 f1 d2 f2 a1 a2 c1 c2 ss tt r1 r2 z1 z2 hs) (fun w a1 a2 c1 c2 r1 r2 => implLower_no w d1 f1 d2 f2 a1 a2 c1 c2 ss tt r1 r2 z1 z2 hs)

set_option maxRecDepth 100000 in
theorem lifted (os : Os) (started : os.Started) (H : Type) (enc : TypeId × Value → H) :
    ReturnsInHanded {} Try.checked os 8 .any (Rows.fnExactLowerCardSpec.pre6 enc Try.prog Try.f8 Rows.fnExactLowerCardRow.domain false) (Rows.fnExactLowerCardSpec.post enc Try.prog Try.f8 false true false false) := by
  refine returnsInHanded_of_change (C := Try.checked) own started (by kernel_rfl) Try.func8
    (ChangeSpec.witness6 (enc := enc) (C := Try.checked) false ⟨#[], #[.agg #[.int .i64 0, .int .i64 0, .slice none 0 0], .agg #[.int .i64 0, .int .i64 0, .slice none 0 0]], []⟩ 8 (by kernel_rfl) (by kernel_rfl) (by kernel_rfl) (by kernel_rfl)) ?_
  intro W base args ds gs before hval0 hW hcnd _
  have hval : ∀ (j : Nat) t v, Try.f8.params[j]? = some t → args[j]? = some v → Value.okWide Try.prog W .any base t v := hval0
  have hW' := hW
  obtain ⟨p, q, hA0, hV, rfl, hfz, hnd⟩ := hW
  have hA : DataW.TrodAll enc Try.prog W 0 (fun _ => true) true Try.f8.params.toList args.toList ds p := hA0
  rw [Try.params8] at hA hval
  obtain ⟨v0, vs0, d0, ds0, p0, q0, hargs, rfl, rfl, h0, r0⟩ := trodAll_cons hA
  obtain ⟨v1, vs1, d1, ds1, p1, q1, rfl, rfl, rfl, h1, r1⟩ := trodAll_cons r0
  obtain ⟨rfl, rfl, rfl⟩ := trodAll_nil r1
  obtain rfl : args = #[v0, v1] := by cases args; simp_all
  obtain ⟨rfl, rfl⟩ := trodVars_none hV
  have k0 := h0
  have lt0 : ∀ x ∈ p0, x.block < W.heap.size := by obtain ⟨m, hm⟩ := k0; exact DataW.trod_lt m _ _ _ hm
  obtain ⟨cd0, cf0, ca0, cc0, cs0, rfl, cr0, cz0, wd0, wf0⟩ := cardIn (hval 0 31 v0 rfl rfl) h0
  have k1 := h1
  have lt1 : ∀ x ∈ p1, x.block < W.heap.size := by obtain ⟨m, hm⟩ := k1; exact DataW.trod_lt m _ _ _ hm
  obtain ⟨cd1, cf1, ca1, cc1, cs1, rfl, cr1, cz1, wd1, wf1⟩ := cardIn (hval 1 31 v1 rfl rfl) h1
  clear hA0 hval0
  refine (walk cd0 cf0 ca0 cc0 cs0 cd1 cf1 ca1 cc1 cs1 W cr0 cz0 cr1 cz1).mono fun e W' ⟨he, bel⟩ => ?_
  subst he
  exact ⟨_, rfl, _, _, _, [], _, [], hW', trodAll_mk1 (shut_bool Try.underlying4 _), (trodAll_cons_mk (Below.trod laidOut (by kernel_rfl) (of_decide_eq_true (by kernel_rfl)) k0 bel lt0) (trodAll_cons_mk (Below.trod laidOut (by kernel_rfl) (of_decide_eq_true (by kernel_rfl)) k1 bel lt1) trodAll_mk0)), rfl, bel.frame _, fun h => by cases h⟩

theorem closed : joinedFacts Try.prog 8 Try.f8 Rows.fnExactLowerCardSpec Rows.fnExactLowerCardRow = true := by
  unfold joinedFacts
  rw [cellMay, cellFinal, cellMake]
  repeat' (with_reducible refine and_mk ?_ ?_)
  all_goals first | with_reducible rfl | as_aux_lemma => kernel_rfl
theorem proved : Rows.FnExactLowerCardSaid :=
  OpenClaim.holds_of_wide 8 Try.f8 rfl rfl rfl rfl rfl rfl rfl ⟨rfl, rfl, rfl, rfl, rfl⟩ rfl rfl rfl rfl rfl (by kernel_rfl) Try.func8 closed
    (of_decide_eq_true (by kernel_rfl)) (by unfold Func.isWrapper; first | (rw [if_pos (by decide +kernel)]; kernel_rfl) | (rw [if_neg (by decide +kernel)]; exact ⟨rfl, rfl⟩))
    (fun os started H enc _ => lifted os started H enc)
#print axioms proved
end Go.Proofs.Ytolnhmmgmkehfaa.fnExactLowerCard
