/- FnFaces: for every input the law returns true and its arguments read afterwards as they read before. No condition. -/
import Derived.Test.YtmpbhhggbmjfcaaRows
import Derived.WalkKit
import Derived.ProofKit
import Derived.OpenShut
import Derived.ShutString
import Derived.ChangeOld
import Derived.Below
import Derived.Lib.SmallJoins
import Derived.SliceStrings
import Derived.Test.YtmpbhhggbmjfcaaCells
import Derived.Test.YtmpbhhggbmjfcaaFaceV
import Derived.Test.YtmpbhhggbmjfcaaDrawC2
import Derived.Test.YtmpbhhggbmjfcaaDraw
import Derived.Test.YtmpbhhggbmjfcaaHand
import Derived.Deep.RegionHeld3
import Derived.Deep.QuietTactic
namespace Go.Proofs.Ytmpbhhggbmjfcaa.fnFaces
open Go.ChangeShapes Go.WideShapes Go.ChangeAt Go.RowKit Go.Joins
open Go.ChangeMaps (open_string shut_string)
set_option linter.unusedVariables false

theorem own : ownKnob Try.prog.godebug = none := by kernel_rfl
theorem laidOut : laidOutB Try.prog = true := by kernel_rfl

theorem big_no (a : Option Addr) (n cap : Nat) (hn : n ≤ 1048576) (w : World) :
    Calls Try.prog 34 #[.slice a n cap] w fun e w' => e = .returned (.bool false) ∧ w = w' := by
  go_enter Try.func34, Try.ntmps34
  go_wp2
  go_ret
  exact ⟨ret_bool (decide_eq_false (by omega)), rfl⟩
set_option maxRecDepth 100000 in
set_option maxHeartbeats 12800000 in
theorem walk (a : Option Addr) (n cap : Nat) (w : World) (hn : n ≤ maxLen) (hr : RdB w.heap.size w a n) :
    Calls Try.prog 11 #[.slice a n cap] w fun e w' => e = .returned (.bool true) ∧ Below w.heap.size w w' := by
  by_cases hg : 1048576 < n
  · unfold maxLen at hn
    clear hr
    go_enter Try.func11, Try.ntmps11
    go_wp2
    go_ret
    exact ⟨rfl, Below.refl _ _⟩
  have hn2 : n ≤ 1048576 := by omega
  clear hg hn
  obtain ⟨x0, ⟨x00, x01⟩, at0⟩ := at0_val cap hn2 hr
  obtain ⟨x1, ⟨x10, x11⟩, at1⟩ := at1_val cap hn2 hr
  have HA0 := Lib.hid at0; have HA1 := Lib.hid at1
  have HR := Lib.hid hr; clear hr at0 at1
  go_enter Try.func11, Try.ntmps11
  go_wp2_with fail
  refine (big_no _ _ _ hn2 _).mono ?_
  rintro e w' ⟨rfl, rfl⟩
  go_wp2_with fail
  refine (drawCard_any _ _ _ _ hn2 HR.out).mono ?_
  rintro e w1 ⟨d, f, p, q, ss, rfl, hok, how, hb⟩
  have D0 := dim_mk hok
  obtain ⟨N, hN⟩ : ∃ N, d + f = N := ⟨_, rfl⟩
  obtain ⟨m, hm⟩ : ∃ m, ss.length * (d + f) = m := ⟨_, rfl⟩
  rw [hm, hN] at D0
  rw [hN] at hm
  have HD := Lib.hid D0
  obtain ⟨k0, k1⟩ := D0.k1
  obtain ⟨d1, d2⟩ := D0.d1
  obtain ⟨f1, f2⟩ := D0.f1
  have m160 := D0.m160
  have hN1 : 2 ≤ N ∧ N ≤ 16 := by omega
  have rd0 := how.rd
  rcases rd0 with h0 | ⟨bb, oo, rfl, z1, z2, z3⟩
  · rw [h0] at k0; simp at k0
  have s0 : St w w1.heap.size d f (some ⟨bb, oo, none⟩) q ss (w1.alloc (.cells #[.int .i64 d, .int .i64 f, .slice (some ⟨bb, oo, none⟩) ss.length q] 34)) :=
    ⟨by simp [go_sem], by simp [go_sem], by simp [go_sem], RdS.alloc how.rd _, by simp, hb.alloc hb.size _⟩
  have HS := Lib.hid s0
  have EN : IntKind.i64.wrap ((d : Int) + (f : Int)) = (N : Int) := by rw [show (d : Int) + (f : Int) = (N : Int) from by omega]; exact IntWalk.i64_in _ (by omega)
  have EM : IntKind.i64.wrap ((ss.length : Int) * (N : Int)) = (m : Int) := by rw [show (ss.length : Int) * (N : Int) = (m : Int) from by rw [← hm]; simp]; exact IntWalk.i64_in _ (by omega)
  have t0 : ((ss.length : Int) == 0) = false := beq_eq_false_iff_ne.2 (by omega)
  have t1 : ((N : Int) == 0) = false := beq_eq_false_iff_ne.2 (by omega)
  obtain ⟨k, hk⟩ : ∃ k : Nat, x0 % (ss.length : Int) = (k : Int) := Int.eq_ofNat_of_zero_le (Int.emod_nonneg _ (by omega))
  obtain ⟨i, hi⟩ : ∃ i : Nat, x1 % (N : Int) = (i : Int) := Int.eq_ofNat_of_zero_le (Int.emod_nonneg _ (by omega))
  have hkl : k < ss.length := by have := Int.emod_lt_of_pos x0 (show (0 : Int) < (ss.length : Int) by omega); omega
  have hil : i < N := by have := Int.emod_lt_of_pos x1 (show (0 : Int) < (N : Int) by omega); omega
  have HNN := Lib.hid hN
  clear D0 hok how hb s0 hN hm z1 z2 z3
  go_wp2_with fail
  generalize World.alloc _ _ = u0 at *
  generalize w1.heap.size = b at *
  have c0 := HS.out.c0; have c1 := HS.out.c1; have c2 := HS.out.c2
  go_wp2_with fail
  refine (fw_count HD.out HS.out).mono ?_
  rintro e u1 ⟨rfl, hs⟩
  clear c0 c1 c2 HS
  have HS := Lib.hid hs; clear hs
  have c0 := HS.out.c0; have c1 := HS.out.c1; have c2 := HS.out.c2
  go_wp2_with fail
  refine (fw_faces HD.out HS.out).mono ?_
  rintro e u2 ⟨⟨lab, rfl, hl⟩, hs⟩
  clear c0 c1 c2 HS
  have HS := Lib.hid hs; clear hs
  have c0 := HS.out.c0; have c1 := HS.out.c1; have c2 := HS.out.c2
  have HL := Lib.hid hl; clear hl
  have HNX0 := Lib.hid (fun fc (h : fc < nxt lab m) => face_pos HL.out h)
  have hc160 := fun fc => lcnt_le (fun t => (lab t : Int)) fc m
  have hs160 := fun fc => csum_le lab m fc
  have hall := csum_all lab m _ (Nat.le_refl _)
  have hv := nxt_lt (lab := lab) (HD.out.lt hkl hil)
  have hnm : nxt lab m ≤ m := nxt_le (fun u hu => HL.out.2.2 u hu)
  obtain ⟨nx, hnx⟩ : ∃ nx, nxt lab m = nx := ⟨_, rfl⟩
  rw [hnx] at HNX0 hall hv hnm ⊢
  obtain ⟨v, hlv⟩ : ∃ v, lab (k * N + i) = v := ⟨_, rfl⟩
  rw [hlv] at hv
  have HNX := Lib.hid hnx; have HALL := Lib.hid hall; have HC := Lib.hid hc160; have HSM := Lib.hid hs160; have HV := Lib.hid hlv
  clear hnx hall hc160 hs160 hlv
  go_wp2_with fail
  go_loopw [6, 7] (fun x y wr => ∃ fc : Nat, fc ≤ nx ∧ y = .int .i64 fc ∧ x = .int .i64 (csum lab m fc : Int) ∧ Hid (St w b d f (some ⟨bb, oo, none⟩) q ss wr)) (fun _ y _ => nx - (intOf y).toNat)
  case atStart => exact ⟨0, Nat.zero_le _, rfl, rfl, HS⟩
  case round =>
    clear c0 c1 c2 HS
    obtain ⟨fc, hfc, rfl, rfl, HS⟩ := hrel
    have c0 := HS.out.c0; have c1 := HS.out.c1; have c2 := HS.out.c2
    by_cases hlt : fc < nx
    · have e1 : (fc : Int) < (nx : Int) := by omega
      have p1 := HNX0.out fc hlt
      have p2 := HC.out fc
      have p3 := HSM.out fc
      have HX : Hid (csum lab m (fc + 1) = csum lab m fc + cnt (fun t => (lab t : Int)) fc m) := Lib.hid rfl
      have hstep := fun (u : World) (hu : St w b d f (some ⟨bb, oo, none⟩) q ss u) => fw_size HD.out HL.out (fc : Int) hu
      generalize cnt (fun t => (lab t : Int)) (fc : Int) m = ct at *
      generalize csum lab m fc = cs at *
      have HST := Lib.hid hstep; clear hstep
      have e2 : decide ((ct : Int) < 1) = false := decide_eq_false (by omega)
      have e2n : decide (ct < 1) = false := decide_eq_false (by omega)
      go_wp2_with fail
      refine (HST.out _ HS.out).mono ?_
      rintro e u3 ⟨rfl, hs⟩
      clear c0 c1 c2 HS
      have HS := Lib.hid hs; clear hs
      have c0 := HS.out.c0; have c1 := HS.out.c1; have c2 := HS.out.c2
      go_wp2
      go_roundw
      case rel => exact ⟨fc + 1, by omega, by go_num, by rw [HX.out]; go_num, HS⟩
      case measure => simp [intOf]; omega
    · have hfe : fc = nx := by omega
      have e1 : decide ((fc : Int) < (nx : Int)) = false := decide_eq_false (by omega)
      have e1n : decide (fc < nx) = false := decide_eq_false (by omega)
      have hsum : csum lab m fc = m := by rw [hfe]; exact HALL.out
      rw [hsum]
      clear hsum hfe hfc hlt
      go_wp2_with fail
      clear e1 e1n
      go_quiet ((go_at_call 46; exact Calls.quiet_of_same (HA0.out _ (HS.out.drewN _).be)))
      have hs := HS.out.drewN nq
      clear c0 c1 c2 HS
      generalize World.drewN _ nq = u4 at hs ⊢
      have HS := Lib.hid hs; clear hs
      have c0 := HS.out.c0; have c1 := HS.out.c1; have c2 := HS.out.c2
      go_wp2_with fail
      go_quiet ((go_at_call 46; exact Calls.quiet_of_same (HA1.out _ (HS.out.drewN _).be)))
      have hs := HS.out.drewN nq
      clear c0 c1 c2 HS
      generalize World.drewN _ nq = u5 at hs ⊢
      have HS := Lib.hid hs; clear hs
      have c0 := HS.out.c0; have c1 := HS.out.c1; have c2 := HS.out.c2
      go_wp2_with fail
      simp only [hk, hi]
      clear hk hi x00 x01 x10 x11 t0 t1 HA0 HA1
      have HVO := Lib.hid (fun (u : World) (hu : St w b d f (some ⟨bb, oo, none⟩) q ss u) => fw_of HD.out HL.out hkl hil hu)
      rw [HV.out] at HVO
      go_wp2_with fail
      refine (HVO.out _ HS.out).mono ?_
      rintro e u6 ⟨rfl, hs⟩
      clear c0 c1 c2 HS
      have HS := Lib.hid hs; clear hs
      have c0 := HS.out.c0; have c1 := HS.out.c1; have c2 := HS.out.c2
      obtain ⟨s, hs⟩ : ∃ s, sel ss k = s := ⟨_, rfl⟩
      have hsz : s.size = N := by rw [← hs]; exact HD.out.sz hkl
      have hstr : strip s.data.toList = true := by rw [← hs]; exact (okC_sel HD.out.ok hkl).1
      have hct := strip_take hstr i (by omega)
      have HSEL := Lib.hid hs
      obtain ⟨cf, hcf⟩ : ∃ c, cF (s.data.toList.take i) = c := ⟨_, rfl⟩
      obtain ⟨cd, hcd⟩ : ∃ c, cD (s.data.toList.take i) = c := ⟨_, rfl⟩
      obtain ⟨xt, hxt⟩ : ∃ c, s.extract i (i + 1) = c := ⟨_, rfl⟩
      rw [hcf, hcd] at hct
      have HTP := Lib.hid (fun (u : World) (hu : St w b d f (some ⟨bb, oo, none⟩) q ss u) => fw_place2 HD.out hkl hil (cf := cf) (cd := cd) (x := xt) (by rw [hs]; exact hcf) (by rw [hs]; exact hcd) (by rw [hs]; exact hxt) hu)
      have HCF := Lib.hid hcf; have HCD := Lib.hid hcd; have HXT := Lib.hid hxt
      clear hs hcf hcd hstr
      go_wp2_with fail
      refine (HTP.out _ HS.out).mono ?_
      rintro e u7 ⟨rfl, hs⟩
      clear c0 c1 c2 HS
      have HS := Lib.hid hs; clear hs
      have c0 := HS.out.c0; have c1 := HS.out.c1; have c2 := HS.out.c2
      have g0 := HS.out.str hkl HSEL.out
      have i2 : IntKind.i64.wrap ((i : Int) + 1) = (i : Int) + 1 := IntWalk.i64_in _ (by omega)
      have i3 : ((i : Int) + 1).toNat = i + 1 := by omega
      have i4 : (i : Int) ≤ (i : Int) + 1 := by omega
      have i5 : (0 : Int) ≤ (i : Int) + 1 := by omega
      have i6 : (i : Int) + 1 ≤ (s.size : Int) := by omega
      have i7 : IntKind.i64.wrap ((cf : Int) + (cd : Int)) = (i : Int) := by rw [show (cf : Int) + (cd : Int) = (i : Int) from by omega]; exact IntWalk.i64_in _ (by omega)
      have i8 : (k : Int) < (ss.length : Int) := by omega
      have i9 : decide ((v : Int) < 0) = false := decide_eq_false (by omega)
      have i10 : decide ((nx : Int) ≤ (v : Int)) = false := decide_eq_false (by omega)
      have i10n : decide (nx ≤ v) = false := decide_eq_false (by omega)
      go_wp2_with fail
      by_cases hi0 : 0 < i
      · obtain ⟨i', hi'⟩ : ∃ i', i = i' + 1 := ⟨i - 1, by omega⟩
        have q1 : (0 : Int) < (i : Int) := by omega
        have q2 : IntKind.i64.wrap ((i : Int) - 1) = (i' : Int) := by rw [show (i : Int) - 1 = (i' : Int) from by omega]; exact IntWalk.i64_in _ (by omega)
        have q3 : (i' : Int) < (s.size : Int) := by omega
        have q3n : i' < s.size := by omega
        have q5 : i' < N := by omega
        have q5i : (i' : Int) < (N : Int) := by omega
        have q6i : (i : Int) < (N : Int) := by omega
        have q4 : (i : Int) < (s.size : Int) := by omega
        have q4n : i < s.size := by omega
        by_cases hbe : byt s i' = byt s i
        · have hb : ((s[i'].toNat : Int) == (s[i].toNat : Int)) = true := by rw [byt_get s i' q3n, byt_get s i q4n] at hbe; rw [hbe]; simp
          have HBK := Lib.hid (fun (u : World) (hu : St w b d f (some ⟨bb, oo, none⟩) q ss u) => fw_back HD.out HL.out hkl hil hi' hu (by rw [HSEL.out]; exact hbe))
          rw [HV.out] at HBK
          clear hbe hi'
          refine wp_hand (S := fun w' => w'.cell? ⟨b, 0, none⟩ = some (.int .i64 (d : Int)) ∧ w'.cell? ⟨b, 1, none⟩ = some (.int .i64 (f : Int)) ∧ w'.cell? ⟨b, 2, none⟩ = some (.slice (some ⟨bb, oo, none⟩) ss.length q) ∧ w'.cell? ⟨bb, oo + k, none⟩ = some (.string s) ∧ St w b d f (some ⟨bb, oo, none⟩) q ss w') (by kernel_rfl) ⟨c0, c1, c2, g0, HS.out.drew⟩ (fun _ _ d _ _ h => by cases d <;> exact h) (fun hBl hHeld => ?_)
          refine take2 (i := 0) (v := ?_) (d := some 111) hBl rfl rfl (by kernel_rfl) (by kernel_rfl) (by kernel_rfl) (by kernel_rfl) ?_ hHeld ?_
          rotate_left
          · (intro w hSw; (try dsimp only at hSw); go_simp <;> with_reducible rfl)
          try simp only [Act.put, List.setIfInBounds_toArray, List.set_cons_zero, List.set_cons_succ]
          refine take2 (i := 1) (v := ?_) (d := some 112) hBl rfl rfl (by kernel_rfl) (by kernel_rfl) (by kernel_rfl) (by kernel_rfl) ?_ hHeld ?_
          rotate_left
          · (intro w hSw; (try dsimp only at hSw); go_simp <;> with_reducible rfl)
          try simp only [Act.put, List.setIfInBounds_toArray, List.set_cons_zero, List.set_cons_succ]
          refine take2 (i := 2) (v := ?_) (d := some 113) hBl rfl rfl (by kernel_rfl) (by kernel_rfl) (by kernel_rfl) (by kernel_rfl) ?_ hHeld ?_
          rotate_left
          · (intro w hSw; (try dsimp only at hSw); go_simp <;> with_reducible rfl)
          try simp only [Act.put, List.setIfInBounds_toArray, List.set_cons_zero, List.set_cons_succ]
          refine take2 (i := 3) (v := ?_) (d := some 114) hBl rfl rfl (by kernel_rfl) (by kernel_rfl) (by kernel_rfl) (by kernel_rfl) ?_ hHeld ?_
          rotate_left
          · (intro w hSw; (try dsimp only at hSw); go_simp <;> with_reducible rfl)
          try simp only [Act.put, List.setIfInBounds_toArray, List.set_cons_zero, List.set_cons_succ]
          refine take2 (i := 4) (v := ?_) (d := some 115) hBl rfl rfl (by kernel_rfl) (by kernel_rfl) (by kernel_rfl) (by kernel_rfl) ?_ hHeld ?_
          rotate_left
          · (intro w hSw; (try dsimp only at hSw); go_simp <;> with_reducible rfl)
          try simp only [Act.put, List.setIfInBounds_toArray, List.set_cons_zero, List.set_cons_succ]
          refine take2 (i := 5) (v := ?_) (d := some 116) hBl rfl rfl (by kernel_rfl) (by kernel_rfl) (by kernel_rfl) (by kernel_rfl) ?_ hHeld ?_
          rotate_left
          · (intro w hSw; (try dsimp only at hSw); go_simp <;> with_reducible rfl)
          try simp only [Act.put, List.setIfInBounds_toArray, List.set_cons_zero, List.set_cons_succ]
          refine take2 (i := 6) (v := ?_) (d := some 117) hBl rfl rfl (by kernel_rfl) (by kernel_rfl) (by kernel_rfl) (by kernel_rfl) ?_ hHeld ?_
          rotate_left
          · (intro w hSw; (try dsimp only at hSw); go_simp <;> with_reducible rfl)
          try simp only [Act.put, List.setIfInBounds_toArray, List.set_cons_zero, List.set_cons_succ]
          refine take2 (i := 7) (v := ?_) (d := some 118) hBl rfl rfl (by kernel_rfl) (by kernel_rfl) (by kernel_rfl) (by kernel_rfl) ?_ hHeld ?_
          rotate_left
          · (intro w hSw; (try dsimp only at hSw); go_simp <;> with_reducible rfl)
          try simp only [Act.put, List.setIfInBounds_toArray, List.set_cons_zero, List.set_cons_succ]
          refine take2 (i := 8) (v := ?_) (d := some 119) hBl rfl rfl (by kernel_rfl) (by kernel_rfl) (by kernel_rfl) (by kernel_rfl) ?_ hHeld ?_
          rotate_left
          · (intro w hSw; (try dsimp only at hSw); go_simp <;> with_reducible rfl)
          try simp only [Act.put, List.setIfInBounds_toArray, List.set_cons_zero, List.set_cons_succ]
          refine take2 (i := 9) (v := ?_) (d := some 120) hBl rfl rfl (by kernel_rfl) (by kernel_rfl) (by kernel_rfl) (by kernel_rfl) ?_ hHeld ?_
          rotate_left
          · (intro w hSw; (try dsimp only at hSw); go_simp <;> with_reducible rfl)
          try simp only [Act.put, List.setIfInBounds_toArray, List.set_cons_zero, List.set_cons_succ]
          refine take2 (i := 10) (v := ?_) (d := some 121) hBl rfl rfl (by kernel_rfl) (by kernel_rfl) (by kernel_rfl) (by kernel_rfl) ?_ hHeld ?_
          rotate_left
          · (intro w hSw; (try dsimp only at hSw); go_simp <;> with_reducible rfl)
          try simp only [Act.put, List.setIfInBounds_toArray, List.set_cons_zero, List.set_cons_succ]
          refine take2 (i := 11) (v := ?_) (d := some 122) hBl rfl rfl (by kernel_rfl) (by kernel_rfl) (by kernel_rfl) (by kernel_rfl) ?_ hHeld ?_
          rotate_left
          · (intro w hSw; (try dsimp only at hSw); go_simp <;> with_reducible rfl)
          try simp only [Act.put, List.setIfInBounds_toArray, List.set_cons_zero, List.set_cons_succ]
          refine take2 (i := 12) (v := ?_) (d := some 123) hBl rfl rfl (by kernel_rfl) (by kernel_rfl) (by kernel_rfl) (by kernel_rfl) ?_ hHeld ?_
          rotate_left
          · (intro w hSw; (try dsimp only at hSw); go_simp <;> with_reducible rfl)
          try simp only [Act.put, List.setIfInBounds_toArray, List.set_cons_zero, List.set_cons_succ]
          refine take2 (i := 13) (v := ?_) (d := some 124) hBl rfl rfl (by kernel_rfl) (by kernel_rfl) (by kernel_rfl) (by kernel_rfl) ?_ hHeld ?_
          rotate_left
          · (intro w hSw; (try dsimp only at hSw); go_simp <;> with_reducible rfl)
          try simp only [Act.put, List.setIfInBounds_toArray, List.set_cons_zero, List.set_cons_succ]
          refine take2 (i := 14) (v := ?_) (d := some 125) hBl rfl rfl (by kernel_rfl) (by kernel_rfl) (by kernel_rfl) (by kernel_rfl) ?_ hHeld ?_
          rotate_left
          · (intro w hSw; (try dsimp only at hSw); go_simp <;> with_reducible rfl)
          try simp only [Act.put, List.setIfInBounds_toArray, List.set_cons_zero, List.set_cons_succ]
          refine take2 (i := 15) (v := ?_) (d := some 126) hBl rfl rfl (by kernel_rfl) (by kernel_rfl) (by kernel_rfl) (by kernel_rfl) ?_ hHeld ?_
          rotate_left
          · (intro w hSw; (try dsimp only at hSw); go_simp <;> with_reducible rfl)
          try simp only [Act.put, List.setIfInBounds_toArray, List.set_cons_zero, List.set_cons_succ]
          refine take2 (i := 16) (v := ?_) (d := some 127) hBl rfl rfl (by kernel_rfl) (by kernel_rfl) (by kernel_rfl) (by kernel_rfl) ?_ hHeld ?_
          rotate_left
          · (intro w hSw; (try dsimp only at hSw); go_simp <;> with_reducible rfl)
          try simp only [Act.put, List.setIfInBounds_toArray, List.set_cons_zero, List.set_cons_succ]
          refine take2 (i := 17) (v := ?_) (d := some 128) hBl rfl rfl (by kernel_rfl) (by kernel_rfl) (by kernel_rfl) (by kernel_rfl) ?_ hHeld ?_
          rotate_left
          · (intro w hSw; (try dsimp only at hSw); go_simp <;> with_reducible rfl)
          try simp only [Act.put, List.setIfInBounds_toArray, List.set_cons_zero, List.set_cons_succ]
          refine take2 (i := 18) (v := ?_) (d := some 129) hBl rfl rfl (by kernel_rfl) (by kernel_rfl) (by kernel_rfl) (by kernel_rfl) ?_ hHeld ?_
          rotate_left
          · (intro w hSw; (try dsimp only at hSw); go_simp <;> with_reducible rfl)
          try simp only [Act.put, List.setIfInBounds_toArray, List.set_cons_zero, List.set_cons_succ]
          refine take2 (i := 19) (v := ?_) (d := some 130) hBl rfl rfl (by kernel_rfl) (by kernel_rfl) (by kernel_rfl) (by kernel_rfl) ?_ hHeld ?_
          rotate_left
          · (intro w hSw; (try dsimp only at hSw); go_simp <;> with_reducible rfl)
          try simp only [Act.put, List.setIfInBounds_toArray, List.set_cons_zero, List.set_cons_succ]
          refine take2 (i := 20) (v := ?_) (d := some 131) hBl rfl rfl (by kernel_rfl) (by kernel_rfl) (by kernel_rfl) (by kernel_rfl) ?_ hHeld ?_
          rotate_left
          · (intro w hSw; (try dsimp only at hSw); go_simp <;> with_reducible rfl)
          try simp only [Act.put, List.setIfInBounds_toArray, List.set_cons_zero, List.set_cons_succ]
          refine take2 (i := 21) (v := ?_) (d := some 132) hBl rfl rfl (by kernel_rfl) (by kernel_rfl) (by kernel_rfl) (by kernel_rfl) ?_ hHeld ?_
          rotate_left
          · (intro w hSw; (try dsimp only at hSw); go_simp <;> with_reducible rfl)
          try simp only [Act.put, List.setIfInBounds_toArray, List.set_cons_zero, List.set_cons_succ]
          refine take2 (i := 22) (v := ?_) (d := some 133) hBl rfl rfl (by kernel_rfl) (by kernel_rfl) (by kernel_rfl) (by kernel_rfl) ?_ hHeld ?_
          rotate_left
          · (intro w hSw; (try dsimp only at hSw); go_simp <;> with_reducible rfl)
          try simp only [Act.put, List.setIfInBounds_toArray, List.set_cons_zero, List.set_cons_succ]
          refine take2 (i := 23) (v := ?_) (d := some 134) hBl rfl rfl (by kernel_rfl) (by kernel_rfl) (by kernel_rfl) (by kernel_rfl) ?_ hHeld ?_
          rotate_left
          · (intro w hSw; (try dsimp only at hSw); go_simp <;> with_reducible rfl)
          try simp only [Act.put, List.setIfInBounds_toArray, List.set_cons_zero, List.set_cons_succ]
          refine take2 (i := 24) (v := ?_) (d := some 135) hBl rfl rfl (by kernel_rfl) (by kernel_rfl) (by kernel_rfl) (by kernel_rfl) ?_ hHeld ?_
          rotate_left
          · (intro w hSw; (try dsimp only at hSw); go_simp <;> with_reducible rfl)
          try simp only [Act.put, List.setIfInBounds_toArray, List.set_cons_zero, List.set_cons_succ]
          refine take2 (i := 26) (v := ?_) (d := some 137) hBl rfl rfl (by kernel_rfl) (by kernel_rfl) (by kernel_rfl) (by kernel_rfl) ?_ hHeld ?_
          rotate_left
          · (intro w hSw; (try dsimp only at hSw); go_simp <;> with_reducible rfl)
          try simp only [Act.put, List.setIfInBounds_toArray, List.set_cons_zero, List.set_cons_succ]
          refine wpAnyH_ready (rs := [25]) (by kernel_rfl) (by simp) ?_
          refine AllReadyH.cons rfl (fun K hK => ?_) AllReadyH.nil
          go_simp
          (go_at_call 22; refine (HBK.out _ HS.out.drew).mono ?_; rintro e u8 ⟨rfl, s8⟩; have m0 := s8.c0; have m1 := s8.c1; have m2 := s8.c2; have m3 := s8.str hkl HSEL.out)
          go_wp2_with fail
          refine hK.out _ _ ⟨m0, m1, m2, m3, s8⟩ (fun hHeld => ?_)
          clear hK K
          try simp only [Act.put, List.setIfInBounds_toArray, List.set_cons_zero, List.set_cons_succ]
          refine wpAnyH_ready (rs := [27]) (by kernel_rfl) (by simp) ?_
          refine AllReadyH.cons rfl (fun K hK => ?_) AllReadyH.nil
          go_simp
          skip
          go_wp2_with fail
          refine hK.out _ _ ⟨m0, m1, m2, m3, s8⟩ (fun hHeld => ?_)
          clear hK K
          try simp only [Act.put, List.setIfInBounds_toArray, List.set_cons_zero, List.set_cons_succ]
          refine wpAnyH_ready (rs := [28]) (by kernel_rfl) (by simp) ?_
          refine AllReadyH.cons rfl (fun K hK => ?_) AllReadyH.nil
          go_simp
          skip
          go_wp2_with fail
          refine hK.out _ _ ⟨m0, m1, m2, m3, s8⟩ (fun hHeld => ?_)
          clear hK K
          try simp only [Act.put, List.setIfInBounds_toArray, List.set_cons_zero, List.set_cons_succ]
          refine wpAnyH_done (by kernel_rfl) ?_ _
          clear c0 c1 c2 g0 m0 m1 m2 m3 HS HBK
          have HS := Lib.hid s8; clear s8
          have c0 := HS.out.c0; have c1 := HS.out.c1; have c2 := HS.out.c2
          by_cases hk1 : k + 1 < ss.length
          · obtain ⟨k2, hk2⟩ : ∃ k2, k2 = k + 1 := ⟨_, rfl⟩
            have j1 : IntKind.i64.wrap ((k : Int) + 1) = (k2 : Int) := by rw [show (k : Int) + 1 = (k2 : Int) from by omega]; exact IntWalk.i64_in _ (by omega)
            have j2 : (k2 : Int) < (ss.length : Int) := by omega
            have hk2l : k2 < ss.length := by omega
            obtain ⟨s2, hs2⟩ : ∃ s2, sel ss k2 = s2 := ⟨_, rfl⟩
            have hsz2 : s2.size = N := by rw [← hs2]; exact HD.out.sz hk2l
            have hstr2 : strip s2.data.toList = true := by rw [← hs2]; exact (okC_sel HD.out.ok hk2l).1
            have hct2 := strip_take hstr2 i (by omega)
            obtain ⟨cf2, hcf2⟩ : ∃ c, cF (s2.data.toList.take i) = c := ⟨_, rfl⟩
            obtain ⟨cd2, hcd2⟩ : ∃ c, cD (s2.data.toList.take i) = c := ⟨_, rfl⟩
            obtain ⟨xt2, hxt2⟩ : ∃ c, s2.extract i (i + 1) = c := ⟨_, rfl⟩
            rw [hcf2, hcd2] at hct2
            have HTP2 := Lib.hid (fun (u : World) (hu : St w b d f (some ⟨bb, oo, none⟩) q ss u) => fw_place2 HD.out hk2l hil (cf := cf2) (cd := cd2) (x := xt2) (by rw [hs2]; exact hcf2) (by rw [hs2]; exact hcd2) (by rw [hs2]; exact hxt2) hu)
            have hxe : xt = xt2 ↔ byt s i = byt s2 i := by rw [← HXT.out, ← hxt2]; exact ext_eq (by omega) (by omega)
            have hsm : sameV (sel ss k) (sel ss k2) i = (decide (xt = xt2) && decide (cf = cf2)) := by
              rw [HSEL.out, hs2, ← hcf2, ← HCF.out]; unfold sameV
              congr 1; exact decide_eq_decide.2 hxe.symm
            have HK2 := Lib.hid hk2
            clear hcf2 hcd2 hxt2 hs2 hstr2 hxe hk1 hk2
            go_wp2_with fail
            refine (HTP2.out _ HS.out).mono ?_
            rintro e v1 ⟨rfl, hs⟩
            clear c0 c1 c2 HS
            have HS := Lib.hid hs; clear hs
            have c0 := HS.out.c0; have c1 := HS.out.c1; have c2 := HS.out.c2
            by_cases hcc : cf2 = cf
            · have hcd3 : cd2 = cd := by omega
              by_cases hxx : xt2 = xt
              · have HN2 := Lib.hid (fun (u : World) (hu : St w b d f (some ⟨bb, oo, none⟩) q ss u) => fw_next HD.out HL.out hk2l hil HK2.out hu (by rw [hsm, hxx, hcc]; simp))
                rw [HV.out] at HN2
                replace hsm : sameV (sel ss k) (sel ss k2) i = true := by rw [hsm, hxx, hcc]; simp
                subst hcc; subst hcd3; subst hxx
                have HJ := Lib.hid (fun (u : World) (hu : St w b d f (some ⟨bb, oo, none⟩) q ss u) => fw_join2 HD.out hk2l hil HK2.out hu hsm)
                clear hsm
                go_wp2_with fail
                refine (HJ.out _ HS.out).mono ?_
                rintro e v2 ⟨rfl, hs⟩
                clear c0 c1 c2 HS
                have HS := Lib.hid hs; clear hs
                have c0 := HS.out.c0; have c1 := HS.out.c1; have c2 := HS.out.c2
                go_wp2_with fail
                refine (HN2.out _ HS.out).mono ?_
                rintro e v3 ⟨rfl, hs⟩
                clear c0 c1 c2 HS
                have HS := Lib.hid hs; clear hs
                have c0 := HS.out.c0; have c1 := HS.out.c1; have c2 := HS.out.c2
                go_wp2_with fail
                refine (fw_zero HD.out HL.out HS.out).mono ?_
                rintro e v4 ⟨rfl, hs⟩
                clear c0 c1 c2 HS
                have HS := Lib.hid hs; clear hs
                have c0 := HS.out.c0; have c1 := HS.out.c1; have c2 := HS.out.c2
                go_wp2_with fail
                refine (fw_over HD.out HL.out HS.out HNX.out).mono ?_
                rintro e v5 ⟨rfl, hs⟩
                clear c0 c1 c2 HS
                have HS := Lib.hid hs; clear hs
                have c0 := HS.out.c0; have c1 := HS.out.c1; have c2 := HS.out.c2
                go_wp2
                go_ret
                exact ⟨rfl, HS.out.be⟩
              · replace hsm : sameV (sel ss k) (sel ss k2) i = false := by rw [hsm, decide_eq_false (fun h => hxx h.symm)]; rfl
                have hx6 : (xt2.toList == xt.toList) = false := beq_eq_false_iff_ne.2 (fun h => hxx (by rw [Go.ByteArray.toList_eq, Go.ByteArray.toList_eq] at h; exact ByteArray.ext (Array.toList_inj.1 h)))
                have hx7 : decide (xt2 = xt) = false := decide_eq_false hxx
                subst hcc; subst hcd3
                have HJ := Lib.hid (fun (u : World) (hu : St w b d f (some ⟨bb, oo, none⟩) q ss u) => fw_join2 HD.out hk2l hil HK2.out hu hsm)
                clear hsm
                go_wp2_with fail
                refine (HJ.out _ HS.out).mono ?_
                rintro e v2 ⟨rfl, hs⟩
                clear c0 c1 c2 HS
                have HS := Lib.hid hs; clear hs
                have c0 := HS.out.c0; have c1 := HS.out.c1; have c2 := HS.out.c2
                go_wp2_with fail
                refine (fw_zero HD.out HL.out HS.out).mono ?_
                rintro e v4 ⟨rfl, hs⟩
                clear c0 c1 c2 HS
                have HS := Lib.hid hs; clear hs
                have c0 := HS.out.c0; have c1 := HS.out.c1; have c2 := HS.out.c2
                go_wp2_with fail
                refine (fw_over HD.out HL.out HS.out HNX.out).mono ?_
                rintro e v5 ⟨rfl, hs⟩
                clear c0 c1 c2 HS
                have HS := Lib.hid hs; clear hs
                have c0 := HS.out.c0; have c1 := HS.out.c1; have c2 := HS.out.c2
                go_wp2
                go_ret
                exact ⟨rfl, HS.out.be⟩
            · replace hsm : sameV (sel ss k) (sel ss k2) i = false := by rw [hsm, decide_eq_false (show ¬ cf = cf2 from fun h => hcc h.symm)]; simp
              have hc5 : ((cf2 : Int) == (cf : Int)) = false := beq_eq_false_iff_ne.2 (by omega)
              have HJ := Lib.hid (fun (u : World) (hu : St w b d f (some ⟨bb, oo, none⟩) q ss u) => fw_join2 HD.out hk2l hil HK2.out hu hsm)
              clear hsm
              go_wp2_with fail
              refine (HJ.out _ HS.out).mono ?_
              rintro e v2 ⟨rfl, hs⟩
              clear c0 c1 c2 HS
              have HS := Lib.hid hs; clear hs
              have c0 := HS.out.c0; have c1 := HS.out.c1; have c2 := HS.out.c2
              go_wp2_with fail
              refine (fw_zero HD.out HL.out HS.out).mono ?_
              rintro e v4 ⟨rfl, hs⟩
              clear c0 c1 c2 HS
              have HS := Lib.hid hs; clear hs
              have c0 := HS.out.c0; have c1 := HS.out.c1; have c2 := HS.out.c2
              go_wp2_with fail
              refine (fw_over HD.out HL.out HS.out HNX.out).mono ?_
              rintro e v5 ⟨rfl, hs⟩
              clear c0 c1 c2 HS
              have HS := Lib.hid hs; clear hs
              have c0 := HS.out.c0; have c1 := HS.out.c1; have c2 := HS.out.c2
              go_wp2
              go_ret
              exact ⟨rfl, HS.out.be⟩
          · have j1 : IntKind.i64.wrap ((k : Int) + 1) = (k : Int) + 1 := IntWalk.i64_in _ (by omega)
            have j2 : decide ((k : Int) + 1 < (ss.length : Int)) = false := decide_eq_false (by omega)
            have j2n : decide (k + 1 < ss.length) = false := decide_eq_false hk1
            go_wp2_with fail
            refine (fw_zero HD.out HL.out HS.out).mono ?_
            rintro e v4 ⟨rfl, hs⟩
            clear c0 c1 c2 HS
            have HS := Lib.hid hs; clear hs
            have c0 := HS.out.c0; have c1 := HS.out.c1; have c2 := HS.out.c2
            go_wp2_with fail
            refine (fw_over HD.out HL.out HS.out HNX.out).mono ?_
            rintro e v5 ⟨rfl, hs⟩
            clear c0 c1 c2 HS
            have HS := Lib.hid hs; clear hs
            have c0 := HS.out.c0; have c1 := HS.out.c1; have c2 := HS.out.c2
            go_wp2
            go_ret
            exact ⟨rfl, HS.out.be⟩
        · have hb : ((s[i'].toNat : Int) == (s[i].toNat : Int)) = false := by rw [byt_get s i' q3n, byt_get s i q4n] at hbe; rw [int_beq]; exact decide_eq_false (fun h => hbe (UInt8.toNat_inj.1 h))
          clear hbe hi'
          refine wp_hand (S := fun w' => w'.cell? ⟨b, 0, none⟩ = some (.int .i64 (d : Int)) ∧ w'.cell? ⟨b, 1, none⟩ = some (.int .i64 (f : Int)) ∧ w'.cell? ⟨b, 2, none⟩ = some (.slice (some ⟨bb, oo, none⟩) ss.length q) ∧ w'.cell? ⟨bb, oo + k, none⟩ = some (.string s) ∧ St w b d f (some ⟨bb, oo, none⟩) q ss w') (by kernel_rfl) ⟨c0, c1, c2, g0, HS.out.drew⟩ (fun _ _ d _ _ h => by cases d <;> exact h) (fun hBl hHeld => ?_)
          refine take2 (i := 0) (v := ?_) (d := some 111) hBl rfl rfl (by kernel_rfl) (by kernel_rfl) (by kernel_rfl) (by kernel_rfl) ?_ hHeld ?_
          rotate_left
          · (intro w hSw; (try dsimp only at hSw); go_simp <;> with_reducible rfl)
          try simp only [Act.put, List.setIfInBounds_toArray, List.set_cons_zero, List.set_cons_succ]
          refine take2 (i := 1) (v := ?_) (d := some 112) hBl rfl rfl (by kernel_rfl) (by kernel_rfl) (by kernel_rfl) (by kernel_rfl) ?_ hHeld ?_
          rotate_left
          · (intro w hSw; (try dsimp only at hSw); go_simp <;> with_reducible rfl)
          try simp only [Act.put, List.setIfInBounds_toArray, List.set_cons_zero, List.set_cons_succ]
          refine take2 (i := 2) (v := ?_) (d := some 113) hBl rfl rfl (by kernel_rfl) (by kernel_rfl) (by kernel_rfl) (by kernel_rfl) ?_ hHeld ?_
          rotate_left
          · (intro w hSw; (try dsimp only at hSw); go_simp <;> with_reducible rfl)
          try simp only [Act.put, List.setIfInBounds_toArray, List.set_cons_zero, List.set_cons_succ]
          refine take2 (i := 3) (v := ?_) (d := some 114) hBl rfl rfl (by kernel_rfl) (by kernel_rfl) (by kernel_rfl) (by kernel_rfl) ?_ hHeld ?_
          rotate_left
          · (intro w hSw; (try dsimp only at hSw); go_simp <;> with_reducible rfl)
          try simp only [Act.put, List.setIfInBounds_toArray, List.set_cons_zero, List.set_cons_succ]
          refine take2 (i := 4) (v := ?_) (d := some 115) hBl rfl rfl (by kernel_rfl) (by kernel_rfl) (by kernel_rfl) (by kernel_rfl) ?_ hHeld ?_
          rotate_left
          · (intro w hSw; (try dsimp only at hSw); go_simp <;> with_reducible rfl)
          try simp only [Act.put, List.setIfInBounds_toArray, List.set_cons_zero, List.set_cons_succ]
          refine take2 (i := 5) (v := ?_) (d := some 116) hBl rfl rfl (by kernel_rfl) (by kernel_rfl) (by kernel_rfl) (by kernel_rfl) ?_ hHeld ?_
          rotate_left
          · (intro w hSw; (try dsimp only at hSw); go_simp <;> with_reducible rfl)
          try simp only [Act.put, List.setIfInBounds_toArray, List.set_cons_zero, List.set_cons_succ]
          refine take2 (i := 6) (v := ?_) (d := some 117) hBl rfl rfl (by kernel_rfl) (by kernel_rfl) (by kernel_rfl) (by kernel_rfl) ?_ hHeld ?_
          rotate_left
          · (intro w hSw; (try dsimp only at hSw); go_simp <;> with_reducible rfl)
          try simp only [Act.put, List.setIfInBounds_toArray, List.set_cons_zero, List.set_cons_succ]
          refine take2 (i := 7) (v := ?_) (d := some 118) hBl rfl rfl (by kernel_rfl) (by kernel_rfl) (by kernel_rfl) (by kernel_rfl) ?_ hHeld ?_
          rotate_left
          · (intro w hSw; (try dsimp only at hSw); go_simp <;> with_reducible rfl)
          try simp only [Act.put, List.setIfInBounds_toArray, List.set_cons_zero, List.set_cons_succ]
          refine take2 (i := 8) (v := ?_) (d := some 119) hBl rfl rfl (by kernel_rfl) (by kernel_rfl) (by kernel_rfl) (by kernel_rfl) ?_ hHeld ?_
          rotate_left
          · (intro w hSw; (try dsimp only at hSw); go_simp <;> with_reducible rfl)
          try simp only [Act.put, List.setIfInBounds_toArray, List.set_cons_zero, List.set_cons_succ]
          refine take2 (i := 9) (v := ?_) (d := some 120) hBl rfl rfl (by kernel_rfl) (by kernel_rfl) (by kernel_rfl) (by kernel_rfl) ?_ hHeld ?_
          rotate_left
          · (intro w hSw; (try dsimp only at hSw); go_simp <;> with_reducible rfl)
          try simp only [Act.put, List.setIfInBounds_toArray, List.set_cons_zero, List.set_cons_succ]
          refine take2 (i := 10) (v := ?_) (d := some 121) hBl rfl rfl (by kernel_rfl) (by kernel_rfl) (by kernel_rfl) (by kernel_rfl) ?_ hHeld ?_
          rotate_left
          · (intro w hSw; (try dsimp only at hSw); go_simp <;> with_reducible rfl)
          try simp only [Act.put, List.setIfInBounds_toArray, List.set_cons_zero, List.set_cons_succ]
          refine take2 (i := 11) (v := ?_) (d := some 122) hBl rfl rfl (by kernel_rfl) (by kernel_rfl) (by kernel_rfl) (by kernel_rfl) ?_ hHeld ?_
          rotate_left
          · (intro w hSw; (try dsimp only at hSw); go_simp <;> with_reducible rfl)
          try simp only [Act.put, List.setIfInBounds_toArray, List.set_cons_zero, List.set_cons_succ]
          refine take2 (i := 12) (v := ?_) (d := some 123) hBl rfl rfl (by kernel_rfl) (by kernel_rfl) (by kernel_rfl) (by kernel_rfl) ?_ hHeld ?_
          rotate_left
          · (intro w hSw; (try dsimp only at hSw); go_simp <;> with_reducible rfl)
          try simp only [Act.put, List.setIfInBounds_toArray, List.set_cons_zero, List.set_cons_succ]
          refine take2 (i := 13) (v := ?_) (d := some 124) hBl rfl rfl (by kernel_rfl) (by kernel_rfl) (by kernel_rfl) (by kernel_rfl) ?_ hHeld ?_
          rotate_left
          · (intro w hSw; (try dsimp only at hSw); go_simp <;> with_reducible rfl)
          try simp only [Act.put, List.setIfInBounds_toArray, List.set_cons_zero, List.set_cons_succ]
          refine take2 (i := 14) (v := ?_) (d := some 125) hBl rfl rfl (by kernel_rfl) (by kernel_rfl) (by kernel_rfl) (by kernel_rfl) ?_ hHeld ?_
          rotate_left
          · (intro w hSw; (try dsimp only at hSw); go_simp <;> with_reducible rfl)
          try simp only [Act.put, List.setIfInBounds_toArray, List.set_cons_zero, List.set_cons_succ]
          refine take2 (i := 15) (v := ?_) (d := some 126) hBl rfl rfl (by kernel_rfl) (by kernel_rfl) (by kernel_rfl) (by kernel_rfl) ?_ hHeld ?_
          rotate_left
          · (intro w hSw; (try dsimp only at hSw); go_simp <;> with_reducible rfl)
          try simp only [Act.put, List.setIfInBounds_toArray, List.set_cons_zero, List.set_cons_succ]
          refine take2 (i := 16) (v := ?_) (d := some 127) hBl rfl rfl (by kernel_rfl) (by kernel_rfl) (by kernel_rfl) (by kernel_rfl) ?_ hHeld ?_
          rotate_left
          · (intro w hSw; (try dsimp only at hSw); go_simp <;> with_reducible rfl)
          try simp only [Act.put, List.setIfInBounds_toArray, List.set_cons_zero, List.set_cons_succ]
          refine take2 (i := 17) (v := ?_) (d := some 128) hBl rfl rfl (by kernel_rfl) (by kernel_rfl) (by kernel_rfl) (by kernel_rfl) ?_ hHeld ?_
          rotate_left
          · (intro w hSw; (try dsimp only at hSw); go_simp <;> with_reducible rfl)
          try simp only [Act.put, List.setIfInBounds_toArray, List.set_cons_zero, List.set_cons_succ]
          refine take2 (i := 18) (v := ?_) (d := some 129) hBl rfl rfl (by kernel_rfl) (by kernel_rfl) (by kernel_rfl) (by kernel_rfl) ?_ hHeld ?_
          rotate_left
          · (intro w hSw; (try dsimp only at hSw); go_simp <;> with_reducible rfl)
          try simp only [Act.put, List.setIfInBounds_toArray, List.set_cons_zero, List.set_cons_succ]
          refine take2 (i := 19) (v := ?_) (d := some 130) hBl rfl rfl (by kernel_rfl) (by kernel_rfl) (by kernel_rfl) (by kernel_rfl) ?_ hHeld ?_
          rotate_left
          · (intro w hSw; (try dsimp only at hSw); go_simp <;> with_reducible rfl)
          try simp only [Act.put, List.setIfInBounds_toArray, List.set_cons_zero, List.set_cons_succ]
          refine take2 (i := 20) (v := ?_) (d := some 131) hBl rfl rfl (by kernel_rfl) (by kernel_rfl) (by kernel_rfl) (by kernel_rfl) ?_ hHeld ?_
          rotate_left
          · (intro w hSw; (try dsimp only at hSw); go_simp <;> with_reducible rfl)
          try simp only [Act.put, List.setIfInBounds_toArray, List.set_cons_zero, List.set_cons_succ]
          refine skip_all (fuel := 1) hBl hHeld [21, 22, 23, 24, 25, 26, 27] (by kernel_rfl) (by kernel_rfl) (by kernel_rfl) (by kernel_rfl) ?_
          refine take2 (i := 28) (v := ?_) (d := some 139) hBl rfl rfl (by kernel_rfl) (by kernel_rfl) (by kernel_rfl) (by kernel_rfl) ?_ hHeld ?_
          rotate_left
          · (intro w hSw; (try dsimp only at hSw); go_simp <;> with_reducible rfl)
          try simp only [Act.put, List.setIfInBounds_toArray, List.set_cons_zero, List.set_cons_succ]
          refine wpAnyH_done (by kernel_rfl) ?_ _
          have hs := HS.out.drew; clear c0 c1 c2 g0 HS
          generalize World.drew _ = u8 at hs ⊢
          have HS := Lib.hid hs; clear hs
          have c0 := HS.out.c0; have c1 := HS.out.c1; have c2 := HS.out.c2
          by_cases hk1 : k + 1 < ss.length
          · obtain ⟨k2, hk2⟩ : ∃ k2, k2 = k + 1 := ⟨_, rfl⟩
            have j1 : IntKind.i64.wrap ((k : Int) + 1) = (k2 : Int) := by rw [show (k : Int) + 1 = (k2 : Int) from by omega]; exact IntWalk.i64_in _ (by omega)
            have j2 : (k2 : Int) < (ss.length : Int) := by omega
            have hk2l : k2 < ss.length := by omega
            obtain ⟨s2, hs2⟩ : ∃ s2, sel ss k2 = s2 := ⟨_, rfl⟩
            have hsz2 : s2.size = N := by rw [← hs2]; exact HD.out.sz hk2l
            have hstr2 : strip s2.data.toList = true := by rw [← hs2]; exact (okC_sel HD.out.ok hk2l).1
            have hct2 := strip_take hstr2 i (by omega)
            obtain ⟨cf2, hcf2⟩ : ∃ c, cF (s2.data.toList.take i) = c := ⟨_, rfl⟩
            obtain ⟨cd2, hcd2⟩ : ∃ c, cD (s2.data.toList.take i) = c := ⟨_, rfl⟩
            obtain ⟨xt2, hxt2⟩ : ∃ c, s2.extract i (i + 1) = c := ⟨_, rfl⟩
            rw [hcf2, hcd2] at hct2
            have HTP2 := Lib.hid (fun (u : World) (hu : St w b d f (some ⟨bb, oo, none⟩) q ss u) => fw_place2 HD.out hk2l hil (cf := cf2) (cd := cd2) (x := xt2) (by rw [hs2]; exact hcf2) (by rw [hs2]; exact hcd2) (by rw [hs2]; exact hxt2) hu)
            have hxe : xt = xt2 ↔ byt s i = byt s2 i := by rw [← HXT.out, ← hxt2]; exact ext_eq (by omega) (by omega)
            have hsm : sameV (sel ss k) (sel ss k2) i = (decide (xt = xt2) && decide (cf = cf2)) := by
              rw [HSEL.out, hs2, ← hcf2, ← HCF.out]; unfold sameV
              congr 1; exact decide_eq_decide.2 hxe.symm
            have HK2 := Lib.hid hk2
            clear hcf2 hcd2 hxt2 hs2 hstr2 hxe hk1 hk2
            go_wp2_with fail
            refine (HTP2.out _ HS.out).mono ?_
            rintro e v1 ⟨rfl, hs⟩
            clear c0 c1 c2 HS
            have HS := Lib.hid hs; clear hs
            have c0 := HS.out.c0; have c1 := HS.out.c1; have c2 := HS.out.c2
            by_cases hcc : cf2 = cf
            · have hcd3 : cd2 = cd := by omega
              by_cases hxx : xt2 = xt
              · have HN2 := Lib.hid (fun (u : World) (hu : St w b d f (some ⟨bb, oo, none⟩) q ss u) => fw_next HD.out HL.out hk2l hil HK2.out hu (by rw [hsm, hxx, hcc]; simp))
                rw [HV.out] at HN2
                replace hsm : sameV (sel ss k) (sel ss k2) i = true := by rw [hsm, hxx, hcc]; simp
                subst hcc; subst hcd3; subst hxx
                have HJ := Lib.hid (fun (u : World) (hu : St w b d f (some ⟨bb, oo, none⟩) q ss u) => fw_join2 HD.out hk2l hil HK2.out hu hsm)
                clear hsm
                go_wp2_with fail
                refine (HJ.out _ HS.out).mono ?_
                rintro e v2 ⟨rfl, hs⟩
                clear c0 c1 c2 HS
                have HS := Lib.hid hs; clear hs
                have c0 := HS.out.c0; have c1 := HS.out.c1; have c2 := HS.out.c2
                go_wp2_with fail
                refine (HN2.out _ HS.out).mono ?_
                rintro e v3 ⟨rfl, hs⟩
                clear c0 c1 c2 HS
                have HS := Lib.hid hs; clear hs
                have c0 := HS.out.c0; have c1 := HS.out.c1; have c2 := HS.out.c2
                go_wp2_with fail
                refine (fw_zero HD.out HL.out HS.out).mono ?_
                rintro e v4 ⟨rfl, hs⟩
                clear c0 c1 c2 HS
                have HS := Lib.hid hs; clear hs
                have c0 := HS.out.c0; have c1 := HS.out.c1; have c2 := HS.out.c2
                go_wp2_with fail
                refine (fw_over HD.out HL.out HS.out HNX.out).mono ?_
                rintro e v5 ⟨rfl, hs⟩
                clear c0 c1 c2 HS
                have HS := Lib.hid hs; clear hs
                have c0 := HS.out.c0; have c1 := HS.out.c1; have c2 := HS.out.c2
                go_wp2
                go_ret
                exact ⟨rfl, HS.out.be⟩
              · replace hsm : sameV (sel ss k) (sel ss k2) i = false := by rw [hsm, decide_eq_false (fun h => hxx h.symm)]; rfl
                have hx6 : (xt2.toList == xt.toList) = false := beq_eq_false_iff_ne.2 (fun h => hxx (by rw [Go.ByteArray.toList_eq, Go.ByteArray.toList_eq] at h; exact ByteArray.ext (Array.toList_inj.1 h)))
                have hx7 : decide (xt2 = xt) = false := decide_eq_false hxx
                subst hcc; subst hcd3
                have HJ := Lib.hid (fun (u : World) (hu : St w b d f (some ⟨bb, oo, none⟩) q ss u) => fw_join2 HD.out hk2l hil HK2.out hu hsm)
                clear hsm
                go_wp2_with fail
                refine (HJ.out _ HS.out).mono ?_
                rintro e v2 ⟨rfl, hs⟩
                clear c0 c1 c2 HS
                have HS := Lib.hid hs; clear hs
                have c0 := HS.out.c0; have c1 := HS.out.c1; have c2 := HS.out.c2
                go_wp2_with fail
                refine (fw_zero HD.out HL.out HS.out).mono ?_
                rintro e v4 ⟨rfl, hs⟩
                clear c0 c1 c2 HS
                have HS := Lib.hid hs; clear hs
                have c0 := HS.out.c0; have c1 := HS.out.c1; have c2 := HS.out.c2
                go_wp2_with fail
                refine (fw_over HD.out HL.out HS.out HNX.out).mono ?_
                rintro e v5 ⟨rfl, hs⟩
                clear c0 c1 c2 HS
                have HS := Lib.hid hs; clear hs
                have c0 := HS.out.c0; have c1 := HS.out.c1; have c2 := HS.out.c2
                go_wp2
                go_ret
                exact ⟨rfl, HS.out.be⟩
            · replace hsm : sameV (sel ss k) (sel ss k2) i = false := by rw [hsm, decide_eq_false (show ¬ cf = cf2 from fun h => hcc h.symm)]; simp
              have hc5 : ((cf2 : Int) == (cf : Int)) = false := beq_eq_false_iff_ne.2 (by omega)
              have HJ := Lib.hid (fun (u : World) (hu : St w b d f (some ⟨bb, oo, none⟩) q ss u) => fw_join2 HD.out hk2l hil HK2.out hu hsm)
              clear hsm
              go_wp2_with fail
              refine (HJ.out _ HS.out).mono ?_
              rintro e v2 ⟨rfl, hs⟩
              clear c0 c1 c2 HS
              have HS := Lib.hid hs; clear hs
              have c0 := HS.out.c0; have c1 := HS.out.c1; have c2 := HS.out.c2
              go_wp2_with fail
              refine (fw_zero HD.out HL.out HS.out).mono ?_
              rintro e v4 ⟨rfl, hs⟩
              clear c0 c1 c2 HS
              have HS := Lib.hid hs; clear hs
              have c0 := HS.out.c0; have c1 := HS.out.c1; have c2 := HS.out.c2
              go_wp2_with fail
              refine (fw_over HD.out HL.out HS.out HNX.out).mono ?_
              rintro e v5 ⟨rfl, hs⟩
              clear c0 c1 c2 HS
              have HS := Lib.hid hs; clear hs
              have c0 := HS.out.c0; have c1 := HS.out.c1; have c2 := HS.out.c2
              go_wp2
              go_ret
              exact ⟨rfl, HS.out.be⟩
          · have j1 : IntKind.i64.wrap ((k : Int) + 1) = (k : Int) + 1 := IntWalk.i64_in _ (by omega)
            have j2 : decide ((k : Int) + 1 < (ss.length : Int)) = false := decide_eq_false (by omega)
            have j2n : decide (k + 1 < ss.length) = false := decide_eq_false hk1
            go_wp2_with fail
            refine (fw_zero HD.out HL.out HS.out).mono ?_
            rintro e v4 ⟨rfl, hs⟩
            clear c0 c1 c2 HS
            have HS := Lib.hid hs; clear hs
            have c0 := HS.out.c0; have c1 := HS.out.c1; have c2 := HS.out.c2
            go_wp2_with fail
            refine (fw_over HD.out HL.out HS.out HNX.out).mono ?_
            rintro e v5 ⟨rfl, hs⟩
            clear c0 c1 c2 HS
            have HS := Lib.hid hs; clear hs
            have c0 := HS.out.c0; have c1 := HS.out.c1; have c2 := HS.out.c2
            go_wp2
            go_ret
            exact ⟨rfl, HS.out.be⟩
      · have q1 : decide ((0 : Int) < (i : Int)) = false := decide_eq_false (by omega)
        have q1n : decide (0 < i) = false := decide_eq_false hi0
        refine wp_hand (S := fun w' => w'.cell? ⟨b, 0, none⟩ = some (.int .i64 (d : Int)) ∧ w'.cell? ⟨b, 1, none⟩ = some (.int .i64 (f : Int)) ∧ w'.cell? ⟨b, 2, none⟩ = some (.slice (some ⟨bb, oo, none⟩) ss.length q) ∧ w'.cell? ⟨bb, oo + k, none⟩ = some (.string s) ∧ St w b d f (some ⟨bb, oo, none⟩) q ss w') (by kernel_rfl) ⟨c0, c1, c2, g0, HS.out.drew⟩ (fun _ _ d _ _ h => by cases d <;> exact h) (fun hBl hHeld => ?_)
        refine take2 (i := 0) (v := ?_) (d := some 111) hBl rfl rfl (by kernel_rfl) (by kernel_rfl) (by kernel_rfl) (by kernel_rfl) ?_ hHeld ?_
        rotate_left
        · (intro w hSw; (try dsimp only at hSw); go_simp <;> with_reducible rfl)
        try simp only [Act.put, List.setIfInBounds_toArray, List.set_cons_zero, List.set_cons_succ]
        refine take2 (i := 1) (v := ?_) (d := some 112) hBl rfl rfl (by kernel_rfl) (by kernel_rfl) (by kernel_rfl) (by kernel_rfl) ?_ hHeld ?_
        rotate_left
        · (intro w hSw; (try dsimp only at hSw); go_simp <;> with_reducible rfl)
        try simp only [Act.put, List.setIfInBounds_toArray, List.set_cons_zero, List.set_cons_succ]
        refine take2 (i := 2) (v := ?_) (d := some 113) hBl rfl rfl (by kernel_rfl) (by kernel_rfl) (by kernel_rfl) (by kernel_rfl) ?_ hHeld ?_
        rotate_left
        · (intro w hSw; (try dsimp only at hSw); go_simp <;> with_reducible rfl)
        try simp only [Act.put, List.setIfInBounds_toArray, List.set_cons_zero, List.set_cons_succ]
        refine skip_all (fuel := 10) hBl hHeld [3, 4, 5, 6, 7, 8, 9, 10, 11, 12, 13, 14, 15, 16, 17, 18] (by kernel_rfl) (by kernel_rfl) (by kernel_rfl) (by kernel_rfl) ?_
        refine take2 (i := 19) (v := ?_) (d := some 130) hBl rfl rfl (by kernel_rfl) (by kernel_rfl) (by kernel_rfl) (by kernel_rfl) ?_ hHeld ?_
        rotate_left
        · (intro w hSw; (try dsimp only at hSw); go_simp <;> with_reducible rfl)
        try simp only [Act.put, List.setIfInBounds_toArray, List.set_cons_zero, List.set_cons_succ]
        refine take2 (i := 20) (v := ?_) (d := some 131) hBl rfl rfl (by kernel_rfl) (by kernel_rfl) (by kernel_rfl) (by kernel_rfl) ?_ hHeld ?_
        rotate_left
        · (intro w hSw; (try dsimp only at hSw); go_simp <;> with_reducible rfl)
        try simp only [Act.put, List.setIfInBounds_toArray, List.set_cons_zero, List.set_cons_succ]
        refine skip_all (fuel := 1) hBl hHeld [21, 22, 23, 24, 25, 26, 27] (by kernel_rfl) (by kernel_rfl) (by kernel_rfl) (by kernel_rfl) ?_
        refine take2 (i := 28) (v := ?_) (d := some 139) hBl rfl rfl (by kernel_rfl) (by kernel_rfl) (by kernel_rfl) (by kernel_rfl) ?_ hHeld ?_
        rotate_left
        · (intro w hSw; (try dsimp only at hSw); go_simp <;> with_reducible rfl)
        try simp only [Act.put, List.setIfInBounds_toArray, List.set_cons_zero, List.set_cons_succ]
        refine wpAnyH_done (by kernel_rfl) ?_ _
        have hs := HS.out.drew; clear c0 c1 c2 g0 HS q1 q1n
        generalize World.drew _ = u8 at hs ⊢
        have HS := Lib.hid hs; clear hs
        have c0 := HS.out.c0; have c1 := HS.out.c1; have c2 := HS.out.c2
        by_cases hk1 : k + 1 < ss.length
        · obtain ⟨k2, hk2⟩ : ∃ k2, k2 = k + 1 := ⟨_, rfl⟩
          have j1 : IntKind.i64.wrap ((k : Int) + 1) = (k2 : Int) := by rw [show (k : Int) + 1 = (k2 : Int) from by omega]; exact IntWalk.i64_in _ (by omega)
          have j2 : (k2 : Int) < (ss.length : Int) := by omega
          have hk2l : k2 < ss.length := by omega
          obtain ⟨s2, hs2⟩ : ∃ s2, sel ss k2 = s2 := ⟨_, rfl⟩
          have hsz2 : s2.size = N := by rw [← hs2]; exact HD.out.sz hk2l
          have hstr2 : strip s2.data.toList = true := by rw [← hs2]; exact (okC_sel HD.out.ok hk2l).1
          have hct2 := strip_take hstr2 i (by omega)
          obtain ⟨cf2, hcf2⟩ : ∃ c, cF (s2.data.toList.take i) = c := ⟨_, rfl⟩
          obtain ⟨cd2, hcd2⟩ : ∃ c, cD (s2.data.toList.take i) = c := ⟨_, rfl⟩
          obtain ⟨xt2, hxt2⟩ : ∃ c, s2.extract i (i + 1) = c := ⟨_, rfl⟩
          rw [hcf2, hcd2] at hct2
          have HTP2 := Lib.hid (fun (u : World) (hu : St w b d f (some ⟨bb, oo, none⟩) q ss u) => fw_place2 HD.out hk2l hil (cf := cf2) (cd := cd2) (x := xt2) (by rw [hs2]; exact hcf2) (by rw [hs2]; exact hcd2) (by rw [hs2]; exact hxt2) hu)
          have hxe : xt = xt2 ↔ byt s i = byt s2 i := by rw [← HXT.out, ← hxt2]; exact ext_eq (by omega) (by omega)
          have hsm : sameV (sel ss k) (sel ss k2) i = (decide (xt = xt2) && decide (cf = cf2)) := by
            rw [HSEL.out, hs2, ← hcf2, ← HCF.out]; unfold sameV
            congr 1; exact decide_eq_decide.2 hxe.symm
          have HK2 := Lib.hid hk2
          clear hcf2 hcd2 hxt2 hs2 hstr2 hxe hk1 hk2
          go_wp2_with fail
          refine (HTP2.out _ HS.out).mono ?_
          rintro e v1 ⟨rfl, hs⟩
          clear c0 c1 c2 HS
          have HS := Lib.hid hs; clear hs
          have c0 := HS.out.c0; have c1 := HS.out.c1; have c2 := HS.out.c2
          by_cases hcc : cf2 = cf
          · have hcd3 : cd2 = cd := by omega
            by_cases hxx : xt2 = xt
            · have HN2 := Lib.hid (fun (u : World) (hu : St w b d f (some ⟨bb, oo, none⟩) q ss u) => fw_next HD.out HL.out hk2l hil HK2.out hu (by rw [hsm, hxx, hcc]; simp))
              rw [HV.out] at HN2
              replace hsm : sameV (sel ss k) (sel ss k2) i = true := by rw [hsm, hxx, hcc]; simp
              subst hcc; subst hcd3; subst hxx
              have HJ := Lib.hid (fun (u : World) (hu : St w b d f (some ⟨bb, oo, none⟩) q ss u) => fw_join2 HD.out hk2l hil HK2.out hu hsm)
              clear hsm
              go_wp2_with fail
              refine (HJ.out _ HS.out).mono ?_
              rintro e v2 ⟨rfl, hs⟩
              clear c0 c1 c2 HS
              have HS := Lib.hid hs; clear hs
              have c0 := HS.out.c0; have c1 := HS.out.c1; have c2 := HS.out.c2
              go_wp2_with fail
              refine (HN2.out _ HS.out).mono ?_
              rintro e v3 ⟨rfl, hs⟩
              clear c0 c1 c2 HS
              have HS := Lib.hid hs; clear hs
              have c0 := HS.out.c0; have c1 := HS.out.c1; have c2 := HS.out.c2
              go_wp2_with fail
              refine (fw_zero HD.out HL.out HS.out).mono ?_
              rintro e v4 ⟨rfl, hs⟩
              clear c0 c1 c2 HS
              have HS := Lib.hid hs; clear hs
              have c0 := HS.out.c0; have c1 := HS.out.c1; have c2 := HS.out.c2
              go_wp2_with fail
              refine (fw_over HD.out HL.out HS.out HNX.out).mono ?_
              rintro e v5 ⟨rfl, hs⟩
              clear c0 c1 c2 HS
              have HS := Lib.hid hs; clear hs
              have c0 := HS.out.c0; have c1 := HS.out.c1; have c2 := HS.out.c2
              go_wp2
              go_ret
              exact ⟨rfl, HS.out.be⟩
            · replace hsm : sameV (sel ss k) (sel ss k2) i = false := by rw [hsm, decide_eq_false (fun h => hxx h.symm)]; rfl
              have hx6 : (xt2.toList == xt.toList) = false := beq_eq_false_iff_ne.2 (fun h => hxx (by rw [Go.ByteArray.toList_eq, Go.ByteArray.toList_eq] at h; exact ByteArray.ext (Array.toList_inj.1 h)))
              have hx7 : decide (xt2 = xt) = false := decide_eq_false hxx
              subst hcc; subst hcd3
              have HJ := Lib.hid (fun (u : World) (hu : St w b d f (some ⟨bb, oo, none⟩) q ss u) => fw_join2 HD.out hk2l hil HK2.out hu hsm)
              clear hsm
              go_wp2_with fail
              refine (HJ.out _ HS.out).mono ?_
              rintro e v2 ⟨rfl, hs⟩
              clear c0 c1 c2 HS
              have HS := Lib.hid hs; clear hs
              have c0 := HS.out.c0; have c1 := HS.out.c1; have c2 := HS.out.c2
              go_wp2_with fail
              refine (fw_zero HD.out HL.out HS.out).mono ?_
              rintro e v4 ⟨rfl, hs⟩
              clear c0 c1 c2 HS
              have HS := Lib.hid hs; clear hs
              have c0 := HS.out.c0; have c1 := HS.out.c1; have c2 := HS.out.c2
              go_wp2_with fail
              refine (fw_over HD.out HL.out HS.out HNX.out).mono ?_
              rintro e v5 ⟨rfl, hs⟩
              clear c0 c1 c2 HS
              have HS := Lib.hid hs; clear hs
              have c0 := HS.out.c0; have c1 := HS.out.c1; have c2 := HS.out.c2
              go_wp2
              go_ret
              exact ⟨rfl, HS.out.be⟩
          · replace hsm : sameV (sel ss k) (sel ss k2) i = false := by rw [hsm, decide_eq_false (show ¬ cf = cf2 from fun h => hcc h.symm)]; simp
            have hc5 : ((cf2 : Int) == (cf : Int)) = false := beq_eq_false_iff_ne.2 (by omega)
            have HJ := Lib.hid (fun (u : World) (hu : St w b d f (some ⟨bb, oo, none⟩) q ss u) => fw_join2 HD.out hk2l hil HK2.out hu hsm)
            clear hsm
            go_wp2_with fail
            refine (HJ.out _ HS.out).mono ?_
            rintro e v2 ⟨rfl, hs⟩
            clear c0 c1 c2 HS
            have HS := Lib.hid hs; clear hs
            have c0 := HS.out.c0; have c1 := HS.out.c1; have c2 := HS.out.c2
            go_wp2_with fail
            refine (fw_zero HD.out HL.out HS.out).mono ?_
            rintro e v4 ⟨rfl, hs⟩
            clear c0 c1 c2 HS
            have HS := Lib.hid hs; clear hs
            have c0 := HS.out.c0; have c1 := HS.out.c1; have c2 := HS.out.c2
            go_wp2_with fail
            refine (fw_over HD.out HL.out HS.out HNX.out).mono ?_
            rintro e v5 ⟨rfl, hs⟩
            clear c0 c1 c2 HS
            have HS := Lib.hid hs; clear hs
            have c0 := HS.out.c0; have c1 := HS.out.c1; have c2 := HS.out.c2
            go_wp2
            go_ret
            exact ⟨rfl, HS.out.be⟩
        · have j1 : IntKind.i64.wrap ((k : Int) + 1) = (k : Int) + 1 := IntWalk.i64_in _ (by omega)
          have j2 : decide ((k : Int) + 1 < (ss.length : Int)) = false := decide_eq_false (by omega)
          have j2n : decide (k + 1 < ss.length) = false := decide_eq_false hk1
          go_wp2_with fail
          refine (fw_zero HD.out HL.out HS.out).mono ?_
          rintro e v4 ⟨rfl, hs⟩
          clear c0 c1 c2 HS
          have HS := Lib.hid hs; clear hs
          have c0 := HS.out.c0; have c1 := HS.out.c1; have c2 := HS.out.c2
          go_wp2_with fail
          refine (fw_over HD.out HL.out HS.out HNX.out).mono ?_
          rintro e v5 ⟨rfl, hs⟩
          clear c0 c1 c2 HS
          have HS := Lib.hid hs; clear hs
          have c0 := HS.out.c0; have c1 := HS.out.c1; have c2 := HS.out.c2
          go_wp2
          go_ret
          exact ⟨rfl, HS.out.be⟩

set_option maxRecDepth 100000 in
theorem lifted (os : Os) (started : os.Started) (H : Type) (enc : TypeId × Value → H) :
    ReturnsInHanded {} Try.checked os 11 .any (Rows.fnFacesSpec.pre6 enc Try.prog Try.f11 Rows.fnFacesRow.domain false) (Rows.fnFacesSpec.post enc Try.prog Try.f11 false true false false) := by
  refine returnsInHanded_of_change (C := Try.checked) own started (by kernel_rfl) Try.func11
    (ChangeSpec.witness6 (enc := enc) (C := Try.checked) false ⟨#[], #[.slice none 0 0], []⟩ 8 (by kernel_rfl) (by kernel_rfl) (by kernel_rfl) (by kernel_rfl)) ?_
  intro W base args ds gs before hval0 hW hcnd _
  have hval : ∀ (j : Nat) t v, Try.f11.params[j]? = some t → args[j]? = some v → Value.okWide Try.prog W .any base t v := hval0
  have hW' := hW
  obtain ⟨p, q, hA0, hV, rfl, hfz, hnd⟩ := hW
  have hA : DataW.TrodAll enc Try.prog W 0 (fun _ => true) true Try.f11.params.toList args.toList ds p := hA0
  rw [Try.params11] at hA hval
  obtain ⟨v0, vs0, d0, ds0, p0, q0, hargs, rfl, rfl, h0, r0⟩ := trodAll_cons hA
  obtain ⟨rfl, rfl, rfl⟩ := trodAll_nil r0
  obtain rfl : args = #[v0] := by cases args; simp_all
  obtain ⟨rfl, rfl⟩ := trodVars_none hV
  have k0 := h0
  have lt0 : ∀ x ∈ p0, x.block < W.heap.size := by obtain ⟨m, hm⟩ := k0; exact DataW.trod_lt m _ _ _ hm
  obtain ⟨ba0, bn0, bc0, rfl, bm0, br0⟩ := codeIn (hval 0 45 v0 rfl rfl) h0
  clear hA0 hval0
  refine (walk ba0 bn0 bc0 W bm0 br0).mono fun e W' ⟨he, bel⟩ => ?_
  subst he
  exact ⟨_, rfl, _, _, _, [], _, [], hW', trodAll_mk1 (shut_bool Try.underlying4 _), (trodAll_cons_mk (Below.trod laidOut (by kernel_rfl) (of_decide_eq_true (by kernel_rfl)) k0 bel lt0) trodAll_mk0), rfl, bel.frame _, fun h => by cases h⟩

theorem closed : joinedFacts Try.prog 11 Try.f11 Rows.fnFacesSpec Rows.fnFacesRow = true := by
  unfold joinedFacts
  rw [cellMay, cellFinal, cellMake]
  repeat' (with_reducible refine and_mk ?_ ?_)
  all_goals first | with_reducible rfl | as_aux_lemma => kernel_rfl
theorem proved : Rows.FnFacesSaid :=
  OpenClaim.holds_of_wide 11 Try.f11 rfl rfl rfl rfl rfl rfl rfl ⟨rfl, rfl, rfl, rfl, rfl⟩ rfl rfl rfl rfl rfl (by kernel_rfl) Try.func11 closed
    (of_decide_eq_true (by kernel_rfl)) (by unfold Func.isWrapper; first | (rw [if_pos (by decide +kernel)]; kernel_rfl) | (rw [if_neg (by decide +kernel)]; exact ⟨rfl, rfl⟩))
    (fun os started H enc _ => lifted os started H enc)
#print axioms proved
end Go.Proofs.Ytmpbhhggbmjfcaa.fnFaces
