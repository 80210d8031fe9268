/- Contracts of RoomTable and CountStrips of the program, CountStrips of the reference. -/
import Derived.Test.YtplcfgpmpacjeaaRoomFns
import Derived.Test.YtplcfgpmpacjeaaFlat
namespace Go.Proofs.Ytplcfgpmpacjeaa
open Go.RowKit
set_option linter.unusedVariables false
set_option linter.unusedSimpArgs false

set_option maxHeartbeats 400000 in
theorem roomTable_no (x y : Int) (h : ¬ (1 ≤ x ∧ x ≤ 8 ∧ 1 ≤ y ∧ y ≤ 8)) (w : World) :
    Calls Try.prog 82 #[.int .i64 x, .int .i64 y] w fun e w' => e = .returned (.slice none 0 0) ∧ w = w' := by
  by_cases a : 1 ≤ x ∧ x ≤ 8
  · have H : Hid (y < 1 ∨ 8 < y) := Lib.hid (by omega)
    obtain ⟨a1, a2⟩ := a
    clear h
    go_enter Try.func82, Try.ntmps82
    go_wp2_with fail
    refine (isSteps_yes _ a1 a2 _).mono ?_
    rintro e w' ⟨rfl, rfl⟩
    go_wp2_with fail
    refine (isSteps_no _ H.out _).mono ?_
    rintro e w' ⟨rfl, rfl⟩
    go_wp2
    go_ret
    exact ⟨rfl, rfl⟩
  · have H : Hid (x < 1 ∨ 8 < x) := Lib.hid (by omega)
    clear h a
    go_enter Try.func82, Try.ntmps82
    go_wp2_with fail
    refine (isSteps_no _ H.out _).mono ?_
    rintro e w' ⟨rfl, rfl⟩
    go_wp2
    go_ret
    exact ⟨rfl, rfl⟩

set_option maxHeartbeats 400000 in
theorem roomTable_yes (x y : Int) (d f : Nat) (hx : x = d) (hy : y = f) (h1 : 1 ≤ d) (h2 : d ≤ 8) (h3 : 1 ≤ f) (h4 : f ≤ 8) (w : World) :
    Calls Try.prog 82 #[.int .i64 x, .int .i64 y] w fun e w' => ∃ v, e = .returned v ∧ OwnI w.heap.size v (lF (RR d f) (d * f + 1)) w' ∧ Below w.heap.size w w' := by
  subst hx hy
  go_enter Try.func82, Try.ntmps82
  go_wp2_with fail
  refine (isSteps_yes _ (by omega) (by omega) _).mono ?_
  rintro e w' ⟨rfl, rfl⟩
  go_wp2_with fail
  refine (isSteps_yes _ (by omega) (by omega) _).mono ?_
  rintro e w' ⟨rfl, rfl⟩
  go_wp2_with fail
  refine (rooms_any (d + f) _ _ d f _ rfl rfl h2 h4 (Nat.le_refl _)).mono ?_
  rintro e w1 ⟨v, rfl, o1, b1⟩
  go_wp2
  go_ret
  exact ⟨v, rfl, o1, b1⟩

def csV (x y : Int) : Int := if 1 ≤ x ∧ x ≤ 8 ∧ 1 ≤ y ∧ y ≤ 8 then PP x.toNat y.toNat else 0
theorem csV_no {x y : Int} (h : ¬ (1 ≤ x ∧ x ≤ 8 ∧ 1 ≤ y ∧ y ≤ 8)) : csV x y = 0 := by unfold csV; rw [if_neg h]
theorem csV_yes {d f : Nat} (h1 : 1 ≤ d) (h2 : d ≤ 8) (h3 : 1 ≤ f) (h4 : f ≤ 8) : csV d f = PP d f := by unfold csV; rw [if_pos (by omega)]; simp

set_option maxHeartbeats 1600000 in
theorem implCountStrips_any (x y : Int) (w : World) :
    Calls Try.prog 20 #[.int .i64 x, .int .i64 y] w fun e w' => e = .returned (.int .i64 (csV x y)) ∧ Below w.heap.size w w' := by
  by_cases h : 1 ≤ x ∧ x ≤ 8 ∧ 1 ≤ y ∧ y ≤ 8
  · obtain ⟨d, rfl⟩ : ∃ d : Nat, x = d := ⟨x.toNat, by omega⟩
    obtain ⟨f, rfl⟩ : ∃ f : Nat, y = f := ⟨y.toNat, by omega⟩
    have R := Lib.hid (csV_yes (d := d) (f := f) (by omega) (by omega) (by omega) (by omega))
    have S := Lib.hid (sm_RR d f (d * f + 1) (by omega))
    have hd : d ≤ 8 := by omega
    have hf : f ≤ 8 := by omega
    have h1 : 1 ≤ d := by omega
    have h3 : 1 ≤ f := by omega
    clear h
    have hp0 : d * f ≤ 8 * 8 := Nat.mul_le_mul hd hf
    generalize hn : d * f + 1 = n at S
    have HN := Lib.hid hn
    have hn2 : n ≤ 65 := by omega
    clear hn hp0
    go_enter Try.func20, Try.ntmps20
    go_wp2_with fail
    refine (roomTable_yes _ _ d f rfl rfl h1 hd h3 hf _).mono ?_
    rintro e u1 ⟨v1, rfl, o1, b1⟩
    obtain ⟨p1, c1, rfl, hp1, hl1⟩ := o1.shape
    rw [HN.out] at o1
    rw [HN.out]
    go_wp2
    go_loop [5, 12] (fun s i => ∃ k : Nat, k ≤ n ∧ i = .int .i64 k ∧ s = .int .i64 (sm (RR d f) k)) (fun _ i => n - (intOf i).toNat)
    case atStart => exact ⟨0, Nat.zero_le _, rfl, rfl⟩
    case round =>
      obtain ⟨k, hk, rfl, rfl⟩ := hrel
      by_cases hlt : k < n
      · have q1 := o1.at k hlt
        have e1 : (k : Int) < (n : Int) := by omega
        have r1 := RR_small d f k hd hf
        have r2 := sm_RR_le d f k hd hf
        have HS : Hid ((sm (RR d f) k : Int) + (RR d f k : Int) = (sm (RR d f) (k + 1) : Int)) := Lib.hid (by show _ = ((sm (RR d f) k + RR d f k : Nat) : Int); rw [Int.natCast_add])
        go_wp2
        go_round
        case rel => exact ⟨k + 1, by omega, by go_num, by rw [HS.out]⟩
        case measure => simp [intOf]; omega
      · obtain rfl : k = n := by omega
        go_wp2
        go_ret
        exact ⟨ret_int (by rw [R.out, S.out]), b1⟩
  · have R := Lib.hid (csV_no h)
    have H := Lib.hid h; clear h
    go_enter Try.func20, Try.ntmps20
    go_wp2_with fail
    refine (roomTable_no _ _ H.out _).mono ?_
    rintro e w' ⟨rfl, rfl⟩
    go_wp2
    refine wp_loop_rounds 1 ?_
    rw [rounds_succ]
    go_wp2
    go_ret
    exact ⟨ret_int R.out.symm, Below.refl _ _⟩

set_option maxHeartbeats 1600000 in
theorem specCountStrips_any (x y : Int) (w : World) :
    Calls Try.prog 19 #[.int .i64 x, .int .i64 y] w fun e w' => e = .returned (.int .i64 (csV x y)) ∧ w = w' := by
  by_cases h : 1 ≤ x ∧ x ≤ 8 ∧ 1 ≤ y ∧ y ≤ 8
  · obtain ⟨d, rfl⟩ : ∃ d : Nat, x = d := ⟨x.toNat, by omega⟩
    obtain ⟨f, rfl⟩ : ∃ f : Nat, y = f := ⟨y.toNat, by omega⟩
    have R := Lib.hid (csV_yes (d := d) (f := f) (by omega) (by omega) (by omega) (by omega))
    have hd : d ≤ 8 := by omega
    have hf : f ≤ 8 := by omega
    have h1 : 1 ≤ d := by omega
    have h3 : 1 ≤ f := by omega
    clear h
    go_enter Try.func19, Try.ntmps19
    go_wp2_with fail
    refine (frame_yes _ _ (by omega) (by omega) (by omega) (by omega) _).mono ?_
    rintro e w' ⟨rfl, rfl⟩
    go_wp2
    go_loop [5, 6] (fun s i => ∃ k : Nat, k ≤ d ∧ i = .int .i64 ((k : Int) + 1) ∧ s = .int .i64 (PP k f)) (fun _ i => d + 1 - (intOf i).toNat)
    case atStart => exact ⟨0, Nat.zero_le _, rfl, rfl⟩
    case round =>
      obtain ⟨k, hk, rfl, rfl⟩ := hrel
      by_cases hlt : k < d
      · obtain ⟨n1, n2⟩ := PP_next k f (by omega) hf
        have e1 : (k : Int) + 1 ≤ (d : Int) := by omega
        have p0 : (PP k f : Int) * ((f : Int) + ((k : Int) + 1)) ≤ 205920 := by have : ((PP k f * (f + (k + 1)) : Nat) : Int) ≤ 205920 := by omega
                                                                                rwa [Int.natCast_mul, Int.natCast_add, Int.natCast_add] at this
        have p1 : 0 ≤ (PP k f : Int) * ((f : Int) + ((k : Int) + 1)) := Int.mul_nonneg (by omega) (by omega)
        have HS : Hid ((PP k f : Int) * ((f : Int) + ((k : Int) + 1)) / ((k : Int) + 1) = (PP (k + 1) f : Int)) := Lib.hid (by
          rw [← n1]; simp [Int.natCast_mul, Int.natCast_add])
        clear n1 n2
        go_wp2
        go_round
        case rel => exact ⟨k + 1, by omega, by go_num, by rw [← HS.out]⟩
        case measure => simp [intOf]; omega
      · obtain rfl : k = d := by omega
        go_wp2
        go_ret
        exact ⟨ret_int (by rw [R.out]), rfl⟩
  · have R := Lib.hid (csV_no h)
    have H := Lib.hid h; clear h
    go_enter Try.func19, Try.ntmps19
    go_wp2_with fail
    refine (frame_no _ _ H.out _).mono ?_
    rintro e w' ⟨rfl, rfl⟩
    go_wp2
    go_ret
    exact ⟨ret_int R.out.symm, rfl⟩
end Go.Proofs.Ytplcfgpmpacjeaa
