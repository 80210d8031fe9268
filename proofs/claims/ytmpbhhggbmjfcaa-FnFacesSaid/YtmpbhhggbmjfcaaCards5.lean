/- Contracts of spec.TilePlace, AreJoined. -/
import Derived.Test.YtmpbhhggbmjfcaaCards4
namespace Go.Proofs.Ytmpbhhggbmjfcaa
open Go.RowKit
set_option linter.unusedVariables false
set_option linter.unusedSimpArgs false

set_option maxRecDepth 20000 in
set_option maxHeartbeats 1600000 in
theorem l06Joined_any (w : World) (d f : Int) (a : Option Addr) (c : Nat) (ss : List ByteArray) (k i j : Nat) (hk : k + 1 < ss.length) (hm : ss.length ≤ maxLen) (hi : i < (sel ss k).size) (hi2 : i < (sel ss (k + 1)).size) (hj : j < (sel ss (k + 1)).size) (hs16 : (sel ss k).size ≤ 16) (hs16' : (sel ss (k + 1)).size ≤ 16) (h : RdS w a ss) :
    Calls Try.prog 88 #[.agg #[.int .i64 d, .int .i64 f, .slice a ss.length c], .int .i64 k, .int .i64 i, .int .i64 j] w fun e w' => e = .returned (.bool (decide (i = j) && sameV (sel ss k) (sel ss (k + 1)) i)) ∧ Below w.heap.size w w' := by
  unfold maxLen at hm
  have hma : (sel ss k).size ≤ maxLen := by unfold maxLen; omega
  have hmb : (sel ss (k + 1)).size ≤ maxLen := by unfold maxLen; omega
  rcases h with rfl | ⟨b, o, rfl, hp, hl, hc⟩
  · simp at hk
  have g1 : (w.alloc (.cells #[.int .i64 d, .int .i64 f, .slice (some ⟨b, o, none⟩) ss.length c] 34)).cell? ⟨b, o + k, none⟩ = some (.string (sel ss k)) := by rw [World.cell?_alloc_past _ _ _ hl]; exact hc k (by omega)
  have g2 : (w.alloc (.cells #[.int .i64 d, .int .i64 f, .slice (some ⟨b, o, none⟩) ss.length c] 34)).cell? ⟨b, o + (k + 1), none⟩ = some (.string (sel ss (k + 1))) := by rw [World.cell?_alloc_past _ _ _ hl]; exact hc (k + 1) hk
  clear hc
  have e2 : IntKind.i64.wrap ((k : Int) + 1) = (k : Int) + 1 := IntWalk.i64_in _ (by omega)
  have e3 : ((k : Int) + 1).toNat = k + 1 := by omega
  by_cases hij : i = j
  rotate_left
  · have R : Hid ((decide (i = j) && sameV (sel ss k) (sel ss (k + 1)) i) = false) := Lib.hid (by rw [decide_eq_false hij]; rfl)
    have hb : ((i : Int) == (j : Int)) = false := beq_eq_false_iff_ne.2 (by omega)
    clear hij
    go_enter Try.func88, Try.ntmps88
    go_wp2
    go_quiet (fail)
    go_wp2
    go_ret
    exact ⟨ret_bool (R.out.symm), dr_bel ((Below.refl _ _).alloc (Nat.le_refl _) _) ⟨_, rfl⟩⟩
  subst hij
  have hme : ((sel ss k).extract 0 i).size ≤ maxLen := by rw [ByteArray.size_extract]; unfold maxLen; omega
  have hme2 : ((sel ss (k + 1)).extract 0 i).size ≤ maxLen := by rw [ByteArray.size_extract]; unfold maxLen; omega
  have E := Lib.hid (extract_take (sel ss k) i)
  have E2 := Lib.hid (extract_take (sel ss (k + 1)) i)
  by_cases hq : byt (sel ss k) i = byt (sel ss (k + 1)) i
  · have R : Hid ((decide (i = i) && sameV (sel ss k) (sel ss (k + 1)) i) = decide (cF ((sel ss k).data.toList.take i) = cF ((sel ss (k + 1)).data.toList.take i))) := Lib.hid (by rw [decide_eq_true rfl, Bool.true_and]; exact sameV_yes hq)
    have hb : (((sel ss k)[i].toNat : Int) == ((sel ss (k + 1))[i].toNat : Int)) = true := by rw [byt_get _ i hi, byt_get _ i hi2] at hq; rw [hq]; simp
    have J := Lib.hid (int_beq (cF ((sel ss k).data.toList.take i)) (cF ((sel ss (k + 1)).data.toList.take i)))
    clear hq
    go_enter Try.func88, Try.ntmps88
    go_wp2
    go_quiet ((first | (go_at_call 110; with_reducible exact Calls.quiet_of_same (l02CountF_any _ hme _)) | (go_at_call 110; with_reducible exact Calls.quiet_of_same (l02CountF_any _ hme2 _))))
    go_wp2
    go_ret
    exact ⟨ret_bool (by rw [R.out]; exact J.out), dr_bel ((Below.refl _ _).alloc (Nat.le_refl _) _) ⟨_, rfl⟩⟩
  · have R : Hid ((decide (i = i) && sameV (sel ss k) (sel ss (k + 1)) i) = false) := Lib.hid (by rw [decide_eq_true rfl, Bool.true_and]; exact sameV_no hq)
    have hb : (((sel ss k)[i].toNat : Int) == ((sel ss (k + 1))[i].toNat : Int)) = false := by rw [byt_get _ i hi, byt_get _ i hi2] at hq; rw [int_beq]; exact decide_eq_false (fun h => hq (UInt8.toNat_inj.1 h))
    clear hq
    go_enter Try.func88, Try.ntmps88
    go_wp2
    go_quiet ((first | (go_at_call 110; with_reducible exact Calls.quiet_of_same (l02CountF_any _ hme _)) | (go_at_call 110; with_reducible exact Calls.quiet_of_same (l02CountF_any _ hme2 _))))
    go_wp2
    go_ret
    exact ⟨ret_bool (R.out.symm), dr_bel ((Below.refl _ _).alloc (Nat.le_refl _) _) ⟨_, rfl⟩⟩

theorem joV_f {d f k i j : Int} {ss : List ByteArray} (h : tile d f ss k i = false ∨ tile d f ss (k + 1) i = false ∨ tile d f ss k j = false) : joV d f ss k i j = false := by
  by_cases hij : i = j
  · subst hij
    rcases h with h | h | h
    · exact joV_a h
    · exact joV_b h
    · exact joV_a h
  · exact joV_ne hij
theorem joV_in {d f : Int} {k i j : Nat} {ss : List ByteArray} (h : tile d f ss k i = true) (h' : tile d f ss (k + 1 : Nat) i = true) : joV d f ss k i j = (decide (i = j) && sameV (sel ss k) (sel ss (k + 1)) i) := by
  by_cases hij : i = j
  · subst hij
    rw [joV_yes h h', decide_eq_true rfl, Bool.true_and]; rfl
  · rw [joV_ne (by omega), decide_eq_false hij]; rfl

end Go.Proofs.Ytmpbhhggbmjfcaa
