/- Contracts of spec.TilePlace, AreJoined. -/
import Derived.Test.YtplcfgpmpacjeaaCards4
namespace Go.Proofs.Ytplcfgpmpacjeaa
open Go.RowKit
set_option linter.unusedVariables false
set_option linter.unusedSimpArgs false

set_option maxRecDepth 20000 in
set_option maxHeartbeats 1600000 in
theorem l06Joined_any (w : World) (d f : Int) (a : Option Addr) (c : Nat) (ss : List ByteArray) (k i j : Nat) (hk : k + 1 < ss.length) (hm : ss.length ≤ maxLen) (hi : i < (sel ss k).size) (hi2 : i < (sel ss (k + 1)).size) (hj : j < (sel ss (k + 1)).size) (hs16 : (sel ss k).size ≤ 16) (hs16' : (sel ss (k + 1)).size ≤ 16) (h : RdS w a ss) :
    Calls Try.prog 91 #[.agg #[.int .i64 d, .int .i64 f, .slice a ss.length c], .int .i64 k, .int .i64 i, .int .i64 j] w fun e w' => e = .returned (.bool (decide (i = j) && sameV (sel ss k) (sel ss (k + 1)) i)) ∧ Below w.heap.size w w' := by
  unfold maxLen at hm
  have hma : (sel ss k).size ≤ maxLen := by unfold maxLen; omega
  have hmb : (sel ss (k + 1)).size ≤ maxLen := by unfold maxLen; omega
  rcases h with rfl | ⟨b, o, rfl, hp, hl, hc⟩
  · simp at hk
  have g1 : (w.alloc (.cells #[.int .i64 d, .int .i64 f, .slice (some ⟨b, o, none⟩) ss.length c] 31)).cell? ⟨b, o + k, none⟩ = some (.string (sel ss k)) := by rw [World.cell?_alloc_past _ _ _ hl]; exact hc k (by omega)
  have g2 : (w.alloc (.cells #[.int .i64 d, .int .i64 f, .slice (some ⟨b, o, none⟩) ss.length c] 31)).cell? ⟨b, o + (k + 1), none⟩ = some (.string (sel ss (k + 1))) := by rw [World.cell?_alloc_past _ _ _ hl]; exact hc (k + 1) hk
  clear hc
  have e2 : IntKind.i64.wrap ((k : Int) + 1) = (k : Int) + 1 := IntWalk.i64_in _ (by omega)
  have e3 : ((k : Int) + 1).toNat = k + 1 := by omega
  by_cases hij : i = j
  rotate_left
  · have R : Hid ((decide (i = j) && sameV (sel ss k) (sel ss (k + 1)) i) = false) := Lib.hid (by rw [decide_eq_false hij]; rfl)
    have hb : ((i : Int) == (j : Int)) = false := beq_eq_false_iff_ne.2 (by omega)
    clear hij
    go_enter Try.func91, Try.ntmps91
    go_wp2
    go_quiet (fail)
    go_wp2
    go_ret
    exact ⟨ret_bool (R.out.symm), dr_bel ((Below.refl _ _).alloc (Nat.le_refl _) _) ⟨_, rfl⟩⟩
  subst hij
  have hme : ((sel ss k).extract 0 i).size ≤ maxLen := by rw [ByteArray.size_extract]; unfold maxLen; omega
  have hme2 : ((sel ss (k + 1)).extract 0 i).size ≤ maxLen := by rw [ByteArray.size_extract]; unfold maxLen; omega
  have E := Lib.hid (extract_take (sel ss k) i)
  have E2 := Lib.hid (extract_take (sel ss (k + 1)) i)
  by_cases hq : byt (sel ss k) i = byt (sel ss (k + 1)) i
  · have R : Hid ((decide (i = i) && sameV (sel ss k) (sel ss (k + 1)) i) = decide (cF ((sel ss k).data.toList.take i) = cF ((sel ss (k + 1)).data.toList.take i))) := Lib.hid (by rw [decide_eq_true rfl, Bool.true_and]; exact sameV_yes hq)
    have hb : (((sel ss k)[i].toNat : Int) == ((sel ss (k + 1))[i].toNat : Int)) = true := by rw [byt_get _ i hi, byt_get _ i hi2] at hq; rw [hq]; simp
    have J := Lib.hid (int_beq (cF ((sel ss k).data.toList.take i)) (cF ((sel ss (k + 1)).data.toList.take i)))
    clear hq
    go_enter Try.func91, Try.ntmps91
    go_wp2
    go_quiet ((first | (go_at_call 116; with_reducible exact Calls.quiet_of_same (l02CountF_any _ hme _)) | (go_at_call 116; with_reducible exact Calls.quiet_of_same (l02CountF_any _ hme2 _))))
    go_wp2
    go_ret
    exact ⟨ret_bool (by rw [R.out]; exact J.out), dr_bel ((Below.refl _ _).alloc (Nat.le_refl _) _) ⟨_, rfl⟩⟩
  · have R : Hid ((decide (i = i) && sameV (sel ss k) (sel ss (k + 1)) i) = false) := Lib.hid (by rw [decide_eq_true rfl, Bool.true_and]; exact sameV_no hq)
    have hb : (((sel ss k)[i].toNat : Int) == ((sel ss (k + 1))[i].toNat : Int)) = false := by rw [byt_get _ i hi, byt_get _ i hi2] at hq; rw [int_beq]; exact decide_eq_false (fun h => hq (UInt8.toNat_inj.1 h))
    clear hq
    go_enter Try.func91, Try.ntmps91
    go_wp2
    go_quiet ((first | (go_at_call 116; with_reducible exact Calls.quiet_of_same (l02CountF_any _ hme _)) | (go_at_call 116; with_reducible exact Calls.quiet_of_same (l02CountF_any _ hme2 _))))
    go_wp2
    go_ret
    exact ⟨ret_bool (R.out.symm), dr_bel ((Below.refl _ _).alloc (Nat.le_refl _) _) ⟨_, rfl⟩⟩

theorem joV_f {d f k i j : Int} {ss : List ByteArray} (h : tile d f ss k i = false ∨ tile d f ss (k + 1) i = false ∨ tile d f ss k j = false) : joV d f ss k i j = false := by
  by_cases hij : i = j
  · subst hij
    rcases h with h | h | h
    · exact joV_a h
    · exact joV_b h
    · exact joV_a h
  · exact joV_ne hij
theorem joV_in {d f : Int} {k i j : Nat} {ss : List ByteArray} (h : tile d f ss k i = true) (h' : tile d f ss (k + 1 : Nat) i = true) : joV d f ss k i j = (decide (i = j) && sameV (sel ss k) (sel ss (k + 1)) i) := by
  by_cases hij : i = j
  · subst hij
    rw [joV_yes h h', decide_eq_true rfl, Bool.true_and]; rfl
  · rw [joV_ne (by omega), decide_eq_false hij]; rfl

set_option maxRecDepth 20000 in
set_option maxHeartbeats 1600000 in
theorem specAreJoined_any (w : World) (d f : Int) (a : Option Addr) (c : Nat) (ss : List ByteArray) (h : RdS w a ss) (hz : SzS ss) (k i j : Int) :
    Calls Try.prog 28 #[.agg #[.int .i64 d, .int .i64 f, .slice a ss.length c], .int .i64 k, .int .i64 i, .int .i64 j] w fun e w' => e = .returned (.bool (joV d f ss k i j)) ∧ Below w.heap.size w w' := by
  cases hok : okC d f ss with
  | false =>
  have R := Lib.hid (joV_f (j := j) (.inl (tile_no (i := i) (hasV_ok (k := k) hok))))
  go_enter Try.func28, Try.ntmps28
  go_wp2_with fail
  refine (specCardOk_any _ _ _ _ _ _ (h.alloc _) hz).mono ?_
  rintro e u0 ⟨rfl, b0⟩
  obtain ⟨hc, hf'⟩ := bcell b0
  have hsz := b0.size
  have k0 : u0.cell? ⟨w.heap.size, 0, none⟩ = some (.int .i64 d) := by rw [hc _ _ (by simp)]; simp [go_sem]
  have k1 : u0.cell? ⟨w.heap.size, 1, none⟩ = some (.int .i64 f) := by rw [hc _ _ (by simp)]; simp [go_sem]
  have k2 : u0.cell? ⟨w.heap.size, 2, none⟩ = some (.slice a ss.length c) := by rw [hc _ _ (by simp)]; simp [go_sem]
  have B0 : Below w.heap.size w u0 := ((Below.refl _ _).alloc (Nat.le_refl _) _).trans (b0.mono (by simp))
  have hwu : w.heap.size < u0.heap.size := by simp at hsz; omega
  have r0 := h.below B0
  clear hc hf' hsz b0
  rw [hok]
  go_wp2
  go_ret
  exact ⟨ret_bool R.out.symm, B0⟩
  | true =>
  obtain ⟨⟨d1, d2, f1, f2⟩, ⟨l1, l2⟩, _⟩ := (okC_iff d f ss).1 hok
  have X1 : IntKind.i64.wrap (d + f) = d + f := IntWalk.i64_in _ (by omega)
  have X2 : IntKind.i64.wrap (d + f - 1) = d + f - 1 := IntWalk.i64_in _ (by omega)
  by_cases hkr : 0 ≤ k ∧ k + 1 < ss.length
  rotate_left
  · have R := Lib.hid (joV_f (d := d) (f := f) (k := k) (i := i) (j := j) (ss := ss) ((Classical.em (0 ≤ k ∧ k < ss.length)).elim (fun h0 => .inr (.inl (tile_no (hasV_out (by omega))))) (fun h0 => .inl (tile_no (hasV_out h0)))))
    go_enter Try.func28, Try.ntmps28
    go_wp2_with fail
    refine (specCardOk_any _ _ _ _ _ _ (h.alloc _) hz).mono ?_
    rintro e u0 ⟨rfl, b0⟩
    obtain ⟨hc, hf'⟩ := bcell b0
    have hsz := b0.size
    have k0 : u0.cell? ⟨w.heap.size, 0, none⟩ = some (.int .i64 d) := by rw [hc _ _ (by simp)]; simp [go_sem]
    have k1 : u0.cell? ⟨w.heap.size, 1, none⟩ = some (.int .i64 f) := by rw [hc _ _ (by simp)]; simp [go_sem]
    have k2 : u0.cell? ⟨w.heap.size, 2, none⟩ = some (.slice a ss.length c) := by rw [hc _ _ (by simp)]; simp [go_sem]
    have B0 : Below w.heap.size w u0 := ((Below.refl _ _).alloc (Nat.le_refl _) _).trans (b0.mono (by simp))
    have hwu : w.heap.size < u0.heap.size := by simp at hsz; omega
    have r0 := h.below B0
    clear hc hf' hsz b0
    rw [hok]
    go_wp2_with fail
    refine (in_no _ _ _ (by omega) _).mono ?_
    rintro e w' ⟨rfl, rfl⟩
    go_wp2
    go_ret
    exact ⟨ret_bool R.out.symm, B0⟩
  by_cases hir : 0 ≤ i ∧ i < d + f
  rotate_left
  · have R := Lib.hid (joV_f (k := k) (j := j) (.inl (tile_out (k := k) (ss := ss) hir)))
    go_enter Try.func28, Try.ntmps28
    go_wp2_with fail
    refine (specCardOk_any _ _ _ _ _ _ (h.alloc _) hz).mono ?_
    rintro e u0 ⟨rfl, b0⟩
    obtain ⟨hc, hf'⟩ := bcell b0
    have hsz := b0.size
    have k0 : u0.cell? ⟨w.heap.size, 0, none⟩ = some (.int .i64 d) := by rw [hc _ _ (by simp)]; simp [go_sem]
    have k1 : u0.cell? ⟨w.heap.size, 1, none⟩ = some (.int .i64 f) := by rw [hc _ _ (by simp)]; simp [go_sem]
    have k2 : u0.cell? ⟨w.heap.size, 2, none⟩ = some (.slice a ss.length c) := by rw [hc _ _ (by simp)]; simp [go_sem]
    have B0 : Below w.heap.size w u0 := ((Below.refl _ _).alloc (Nat.le_refl _) _).trans (b0.mono (by simp))
    have hwu : w.heap.size < u0.heap.size := by simp at hsz; omega
    have r0 := h.below B0
    clear hc hf' hsz b0
    rw [hok]
    go_wp2_with fail
    refine (in_yes _ _ _ (by omega) (by omega) _).mono ?_
    rintro e w' ⟨rfl, rfl⟩
    go_wp2_with fail
    refine (in_no _ _ _ (by omega) _).mono ?_
    rintro e w' ⟨rfl, rfl⟩
    go_wp2
    go_ret
    exact ⟨ret_bool R.out.symm, B0⟩
  by_cases hjr : 0 ≤ j ∧ j < d + f
  rotate_left
  · have R := Lib.hid (joV_f (k := k) (i := i) (.inr (.inr (tile_out (k := k) (ss := ss) hjr))))
    go_enter Try.func28, Try.ntmps28
    go_wp2_with fail
    refine (specCardOk_any _ _ _ _ _ _ (h.alloc _) hz).mono ?_
    rintro e u0 ⟨rfl, b0⟩
    obtain ⟨hc, hf'⟩ := bcell b0
    have hsz := b0.size
    have k0 : u0.cell? ⟨w.heap.size, 0, none⟩ = some (.int .i64 d) := by rw [hc _ _ (by simp)]; simp [go_sem]
    have k1 : u0.cell? ⟨w.heap.size, 1, none⟩ = some (.int .i64 f) := by rw [hc _ _ (by simp)]; simp [go_sem]
    have k2 : u0.cell? ⟨w.heap.size, 2, none⟩ = some (.slice a ss.length c) := by rw [hc _ _ (by simp)]; simp [go_sem]
    have B0 : Below w.heap.size w u0 := ((Below.refl _ _).alloc (Nat.le_refl _) _).trans (b0.mono (by simp))
    have hwu : w.heap.size < u0.heap.size := by simp at hsz; omega
    have r0 := h.below B0
    clear hc hf' hsz b0
    rw [hok]
    go_wp2_with fail
    refine (in_yes _ _ _ (by omega) (by omega) _).mono ?_
    rintro e w' ⟨rfl, rfl⟩
    go_wp2_with fail
    refine (in_yes _ _ _ (by omega) (by omega) _).mono ?_
    rintro e w' ⟨rfl, rfl⟩
    go_wp2_with fail
    refine (in_no _ _ _ (by omega) _).mono ?_
    rintro e w' ⟨rfl, rfl⟩
    go_wp2
    go_ret
    exact ⟨ret_bool R.out.symm, B0⟩
  obtain ⟨k, rfl⟩ := Int.eq_ofNat_of_zero_le hkr.1
  obtain ⟨i, rfl⟩ := Int.eq_ofNat_of_zero_le hir.1
  obtain ⟨j, rfl⟩ := Int.eq_ofNat_of_zero_le hjr.1
  have hk : k + 1 < ss.length := by omega
  obtain ⟨_, _, _, hs1, ha16⟩ := okC_sel hok (k := k) (by omega)
  obtain ⟨_, _, _, hs2, hb16⟩ := okC_sel hok hk
  have hi : i < (sel ss k).size := by omega
  have hi2 : i < (sel ss (k + 1)).size := by omega
  have R := Lib.hid (joV_in (j := j) (tile_mk (hasV_mk hok (k := (k : Int)) (by omega)) hir) (tile_mk (hasV_mk hok (k := ((k + 1 : Nat) : Int)) (by omega)) hir))
  obtain ⟨q1, q2⟩ := hkr
  obtain ⟨q3, q4⟩ := hir
  obtain ⟨q5, q6⟩ := hjr
  have hm : ss.length ≤ maxLen := hz.1
  go_enter Try.func28, Try.ntmps28
  go_wp2_with fail
  refine (specCardOk_any _ _ _ _ _ _ (h.alloc _) hz).mono ?_
  rintro e u0 ⟨rfl, b0⟩
  obtain ⟨hc, hf'⟩ := bcell b0
  have hsz := b0.size
  have k0 : u0.cell? ⟨w.heap.size, 0, none⟩ = some (.int .i64 d) := by rw [hc _ _ (by simp)]; simp [go_sem]
  have k1 : u0.cell? ⟨w.heap.size, 1, none⟩ = some (.int .i64 f) := by rw [hc _ _ (by simp)]; simp [go_sem]
  have k2 : u0.cell? ⟨w.heap.size, 2, none⟩ = some (.slice a ss.length c) := by rw [hc _ _ (by simp)]; simp [go_sem]
  have B0 : Below w.heap.size w u0 := ((Below.refl _ _).alloc (Nat.le_refl _) _).trans (b0.mono (by simp))
  have hwu : w.heap.size < u0.heap.size := by simp at hsz; omega
  have r0 := h.below B0
  clear hc hf' hsz b0
  rw [hok]
  go_wp2_with fail
  refine (in_yes _ _ _ (by omega) (by omega) _).mono ?_
  rintro e w' ⟨rfl, rfl⟩
  go_wp2_with fail
  refine (in_yes _ _ _ (by omega) (by omega) _).mono ?_
  rintro e w' ⟨rfl, rfl⟩
  go_wp2_with fail
  refine (in_yes _ _ _ (by omega) (by omega) _).mono ?_
  rintro e w' ⟨rfl, rfl⟩
  go_wp2_with fail
  refine (l06Joined_any _ _ _ _ _ _ k i j hk hm hi hi2 (by omega) ha16 hb16 r0).mono ?_
  rintro e u1 ⟨rfl, b1⟩
  go_wp2
  go_ret
  exact ⟨ret_bool R.out.symm, B0.trans (b1.mono B0.size)⟩

end Go.Proofs.Ytplcfgpmpacjeaa
