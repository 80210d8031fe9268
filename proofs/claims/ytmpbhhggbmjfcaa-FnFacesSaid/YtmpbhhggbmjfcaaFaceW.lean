/- What FnFaces calls, at a valid card in a box. -/
import Derived.Test.YtmpbhhggbmjfcaaFaceL
import Derived.Test.YtmpbhhggbmjfcaaStripsL
import Derived.Test.YtmpbhhggbmjfcaaPlain
import Derived.Test.YtmpbhhggbmjfcaaCardIn
import Derived.Test.YtmpbhhggbmjfcaaAreJ
import Derived.Test.YtmpbhhggbmjfcaaCards2
namespace Go.Proofs.Ytmpbhhggbmjfcaa
open Go.RowKit
set_option linter.unusedVariables false
set_option linter.unusedSimpArgs false
set_option maxRecDepth 20000

theorem RdS.cellAt {u : World} {b o j : Nat} {ss : List ByteArray} (h : RdS u (some ⟨b, o, none⟩) ss) (hj : j < ss.length) : u.cell? ⟨b, o + j, none⟩ = some (.string (sel ss j)) := rd_cell h hj
/-- The box b holds the card, and all that stood in the world W before stands. -/
structure St (W : World) (b : Nat) (d f : Nat) (p : Option Addr) (q : Nat) (ss : List ByteArray) (u : World) : Prop where
  c0 : u.cell? ⟨b, 0, none⟩ = some (.int .i64 (d : Int))
  c1 : u.cell? ⟨b, 1, none⟩ = some (.int .i64 (f : Int))
  c2 : u.cell? ⟨b, 2, none⟩ = some (.slice p ss.length q)
  rd : RdS u p ss
  lt : b < u.heap.size
  be : Below W.heap.size W u
variable {W u u' : World} {b d f q : Nat} {p : Option Addr} {ss : List ByteArray} {lab : Nat → Nat}
theorem St.below (h : St W b d f p q ss u) (hb : Below u.heap.size u u') : St W b d f p q ss u' :=
  ⟨(hb.cell (p := ⟨b, 0, none⟩) h.lt).trans h.c0, (hb.cell (p := ⟨b, 1, none⟩) h.lt).trans h.c1, (hb.cell (p := ⟨b, 2, none⟩) h.lt).trans h.c2, h.rd.below hb, Nat.lt_of_lt_of_le h.lt hb.size, h.be.trans (hb.mono h.be.size)⟩
theorem St.drewN (h : St W b d f p q ss u) (n : Nat) : St W b d f p q ss (u.drewN n) := h.below (dr_below ⟨n, rfl⟩ _)
theorem St.drew (h : St W b d f p q ss u) : St W b d f p q ss u.drew := h.drewN 1
/-- The facts of a valid card that the walk reads, in numbers. -/
structure Dim (d f : Nat) (ss : List ByteArray) (K N m : Nat) : Prop where
  ok : okC (d : Int) (f : Int) ss = true
  len : ss.length = K
  nn : d + f = N
  mm : K * N = m
  d1 : 1 ≤ d ∧ d ≤ 8
  f1 : 1 ≤ f ∧ f ≤ 8
  k1 : 1 ≤ K ∧ K ≤ 10
variable {K N m : Nat}
theorem dim_mk (h : okC (d : Int) (f : Int) ss = true) : Dim d f ss ss.length (d + f) (ss.length * (d + f)) := by
  obtain ⟨⟨h1, h2, h3, h4⟩, ⟨h5, h6⟩, _⟩ := (okC_iff _ _ _).1 h
  exact ⟨h, rfl, rfl, rfl, by omega, by omega, by omega⟩
theorem Dim.toN (D : Dim d f ss K N m) : ((d : Int) + (f : Int)).toNat = N := by have := D.nn; omega
theorem Dim.m160 (D : Dim d f ss K N m) : m ≤ 160 := by rw [← D.mm]; exact Nat.le_trans (Nat.mul_le_mul D.k1.2 (show N ≤ 16 by have := D.nn; have := D.d1; have := D.f1; omega)) (by decide)
theorem Dim.mpos (D : Dim d f ss K N m) : 0 < m := by rw [← D.mm]; exact Nat.mul_pos (by have := D.k1; omega) (by have := D.nn; have := D.d1; omega)
theorem Dim.sz (D : Dim d f ss K N m) {k : Nat} (hk : k < K) : (sel ss k).size = N := by
  have h := (okC_sel D.ok (k := k) (by rw [D.len]; exact hk)).2.2.2.1
  have := D.nn; omega
theorem Dim.szs (D : Dim d f ss K N m) : SzS ss := ⟨by have := D.len; have := D.k1; unfold maxLen; omega, fun j => by
  by_cases hj : j < K
  · have := (okC_sel D.ok (k := j) (by rw [D.len]; exact hj)).2.2.2.2; unfold maxLen; omega
  · have := sel_out ss j (by rw [D.len]; omega); omega⟩
theorem Dim.tile (D : Dim d f ss K N m) {k i : Nat} (hk : k < K) (hi : i < N) : tile (d : Int) (f : Int) ss k i = true :=
  tile_mk (hasV_mk D.ok (by have := D.len; omega)) (by have := D.nn; omega)
theorem Dim.lt (D : Dim d f ss K N m) {k i : Nat} (hk : k < K) (hi : i < N) : k * N + i < m := by rw [← D.mm]; exact tile_lt hi hk
theorem Dim.toLab (D : Dim d f ss K N m) (h : LabP (d : Int) (f : Int) ss lab) : Labels (Ed ss N m) m lab := by
  unfold LabP at h; rw [D.toN, D.len, D.mm] at h; exact h
theorem Dim.unlab (D : Dim d f ss K N m) (h : Labels (Ed ss N m) m lab) : LabP (d : Int) (f : Int) ss lab := by
  unfold LabP; rw [D.toN, D.len, D.mm]; exact h
theorem fw_count (D : Dim d f ss K N m) (s : St W b d f p q ss u) :
    Calls Try.prog 45 #[.agg #[.int .i64 (d : Int), .int .i64 (f : Int), .slice p ss.length q]] u fun e w' => e = .returned (.int .i64 (m : Int)) ∧ St W b d f p q ss w' := by
  refine (implTileCount_any u d f p q ss s.rd D.szs).mono ?_
  rintro e w' ⟨rfl, hb⟩
  refine ⟨ret_int' ?_, s.below hb⟩
  rw [tcV_yes D.ok, D.len, ← D.mm, ← D.nn]; simp
theorem fw_faces (D : Dim d f ss K N m) (s : St W b d f p q ss u) :
    Calls Try.prog 25 #[.agg #[.int .i64 (d : Int), .int .i64 (f : Int), .slice p ss.length q]] u fun e w' => (∃ lab, e = .returned (.int .i64 (nxt lab m : Int)) ∧ Labels (Ed ss N m) m lab) ∧ St W b d f p q ss w' := by
  refine (implCountFaces_ex u d f p q ss s.rd D.szs).mono ?_
  rintro e w' ⟨lab, hl, rfl, hb⟩
  refine ⟨⟨lab, ret_int' ?_, D.toLab (hl D.ok)⟩, s.below hb⟩
  rw [cfV_yes D.ok, D.toN, D.len, D.mm]
theorem fw_size (D : Dim d f ss K N m) (hl : Labels (Ed ss N m) m lab) (face : Int) (s : St W b d f p q ss u) :
    Calls Try.prog 27 #[.agg #[.int .i64 (d : Int), .int .i64 (f : Int), .slice p ss.length q], .int .i64 face] u fun e w' => e = .returned (.int .i64 (cnt (fun t => (lab t : Int)) face m : Int)) ∧ St W b d f p q ss w' := by
  refine (implFaceSize_any u d f p q ss s.rd D.szs face lab (fun _ => D.unlab hl)).mono ?_
  rintro e w' ⟨rfl, hb⟩
  refine ⟨ret_int' ?_, s.below hb⟩
  rw [fsV_yes D.ok, D.toN, D.len, D.mm]
theorem fw_of (D : Dim d f ss K N m) (hl : Labels (Ed ss N m) m lab) {k i : Nat} (hk : k < K) (hi : i < N) (s : St W b d f p q ss u) :
    Calls Try.prog 22 #[.agg #[.int .i64 (d : Int), .int .i64 (f : Int), .slice p ss.length q], .int .i64 (k : Int), .int .i64 (i : Int)] u fun e w' => e = .returned (.int .i64 (lab (k * N + i) : Int)) ∧ St W b d f p q ss w' := by
  refine (implFaceOf_any u d f p q ss s.rd D.szs k i lab (fun _ => D.unlab hl)).mono ?_
  rintro e w' ⟨rfl, hb⟩
  refine ⟨ret_int' ?_, s.below hb⟩
  rw [fV_yes (D.tile hk hi), D.toN]; simp
theorem fw_place (D : Dim d f ss K N m) {k i : Nat} (hk : k < K) (hi : i < N) (s : St W b d f p q ss u) :
    Calls Try.prog 47 #[.agg #[.int .i64 (d : Int), .int .i64 (f : Int), .slice p ss.length q], .int .i64 (k : Int), .int .i64 (i : Int)] u fun e w' => e = .returned (.tuple #[.int .i64 (cF ((sel ss k).data.toList.take i) : Int), .int .i64 (cD ((sel ss k).data.toList.take i) : Int), .string ((sel ss k).extract i (i + 1))]) ∧ St W b d f p q ss w' := by
  refine (implTilePlace_any u d f p q ss s.rd D.szs k i).mono ?_
  rintro e w' ⟨rfl, hb⟩
  obtain ⟨h1, h2, h3⟩ := tp_yes (D.tile hk hi)
  refine ⟨?_, s.below hb⟩
  rw [h1, h2, h3]
theorem fw_join (D : Dim d f ss K N m) {k i : Nat} (hk : k + 1 < K) (hi : i < N) (s : St W b d f p q ss u) :
    Calls Try.prog 48 #[.agg #[.int .i64 (d : Int), .int .i64 (f : Int), .slice p ss.length q], .int .i64 (k : Int), .int .i64 (i : Int), .int .i64 (i : Int)] u fun e w' => e = .returned (.bool (sameV (sel ss k) (sel ss (k + 1)) i)) ∧ St W b d f p q ss w' := by
  refine (implAreJoined_any u d f p q ss s.rd D.szs k i i).mono ?_
  rintro e w' ⟨rfl, hb⟩
  refine ⟨ret_bool ?_, s.below hb⟩
  have := joV_yes (D.tile (k := k) (by omega) hi) (by have := D.tile (k := k + 1) hk hi; simpa using this)
  rw [this]; simp
theorem at0_val {B : Nat} {a : Option Addr} {n : Nat} (cap : Nat) {w : World} (hn : n ≤ 1048576) (hr : RdB B w a n) : ∃ x : Int, (0 ≤ x ∧ x ≤ 255) ∧ ∀ u, Below B w u → Calls Try.prog 46 #[.slice a n cap, .int .i64 0] u fun e w' => e = .returned (.int .i64 x) ∧ w' = u := by
  rcases Nat.eq_zero_or_pos n with rfl | hp
  · refine ⟨0, by omega, fun u hu => ?_⟩
    go_enter Try.func46, Try.ntmps46
    go_wp2
    go_ret
    exact ⟨rfl, rfl⟩
  · rcases hr with h0 | ⟨b, off, rfl, hb, hc⟩
    · omega
    obtain ⟨m, hm⟩ : ∃ m : Nat, (1 : Int) % (n : Int) = (m : Int) := ⟨1 % n, by simp⟩
    have hml : m < n := by
      have := Int.emod_lt_of_pos 1 (show (0 : Int) < (n : Int) by omega)
      omega
    obtain ⟨x, x0, x1, hx⟩ := hc m hml
    clear hc
    refine ⟨x, ⟨x0, x1⟩, fun u hu => ?_⟩
    have hx := (hu.cell (p := ⟨b, off + m, none⟩) hb).trans hx
    have t0 : ((n : Int) == 0) = false := beq_eq_false_iff_ne.2 (by omega)
    have e1 : (m : Int) < (n : Int) := by omega
    go_enter Try.func46, Try.ntmps46
    go_wp2
    go_ret
    exact ⟨rfl, rfl⟩
theorem at1_val {B : Nat} {a : Option Addr} {n : Nat} (cap : Nat) {w : World} (hn : n ≤ 1048576) (hr : RdB B w a n) : ∃ x : Int, (0 ≤ x ∧ x ≤ 255) ∧ ∀ u, Below B w u → Calls Try.prog 46 #[.slice a n cap, .int .i64 1] u fun e w' => e = .returned (.int .i64 x) ∧ w' = u := by
  rcases Nat.eq_zero_or_pos n with rfl | hp
  · refine ⟨0, by omega, fun u hu => ?_⟩
    go_enter Try.func46, Try.ntmps46
    go_wp2
    go_ret
    exact ⟨rfl, rfl⟩
  · rcases hr with h0 | ⟨b, off, rfl, hb, hc⟩
    · omega
    obtain ⟨m, hm⟩ : ∃ m : Nat, (6 : Int) % (n : Int) = (m : Int) := ⟨6 % n, by simp⟩
    have hml : m < n := by
      have := Int.emod_lt_of_pos 6 (show (0 : Int) < (n : Int) by omega)
      omega
    obtain ⟨x, x0, x1, hx⟩ := hc m hml
    clear hc
    refine ⟨x, ⟨x0, x1⟩, fun u hu => ?_⟩
    have hx := (hu.cell (p := ⟨b, off + m, none⟩) hb).trans hx
    have t0 : ((n : Int) == 0) = false := beq_eq_false_iff_ne.2 (by omega)
    have e1 : (m : Int) < (n : Int) := by omega
    go_enter Try.func46, Try.ntmps46
    go_wp2
    go_ret
    exact ⟨rfl, rfl⟩
end Go.Proofs.Ytmpbhhggbmjfcaa
