/- Contracts of hasTile, TilePlace, AreJoined. -/
import Derived.Test.YtmpbhhggbmjfcaaCards
import Derived.Test.YtmpbhhggbmjfcaaMix
import Derived.Deep.RegionWith
namespace Go.Proofs.Ytmpbhhggbmjfcaa
open Go.RowKit
set_option linter.unusedVariables false
set_option linter.unusedSimpArgs false

theorem okC_sel {d f : Int} {ss : List ByteArray} (h : okC d f ss = true) {k : Nat} (hk : k < ss.length) :
    strip (sel ss k).data.toList = true ∧ (cD (sel ss k).data.toList : Int) = d ∧ (cF (sel ss k).data.toList : Int) = f ∧ ((sel ss k).size : Int) = d + f ∧ (sel ss k).size ≤ 16 := by
  obtain ⟨⟨d1, d2, f1, f2⟩, _, h3⟩ := (okC_iff d f ss).1 h
  obtain ⟨e1, e2⟩ := (fits_iff d f _).1 (h3 k hk)
  cases hs : strip (sel ss k).data.toList with
  | false => rw [downV_no hs] at e1; omega
  | true =>
    rw [downV_yes hs] at e1
    rw [fwdV_yes hs] at e2
    obtain ⟨_, h16, z1, _⟩ := strip_size hs
    exact ⟨rfl, e1, e2, by omega, h16⟩
/-- A strip of a valid card. -/
def hasV (d f : Int) (ss : List ByteArray) (k : Int) : Bool := okC d f ss && decide (0 ≤ k ∧ k < ss.length)
theorem hasV_ok {d f k : Int} {ss : List ByteArray} (h : okC d f ss = false) : hasV d f ss k = false := by unfold hasV; rw [h]; rfl
theorem hasV_out {d f k : Int} {ss : List ByteArray} (h : ¬ (0 ≤ k ∧ k < ss.length)) : hasV d f ss k = false := by unfold hasV; rw [decide_eq_false h, Bool.and_false]
theorem hasV_mk {d f k : Int} {ss : List ByteArray} (h : okC d f ss = true) (h2 : 0 ≤ k ∧ k < ss.length) : hasV d f ss k = true := by unfold hasV; rw [h, decide_eq_true h2]; rfl
theorem hasV_iff (d f k : Int) (ss : List ByteArray) : hasV d f ss k = true ↔ okC d f ss = true ∧ 0 ≤ k ∧ k < ss.length := by unfold hasV; simp
/-- A tile of a valid card. -/
def tile (d f : Int) (ss : List ByteArray) (k i : Int) : Bool := hasV d f ss k && decide (0 ≤ i ∧ i < d + f)
theorem tile_no {d f k i : Int} {ss : List ByteArray} (h : hasV d f ss k = false) : tile d f ss k i = false := by unfold tile; rw [h]; rfl
theorem tile_out {d f k i : Int} {ss : List ByteArray} (h : ¬ (0 ≤ i ∧ i < d + f)) : tile d f ss k i = false := by unfold tile; rw [decide_eq_false h, Bool.and_false]
theorem tile_mk {d f k i : Int} {ss : List ByteArray} (h : hasV d f ss k = true) (h2 : 0 ≤ i ∧ i < d + f) : tile d f ss k i = true := by unfold tile; rw [h, decide_eq_true h2]; rfl
theorem tile_iff (d f k i : Int) (ss : List ByteArray) : tile d f ss k i = true ↔ okC d f ss = true ∧ (0 ≤ k ∧ k < ss.length) ∧ 0 ≤ i ∧ i < d + f := by unfold tile; rw [Bool.and_eq_true, hasV_iff]; simp [and_assoc]
/-- Two strips have the same step at the same place. -/
def sameV (s t : ByteArray) (i : Nat) : Bool := decide (byt s i = byt t i) && decide (cF (s.data.toList.take i) = cF (t.data.toList.take i))
theorem sameV_no {s t : ByteArray} {i : Nat} (h : ¬ byt s i = byt t i) : sameV s t i = false := by unfold sameV; rw [decide_eq_false h]; rfl
theorem sameV_yes {s t : ByteArray} {i : Nat} (h : byt s i = byt t i) : sameV s t i = decide (cF (s.data.toList.take i) = cF (t.data.toList.take i)) := by unfold sameV; rw [decide_eq_true h, Bool.true_and]
theorem int_beq (a b : Nat) : ((a : Int) == (b : Int)) = decide (a = b) := by
  by_cases h : a = b
  · rw [h]; simp
  · rw [decide_eq_false h]; exact beq_eq_false_iff_ne.2 (by omega)
def joV (d f : Int) (ss : List ByteArray) (k i j : Int) : Bool := decide (i = j) && (tile d f ss k i && (tile d f ss (k + 1) i && sameV (sel ss k.toNat) (sel ss (k.toNat + 1)) i.toNat))
theorem joV_ne {d f k i j : Int} {ss : List ByteArray} (h : ¬ i = j) : joV d f ss k i j = false := by unfold joV; rw [decide_eq_false h]; rfl
theorem joV_a {d f k i : Int} {ss : List ByteArray} (h : tile d f ss k i = false) : joV d f ss k i i = false := by unfold joV; rw [h]; simp
theorem joV_b {d f k i : Int} {ss : List ByteArray} (h : tile d f ss (k + 1) i = false) : joV d f ss k i i = false := by unfold joV; rw [h]; simp
theorem joV_yes {d f k i : Int} {ss : List ByteArray} (h : tile d f ss k i = true) (h' : tile d f ss (k + 1) i = true) : joV d f ss k i i = sameV (sel ss k.toNat) (sel ss (k.toNat + 1)) i.toNat := by unfold joV; rw [h, h']; simp
def tpF (d f : Int) (ss : List ByteArray) (k i : Int) : Int := if tile d f ss k i then (cF ((sel ss k.toNat).data.toList.take i.toNat) : Int) else 0
def tpD (d f : Int) (ss : List ByteArray) (k i : Int) : Int := if tile d f ss k i then (cD ((sel ss k.toNat).data.toList.take i.toNat) : Int) else 0
def tpS (d f : Int) (ss : List ByteArray) (k i : Int) : ByteArray := if tile d f ss k i then (sel ss k.toNat).extract i.toNat (i.toNat + 1) else ⟨#[]⟩
theorem tp_no {d f k i : Int} {ss : List ByteArray} (h : tile d f ss k i = false) : tpF d f ss k i = 0 ∧ tpD d f ss k i = 0 ∧ tpS d f ss k i = ⟨#[]⟩ := by unfold tpF tpD tpS; rw [h]; exact ⟨rfl, rfl, rfl⟩
theorem tp_yes {d f : Int} {k i : Nat} {ss : List ByteArray} (h : tile d f ss k i = true) : tpF d f ss k i = (cF ((sel ss k).data.toList.take i) : Int) ∧ tpD d f ss k i = (cD ((sel ss k).data.toList.take i) : Int) ∧ tpS d f ss k i = (sel ss k).extract i (i + 1) := by unfold tpF tpD tpS; rw [h]; exact ⟨rfl, rfl, rfl⟩
theorem ret_iis {a a' b b' : Int} {s s' : ByteArray} (h1 : a' = a) (h2 : b' = b) (h3 : s' = s) : Ending.returned (.tuple #[.int .i64 a, .int .i64 b, .string s]) = .returned (.tuple #[.int .i64 a', .int .i64 b', .string s']) := by rw [h1, h2, h3]

set_option maxRecDepth 20000 in
set_option maxHeartbeats 1600000 in
theorem hasStrip_any (w : World) (d f : Int) (a : Option Addr) (c : Nat) (ss : List ByteArray) (h : RdS w a ss) (hz : SzS ss) (k : Int) :
    Calls Try.prog 89 #[.agg #[.int .i64 d, .int .i64 f, .slice a ss.length c], .int .i64 k] w fun e w' => e = .returned (.bool (hasV d f ss k)) ∧ Below w.heap.size w w' := by
  cases hk : okC d f ss with
  | false =>
  have R := Lib.hid (hasV_ok (k := k) hk)
  go_enter Try.func89, Try.ntmps89
  go_wp2_with fail
  refine (implCardOk_any _ _ _ _ _ _ (h.alloc _) hz).mono ?_
  rintro e u0 ⟨rfl, b0⟩
  obtain ⟨hc, hf'⟩ := bcell b0
  have hsz := b0.size
  have k0 : u0.cell? ⟨w.heap.size, 0, none⟩ = some (.int .i64 d) := by rw [hc _ _ (by simp)]; simp [go_sem]
  have k1 : u0.cell? ⟨w.heap.size, 1, none⟩ = some (.int .i64 f) := by rw [hc _ _ (by simp)]; simp [go_sem]
  have k2 : u0.cell? ⟨w.heap.size, 2, none⟩ = some (.slice a ss.length c) := by rw [hc _ _ (by simp)]; simp [go_sem]
  have B0 : Below w.heap.size w u0 := ((Below.refl _ _).alloc (Nat.le_refl _) _).trans (b0.mono (by simp))
  have hwu : w.heap.size < u0.heap.size := by simp at hsz; omega
  have r0 := h.below B0
  clear hc hf' hsz b0
  rw [hk]
  go_wp2
  go_ret
  exact ⟨ret_bool R.out.symm, B0⟩
  | true =>
  obtain ⟨_, ⟨l1, l2⟩, _⟩ := (okC_iff d f ss).1 hk
  by_cases hr : 0 ≤ k ∧ k < ss.length
  · have R := Lib.hid (hasV_mk hk hr)
    go_enter Try.func89, Try.ntmps89
    go_wp2_with fail
    refine (implCardOk_any _ _ _ _ _ _ (h.alloc _) hz).mono ?_
    rintro e u0 ⟨rfl, b0⟩
    obtain ⟨hc, hf'⟩ := bcell b0
    have hsz := b0.size
    have k0 : u0.cell? ⟨w.heap.size, 0, none⟩ = some (.int .i64 d) := by rw [hc _ _ (by simp)]; simp [go_sem]
    have k1 : u0.cell? ⟨w.heap.size, 1, none⟩ = some (.int .i64 f) := by rw [hc _ _ (by simp)]; simp [go_sem]
    have k2 : u0.cell? ⟨w.heap.size, 2, none⟩ = some (.slice a ss.length c) := by rw [hc _ _ (by simp)]; simp [go_sem]
    have B0 : Below w.heap.size w u0 := ((Below.refl _ _).alloc (Nat.le_refl _) _).trans (b0.mono (by simp))
    have hwu : w.heap.size < u0.heap.size := by simp at hsz; omega
    have r0 := h.below B0
    clear hc hf' hsz b0
    rw [hk]
    go_wp2_with fail
    refine (within_yes _ _ _ (by omega) (by omega) _).mono ?_
    rintro e w' ⟨rfl, rfl⟩
    go_wp2
    go_ret
    exact ⟨ret_bool R.out.symm, B0⟩
  · have R := Lib.hid (hasV_out (d := d) (f := f) hr)
    go_enter Try.func89, Try.ntmps89
    go_wp2_with fail
    refine (implCardOk_any _ _ _ _ _ _ (h.alloc _) hz).mono ?_
    rintro e u0 ⟨rfl, b0⟩
    obtain ⟨hc, hf'⟩ := bcell b0
    have hsz := b0.size
    have k0 : u0.cell? ⟨w.heap.size, 0, none⟩ = some (.int .i64 d) := by rw [hc _ _ (by simp)]; simp [go_sem]
    have k1 : u0.cell? ⟨w.heap.size, 1, none⟩ = some (.int .i64 f) := by rw [hc _ _ (by simp)]; simp [go_sem]
    have k2 : u0.cell? ⟨w.heap.size, 2, none⟩ = some (.slice a ss.length c) := by rw [hc _ _ (by simp)]; simp [go_sem]
    have B0 : Below w.heap.size w u0 := ((Below.refl _ _).alloc (Nat.le_refl _) _).trans (b0.mono (by simp))
    have hwu : w.heap.size < u0.heap.size := by simp at hsz; omega
    have r0 := h.below B0
    clear hc hf' hsz b0
    rw [hk]
    go_wp2_with fail
    refine (within_no _ _ _ (by omega) _).mono ?_
    rintro e w' ⟨rfl, rfl⟩
    go_wp2
    go_ret
    exact ⟨ret_bool R.out.symm, B0⟩

set_option maxRecDepth 20000 in
set_option maxHeartbeats 1600000 in
theorem hasTile_any (w : World) (d f : Int) (a : Option Addr) (c : Nat) (ss : List ByteArray) (h : RdS w a ss) (hz : SzS ss) (k i : Int) :
    Calls Try.prog 62 #[.agg #[.int .i64 d, .int .i64 f, .slice a ss.length c], .int .i64 k, .int .i64 i] w fun e w' => e = .returned (.bool (tile d f ss k i)) ∧ Below w.heap.size w w' := by
  cases hk : hasV d f ss k with
  | false =>
  have R := Lib.hid (tile_no (i := i) hk)
  go_enter Try.func62, Try.ntmps62
  go_wp2_with fail
  refine (hasStrip_any _ _ _ _ _ _ (h.alloc _) hz _).mono ?_
  rintro e u0 ⟨rfl, b0⟩
  obtain ⟨hc, hf'⟩ := bcell b0
  have hsz := b0.size
  have k0 : u0.cell? ⟨w.heap.size, 0, none⟩ = some (.int .i64 d) := by rw [hc _ _ (by simp)]; simp [go_sem]
  have k1 : u0.cell? ⟨w.heap.size, 1, none⟩ = some (.int .i64 f) := by rw [hc _ _ (by simp)]; simp [go_sem]
  have k2 : u0.cell? ⟨w.heap.size, 2, none⟩ = some (.slice a ss.length c) := by rw [hc _ _ (by simp)]; simp [go_sem]
  have B0 : Below w.heap.size w u0 := ((Below.refl _ _).alloc (Nat.le_refl _) _).trans (b0.mono (by simp))
  have hwu : w.heap.size < u0.heap.size := by simp at hsz; omega
  have r0 := h.below B0
  clear hc hf' hsz b0
  rw [hk]
  go_wp2
  go_ret
  exact ⟨ret_bool R.out.symm, B0⟩
  | true =>
  obtain ⟨hok, k1', k2'⟩ := (hasV_iff d f k ss).1 hk
  obtain ⟨_, ⟨l1, l2⟩, _⟩ := (okC_iff d f ss).1 hok
  obtain ⟨k, rfl⟩ := Int.eq_ofNat_of_zero_le k1'
  have hkl : k < ss.length := by omega
  obtain ⟨_, _, _, hsz, h16⟩ := okC_sel hok hkl
  by_cases hr : 0 ≤ i ∧ i < d + f
  · have R := Lib.hid (tile_mk hk hr)
    go_enter Try.func62, Try.ntmps62
    go_wp2_with fail
    refine (hasStrip_any _ _ _ _ _ _ (h.alloc _) hz _).mono ?_
    rintro e u0 ⟨rfl, b0⟩
    obtain ⟨hc, hf'⟩ := bcell b0
    have hsz' := b0.size
    have k0 : u0.cell? ⟨w.heap.size, 0, none⟩ = some (.int .i64 d) := by rw [hc _ _ (by simp)]; simp [go_sem]
    have k1 : u0.cell? ⟨w.heap.size, 1, none⟩ = some (.int .i64 f) := by rw [hc _ _ (by simp)]; simp [go_sem]
    have k2 : u0.cell? ⟨w.heap.size, 2, none⟩ = some (.slice a ss.length c) := by rw [hc _ _ (by simp)]; simp [go_sem]
    have B0 : Below w.heap.size w u0 := ((Below.refl _ _).alloc (Nat.le_refl _) _).trans (b0.mono (by simp))
    have hwu : w.heap.size < u0.heap.size := by simp at hsz'; omega
    have r0 := h.below B0
    clear hc hf' hsz' b0
    rw [hk]
    rcases r0 with rfl | ⟨b, o, rfl, hp, hl, hc⟩
    · simp at l1
    have g1 : u0.cell? ⟨b, o + k, none⟩ = some (.string (sel ss k)) := hc k hkl
    clear hc
    go_wp2_with fail
    refine (within_yes _ _ _ (by omega) (by omega) _).mono ?_
    rintro e w' ⟨rfl, rfl⟩
    go_wp2
    go_ret
    exact ⟨ret_bool R.out.symm, B0⟩
  · have R := Lib.hid (tile_out (k := k) (ss := ss) hr)
    go_enter Try.func62, Try.ntmps62
    go_wp2_with fail
    refine (hasStrip_any _ _ _ _ _ _ (h.alloc _) hz _).mono ?_
    rintro e u0 ⟨rfl, b0⟩
    obtain ⟨hc, hf'⟩ := bcell b0
    have hsz' := b0.size
    have k0 : u0.cell? ⟨w.heap.size, 0, none⟩ = some (.int .i64 d) := by rw [hc _ _ (by simp)]; simp [go_sem]
    have k1 : u0.cell? ⟨w.heap.size, 1, none⟩ = some (.int .i64 f) := by rw [hc _ _ (by simp)]; simp [go_sem]
    have k2 : u0.cell? ⟨w.heap.size, 2, none⟩ = some (.slice a ss.length c) := by rw [hc _ _ (by simp)]; simp [go_sem]
    have B0 : Below w.heap.size w u0 := ((Below.refl _ _).alloc (Nat.le_refl _) _).trans (b0.mono (by simp))
    have hwu : w.heap.size < u0.heap.size := by simp at hsz'; omega
    have r0 := h.below B0
    clear hc hf' hsz' b0
    rw [hk]
    rcases r0 with rfl | ⟨b, o, rfl, hp, hl, hc⟩
    · simp at l1
    have g1 : u0.cell? ⟨b, o + k, none⟩ = some (.string (sel ss k)) := hc k hkl
    clear hc
    go_wp2_with fail
    refine (within_no _ _ _ (by omega) _).mono ?_
    rintro e w' ⟨rfl, rfl⟩
    go_wp2
    go_ret
    exact ⟨ret_bool R.out.symm, B0⟩

set_option maxRecDepth 20000 in
set_option maxHeartbeats 1600000 in
theorem implTilePlace_any (w : World) (d f : Int) (a : Option Addr) (c : Nat) (ss : List ByteArray) (h : RdS w a ss) (hz : SzS ss) (k i : Int) :
    Calls Try.prog 47 #[.agg #[.int .i64 d, .int .i64 f, .slice a ss.length c], .int .i64 k, .int .i64 i] w fun e w' => e = .returned (.tuple #[.int .i64 (tpF d f ss k i), .int .i64 (tpD d f ss k i), .string (tpS d f ss k i)]) ∧ Below w.heap.size w w' := by
  cases ht : tile d f ss k i with
  | false =>
  have R := Lib.hid (tp_no ht)
  go_enter Try.func47, Try.ntmps47
  go_wp2_with fail
  refine (hasTile_any _ _ _ _ _ _ (h.alloc _) hz _ _).mono ?_
  rintro e u0 ⟨rfl, b0⟩
  obtain ⟨hc, hf'⟩ := bcell b0
  have hsz := b0.size
  have k0 : u0.cell? ⟨w.heap.size, 0, none⟩ = some (.int .i64 d) := by rw [hc _ _ (by simp)]; simp [go_sem]
  have k1 : u0.cell? ⟨w.heap.size, 1, none⟩ = some (.int .i64 f) := by rw [hc _ _ (by simp)]; simp [go_sem]
  have k2 : u0.cell? ⟨w.heap.size, 2, none⟩ = some (.slice a ss.length c) := by rw [hc _ _ (by simp)]; simp [go_sem]
  have B0 : Below w.heap.size w u0 := ((Below.refl _ _).alloc (Nat.le_refl _) _).trans (b0.mono (by simp))
  have hwu : w.heap.size < u0.heap.size := by simp at hsz; omega
  have r0 := h.below B0
  clear hc hf' hsz b0
  rw [ht]
  go_wp2
  go_ret3
  exact ⟨ret_iis R.out.1 R.out.2.1 R.out.2.2, B0⟩
  | true =>
  obtain ⟨hok, ⟨k1', k2'⟩, i1, i2⟩ := (tile_iff d f k i ss).1 ht
  obtain ⟨_, ⟨l1, l2⟩, _⟩ := (okC_iff d f ss).1 hok
  obtain ⟨k, rfl⟩ := Int.eq_ofNat_of_zero_le k1'
  obtain ⟨i, rfl⟩ := Int.eq_ofNat_of_zero_le i1
  have hk : k < ss.length := by omega
  obtain ⟨hs, _, _, hsz, h16⟩ := okC_sel hok hk
  have hi : i < (sel ss k).size := by omega
  have hm : (sel ss k).size ≤ maxLen := by unfold maxLen; omega
  have hst := strip_take hs i (by omega)
  have R := Lib.hid (tp_yes ht)
  go_enter Try.func47, Try.ntmps47
  go_wp2_with fail
  refine (hasTile_any _ _ _ _ _ _ (h.alloc _) hz _ _).mono ?_
  rintro e u0 ⟨rfl, b0⟩
  obtain ⟨hc, hf'⟩ := bcell b0
  have hsz' := b0.size
  have k0 : u0.cell? ⟨w.heap.size, 0, none⟩ = some (.int .i64 d) := by rw [hc _ _ (by simp)]; simp [go_sem]
  have k1 : u0.cell? ⟨w.heap.size, 1, none⟩ = some (.int .i64 f) := by rw [hc _ _ (by simp)]; simp [go_sem]
  have k2 : u0.cell? ⟨w.heap.size, 2, none⟩ = some (.slice a ss.length c) := by rw [hc _ _ (by simp)]; simp [go_sem]
  have B0 : Below w.heap.size w u0 := ((Below.refl _ _).alloc (Nat.le_refl _) _).trans (b0.mono (by simp))
  have hwu : w.heap.size < u0.heap.size := by simp at hsz'; omega
  have r0 := h.below B0
  clear hc hf' hsz' b0
  rw [ht]
  rcases r0 with rfl | ⟨b, o, rfl, hp, hl, hc⟩
  · simp at l1
  have g1 : u0.cell? ⟨b, o + k, none⟩ = some (.string (sel ss k)) := hc k hk
  clear hc
  go_wp2_with fail
  refine (forwards_any _ _ (by omega) hm _).mono ?_
  rintro e w' ⟨rfl, rfl⟩
  have e1 : IntKind.i64.wrap ((i : Int) - (cF ((sel ss k).data.toList.take i) : Int)) = (cD ((sel ss k).data.toList.take i) : Int) := by rw [IntWalk.i64_in _ (by omega)]; omega
  have e2 : IntKind.i64.wrap ((i : Int) + 1) = (i : Int) + 1 := IntWalk.i64_in _ (by omega)
  have e3 : ((i : Int) + 1).toNat = i + 1 := by omega
  have e4 : (i : Int) ≤ (i : Int) + 1 := by omega
  have e5 : (0 : Int) ≤ (i : Int) + 1 := by omega
  have e6 : (i : Int) + 1 ≤ ((sel ss k).size : Int) := by omega
  go_wp2
  go_quiet (fail)
  go_wp2
  go_ret3
  exact ⟨ret_iis R.out.1 R.out.2.1 R.out.2.2, dr_bel B0 ⟨_, rfl⟩⟩

set_option maxRecDepth 20000 in
set_option maxHeartbeats 1600000 in
theorem isSameStepC (s t : ByteArray) (i : Nat) (hi : i < s.size) (hj : i < t.size) (hm : s.size ≤ maxLen) (hm2 : t.size ≤ maxLen) (hi0 : i ≤ 9223372036854775807) (w : World) :
    Calls Try.prog 81 #[.string s, .string t, .int .i64 i] w fun e w' => e = .returned (.bool (sameV s t i)) ∧ ∃ n, w' = w.drewN n := by
  by_cases hq : byt s i = byt t i
  · have R := Lib.hid (sameV_yes hq)
    have hb : ((s[i].toNat : Int) == (t[i].toNat : Int)) = true := by rw [byt_get s i hi, byt_get t i hj] at hq; rw [hq]; simp
    have J := Lib.hid (int_beq (cF (s.data.toList.take i)) (cF (t.data.toList.take i)))
    clear hq
    go_enter Try.func81, Try.ntmps81
    go_wp2
    go_quiet ((go_at_call 80; exact Calls.quiet_of_same ((forwards_any _ _ (by omega) (by assumption) _).mono fun _ _ h => ⟨h.1, h.2.symm⟩)))
    go_wp2
    go_ret
    exact ⟨ret_bool (by rw [R.out]; exact J.out), ⟨_, rfl⟩⟩
  · have R := Lib.hid (sameV_no hq)
    have hb : ((s[i].toNat : Int) == (t[i].toNat : Int)) = false := by rw [byt_get s i hi, byt_get t i hj] at hq; rw [int_beq]; exact decide_eq_false (fun h => hq (UInt8.toNat_inj.1 h))
    clear hq
    go_enter Try.func81, Try.ntmps81
    go_wp2
    go_quiet ((go_at_call 80; exact Calls.quiet_of_same ((forwards_any _ _ (by omega) (by assumption) _).mono fun _ _ h => ⟨h.1, h.2.symm⟩)))
    go_wp2
    go_ret
    exact ⟨ret_bool R.out.symm, ⟨_, rfl⟩⟩

end Go.Proofs.Ytmpbhhggbmjfcaa
