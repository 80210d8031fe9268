/- Contracts of FaceOf, CountFaces, FaceSize, both sides. -/
import Derived.Test.YtmpbhhggbmjfcaaFaceI
import Derived.Test.YtmpbhhggbmjfcaaHand
import Derived.Deep.RegionHeld3
namespace Go.Proofs.Ytmpbhhggbmjfcaa
open Go.RowKit
set_option linter.unusedVariables false
set_option linter.unusedSimpArgs false
set_option maxRecDepth 20000

theorem dr_bl {B : Nat} {w w1 w2 : World} (h : Below B w w1) (hd : ∃ n, w2 = w1.drewN n) : Below B w w2 := dr_below' h hd
def LabP (d f : Int) (ss : List ByteArray) (lab : Nat → Nat) : Prop := Labels (Ed ss (d + f).toNat (ss.length * (d + f).toNat)) (ss.length * (d + f).toNat) lab
def fV (d f : Int) (ss : List ByteArray) (lab : Nat → Nat) (k i : Int) : Int := if tile d f ss k i then (lab (k.toNat * (d + f).toNat + i.toNat) : Int) else -1
def cfV (d f : Int) (ss : List ByteArray) (lab : Nat → Nat) : Int := if okC d f ss then (nxt lab (ss.length * (d + f).toNat) : Int) else 0
def fsV (d f : Int) (ss : List ByteArray) (lab : Nat → Nat) (face : Int) : Int := if okC d f ss then (cnt (fun t => (lab t : Int)) face (ss.length * (d + f).toNat) : Int) else 0
theorem fV_no {d f k i : Int} {ss : List ByteArray} {lab : Nat → Nat} (h : tile d f ss k i = false) : fV d f ss lab k i = -1 := by unfold fV; rw [h]; rfl
theorem fV_yes {d f k i : Int} {ss : List ByteArray} {lab : Nat → Nat} (h : tile d f ss k i = true) : fV d f ss lab k i = (lab (k.toNat * (d + f).toNat + i.toNat) : Int) := by unfold fV; rw [if_pos h]
theorem cfV_no {d f : Int} {ss : List ByteArray} {lab : Nat → Nat} (h : okC d f ss = false) : cfV d f ss lab = 0 := by unfold cfV; rw [h]; rfl
theorem cfV_yes {d f : Int} {ss : List ByteArray} {lab : Nat → Nat} (h : okC d f ss = true) : cfV d f ss lab = (nxt lab (ss.length * (d + f).toNat) : Int) := by unfold cfV; rw [if_pos h]
theorem fsV_no {d f face : Int} {ss : List ByteArray} {lab : Nat → Nat} (h : okC d f ss = false) : fsV d f ss lab face = 0 := by unfold fsV; rw [h]; rfl
theorem fsV_yes {d f face : Int} {ss : List ByteArray} {lab : Nat → Nat} (h : okC d f ss = true) : fsV d f ss lab face = (cnt (fun t => (lab t : Int)) face (ss.length * (d + f).toNat) : Int) := by unfold fsV; rw [if_pos h]
theorem tile_small {d f k i : Int} {ss : List ByteArray} (h : tile d f ss k i = true) : k.toNat * (d + f).toNat + i.toNat < (ss.length * (d + f).toNat) := by
  obtain ⟨_, ⟨h1, h2⟩, h3, h4⟩ := (tile_iff d f k i ss).1 h
  exact tile_lt (by omega) (by omega)
theorem fV_same {d f k i : Int} {ss : List ByteArray} {lab lab' : Nat → Nat} (h : tile d f ss k i = true → LabP d f ss lab) (h' : tile d f ss k i = true → LabP d f ss lab') : fV d f ss lab k i = fV d f ss lab' k i := by
  cases ht : tile d f ss k i with
  | false => rw [fV_no ht, fV_no ht]
  | true => rw [fV_yes ht, fV_yes ht, labels_unique (h ht) (h' ht) _ (Nat.le_refl _) _ (tile_small ht)]
theorem cfV_same {d f : Int} {ss : List ByteArray} {lab lab' : Nat → Nat} (h : okC d f ss = true → LabP d f ss lab) (h' : okC d f ss = true → LabP d f ss lab') : cfV d f ss lab = cfV d f ss lab' := by
  cases hk : okC d f ss with
  | false => rw [cfV_no hk, cfV_no hk]
  | true => rw [cfV_yes hk, cfV_yes hk, nxt_congr (labels_unique (h hk) (h' hk) _ (Nat.le_refl _))]
theorem fsV_same {d f face : Int} {ss : List ByteArray} {lab lab' : Nat → Nat} (h : okC d f ss = true → LabP d f ss lab) (h' : okC d f ss = true → LabP d f ss lab') : fsV d f ss lab face = fsV d f ss lab' face := by
  cases hk : okC d f ss with
  | false => rw [fsV_no hk, fsV_no hk]
  | true =>
    have e : cnt (fun t => (lab t : Int)) face (ss.length * (d + f).toNat) = cnt (fun t => (lab' t : Int)) face (ss.length * (d + f).toNat) := cnt_congr (fun x hx => by
      show (lab x : Int) = face ↔ (lab' x : Int) = face
      rw [labels_unique (h hk) (h' hk) _ (Nat.le_refl _) x hx])
    rw [fsV_yes hk, fsV_yes hk, e]
theorem ret_int' {a b : Int} (h : b = a) : Ending.returned (.int .i64 a) = .returned (.int .i64 b) := by rw [h]
theorem nn_eq {d f : Int} {ss : List ByteArray} (h : okC d f ss = true) : (((d + f).toNat : Nat) : Int) = d + f := by
  obtain ⟨⟨d1, _, f1, _⟩, _, _⟩ := (okC_iff d f ss).1 h
  omega
theorem cnt_none {lab : Nat → Nat} {face : Int} {m : Nat} (h : face < 0 ∨ (nxt lab m : Int) ≤ face) : cnt (fun t => (lab t : Int)) face m = 0 := cnt_zero (fun x hx e => by
  have h1 := nxt_lt (lab := lab) hx
  have e' : (lab x : Int) = face := e
  omega)
set_option maxHeartbeats 3200000 in
theorem implFaceOf_ex (w : World) (d f : Int) (a : Option Addr) (c : Nat) (ss : List ByteArray) (h : RdS w a ss) (hz : SzS ss) (k i : Int) :
    Calls Try.prog 22 #[.agg #[.int .i64 d, .int .i64 f, .slice a ss.length c], .int .i64 k, .int .i64 i] w fun e w' => ∃ lab, (tile d f ss k i = true → LabP d f ss lab) ∧ e = .returned (.int .i64 (fV d f ss lab k i)) ∧ Below w.heap.size w w' := by
  cases ht : tile d f ss k i with
  | false =>
    go_enter Try.func22, Try.ntmps22
    go_wp2_with fail
    refine (hasTile_any _ _ _ _ _ _ (h.alloc _) hz k i).mono ?_
    rintro e u0 ⟨rfl, b0⟩
    obtain ⟨hc, hf'⟩ := bcell b0
    have hsz := b0.size
    have k0 : u0.cell? ⟨w.heap.size, 0, none⟩ = some (.int .i64 d) := by rw [hc _ _ (by simp)]; simp [go_sem]
    have k1 : u0.cell? ⟨w.heap.size, 1, none⟩ = some (.int .i64 f) := by rw [hc _ _ (by simp)]; simp [go_sem]
    have k2 : u0.cell? ⟨w.heap.size, 2, none⟩ = some (.slice a ss.length c) := by rw [hc _ _ (by simp)]; simp [go_sem]
    have B0 : Below w.heap.size w u0 := ((Below.refl _ _).alloc (Nat.le_refl _) _).trans (b0.mono (by simp))
    have hwu : w.heap.size < u0.heap.size := by simp at hsz; omega
    have r0 := h.below B0
    clear hc hf' hsz b0
    rw [ht]
    go_wp2
    go_ret
    exact ⟨fun _ => 0, (fun h => by cases h), ret_int' (fV_no ht), B0⟩
  | true =>
    obtain ⟨hok, ⟨k1', k2'⟩, i1, i2⟩ := (tile_iff d f k i ss).1 ht
    have hnn := nn_eq hok
    have R := Lib.hid (fun lab => fV_yes (lab := lab) ht)
    have HTS := Lib.hid (tile_small ht)
    have HHT := Lib.hid ht
    obtain ⟨k, rfl⟩ := Int.eq_ofNat_of_zero_le k1'
    obtain ⟨i, rfl⟩ := Int.eq_ofNat_of_zero_le i1
    have hk : k < ss.length := by omega
    have hi : i < (d + f).toNat := by omega
    have HI := Lib.hid hi
    rw [Int.toNat_natCast, Int.toNat_natCast] at R HTS
    go_enter Try.func22, Try.ntmps22
    go_wp2_with fail
    refine (hasTile_any _ _ _ _ _ _ (h.alloc _) hz (k : Int) (i : Int)).mono ?_
    rintro e u0 ⟨rfl, b0⟩
    obtain ⟨hc, hf'⟩ := bcell b0
    have hsz := b0.size
    have k0 : u0.cell? ⟨w.heap.size, 0, none⟩ = some (.int .i64 d) := by rw [hc _ _ (by simp)]; simp [go_sem]
    have k1 : u0.cell? ⟨w.heap.size, 1, none⟩ = some (.int .i64 f) := by rw [hc _ _ (by simp)]; simp [go_sem]
    have k2 : u0.cell? ⟨w.heap.size, 2, none⟩ = some (.slice a ss.length c) := by rw [hc _ _ (by simp)]; simp [go_sem]
    have B0 : Below w.heap.size w u0 := ((Below.refl _ _).alloc (Nat.le_refl _) _).trans (b0.mono (by simp))
    have hwu : w.heap.size < u0.heap.size := by simp at hsz; omega
    have r0 := h.below B0
    clear hc hf' hsz b0
    rw [HHT.out]
    rcases r0 with rfl | ⟨b, o, rfl, hp, hl, hc⟩
    · simp at hk
    have r1 : RdS u0 (some ⟨b, o, none⟩) ss := .inr ⟨b, o, rfl, hp, hl, hc⟩
    clear hc hp hl
    go_wp2_with fail
    refine (faces_any _ d f b o c ss (d + f).toNat (ss.length * (d + f).toNat) r1 hok hz hnn rfl).mono ?_
    rintro e u1 ⟨g, cap, G, C, M, n, v2, rfl, oR, oI, hF, b1⟩
    have c1 := oR.cellM k hk
    have c2 := oR.atM k i hk hi
    have HL : Hid (LabP d f ss fun t => (M t).toNat) := Lib.hid (labels_of_flood ed_lt hF)
    have HP := Lib.hid (hF.1 _ HTS.out)
    have hB : Below w.heap.size w u1 := B0.trans (b1.mono (by omega))
    have x1 : (k : Int) < (ss.length : Int) := by omega
    have x2 : (i : Int) < ((d + f).toNat : Int) := by omega
    clear oR oI hF b1 i2 hnn hi
    generalize (d + f).toNat = N at *
    go_wp2
    go_ret
    exact ⟨fun t => (M t).toNat, fun _ => HL.out, ret_int' (by rw [R.out]; have := HP.out; show ((M (k * N + i)).toNat : Int) = _; omega), hB⟩

set_option maxHeartbeats 3200000 in
theorem implCountFaces_ex (w : World) (d f : Int) (a : Option Addr) (c : Nat) (ss : List ByteArray) (h : RdS w a ss) (hz : SzS ss)  :
    Calls Try.prog 25 #[.agg #[.int .i64 d, .int .i64 f, .slice a ss.length c]] w fun e w' => ∃ lab, (okC d f ss = true → LabP d f ss lab) ∧ e = .returned (.int .i64 (cfV d f ss lab)) ∧ Below w.heap.size w w' := by
  cases hok : okC d f ss with
  | false =>
    go_enter Try.func25, Try.ntmps25
    go_wp2_with fail
    refine (implCardOk_any _ _ _ _ _ _ (h.alloc _) hz).mono ?_
    rintro e u0 ⟨rfl, b0⟩
    obtain ⟨hc, hf'⟩ := bcell b0
    have hsz := b0.size
    have k0 : u0.cell? ⟨w.heap.size, 0, none⟩ = some (.int .i64 d) := by rw [hc _ _ (by simp)]; simp [go_sem]
    have k1 : u0.cell? ⟨w.heap.size, 1, none⟩ = some (.int .i64 f) := by rw [hc _ _ (by simp)]; simp [go_sem]
    have k2 : u0.cell? ⟨w.heap.size, 2, none⟩ = some (.slice a ss.length c) := by rw [hc _ _ (by simp)]; simp [go_sem]
    have B0 : Below w.heap.size w u0 := ((Below.refl _ _).alloc (Nat.le_refl _) _).trans (b0.mono (by simp))
    have hwu : w.heap.size < u0.heap.size := by simp at hsz; omega
    have r0 := h.below B0
    clear hc hf' hsz b0
    rw [hok]
    go_wp2
    go_ret
    exact ⟨fun _ => 0, (fun h => by cases h), ret_int' (cfV_no hok), B0⟩
  | true =>
    have hnn := nn_eq hok
    have R := Lib.hid (fun lab => cfV_yes (lab := lab) hok)
    have l1 := ((okC_iff d f ss).1 hok).2.1.1
    have HOK := Lib.hid hok
    go_enter Try.func25, Try.ntmps25
    go_wp2_with fail
    refine (implCardOk_any _ _ _ _ _ _ (h.alloc _) hz).mono ?_
    rintro e u0 ⟨rfl, b0⟩
    obtain ⟨hc, hf'⟩ := bcell b0
    have hsz := b0.size
    have k0 : u0.cell? ⟨w.heap.size, 0, none⟩ = some (.int .i64 d) := by rw [hc _ _ (by simp)]; simp [go_sem]
    have k1 : u0.cell? ⟨w.heap.size, 1, none⟩ = some (.int .i64 f) := by rw [hc _ _ (by simp)]; simp [go_sem]
    have k2 : u0.cell? ⟨w.heap.size, 2, none⟩ = some (.slice a ss.length c) := by rw [hc _ _ (by simp)]; simp [go_sem]
    have B0 : Below w.heap.size w u0 := ((Below.refl _ _).alloc (Nat.le_refl _) _).trans (b0.mono (by simp))
    have hwu : w.heap.size < u0.heap.size := by simp at hsz; omega
    have r0 := h.below B0
    clear hc hf' hsz b0
    rw [HOK.out]
    rcases r0 with rfl | ⟨b, o, rfl, hp, hl, hc⟩
    · simp at l1
    have r1 : RdS u0 (some ⟨b, o, none⟩) ss := .inr ⟨b, o, rfl, hp, hl, hc⟩
    clear hc hp hl
    go_wp2_with fail
    refine (faces_any _ d f b o c ss (d + f).toNat (ss.length * (d + f).toNat) r1 hok hz hnn rfl).mono ?_
    rintro e u1 ⟨g, cap, G, C, M, n, v2, rfl, oR, oI, hF, b1⟩
    have HL := Lib.hid (labels_of_flood ed_lt hF)
    have HN := Lib.hid hF.2.2.2.2.2.1
    have hB : Below w.heap.size w u1 := B0.trans (b1.mono (by omega))
    obtain ⟨sa, sc, hv⟩ := owni_sl oI
    rw [szs_length] at hv
    subst hv
    clear oR oI hF b1 hnn
    go_wp2
    go_ret
    exact ⟨fun t => (M t).toNat, fun _ => HL.out, ret_int' (by rw [R.out, ← HN.out]), hB⟩

set_option maxHeartbeats 3200000 in
theorem implFaceSize_ex (w : World) (d f : Int) (a : Option Addr) (c : Nat) (ss : List ByteArray) (h : RdS w a ss) (hz : SzS ss) (face : Int) :
    Calls Try.prog 27 #[.agg #[.int .i64 d, .int .i64 f, .slice a ss.length c], .int .i64 face] w fun e w' => ∃ lab, (okC d f ss = true → LabP d f ss lab) ∧ e = .returned (.int .i64 (fsV d f ss lab face)) ∧ Below w.heap.size w w' := by
  cases hok : okC d f ss with
  | false =>
    go_enter Try.func27, Try.ntmps27
    go_wp2_with fail
    refine (implCardOk_any _ _ _ _ _ _ (h.alloc _) hz).mono ?_
    rintro e u0 ⟨rfl, b0⟩
    obtain ⟨hc, hf'⟩ := bcell b0
    have hsz := b0.size
    have k0 : u0.cell? ⟨w.heap.size, 0, none⟩ = some (.int .i64 d) := by rw [hc _ _ (by simp)]; simp [go_sem]
    have k1 : u0.cell? ⟨w.heap.size, 1, none⟩ = some (.int .i64 f) := by rw [hc _ _ (by simp)]; simp [go_sem]
    have k2 : u0.cell? ⟨w.heap.size, 2, none⟩ = some (.slice a ss.length c) := by rw [hc _ _ (by simp)]; simp [go_sem]
    have B0 : Below w.heap.size w u0 := ((Below.refl _ _).alloc (Nat.le_refl _) _).trans (b0.mono (by simp))
    have hwu : w.heap.size < u0.heap.size := by simp at hsz; omega
    have r0 := h.below B0
    clear hc hf' hsz b0
    rw [hok]
    go_wp2
    go_ret
    exact ⟨fun _ => 0, (fun h => by cases h), ret_int' (fsV_no hok), B0⟩
  | true =>
    have hnn := nn_eq hok
    have R := Lib.hid (fun lab => fsV_yes (lab := lab) (face := face) hok)
    have l1 := ((okC_iff d f ss).1 hok).2.1.1
    have l2 := ((okC_iff d f ss).1 hok).2.1.2
    have hd := ((okC_iff d f ss).1 hok).1
    have M2 : (ss.length * (d + f).toNat) ≤ 160 := Nat.le_trans (Nat.mul_le_mul l2 (show (d + f).toNat ≤ 16 by omega)) (by decide)
    have HOK := Lib.hid hok
    go_enter Try.func27, Try.ntmps27
    go_wp2_with fail
    refine (implCardOk_any _ _ _ _ _ _ (h.alloc _) hz).mono ?_
    rintro e u0 ⟨rfl, b0⟩
    obtain ⟨hc, hf'⟩ := bcell b0
    have hsz := b0.size
    have k0 : u0.cell? ⟨w.heap.size, 0, none⟩ = some (.int .i64 d) := by rw [hc _ _ (by simp)]; simp [go_sem]
    have k1 : u0.cell? ⟨w.heap.size, 1, none⟩ = some (.int .i64 f) := by rw [hc _ _ (by simp)]; simp [go_sem]
    have k2 : u0.cell? ⟨w.heap.size, 2, none⟩ = some (.slice a ss.length c) := by rw [hc _ _ (by simp)]; simp [go_sem]
    have B0 : Below w.heap.size w u0 := ((Below.refl _ _).alloc (Nat.le_refl _) _).trans (b0.mono (by simp))
    have hwu : w.heap.size < u0.heap.size := by simp at hsz; omega
    have r0 := h.below B0
    clear hc hf' hsz b0
    rw [HOK.out]
    rcases r0 with rfl | ⟨b, o, rfl, hp, hl, hc⟩
    · simp at l1
    have r1 : RdS u0 (some ⟨b, o, none⟩) ss := .inr ⟨b, o, rfl, hp, hl, hc⟩
    clear hc hp hl
    go_wp2_with fail
    refine (faces_any _ d f b o c ss (d + f).toNat (ss.length * (d + f).toNat) r1 hok hz hnn rfl).mono ?_
    rintro e u1 ⟨g, cap, G, C, M, n, v2, rfl, oR, oI, hF, b1⟩
    have HL := Lib.hid (labels_of_flood ed_lt hF)
    have HN := Lib.hid hF.2.2.2.2.2.1
    have hnm := hF.nle
    have HC := Lib.hid (fun face => cnt_congr (M := M) (M' := fun t => (((M t).toNat : Nat) : Int)) (f := face) (m := (ss.length * (d + f).toNat)) (fun x hx => by
      have := hF.1 x hx
      show M x = face ↔ ((M x).toNat : Int) = face
      omega))
    have hB : Below w.heap.size w u1 := B0.trans (b1.mono (by omega))
    have e1 : IntKind.i64.wrap ((n : Int) - 1) = (n : Int) - 1 := IntWalk.i64_in _ (by omega)
    by_cases hfc : 0 ≤ face ∧ face < n
    · obtain ⟨f1, f2⟩ := hfc
      obtain ⟨fc, rfl⟩ := Int.eq_ofNat_of_zero_le f1
      have hfn : fc < n := by omega
      rcases oI.form with ⟨_, _, _, h0⟩ | ⟨gs, cs, hv, _, _⟩
      · have := szs_length M n (ss.length * (d + f).toNat); rw [h0] at this; simp at this; omega
      subst hv
      have cz := oI.cell fc (by rw [szs_length]; exact hfn)
      have hg : (szs M n (ss.length * (d + f).toNat))[fc]'(by rw [szs_length]; exact hfn) = ((cnt M fc (ss.length * (d + f).toNat) : Nat) : Int) := by simp [szs]
      rw [hg] at cz
      rw [szs_length]
      clear oR oI hF b1 hnn hg
      go_wp2_with fail
      refine (within_yes _ _ _ (by omega) (by omega) _).mono ?_
      rintro e w' ⟨rfl, rfl⟩
      go_wp2
      go_ret
      exact ⟨fun t => (M t).toNat, fun _ => HL.out, ret_int' (by rw [R.out, ← HC.out]), hB⟩
    · obtain ⟨sa, sc, hv⟩ := owni_sl oI
      rw [szs_length] at hv
      subst hv
      clear oR oI hF b1 hnn
      have H : Hid (face < 0 ∨ (n : Int) ≤ face) := Lib.hid (by omega)
      clear hfc
      go_wp2_with fail
      refine (within_no _ _ _ (by have := H.out; omega) _).mono ?_
      rintro e w' ⟨rfl, rfl⟩
      go_wp2
      go_ret
      exact ⟨fun t => (M t).toNat, fun _ => HL.out, ret_int' (by rw [R.out, cnt_none (by rw [← HN.out]; exact H.out)]; rfl), hB⟩

set_option maxHeartbeats 3200000 in
theorem specFaceOf_ex (w : World) (d f : Int) (a : Option Addr) (c : Nat) (ss : List ByteArray) (h : RdS w a ss) (hz : SzS ss) (k i : Int) :
    Calls Try.prog 20 #[.agg #[.int .i64 d, .int .i64 f, .slice a ss.length c], .int .i64 k, .int .i64 i] w fun e w' => ∃ lab, (tile d f ss k i = true → LabP d f ss lab) ∧ e = .returned (.int .i64 (fV d f ss lab k i)) ∧ Below w.heap.size w w' := by
  cases hok : okC d f ss with
  | false =>
    have R := Lib.hid (fun lab => fV_no (lab := lab) (tile_no (i := i) (hasV_ok (k := k) hok)))
    have HTN := Lib.hid (tile_no (i := i) (hasV_ok (k := k) hok))
    go_enter Try.func20, Try.ntmps20
    go_wp2_with fail
    refine (specCardOk_any _ _ _ _ _ _ (h.alloc _) hz).mono ?_
    rintro e u0 ⟨rfl, b0⟩
    obtain ⟨hc, hf'⟩ := bcell b0
    have hsz := b0.size
    have k0 : u0.cell? ⟨w.heap.size, 0, none⟩ = some (.int .i64 d) := by rw [hc _ _ (by simp)]; simp [go_sem]
    have k1 : u0.cell? ⟨w.heap.size, 1, none⟩ = some (.int .i64 f) := by rw [hc _ _ (by simp)]; simp [go_sem]
    have k2 : u0.cell? ⟨w.heap.size, 2, none⟩ = some (.slice a ss.length c) := by rw [hc _ _ (by simp)]; simp [go_sem]
    have B0 : Below w.heap.size w u0 := ((Below.refl _ _).alloc (Nat.le_refl _) _).trans (b0.mono (by simp))
    have hwu : w.heap.size < u0.heap.size := by simp at hsz; omega
    have r0 := h.below B0
    clear hc hf' hsz b0
    rw [hok]
    go_wp2
    go_ret
    exact ⟨fun _ => 0, (fun h => by rw [HTN.out] at h; cases h), ret_int' (R.out _), B0⟩
  | true =>
    have hnn := nn_eq hok
    obtain ⟨⟨d1, d2, f1, f2⟩, ⟨l1, l2⟩, _⟩ := (okC_iff d f ss).1 hok
    have X1 : IntKind.i64.wrap (d + f) = d + f := IntWalk.i64_in _ (by omega)
    have X2 : IntKind.i64.wrap (d + f - 1) = d + f - 1 := IntWalk.i64_in _ (by omega)
    have X3 : IntKind.i64.wrap ((ss.length : Int) - 1) = (ss.length : Int) - 1 := IntWalk.i64_in _ (by omega)
    by_cases hkr : 0 ≤ k ∧ k < ss.length
    rotate_left
    · have HTN := Lib.hid (tile_no (i := i) (hasV_out (d := d) (f := f) hkr))
      go_enter Try.func20, Try.ntmps20
      go_wp2_with fail
      refine (specCardOk_any _ _ _ _ _ _ (h.alloc _) hz).mono ?_
      rintro e u0 ⟨rfl, b0⟩
      obtain ⟨hc, hf'⟩ := bcell b0
      have hsz := b0.size
      have k0 : u0.cell? ⟨w.heap.size, 0, none⟩ = some (.int .i64 d) := by rw [hc _ _ (by simp)]; simp [go_sem]
      have k1 : u0.cell? ⟨w.heap.size, 1, none⟩ = some (.int .i64 f) := by rw [hc _ _ (by simp)]; simp [go_sem]
      have k2 : u0.cell? ⟨w.heap.size, 2, none⟩ = some (.slice a ss.length c) := by rw [hc _ _ (by simp)]; simp [go_sem]
      have B0 : Below w.heap.size w u0 := ((Below.refl _ _).alloc (Nat.le_refl _) _).trans (b0.mono (by simp))
      have hwu : w.heap.size < u0.heap.size := by simp at hsz; omega
      have r0 := h.below B0
      clear hc hf' hsz b0
      rw [hok]
      go_wp2_with fail
      refine (in_no _ _ _ (by omega) _).mono ?_
      rintro e w' ⟨rfl, rfl⟩
      go_wp2
      go_ret
      exact ⟨fun _ => 0, (fun h => by rw [HTN.out] at h; cases h), ret_int' (fV_no HTN.out), B0⟩
    by_cases hir : 0 ≤ i ∧ i < d + f
    rotate_left
    · have HTN := Lib.hid (tile_out (k := k) (ss := ss) hir)
      go_enter Try.func20, Try.ntmps20
      go_wp2_with fail
      refine (specCardOk_any _ _ _ _ _ _ (h.alloc _) hz).mono ?_
      rintro e u0 ⟨rfl, b0⟩
      obtain ⟨hc, hf'⟩ := bcell b0
      have hsz := b0.size
      have k0 : u0.cell? ⟨w.heap.size, 0, none⟩ = some (.int .i64 d) := by rw [hc _ _ (by simp)]; simp [go_sem]
      have k1 : u0.cell? ⟨w.heap.size, 1, none⟩ = some (.int .i64 f) := by rw [hc _ _ (by simp)]; simp [go_sem]
      have k2 : u0.cell? ⟨w.heap.size, 2, none⟩ = some (.slice a ss.length c) := by rw [hc _ _ (by simp)]; simp [go_sem]
      have B0 : Below w.heap.size w u0 := ((Below.refl _ _).alloc (Nat.le_refl _) _).trans (b0.mono (by simp))
      have hwu : w.heap.size < u0.heap.size := by simp at hsz; omega
      have r0 := h.below B0
      clear hc hf' hsz b0
      rw [hok]
      go_wp2_with fail
      refine (in_yes _ _ _ (by omega) (by omega) _).mono ?_
      rintro e w' ⟨rfl, rfl⟩
      go_wp2_with fail
      refine (in_no _ _ _ (by omega) _).mono ?_
      rintro e w' ⟨rfl, rfl⟩
      go_wp2
      go_ret
      exact ⟨fun _ => 0, (fun h => by rw [HTN.out] at h; cases h), ret_int' (fV_no HTN.out), B0⟩
    have ht := tile_mk (hasV_mk hok hkr) hir
    have R := Lib.hid (fun lab => fV_yes (lab := lab) ht)
    have HTS := Lib.hid (tile_small ht)
    clear ht
    obtain ⟨k1', k2'⟩ := hkr
    obtain ⟨i1, i2⟩ := hir
    obtain ⟨k, rfl⟩ := Int.eq_ofNat_of_zero_le k1'
    obtain ⟨i, rfl⟩ := Int.eq_ofNat_of_zero_le i1
    rw [Int.toNat_natCast, Int.toNat_natCast] at R HTS
    obtain ⟨t, hti⟩ : ∃ t, k * (d + f).toNat + i = t := ⟨_, rfl⟩
    have M2 : (ss.length * (d + f).toNat) ≤ 160 := Nat.le_trans (Nat.mul_le_mul l2 (show (d + f).toNat ≤ 16 by omega)) (by decide)
    have hkn : (k : Int) * (d + f) = ((k * (d + f).toNat : Nat) : Int) := by rw [Int.natCast_mul, hnn]
    rw [hti] at R HTS
    have hts := HTS.out
    have X4 : IntKind.i64.wrap ((k : Int) * (d + f)) = ((k * (d + f).toNat : Nat) : Int) := by rw [hkn]; exact IntWalk.i64_in _ (by omega)
    have X4' : IntKind.i64.wrap (((k * (d + f).toNat : Nat) : Int) + (i : Int)) = (t : Int) := by rw [← Int.natCast_add, hti]; exact IntWalk.i64_in _ (by omega)
    obtain ⟨p, hp⟩ : ∃ p, k * (d + f).toNat = p := ⟨_, rfl⟩
    rw [hp] at X4 X4'
    obtain ⟨m, hm⟩ : ∃ m, (ss.length * (d + f).toNat) = m := ⟨_, rfl⟩
    rw [hm] at HTS hts M2
    have HL := Lib.hid (fun (u : World) hu => l06_any u d f a c ss (d + f).toNat m hu hok hnn hm)
    have HQM := Lib.hid hm
    have X5 : (t : Int) < (m : Int) := by omega
    clear hti hkn hp hm
    go_enter Try.func20, Try.ntmps20
    go_wp2_with fail
    refine (specCardOk_any _ _ _ _ _ _ (h.alloc _) hz).mono ?_
    rintro e u0 ⟨rfl, b0⟩
    obtain ⟨hc, hf'⟩ := bcell b0
    have hsz := b0.size
    have k0 : u0.cell? ⟨w.heap.size, 0, none⟩ = some (.int .i64 d) := by rw [hc _ _ (by simp)]; simp [go_sem]
    have k1 : u0.cell? ⟨w.heap.size, 1, none⟩ = some (.int .i64 f) := by rw [hc _ _ (by simp)]; simp [go_sem]
    have k2 : u0.cell? ⟨w.heap.size, 2, none⟩ = some (.slice a ss.length c) := by rw [hc _ _ (by simp)]; simp [go_sem]
    have B0 : Below w.heap.size w u0 := ((Below.refl _ _).alloc (Nat.le_refl _) _).trans (b0.mono (by simp))
    have hwu : w.heap.size < u0.heap.size := by simp at hsz; omega
    have r0 := h.below B0
    clear hc hf' hsz b0
    rw [hok]
    go_wp2_with fail
    refine (in_yes _ _ _ (by omega) (by omega) _).mono ?_
    rintro e w' ⟨rfl, rfl⟩
    go_wp2_with fail
    refine (in_yes _ _ _ (by omega) (by omega) _).mono ?_
    rintro e w' ⟨rfl, rfl⟩
    clear hok hnn d1 d2 f1 f2 k1' k2' i1 i2 l1 l2 M2
    go_wp2
    refine wp_hand (S := fun w' => w'.cell? ⟨w.heap.size, 0, none⟩ = some (.int .i64 d) ∧ w'.cell? ⟨w.heap.size, 1, none⟩ = some (.int .i64 f) ∧ w'.cell? ⟨w.heap.size, 2, none⟩ = some (.slice a ss.length c)) (by kernel_rfl) ⟨k0, k1, k2⟩ (fun _ _ d _ _ h => by cases d <;> exact h) (fun hBl hHeld => ?_)
    refine take2 (i := 0) (v := ?_) (d := some 30) hBl rfl rfl (by kernel_rfl) (by kernel_rfl) (by kernel_rfl) (by kernel_rfl) ?_ hHeld ?_
    rotate_left
    · (intro w hSw; (try dsimp only at hSw); go_simp <;> with_reducible rfl)
    try simp only [Act.put, List.setIfInBounds_toArray, List.set_cons_zero, List.set_cons_succ]
    refine take2 (i := 2) (v := ?_) (d := some 32) hBl rfl rfl (by kernel_rfl) (by kernel_rfl) (by kernel_rfl) (by kernel_rfl) ?_ hHeld ?_
    rotate_left
    · (intro w hSw; (try dsimp only at hSw); go_simp <;> with_reducible rfl)
    try simp only [Act.put, List.setIfInBounds_toArray, List.set_cons_zero, List.set_cons_succ]
    refine take2 (i := 3) (v := ?_) (d := some 33) hBl rfl rfl (by kernel_rfl) (by kernel_rfl) (by kernel_rfl) (by kernel_rfl) ?_ hHeld ?_
    rotate_left
    · (intro w hSw; (try dsimp only at hSw); go_simp <;> with_reducible rfl)
    try simp only [Act.put, List.setIfInBounds_toArray, List.set_cons_zero, List.set_cons_succ]
    refine take2 (i := 4) (v := ?_) (d := some 34) hBl rfl rfl (by kernel_rfl) (by kernel_rfl) (by kernel_rfl) (by kernel_rfl) ?_ hHeld ?_
    rotate_left
    · (intro w hSw; (try dsimp only at hSw); go_simp <;> with_reducible rfl)
    try simp only [Act.put, List.setIfInBounds_toArray, List.set_cons_zero, List.set_cons_succ]
    refine take2 (i := 5) (v := ?_) (d := some 35) hBl rfl rfl (by kernel_rfl) (by kernel_rfl) (by kernel_rfl) (by kernel_rfl) ?_ hHeld ?_
    rotate_left
    · (intro w hSw; (try dsimp only at hSw); go_simp <;> with_reducible rfl)
    try simp only [Act.put, List.setIfInBounds_toArray, List.set_cons_zero, List.set_cons_succ]
    refine take2 (i := 6) (v := ?_) (d := some 36) hBl rfl rfl (by kernel_rfl) (by kernel_rfl) (by kernel_rfl) (by kernel_rfl) ?_ hHeld ?_
    rotate_left
    · (intro w hSw; (try dsimp only at hSw); go_simp <;> with_reducible rfl)
    try simp only [Act.put, List.setIfInBounds_toArray, List.set_cons_zero, List.set_cons_succ]
    refine take2 (i := 7) (v := ?_) (d := some 37) hBl rfl rfl (by kernel_rfl) (by kernel_rfl) (by kernel_rfl) (by kernel_rfl) ?_ hHeld ?_
    rotate_left
    · (intro w hSw; (try dsimp only at hSw); go_simp <;> with_reducible rfl)
    try simp only [Act.put, List.setIfInBounds_toArray, List.set_cons_zero, List.set_cons_succ]
    refine take2 (i := 8) (v := ?_) (d := some 38) hBl rfl rfl (by kernel_rfl) (by kernel_rfl) (by kernel_rfl) (by kernel_rfl) ?_ hHeld ?_
    rotate_left
    · (intro w hSw; (try dsimp only at hSw); go_simp <;> with_reducible rfl)
    try simp only [Act.put, List.setIfInBounds_toArray, List.set_cons_zero, List.set_cons_succ]
    refine take2 (i := 9) (v := ?_) (d := some 39) hBl rfl rfl (by kernel_rfl) (by kernel_rfl) (by kernel_rfl) (by kernel_rfl) ?_ hHeld ?_
    rotate_left
    · (intro w hSw; (try dsimp only at hSw); go_simp <;> with_reducible rfl)
    try simp only [Act.put, List.setIfInBounds_toArray, List.set_cons_zero, List.set_cons_succ]
    refine take2 (i := 10) (v := ?_) (d := some 40) hBl rfl rfl (by kernel_rfl) (by kernel_rfl) (by kernel_rfl) (by kernel_rfl) ?_ hHeld ?_
    rotate_left
    · (intro w hSw; (try dsimp only at hSw); go_simp <;> with_reducible rfl)
    try simp only [Act.put, List.setIfInBounds_toArray, List.set_cons_zero, List.set_cons_succ]
    refine wpAnyH_ready (rs := [1]) (by kernel_rfl) (by simp) ?_
    refine AllReadyH.cons rfl (fun K hK => ?_) AllReadyH.nil
    go_simp
    (go_at_call 60; refine (HL.out _ (show RdS u0.drew a ss from r0)).mono ?_; rintro e u1 ⟨v, lab, rfl, ov, hlab, b1⟩; obtain ⟨g, cap, rfl, _, _⟩ := own_shape ov (by omega); have c2 := ov.at t hts; have j0 := (b1.cell (p := ⟨w.heap.size, 0, none⟩) hwu).trans k0; have j1 := (b1.cell (p := ⟨w.heap.size, 1, none⟩) hwu).trans k1; have j2 := (b1.cell (p := ⟨w.heap.size, 2, none⟩) hwu).trans k2; have HLB := Lib.hid hlab; have hB := (dr_bl B0 ⟨1, rfl⟩).trans (b1.mono (Nat.le_of_lt hwu)); clear ov hlab b1)
    go_wp2_with fail
    refine hK.out _ _ ⟨j0, j1, j2⟩ (fun hHeld => ?_)
    clear hK K
    try simp only [Act.put, List.setIfInBounds_toArray, List.set_cons_zero, List.set_cons_succ]
    refine wpAnyH_ready (rs := [11]) (by kernel_rfl) (by simp) ?_
    refine AllReadyH.cons rfl (fun K hK => ?_) AllReadyH.nil
    go_simp
    skip
    go_wp2_with fail
    refine hK.out _ _ ⟨j0, j1, j2⟩ (fun hHeld => ?_)
    clear hK K
    try simp only [Act.put, List.setIfInBounds_toArray, List.set_cons_zero, List.set_cons_succ]
    refine wpAnyH_ready (rs := [12]) (by kernel_rfl) (by simp) ?_
    refine AllReadyH.cons rfl (fun K hK => ?_) AllReadyH.nil
    go_simp
    skip
    go_wp2_with fail
    refine hK.out _ _ ⟨j0, j1, j2⟩ (fun hHeld => ?_)
    clear hK K
    try simp only [Act.put, List.setIfInBounds_toArray, List.set_cons_zero, List.set_cons_succ]
    refine wpAnyH_ready (rs := [13]) (by kernel_rfl) (by simp) ?_
    refine AllReadyH.cons rfl (fun K hK => ?_) AllReadyH.nil
    go_simp
    skip
    go_wp2_with fail
    refine hK.out _ _ ⟨j0, j1, j2⟩ (fun hHeld => ?_)
    clear hK K
    try simp only [Act.put, List.setIfInBounds_toArray, List.set_cons_zero, List.set_cons_succ]
    refine wpAnyH_done (by kernel_rfl) ?_ _
    go_wp2
    go_ret
    exact ⟨lab, fun _ => by have h := HLB.out; rw [← HQM.out] at h; exact h, ret_int' (R.out _), hB⟩

set_option maxHeartbeats 3200000 in
theorem specCountFaces_ex (w : World) (d f : Int) (a : Option Addr) (c : Nat) (ss : List ByteArray) (h : RdS w a ss) (hz : SzS ss)  :
    Calls Try.prog 24 #[.agg #[.int .i64 d, .int .i64 f, .slice a ss.length c]] w fun e w' => ∃ lab, (okC d f ss = true → LabP d f ss lab) ∧ e = .returned (.int .i64 (cfV d f ss lab)) ∧ Below w.heap.size w w' := by
  cases hok : okC d f ss with
  | false =>
    go_enter Try.func24, Try.ntmps24
    go_wp2_with fail
    refine (specCardOk_any _ _ _ _ _ _ (h.alloc _) hz).mono ?_
    rintro e u0 ⟨rfl, b0⟩
    obtain ⟨hc, hf'⟩ := bcell b0
    have hsz := b0.size
    have k0 : u0.cell? ⟨w.heap.size, 0, none⟩ = some (.int .i64 d) := by rw [hc _ _ (by simp)]; simp [go_sem]
    have k1 : u0.cell? ⟨w.heap.size, 1, none⟩ = some (.int .i64 f) := by rw [hc _ _ (by simp)]; simp [go_sem]
    have k2 : u0.cell? ⟨w.heap.size, 2, none⟩ = some (.slice a ss.length c) := by rw [hc _ _ (by simp)]; simp [go_sem]
    have B0 : Below w.heap.size w u0 := ((Below.refl _ _).alloc (Nat.le_refl _) _).trans (b0.mono (by simp))
    have hwu : w.heap.size < u0.heap.size := by simp at hsz; omega
    have r0 := h.below B0
    clear hc hf' hsz b0
    rw [hok]
    go_wp2
    go_ret
    exact ⟨fun _ => 0, (fun h => by cases h), ret_int' (cfV_no hok), B0⟩
  | true =>
    have hnn := nn_eq hok
    obtain ⟨⟨d1, d2, f1, f2⟩, ⟨l1, l2⟩, _⟩ := (okC_iff d f ss).1 hok
    have R := Lib.hid (fun lab => cfV_yes (lab := lab) hok)
    have M2 : (ss.length * (d + f).toNat) ≤ 160 := Nat.le_trans (Nat.mul_le_mul l2 (show (d + f).toNat ≤ 16 by omega)) (by decide)
    have M1 : 0 < (ss.length * (d + f).toNat) := Nat.mul_pos (by omega) (by omega)
    have HOK := Lib.hid hok
    go_enter Try.func24, Try.ntmps24
    go_wp2_with fail
    refine (specCardOk_any _ _ _ _ _ _ (h.alloc _) hz).mono ?_
    rintro e u0 ⟨rfl, b0⟩
    obtain ⟨hc, hf'⟩ := bcell b0
    have hsz := b0.size
    have k0 : u0.cell? ⟨w.heap.size, 0, none⟩ = some (.int .i64 d) := by rw [hc _ _ (by simp)]; simp [go_sem]
    have k1 : u0.cell? ⟨w.heap.size, 1, none⟩ = some (.int .i64 f) := by rw [hc _ _ (by simp)]; simp [go_sem]
    have k2 : u0.cell? ⟨w.heap.size, 2, none⟩ = some (.slice a ss.length c) := by rw [hc _ _ (by simp)]; simp [go_sem]
    have B0 : Below w.heap.size w u0 := ((Below.refl _ _).alloc (Nat.le_refl _) _).trans (b0.mono (by simp))
    have hwu : w.heap.size < u0.heap.size := by simp at hsz; omega
    have r0 := h.below B0
    clear hc hf' hsz b0
    rw [HOK.out]
    go_wp2_with fail
    refine (l06_any _ d f a c ss (d + f).toNat (ss.length * (d + f).toNat) r0 hok hnn rfl).mono ?_
    rintro e u1 ⟨v, lab, rfl, ov, hlab, b1⟩
    obtain ⟨g, cap, rfl, _, _⟩ := own_shape ov M1
    have HLB := Lib.hid hlab
    have HNL := Lib.hid (fun t => nxt_le (lab := lab) (t := t))
    have hB : Below w.heap.size w u1 := B0.trans (b1.mono (by omega))
    clear hlab b1 hnn d1 d2 f1 f2 l1 l2 hok k0 k1 k2
    have HLP : Hid (LabP d f ss lab) := HLB
    generalize (ss.length * (d + f).toNat) = m at *
    go_wp2
    go_loop [3, 5] (fun x y => ∃ t : Nat, t ≤ m ∧ y = .int .i64 t ∧ x = .int .i64 (nxt lab t)) (fun _ y => m - (intOf y).toNat)
    case atStart => exact ⟨0, Nat.zero_le _, rfl, rfl⟩
    case round =>
      obtain ⟨t, ht, rfl, rfl⟩ := hrel
      by_cases htm : t < m
      · have x1 : (t : Int) < (m : Int) := by omega
        have c2 := ov.at t htm
        have n1 := HNL.out t (fun u hu => HLB.out.2.2 u (by omega))
        have n2 := HLB.out.2.2 t htm
        have x2 : IntKind.i64.wrap ((lab t : Int) + 1) = (lab t : Int) + 1 := IntWalk.i64_in _ (by omega)
        have HX : Hid (nxt lab (t + 1) = max (nxt lab t) (lab t + 1)) := Lib.hid rfl
        have x3 : max (nxt lab t : Int) ((lab t : Int) + 1) = ((max (nxt lab t) (lab t + 1) : Nat) : Int) := by omega
        generalize max (nxt lab t) (lab t + 1) = mx at *
        go_wp2
        go_round
        case rel => exact ⟨t + 1, by omega, by go_num, by rw [HX.out]⟩
        case measure => simp [intOf]; omega
      · have hte : t = m := by omega
        have x1 : decide ((t : Int) < (m : Int)) = false := decide_eq_false (by omega)
        have x1n : decide (t < m) = false := decide_eq_false (by omega)
        have RR : Hid (cfV d f ss lab = (nxt lab t : Int)) := Lib.hid (by rw [R.out, hte])
        clear hte ht htm
        go_wp2
        go_ret
        exact ⟨lab, HLP.out, ret_int' RR.out, hB⟩

set_option maxHeartbeats 3200000 in
theorem specFaceSize_ex (w : World) (d f : Int) (a : Option Addr) (c : Nat) (ss : List ByteArray) (h : RdS w a ss) (hz : SzS ss) (face : Int) :
    Calls Try.prog 26 #[.agg #[.int .i64 d, .int .i64 f, .slice a ss.length c], .int .i64 face] w fun e w' => ∃ lab, (okC d f ss = true → LabP d f ss lab) ∧ e = .returned (.int .i64 (fsV d f ss lab face)) ∧ Below w.heap.size w w' := by
  cases hok : okC d f ss with
  | false =>
    go_enter Try.func26, Try.ntmps26
    go_wp2_with fail
    refine (specCardOk_any _ _ _ _ _ _ (h.alloc _) hz).mono ?_
    rintro e u0 ⟨rfl, b0⟩
    obtain ⟨hc, hf'⟩ := bcell b0
    have hsz := b0.size
    have k0 : u0.cell? ⟨w.heap.size, 0, none⟩ = some (.int .i64 d) := by rw [hc _ _ (by simp)]; simp [go_sem]
    have k1 : u0.cell? ⟨w.heap.size, 1, none⟩ = some (.int .i64 f) := by rw [hc _ _ (by simp)]; simp [go_sem]
    have k2 : u0.cell? ⟨w.heap.size, 2, none⟩ = some (.slice a ss.length c) := by rw [hc _ _ (by simp)]; simp [go_sem]
    have B0 : Below w.heap.size w u0 := ((Below.refl _ _).alloc (Nat.le_refl _) _).trans (b0.mono (by simp))
    have hwu : w.heap.size < u0.heap.size := by simp at hsz; omega
    have r0 := h.below B0
    clear hc hf' hsz b0
    rw [hok]
    go_wp2
    go_ret
    exact ⟨fun _ => 0, (fun h => by cases h), ret_int' (fsV_no hok), B0⟩
  | true =>
    have hnn := nn_eq hok
    obtain ⟨⟨d1, d2, f1, f2⟩, ⟨l1, l2⟩, _⟩ := (okC_iff d f ss).1 hok
    have R := Lib.hid (fun lab => fsV_yes (lab := lab) (face := face) hok)
    have M2 : (ss.length * (d + f).toNat) ≤ 160 := Nat.le_trans (Nat.mul_le_mul l2 (show (d + f).toNat ≤ 16 by omega)) (by decide)
    have M1 : 0 < (ss.length * (d + f).toNat) := Nat.mul_pos (by omega) (by omega)
    have HOK := Lib.hid hok
    go_enter Try.func26, Try.ntmps26
    go_wp2_with fail
    refine (specCardOk_any _ _ _ _ _ _ (h.alloc _) hz).mono ?_
    rintro e u0 ⟨rfl, b0⟩
    obtain ⟨hc, hf'⟩ := bcell b0
    have hsz := b0.size
    have k0 : u0.cell? ⟨w.heap.size, 0, none⟩ = some (.int .i64 d) := by rw [hc _ _ (by simp)]; simp [go_sem]
    have k1 : u0.cell? ⟨w.heap.size, 1, none⟩ = some (.int .i64 f) := by rw [hc _ _ (by simp)]; simp [go_sem]
    have k2 : u0.cell? ⟨w.heap.size, 2, none⟩ = some (.slice a ss.length c) := by rw [hc _ _ (by simp)]; simp [go_sem]
    have B0 : Below w.heap.size w u0 := ((Below.refl _ _).alloc (Nat.le_refl _) _).trans (b0.mono (by simp))
    have hwu : w.heap.size < u0.heap.size := by simp at hsz; omega
    have r0 := h.below B0
    clear hc hf' hsz b0
    rw [HOK.out]
    go_wp2_with fail
    refine (l06_any _ d f a c ss (d + f).toNat (ss.length * (d + f).toNat) r0 hok hnn rfl).mono ?_
    rintro e u1 ⟨v, lab, rfl, ov, hlab, b1⟩
    obtain ⟨g, cap, rfl, _, _⟩ := own_shape ov M1
    have HLP : Hid (LabP d f ss lab) := Lib.hid hlab
    have hB : Below w.heap.size w u1 := B0.trans (b1.mono (by omega))
    clear hlab b1 hnn d1 d2 f1 f2 l1 l2 hok k0 k1 k2
    have HCL := Lib.hid (fun t => lcnt_le (fun t => (lab t : Int)) face t)
    generalize (ss.length * (d + f).toNat) = m at *
    go_wp2
    go_loop [5, 7] (fun x y => ∃ t : Nat, t ≤ m ∧ y = .int .i64 t ∧ x = .int .i64 (cnt (fun t => (lab t : Int)) face t)) (fun _ y => m - (intOf y).toNat)
    case atStart => exact ⟨0, Nat.zero_le _, rfl, rfl⟩
    case round =>
      obtain ⟨t, ht, rfl, rfl⟩ := hrel
      by_cases htm : t < m
      · have x1 : (t : Int) < (m : Int) := by omega
        have c2 := ov.at t htm
        have n1 := HCL.out t
        have HX : Hid (cnt (fun t => (lab t : Int)) face (t + 1) = cnt (fun t => (lab t : Int)) face t + (if (lab t : Int) = face then 1 else 0)) := Lib.hid rfl
        by_cases hf : (lab t : Int) = face
        · have x2 : ((lab t : Int) == face) = true := beq_iff_eq.2 hf
          have HX2 : Hid (cnt (fun t => (lab t : Int)) face (t + 1) = cnt (fun t => (lab t : Int)) face t + 1) := Lib.hid (by rw [HX.out, if_pos hf])
          clear hf HX
          generalize cnt (fun t => (lab t : Int)) face t = ct at *
          have x3 : IntKind.i64.wrap ((ct : Int) + 1) = (ct : Int) + 1 := IntWalk.i64_in _ (by omega)
          go_wp2
          go_round
          case rel => exact ⟨t + 1, by omega, by go_num, by rw [HX2.out]; go_num⟩
          case measure => simp [intOf]; omega
        · have x2 : ((lab t : Int) == face) = false := beq_eq_false_iff_ne.2 hf
          have HX2 : Hid (cnt (fun t => (lab t : Int)) face (t + 1) = cnt (fun t => (lab t : Int)) face t) := Lib.hid (by rw [HX.out, if_neg hf]; rfl)
          clear hf HX
          go_wp2
          go_round
          case rel => exact ⟨t + 1, by omega, by go_num, by rw [HX2.out]⟩
          case measure => simp [intOf]; omega
      · have hte : t = m := by omega
        have x1 : decide ((t : Int) < (m : Int)) = false := decide_eq_false (by omega)
        have x1n : decide (t < m) = false := decide_eq_false (by omega)
        have RR : Hid (fsV d f ss lab face = (cnt (fun t => (lab t : Int)) face t : Int)) := Lib.hid (by rw [R.out, hte])
        clear hte ht htm
        go_wp2
        go_ret
        exact ⟨lab, HLP.out, ret_int' RR.out, hB⟩

set_option maxHeartbeats 3200000 in
theorem implFaceOf_any (w : World) (d f : Int) (a : Option Addr) (c : Nat) (ss : List ByteArray) (h : RdS w a ss) (hz : SzS ss) (k i : Int) (lab : Nat → Nat) (hl : tile d f ss k i = true → LabP d f ss lab) :
    Calls Try.prog 22 #[.agg #[.int .i64 d, .int .i64 f, .slice a ss.length c], .int .i64 k, .int .i64 i] w fun e w' => e = .returned (.int .i64 (fV d f ss lab k i)) ∧ Below w.heap.size w w' := by
  refine (implFaceOf_ex w d f a c ss h hz k i).mono ?_
  rintro e w' ⟨lab', h1, rfl, hb⟩
  exact ⟨ret_int' (fV_same hl h1), hb⟩

set_option maxHeartbeats 3200000 in
theorem implCountFaces_any (w : World) (d f : Int) (a : Option Addr) (c : Nat) (ss : List ByteArray) (h : RdS w a ss) (hz : SzS ss)  (lab : Nat → Nat) (hl : okC d f ss = true → LabP d f ss lab) :
    Calls Try.prog 25 #[.agg #[.int .i64 d, .int .i64 f, .slice a ss.length c]] w fun e w' => e = .returned (.int .i64 (cfV d f ss lab)) ∧ Below w.heap.size w w' := by
  refine (implCountFaces_ex w d f a c ss h hz ).mono ?_
  rintro e w' ⟨lab', h1, rfl, hb⟩
  exact ⟨ret_int' (cfV_same hl h1), hb⟩

set_option maxHeartbeats 3200000 in
theorem implFaceSize_any (w : World) (d f : Int) (a : Option Addr) (c : Nat) (ss : List ByteArray) (h : RdS w a ss) (hz : SzS ss) (face : Int) (lab : Nat → Nat) (hl : okC d f ss = true → LabP d f ss lab) :
    Calls Try.prog 27 #[.agg #[.int .i64 d, .int .i64 f, .slice a ss.length c], .int .i64 face] w fun e w' => e = .returned (.int .i64 (fsV d f ss lab face)) ∧ Below w.heap.size w w' := by
  refine (implFaceSize_ex w d f a c ss h hz face).mono ?_
  rintro e w' ⟨lab', h1, rfl, hb⟩
  exact ⟨ret_int' (fsV_same hl h1), hb⟩

end Go.Proofs.Ytmpbhhggbmjfcaa
