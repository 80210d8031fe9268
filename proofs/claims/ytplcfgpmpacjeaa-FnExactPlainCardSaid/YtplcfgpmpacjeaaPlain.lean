/- Contracts of PlainCard, both sides. -/
import Derived.Test.YtplcfgpmpacjeaaCards
import Derived.Test.YtplcfgpmpacjeaaOwn2
import Derived.Deep.RegionWith
import Derived.Deep.RegionLaw
namespace Go.Proofs.Ytplcfgpmpacjeaa
open Go.RowKit
set_option linter.unusedVariables false
set_option linter.unusedSimpArgs false

def flV (d f : Int) : ByteArray := if 1 ≤ d ∧ d ≤ 8 ∧ 1 ≤ f ∧ f ≤ 8 then flatS d.toNat f.toNat else ⟨#[]⟩
theorem implFlat_any (d f : Int) (w : World) :
    Calls Try.prog 67 #[.int .i64 d, .int .i64 f] w fun e w' => e = .returned (.string (flV d f)) ∧ Below w.heap.size w w' := by
  by_cases h : 1 ≤ d ∧ d ≤ 8 ∧ 1 ≤ f ∧ f ≤ 8
  · obtain ⟨d, rfl⟩ : ∃ n : Nat, d = n := ⟨d.toNat, by omega⟩
    obtain ⟨f, rfl⟩ : ∃ n : Nat, f = n := ⟨f.toNat, by omega⟩
    refine (implFlatStrip_yes d f (by omega) (by omega) (by omega) (by omega) w).mono ?_
    rintro e w' ⟨rfl, hb⟩
    exact ⟨ret_str (by unfold flV; rw [if_pos h]; rfl), hb⟩
  · refine (implFlatStrip_no d f h w).mono ?_
    rintro e w' ⟨rfl, rfl⟩
    exact ⟨ret_str (by unfold flV; rw [if_neg h]), Below.refl _ _⟩
theorem specFlat_any (d f : Int) (w : World) :
    Calls Try.prog 107 #[.int .i64 d, .int .i64 f] w fun e w' => e = .returned (.string (flV d f)) ∧ Below w.heap.size w w' := by
  by_cases h : 1 ≤ d ∧ d ≤ 8 ∧ 1 ≤ f ∧ f ≤ 8
  · obtain ⟨d, rfl⟩ : ∃ n : Nat, d = n := ⟨d.toNat, by omega⟩
    obtain ⟨f, rfl⟩ : ∃ n : Nat, f = n := ⟨f.toNat, by omega⟩
    refine (specFlatStrip_yes d f (by omega) (by omega) (by omega) (by omega) w).mono ?_
    rintro e w' ⟨rfl, hb⟩
    exact ⟨ret_str (by unfold flV; rw [if_pos h]; rfl), hb⟩
  · refine (specFlatStrip_no d f h w).mono ?_
    rintro e w' ⟨rfl, rfl⟩
    exact ⟨ret_str (by unfold flV; rw [if_neg h]), Below.refl _ _⟩
theorem flV_size (d f : Int) : (flV d f).size ≤ 16 := by
  unfold flV; split
  · unfold flatS; rw [ByteArray.size_append, repS_size, repS_size]; omega
  · exact Nat.zero_le _
/-- k flat strips. -/
def flS (d f : Int) (k : Nat) : List ByteArray := List.replicate k (flV d f)
theorem flS_length (d f : Int) (k : Nat) : (flS d f k).length = k := by simp [flS]
theorem flS_sel (d f : Int) (k j : Nat) : sel (flS d f k) j = flV d f ∨ sel (flS d f k) j = ByteArray.empty := by
  rcases Nat.lt_or_ge j k with h | h
  · left; rw [sel_get _ _ (by rw [flS_length]; exact h)]; simp [flS]
  · right; unfold sel; rw [List.getD_eq_getElem?_getD, List.getElem?_eq_none (by rw [flS_length]; exact h)]; rfl
theorem flS_sz (d f : Int) (k : Nat) (hk : k ≤ 1000) : SzS (flS d f k) := by
  refine ⟨by rw [flS_length]; unfold maxLen; omega, fun j => ?_⟩
  have := flV_size d f
  rcases flS_sel d f k j with h | h <;> rw [h]
  · unfold maxLen; omega
  · exact Nat.zero_le _
theorem flS_snoc {B k : Nat} {g cap : Nat} {d f : Int} {w : World} (h : w.ownsRow B 9 1 (.slice (some ⟨g, 0, none⟩) (k + 1) cap) (k + 1) (strCells (flS d f k) ++ [.string (flV d f)])) : OwnS B (.slice (some ⟨g, 0, none⟩) (k + 1) cap) (flS d f (k + 1)) w := by
  unfold OwnS
  rw [flS_length]
  have : strCells (flS d f (k + 1)) = strCells (flS d f k) ++ [.string (flV d f)] := by simp [strCells, flS, List.replicate_succ']
  rw [this]; exact h

/-- A block of a card. -/
def Blk (w : World) (b : Nat) (x y z : Value) : Prop := w.heap[b]? = some (.cells #[x, y, z] 31 (0, 0))
theorem Blk.c0 {w : World} {b : Nat} {x y z : Value} (h : Blk w b x y z) : w.cell? ⟨b, 0, none⟩ = some x := by unfold Blk at h; simp [World.cell?, h]
theorem Blk.c1 {w : World} {b : Nat} {x y z : Value} (h : Blk w b x y z) : w.cell? ⟨b, 1, none⟩ = some y := by unfold Blk at h; simp [World.cell?, h]
theorem Blk.c2 {w : World} {b : Nat} {x y z : Value} (h : Blk w b x y z) : w.cell? ⟨b, 2, none⟩ = some z := by unfold Blk at h; simp [World.cell?, h]
theorem Blk.fz {w : World} {b : Nat} {x y z : Value} (h : Blk w b x y z) (o : Nat) : w.frozen? ⟨b, o, none⟩ = false := by unfold Blk at h; simp [World.frozen?, h]
theorem Blk.lt {w : World} {b : Nat} {x y z : Value} (h : Blk w b x y z) : b < w.heap.size := (Array.getElem?_eq_some_iff.1 h).1
theorem Blk.of {w w' : World} {b : Nat} {x y z : Value} (h : Blk w b x y z) (e : w'.heap[b]? = w.heap[b]?) : Blk w' b x y z := e.trans h
theorem Blk.below {w w' : World} {b : Nat} {x y z : Value} (h : Blk w b x y z) (hb : Below w.heap.size w w') : Blk w' b x y z := h.of (hb.block b h.lt)
theorem Blk.grown {w w' : World} {b : Nat} {x y z : Value} {row : Option Nat} (h : Blk w b x y z) (hg : w.grownBy w' row) (hr : some b ≠ row) : Blk w' b x y z := h.of (hg.block b h.lt hr)
theorem Blk.alloc {w : World} {b : Nat} {x y z : Value} (h : Blk w b x y z) (o : Obj) : Blk (w.alloc o) b x y z := h.of (Below.heap_alloc w o b h.lt)
theorem Blk.set2 {w : World} {b : Nat} {x y z : Value} (h : Blk w b x y z) (u : Value) : Blk (w.setCell ⟨b, 2, none⟩ u) b x y u := by
  have := heap_setCell_same w b 2 #[x, y, z] _ u h
  simpa [Blk] using this
theorem Blk.other {w : World} {b : Nat} {x y z : Value} (h : Blk w b x y z) {a : Addr} (ha : b ≠ a.block) (u : Value) : Blk (w.setCell a u) b x y z := h.of (Below.heap_setCell w a u b ha)
theorem Blk.new (w : World) (x y z : Value) : Blk (w.alloc (.cells #[x, y, z] 31)) w.heap.size x y z := heap_alloc_new w _
theorem Blk.new' {w : World} {b : Nat} (hb : b = w.heap.size) (x y z : Value) : Blk (w.alloc (.cells #[x, y, z] 31)) b x y z := by subst hb; exact heap_alloc_new w _

theorem below_grown2 {B B' : Nat} {w wr w1 : World} {u : Value} {o : Obj} {e size n : Nat} {xs : List Value} (hb : Below B w wr) (hB : B ≤ wr.heap.size) (hBB : B ≤ B') (hown : wr.ownsRow B' e size u n xs) (hg : (wr.alloc o).grownBy w1 u.ownBlock) : Below B w w1 :=
  (hb.alloc hB o).grown hg (by simp; omega) (fun j hj => Nat.le_trans hBB (hown.lt j hj).1)
theorem own_mk {B k : Nat} {v : Value} {d f : Int} {w : World} (h : OwnS B v (flS d f k) w) : Hid (w.ownsRow B 9 1 v k (strCells (flS d f k))) := by
  unfold OwnS at h; rw [flS_length] at h; exact h
/-- What a card that was made so tells. -/
def CardR (B : Nat) (d f : Int) (ss : List ByteArray) (ok : Bool) (e : Ending) (w' : World) : Prop := ∃ a c, e = .returned (.tuple #[.agg #[.int .i64 d, .int .i64 f, .slice a ss.length c], .bool ok]) ∧ OwnS B (.slice a ss.length c) ss w'
theorem own_ne {B k n size : Nat} {e : TypeId} {v : Value} {xs : List Value} {w : World} (h : w.ownsRow B e size v n xs) (hk : k < B) : some k ≠ v.ownBlock := fun e => by have := (h.lt k e.symm).1; omega

set_option maxRecDepth 20000 in
set_option maxHeartbeats 3200000 in
theorem implPlain_yes (d f : Int) (n : Nat) (w : World) (h1 : 1 ≤ n) (h2 : n ≤ 10) (hok : okC d f (flS d f n) = true) :
    Calls Try.prog 48 #[.int .i64 d, .int .i64 f, .int .i64 n] w fun e w' => CardR w.heap.size d f (flS d f n) true e w' ∧ Below w.heap.size w w' := by
  obtain ⟨i0, hi, hz0, hz1, hz2⟩ := info_parts Try.info9s
  have OK := Lib.hid hok; clear hok
  go_enter Try.func48, Try.ntmps48
  go_wp2_with fail
  refine (within_yes _ _ _ (by omega) (by omega) _).mono ?_
  rintro e w' ⟨rfl, rfl⟩
  go_wp2
  go_loopw [17] (fun i wr => ∃ (k : Nat) (v : Value), k ≤ n ∧ i = .int .i64 k ∧ Blk wr w.heap.size (.int .i64 0) (.int .i64 0) (.slice none 0 0) ∧ Blk wr (w.heap.size + 1) (.int .i64 d) (.int .i64 f) v ∧ OwnS (w.heap.size + 2) v (flS d f k) wr ∧ Below w.heap.size w wr) (fun i _ => n - (intOf i).toNat)
  case atStart => exact ⟨0, .slice none 0 0, Nat.zero_le _, rfl, (Blk.new w _ _ _).alloc _, Blk.new' (by simp) _ _ _, World.ownsRow_nil _ _ _ _, ((Below.refl _ _).alloc (Nat.le_refl _) _).alloc (by simp) _⟩
  case round =>
    obtain ⟨k, v, hk, rfl, hA, hB, hown, hb⟩ := hrel
    have HA := Lib.hid hA; have HB := Lib.hid hB
    by_cases hlt : k < n
    · have c2 := hB.c2
      have hl := hB.lt
      clear hA hB
      have HO := Lib.hid hown
      have hn1 : k + 1 ≤ maxLen := by unfold maxLen; omega
      have hn2 : (k + 1) * 16 ≤ 140737488355328 := by omega
      go_wp2
      go_region_law (first
        | (refine step_app1 (by rfl) _ _ 26 (by rfl) (w.heap.size + 2) 9 i0 (.string ByteArray.empty) 16 Try.underlying26 hi hz0 hz1 hz2 rfl v k (strCells (flS d f k)) (by rfl) O1.out _ (by rfl) rfl hn1 hn2 S1.out ?_; intro g cap w1 hown1 hg1; have hA2 := Lib.hid ((A1.out.alloc _).grown hg1 (own_ne O1.out (by omega))); have hB2 := (B1.out.alloc _).grown hg1 (own_ne O1.out (by omega)); have z2 := hB2.c2; have z3 := hB2.fz 2; have HB2 := Lib.hid hB2; clear hB2)
        | (go_simp; go_at_call 67; refine (implFlat_any _ _ _).mono ?_; rintro e u1 ⟨rfl, b1⟩; have hs1 := b1.size; have k1 := (b1.cell (p := ⟨w.heap.size + 1, 2, none⟩) hl).trans c2; have A1 := Lib.hid ((show Blk wr.drew _ _ _ _ from HA.out).below b1); have B1 := Lib.hid ((show Blk wr.drew _ _ _ _ from HB.out).below b1); have O1 : Hid (u1.ownsRow (w.heap.size + 2) 9 1 v k (strCells (flS d f k))) := own_mk (OwnS.below (w := wr.drew) HO.out b1); have hl1 := B1.out.lt; have S1 : Hid (w.heap.size + 2 ≤ u1.heap.size) := Lib.hid (by omega); have Y1 := Lib.hid ((dr_bel hb ⟨1, rfl⟩).trans (b1.mono hb.size)); clear b1))
      all_goals
        have O2 := ownsRow_setCell_below (flS_snoc hown1) (a := ⟨w.heap.size + 1, 2, none⟩) (by simp) (.slice (some ⟨g, 0, none⟩) (k + 1) cap)
        have Y2 := (below_grown2 Y1.out (by have := S1.out; omega) (by omega) O1.out hg1).setCell (p := ⟨w.heap.size + 1, 2, none⟩) (by simp) (.slice (some ⟨g, 0, none⟩) (k + 1) cap)
        clear hown1 hg1
        go_wp2
        go_roundw
        case rel => exact ⟨k + 1, _, by omega, by go_num, hA2.out.other (by simp) _, HB2.out.set2 _, O2, Y2⟩
        case measure => simp [intOf]; omega
    · obtain rfl : k = n := by omega
      obtain ⟨a', c', rfl, hrd⟩ := hown.read
      rw [flS_length] at HB hB hown
      have c0 := hB.c0
      have c1 := hB.c1
      have c2 := hB.c2
      clear hA hB
      go_wp2_with fail
      have CK := implCardOk_any _ d f a' c' (flS d f k) hrd (flS_sz d f k (by omega))
      rw [flS_length, OK.out] at CK
      refine CK.mono ?_
      rintro e u1 ⟨rfl, b1⟩
      have A1 := HA.out.below b1
      have B1 := HB.out.below b1
      have O1 := OwnS.below hown b1
      have Y1 := hb.trans (b1.mono hb.size)
      have d0 := B1.c0
      have d1 := B1.c1
      have d2 := B1.c2
      have l1 := A1.lt
      have l2 := B1.lt
      have f0 := A1.fz 0
      have f1 := A1.fz 1
      have f2 := A1.fz 2
      have x0 := A1.c0
      have x1 := A1.c1
      have x2 := A1.c2
      have HK := Lib.hid A1; have HL := Lib.hid B1
      clear A1 B1 CK b1 HA HB hrd
      go_wp2
      refine bodyPost_ret (v := .tuple #[.agg #[.int .i64 d, .int .i64 f, .slice a' k c'], .bool true]) (by simp [results, Try.results48, go_sem, d0, d1, d2, x0, x1, x2, l1, l2, f0, f1, f2]) rfl ⟨⟨a', c', by rw [flS_length], ?_⟩, ?_⟩
      · rw [flS_length]
        exact World.ownsRow.mono (ownsRow_setCell_below (ownsRow_setCell_below (ownsRow_setCell_below O1 (by simp; try omega) _) (by simp; try omega) _) (by simp; try omega) _) (by omega)
      · exact ((Y1.setCell (by simp) _).setCell (by simp) _).setCell (by simp) _

set_option maxRecDepth 20000 in
set_option maxHeartbeats 3200000 in
theorem implPlain_bad (d f : Int) (n : Nat) (w : World) (h1 : 1 ≤ n) (h2 : n ≤ 10) (hok : okC d f (flS d f n) = false) :
    Calls Try.prog 48 #[.int .i64 d, .int .i64 f, .int .i64 n] w fun e w' => CardR w.heap.size 0 0 [] false e w' ∧ Below w.heap.size w w' := by
  obtain ⟨i0, hi, hz0, hz1, hz2⟩ := info_parts Try.info9s
  have OK := Lib.hid hok; clear hok
  go_enter Try.func48, Try.ntmps48
  go_wp2_with fail
  refine (within_yes _ _ _ (by omega) (by omega) _).mono ?_
  rintro e w' ⟨rfl, rfl⟩
  go_wp2
  go_loopw [17] (fun i wr => ∃ (k : Nat) (v : Value), k ≤ n ∧ i = .int .i64 k ∧ Blk wr w.heap.size (.int .i64 0) (.int .i64 0) (.slice none 0 0) ∧ Blk wr (w.heap.size + 1) (.int .i64 d) (.int .i64 f) v ∧ OwnS (w.heap.size + 2) v (flS d f k) wr ∧ Below w.heap.size w wr) (fun i _ => n - (intOf i).toNat)
  case atStart => exact ⟨0, .slice none 0 0, Nat.zero_le _, rfl, (Blk.new w _ _ _).alloc _, Blk.new' (by simp) _ _ _, World.ownsRow_nil _ _ _ _, ((Below.refl _ _).alloc (Nat.le_refl _) _).alloc (by simp) _⟩
  case round =>
    obtain ⟨k, v, hk, rfl, hA, hB, hown, hb⟩ := hrel
    have HA := Lib.hid hA; have HB := Lib.hid hB
    by_cases hlt : k < n
    · have c2 := hB.c2
      have hl := hB.lt
      clear hA hB
      have HO := Lib.hid hown
      have hn1 : k + 1 ≤ maxLen := by unfold maxLen; omega
      have hn2 : (k + 1) * 16 ≤ 140737488355328 := by omega
      go_wp2
      go_region_law (first
        | (refine step_app1 (by rfl) _ _ 26 (by rfl) (w.heap.size + 2) 9 i0 (.string ByteArray.empty) 16 Try.underlying26 hi hz0 hz1 hz2 rfl v k (strCells (flS d f k)) (by rfl) O1.out _ (by rfl) rfl hn1 hn2 S1.out ?_; intro g cap w1 hown1 hg1; have hA2 := Lib.hid ((A1.out.alloc _).grown hg1 (own_ne O1.out (by omega))); have hB2 := (B1.out.alloc _).grown hg1 (own_ne O1.out (by omega)); have z2 := hB2.c2; have z3 := hB2.fz 2; have HB2 := Lib.hid hB2; clear hB2)
        | (go_simp; go_at_call 67; refine (implFlat_any _ _ _).mono ?_; rintro e u1 ⟨rfl, b1⟩; have hs1 := b1.size; have k1 := (b1.cell (p := ⟨w.heap.size + 1, 2, none⟩) hl).trans c2; have A1 := Lib.hid ((show Blk wr.drew _ _ _ _ from HA.out).below b1); have B1 := Lib.hid ((show Blk wr.drew _ _ _ _ from HB.out).below b1); have O1 : Hid (u1.ownsRow (w.heap.size + 2) 9 1 v k (strCells (flS d f k))) := own_mk (OwnS.below (w := wr.drew) HO.out b1); have hl1 := B1.out.lt; have S1 : Hid (w.heap.size + 2 ≤ u1.heap.size) := Lib.hid (by omega); have Y1 := Lib.hid ((dr_bel hb ⟨1, rfl⟩).trans (b1.mono hb.size)); clear b1))
      all_goals
        have O2 := ownsRow_setCell_below (flS_snoc hown1) (a := ⟨w.heap.size + 1, 2, none⟩) (by simp) (.slice (some ⟨g, 0, none⟩) (k + 1) cap)
        have Y2 := (below_grown2 Y1.out (by have := S1.out; omega) (by omega) O1.out hg1).setCell (p := ⟨w.heap.size + 1, 2, none⟩) (by simp) (.slice (some ⟨g, 0, none⟩) (k + 1) cap)
        clear hown1 hg1
        go_wp2
        go_roundw
        case rel => exact ⟨k + 1, _, by omega, by go_num, hA2.out.other (by simp) _, HB2.out.set2 _, O2, Y2⟩
        case measure => simp [intOf]; omega
    · obtain rfl : k = n := by omega
      obtain ⟨a', c', rfl, hrd⟩ := hown.read
      rw [flS_length] at HB hB hown
      have c0 := hB.c0
      have c1 := hB.c1
      have c2 := hB.c2
      clear hA hB
      go_wp2_with fail
      have CK := implCardOk_any _ d f a' c' (flS d f k) hrd (flS_sz d f k (by omega))
      rw [flS_length, OK.out] at CK
      refine CK.mono ?_
      rintro e u1 ⟨rfl, b1⟩
      have A1 := HA.out.below b1
      have B1 := HB.out.below b1
      have O1 := OwnS.below hown b1
      have Y1 := hb.trans (b1.mono hb.size)
      have d0 := B1.c0
      have d1 := B1.c1
      have d2 := B1.c2
      have l1 := A1.lt
      have l2 := B1.lt
      have f0 := A1.fz 0
      have f1 := A1.fz 1
      have f2 := A1.fz 2
      have x0 := A1.c0
      have x1 := A1.c1
      have x2 := A1.c2
      have HK := Lib.hid A1; have HL := Lib.hid B1
      clear A1 B1 CK b1 HA HB hrd
      go_wp2
      refine bodyPost_ret (v := .tuple #[.agg #[.int .i64 0, .int .i64 0, .slice none 0 0], .bool false]) (by simp [results, Try.results48, go_sem, d0, d1, d2, x0, x1, x2, l1, l2, f0, f1, f2]) rfl ⟨⟨none, 0, rfl, World.ownsRow_nil _ _ _ _⟩, ?_⟩
      exact ((Y1.setCell (by simp) _).setCell (by simp) _).setCell (by simp) _

set_option maxRecDepth 20000 in
set_option maxHeartbeats 3200000 in
theorem implPlain_out (d f : Int) (n : Int) (w : World) (h : n < 1 ∨ 10 < n) :
    Calls Try.prog 48 #[.int .i64 d, .int .i64 f, .int .i64 n] w fun e w' => CardR w.heap.size 0 0 [] false e w' ∧ Below w.heap.size w w' := by
  obtain ⟨i0, hi, hz0, hz1, hz2⟩ := info_parts Try.info9s
  clear hi hz0 hz1 hz2
  have H := Lib.hid h; clear h
  go_enter Try.func48, Try.ntmps48
  go_wp2_with fail
  refine (within_no _ _ _ H.out _).mono ?_
  rintro e w' ⟨rfl, rfl⟩
  go_wp2
  refine bodyPost_ret (v := .tuple #[.agg #[.int .i64 0, .int .i64 0, .slice none 0 0], .bool false]) (by simp [results, Try.results48, go_sem]) rfl ⟨⟨none, 0, rfl, World.ownsRow_nil _ _ _ _⟩, ?_⟩
  first | exact (Below.refl _ _).alloc (Nat.le_refl _) _ | exact ((((Below.refl _ _).alloc (Nat.le_refl _) _).setCell (by simp) _).setCell (by simp) _).setCell (by simp) _

set_option maxRecDepth 20000 in
set_option maxHeartbeats 3200000 in
theorem specPlain_yes (d f : Int) (n : Int) (M : Nat) (w : World) (hM : M ≤ 11) (hc : ∀ k : Nat, k < M ↔ ((k : Int) < n ∧ (k : Int) ≤ 10)) (hok : okC d f (flS d f M) = true) :
    Calls Try.prog 47 #[.int .i64 d, .int .i64 f, .int .i64 n] w fun e w' => CardR w.heap.size d f (flS d f M) true e w' ∧ Below w.heap.size w w' := by
  obtain ⟨i0, hi, hz0, hz1, hz2⟩ := info_parts Try.info9s
  have OK := Lib.hid hok; clear hok
  have HC := Lib.hid hc; clear hc
  go_enter Try.func47, Try.ntmps47
  go_wp2
  go_loopw [9] (fun i wr => ∃ (k : Nat) (v : Value), k ≤ M ∧ i = .int .i64 k ∧ Blk wr w.heap.size (.int .i64 0) (.int .i64 0) (.slice none 0 0) ∧ Blk wr (w.heap.size + 1) (.int .i64 d) (.int .i64 f) v ∧ OwnS (w.heap.size + 2) v (flS d f k) wr ∧ Below w.heap.size w wr) (fun i _ => M - (intOf i).toNat)
  case atStart => exact ⟨0, .slice none 0 0, Nat.zero_le _, rfl, (Blk.new w _ _ _).alloc _, Blk.new' (by simp) _ _ _, World.ownsRow_nil _ _ _ _, ((Below.refl _ _).alloc (Nat.le_refl _) _).alloc (by simp) _⟩
  case round =>
    obtain ⟨k, v, hk, rfl, hA, hB, hown, hb⟩ := hrel
    have HA := Lib.hid hA; have HB := Lib.hid hB
    by_cases hlt : k < M
    · have t0 : (k : Int) < n := ((HC.out k).1 hlt).1
      have t1 : (k : Int) ≤ 10 := ((HC.out k).1 hlt).2
      have c2 := hB.c2
      have hl := hB.lt
      clear hA hB
      have HO := Lib.hid hown
      have hn1 : k + 1 ≤ maxLen := by unfold maxLen; omega
      have hn2 : (k + 1) * 16 ≤ 140737488355328 := by omega
      go_wp2
      go_region_law (first
        | (refine step_app1 (by rfl) _ _ 26 (by rfl) (w.heap.size + 2) 9 i0 (.string ByteArray.empty) 16 Try.underlying26 hi hz0 hz1 hz2 rfl v k (strCells (flS d f k)) (by rfl) O1.out _ (by rfl) rfl hn1 hn2 S1.out ?_; intro g cap w1 hown1 hg1; have hA2 := Lib.hid ((A1.out.alloc _).grown hg1 (own_ne O1.out (by omega))); have hB2 := (B1.out.alloc _).grown hg1 (own_ne O1.out (by omega)); have z2 := hB2.c2; have z3 := hB2.fz 2; have HB2 := Lib.hid hB2; clear hB2)
        | (go_simp; go_at_call 107; refine (specFlat_any _ _ _).mono ?_; rintro e u1 ⟨rfl, b1⟩; have hs1 := b1.size; have k1 := (b1.cell (p := ⟨w.heap.size + 1, 2, none⟩) hl).trans c2; have A1 := Lib.hid ((show Blk wr.drew _ _ _ _ from HA.out).below b1); have B1 := Lib.hid ((show Blk wr.drew _ _ _ _ from HB.out).below b1); have O1 : Hid (u1.ownsRow (w.heap.size + 2) 9 1 v k (strCells (flS d f k))) := own_mk (OwnS.below (w := wr.drew) HO.out b1); have hl1 := B1.out.lt; have S1 : Hid (w.heap.size + 2 ≤ u1.heap.size) := Lib.hid (by omega); have Y1 := Lib.hid ((dr_bel hb ⟨1, rfl⟩).trans (b1.mono hb.size)); clear b1))
      all_goals
        have O2 := ownsRow_setCell_below (flS_snoc hown1) (a := ⟨w.heap.size + 1, 2, none⟩) (by simp) (.slice (some ⟨g, 0, none⟩) (k + 1) cap)
        have Y2 := (below_grown2 Y1.out (by have := S1.out; omega) (by omega) O1.out hg1).setCell (p := ⟨w.heap.size + 1, 2, none⟩) (by simp) (.slice (some ⟨g, 0, none⟩) (k + 1) cap)
        clear hown1 hg1
        go_wp2
        go_roundw
        case rel => exact ⟨k + 1, _, by omega, by go_num, hA2.out.other (by simp) _, HB2.out.set2 _, O2, Y2⟩
        case measure => simp [intOf]; omega
    · obtain rfl : k = M := by omega
      by_cases t0 : (k : Int) < n
      · have t1 : ¬ (k : Int) ≤ 10 := fun h => hlt ((HC.out k).2 ⟨t0, h⟩)
        obtain ⟨a', c', rfl, hrd⟩ := hown.read
        rw [flS_length] at HB hB hown
        have c0 := hB.c0
        have c1 := hB.c1
        have c2 := hB.c2
        clear hA hB
        go_wp2_with fail
        have CK := specCardOk_any _ d f a' c' (flS d f k) hrd (flS_sz d f k (by omega))
        rw [flS_length, OK.out] at CK
        refine CK.mono ?_
        rintro e u1 ⟨rfl, b1⟩
        have A1 := HA.out.below b1
        have B1 := HB.out.below b1
        have O1 := OwnS.below hown b1
        have Y1 := hb.trans (b1.mono hb.size)
        have d0 := B1.c0
        have d1 := B1.c1
        have d2 := B1.c2
        have l1 := A1.lt
        have l2 := B1.lt
        have f0 := A1.fz 0
        have f1 := A1.fz 1
        have f2 := A1.fz 2
        have x0 := A1.c0
        have x1 := A1.c1
        have x2 := A1.c2
        have HK := Lib.hid A1; have HL := Lib.hid B1
        clear A1 B1 CK b1 HA HB hrd
        go_wp2
        refine bodyPost_ret (v := .tuple #[.agg #[.int .i64 d, .int .i64 f, .slice a' k c'], .bool true]) (by simp [results, Try.results47, go_sem, d0, d1, d2, x0, x1, x2, l1, l2, f0, f1, f2]) rfl ⟨⟨a', c', by rw [flS_length], ?_⟩, ?_⟩
        · rw [flS_length]
          exact World.ownsRow.mono (ownsRow_setCell_below (ownsRow_setCell_below (ownsRow_setCell_below O1 (by simp; try omega) _) (by simp; try omega) _) (by simp; try omega) _) (by omega)
        · exact ((Y1.setCell (by simp) _).setCell (by simp) _).setCell (by simp) _
      · skip
        obtain ⟨a', c', rfl, hrd⟩ := hown.read
        rw [flS_length] at HB hB hown
        have c0 := hB.c0
        have c1 := hB.c1
        have c2 := hB.c2
        clear hA hB
        go_wp2_with fail
        have CK := specCardOk_any _ d f a' c' (flS d f k) hrd (flS_sz d f k (by omega))
        rw [flS_length, OK.out] at CK
        refine CK.mono ?_
        rintro e u1 ⟨rfl, b1⟩
        have A1 := HA.out.below b1
        have B1 := HB.out.below b1
        have O1 := OwnS.below hown b1
        have Y1 := hb.trans (b1.mono hb.size)
        have d0 := B1.c0
        have d1 := B1.c1
        have d2 := B1.c2
        have l1 := A1.lt
        have l2 := B1.lt
        have f0 := A1.fz 0
        have f1 := A1.fz 1
        have f2 := A1.fz 2
        have x0 := A1.c0
        have x1 := A1.c1
        have x2 := A1.c2
        have HK := Lib.hid A1; have HL := Lib.hid B1
        clear A1 B1 CK b1 HA HB hrd
        go_wp2
        refine bodyPost_ret (v := .tuple #[.agg #[.int .i64 d, .int .i64 f, .slice a' k c'], .bool true]) (by simp [results, Try.results47, go_sem, d0, d1, d2, x0, x1, x2, l1, l2, f0, f1, f2]) rfl ⟨⟨a', c', by rw [flS_length], ?_⟩, ?_⟩
        · rw [flS_length]
          exact World.ownsRow.mono (ownsRow_setCell_below (ownsRow_setCell_below (ownsRow_setCell_below O1 (by simp; try omega) _) (by simp; try omega) _) (by simp; try omega) _) (by omega)
        · exact ((Y1.setCell (by simp) _).setCell (by simp) _).setCell (by simp) _

set_option maxRecDepth 20000 in
set_option maxHeartbeats 3200000 in
theorem specPlain_bad (d f : Int) (n : Int) (M : Nat) (w : World) (hM : M ≤ 11) (hc : ∀ k : Nat, k < M ↔ ((k : Int) < n ∧ (k : Int) ≤ 10)) (hok : okC d f (flS d f M) = false) :
    Calls Try.prog 47 #[.int .i64 d, .int .i64 f, .int .i64 n] w fun e w' => CardR w.heap.size 0 0 [] false e w' ∧ Below w.heap.size w w' := by
  obtain ⟨i0, hi, hz0, hz1, hz2⟩ := info_parts Try.info9s
  have OK := Lib.hid hok; clear hok
  have HC := Lib.hid hc; clear hc
  go_enter Try.func47, Try.ntmps47
  go_wp2
  go_loopw [9] (fun i wr => ∃ (k : Nat) (v : Value), k ≤ M ∧ i = .int .i64 k ∧ Blk wr w.heap.size (.int .i64 0) (.int .i64 0) (.slice none 0 0) ∧ Blk wr (w.heap.size + 1) (.int .i64 d) (.int .i64 f) v ∧ OwnS (w.heap.size + 2) v (flS d f k) wr ∧ Below w.heap.size w wr) (fun i _ => M - (intOf i).toNat)
  case atStart => exact ⟨0, .slice none 0 0, Nat.zero_le _, rfl, (Blk.new w _ _ _).alloc _, Blk.new' (by simp) _ _ _, World.ownsRow_nil _ _ _ _, ((Below.refl _ _).alloc (Nat.le_refl _) _).alloc (by simp) _⟩
  case round =>
    obtain ⟨k, v, hk, rfl, hA, hB, hown, hb⟩ := hrel
    have HA := Lib.hid hA; have HB := Lib.hid hB
    by_cases hlt : k < M
    · have t0 : (k : Int) < n := ((HC.out k).1 hlt).1
      have t1 : (k : Int) ≤ 10 := ((HC.out k).1 hlt).2
      have c2 := hB.c2
      have hl := hB.lt
      clear hA hB
      have HO := Lib.hid hown
      have hn1 : k + 1 ≤ maxLen := by unfold maxLen; omega
      have hn2 : (k + 1) * 16 ≤ 140737488355328 := by omega
      go_wp2
      go_region_law (first
        | (refine step_app1 (by rfl) _ _ 26 (by rfl) (w.heap.size + 2) 9 i0 (.string ByteArray.empty) 16 Try.underlying26 hi hz0 hz1 hz2 rfl v k (strCells (flS d f k)) (by rfl) O1.out _ (by rfl) rfl hn1 hn2 S1.out ?_; intro g cap w1 hown1 hg1; have hA2 := Lib.hid ((A1.out.alloc _).grown hg1 (own_ne O1.out (by omega))); have hB2 := (B1.out.alloc _).grown hg1 (own_ne O1.out (by omega)); have z2 := hB2.c2; have z3 := hB2.fz 2; have HB2 := Lib.hid hB2; clear hB2)
        | (go_simp; go_at_call 107; refine (specFlat_any _ _ _).mono ?_; rintro e u1 ⟨rfl, b1⟩; have hs1 := b1.size; have k1 := (b1.cell (p := ⟨w.heap.size + 1, 2, none⟩) hl).trans c2; have A1 := Lib.hid ((show Blk wr.drew _ _ _ _ from HA.out).below b1); have B1 := Lib.hid ((show Blk wr.drew _ _ _ _ from HB.out).below b1); have O1 : Hid (u1.ownsRow (w.heap.size + 2) 9 1 v k (strCells (flS d f k))) := own_mk (OwnS.below (w := wr.drew) HO.out b1); have hl1 := B1.out.lt; have S1 : Hid (w.heap.size + 2 ≤ u1.heap.size) := Lib.hid (by omega); have Y1 := Lib.hid ((dr_bel hb ⟨1, rfl⟩).trans (b1.mono hb.size)); clear b1))
      all_goals
        have O2 := ownsRow_setCell_below (flS_snoc hown1) (a := ⟨w.heap.size + 1, 2, none⟩) (by simp) (.slice (some ⟨g, 0, none⟩) (k + 1) cap)
        have Y2 := (below_grown2 Y1.out (by have := S1.out; omega) (by omega) O1.out hg1).setCell (p := ⟨w.heap.size + 1, 2, none⟩) (by simp) (.slice (some ⟨g, 0, none⟩) (k + 1) cap)
        clear hown1 hg1
        go_wp2
        go_roundw
        case rel => exact ⟨k + 1, _, by omega, by go_num, hA2.out.other (by simp) _, HB2.out.set2 _, O2, Y2⟩
        case measure => simp [intOf]; omega
    · obtain rfl : k = M := by omega
      by_cases t0 : (k : Int) < n
      · have t1 : ¬ (k : Int) ≤ 10 := fun h => hlt ((HC.out k).2 ⟨t0, h⟩)
        obtain ⟨a', c', rfl, hrd⟩ := hown.read
        rw [flS_length] at HB hB hown
        have c0 := hB.c0
        have c1 := hB.c1
        have c2 := hB.c2
        clear hA hB
        go_wp2_with fail
        have CK := specCardOk_any _ d f a' c' (flS d f k) hrd (flS_sz d f k (by omega))
        rw [flS_length, OK.out] at CK
        refine CK.mono ?_
        rintro e u1 ⟨rfl, b1⟩
        have A1 := HA.out.below b1
        have B1 := HB.out.below b1
        have O1 := OwnS.below hown b1
        have Y1 := hb.trans (b1.mono hb.size)
        have d0 := B1.c0
        have d1 := B1.c1
        have d2 := B1.c2
        have l1 := A1.lt
        have l2 := B1.lt
        have f0 := A1.fz 0
        have f1 := A1.fz 1
        have f2 := A1.fz 2
        have x0 := A1.c0
        have x1 := A1.c1
        have x2 := A1.c2
        have HK := Lib.hid A1; have HL := Lib.hid B1
        clear A1 B1 CK b1 HA HB hrd
        go_wp2
        refine bodyPost_ret (v := .tuple #[.agg #[.int .i64 0, .int .i64 0, .slice none 0 0], .bool false]) (by simp [results, Try.results47, go_sem, d0, d1, d2, x0, x1, x2, l1, l2, f0, f1, f2]) rfl ⟨⟨none, 0, rfl, World.ownsRow_nil _ _ _ _⟩, ?_⟩
        exact ((Y1.setCell (by simp) _).setCell (by simp) _).setCell (by simp) _
      · skip
        obtain ⟨a', c', rfl, hrd⟩ := hown.read
        rw [flS_length] at HB hB hown
        have c0 := hB.c0
        have c1 := hB.c1
        have c2 := hB.c2
        clear hA hB
        go_wp2_with fail
        have CK := specCardOk_any _ d f a' c' (flS d f k) hrd (flS_sz d f k (by omega))
        rw [flS_length, OK.out] at CK
        refine CK.mono ?_
        rintro e u1 ⟨rfl, b1⟩
        have A1 := HA.out.below b1
        have B1 := HB.out.below b1
        have O1 := OwnS.below hown b1
        have Y1 := hb.trans (b1.mono hb.size)
        have d0 := B1.c0
        have d1 := B1.c1
        have d2 := B1.c2
        have l1 := A1.lt
        have l2 := B1.lt
        have f0 := A1.fz 0
        have f1 := A1.fz 1
        have f2 := A1.fz 2
        have x0 := A1.c0
        have x1 := A1.c1
        have x2 := A1.c2
        have HK := Lib.hid A1; have HL := Lib.hid B1
        clear A1 B1 CK b1 HA HB hrd
        go_wp2
        refine bodyPost_ret (v := .tuple #[.agg #[.int .i64 0, .int .i64 0, .slice none 0 0], .bool false]) (by simp [results, Try.results47, go_sem, d0, d1, d2, x0, x1, x2, l1, l2, f0, f1, f2]) rfl ⟨⟨none, 0, rfl, World.ownsRow_nil _ _ _ _⟩, ?_⟩
        exact ((Y1.setCell (by simp) _).setCell (by simp) _).setCell (by simp) _

end Go.Proofs.Ytplcfgpmpacjeaa
