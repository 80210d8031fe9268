/- Contracts of l01Long, l01Text: a text of the length asked for. -/
import Derived.Test.YtmfboleiakbpnaaDoorDrawN
import Derived.Test.YtmfboleiakbpnaaDoorOwn
import Derived.OwnWalk
import Derived.Lib.Hide
namespace Go.Proofs.YtmfboleiakbpnaaDoor
open Go.RowKit
set_option linter.unusedVariables false
set_option linter.unusedSimpArgs false
set_option maxRecDepth 20000

theorem Tryd.info5w : (Tryd.prog.info? 5).map (fun i => (i.zero, i.size, i.bytes)) = some (some (.int .u8 0), 1, 1) := by kernel_rfl
/-- The slice v, made by the call, reads as the bytes l. -/
def OwnB (B : Nat) (v : Value) (l : List UInt8) (w : World) : Prop := w.ownsRow B 5 1 v l.length (byteCells l)
theorem OwnB.frozen {B g n cap : Nat} {xs : List UInt8} {w : World} (h : OwnB B (.slice (some ⟨g, 0, none⟩) n cap) xs w) (j : Nat) : w.frozen? ⟨g, j, none⟩ = false := by
  rcases h.2 with ⟨h1, _⟩ | ⟨g', cap', cur, h1, _, hg, _⟩
  · cases h1
  · simp only [Value.slice.injEq, Option.some.injEq, Addr.mk.injEq] at h1
    obtain ⟨⟨rfl, _⟩, _⟩ := h1
    unfold World.frozen?; rw [hg]; simp
theorem OwnB.cell {B g n cap : Nat} {xs : List UInt8} {w : World} (h : OwnB B (.slice (some ⟨g, 0, none⟩) n cap) xs w) (j : Nat) (hj : j < xs.length) : w.cell? ⟨g, j, none⟩ = some (.int .u8 (xs[j].toNat : Int)) := by
  have := h.cells (g := g) rfl j (.int .u8 (xs[j].toNat : Int)) (by simp [byteCells, List.getElem?_eq_getElem hj])
  rwa [show (⟨g, 0, none⟩ : Addr).add j = ⟨g, j, none⟩ from by unfold Addr.add; split <;> simp_all] at this
theorem OwnB.set {B g n cap : Nat} {xs : List UInt8} {w : World} (h : OwnB B (.slice (some ⟨g, 0, none⟩) n cap) xs w) (j : Nat) (x : UInt8) : OwnB B (.slice (some ⟨g, 0, none⟩) n cap) (xs.set j x) (w.setCell ⟨g, j, none⟩ (.int .u8 (x.toNat : Int))) := by
  unfold OwnB at h ⊢
  have hl := h.1
  refine ⟨by simp [byteCells], ?_⟩
  rcases h.2 with ⟨h1, _⟩ | ⟨g', cap', cur, h1, hB, hg, hle, hcap, hsz, htake⟩
  · cases h1
  · simp only [Value.slice.injEq, Option.some.injEq, Addr.mk.injEq] at h1
    obtain ⟨⟨rfl, _⟩, h2, rfl⟩ := h1
    refine .inr ⟨g, cap, cur.setIfInBounds j (.int .u8 (x.toNat : Int)), by rw [List.length_set, h2], hB, heap_setCell_same w g j cur _ _ hg, by rw [List.length_set]; exact hle, hcap, by simpa using hsz, ?_⟩
    rw [List.length_set, Array.toList_setIfInBounds, List.take_set, htake]
    simp [byteCells, List.map_set]
theorem made_bytes (n : Nat) : byteCells (List.replicate n (0 : UInt8)) = (madeCells (Value.int .u8 0).cells (n * 1)).toList := by
  apply List.ext_getElem
  · simp [byteCells, madeCells, Value.cells]
  · intro i h1 h2; simp [byteCells, madeCells, Value.cells, Nat.mod_one]
theorem byte_snoc {w1 : World} {B : Nat} {v : Value} {acc : List UInt8} {n : Int} (h0 : 0 ≤ n) (h1 : n ≤ 255) (h : w1.ownsRow B 5 1 v (acc.length + 1) (byteCells acc ++ [.int .u8 n])) :
    OwnB B v (acc ++ [UInt8.ofNat n.toNat]) w1 := by
  unfold OwnB
  rw [byteCells_append, List.length_append]
  have : Value.int .u8 n = .int .u8 ((UInt8.ofNat n.toNat).toNat : Int) := by
    congr 1; rw [UInt8.toNat_ofNat']; omega
  rw [this] at h
  exact h
theorem Cur.low {B K : Nat} {a : Option Addr} {n cap g : Nat} {w w' : World} (h : Cur B a n cap g w) (hb : Below K w w') (hB : B ≤ K) (hg : g < K) : Cur B a n cap g w' := by
  obtain ⟨i, hh, hi, hblk⟩ := h.blk
  have hb2 : Below B w w' := hb.mono hB
  exact ⟨h.le, h.sz, h.rd.old hb2, i, hh, hi, by rw [hb.block g hg]; exact hblk⟩
set_option maxHeartbeats 1600000 in
theorem l01Long_any (n : Nat) (hn : n ≤ 100000) (x : UInt8) (w : World) :
    Calls Tryd.prog 31 #[.int .i64 n, .int .u8 (x.toNat : Int)] w fun e w' => (∃ s : ByteArray, e = .returned (.string s) ∧ s.size = n) ∧ Below w.heap.size w w' := by
  obtain ⟨i0, hi, hz0, hz1, hz2⟩ := info_parts Tryd.info5w
  have hb1 : i0.bytes * n ≤ 281474976710656 := by rw [hz2]; omega
  have hb2 : n ≤ maxLen := by unfold maxLen; omega
  have HM := Lib.hid (made_bytes n)
  go_enter Tryd.func31, Tryd.ntmps31
  go_wp2_with (at_make; refine wpList_make_full _ rfl _ _ 30 rfl w.heap.size 5 i0 (.int .u8 0) 1 Tryd.underlying30 hi hz0 hz1 _ _ _ _ n rfl rfl rfl rfl hb1 hb2 (Nat.le_refl _) ?_; intro w0 hown0 hgrow0)
  have ho : OwnB w.heap.size (.slice (some ⟨w.heap.size, 0, none⟩) n n) (List.replicate n 0) w0 := by
    unfold OwnB
    rw [HM.out, List.length_replicate]
    exact hown0
  have hbw : Below w.heap.size w w0 := (Below.refl _ _).grown hgrow0 (Nat.le_refl _) (fun k hk => by cases hk)
  clear hown0 hgrow0
  go_wp2
  go_loopw [6] (fun i wr => ∃ (k : Nat) (l : List UInt8), k ≤ n ∧ i = .int .i64 k ∧ Hid (l.length = n) ∧ OwnB w.heap.size (.slice (some ⟨w.heap.size, 0, none⟩) n n) l wr ∧ Below w.heap.size w wr) (fun i _ => n - (intOf i).toNat)
  case atStart => exact ⟨0, _, Nat.zero_le _, rfl, Lib.hid (by simp), ho, hbw⟩
  case round =>
    obtain ⟨k, l, hk, rfl, HL, hown, hb⟩ := hrel
    by_cases hlt : k < n
    · have g2 := hown.cell k (by rw [HL.out]; exact hlt)
      have g3 := hown.frozen k
      have e1 : (k : Int) < (n : Int) := by omega
      have hown2 := hown.set k x
      go_wp2
      go_roundw
      case rel => exact ⟨k + 1, _, by omega, by go_num, Lib.hid (by rw [List.length_set]; exact HL.out), hown2, hb.setCell (Nat.le_refl _) _⟩
      case measure => simp [intOf]; omega
    · obtain rfl : k = n := by omega
      have hl2 := HL.out
      unfold OwnB at hown
      rw [hl2] at hown
      have hcv := run_convert_own (P := Tryd.prog) wr 30 9 5 Tryd.underlying30 Tryd.underlying5 Tryd.underlying9 (l := l) (by rw [hl2]; exact hown)
      clear hl2 hown
      go_wp2
      go_ret
      exact ⟨⟨_, rfl, by show l.toArray.size = k; simpa using HL.out⟩, hb⟩

set_option maxHeartbeats 1600000 in
theorem l01Text_any (B : Nat) (a : Option Addr) (n cap g : Nat) (m : Nat) (hm : m ≤ 5000) (w : World) (hc : Cur B a n cap g w) (hBw : B ≤ w.heap.size) :
    Calls Tryd.prog 33 #[.pointer (some ⟨g, 0, none⟩), .int .i64 m] w fun e w' => ∃ s : ByteArray, e = .returned (.string s) ∧ s.size = m ∧ Cur B a n cap g w' ∧ w.grownBy w' (some g) := by
  obtain ⟨i0, hi, hz0, hz1, hz2⟩ := info_parts Tryd.info5w
  have hgl := hc.lt
  have HC := Lib.hid hc; clear hc
  go_enter Tryd.func33, Tryd.ntmps33
  go_wp2
  go_loopw [5, 6] (fun v i wr => ∃ (k : Nat) (l : List UInt8), k ≤ m ∧ i = .int .i64 k ∧ Hid (l.length = k) ∧ Hid (OwnB w.heap.size v l wr) ∧ Hid (Cur B a n cap g wr) ∧ Hid (w.grownBy wr (some g))) (fun _ i _ => m - (intOf i).toNat)
  case atStart => exact ⟨0, [], Nat.zero_le _, rfl, Lib.hid rfl, Lib.hid (World.ownsRow_made w #[] 0 (Nat.le_refl _) (Nat.zero_le _) rfl), Lib.hid (HC.out.alloc hBw _), Lib.hid (World.grownBy_alloc _ _ _)⟩
  case round =>
    obtain ⟨k, l, hk, rfl, HL, HO, HC1, HG⟩ := hrel
    by_cases hlt : k < m
    · have e1 : (k : Int) < (m : Int) := by omega
      have hn1 : l.length + 1 ≤ maxLen := by rw [HL.out]; unfold maxLen; omega
      have hn2 : (l.length + 1) * 1 ≤ 140737488355328 := by rw [HL.out]; omega
      go_wp2_with fail
      refine (l01Byte_any B a n cap g _ HC1.out).mono ?_
      rintro e w5 ⟨x, rfl, x0, x1, hc1, gr1⟩
      have hown' : w5.ownsRow w.heap.size 5 1 u5 l.length (byteCells l) := World.ownsRow.kept HO.out gr1 (by
        cases hu : u5.ownBlock with
        | none => exact .inl rfl
        | some b => exact .inr (fun e => by have := (World.ownsRow.lt HO.out b hu).1; cases e; omega))
      have HG5 := Lib.hid (gr_trans HG.out gr1)
      have hsz : w.heap.size ≤ w5.heap.size := HG5.out.size
      have HC5 := Lib.hid hc1; clear hc1 gr1
      go_wp2_with (at_builtin; refine wpList_app1 rfl _ _ 30 rfl w.heap.size 5 i0 (.int .u8 0) 1 Tryd.underlying30 hi hz0 hz1 hz2 rfl _ _ _ rfl hown' _ rfl rfl hn1 hn2 hsz ?_; intro g9 cap9 w1 hown1 hg1)
      have hown2 := byte_snoc x0 x1 hown1
      have hlow : Below w.heap.size w5 w1 := ((Below.refl _ _).alloc hsz _).grown hg1 (by simp; omega) (fun j hj => (hown'.lt j hj).1)
      have HC6 := Lib.hid (HC5.out.low hlow hBw hgl)
      have HG6 : Hid (w.grownBy w1 (some g)) := Lib.hid ⟨hlow.os.trans HG5.out.os, hlow.tape.trans HG5.out.tape, hlow.output.trans HG5.out.output, Nat.le_trans HG5.out.size hlow.size, fun j hj hr => (hlow.block j hj).trans (HG5.out.block j hj hr)⟩
      clear hown1 hg1 hlow hown'
      go_wp2
      go_roundw
      case rel => exact ⟨k + 1, _, by omega, by go_num, Lib.hid (by rw [List.length_append, HL.out]; rfl), Lib.hid hown2, HC6, HG6⟩
      case measure => simp [intOf]; omega
    · obtain rfl : k = m := by omega
      have hl2 := HL.out
      have hown := HO.out
      have hcv := run_convert_own (P := Tryd.prog) wr 30 9 5 Tryd.underlying30 Tryd.underlying5 Tryd.underlying9 hown
      clear hl2 hown
      go_wp2
      go_ret
      exact ⟨_, rfl, by show l.toArray.size = k; simpa using HL.out, HC1.out, HG.out⟩

set_option maxHeartbeats 1600000 in
theorem drawEncode_any (a : Option Addr) (n cap : Nat) (w : World) (hn : n ≤ 1048576) (hr : RdB w.heap.size w a n) :
    Calls Tryd.prog 17 #[.slice a n cap] w fun e w' => ∃ s : ByteArray, e = .returned (.string s) ∧ s.size ≤ 20001 ∧ Below w.heap.size w w' := by
  go_enter Tryd.func17, Tryd.ntmps17
  go_wp2_with fail
  refine (l01New_any a n cap w hn hr).mono ?_
  rintro e w1 ⟨g, rfl, hc, hb, hg⟩
  have HC := Lib.hid hc; have HB := Lib.hid hb; clear hc hb
  go_wp2_with fail
  refine (l01Once_any _ a n cap g _ (by omega) (by omega) _ HC.out).mono ?_
  rintro e w2 ⟨b, rfl, hc1, gr1⟩
  have HC1 := Lib.hid hc1; have G1 := Lib.hid gr1; clear hc1 gr1
  cases b with
  | true =>
    go_wp2_with fail
    refine (l01Below_pos _ a n cap g _ (by omega) (by omega) _ HC1.out).mono ?_
    rintro e w3 ⟨x, rfl, x0, x1, hc1, gr1⟩
    have HC2 := Lib.hid hc1; have G2 := Lib.hid (gr_trans G1.out gr1); clear hc1 gr1
    obtain ⟨m, hm⟩ : ∃ m : Nat, 20000 + x = (m : Int) := ⟨(20000 + x).toNat, by omega⟩
    have hm2 : m ≤ 20001 := by omega
    have hx : x = (m : Int) - 20000 := by omega
    have q1 : (20000 : Int) + ((m : Int) - 20000) = (m : Int) := by omega
    subst hx
    have HBB := Lib.hid (HB.out.trans (gr_below G2.out HB.out.size HC.out.le))
    clear hm x0 x1
    go_wp2_with fail
    try rw [q1]
    refine (l01Long_any m (by omega) 200 _).mono ?_
    rintro e w4 ⟨⟨s, rfl, hs⟩, hb4⟩
    have HB4 := Lib.hid (HBB.out.trans (hb4.mono HBB.out.size)); clear hb4
    go_wp2
    go_ret
    exact ⟨s, rfl, by omega, HB4.out⟩
  | false =>
    go_wp2_with fail
    refine (l01Below_pos _ a n cap g _ (by omega) (by omega) _ HC1.out).mono ?_
    rintro e w3 ⟨x, rfl, x0, x1, hc1, gr1⟩
    have HC2 := Lib.hid hc1; have G2 := Lib.hid (gr_trans G1.out gr1); clear hc1 gr1
    obtain ⟨m, rfl⟩ := Int.eq_ofNat_of_zero_le x0
    have hsz3 : w.heap.size ≤ w3.heap.size := Nat.le_trans HB.out.size G2.out.size
    go_wp2_with fail
    refine (l01Text_any _ a n cap g m (by omega) _ HC2.out hsz3).mono ?_
    rintro e w4 ⟨s, rfl, hs, hc1, gr1⟩
    have HC3 := Lib.hid hc1; have G3 := Lib.hid (gr_trans G2.out gr1); clear hc1 gr1
    go_wp2
    go_ret
    exact ⟨s, rfl, by omega, HB.out.trans (gr_below G3.out HB.out.size HC.out.le)⟩

end Go.Proofs.YtmfboleiakbpnaaDoor
