/- Slices of strings: what they read as; contracts of szStringS, toStringS, eqStringS (at two equal lists). -/
import Derived.Test.YtmpbhhggbmjfcaaRows
import Derived.Test.YtmpbhhggbmjfcaaOwn
import Derived.Test.YtmpbhhggbmjfcaaCorner
import Derived.Deep.QuietTactic
import Derived.BigQuiet
import Derived.IntWalk
import Derived.Lib.Hide
import Derived.OwnWalk
namespace Go.Proofs.Ytmpbhhggbmjfcaa
open Go.RowKit
set_option linter.unusedVariables false
set_option linter.unusedSimpArgs false

theorem Try.info9s : (Try.prog.info? 9).map (fun i => (i.zero, i.size, i.bytes)) = some (some (.string ByteArray.empty), 1, 16) := by kernel_rfl
theorem dr_bel {B : Nat} {w w1 w2 : World} (h : Below B w w1) (h2 : ∃ n, w2 = w1.drewN n) : Below B w w2 := h.trans (dr_below h2 B)
theorem quiet_any {P : Program} {f : FuncId} {args : Array Value} {w w0 : World} {v : Value} (h : Calls P f args w0 fun e w' => e = .returned v ∧ w0 = w') (hw : ∃ m, w0 = w.drewN m) :
    Calls P f args w0 fun e w'' => e = .returned v ∧ ∃ m, w'' = w.drewN m := by
  refine h.mono ?_
  rintro e w' ⟨rfl, rfl⟩
  exact ⟨rfl, hw⟩
/-- The j-th string, the empty one beyond the end. -/
def sel (ss : List ByteArray) (j : Nat) : ByteArray := ss.getD j ByteArray.empty
theorem sel_get (ss : List ByteArray) (j : Nat) (h : j < ss.length) : sel ss j = ss[j] := by unfold sel; rw [List.getD_eq_getElem?_getD, List.getElem?_eq_getElem h]; rfl
/-- A slice at the address a reads as ss. -/
def RdS (w : World) (a : Option Addr) (ss : List ByteArray) : Prop :=
  ss = [] ∨ ∃ b off, a = some ⟨b, off, none⟩ ∧ 0 < ss.length ∧ b < w.heap.size ∧ ∀ j, j < ss.length → w.cell? ⟨b, off + j, none⟩ = some (.string (sel ss j))
theorem RdS.below {w w' : World} {a : Option Addr} {ss : List ByteArray} (h : RdS w a ss) (hb : Below w.heap.size w w') : RdS w' a ss := by
  rcases h with h | ⟨b, off, rfl, hp, hl, hc⟩
  · exact .inl h
  · exact .inr ⟨b, off, rfl, hp, Nat.lt_of_lt_of_le hl hb.size, fun j hj => (hb.cell (p := ⟨b, off + j, none⟩) hl).trans (hc j hj)⟩
/-- Lengths that a slice of strings has. -/
def SzS (ss : List ByteArray) : Prop := ss.length ≤ maxLen ∧ ∀ j, (sel ss j).size ≤ maxLen
def strCells (ss : List ByteArray) : List Value := ss.map Value.string
/-- The slice v, made by the call, reads as ss. -/
def OwnS (B : Nat) (v : Value) (ss : List ByteArray) (w : World) : Prop := w.ownsRow B 9 1 v ss.length (strCells ss)
theorem OwnS.below {B : Nat} {v : Value} {ss : List ByteArray} {w w' : World} (h : OwnS B v ss w) (hb : Below w.heap.size w w') : OwnS B v ss w' := own_below h hb
theorem OwnS.read {B : Nat} {v : Value} {ss : List ByteArray} {w : World} (h : OwnS B v ss w) : ∃ a c, v = .slice a ss.length c ∧ RdS w a ss := by
  rcases h.2 with ⟨rfl, h0⟩ | ⟨g, cap, cur, rfl, hg, hgg, _⟩
  · exact ⟨none, 0, by rw [h0], .inl (List.length_eq_zero_iff.1 h0)⟩
  · refine ⟨_, _, rfl, ?_⟩
    rcases Nat.eq_zero_or_pos ss.length with h0 | h0
    · exact .inl (List.length_eq_zero_iff.1 h0)
    · refine .inr ⟨g, 0, rfl, h0, (Array.getElem?_eq_some_iff.1 hgg).1, fun j hj => ?_⟩
      have := h.cells (g := g) rfl j (.string ss[j]) (by simp [strCells, List.getElem?_eq_getElem hj])
      rw [show (⟨g, 0, none⟩ : Addr).add j = ⟨g, j, none⟩ from by unfold Addr.add; split <;> simp_all] at this
      rw [Nat.zero_add, this, sel_get ss j hj]

set_option maxHeartbeats 800000 in
theorem eqStringS_same (a1 a2 : Option Addr) (c1 c2 : Nat) (ss : List ByteArray) (w : World) (h1 : RdS w a1 ss) (h2 : RdS w a2 ss) (hm : ss.length ≤ maxLen) :
    Calls Try.prog 64 #[.slice a1 ss.length c1, .slice a2 ss.length c2] w fun e w' => e = .returned (.bool true) ∧ ∃ n, w' = w.drewN n := by
  unfold maxLen at hm
  rcases h1 with rfl | ⟨b1, o1, rfl, hp, hl1, hc1⟩
  · clear h2 hm
    go_enter Try.func64, Try.ntmps64
    go_wp2
    refine wp_loop_rounds 1 ?_
    rw [rounds_succ]
    go_wp2
    go_ret
    exact ⟨rfl, dr_refl _⟩
  · rcases h2 with rfl | ⟨b2, o2, rfl, _, hl2, hc2⟩
    · simp at hp
    generalize hn : ss.length = n at *
    go_enter Try.func64, Try.ntmps64
    go_wp2
    go_loopw [5] (fun i wr => ∃ k : Nat, k ≤ n ∧ i = .int .i64 k ∧ ∃ q, wr = w.drewN q) (fun i _ => n - (intOf i).toNat)
    case atStart => exact ⟨0, Nat.zero_le _, rfl, dr_refl _⟩
    case round =>
      obtain ⟨k, hk, rfl, q, rfl⟩ := hrel
      by_cases hlt : k < n
      · have g1 := hc1 k hlt
        have g2 := hc2 k hlt
        have e1 : (k : Int) < (n : Int) := by omega
        go_wp2
        go_quiet (fail)
        go_wp2
        go_roundw
        case rel => exact ⟨k + 1, by omega, by go_num, _, rfl⟩
        case measure => simp [intOf]; omega
      · obtain rfl : k = n := by omega
        go_wp2
        go_ret
        exact ⟨rfl, _, rfl⟩

/-- What szStringS tells: too much, or all lengths are small. -/
def SzOk (x left : Int) (ss : List ByteArray) : Prop := x < 0 ∨ (0 ≤ x ∧ x ≤ left ∧ ss.length ≤ 1048576 ∧ ∀ j, (sel ss j).size ≤ 1048576)
theorem sel_out (ss : List ByteArray) (j : Nat) (h : ss.length ≤ j) : (sel ss j).size = 0 := by
  unfold sel; rw [List.getD_eq_getElem?_getD, List.getElem?_eq_none h]; rfl

set_option maxHeartbeats 800000 in
theorem szStringS_any (a : Option Addr) (c : Nat) (ss : List ByteArray) (left : Int) (w : World) (h : RdS w a ss) (hz : SzS ss) (h0 : 0 ≤ left) (h1 : left ≤ 1048576) :
    Calls Try.prog 58 #[.slice a ss.length c, .int .i64 left] w fun e w' => (∃ x, e = .returned (.int .i64 x) ∧ SzOk x left ss) ∧ w = w' := by
  have hz1 := hz.1
  unfold maxLen at hz1
  by_cases hbig : left < (ss.length : Int)
  · go_enter Try.func58, Try.ntmps58
    go_wp2
    go_ret
    exact ⟨⟨-1, rfl, .inl (by omega)⟩, rfl⟩
  · have hsm : (ss.length : Int) ≤ left := by omega
    clear hbig
    rcases h with rfl | ⟨b, o, rfl, hp, hl, hc⟩
    · go_enter Try.func58, Try.ntmps58
      go_wp2
      refine wp_loop_rounds 1 ?_
      rw [rounds_succ]
      go_wp2
      go_ret
      exact ⟨⟨left, ret_int (by simp), .inr ⟨h0, Int.le_refl _, Nat.zero_le _, fun j => by rw [sel_out [] j (Nat.zero_le _)]; omega⟩⟩, rfl⟩
    · generalize hn : ss.length = n at *
      have HN := Lib.hid hn; clear hn
      have HZ := Lib.hid hz; clear hz
      go_enter Try.func58, Try.ntmps58
      go_wp2
      go_loop [1, 5] (fun l i => ∃ (k : Nat) (x : Int), k ≤ n ∧ i = .int .i64 k ∧ l = .int .i64 x ∧ 0 ≤ x ∧ x ≤ left ∧ Hid (∀ j, j < k → (sel ss j).size ≤ 1048576)) (fun _ i => n - (intOf i).toNat)
      case atStart => exact ⟨0, left - n, Nat.zero_le _, rfl, rfl, by omega, by omega, Lib.hid (fun j hj => by omega)⟩
      case round =>
        obtain ⟨k, x, hk, rfl, rfl, x0, x1, HA⟩ := hrel
        by_cases hlt : k < n
        · have g1 := hc k hlt
          have e1 : (k : Int) < (n : Int) := by omega
          have zk := HZ.out.2 k
          unfold maxLen at zk
          by_cases hs : x < ((sel ss k).size : Int)
          · go_wp2
            go_ret
            exact ⟨⟨-1, rfl, .inl (by omega)⟩, rfl⟩
          · have hs2 : ((sel ss k).size : Int) ≤ x := by omega
            have HA2 : Hid (∀ j, j < k + 1 → (sel ss j).size ≤ 1048576) := Lib.hid (fun j hj => by
              rcases Nat.lt_or_ge j k with h | h
              · exact HA.out j h
              · obtain rfl : j = k := by omega
                omega)
            clear hs
            go_wp2
            go_round
            case rel => exact ⟨k + 1, x - (sel ss k).size, by omega, by go_num, rfl, by omega, by omega, HA2⟩
            case measure => simp [intOf]; omega
        · obtain rfl : k = n := by omega
          go_wp2
          go_ret
          refine ⟨⟨x, rfl, .inr ⟨x0, x1, by rw [HN.out]; omega, fun j => ?_⟩⟩, rfl⟩
          rcases Nat.lt_or_ge j k with h | h
          · exact HA.out j h
          · rw [sel_out ss j (by rw [HN.out]; exact h)]; omega

/-- The first k strings copied, the rest empty. -/
def cpS (k : Nat) (ss : List ByteArray) : List ByteArray := (List.range ss.length).map fun j => if j < k then sel ss j else ByteArray.empty
theorem cpS_length (k : Nat) (ss : List ByteArray) : (cpS k ss).length = ss.length := by simp [cpS]
theorem cpS_succ (k : Nat) (ss : List ByteArray) : (cpS k ss).set k (sel ss k) = cpS (k + 1) ss := by
  apply List.ext_getElem
  · rw [List.length_set, cpS_length, cpS_length]
  · intro i h1 h2
    rw [List.getElem_set]
    split
    · rename_i h; subst h; simp [cpS]
    · rename_i h
      simp only [cpS, List.getElem_map, List.getElem_range]
      by_cases hik : i < k
      · rw [if_pos hik, if_pos (by omega)]
      · rw [if_neg hik, if_neg (by omega)]
theorem cpS_all (ss : List ByteArray) : cpS ss.length ss = ss := by
  apply List.ext_getElem
  · exact cpS_length _ _
  · intro i h1 h2; simp [cpS, h2, sel_get ss i h2]
theorem cpS_zero (ss : List ByteArray) : strCells (cpS 0 ss) = (madeCells (Value.string ByteArray.empty).cells (ss.length * 1)).toList := by
  apply List.ext_getElem
  · simp [strCells, cpS_length, madeCells, Value.cells]
  · intro i h1 h2; simp [strCells, cpS, madeCells, Value.cells, Nat.mod_one]
theorem OwnS.frozen {B g n cap : Nat} {xs : List ByteArray} {w : World} (h : OwnS B (.slice (some ⟨g, 0, none⟩) n cap) xs w) (j : Nat) : w.frozen? ⟨g, j, none⟩ = false := by
  rcases h.2 with ⟨h1, _⟩ | ⟨g', cap', cur, h1, _, hg, _⟩
  · cases h1
  · simp only [Value.slice.injEq, Option.some.injEq, Addr.mk.injEq] at h1
    obtain ⟨⟨rfl, _⟩, _⟩ := h1
    unfold World.frozen?; rw [hg]; simp
theorem OwnS.cell {B g n cap : Nat} {xs : List ByteArray} {w : World} (h : OwnS B (.slice (some ⟨g, 0, none⟩) n cap) xs w) (j : Nat) (hj : j < xs.length) : w.cell? ⟨g, j, none⟩ = some (.string (sel xs j)) := by
  have := h.cells (g := g) rfl j (.string xs[j]) (by simp [strCells, List.getElem?_eq_getElem hj])
  rw [show (⟨g, 0, none⟩ : Addr).add j = ⟨g, j, none⟩ from by unfold Addr.add; split <;> simp_all] at this
  rw [this, sel_get xs j hj]
theorem OwnS.set {B g n cap : Nat} {xs : List ByteArray} {w : World} (h : OwnS B (.slice (some ⟨g, 0, none⟩) n cap) xs w) (j : Nat) (x : ByteArray) : OwnS B (.slice (some ⟨g, 0, none⟩) n cap) (xs.set j x) (w.setCell ⟨g, j, none⟩ (.string x)) := by
  unfold OwnS at h ⊢
  have hl := h.1
  refine ⟨by simp [strCells], ?_⟩
  rcases h.2 with ⟨h1, _⟩ | ⟨g', cap', cur, h1, hB, hg, hle, hcap, hsz, htake⟩
  · cases h1
  · simp only [Value.slice.injEq, Option.some.injEq, Addr.mk.injEq] at h1
    obtain ⟨⟨rfl, _⟩, h2, rfl⟩ := h1
    refine .inr ⟨g, cap, cur.setIfInBounds j (.string x), by rw [List.length_set, h2], hB, heap_setCell_same w g j cur _ _ hg, by rw [List.length_set]; exact hle, hcap, by simpa using hsz, ?_⟩
    rw [List.length_set, Array.toList_setIfInBounds, List.take_set, htake]
    simp [strCells, List.map_set]

set_option maxHeartbeats 1600000 in
theorem toStringS_any (a : Option Addr) (c : Nat) (ss : List ByteArray) (w : World) (h : RdS w a ss) (hl : ss.length ≤ 1048576) :
    Calls Try.prog 61 #[.slice a ss.length c] w fun e w' => ∃ v, e = .returned v ∧ OwnS w.heap.size v ss w' ∧ Below w.heap.size w w' := by
  obtain ⟨i0, hi, hz0, hz1, hz2⟩ := info_parts Try.info9s
  have hb1 : i0.bytes * ss.length ≤ 281474976710656 := by rw [hz2]; omega
  have hb2 : ss.length ≤ maxLen := by unfold maxLen; omega
  have HZ := Lib.hid (cpS_zero ss)
  have HL := Lib.hid (cpS_length 0 ss)
  have HA := Lib.hid (cpS_all ss)
  go_enter Try.func61, Try.ntmps61
  go_wp2_with (at_make; refine wpList_make_full _ rfl _ _ 29 rfl w.heap.size 9 i0 (.string ByteArray.empty) 1 Try.underlying29 hi hz0 hz1 _ _ _ _ ss.length rfl rfl rfl rfl hb1 hb2 (Nat.le_refl _) ?_; intro w0 hown0 hgrow0)
  have ho : OwnS w.heap.size (.slice (some ⟨w.heap.size, 0, none⟩) ss.length ss.length) (cpS 0 ss) w0 := by
    unfold OwnS
    rw [HL.out, HZ.out]
    exact hown0
  have hbw : Below w.heap.size w w0 := (Below.refl _ _).grown hgrow0 (Nat.le_refl _) (fun k hk => by cases hk)
  have hgb : w.heap.size < w0.heap.size ∨ ss.length = 0 := by
    rcases Nat.eq_zero_or_pos ss.length with h0 | h0
    · exact .inr h0
    · exact .inl (hown0.lt _ rfl).2
  clear hown0 hgrow0
  rcases h with h0 | ⟨b, o, rfl, hp, hlt, hc⟩
  · have H0 := Lib.hid h0; clear hgb
    subst h0
    go_wp2
    refine wp_loop_rounds 1 ?_
    rw [rounds_succ]
    go_wp2
    go_ret
    exact ⟨_, rfl, ho, hbw⟩
  · generalize hn : ss.length = n at *
    have HN := Lib.hid hn; clear hn
    have HC := Lib.hid hc; clear hc hgb
    go_wp2
    go_loopw [4] (fun i wr => ∃ k : Nat, k ≤ n ∧ i = .int .i64 k ∧ OwnS w.heap.size (.slice (some ⟨w.heap.size, 0, none⟩) n n) (cpS k ss) wr ∧ Below w.heap.size w wr) (fun i _ => n - (intOf i).toNat)
    case atStart => exact ⟨0, Nat.zero_le _, rfl, ho, hbw⟩
    case round =>
      obtain ⟨k, hk, rfl, hown, hb⟩ := hrel
      by_cases hlt2 : k < n
      · have g1 : wr.cell? ⟨b, o + k, none⟩ = some (.string (sel ss k)) := (hb.cell (p := ⟨b, o + k, none⟩) hlt).trans (HC.out k hlt2)
        have g2 := hown.cell k (by rw [cpS_length, HN.out]; exact hlt2)
        have g3 := hown.frozen k
        have e1 : (k : Int) < (n : Int) := by omega
        have hown2 := hown.set k (sel ss k)
        rw [cpS_succ] at hown2
        go_wp2
        go_roundw
        case rel => exact ⟨k + 1, by omega, by go_num, hown2, hb.setCell (Nat.le_refl _) _⟩
        case measure => simp [intOf]; omega
      · obtain rfl : k = n := by omega
        go_wp2
        go_ret
        exact ⟨_, rfl, by rw [← HA.out]; exact hown, hb⟩
end Go.Proofs.Ytmpbhhggbmjfcaa
