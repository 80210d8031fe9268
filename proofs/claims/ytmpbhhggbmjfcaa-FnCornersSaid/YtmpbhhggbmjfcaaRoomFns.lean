/- Contracts of rooms, RoomTable and CountStrips of the program, CountStrips of the reference. -/
import Derived.Test.YtmpbhhggbmjfcaaRooms
import Derived.Test.YtmpbhhggbmjfcaaInts
import Derived.OwnWalk

namespace Go.Proofs.Ytmpbhhggbmjfcaa
open Go.RowKit
set_option linter.unusedVariables false
set_option linter.unusedSimpArgs false

/-- The first n values of a function. -/
def lF (g : Nat → Nat) (n : Nat) : List Int := (List.range n).map fun j => (g j : Int)
theorem lF_length (g : Nat → Nat) (n : Nat) : (lF g n).length = n := by simp [lF]
theorem lF_get (g : Nat → Nat) (n j : Nat) (h : j < (lF g n).length) : (lF g n)[j] = (g j : Int) := by simp [lF]
theorem lF_congr {g h : Nat → Nat} {n : Nat} (e : ∀ j, j < n → g j = h j) : lF g n = lF h n := by
  unfold lF; exact List.map_congr_left fun j hj => by rw [e j (List.mem_range.1 hj)]
theorem lF_set (g : Nat → Nat) (n i x : Nat) : (lF g n).set i (x : Int) = lF (fun j => if j = i then x else g j) n := by
  apply List.ext_getElem
  · rw [List.length_set, lF_length, lF_length]
  · intro j h1 h2
    rw [List.getElem_set]
    simp only [lF, List.getElem_map, List.getElem_range]
    split
    · rename_i h; subst h; rw [if_pos rfl]
    · rename_i h; rw [if_neg (fun e => h e.symm)]
theorem lF_made (n : Nat) : intCells (lF (fun _ => 0) n) = (madeCells (Value.int .i64 0).cells (n * 1)).toList := by
  apply List.ext_getElem
  · simp [intCells, lF, madeCells, Value.cells]
  · intro i h1 h2; simp [intCells, lF, madeCells, Value.cells, Nat.mod_one]
theorem OwnI.other {B g : Nat} {v : Value} {xs : List Int} {w : World} (h : OwnI B v xs w) (hg : g < B) (j : Nat) (u : Value) : OwnI B v xs (w.setCell ⟨g, j, none⟩ u) := ownsRow_setCell_below h hg u
theorem OwnI.at {B g n cap : Nat} {f : Nat → Nat} {m : Nat} {w : World} (h : OwnI B (.slice (some ⟨g, 0, none⟩) n cap) (lF f m) w) (j : Nat) (hj : j < m) : w.cell? ⟨g, j, none⟩ = some (.int .i64 (f j)) := by
  rw [h.cell j (by rw [lF_length]; exact hj), lF_get]
/-- The first part of a row of ways, then the second. -/
def g1 (d f k : Nat) (j : Nat) : Nat := if j < k then RR d f j else 0
def g2 (d D E f k : Nat) (j : Nat) : Nat := RR d E j + if D ≤ j ∧ j < D + k then RR D f (j - D) else 0
theorem g1_zero (d f n : Nat) : lF (fun _ => 0) n = lF (g1 d f 0) n := rfl
theorem g1_step (d f k n : Nat) : lF (fun j => if j = k then RR d f k else g1 d f k j) n = lF (g1 d f (k + 1)) n := lF_congr fun j _ => by
  unfold g1; by_cases h : j = k
  · subst h; simp
  · rw [if_neg h]; by_cases h2 : j < k
    · rw [if_pos h2, if_pos (by omega)]
    · rw [if_neg h2, if_neg (by omega)]
theorem g12 (d D E f n : Nat) : lF (g1 d E (d * E + 1)) n = lF (g2 d D E f 0) n := lF_congr fun j _ => by
  unfold g1 g2
  rw [if_neg (show ¬ (D ≤ j ∧ j < D + 0) from by omega)]
  by_cases h : j < d * E + 1
  · rw [if_pos h]; rfl
  · rw [if_neg h, RR_past d E j (by omega)]
theorem g2_at (d D E f k : Nat) : g2 d D E f k (k + D) = RR d E (k + D) := by
  unfold g2; rw [if_neg (by omega)]; rfl
theorem g2_step (d D E f k n : Nat) : lF (fun j => if j = k + D then RR d E (k + D) + RR D f k else g2 d D E f k j) n = lF (g2 d D E f (k + 1)) n := lF_congr fun j _ => by
  unfold g2; by_cases h : j = k + D
  · subst h; rw [if_pos rfl, if_pos (by omega), show k + D - D = k from by omega]
  · rw [if_neg h]; by_cases h2 : D ≤ j ∧ j < D + k
    · rw [if_pos h2, if_pos (by omega)]
    · rw [if_neg h2, if_neg (by omega)]
theorem g2_all (d f n : Nat) : lF (g2 d (d + 1) (f + 1) f ((d + 1) * f + 1)) n = lF (RR (d + 1) (f + 1)) n := lF_congr fun j _ => by
  unfold g2; rw [RR_step]
  by_cases h : d + 1 ≤ j
  · rw [if_pos h]; by_cases h2 : j < d + 1 + ((d + 1) * f + 1)
    · rw [if_pos ⟨h, h2⟩]
    · rw [if_neg (fun h3 => h2 h3.2), RR_past (d + 1) f (j - (d + 1)) (by omega)]
  · rw [if_neg h, if_neg (fun h3 => h h3.1)]
theorem one_row (d f : Nat) (h : d = 0 ∨ f = 0) (n : Nat) : lF (fun j => if j = 0 then 1 else 0) n = lF (RR d f) n := lF_congr fun j _ => by
  rcases h with rfl | rfl
  · rw [RR_zero]
  · rw [RR_flat]

set_option maxHeartbeats 1600000 in
theorem rooms_flat (d f : Nat) (hd : d ≤ 8) (hf : f ≤ 8) (h : d = 0 ∨ f = 0) (w : World) :
    Calls Try.prog 85 #[.int .i64 d, .int .i64 f] w fun e w' => ∃ v, e = .returned v ∧ OwnI w.heap.size v (lF (RR d f) 1) w' ∧ Below w.heap.size w w' := by
  obtain ⟨i0, hi, hz0, hz1, hz2⟩ := info_parts Try.info3
  have hb1 : i0.bytes * 1 ≤ 281474976710656 := by rw [hz2]; omega
  have hb2 : 1 ≤ maxLen := by unfold maxLen; omega
  have e0 : (d : Int) * (f : Int) = 0 := by rcases h with rfl | rfl <;> simp
  have HM := Lib.hid (lF_made 1)
  have HO := Lib.hid (one_row d f h 1)
  have HS := Lib.hid (lF_set (fun _ => 0) 1 0 1)
  have HL := Lib.hid (lF_length (fun _ => 0) 1)
  by_cases hd0 : d = 0
  · obtain rfl := hd0
    clear h
    go_enter Try.func85, Try.ntmps85
    go_wp2_with (at_make; refine wpList_make_full _ rfl _ _ 48 rfl w.heap.size 3 i0 (.int .i64 0) 1 Try.underlying48 hi hz0 hz1 _ _ _ _ 1 rfl rfl rfl rfl hb1 hb2 (Nat.le_refl _) ?_; intro w0 hown0 hgrow0; have ho : OwnI w.heap.size (.slice (some ⟨w.heap.size, 0, none⟩) 1 1) (lF (fun _ => 0) 1) w0 := (by unfold OwnI; rw [HL.out, HM.out]; exact hown0); have hbw : Below w.heap.size w w0 := (Below.refl _ _).grown hgrow0 (Nat.le_refl _) (fun k hk => by cases hk); have hc := ho.at 0 (by omega); have hf := ho.frozen 0; have ho2 := ho.set 0 1; clear hown0 hgrow0 ho)
    go_ret
    exact ⟨_, rfl, by rw [← HO.out, ← HS.out]; exact ho2, hbw.setCell (Nat.le_refl _) _⟩
  · have hf0 : f = 0 := by omega
    obtain rfl := hf0
    have t0 : ((d : Int) == 0) = false := beq_eq_false_iff_ne.2 (by omega)
    clear h hd0
    go_enter Try.func85, Try.ntmps85
    go_wp2_with (at_make; refine wpList_make_full _ rfl _ _ 48 rfl w.heap.size 3 i0 (.int .i64 0) 1 Try.underlying48 hi hz0 hz1 _ _ _ _ 1 rfl rfl rfl rfl hb1 hb2 (Nat.le_refl _) ?_; intro w0 hown0 hgrow0; have ho : OwnI w.heap.size (.slice (some ⟨w.heap.size, 0, none⟩) 1 1) (lF (fun _ => 0) 1) w0 := (by unfold OwnI; rw [HL.out, HM.out]; exact hown0); have hbw : Below w.heap.size w w0 := (Below.refl _ _).grown hgrow0 (Nat.le_refl _) (fun k hk => by cases hk); have hc := ho.at 0 (by omega); have hf := ho.frozen 0; have ho2 := ho.set 0 1; clear hown0 hgrow0 ho)
    go_ret
    exact ⟨_, rfl, by rw [← HO.out, ← HS.out]; exact ho2, hbw.setCell (Nat.le_refl _) _⟩

theorem OwnI.shape {B : Nat} {v : Value} {f : Nat → Nat} {n : Nat} {w : World} (h : OwnI B v (lF f (n + 1)) w) : ∃ g cap, v = .slice (some ⟨g, 0, none⟩) (n + 1) cap ∧ B ≤ g ∧ g < w.heap.size := by
  rcases h.form with ⟨a, c, _, h0⟩ | ⟨g, cap, rfl, hg, _⟩
  · have := lF_length f (n + 1); rw [h0] at this; cases this
  · exact ⟨g, cap, by rw [lF_length], hg, (h.lt g rfl).2⟩

set_option maxRecDepth 20000 in
set_option maxHeartbeats 3200000 in
theorem rooms_any (m : Nat) : ∀ (x y : Int) (d f : Nat) (w : World), x = d → y = f → d ≤ 8 → f ≤ 8 → d + f ≤ m →
    Calls Try.prog 85 #[.int .i64 x, .int .i64 y] w fun e w' => ∃ v, e = .returned v ∧ OwnI w.heap.size v (lF (RR d f) (d * f + 1)) w' ∧ Below w.heap.size w w' := by
  induction m with
  | zero =>
    rintro x y d f w rfl rfl hd hf hm
    obtain rfl : d = 0 := by omega
    rw [Nat.zero_mul]
    exact rooms_flat 0 f hd hf (.inl rfl) w
  | succ m ih =>
    rintro x y d f w rfl rfl hd hf hm
    by_cases h0 : d = 0 ∨ f = 0
    · have : d * f = 0 := by rcases h0 with rfl | rfl <;> simp
      rw [this]
      exact rooms_flat d f hd hf h0 w
    obtain ⟨d, rfl⟩ : ∃ d', d = d' + 1 := ⟨d - 1, by omega⟩
    obtain ⟨f, rfl⟩ : ∃ f', f = f' + 1 := ⟨f - 1, by omega⟩
    obtain ⟨i0, hi, hz0, hz1, hz2⟩ := info_parts Try.info3
    have hp0 : (d + 1) * (f + 1) ≤ 8 * 8 := Nat.mul_le_mul hd hf
    have q1 : (d + 1) * (f + 1) = d * (f + 1) + (f + 1) := Nat.succ_mul _ _
    have q2 : (d + 1) * (f + 1) = (d + 1) * f + (d + 1) := Nat.mul_succ _ _
    obtain ⟨n, hn⟩ : ∃ n, n = (d + 1) * (f + 1) := ⟨_, rfl⟩
    obtain ⟨n1, hn1⟩ : ∃ n1, n1 = d * (f + 1) := ⟨_, rfl⟩
    obtain ⟨n2, hn2⟩ : ∃ n2, n2 = (d + 1) * f := ⟨_, rfl⟩
    have hb1 : i0.bytes * (n + 1) ≤ 281474976710656 := by rw [hz2]; omega
    have hb2 : n + 1 ≤ maxLen := by unfold maxLen; omega
    have e0 : ((d + 1 : Nat) : Int) * ((f + 1 : Nat) : Int) = (n : Int) := by rw [hn, Int.natCast_mul]
    have HM := Lib.hid (lF_made (n + 1))
    have HL := Lib.hid (lF_length (fun _ => 0) (n + 1))
    have G0 := Lib.hid (g1_zero d (f + 1) (n + 1))
    have G12 := Lib.hid (hn1 ▸ g12 d (d + 1) (f + 1) f (n + 1))
    have G2 := Lib.hid (hn2 ▸ g2_all d f (n + 1))
    have N1 : n1 ≤ n := by omega
    have N2 : n2 + (d + 1) ≤ n := by omega
    have N3 : n ≤ 64 := by omega
    have ihA := fun (x y : Int) w h1 h2 => hn1 ▸ ih x y d (f + 1) w h1 h2 (by omega) (by omega) (by omega)
    have ihB := fun (x y : Int) w h1 h2 => hn2 ▸ ih x y (d + 1) f w h1 h2 (by omega) (by omega) (by omega)
    have HI := Lib.hid hi
    have t0 : (((d + 1 : Nat) : Int) == 0) = false := beq_eq_false_iff_ne.2 (by omega)
    have t1 : (((f + 1 : Nat) : Int) == 0) = false := beq_eq_false_iff_ne.2 (by omega)
    rw [← hn]
    clear hn hn1 hn2 q1 q2 hp0 ih h0
    generalize hD : d + 1 = D at *
    generalize hF : f + 1 = E at *
    have HD := Lib.hid hD; have HF := Lib.hid hF; clear hD hF
    have D1 : 1 ≤ D := by have := HD.out; omega
    have F1 : 1 ≤ E := by have := HF.out; omega
    go_enter Try.func85, Try.ntmps85
    go_wp2_with (at_make; refine wpList_make_full _ rfl _ _ 48 rfl w.heap.size 3 i0 (.int .i64 0) 1 Try.underlying48 hi hz0 hz1 _ _ _ _ (n + 1) rfl rfl rfl (by simp) hb1 hb2 (Nat.le_refl _) ?_; intro w0 hown0 hgrow0; have ho : OwnI w.heap.size (.slice (some ⟨w.heap.size, 0, none⟩) (n + 1) (n + 1)) (lF (fun _ => 0) (n + 1)) w0 := (by unfold OwnI; rw [HL.out, HM.out]; exact hown0); have hbw : Below w.heap.size w w0 := (Below.refl _ _).grown hgrow0 (Nat.le_refl _) (fun k hk => by cases hk); clear hown0 hgrow0)
    refine (ihA _ _ _ (by have := HD.out; omega) rfl).mono ?_
    rintro e u1 ⟨v1, rfl, o1, b1⟩
    obtain ⟨p1, c1, rfl, hp1, hl1⟩ := o1.shape
    have ho1 := ho.below b1
    have hs1 : w.heap.size < w0.heap.size := (ho.lt _ rfl).2
    have B1 : Below w.heap.size w u1 := hbw.trans (b1.mono (Nat.le_of_lt hs1))
    have hz := hs1
    rw [G0.out] at ho1
    clear ho hbw b1
    go_wp2
    have IHB := Lib.hid ihB
    clear ihA ihB hi hz0 hz1 hz2 hb1 t0 t1 e0
    go_loopw [29] (fun i wr => ∃ k : Nat, k ≤ n1 + 1 ∧ i = .int .i64 k ∧ OwnI w.heap.size (.slice (some ⟨w.heap.size, 0, none⟩) (n + 1) (n + 1)) (lF (g1 d E k) (n + 1)) wr ∧ OwnI w0.heap.size (.slice (some ⟨p1, 0, none⟩) (n1 + 1) c1) (lF (RR d E) (n1 + 1)) wr ∧ Below w.heap.size w wr) (fun i _ => n1 + 1 - (intOf i).toNat)
    case atStart => exact ⟨0, Nat.zero_le _, rfl, ho1, o1, B1⟩
    case round =>
      obtain ⟨k, hk, rfl, ow, or, hb⟩ := hrel
      by_cases hlt : k < n1 + 1
      · have g1' := ow.at k (by omega)
        have g1'' : wr.cell? ⟨w.heap.size, k, none⟩ = some (.int .i64 0) := by rw [g1']; unfold g1; rw [if_neg (Nat.lt_irrefl k)]; rfl
        have g2' := or.at k hlt
        have g3' := ow.frozen k
        have e1 : (k : Int) < ((n1 + 1 : Nat) : Int) := by omega
        have r1 := RR_small d E k (by have := HD.out; omega) hf
        have ow2 := ow.set k (RR d E k : Int)
        rw [lF_set, g1_step] at ow2
        have or2 := or.other (g := w.heap.size) hs1 k (.int .i64 (RR d E k : Int))
        clear g1'
        go_wp2
        go_roundw
        case rel => exact ⟨k + 1, by omega, by go_num, ow2, or2, hb.setCell (Nat.le_refl _) _⟩
        case measure => simp [intOf]; omega
      · obtain rfl : k = n1 + 1 := by omega
        rw [G12.out] at ow
        clear or o1 ho1
        generalize hu2 : wr = u2 at *
        clear hu2
        go_wp2_with fail
        refine (IHB.out _ _ _ rfl (by have := HF.out; omega)).mono ?_
        rintro e u3 ⟨v3, rfl, o3, b3⟩
        obtain ⟨p3, c3, rfl, hp3, hl3⟩ := o3.shape
        have hs3 : w.heap.size < u2.heap.size := (ow.lt _ rfl).2
        have ow3 := ow.below b3
        have B3 : Below w.heap.size w u3 := hb.trans (b3.mono hb.size)
        clear ow b3 hb
        go_wp2
        go_loopw [47] (fun i wr => ∃ k : Nat, k ≤ n2 + 1 ∧ i = .int .i64 k ∧ OwnI w.heap.size (.slice (some ⟨w.heap.size, 0, none⟩) (n + 1) (n + 1)) (lF (g2 d D E f k) (n + 1)) wr ∧ OwnI u2.heap.size (.slice (some ⟨p3, 0, none⟩) (n2 + 1) c3) (lF (RR D f) (n2 + 1)) wr ∧ Below w.heap.size w wr) (fun i _ => n2 + 1 - (intOf i).toNat)
        case atStart => exact ⟨0, Nat.zero_le _, rfl, ow3, o3, B3⟩
        case round =>
          obtain ⟨k, hk, rfl, ow, or, hb⟩ := hrel
          by_cases hlt : k < n2 + 1
          · have g1' := ow.at (k + D) (by omega)
            rw [g2_at] at g1'
            have g2' := or.at k hlt
            have g3' := ow.frozen (k + D)
            have e1 : (k : Int) < ((n2 + 1 : Nat) : Int) := by omega
            have e2 : ((k : Int) + (D : Int)).toNat = k + D := by omega
            have r1 := RR_small D f k hd (by have := HF.out; omega)
            have r2 := RR_small d E (k + D) (by have := HD.out; omega) hf
            have ow2 := ow.set (k + D) ((RR d E (k + D) + RR D f k : Nat) : Int)
            rw [lF_set, g2_step, Int.natCast_add] at ow2
            have or2 := or.other (g := w.heap.size) hs3 (k + D) (.int .i64 ((RR d E (k + D) : Int) + (RR D f k : Int)))
            go_wp2
            go_roundw
            case rel => exact ⟨k + 1, by omega, by go_num, ow2, or2, hb.setCell (Nat.le_refl _) _⟩
            case measure => simp [intOf]; omega
          · obtain rfl : k = n2 + 1 := by omega
            rw [G2.out] at ow
            clear or
            go_wp2
            go_ret
            exact ⟨_, rfl, ow, hb⟩
end Go.Proofs.Ytmpbhhggbmjfcaa
