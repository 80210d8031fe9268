/- Contract of spec.RoomTable. -/
import Derived.Test.YtmpbhhggbmjfcaaCutRI
import Derived.Test.YtmpbhhggbmjfcaaRoomFns
import Derived.Test.YtmpbhhggbmjfcaaFlat
import Derived.StillTailTactics
import Derived.OwnWalk
namespace Go.Proofs.Ytmpbhhggbmjfcaa
open Go.RowKit
set_option linter.unusedVariables false
set_option linter.unusedSimpArgs false
set_option maxRecDepth 20000

theorem row_len (g : Nat → Nat) (n : Nat) (G C : Nat → Nat) (j : Nat) : rowCell G C (fun j => lF g n) j = .slice (some ⟨G j, 0, none⟩) n (C j) := by unfold rowCell; rw [lF_length]
/-- A made row of zeros. -/
theorem made_row {w w0 : World} {n : Nat} (h : w0.ownsRow w.heap.size 3 1 (.slice (some ⟨w.heap.size, 0, none⟩) n n) n (madeCells (Value.int .i64 0).cells (n * 1)).toList) : OwnI w.heap.size (.slice (some ⟨w.heap.size, 0, none⟩) n n) (lF (fun _ => 0) n) w0 := by
  unfold OwnI; rw [lF_length, lF_made]; exact h
theorem OwnR.cellF {B g m cap n N : Nat} {F : Nat → Nat → Nat} {G C : Nat → Nat} {w : World} (h : OwnR B (.slice (some ⟨g, 0, none⟩) m cap) n G C (fun j => lF (F j) N) w) (j : Nat) (hj : j < n) : w.cell? ⟨g, j, none⟩ = some (.slice (some ⟨G j, 0, none⟩) N (C j)) := by
  rw [h.cell j hj, lF_length]
theorem OwnR.atF {B n N : Nat} {v : Value} {F : Nat → Nat → Nat} {G C : Nat → Nat} {w : World} (h : OwnR B v n G C (fun j => lF (F j) N) w) (j i : Nat) (hj : j < n) (hi : i < N) : w.cell? ⟨G j, i, none⟩ = some (.int .i64 (F j i)) := by
  have := h.row j hj
  exact this.at i hi
theorem OwnR.pushF {B n N g gr cr cap : Nat} {u : Value} {G C : Nat → Nat} {F : Nat → Nat → Nat} {wr w1 : World} {o : Obj} (h : OwnR B u n G C (fun j => lF (F j) N) wr) (hr : OwnI B (.slice (some ⟨gr, 0, none⟩) N cr) (lF (F n) N) wr) (hgr : ¬ Its u n G gr)
    (hown1 : w1.ownsRow B 48 1 (.slice (some ⟨g, 0, none⟩) (n + 1) cap) (n + 1) (rowCells n G C (fun j => lF (F j) N) ++ [.slice (some ⟨gr, 0, none⟩) N cr])) (hg1 : (wr.alloc o).grownBy w1 u.ownBlock) (hat : u.ownBlock = some g ∨ g = wr.heap.size + 1) :
    OwnR B (.slice (some ⟨g, 0, none⟩) (n + 1) cap) (n + 1) (upd G n gr) (upd C n cr) (fun j => lF (F j) N) w1 := by
  have hl : (lF (F n) N).length = N := lF_length _ _
  have hr' : OwnI B (.slice (some ⟨gr, 0, none⟩) (lF (F n) N).length cr) (lF (F n) N) wr := by rw [hl]; exact hr
  refine (OwnR.push (zs := lF (F n) N) h hr' hgr (by rw [hl]; exact hown1) hg1 hat).congr (fun j hj => ?_)
  by_cases e : j = n
  · subst e; rw [upd_same]
  · rw [upd_other _ _ e]
theorem OwnI.lt1 {B : Nat} {g n c : Nat} {xs : List Int} {w : World} (h : OwnI B (.slice (some ⟨g, 0, none⟩) n c) xs w) : B ≤ g ∧ g < w.heap.size := h.lt g rfl
theorem g1_full (d f n : Nat) : lF (g1 d f (n + 1)) (n + 1) = lF (RR d f) (n + 1) := lF_congr fun j hj => by unfold g1; rw [if_pos hj]
theorem g1_two (d f r X Y n : Nat) (h : X = RR d f r) : lF (fun j => if j = r then X else (if j = r then Y else g1 d f r j)) n = lF (g1 d f (r + 1)) n := lF_congr fun j _ => by
  unfold g1; by_cases e : j = r
  · subst e; rw [if_pos rfl, if_pos (by omega), h]
  · rw [if_neg e, if_neg e]; by_cases h2 : j < r
    · rw [if_pos h2, if_pos (by omega)]
    · rw [if_neg h2, if_neg (by omega)]
theorem RR_first (f r : Nat) : RR 0 (f + 1) r = RR 0 f r := rfl
theorem RR_low (d f r : Nat) (h : r < d + 1) : RR (d + 1) (f + 1) r = RR d (f + 1) r := by rw [RR_step, if_neg (by omega)]; rfl
theorem RR_high (d f q : Nat) : RR (d + 1) (f + 1) (q + (d + 1)) = RR (d + 1) f q + RR d (f + 1) (q + (d + 1)) := by rw [RR_step, if_pos (by omega), Nat.add_sub_cancel, Nat.add_comm]
set_option maxHeartbeats 3200000 in
theorem specRoomTable_yes (d f : Nat) (hd1 : 1 ≤ d) (hd : d ≤ 8) (hf1 : 1 ≤ f) (hf : f ≤ 8) (w : World) :
    Calls Try.prog 54 #[.int .i64 d, .int .i64 f] w fun e w' => ∃ v, e = .returned v ∧ OwnI w.heap.size v (lF (RR d f) (d * f + 1)) w' ∧ Below w.heap.size w w' := by
  obtain ⟨i0, hi, hz0, hz1, hz2⟩ := info_parts Try.info3
  obtain ⟨i1, hj, hy0, hy1, hy2⟩ := info_parts Try.info48
  have hp0 : d * f ≤ 8 * 8 := Nat.mul_le_mul hd hf
  obtain ⟨n, hn⟩ : ∃ n, n = d * f := ⟨_, rfl⟩
  have e0 : (d : Int) * (f : Int) = (n : Int) := by rw [hn, Int.natCast_mul]
  have N3 : n ≤ 64 := by omega
  have z1 : (0 : Int) < (n : Int) + 1 := by omega
  have z2 : (0 : Int) ≤ (n : Int) + 1 := by omega
  rw [← hn]
  have hb1 : i0.bytes * (n + 1) ≤ 281474976710656 := by rw [hz2]; omega
  have hb2 : n + 1 ≤ maxLen := by unfold maxLen; omega
  clear hp0 hn
  go_enter Try.func54, Try.ntmps54
  go_wp2_with fail
  refine (frame_yes d f (by omega) (by omega) (by omega) (by omega) _).mono ?_
  rintro e w' ⟨rfl, rfl⟩
  go_wp2
  go_loopw [5, 6] (fun tb i wr => ∃ (u : Nat) (G C : Nat → Nat), u ≤ d + 1 ∧ i = .int .i64 u ∧ OwnR w.heap.size tb u G C (fun j => lF (RR j 0) (n + 1)) wr ∧ Below w.heap.size w wr) (fun _ i _ => d + 1 - (intOf i).toNat)
  case atStart => exact ⟨0, fun _ => 0, fun _ => 0, Nat.zero_le _, rfl, ownR_made w _ (Nat.le_refl _) _ _ _, (Below.refl _ _).alloc (Nat.le_refl _) _⟩
  case round =>
    obtain ⟨u, G, C, hu, rfl, hown, hb⟩ := hrel
    by_cases hlt : u ≤ d
    · have e1 : (u : Int) ≤ (d : Int) := by omega
      have hn1 : u + 1 ≤ maxLen := by unfold maxLen; omega
      have hn2 : (u + 1) * 24 ≤ 140737488355328 := by omega
      have hsep0 := its_lt hown (Nat.le_refl wr.heap.size)
      obtain ⟨ua, uc, hu5⟩ := hown.slice
      subst hu5
      have HI := Lib.hid hown; have HB := Lib.hid hb
      clear hown hb
      go_wp2_with (first
        | (at_make; refine wpList_make_full _ rfl _ _ 48 rfl _ 3 i0 (.int .i64 0) 1 Try.underlying48 hi hz0 hz1 _ _ _ _ (n + 1) rfl rfl rfl (by simp) hb1 hb2 (Nat.le_refl _) ?_; intro w0 hown0 hgrow0
           have ho := made_row hown0
           have bw : Below wr.heap.size wr w0 := (Below.refl _ _).grown hgrow0 (Nat.le_refl _) (fun k hk => by cases hk)
           clear hown0 hgrow0
           have f0 := ho.frozen 0
           have c0 := ho.at 0 (by omega)
           have ho3 : OwnI wr.heap.size (.slice (some ⟨wr.heap.size, 0, none⟩) (n + 1) (n + 1)) (lF (RR u 0) (n + 1)) (w0.setCell ⟨wr.heap.size, 0, none⟩ (.int .i64 1)) := by have ho2 := ho.set 0 1; rw [← one_row u 0 (.inr rfl) (n + 1), ← lF_set (fun _ => 0) (n + 1) 0 1]; exact ho2
           have bw2 : Below wr.heap.size wr (w0.setCell ⟨wr.heap.size, 0, none⟩ (.int .i64 1)) := bw.setCell (Nat.le_refl _) _
           clear ho bw
           have hown' : (w0.setCell ⟨wr.heap.size, 0, none⟩ (.int .i64 1)).ownsRow w.heap.size 48 1 (.slice ua u uc) u (rowCells u G C (fun j => lF (RR j 0) (n + 1))) := (HI.out.below bw2).1
           have hR := Lib.hid (HI.out.below bw2)
           have hrow := Lib.hid (own_mono ho3 HB.out.size)
           have hb2' := HB.out.trans (bw2.mono HB.out.size)
           have hsz : w.heap.size ≤ (w0.setCell ⟨wr.heap.size, 0, none⟩ (.int .i64 1)).heap.size := hb2'.size
           clear ho3)
        | (at_builtin; refine wpList_app1L rfl _ _ 22 rfl w.heap.size 48 i1 (.slice none 0 0) 24 Try.underlying22 hj hy0 hy1 hy2 rfl _ _ _ rfl hown' _ (Eq.trans (b := .slice (some ⟨w0.heap.size, 0, none⟩) 1 1) rfl (by simp)) rfl hn1 hn2 hsz ?_; intro g cap w1 hown1 hg1 hat))
      have hown2 := OwnR.pushF (F := fun j => RR j 0) hR.out hrow.out hsep0 hown1 hg1 hat
      have hb1' := below_of_grown hb2' hsz hown' hg1
      clear hown1 hg1 hrow hown' hR hb2' bw2 f0 c0
      go_wp2
      go_roundw
      case rel => exact ⟨u + 1, _, _, by omega, by go_num, hown2, hb1'⟩
      case measure => simp [intOf]; omega
    · have hud : u = d + 1 := by omega
      have e1 : decide ((u : Int) ≤ (d : Int)) = false := decide_eq_false (by omega)
      have e1n : decide (u ≤ d) = false := decide_eq_false (by omega)
      have hown1 : OwnR w.heap.size u5 (d + 1) G C (fun j => lF (RR j 0) (n + 1)) wr := by rw [← hud]; exact hown
      clear hud hu hlt hown
      go_wp2
      go_loopw [5, 8] (fun tb i wr => ∃ (k : Nat) (G C : Nat → Nat), k ≤ f ∧ i = .int .i64 ((k : Int) + 1) ∧ OwnR w.heap.size tb (d + 1) G C (fun j => lF (RR j k) (n + 1)) wr ∧ Below w.heap.size w wr) (fun _ i _ => f + 1 - (intOf i).toNat)
      case atStart => exact ⟨0, G, C, Nat.zero_le _, rfl, hown1, hb⟩
      case round =>
        clear hown1 hb G C e1 e1n
        obtain ⟨k, G, C, hk, rfl, hown, hb⟩ := hrel
        rename World => wk
        by_cases hlt : k < f
        · have e1 : (k : Int) + 1 ≤ (f : Int) := by omega
          rcases hown.form with ⟨_, _, _, h0⟩ | ⟨tg, tcap, hu5, _, _⟩
          · omega
          subst hu5
          go_wp2
          go_loopw [9, 10] (fun nx i wr => ∃ (u : Nat) (G' C' : Nat → Nat), u ≤ d + 1 ∧ i = .int .i64 u ∧ OwnR wk.heap.size nx u G' C' (fun j => lF (RR j (k + 1)) (n + 1)) wr ∧ Below wk.heap.size wk wr) (fun _ i _ => d + 1 - (intOf i).toNat)
          case atStart => exact ⟨0, fun _ => 0, fun _ => 0, Nat.zero_le _, rfl, ownR_made wk _ (Nat.le_refl _) _ _ _, (Below.refl _ _).alloc (Nat.le_refl _) _⟩
          case round =>
            obtain ⟨u, G', C', hu, rfl, hnx, hbx⟩ := hrel
            rename World => wu
            by_cases hlu : u ≤ d
            · have e2 : (u : Int) ≤ (d : Int) := by omega
              obtain ⟨ua, uc, hu9⟩ := hnx.slice
              subst hu9
              have HT := Lib.hid (hown.below hbx)
              have HN := Lib.hid hnx
              have HBX := Lib.hid hbx
              have HOW := Lib.hid hown
              have HB := Lib.hid hb
              clear hnx hbx hown hb
              go_wp2_with (first
                | (at_make; refine wpList_make_full _ rfl _ _ 48 rfl _ 3 i0 (.int .i64 0) 1 Try.underlying48 hi hz0 hz1 _ _ _ _ (n + 1) rfl rfl rfl (by simp) hb1 hb2 (Nat.le_refl _) ?_; intro w0 hown0 hgrow0
                   have ho := made_row hown0
                   have bw : Below wu.heap.size wu w0 := (Below.refl _ _).grown hgrow0 (Nat.le_refl _) (fun k hk => by cases hk)
                   clear hown0 hgrow0))
              go_loopw [12] (fun i wr => ∃ r : Nat, r ≤ n + 1 ∧ i = .int .i64 r ∧ OwnI wu.heap.size (.slice (some ⟨wu.heap.size, 0, none⟩) (n + 1) (n + 1)) (lF (g1 u (k + 1) r) (n + 1)) wr ∧ Below wu.heap.size wu wr) (fun i _ => n + 1 - (intOf i).toNat)
              case atStart => exact ⟨0, Nat.zero_le _, rfl, ho, bw⟩
              case round =>
                clear ho bw
                obtain ⟨r, hr, rfl, ow, hby⟩ := hrel
                by_cases hlr : r < n + 1
                · have e3 : (r : Int) < (n : Int) + 1 := by omega
                  have c0 := ow.at r hlr
                  have c0' : g1 u (k + 1) r r = 0 := by unfold g1; rw [if_neg (Nat.lt_irrefl r)]
                  rw [c0'] at c0
                  have f0 := ow.frozen r
                  have hTy := HT.out.below hby
                  have hNy := HN.out.below hby
                  clear c0'
                  by_cases hu0 : u = 0
                  · have c1 := hTy.cellF u (by omega)
                    have c2 := hTy.atF u r (by omega) hlr
                    have b2 := RR_small u k r (by omega) (by omega)
                    have HU : Hid (RR u (k + 1) r = RR u k r) := Lib.hid (by rw [hu0]; rfl)
                    have t1 : (u : Int) ≤ (r : Int) := by omega
                    have t2 : decide ((0 : Int) < (u : Int)) = false := decide_eq_false (by omega)
                    have t2n : decide (0 < u) = false := decide_eq_false (by omega)
                    have t1n : u ≤ r := by omega
                    have t3 : IntKind.i64.wrap ((r : Int) - (u : Int)) = (r : Int) := by rw [show (r : Int) - (u : Int) = (r : Int) from by omega]; exact IntWalk.i64_in _ (by omega)
                    have t4 : (u : Int) < (d : Int) + 1 := by omega
                    clear hu0
                    have ow2 := (show OwnI wu.heap.size (.slice (some ⟨wu.heap.size, 0, none⟩) (n + 1) (n + 1)) (lF (g1 u (k + 1) r) (n + 1)) wr.drew from ow).set r (RR u (k + 1) r : Int)
                    rw [lF_set, g1_step, HU.out] at ow2
                    have hby2 := (dr_below' hby ⟨1, rfl⟩ : Below wu.heap.size wu wr.drew).setCell (p := ⟨wu.heap.size, r, none⟩) (Nat.le_refl _) (.int .i64 (RR u k r : Int))
                    have s1 : IntKind.i64.wrap (r : Int) = (r : Int) := IntWalk.i64_in _ (by omega)
                    have s2 : (0 : Int) ≤ (r : Int) := by omega
                    clear hTy hNy
                    go_wp2
                    go_still_tail 17, (by kernel_rfl)
                    change wpList _ _ _ _ _ wr.drew
                    go_wp2
                    go_roundw
                    case rel => exact ⟨r + 1, by omega, by go_num, ow2, hby2⟩
                    case measure => simp [intOf]; omega
                  · obtain ⟨v, huv⟩ : ∃ v, u = v + 1 := ⟨u - 1, by omega⟩
                    obtain ⟨ng, hua⟩ : ∃ ng, ua = some ⟨ng, 0, none⟩ := by
                      rcases HN.out.form with ⟨_, _, _, h0⟩ | ⟨ng, cap, he, _, _⟩
                      · omega
                      · exact ⟨ng, (Value.slice.inj he).1⟩
                    subst hua
                    have s4 : IntKind.i64.wrap ((u : Int) - 1) = (v : Int) := by rw [show (u : Int) - 1 = (v : Int) from by omega]; exact IntWalk.i64_in _ (by omega)
                    have s5 : (0 : Int) < (u : Int) := by omega
                    have s5n : 0 < u := by omega
                    have s6 : (0 : Int) ≤ (v : Int) := by omega
                    have s7 : (v : Int) < (u : Int) := by omega
                    have b3 := RR_small v (k + 1) r (by omega) (by omega)
                    clear hu0
                    by_cases hrv : r < u
                    · have s8 : decide ((u : Int) ≤ (r : Int)) = false := decide_eq_false (by omega)
                      have s8n : decide (u ≤ r) = false := decide_eq_false (by omega)
                      have HU : Hid (RR u (k + 1) r = RR v (k + 1) r) := Lib.hid (by rw [huv, RR_low v k r (by omega)])
                      have c3 := hNy.cellF v (by omega)
                      have c4 := hNy.atF v r (by omega) hlr
                      clear huv
                      have ow2 := (show OwnI wu.heap.size (.slice (some ⟨wu.heap.size, 0, none⟩) (n + 1) (n + 1)) (lF (g1 u (k + 1) r) (n + 1)) wr.drew from ow).set r (RR u (k + 1) r : Int)
                      rw [lF_set, g1_step, HU.out] at ow2
                      have hby2 := (dr_below' hby ⟨1, rfl⟩ : Below wu.heap.size wu wr.drew).setCell (p := ⟨wu.heap.size, r, none⟩) (Nat.le_refl _) (.int .i64 (RR v (k + 1) r : Int))
                      clear hTy hNy hrv
                      go_wp2
                      go_still_tail 16, (by kernel_rfl)
                      change wpList _ _ _ _ _ wr.drew
                      go_wp2
                      go_roundw
                      case rel => exact ⟨r + 1, by omega, by go_num, ow2, hby2⟩
                      case measure => simp [intOf]; omega
                    · obtain ⟨q, hq⟩ : ∃ q, r = q + (v + 1) := ⟨r - (v + 1), by omega⟩
                      have s8 : (u : Int) ≤ (r : Int) := by omega
                      have s8n : u ≤ r := by omega
                      have s9 : IntKind.i64.wrap ((r : Int) - (u : Int)) = (q : Int) := by rw [show (r : Int) - (u : Int) = (q : Int) from by omega]; exact IntWalk.i64_in _ (by omega)
                      have s10 : (q : Int) < (n : Int) + 1 := by omega
                      have s11 : (u : Int) < (d : Int) + 1 := by omega
                      have s12 : (0 : Int) ≤ (u : Int) := by omega
                      have c1 := hTy.cellF u (by omega)
                      have c2 := hTy.atF u q (by omega) (by omega)
                      have b2 := RR_small u k q (by omega) (by omega)
                      have HRR : Hid (RR u k q + RR v (k + 1) r = RR u (k + 1) r) := Lib.hid (by rw [hq, huv, RR_high])
                      have ow2 := ow.set r (RR u k q : Int)
                      rw [lF_set] at ow2
                      have ow2 := (show OwnI wu.heap.size (.slice (some ⟨wu.heap.size, 0, none⟩) (n + 1) (n + 1)) (lF (fun j => if j = r then RR u k q else g1 u (k + 1) r j) (n + 1)) (wr.setCell ⟨wu.heap.size, r, none⟩ (.int .i64 (RR u k q : Int))).drew from ow2)
                      have hby2 : Below wu.heap.size wu (wr.setCell ⟨wu.heap.size, r, none⟩ (.int .i64 (RR u k q : Int))).drew := dr_below' (hby.setCell (p := ⟨wu.heap.size, r, none⟩) (Nat.le_refl _) (.int .i64 (RR u k q : Int))) ⟨1, rfl⟩
                      have OW2 := Lib.hid ow2; have HBY2 := Lib.hid hby2
                      have H4 := Lib.hid s4; have H5 := Lib.hid s5n; have H7 := Lib.hid s7; have HB3 := Lib.hid b3
                      clear hTy hNy hrv hq huv ow2 hby2 s4 s5 s5n s6 s7 b3
                      go_wp2
                      go_still_tail 17, (by kernel_rfl)
                      change wpList _ _ _ _ _ wr.drew
                      have s5n := H5.out
                      have s5 : (0 : Int) < (u : Int) := by omega
                      go_wp2
                      have ow2 := OW2.out; have hby2 := HBY2.out
                      have s4 := H4.out; have s7 := H7.out; have b3 := HB3.out
                      have s6 : (0 : Int) ≤ (v : Int) := by omega
                      clear OW2 HBY2 c0 f0 c1 c2 ow hby s9
                      generalize (wr.setCell ⟨wu.heap.size, r, none⟩ (.int .i64 (RR u k q : Int))).drew = wz at *
                      have hNz := HN.out.below hby2
                      have c0 := ow2.at r hlr
                      rw [if_pos rfl] at c0
                      have f0 := ow2.frozen r
                      have c3 := hNz.cellF v (by omega)
                      have c4 := hNz.atF v r (by omega) hlr
                      have ow3 := (show OwnI wu.heap.size (.slice (some ⟨wu.heap.size, 0, none⟩) (n + 1) (n + 1)) (lF (fun j => if j = r then RR u k q else g1 u (k + 1) r j) (n + 1)) wz.drew from ow2).set r ((RR u k q + RR v (k + 1) r : Nat) : Int)
                      rw [lF_set, g1_two _ _ _ _ _ _ HRR.out, Int.natCast_add] at ow3
                      have hby3 := (dr_below' hby2 ⟨1, rfl⟩ : Below wu.heap.size wu wz.drew).setCell (p := ⟨wu.heap.size, r, none⟩) (Nat.le_refl _) (.int .i64 ((RR u k q : Int) + (RR v (k + 1) r : Int)))
                      clear hNz ow2 hby2
                      go_still_tail 16, (by kernel_rfl)
                      change wpList _ _ _ _ _ wz.drew
                      go_wp2
                      go_roundw
                      case rel => exact ⟨r + 1, by omega, by go_num, ow3, hby3⟩
                      case measure => simp [intOf]; omega
                · have hrn : r = n + 1 := by omega
                  have e3 : decide ((r : Int) < (n : Int) + 1) = false := decide_eq_false (by omega)
                  have hn1 : u + 1 ≤ maxLen := by unfold maxLen; omega
                  have hn2 : (u + 1) * 24 ≤ 140737488355328 := by omega
                  rw [hrn, g1_full] at ow
                  clear hrn
                  have hsz0 : wk.heap.size ≤ wu.heap.size := HBX.out.size
                  have hrow := Lib.hid (show OwnI wk.heap.size (.slice (some ⟨wu.heap.size, 0, none⟩) (n + 1) (n + 1)) (lF (RR u (k + 1)) (n + 1)) wr from own_mono ow hsz0)
                  have hR := Lib.hid (HN.out.below hby)
                  have hsep0 := its_lt HN.out (Nat.le_refl wu.heap.size)
                  have hown' : wr.ownsRow wk.heap.size 48 1 (.slice ua u uc) u (rowCells u G' C' (fun j => lF (RR j (k + 1)) (n + 1))) := hR.out.1
                  have hbr := HBX.out.trans (hby.mono hsz0)
                  have hsz : wk.heap.size ≤ wr.heap.size := hbr.size
                  clear ow
                  go_wp2_with (at_builtin; refine wpList_app1L rfl _ _ 22 rfl wk.heap.size 48 i1 (.slice none 0 0) 24 Try.underlying22 hj hy0 hy1 hy2 rfl _ _ _ rfl hown' _ rfl rfl hn1 hn2 hsz ?_; intro g cap w1 hown1 hg1 hat)
                  have hown2 := OwnR.pushF (F := fun j => RR j (k + 1)) hR.out hrow.out hsep0 hown1 hg1 hat
                  have hb1' := below_of_grown hbr hsz hown' hg1
                  clear hown1 hg1 hrow hown' hR hbr hby
                  go_wp2
                  go_roundw
                  case rel => exact ⟨u + 1, _, _, by omega, by go_num, hown2, hb1'⟩
                  case measure => simp [intOf]; omega
            · have hud : u = d + 1 := by omega
              have e2 : decide ((u : Int) ≤ (d : Int)) = false := decide_eq_false (by omega)
              have e2n : decide (u ≤ d) = false := decide_eq_false (by omega)
              have hm := hnx.mono hb.size
              rw [hud] at hm
              clear hud
              have hbb := hb.trans (hbx.mono hb.size)
              clear hown hnx
              go_wp2
              go_roundw
              case rel => exact ⟨k + 1, G', C', by omega, by go_num, hm, hbb⟩
              case measure => simp [intOf]; omega
        · have hkf : k = f := by omega
          have e1 : decide ((k : Int) + 1 ≤ (f : Int)) = false := decide_eq_false (by omega)
          rcases hown.form with ⟨_, _, _, h0⟩ | ⟨tg, tcap, hu5, _, _⟩
          · omega
          subst hu5
          have c1 := hown.cellF d (by omega)
          have hres : OwnI w.heap.size (.slice (some ⟨G d, 0, none⟩) (n + 1) (C d)) (lF (RR d k) (n + 1)) wk := by
            have := hown.row d (by omega)
            rw [lF_length] at this; exact this
          rw [hkf] at hres
          clear hkf
          have e5 : (d : Int) < (d : Int) + 1 := by omega
          clear hown
          go_wp2
          go_ret
          exact ⟨_, rfl, hres, hb⟩

end Go.Proofs.Ytmpbhhggbmjfcaa
