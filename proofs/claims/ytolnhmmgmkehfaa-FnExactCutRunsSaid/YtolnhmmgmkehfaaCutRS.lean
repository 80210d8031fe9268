/- Contract of spec.CutRuns. -/
import Derived.Test.YtolnhmmgmkehfaaCutRI
import Derived.Test.YtolnhmmgmkehfaaHand
import Derived.Deep.RegionHeld3
namespace Go.Proofs.Ytolnhmmgmkehfaa
open Go.RowKit
set_option linter.unusedVariables false
set_option linter.unusedSimpArgs false
set_option maxRecDepth 20000

set_option maxHeartbeats 1600000 in
theorem specCutRuns_any (s t : ByteArray) (hs : s.size ≤ maxLen) (ht : t.size ≤ maxLen) (w : World) :
    Calls Try.prog 12 #[.string s, .string t] w fun e w' => ∃ v G C, e = .returned v ∧ OwnR w.heap.size v (crA s t) G C (crZ s t) w' ∧ Below w.heap.size w w' := by
  obtain ⟨i0, hi, hz0, hz1, hz2⟩ := info_parts Try.info48
  have hl16 := cutV_le16 s t
  have HBD := Lib.hid (cutV_bd s t)
  have HA : Hid (crA s t = crN (cutV s t) (cutV s t).length ∧ crZ s t = crT (cutV s t) (cutV s t).length) := Lib.hid ⟨rfl, rfl⟩
  go_enter Try.func12, Try.ntmps12
  go_wp2_with fail
  refine (specCutsBetween_any _ _ hs ht _).mono ?_
  rintro e wc ⟨v, rfl, ov, bv⟩
  have hb0 : Below w.heap.size w wc := ((Below.refl _ _).alloc (Nat.le_refl _) _).trans (bv.mono (by simp))
  have ho0 : OwnR w.heap.size (.slice (some ⟨w.heap.size, 0, none⟩) 0 0) 0 (fun _ => 0) (fun _ => 0) (fun _ => []) wc := OwnR.below (ownR_made w _ (Nat.le_refl _) _ _ _) bv
  clear bv
  generalize hl : cutV s t = l at *
  clear hl
  rcases ov.form with ⟨a, c, rfl, h0⟩ | ⟨gv, cv, rfl, hgv, hpos⟩
  · subst h0
    clear ov HBD
    go_wp2
    refine wp_loop_rounds 1 ?_
    rw [rounds_succ]
    go_wp2
    go_ret
    exact ⟨_, _, _, rfl, by rw [HA.out.1, HA.out.2]; exact ho0, hb0⟩
  · have hgv' : w.heap.size < gv := by simp at hgv; omega
    have s0 : ¬ Its (.slice (some ⟨w.heap.size, 0, none⟩) 0 0) 0 (fun _ => 0) gv := by
      rintro (e | ⟨j, hj, _⟩)
      · have : w.heap.size = gv := by simpa [Value.ownBlock] using e
        omega
      · omega
    have HV := Lib.hid ov.1
    go_wp2
    go_loopw [5, 7] (fun u i wr => ∃ (k : Nat) (G C : Nat → Nat), k ≤ l.length ∧ i = .int .i64 k ∧ Hid (k < l.length → jn l k = false) ∧ OwnR w.heap.size u (crN l k) G C (crT l k) wr ∧ OwnI (w.heap.size + 1) (.slice (some ⟨gv, 0, none⟩) l.length cv) l wr ∧ Hid (¬ Its u (crN l k) G gv) ∧ Below w.heap.size w wr) (fun _ i _ => l.length - (intOf i).toNat)
    case atStart => exact ⟨0, _, _, Nat.zero_le _, rfl, Lib.hid (fun _ => jn_zero l), ho0, by simpa using ov, Lib.hid s0, hb0⟩
    case round =>
      obtain ⟨k, G, C, hk, rfl, HJ, hown, hv, hsep, hb⟩ := hrel
      rename World => wo
      have hsep := hsep.out
      have hnl := crN_le l k
      by_cases hlt : k < l.length
      · have hc := hv.cellE k hlt
        have e1 : (k : Int) < (l.length : Int) := by omega
        have bd := HBD.out k
        have hn1 : crN l k + 1 ≤ maxLen := by unfold maxLen; omega
        have hn2 : (crN l k + 1) * 24 ≤ 140737488355328 := by omega
        go_wp2
        go_loopw [7] (fun i wx => ∃ d : Nat, k + d < l.length ∧ i = .int .i64 ((k + d : Nat) : Int) ∧ Hid (∀ j, j < d → jn l (k + j + 1) = true) ∧ Hid (∃ q, wx = wo.drewN q)) (fun i _ => l.length - (intOf i).toNat)
        case atStart => exact ⟨0, by omega, by simp, Lib.hid (fun j h => absurd h (Nat.not_lt_zero _)), Lib.hid (dr_refl _)⟩
        case round =>
          obtain ⟨d, hd, rfl, HD, HQ⟩ := hrel
          have bx := dr_below HQ.out wo.heap.size
          have hvx := hv.below bx
          have x1 := hvx.cellE (k + d) hd
          have bd1 := HBD.out (k + d)
          have e0 : ((k + d : Nat) : Int) < (l.length : Int) := by omega
          have e4 : IntKind.i64.wrap (elv l (k + d) + 1) = elv l (k + d) + 1 := IntWalk.i64_in _ (by omega)
          have hgl : gv < wr.heap.size := (hvx.lt gv rfl).2
          by_cases hin : k + d + 1 < l.length
          · have e3 : ((k + d + 1 : Nat) : Int) < (l.length : Int) := by omega
            have x2 := hvx.cellE (k + d + 1) hin
            by_cases heq : elv l (k + d + 1) = elv l (k + d) + 1
            · have q1 : (elv l (k + d + 1) == elv l (k + d) + 1) = true := beq_iff_eq.2 heq
              have HD2 : Hid (∀ j, j < d + 1 → jn l (k + j + 1) = true) := Lib.hid (fun j h => by
                rcases Nat.lt_or_ge j d with h' | h'
                · exact HD.out j h'
                · obtain rfl : j = d := by omega
                  exact jn_yes heq)
              clear heq
              generalize hkd : k + d = kd at *
              have e2 : IntKind.i64.wrap ((kd : Int) + 1) = (kd : Int) + 1 := IntWalk.i64_in _ (by omega)
              have e3 : (kd : Int) + 1 < (l.length : Int) := by omega
              have e5 : ((kd : Int) + 1).toNat = kd + 1 := by omega
              have e6 : (0 : Int) ≤ (kd : Int) + 1 := by omega
              go_wp2
              go_quiet (fail)
              go_wp2
              go_roundw
              case rel => exact ⟨d + 1, by omega, by rw [← hkd]; go_num, HD2, Lib.hid (dr_trans HQ.out ⟨_, rfl⟩)⟩
              case measure => simp [intOf]; omega
            · have q1 : (elv l (k + d + 1) == elv l (k + d) + 1) = false := beq_eq_false_iff_ne.2 heq
              have HJ2 := Lib.hid (jn_no heq)
              have CR := Lib.hid (cr_run l k (HJ.out hlt) d HD.out)
              clear heq
              have hownx := hown.below bx
              have hbx := hb.trans (bx.mono hb.size)
              have hsz9 := bx.size
              generalize hkd : k + d = kd at *
              have e2 : IntKind.i64.wrap ((kd : Int) + 1) = (kd : Int) + 1 := IntWalk.i64_in _ (by omega)
              have e3 : (kd : Int) + 1 < (l.length : Int) := by omega
              have e5 : ((kd : Int) + 1).toNat = kd + 1 := by omega
              have e6 : (0 : Int) ≤ (kd : Int) + 1 := by omega
              have HK := Lib.hid hkd; clear hkd
              go_wp2
              go_quiet (fail)
              clear hown hv hb
              have hown : OwnR w.heap.size u5 (crN l k) G C (crT l k) (wr.drewN nq) := hownx
              have hv : OwnI (w.heap.size + 1) (.slice (some ⟨gv, 0, none⟩) l.length cv) l (wr.drewN nq) := hvx
              have hb : Below w.heap.size w (wr.drewN nq) := dr_below' hbx ⟨nq, rfl⟩
              have hsz0 : w.heap.size ≤ (wr.drewN nq).heap.size := hb.size
              have hsz : w.heap.size ≤ ((wr.drewN nq).alloc (.cells #[.int .i64 (elv l k), .int .i64 (elv l kd)] 3)).heap.size := by simp; omega
              have hown' : ((wr.drewN nq).alloc (.cells #[.int .i64 (elv l k), .int .i64 (elv l kd)] 3)).ownsRow w.heap.size 48 1 u5 (crN l k) (rowCells (crN l k) G C (crT l k)) := (OwnR.al hown _).1
              have hrow := pair_new (wr.drewN nq) w.heap.size hsz0 (elv l k) (elv l kd)
              have hsep0 := its_lt hown (Nat.le_refl (wr.drewN nq).heap.size)
              have hR := Lib.hid (OwnR.al hown (.cells #[.int .i64 (elv l k), .int .i64 (elv l kd)] 3))
              have hlv := keep_al hv (.cells #[.int .i64 (elv l k), .int .i64 (elv l kd)] 3)
              have hgl : gv < (wr.drewN nq).heap.size := (hv.lt gv rfl).2
              go_wp2_with (at_builtin; refine wpList_app1L rfl _ _ 22 rfl w.heap.size 48 i0 (.slice none 0 0) 24 Try.underlying22 hi hz0 hz1 hz2 rfl _ _ _ rfl hown' _ (Eq.trans (b := .slice (some ⟨wr.heap.size + 1, 0, none⟩) 1 1) rfl (by simp)) rfl hn1 hn2 hsz ?_; intro g cap w1 hown1 hg1 hat)
              have hown2 := OwnR.push hR.out hrow hsep0 hown1 hg1 hat
              have hsep2 := push_sep (cap := cap) (gr := (wr.drewN nq).heap.size) (N := ((wr.drewN nq).alloc (.cells #[.int .i64 (elv l k), .int .i64 (elv l kd)] 3)).heap.size) hsep (by omega) (by simp; omega) hat
              have hv2 : OwnI (w.heap.size + 1) (.slice (some ⟨gv, 0, none⟩) l.length cv) l w1 := World.ownsRow.kept (keep_al hlv _) hg1 (.inr (fun e => hsep (.inl e.symm)))
              have hb1 := below_of_grown (hb.alloc hsz0 _) hsz hown' hg1
              clear hown1 hg1 hrow hown' hlv hR
              go_wp2
              go_roundw
              case rel => exact ⟨kd + 1, _, _, by omega, by go_num, Lib.hid (fun _ => HJ2.out), by rw [CR.out.1, CR.out.2]; exact hown2, hv2, Lib.hid (by rw [CR.out.1]; exact hsep2), hb1⟩
              case measure => have := HK.out; simp [intOf]; omega
          · have e3 : ¬ ((k + d + 1 : Nat) : Int) < (l.length : Int) := by omega
            have CR := Lib.hid (cr_run l k (HJ.out hlt) d HD.out)
            have hownx := hown.below bx
            have hbx := hb.trans (bx.mono hb.size)
            have hsz9 := bx.size
            generalize hkd : k + d = kd at *
            have e2 : IntKind.i64.wrap ((kd : Int) + 1) = (kd : Int) + 1 := IntWalk.i64_in _ (by omega)
            have e3 : decide ((kd : Int) + 1 < (l.length : Int)) = false := decide_eq_false (by omega)
            have e5 : ((kd : Int) + 1).toNat = kd + 1 := by omega
            have e6 : (0 : Int) ≤ (kd : Int) + 1 := by omega
            have HK := Lib.hid hkd; clear hkd
            go_wp2
            go_quiet (fail)
            clear hown hv hb
            have hown : OwnR w.heap.size u5 (crN l k) G C (crT l k) (wr.drewN nq) := hownx
            have hv : OwnI (w.heap.size + 1) (.slice (some ⟨gv, 0, none⟩) l.length cv) l (wr.drewN nq) := hvx
            have hb : Below w.heap.size w (wr.drewN nq) := dr_below' hbx ⟨nq, rfl⟩
            have hsz0 : w.heap.size ≤ (wr.drewN nq).heap.size := hb.size
            have hsz : w.heap.size ≤ ((wr.drewN nq).alloc (.cells #[.int .i64 (elv l k), .int .i64 (elv l kd)] 3)).heap.size := by simp; omega
            have hown' : ((wr.drewN nq).alloc (.cells #[.int .i64 (elv l k), .int .i64 (elv l kd)] 3)).ownsRow w.heap.size 48 1 u5 (crN l k) (rowCells (crN l k) G C (crT l k)) := (OwnR.al hown _).1
            have hrow := pair_new (wr.drewN nq) w.heap.size hsz0 (elv l k) (elv l kd)
            have hsep0 := its_lt hown (Nat.le_refl (wr.drewN nq).heap.size)
            have hR := Lib.hid (OwnR.al hown (.cells #[.int .i64 (elv l k), .int .i64 (elv l kd)] 3))
            have hlv := keep_al hv (.cells #[.int .i64 (elv l k), .int .i64 (elv l kd)] 3)
            have hgl : gv < (wr.drewN nq).heap.size := (hv.lt gv rfl).2
            go_wp2_with (at_builtin; refine wpList_app1L rfl _ _ 22 rfl w.heap.size 48 i0 (.slice none 0 0) 24 Try.underlying22 hi hz0 hz1 hz2 rfl _ _ _ rfl hown' _ (Eq.trans (b := .slice (some ⟨wr.heap.size + 1, 0, none⟩) 1 1) rfl (by simp)) rfl hn1 hn2 hsz ?_; intro g cap w1 hown1 hg1 hat)
            have hown2 := OwnR.push hR.out hrow hsep0 hown1 hg1 hat
            have hsep2 := push_sep (cap := cap) (gr := (wr.drewN nq).heap.size) (N := ((wr.drewN nq).alloc (.cells #[.int .i64 (elv l k), .int .i64 (elv l kd)] 3)).heap.size) hsep (by omega) (by simp; omega) hat
            have hv2 : OwnI (w.heap.size + 1) (.slice (some ⟨gv, 0, none⟩) l.length cv) l w1 := World.ownsRow.kept (keep_al hlv _) hg1 (.inr (fun e => hsep (.inl e.symm)))
            have hb1 := below_of_grown (hb.alloc hsz0 _) hsz hown' hg1
            clear hown1 hg1 hrow hown' hlv hR
            go_wp2
            go_roundw
            case rel => exact ⟨kd + 1, _, _, by omega, by go_num, Lib.hid (fun h => absurd h (by omega)), by rw [CR.out.1, CR.out.2]; exact hown2, hv2, Lib.hid (by rw [CR.out.1]; exact hsep2), hb1⟩
            case measure => have := HK.out; simp [intOf]; omega
      · obtain rfl : k = l.length := by omega
        go_wp2
        go_ret
        exact ⟨_, _, _, rfl, by rw [HA.out.1, HA.out.2]; exact hown, hb⟩

end Go.Proofs.Ytolnhmmgmkehfaa
