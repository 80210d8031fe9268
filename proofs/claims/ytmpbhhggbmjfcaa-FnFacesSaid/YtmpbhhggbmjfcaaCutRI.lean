/- Contracts of CutRuns, both sides. -/
import Derived.Test.YtmpbhhggbmjfcaaMatI
import Derived.Test.YtmpbhhggbmjfcaaCutFns
namespace Go.Proofs.Ytmpbhhggbmjfcaa
open Go.RowKit
set_option linter.unusedVariables false
set_option linter.unusedSimpArgs false
set_option maxRecDepth 20000

theorem OwnR.push {B n g gr cr cap : Nat} {u : Value} {G C : Nat → Nat} {Z : Nat → List Int} {zs : List Int} {wr w1 : World} {o : Obj} (h : OwnR B u n G C Z wr) (hr : OwnI B (.slice (some ⟨gr, 0, none⟩) zs.length cr) zs wr) (hgr : ¬ Its u n G gr)
    (hown1 : w1.ownsRow B 48 1 (.slice (some ⟨g, 0, none⟩) (n + 1) cap) (n + 1) (rowCells n G C Z ++ [.slice (some ⟨gr, 0, none⟩) zs.length cr])) (hg1 : (wr.alloc o).grownBy w1 u.ownBlock) (hat : u.ownBlock = some g ∨ g = wr.heap.size + 1) :
    OwnR B (.slice (some ⟨g, 0, none⟩) (n + 1) cap) (n + 1) (upd G n gr) (upd C n cr) (upd Z n zs) w1 :=
  OwnR.snoc h hr (fun e => hgr (.inl e)) (fun j hj e => hgr (.inr ⟨j, hj, e⟩)) hown1 hg1 rfl hat
theorem push_sep {n g gr cap b N : Nat} {u : Value} {G : Nat → Nat} (hs : ¬ Its u n G b) (hgr : gr ≠ b) (hb : b < N) (hat : u.ownBlock = some g ∨ g = N + 1) : ¬ Its (.slice (some ⟨g, 0, none⟩) (n + 1) cap) (n + 1) (upd G n gr) b := by
  rintro (e | ⟨j, hj, e⟩)
  · obtain rfl : g = b := by simpa [Value.ownBlock] using e
    rcases hat with h | h
    · exact hs (.inl h)
    · omega
  · by_cases h : j = n
    · subst h; rw [upd_same] at e; exact hgr e
    · rw [upd_other _ _ h] at e; exact hs (.inr ⟨j, by omega, e⟩)
theorem its_lt {B n b : Nat} {u : Value} {G C : Nat → Nat} {Z : Nat → List Int} {w : World} (h : OwnR B u n G C Z w) (hb : w.heap.size ≤ b) : ¬ Its u n G b := fun e => by have := (h.lt e).2; omega
/-- A new row of two. -/
theorem pair_new (w : World) (B : Nat) (hB : B ≤ w.heap.size) (x y : Int) : OwnI B (.slice (some ⟨w.heap.size, 0, none⟩) [x, y].length 2) [x, y] (w.alloc (.cells #[.int .i64 x, .int .i64 y] 3)) := by
  refine ⟨rfl, .inr ⟨w.heap.size, 2, #[.int .i64 x, .int .i64 y], rfl, hB, ?_, Nat.le_refl _, by unfold maxLen; omega, rfl, rfl⟩⟩
  exact heap_alloc_new w _
theorem keep_al {B : Nat} {v : Value} {xs : List Int} {w : World} (h : OwnI B v xs w) (o : Obj) : OwnI B v xs (w.alloc o) := OwnI.below h ((Below.refl _ _).alloc (Nat.le_refl _) _)
theorem OwnR.al {B n : Nat} {u : Value} {G C : Nat → Nat} {Z : Nat → List Int} {w : World} (h : OwnR B u n G C Z w) (o : Obj) : OwnR B u n G C Z (w.alloc o) := OwnR.below h ((Below.refl _ _).alloc (Nat.le_refl _) _)
/-- The runs of the cuts. -/
def crA (s t : ByteArray) : Nat := crN (cutV s t) (cutV s t).length
def crZ (s t : ByteArray) : Nat → List Int := crT (cutV s t) (cutV s t).length
theorem cutV_bd (s t : ByteArray) (j : Nat) : 0 ≤ elv (cutV s t) j ∧ elv (cutV s t) j ≤ 16 := by
  have aux : ∀ k, k ≤ 16 → ∀ x ∈ cutI s t k, 0 ≤ x ∧ x ≤ 16 := by
    intro k
    induction k with
    | zero => intro _ x hx; exact absurd hx (by simp [cutI])
    | succ k ih =>
      intro hk x hx
      cases hc : cut s t k with
      | true =>
        rw [cutI_hit hc] at hx
        rcases List.mem_append.1 hx with h | h
        · exact ih (by omega) x h
        · obtain rfl := List.mem_singleton.1 h; omega
      | false => rw [cutI_miss hc] at hx; exact ih (by omega) x hx
  unfold elv
  rw [List.getD_eq_getElem?_getD]
  cases h : (cutV s t)[j]? with
  | none => simp
  | some x =>
    have hm := List.mem_of_getElem? h
    cases hf : sameF s.data.toList t.data.toList with
    | false => rw [cutV_no hf] at hm; exact absurd hm (by simp)
    | true => rw [cutV_yes hf] at hm; have := sameF_size hf; exact aux s.size (by omega) x hm
theorem crA_le (s t : ByteArray) : crA s t ≤ 16 := Nat.le_trans (crN_le _ _) (cutV_le16 s t)
theorem crZ_two (s t : ByteArray) (j : Nat) (h : j < crA s t) : (crZ s t j).length = 2 := cr_two _ _ j h
set_option maxHeartbeats 1600000 in
theorem implCutRuns_any (s t : ByteArray) (hs : s.size ≤ maxLen) (ht : t.size ≤ maxLen) (w : World) :
    Calls Try.prog 13 #[.string s, .string t] w fun e w' => ∃ v G C, e = .returned v ∧ OwnR w.heap.size v (crA s t) G C (crZ s t) w' ∧ Below w.heap.size w w' := by
  obtain ⟨i0, hi, hz0, hz1, hz2⟩ := info_parts Try.info48
  have hl16 := cutV_le16 s t
  have HBD := Lib.hid (cutV_bd s t)
  have HA : Hid (crA s t = crN (cutV s t) (cutV s t).length ∧ crZ s t = crT (cutV s t) (cutV s t).length) := Lib.hid ⟨rfl, rfl⟩
  go_enter Try.func13, Try.ntmps13
  go_wp2_with fail
  refine (implCutsBetween_any _ _ hs ht _).mono ?_
  rintro e wc ⟨v, rfl, ov, bv⟩
  have hb0 : Below w.heap.size w wc := ((Below.refl _ _).alloc (Nat.le_refl _) _).trans (bv.mono (by simp))
  have ho0 : OwnR w.heap.size (.slice (some ⟨w.heap.size, 0, none⟩) 0 0) 0 (fun _ => 0) (fun _ => 0) (fun _ => []) wc := OwnR.below (ownR_made w _ (Nat.le_refl _) _ _ _) bv
  clear bv
  generalize hl : cutV s t = l at *
  clear hl
  rcases ov.form with ⟨a, c, rfl, h0⟩ | ⟨gv, cv, rfl, hgv, hpos⟩
  · subst h0
    clear ov HBD
    go_wp2
    refine wp_loop_rounds 1 ?_
    rw [rounds_succ]
    go_wp2
    go_ret
    exact ⟨_, _, _, rfl, by rw [HA.out.1, HA.out.2]; exact ho0, hb0⟩
  · have hgv' : w.heap.size < gv := by simp at hgv; omega
    have s0 : ¬ Its (.slice (some ⟨w.heap.size, 0, none⟩) 0 0) 0 (fun _ => 0) gv := by
      rintro (e | ⟨j, hj, _⟩)
      · have : w.heap.size = gv := by simpa [Value.ownBlock] using e
        omega
      · omega
    have HV := Lib.hid ov.1
    go_wp2
    go_loopw [5, 14] (fun u i wr => ∃ (k : Nat) (G C : Nat → Nat), k ≤ l.length ∧ i = .int .i64 k ∧ OwnR w.heap.size u (crN l k) G C (crT l k) wr ∧ OwnI (w.heap.size + 1) (.slice (some ⟨gv, 0, none⟩) l.length cv) l wr ∧ Hid (¬ Its u (crN l k) G gv) ∧ Below w.heap.size w wr) (fun _ i _ => l.length - (intOf i).toNat)
    case atStart => exact ⟨0, _, _, Nat.zero_le _, rfl, ho0, by simpa using ov, Lib.hid s0, hb0⟩
    case round =>
      obtain ⟨k, G, C, hk, rfl, hown, hv, hsep, hb⟩ := hrel
      have hsep := hsep.out
      have hnl := crN_le l k
      by_cases hlt : k < l.length
      · have hc := hv.cellE k hlt
        have e1 : (k : Int) < (l.length : Int) := by omega
        have bd := HBD.out k
        have bd2 := HBD.out (k - 1)
        have hn1 : crN l k + 1 ≤ maxLen := by unfold maxLen; omega
        have hn2 : (crN l k + 1) * 24 ≤ 140737488355328 := by omega
        cases hj : jn l k with
        | true =>
          have HN := Lib.hid (crN_yes hj)
          have HT := Lib.hid (crT_yes hj)
          have hj' := of_decide_eq_true hj
          obtain ⟨k', rfl⟩ : ∃ k', k = k' + 1 := ⟨k - 1, by omega⟩
          obtain ⟨l1, a, l2⟩ := cr_last l k'
          obtain ⟨m, hm⟩ : ∃ m, crN l (k' + 1) = m + 1 := ⟨crN l (k' + 1) - 1, by omega⟩
          have hd : elv l (k' + 1) = elv l k' + 1 := by simpa using hj'.2
          rw [hm] at hown hsep hn1 hn2 hnl HN HT l2
          have hm1 : m + 1 - 1 = m := by omega
          rw [hm1] at l2
          rw [hm1] at HT
          clear hj hj' l1 hm
          rcases hown.form with ⟨_, _, _, h0⟩ | ⟨g, cap, rfl, hgB, _⟩
          · omega
          have c1 := hown.cell m (by omega)
          have r1 := hown.row m (by omega)
          have hset := hown.setRow (k := m) (by omega) 1 (elv l (k' + 1))
          rw [l2] at c1 r1
          have c2 := r1.cell 1 (by simp)
          have f2 := r1.frozen 1
          have hne : G m ≠ gv := fun e => hsep (.inr ⟨m, by omega, e⟩)
          have hv2 := hv.only (only_set wr (G m) 1 (.int .i64 (elv l (k' + 1))) (S := fun b => b = G m) rfl) (fun b e e2 => by
            have e3 : gv = b := by simpa [Value.ownBlock] using e
            exact hne (e2.symm.trans e3.symm))
          have hgm := (hown.lt (.inr ⟨m, by omega, rfl⟩)).1
          have q1 : ((m + 1 : Nat) : Int) - 1 = (m : Int) := by omega
          have q2 : (0 : Int) < ((m + 1 : Nat) : Int) := by omega
          have q3 : ((m : Nat) : Int) < ((m + 1 : Nat) : Int) := by omega
          have q4 : elv l (k' + 1) - 1 = elv l k' := by omega
          have q5 : (elv l k' == elv l k') = true := beq_self_eq_true _
          have q6 : IntKind.i64.wrap (((m + 1 : Nat) : Int) - 1) = (m : Int) := by rw [q1]; exact IntWalk.i64_in _ (by omega)
          have q7 : IntKind.i64.wrap (elv l (k' + 1) - 1) = elv l k' := by rw [q4]; exact IntWalk.i64_in _ (by omega)
          clear r1 hd
          go_wp2
          go_roundw
          case rel => exact ⟨k' + 2, G, C, by omega, by go_num, by rw [HN.out, HT.out]; exact hset, hv2, Lib.hid (by rw [HN.out]; exact hsep), hb.setCell hgm _⟩
          case measure => simp [intOf]; omega
        | false =>
          have HN := Lib.hid (crN_no hj)
          have HT := Lib.hid (crT_no hj)
          have hj' := of_decide_eq_false hj
          rcases Nat.eq_zero_or_pos k with hk0 | hk0
          · subst hk0
            have hown : OwnR w.heap.size u5 0 G C (fun _ => []) wr := hown
            have hsep : ¬ Its u5 0 G gv := hsep
            have HN : Hid (crN l (0 + 1) = 0 + 1) := HN
            have HT : Hid (crT l (0 + 1) = upd (fun _ => []) 0 [elv l 0, elv l 0]) := HT
            have hn1 : 0 + 1 ≤ maxLen := hn1
            have hn2 : (0 + 1) * 24 ≤ 140737488355328 := hn2
            obtain ⟨ua, uc, hu⟩ := hown.slice
            subst hu
            clear hj hj' bd2 hnl
            have hsz0 : w.heap.size ≤ wr.heap.size := hb.size
            have hsz : w.heap.size ≤ (wr.alloc (.cells #[.int .i64 (elv l 0), .int .i64 (elv l 0)] 3)).heap.size := by simp; omega
            have hown' : (wr.alloc (.cells #[.int .i64 (elv l 0), .int .i64 (elv l 0)] 3)).ownsRow w.heap.size 48 1 (.slice ua 0 uc) 0 (rowCells 0 G C (fun _ => [])) := (OwnR.al hown _).1
            have hrow := pair_new wr w.heap.size hsz0 (elv l 0) (elv l 0)
            have hsep0 := its_lt hown (Nat.le_refl wr.heap.size)
            have hR := Lib.hid (OwnR.al hown (.cells #[.int .i64 (elv l 0), .int .i64 (elv l 0)] 3))
            have hlv := keep_al hv (.cells #[.int .i64 (elv l 0), .int .i64 (elv l 0)] 3)
            have hgl : gv < wr.heap.size := (hv.lt gv rfl).2
            go_wp2_with (at_builtin; refine wpList_app1L rfl _ _ 22 rfl w.heap.size 48 i0 (.slice none 0 0) 24 Try.underlying22 hi hz0 hz1 hz2 rfl _ _ _ rfl hown' _ (Eq.trans (b := .slice (some ⟨wr.heap.size + 1, 0, none⟩) 1 1) rfl (by simp)) rfl hn1 hn2 hsz ?_; intro g cap w1 hown1 hg1 hat)
            have hown2 := OwnR.push hR.out hrow hsep0 hown1 hg1 hat
            have hsep2 := push_sep (cap := cap) (gr := wr.heap.size) (N := (wr.alloc (.cells #[.int .i64 (elv l 0), .int .i64 (elv l 0)] 3)).heap.size) hsep (by omega) (by simp; omega) hat
            have hv2 : OwnI (w.heap.size + 1) (.slice (some ⟨gv, 0, none⟩) l.length cv) l w1 := World.ownsRow.kept (keep_al hlv _) hg1 (.inr (fun e => hsep (.inl e.symm)))
            have hb1 := below_of_grown (hb.alloc hsz0 _) hsz hown' hg1
            clear hown1 hg1 hrow hown' hlv hR
            go_wp2
            go_roundw
            case rel => exact ⟨1, _, _, by omega, by go_num, by rw [HN.out, HT.out]; exact hown2, hv2, Lib.hid (by rw [HN.out]; exact hsep2), hb1⟩
            case measure => simp [intOf]; omega
          · obtain ⟨k', rfl⟩ : ∃ k', k = k' + 1 := ⟨k - 1, by omega⟩
            obtain ⟨l1, a, l2⟩ := cr_last l k'
            obtain ⟨m, hm⟩ : ∃ m, crN l (k' + 1) = m + 1 := ⟨crN l (k' + 1) - 1, by omega⟩
            have hd : ¬ elv l (k' + 1) = elv l k' + 1 := fun e => hj' ⟨by omega, by simpa using e⟩
            rcases hown.form with ⟨_, _, _, h0⟩ | ⟨ug, uc, hu, hgB, _⟩
            · omega
            subst hu
            have hm1 : crN l (k' + 1) - 1 = m := by omega
            rw [hm1] at l2
            have c1 := hown.cell m (by omega)
            have r1 := hown.row m (by omega)
            rw [l2] at c1 r1
            have c2 := r1.cell 1 (by simp)
            have q1 : ((crN l (k' + 1) : Nat) : Int) - 1 = (m : Int) := by omega
            have q2 : (0 : Int) < ((crN l (k' + 1) : Nat) : Int) := by omega
            have q3 : ((m : Nat) : Int) < ((crN l (k' + 1) : Nat) : Int) := by omega
            have bd2 : 0 ≤ elv l k' ∧ elv l k' ≤ 16 := by simpa using bd2
            have q5 : (elv l k' == elv l (k' + 1) - 1) = false := beq_eq_false_iff_ne.2 (by omega)
            have q6 : IntKind.i64.wrap (((crN l (k' + 1) : Nat) : Int) - 1) = (m : Int) := by rw [q1]; exact IntWalk.i64_in _ (by omega)
            clear r1 hd hj hj' hm1 hm
            have hsz0 : w.heap.size ≤ wr.heap.size := hb.size
            have hsz : w.heap.size ≤ (wr.alloc (.cells #[.int .i64 (elv l (k' + 1)), .int .i64 (elv l (k' + 1))] 3)).heap.size := by simp; omega
            have hown' : (wr.alloc (.cells #[.int .i64 (elv l (k' + 1)), .int .i64 (elv l (k' + 1))] 3)).ownsRow w.heap.size 48 1 (.slice (some ⟨ug, 0, none⟩) (crN l (k' + 1)) uc) (crN l (k' + 1)) (rowCells (crN l (k' + 1)) G C (crT l (k' + 1))) := (OwnR.al hown _).1
            have hrow := pair_new wr w.heap.size hsz0 (elv l (k' + 1)) (elv l (k' + 1))
            have hsep0 := its_lt hown (Nat.le_refl wr.heap.size)
            have hR := Lib.hid (OwnR.al hown (.cells #[.int .i64 (elv l (k' + 1)), .int .i64 (elv l (k' + 1))] 3))
            have hlv := keep_al hv (.cells #[.int .i64 (elv l (k' + 1)), .int .i64 (elv l (k' + 1))] 3)
            have hgl : gv < wr.heap.size := (hv.lt gv rfl).2
            go_wp2_with (at_builtin; refine wpList_app1L rfl _ _ 22 rfl w.heap.size 48 i0 (.slice none 0 0) 24 Try.underlying22 hi hz0 hz1 hz2 rfl _ _ _ rfl hown' _ (Eq.trans (b := .slice (some ⟨wr.heap.size + 1, 0, none⟩) 1 1) rfl (by simp)) rfl hn1 hn2 hsz ?_; intro g cap w1 hown1 hg1 hat)
            have hown2 := OwnR.push hR.out hrow hsep0 hown1 hg1 hat
            have hsep2 := push_sep (cap := cap) (gr := wr.heap.size) (N := (wr.alloc (.cells #[.int .i64 (elv l (k' + 1)), .int .i64 (elv l (k' + 1))] 3)).heap.size) hsep (by omega) (by simp; omega) hat
            have hv2 : OwnI (w.heap.size + 1) (.slice (some ⟨gv, 0, none⟩) l.length cv) l w1 := World.ownsRow.kept (keep_al hlv _) hg1 (.inr (fun e => hsep (.inl e.symm)))
            have hb1 := below_of_grown (hb.alloc hsz0 _) hsz hown' hg1
            clear hown1 hg1 hrow hown' hlv hR
            go_wp2
            go_roundw
            case rel => exact ⟨k' + 2, _, _, by omega, by go_num, by rw [HN.out, HT.out]; exact hown2, hv2, Lib.hid (by rw [HN.out]; exact hsep2), hb1⟩
            case measure => simp [intOf]; omega
      · obtain rfl : k = l.length := by omega
        go_wp2
        go_ret
        exact ⟨_, _, _, rfl, by rw [HA.out.1, HA.out.2]; exact hown, hb⟩

end Go.Proofs.Ytmpbhhggbmjfcaa
