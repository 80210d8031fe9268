/- Contract of impl's faces. -/
import Derived.Test.YtmpbhhggbmjfcaaFill
import Derived.Test.YtmpbhhggbmjfcaaCutRI
namespace Go.Proofs.Ytmpbhhggbmjfcaa
open Go.RowKit
set_option linter.unusedVariables false
set_option linter.unusedSimpArgs false
set_option maxRecDepth 20000

/-- The first j set to -1. -/
def mz (N j : Nat) : List Int := (List.range N).map fun x => if x < j then (-1 : Int) else 0
theorem mz_length (N j : Nat) : (mz N j).length = N := by simp [mz]
theorem mz_zero (N : Nat) : lF (fun _ => 0) N = mz N 0 := by simp [mz, lF]
theorem mz_all (N k : Nat) : mz N N = ZM N (fun _ => -1) k := by
  unfold mz ZM
  refine List.map_congr_left (fun x hx => ?_)
  rw [if_pos (List.mem_range.1 hx)]
theorem mz_get (N j l : Nat) (h : l < (mz N j).length) : (mz N j)[l] = if l < j then (-1 : Int) else 0 := by simp [mz]
theorem mz_set (N j : Nat) : (mz N j).set j (-1) = mz N (j + 1) := by
  apply List.ext_getElem
  · rw [List.length_set, mz_length, mz_length]
  · intro l h1 h2
    rw [List.getElem_set, mz_get]
    by_cases e : j = l
    · subst e; rw [if_pos rfl, mz_get, if_pos (by omega)]
    · rw [if_neg e, mz_get]
      by_cases h : l < j
      · rw [if_pos h, if_pos (by omega)]
      · rw [if_neg h, if_neg (by omega)]
theorem mz_at (N j : Nat) (h : j < N) : (mz N j)[j]'(by rw [mz_length]; exact h) = 0 := by rw [mz_get, if_neg (Nat.lt_irrefl j)]
theorem owni_sl {B : Nat} {v : Value} {xs : List Int} {w : World} (h : OwnI B v xs w) : ∃ a c, v = .slice a xs.length c := by
  rcases h.form with ⟨a, c, rfl, h0⟩ | ⟨g, cap, rfl, _⟩
  · exact ⟨a, c, by rw [h0]; rfl⟩
  · exact ⟨_, _, rfl⟩
/-- The sizes of the first n faces. -/
def szs (M : Nat → Int) (n m : Nat) : List Int := (List.range n).map fun (f : Nat) => ((cnt M f m : Nat) : Int)
theorem szs_length (M : Nat → Int) (n m : Nat) : (szs M n m).length = n := by simp [szs]
theorem nxt_le {lab : Nat → Nat} : ∀ {t : Nat}, (∀ u, u < t → lab u ≤ nxt lab u) → nxt lab t ≤ t
  | 0, _ => Nat.le_refl _
  | t + 1, h => by
    have h1 := nxt_le (t := t) (fun u hu => h u (by omega))
    have h2 := h t (by omega)
    unfold nxt; omega
theorem Flood.nle {E : Nat → Nat → Prop} {m t n : Nat} {M : Nat → Int} (h : Flood E m t M n) : n ≤ t := by
  obtain ⟨_, _, _, _, _, h6, h7⟩ := h
  rw [h6]; exact nxt_le h7
theorem rdS_keep {B b o : Nat} {ss : List ByteArray} {w w' : World} (h : RdS w (some ⟨b, o, none⟩) ss) (hb : Below B w w') (hB : b < B) : RdS w' (some ⟨b, o, none⟩) ss := by
  rcases h with h | ⟨b', o', e, hp, hl, hc⟩
  · exact .inl h
  · cases e
    exact .inr ⟨b, o, rfl, hp, Nat.lt_of_lt_of_le hl hb.size, fun j hj => (hb.cell (p := ⟨b, o + j, none⟩) hB).trans (hc j hj)⟩
set_option maxHeartbeats 6400000 in
theorem faces_any (w : World) (d f : Int) (b o c : Nat) (ss : List ByteArray) (N m : Nat) (h : RdS w (some ⟨b, o, none⟩) ss) (hok : okC d f ss = true) (hz : SzS ss) (hN : (N : Int) = d + f) (hm : ss.length * N = m) :
    Calls Try.prog 63 #[.agg #[.int .i64 d, .int .i64 f, .slice (some ⟨b, o, none⟩) ss.length c]] w fun e w' => ∃ (g cap : Nat) (G C : Nat → Nat) (M : Nat → Int) (n : Nat) (v2 : Value), e = .returned (.tuple #[.slice (some ⟨g, 0, none⟩) ss.length cap, v2]) ∧ OwnR w.heap.size (.slice (some ⟨g, 0, none⟩) ss.length cap) ss.length G C (ZM N M) w' ∧ OwnI w.heap.size v2 (szs M n m) w' ∧ Flood (Ed ss N m) m m M n ∧ Below w.heap.size w w' := by
  obtain ⟨i0, hi, hz0, hz1, hz2⟩ := info_parts Try.info3
  obtain ⟨i1, hj, hy0, hy1, hy2⟩ := info_parts Try.info48
  obtain ⟨⟨d1, d2, f1, f2⟩, ⟨l1, l2⟩, _⟩ := (okC_iff d f ss).1 hok
  have HS : Hid (∀ k, k < ss.length → (sel ss k).size = N) := Lib.hid (fun k hk => by have := (okC_sel hok hk).2.2.2.1; omega)
  have N1 : 2 ≤ N := by omega
  have N2 : N ≤ 16 := by omega
  have M2 : m ≤ 160 := by rw [← hm]; exact Nat.le_trans (Nat.mul_le_mul l2 N2) (by decide)
  have hbw : b < w.heap.size := by
    rcases h with h | ⟨b', o', e, _, hl, _⟩
    · rw [h] at l1; simp at l1
    · cases e; exact hl
  have HFI : Hid (∀ (g cap : Nat) (G C : Nat → Nat) (face : Nat), face ≤ 200 → ∀ (M : Nat → Int) (k i : Nat) (v : World), RdS v (some ⟨b, o, none⟩) ss → OwnR (w.heap.size + 1) (.slice (some ⟨g, 0, none⟩) ss.length cap) ss.length G C (ZM N M) v → k < ss.length → i < N → M (k * N + i) < 0 →
    Calls Try.prog 90 #[.agg #[.int .i64 d, .int .i64 f, .slice (some ⟨b, o, none⟩) ss.length c], .slice (some ⟨g, 0, none⟩) ss.length cap, .int .i64 k, .int .i64 i, .int .i64 face] v fun e w' => ∃ (M' : Nat → Int) (cn : Nat), e = .returned (.int .i64 cn) ∧ OwnR (w.heap.size + 1) (.slice (some ⟨g, 0, none⟩) ss.length cap) ss.length G C (ZM N M') w' ∧ Filled (Ed ss N m) m M (k * N + i) face M' cn ∧ Only (Rws ss.length G) v w') := Lib.hid (fun g cap G C face hf M k i v h1 h2 h3 h4 h5 => fill_any d f b o c ss N m hok hz hN hm (w.heap.size + 1) g cap G C (by omega) face hf (unm M m) M k i v h1 h2 h3 h4 h5 (Nat.le_refl _))
  obtain ⟨K, hK⟩ : ∃ K, ss.length = K := ⟨_, rfl⟩
  rw [hK] at HFI hm l1 l2 ⊢
  have HK := Lib.hid hK; clear hK
  have HM := Lib.hid hm
  have HR : Hid (RdS w (some ⟨b, o, none⟩) ss) := Lib.hid h
  clear hm hN d1 d2 f1 f2 hok hz h
  have HR0 : Hid (RdS (((w.alloc (.cells #[.int .i64 d, .int .i64 f, .slice (some ⟨b, o, none⟩) K c] 34)).alloc (.cells #[] 48)).alloc (.cells #[] 3)) (some ⟨b, o, none⟩) ss) := Lib.hid (((HR.out.alloc _).alloc _).alloc _)
  have HZ0 : Hid ((((w.alloc (.cells #[.int .i64 d, .int .i64 f, .slice (some ⟨b, o, none⟩) K c] 34)).alloc (.cells #[] 48)).alloc (.cells #[] 3)).heap.size = w.heap.size + 3) := Lib.hid (by simp)
  have HB0 : Hid (Below w.heap.size w (((w.alloc (.cells #[.int .i64 d, .int .i64 f, .slice (some ⟨b, o, none⟩) K c] 34)).alloc (.cells #[] 48)).alloc (.cells #[] 3))) := Lib.hid ((((Below.refl _ _).alloc (Nat.le_refl _) _).alloc (by simp) _).alloc (by simp; omega) _)
  have k0 : (((w.alloc (.cells #[.int .i64 d, .int .i64 f, .slice (some ⟨b, o, none⟩) K c] 34)).alloc (.cells #[] 48)).alloc (.cells #[] 3)).cell? ⟨w.heap.size, 0, none⟩ = some (.int .i64 d) := by simp [go_sem]
  have k1 : (((w.alloc (.cells #[.int .i64 d, .int .i64 f, .slice (some ⟨b, o, none⟩) K c] 34)).alloc (.cells #[] 48)).alloc (.cells #[] 3)).cell? ⟨w.heap.size, 1, none⟩ = some (.int .i64 f) := by simp [go_sem]
  have k2 : (((w.alloc (.cells #[.int .i64 d, .int .i64 f, .slice (some ⟨b, o, none⟩) K c] 34)).alloc (.cells #[] 48)).alloc (.cells #[] 3)).cell? ⟨w.heap.size, 2, none⟩ = some (.slice (some ⟨b, o, none⟩) K c) := by simp [go_sem]
  have HO0 : Hid (OwnR (w.heap.size + 1) (.slice (some ⟨w.heap.size + 1, 0, none⟩) 0 0) 0 (fun _ => 0) (fun _ => 0) (ZM N (fun _ => -1)) (((w.alloc (.cells #[.int .i64 d, .int .i64 f, .slice (some ⟨b, o, none⟩) K c] 34)).alloc (.cells #[] 48)).alloc (.cells #[] 3))) := Lib.hid (by
    have h := (ownR_made (w.alloc (.cells #[.int .i64 d, .int .i64 f, .slice (some ⟨b, o, none⟩) K c] 34)) (w.heap.size + 1) (by simp) (fun _ => 0) (fun _ => 0) (ZM N (fun _ => -1))).al (.cells #[] 3)
    have e : (w.alloc (.cells #[.int .i64 d, .int .i64 f, .slice (some ⟨b, o, none⟩) K c] 34)).heap.size = (w.heap.size + 1) := by simp
    rwa [e] at h)
  have HI0 : Hid (OwnI (w.heap.size + 1) (.slice (some ⟨w.heap.size + 2, 0, none⟩) 0 0) [] (((w.alloc (.cells #[.int .i64 d, .int .i64 f, .slice (some ⟨b, o, none⟩) K c] 34)).alloc (.cells #[] 48)).alloc (.cells #[] 3))) := Lib.hid (by
    have h := ownI_made ((w.alloc (.cells #[.int .i64 d, .int .i64 f, .slice (some ⟨b, o, none⟩) K c] 34)).alloc (.cells #[] 48)) (w.heap.size + 1) (by simp)
    have e : ((w.alloc (.cells #[.int .i64 d, .int .i64 f, .slice (some ⟨b, o, none⟩) K c] 34)).alloc (.cells #[] 48)).heap.size = w.heap.size + 2 := by simp
    rwa [e] at h)
  go_enter Try.func63, Try.ntmps63
  go_wp2
  generalize (((w.alloc (.cells #[.int .i64 d, .int .i64 f, .slice (some ⟨b, o, none⟩) K c] 34)).alloc (.cells #[] 48)).alloc (.cells #[] 3)) = u0 at *
  go_loopw [4, 17] (fun ov kv wr => ∃ (k : Nat) (G C : Nat → Nat), k ≤ K ∧ kv = .int .i64 k ∧ OwnR (w.heap.size + 1) ov k G C (ZM N (fun _ => -1)) wr ∧ OwnI (w.heap.size + 1) (.slice (some ⟨w.heap.size + 2, 0, none⟩) 0 0) [] wr ∧ Hid (¬ Its ov k G (w.heap.size + 2)) ∧ Below (w.heap.size + 1) u0 wr) (fun _ kv _ => K - (intOf kv).toNat)
  case atStart => exact ⟨0, _, _, Nat.zero_le _, rfl, HO0.out, HI0.out, Lib.hid (by
    rintro (e | ⟨j, hj, _⟩)
    · simp [Value.ownBlock] at e
    · omega), Below.refl _ _⟩
  case round =>
    obtain ⟨k, G, C, hk, rfl, hown, hoi, HSEP, hb⟩ := hrel
    rename World => wk
    by_cases hlt : k < K
    · have x1 : (k : Int) < (K : Int) := by omega
      have hr := rdS_keep HR0.out hb (by omega)
      have g1 := rdc hr (by rw [HK.out]; exact hlt)
      have zk := HS.out k (by rw [HK.out]; exact hlt)
      have hszr : w.heap.size + 3 ≤ wk.heap.size := by rw [← HZ0.out]; exact hb.size
      have hb1 : i0.bytes * N ≤ 281474976710656 := by rw [hz2]; omega
      have hb2 : N ≤ maxLen := by unfold maxLen; omega
      have HOW := Lib.hid hown; have HOI := Lib.hid hoi; have HB := Lib.hid hb
      clear hr hown hoi hb
      go_wp2_with (at_make; refine wpList_make_full _ rfl _ _ 48 rfl _ 3 i0 (.int .i64 0) 1 Try.underlying48 hi hz0 hz1 _ _ _ _ N rfl rfl rfl (by simp) hb1 hb2 (Nat.le_refl _) ?_; intro w0 hown0 hgrow0)
      have ho := made_row hown0
      rw [mz_zero] at ho
      have bw : Below wk.heap.size wk w0 := (Below.refl _ _).grown hgrow0 (Nat.le_refl _) (fun k hk => by cases hk)
      clear hown0 hgrow0
      go_wp2
      go_loopw [26] (fun iv wr => ∃ j : Nat, j ≤ N ∧ iv = .int .i64 j ∧ OwnI wk.heap.size (.slice (some ⟨wk.heap.size, 0, none⟩) N N) (mz N j) wr ∧ Below wk.heap.size wk wr) (fun iv _ => N - (intOf iv).toNat)
      case atStart => exact ⟨0, Nat.zero_le _, rfl, ho, bw⟩
      case round =>
        clear ho bw
        obtain ⟨j, hj2, rfl, ow, hbw⟩ := hrel
        by_cases hlj : j < N
        · have x2 : (j : Int) < (N : Int) := by omega
          have cj := ow.cell j (by rw [mz_length]; exact hlj)
          rw [mz_at N j hlj] at cj
          have fj := ow.frozen j
          have ow2 := ow.set j (-1)
          rw [mz_set] at ow2
          have hb2 := hbw.setCell (p := ⟨wk.heap.size, j, none⟩) (Nat.le_refl _) (.int .i64 (-1))
          go_wp2
          go_roundw
          case rel => exact ⟨j + 1, by omega, by go_num, ow2, hb2⟩
          case measure => simp [intOf]; omega
        · have hjn : j = N := by omega
          have x2 : decide ((j : Int) < (N : Int)) = false := decide_eq_false (by omega)
          have x2n : decide (j < N) = false := decide_eq_false hlj
          rw [hjn, mz_all N k] at ow
          clear hjn hlj hj2
          have hn1 : k + 1 ≤ maxLen := by unfold maxLen; omega
          have hn2 : (k + 1) * 24 ≤ 140737488355328 := by omega
          have hrow := Lib.hid (show OwnI (w.heap.size + 1) (.slice (some ⟨wk.heap.size, 0, none⟩) (ZM N (fun _ => -1) k).length N) (ZM N (fun _ => -1) k) wr by rw [ZM_length]; exact own_mono ow (by omega))
          have hR := Lib.hid (HOW.out.below hbw)
          have hI := Lib.hid (HOI.out.below hbw)
          have hsep0 := its_lt HOW.out (Nat.le_refl wk.heap.size)
          have hown' : wr.ownsRow (w.heap.size + 1) 48 1 u4 k (rowCells k G C (ZM N (fun _ => -1))) := hR.out.1
          have hbr := HB.out.trans (hbw.mono (by omega))
          have hsz : (w.heap.size + 1) ≤ wr.heap.size := by have := hbr.size; rw [HZ0.out] at this; omega
          have h3 : w.heap.size + 2 < wk.heap.size := by omega
          have h4 : wk.heap.size ≤ wr.heap.size := hbw.size
          clear ow
          go_wp2_with (at_builtin; refine wpList_app1L rfl _ _ 22 rfl (w.heap.size + 1) 48 i1 (.slice none 0 0) 24 Try.underlying22 hj hy0 hy1 hy2 rfl _ _ _ rfl hown' _ rfl rfl hn1 hn2 hsz ?_; intro g cap w1 hown1 hg1 hat)
          have hown2 := (OwnR.push hR.out hrow.out hsep0 (by rw [ZM_length]; exact hown1) hg1 hat).congr (Z' := ZM N (fun _ => -1)) (fun x hx => by
            by_cases e : x = k
            · subst e; rw [upd_same]
            · rw [upd_other _ _ e])
          have hb1' := below_of_grown hbr hsz hown' hg1
          have hsep2 := Lib.hid (push_sep (gr := wk.heap.size) (cap := cap) HSEP.out (by omega) (show w.heap.size + 2 < wr.heap.size by omega) hat)
          have hI2 : OwnI (w.heap.size + 1) (.slice (some ⟨w.heap.size + 2, 0, none⟩) 0 0) [] w1 := (World.ownsRow.alloc hI.out _).kept hg1 (.inr (fun e => HSEP.out (.inl e.symm)))
          clear hown1 hg1 hrow hown' hR hbr hbw hI
          go_wp2
          go_roundw
          case rel => exact ⟨k + 1, _, _, by omega, by go_num, hown2, hI2, hsep2, hb1'⟩
          case measure => simp [intOf]; omega
    · have hkK : k = K := by omega
      have x1 : decide ((k : Int) < (K : Int)) = false := decide_eq_false (by omega)
      have x1n : decide (k < K) = false := decide_eq_false hlt
      rw [hkK] at hown HSEP
      rcases hown.form with ⟨_, _, _, h0⟩ | ⟨g, cap, hv, hgB, _⟩
      · omega
      subst hv
      have HSEP2 : Hid (∀ x, Its (.slice (some ⟨g, 0, none⟩) K cap) K G x → (Value.slice (some ⟨w.heap.size + 2, 0, none⟩) 0 0).ownBlock ≠ some x) := Lib.hid (fun x hx e => by
        have e2 : w.heap.size + 2 = x := by simpa [Value.ownBlock] using e
        exact HSEP.out (by rw [e2]; exact hx))
      clear hkK hlt hk HSEP
      go_wp2
      go_loopw [5, 40] (fun sv kv wr => ∃ (k : Nat) (M : Nat → Int) (n : Nat), k ≤ K ∧ kv = .int .i64 k ∧ OwnR (w.heap.size + 1) (.slice (some ⟨g, 0, none⟩) K cap) K G C (ZM N M) wr ∧ OwnI (w.heap.size + 1) sv (szs M n m) wr ∧ Hid (∀ x, Its (.slice (some ⟨g, 0, none⟩) K cap) K G x → sv.ownBlock ≠ some x) ∧ Hid (Flood (Ed ss N m) m (k * N) M n) ∧ Below (w.heap.size + 1) u0 wr) (fun _ kv _ => K - (intOf kv).toNat)
      case atStart => exact ⟨0, fun _ => -1, 0, Nat.zero_le _, rfl, hown, hoi, HSEP2, Lib.hid (by rw [Nat.zero_mul]; exact flood_start _ _), hb⟩
      case round =>
        clear hown hoi HSEP2 hb x1 x1n
        obtain ⟨k, M, n, hk, rfl, hown, hoi, HSEP, HFL, hb⟩ := hrel
        rename World => wk
        by_cases hlt : k < K
        · have x1 : (k : Int) < (K : Int) := by omega
          have c1 := hown.cellM k hlt
          go_wp2
          go_loopw [5, 48] (fun sv iv wr => ∃ (i : Nat) (M : Nat → Int) (n : Nat), i ≤ N ∧ iv = .int .i64 i ∧ OwnR (w.heap.size + 1) (.slice (some ⟨g, 0, none⟩) K cap) K G C (ZM N M) wr ∧ OwnI (w.heap.size + 1) sv (szs M n m) wr ∧ Hid (∀ x, Its (.slice (some ⟨g, 0, none⟩) K cap) K G x → sv.ownBlock ≠ some x) ∧ Hid (Flood (Ed ss N m) m (k * N + i) M n) ∧ Below (w.heap.size + 1) u0 wr) (fun _ iv _ => N - (intOf iv).toNat)
          case atStart => exact ⟨0, M, n, Nat.zero_le _, rfl, hown, hoi, HSEP, HFL, hb⟩
          case round =>
            clear hown hoi HSEP HFL hb M n c1
            obtain ⟨i, M, n, hi2, rfl, hown, hoi, HSEP, HFL, hb⟩ := hrel
            by_cases hli : i < N
            · have x2 : (i : Int) < (N : Int) := by omega
              have c1 := hown.cellM k hlt
              have c2 := hown.atM k i hlt hli
              have htm : Hid (k * N + i < m) := Lib.hid (by rw [← HM.out]; exact tile_lt hli hlt)
              have HT : Hid (k * N + (i + 1) = k * N + i + 1) := Lib.hid (by omega)
              generalize hyy : M (k * N + i) = yv at *
              by_cases hy : yv < 0
              · have hr := rdS_keep HR0.out hb (by omega)
                have q0 := (hb.cell (p := ⟨w.heap.size, 0, none⟩) (by show w.heap.size < _; omega)).trans k0
                have q1 := (hb.cell (p := ⟨w.heap.size, 1, none⟩) (by show w.heap.size < _; omega)).trans k1
                have q2 := (hb.cell (p := ⟨w.heap.size, 2, none⟩) (by show w.heap.size < _; omega)).trans k2
                have hnl := HFL.out.nle
                have hnm : n ≤ 200 := by have := htm.out; omega
                have hneg : M (k * N + i) < 0 := by rw [hyy]; exact hy
                have CF := Lib.hid (HFI.out g cap G C n hnm M k i _ hr hown hlt hli hneg)
                have HNEG := Lib.hid hneg
                obtain ⟨sa, sc, hsv⟩ := owni_sl hoi
                rw [szs_length] at hsv
                subst hsv
                have HOI := Lib.hid hoi; have HB := Lib.hid hb
                have HGB : Hid (∀ j, j < K → (w.heap.size + 1) ≤ G j) := Lib.hid (fun j hj => (hown.lt (.inr ⟨j, hj, rfl⟩)).1)
                have hn1 : n + 1 ≤ maxLen := by unfold maxLen; omega
                have hn2 : (n + 1) * 8 ≤ 140737488355328 := by omega
                clear hown hoi hb hr hyy hneg hnl
                go_wp2_with fail
                refine CF.out.mono ?_
                rintro e w5 ⟨M2, c3, rfl, o5, f5, on5⟩
                have hb5 : Below (w.heap.size + 1) u0 w5 := HB.out.trans (on5.toBelow (by have := HB.out.size; rw [HZ0.out] at this; omega) (fun x hx e => by obtain ⟨j, hj, e⟩ := e; have := HGB.out j hj; omega))
                have oi5 : OwnI (w.heap.size + 1) (.slice sa n sc) (szs M n m) w5 := HOI.out.only on5 (fun x e hx => HSEP.out x (.inr hx) e)
                have HFL2 := Lib.hid (flood_fill HFL.out htm.out HNEG.out f5)
                have HSZ := Lib.hid (show szs M n m ++ [(c3 : Int)] = szs M2 (n + 1) m from sizes_fill HFL.out f5)
                have hsz : (w.heap.size + 1) ≤ w5.heap.size := by have := hb5.size; rw [HZ0.out] at this; omega
                have hown' : w5.ownsRow (w.heap.size + 1) 3 1 (.slice sa n sc) n (intCells (szs M n m)) := by have h := oi5; unfold OwnI at h; rw [szs_length] at h; exact h
                have HO5 := Lib.hid o5
                clear f5 on5 oi5 CF HOI q0 q1 q2 c1 c2 o5
                go_wp2_with (at_builtin; refine wpList_app1L rfl _ _ 48 rfl (w.heap.size + 1) 3 i0 (.int .i64 0) 8 Try.underlying48 hi hz0 hz1 hz2 rfl _ _ _ rfl hown' _ rfl rfl hn1 hn2 hsz ?_; intro gs2 cap2 w6 hown1 hg1 hat)
                have hown2 := ownI_snoc (by rw [szs_length]) hown1
                rw [HSZ.out] at hown2
                have hb1' := below_of_grown hb5 hsz hown' hg1
                have hR6 : OwnR (w.heap.size + 1) (.slice (some ⟨g, 0, none⟩) K cap) K G C (ZM N M2) w6 := (HO5.out.al _).only (only_grown hg1 (S := fun x => (Value.slice sa n sc).ownBlock = some x) (fun x e => e)) (fun x hx e => HSEP.out x hx e)
                have HSEP2 : Hid (∀ x, Its (.slice (some ⟨g, 0, none⟩) K cap) K G x → (Value.slice (some ⟨gs2, 0, none⟩) (n + 1) cap2).ownBlock ≠ some x) := Lib.hid (fun x hx e => by
                  have e2 : gs2 = x := by simpa [Value.ownBlock] using e
                  rcases hat with h | h
                  · exact HSEP.out x hx ((show (Value.slice sa n sc).ownBlock = some gs2 from h).trans (by rw [e2]))
                  · have := (HO5.out.lt hx).2; omega)
                clear hown1 hg1 hown' hat HO5
                go_wp2
                go_roundw
                case rel => exact ⟨i + 1, M2, n + 1, by omega, by go_num, hR6, hown2, HSEP2, Lib.hid (by rw [HT.out]; exact HFL2.out), hb1'⟩
                case measure => simp [intOf]; omega
              · have y1 : decide (yv < 0) = false := decide_eq_false hy
                have HFL2 := Lib.hid (flood_skip HFL.out (by rw [hyy]; omega))
                clear hy hyy
                go_wp2
                go_roundw
                case rel => exact ⟨i + 1, M, n, by omega, by go_num, hown, hoi, HSEP, Lib.hid (by rw [HT.out]; exact HFL2.out), hb⟩
                case measure => simp [intOf]; omega
            · have hiN : i = N := by omega
              have x2 : decide ((i : Int) < (N : Int)) = false := decide_eq_false (by omega)
              have x2n : decide (i < N) = false := decide_eq_false hli
              have HFL2 : Hid (Flood (Ed ss N m) m ((k + 1) * N) M n) := Lib.hid (by rw [Nat.succ_mul]; rw [hiN] at HFL; exact HFL.out)
              clear hiN hli hi2
              go_wp2
              go_roundw
              case rel => exact ⟨k + 1, M, n, by omega, by go_num, hown, hoi, HSEP, HFL2, hb⟩
              case measure => simp [intOf]; omega
        · have hkK : k = K := by omega
          have x1 : decide ((k : Int) < (K : Int)) = false := decide_eq_false (by omega)
          have x1n : decide (k < K) = false := decide_eq_false hlt
          have HFL2 : Hid (Flood (Ed ss N m) m m M n) := Lib.hid (by have := HFL.out; rwa [hkK, HM.out] at this)
          have hR := hown.mono (B' := w.heap.size) (by omega)
          have hI := own_mono hoi (B' := w.heap.size) (by omega)
          have hbf := HB0.out.trans (hb.mono (by omega))
          clear hkK hown hoi hb
          go_wp2
          go_ret2
          exact ⟨g, cap, G, C, M, n, _, rfl, hR, hI, HFL2.out, hbf⟩
end Go.Proofs.Ytmpbhhggbmjfcaa
