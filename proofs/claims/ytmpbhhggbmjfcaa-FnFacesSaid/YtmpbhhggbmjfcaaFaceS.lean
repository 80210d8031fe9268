/- Contract of spec.l06Faces. -/
import Derived.Test.YtmpbhhggbmjfcaaFaceE
import Derived.Test.YtmpbhhggbmjfcaaOwnR
import Derived.Test.YtmpbhhggbmjfcaaRoomFns
import Derived.Test.YtmpbhhggbmjfcaaRoomT
import Derived.StillTailTactics
import Derived.OwnWalk
import Derived.BigQuiet
namespace Go.Proofs.Ytmpbhhggbmjfcaa
open Go.RowKit
set_option linter.unusedVariables false
set_option linter.unusedSimpArgs false
set_option maxRecDepth 20000

theorem rdc {u : World} {b o j : Nat} {ss : List ByteArray} (h : RdS u (some ⟨b, o, none⟩) ss) (hj : j < ss.length) : u.cell? ⟨b, o + j, none⟩ = some (.string (sel ss j)) := by
  rcases h with h | ⟨b', o', h', _, _, hc⟩
  · cases h; exact absurd hj (by simp)
  · cases h'; exact hc j hj
theorem lF_snoc (g : Nat → Nat) (n : Nat) : lF g n ++ [(g n : Int)] = lF g (n + 1) := by unfold lF; rw [List.range_succ, List.map_append]; rfl
theorem own_shape {B m : Nat} {v : Value} {f : Nat → Nat} {w : World} (h : OwnI B v (lF f m) w) (hm : 0 < m) : ∃ g cap, v = .slice (some ⟨g, 0, none⟩) m cap ∧ B ≤ g ∧ g < w.heap.size := by
  rcases h.form with ⟨a, c, rfl, h0⟩ | ⟨g, cap, rfl, hg, _⟩
  · have := lF_length f m; rw [h0] at this; simp at this; omega
  · exact ⟨g, cap, by rw [lF_length], hg, (h.lt g rfl).2⟩
set_option maxHeartbeats 6400000 in
theorem l06_any (w : World) (d f : Int) (a : Option Addr) (c : Nat) (ss : List ByteArray) (N m : Nat) (h : RdS w a ss) (hok : okC d f ss = true) (hN : (N : Int) = d + f) (hm : ss.length * N = m) :
    Calls Try.prog 60 #[.agg #[.int .i64 d, .int .i64 f, .slice a ss.length c]] w fun e w' => ∃ (v : Value) (lab : Nat → Nat), e = .returned v ∧ OwnI w.heap.size v (lF lab m) w' ∧ Labels (Ed ss N m) m lab ∧ Below w.heap.size w w' := by
  obtain ⟨i0, hi, hz0, hz1, hz2⟩ := info_parts Try.info3
  obtain ⟨⟨d1, d2, f1, f2⟩, ⟨l1, l2⟩, _⟩ := (okC_iff d f ss).1 hok
  have HS : Hid (∀ k, k < ss.length → (sel ss k).size = N) := Lib.hid (fun k hk => by have := (okC_sel hok hk).2.2.2.1; omega)
  have N1 : 2 ≤ N := by omega
  have N2 : N ≤ 16 := by omega
  have M2 : m ≤ 160 := by rw [← hm]; exact Nat.le_trans (Nat.mul_le_mul l2 N2) (by decide)
  have M1 : 0 < m := by rw [← hm]; exact Nat.mul_pos (by omega) (by omega)
  rcases h with h | ⟨b, o, rfl, hp, hbl, hc⟩
  · rw [h] at l1; simp at l1
  have HR : Hid (RdS w (some ⟨b, o, none⟩) ss) := Lib.hid (.inr ⟨b, o, rfl, hp, hbl, hc⟩)
  clear hc hp hbl
  have LJ : Hid (∀ (u : World) (k i : Nat), k + 1 < ss.length → i < N → RdS u (some ⟨b, o, none⟩) ss → Calls Try.prog 88 #[.agg #[.int .i64 d, .int .i64 f, .slice (some ⟨b, o, none⟩) ss.length c], .int .i64 k, .int .i64 i, .int .i64 i] u fun e w' => e = .returned (.bool (sameV (sel ss k) (sel ss (k + 1)) i)) ∧ Below u.heap.size u w') := Lib.hid (fun u k i hk hi h => by
    have z1 := HS.out k (by omega); have z2 := HS.out (k + 1) hk
    have := l06Joined_any u d f (some ⟨b, o, none⟩) c ss k i i hk (by unfold maxLen; omega) (by omega) (by omega) (by omega) (by omega) (by omega) h
    rwa [decide_eq_true (rfl : i = i), Bool.true_and] at this)
  have e1 : IntKind.i64.wrap (d + f) = (N : Int) := by rw [← hN]; exact IntWalk.i64_in _ (by omega)
  obtain ⟨K, hK⟩ : ∃ K, ss.length = K := ⟨_, rfl⟩
  rw [hK] at LJ hm l1 l2 ⊢
  have HK := Lib.hid hK; clear hK
  have e2 : IntKind.i64.wrap ((K : Int) * (N : Int)) = (m : Int) := by rw [← Int.natCast_mul, hm]; exact IntWalk.i64_in _ (by omega)
  have HM := Lib.hid hm; have HN := Lib.hid hN
  clear hm hN d1 d2 f1 f2 hok
  have k0 : (w.alloc (.cells #[.int .i64 d, .int .i64 f, .slice (some ⟨b, o, none⟩) K c] 34)).cell? ⟨w.heap.size, 0, none⟩ = some (.int .i64 d) := by simp [go_sem]
  have k1 : (w.alloc (.cells #[.int .i64 d, .int .i64 f, .slice (some ⟨b, o, none⟩) K c] 34)).cell? ⟨w.heap.size, 1, none⟩ = some (.int .i64 f) := by simp [go_sem]
  have k2 : (w.alloc (.cells #[.int .i64 d, .int .i64 f, .slice (some ⟨b, o, none⟩) K c] 34)).cell? ⟨w.heap.size, 2, none⟩ = some (.slice (some ⟨b, o, none⟩) K c) := by simp [go_sem]
  have HB0 : Hid (Below w.heap.size w (w.alloc (.cells #[.int .i64 d, .int .i64 f, .slice (some ⟨b, o, none⟩) K c] 34))) := Lib.hid ((Below.refl _ _).alloc (Nat.le_refl _) _)
  have HZ0 : Hid ((w.alloc (.cells #[.int .i64 d, .int .i64 f, .slice (some ⟨b, o, none⟩) K c] 34)).heap.size = w.heap.size + 1) := Lib.hid (by simp)
  have HR0 : Hid (RdS (w.alloc (.cells #[.int .i64 d, .int .i64 f, .slice (some ⟨b, o, none⟩) K c] 34)) (some ⟨b, o, none⟩) ss) := Lib.hid (HR.out.alloc _)
  go_enter Try.func60, Try.ntmps60
  go_wp2
  generalize (w.alloc (.cells #[.int .i64 d, .int .i64 f, .slice (some ⟨b, o, none⟩) K c] 34)) = u0 at *
  go_loopw [5, 6] (fun v i wr => ∃ k : Nat, k ≤ m ∧ i = .int .i64 k ∧ OwnI (w.heap.size + 1) v (lF (fun x => x) k) wr ∧ Below (w.heap.size + 1) u0 wr) (fun _ i _ => m - (intOf i).toNat)
  case atStart =>
    have hh := ownI_made u0 (w.heap.size + 1) (by rw [HZ0.out]; exact Nat.le_refl _)
    rw [HZ0.out] at hh
    exact ⟨0, Nat.zero_le _, rfl, hh, (Below.refl _ _).alloc (by rw [HZ0.out]; exact Nat.le_refl _) _⟩
  case round =>
    obtain ⟨k, hk, rfl, hown, hb⟩ := hrel
    by_cases hlt : k < m
    · have x1 : (k : Int) < (m : Int) := by omega
      have hn1 : k + 1 ≤ maxLen := by unfold maxLen; omega
      have hn2 : (k + 1) * 8 ≤ 140737488355328 := by omega
      have hsz : w.heap.size + 1 ≤ wr.heap.size := by rw [← HZ0.out]; exact hb.size
      have hown' : wr.ownsRow (w.heap.size + 1) 3 1 u5 k (intCells (lF (fun x => x) k)) := by have h := hown; unfold OwnI at h; rw [lF_length] at h; exact h
      clear hown
      go_wp2_with (at_builtin; refine wpList_app1 rfl _ _ 48 rfl (w.heap.size + 1) 3 i0 (.int .i64 0) 8 Try.underlying48 hi hz0 hz1 hz2 rfl _ _ _ rfl hown' _ rfl rfl hn1 hn2 hsz ?_; intro g cap w1 hown1 hg1)
      have hown2 := ownI_snoc (by rw [lF_length]) hown1
      rw [lF_snoc (fun x => x) k] at hown2
      have hb1 := below_of_grown hb hsz hown' hg1
      clear hown1 hg1 hown'
      go_wp2
      go_roundw
      case rel => exact ⟨k + 1, by omega, by go_num, hown2, hb1⟩
      case measure => simp [intOf]; omega
    · have hkm : k = m := by omega
      have x1 : decide ((k : Int) < (m : Int)) = false := decide_eq_false (by omega)
      have x1n : decide (k < m) = false := decide_eq_false (by omega)
      rw [hkm] at hown
      obtain ⟨gb, cap, hv, hgb, _⟩ := own_shape hown M1
      subst hv
      clear hkm hk hlt
      go_wp2
      go_loopw [7] (fun i wr => ∃ (t : Nat) (g : Nat → Nat), t ≤ m ∧ i = .int .i64 t ∧ OwnI (w.heap.size + 1) (.slice (some ⟨gb, 0, none⟩) m cap) (lF g m) wr ∧ Hid (GroupOk (Ed ss N m) m g) ∧ Hid (Jn ss N m t 0 g) ∧ Below (w.heap.size + 1) u0 wr) (fun i _ => m - (intOf i).toNat)
      case atStart => exact ⟨0, fun x => x, Nat.zero_le _, rfl, hown, Lib.hid (group_id _ _), Lib.hid (fjn_zero _ _ _ _), hb⟩
      case round =>
        clear hown hb x1 x1n
        obtain ⟨t, g, ht, rfl, hown, HG, HJ, hb⟩ := hrel
        rename World => wt
        by_cases htm : t < m
        · have x1 : (t : Int) < (m : Int) := by omega
          obtain ⟨k, hk⟩ : ∃ k, t / N = k := ⟨_, rfl⟩
          obtain ⟨i, hin⟩ : ∃ i, t % N = i := ⟨_, rfl⟩
          have iN : i < N := by rw [← hin]; exact Nat.mod_lt _ (by omega)
          have tki : t = k * N + i := by rw [← hk, ← hin]; rw [Nat.mul_comm]; exact (Nat.div_add_mod t N).symm
          have kK : k < K := by rw [← hk]; exact Nat.div_lt_of_lt_mul (by rw [Nat.mul_comm, HM.out]; exact htm)
          have n0 : ¬ (N : Int) = 0 := by omega
          have n0n : ¬ N = 0 := by omega
          have x2 : Int.tdiv (t : Int) (N : Int) = (k : Int) := by rw [← hk]; rfl
          have x3 : Int.tmod (t : Int) (N : Int) = (i : Int) := by rw [← hin]; rfl
          have x4 : IntKind.i64.wrap (k : Int) = (k : Int) := IntWalk.i64_in _ (by omega)
          have x5 : IntKind.i64.wrap (i : Int) = (i : Int) := IntWalk.i64_in _ (by omega)
          have HKT := Lib.hid hk; have HIT := Lib.hid hin; have HTKI := Lib.hid tki
          clear hk hin tki
          go_wp2
          go_loopw [10] (fun st wr => ∃ (q : Nat) (g : Nat → Nat), q ≤ 2 ∧ st = .int .i64 q ∧ OwnI (w.heap.size + 1) (.slice (some ⟨gb, 0, none⟩) m cap) (lF g m) wr ∧ Hid (GroupOk (Ed ss N m) m g) ∧ Hid (Jn ss N m t q g) ∧ Below (w.heap.size + 1) u0 wr) (fun st _ => 2 - (intOf st).toNat)
          case atStart => exact ⟨0, g, by omega, rfl, hown, HG, HJ, hb⟩
          case round =>
            clear hown hb HG HJ g
            obtain ⟨q, g, hq, rfl, hown, HG, HJ, hb⟩ := hrel
            have k0 := (hb.cell (p := ⟨w.heap.size, 0, none⟩) (by simp)).trans k0
            have k1 := (hb.cell (p := ⟨w.heap.size, 1, none⟩) (by simp)).trans k1
            have k2 := (hb.cell (p := ⟨w.heap.size, 2, none⟩) (by simp)).trans k2
            have hr := HR0.out.below (hb.mono (by rw [HZ0.out]; exact Nat.le_refl _))
            have g1 := rdc hr (by rw [HK.out]; exact kK)
            have zk := HS.out k (by rw [HK.out]; exact kK)
            have HRW := Lib.hid hr; clear hr
            have hq3 : q = 0 ∨ q = 1 ∨ q = 2 := by omega
            rcases hq3 with rfl | rfl | rfl
            · have x6 : IntKind.i64.wrap ((t : Int) - 1) = (t : Int) - 1 := IntWalk.i64_in _ (by omega)
              by_cases hi0 : 0 < i
              · have x7 : (0 : Int) < (i : Int) := by omega
                obtain ⟨u, hut⟩ : ∃ u, t = u + 1 := ⟨t - 1, by have := HTKI.out; omega⟩
                obtain ⟨i', hii⟩ : ∃ i', i = i' + 1 := ⟨i - 1, by omega⟩
                have x8 : IntKind.i64.wrap ((i : Int) - 1) = (i' : Int) := by rw [show (i : Int) - 1 = (i' : Int) from by omega]; exact IntWalk.i64_in _ (by omega)
                have x9 : max (0 : Int) (i' : Int) = (i' : Int) := by omega
                have x10 : (i' : Int) < (N : Int) := by omega
                have x10n : i' < N := by omega
                have x11 : (i : Int) < (N : Int) := by omega
                have hzi : i < (sel ss k).size := by omega
                have hzi2 : i' < (sel ss k).size := by omega
                have HI1 : Hid (i - 1 = i') := Lib.hid (by omega)
                clear hii
                have HE1 : Hid (∀ a, E1 ss N m a t ↔ a = u ∧ byt (sel ss k) i = byt (sel ss k) i') := Lib.hid (fun a => by
                  unfold E1; rw [HKT.out, HIT.out]
                  rw [HI1.out]
                  constructor
                  · rintro ⟨_, h1, _, h2⟩; exact ⟨by omega, h2⟩
                  · rintro ⟨h1, h2⟩; exact ⟨htm, by omega, hi0, h2⟩)
                by_cases hl : byt (sel ss k) i = byt (sel ss k) i'
                · have x12 : (((sel ss k)[i].toNat : Int) == ((sel ss k)[i'].toNat : Int)) = true := by rw [byt_get _ i hzi, byt_get _ i' hzi2] at hl; rw [hl]; simp
                  have x13 : ((sel ss k)[i].toNat == (sel ss k)[i'].toNat) = true := by rw [byt_get _ i hzi, byt_get _ i' hzi2] at hl; rw [hl]; simp
                  have HU : Hid (∀ a, E1 ss N m a t → a = u) := Lib.hid (fun a e => ((HE1.out a).1 e).1)
                  have HE : Hid (Ed ss N m u t) := Lib.hid (.inl ((HE1.out u).2 ⟨rfl, hl⟩))
                  have hum : u < m := by omega
                  have x14 : IntKind.i64.wrap ((t : Int) - 1) = (u : Int) := by rw [x6]; omega
                  have x15 : (u : Int) < (m : Int) := by omega
                  clear x6 hl hut HE1
                  have c1 := hown.at u hum
                  have c2 := hown.at t htm
                  by_cases hgg : g u = g t
                  · have hg1 : ((g u : Int) == (g t : Int)) = true := beq_iff_eq.2 (by omega)
                    have hg2 : (g u == g t) = true := beq_iff_eq.2 hgg
                    have HJ2 : Hid (Jn ss N m t 1 g) := Lib.hid (fjn_one HJ.out (fun a e => by rw [HU.out a e]; exact hgg))
                    clear hgg
                    go_wp2
                    go_quiet (fail)
                    go_wp2
                    go_quiet (fail)
                    go_wp2
                    go_roundw
                    case rel => exact ⟨1, g, by omega, by go_num, hown, HG, HJ2, dr_below' hb (by first | exact dr_refl _ | exact ⟨_, rfl⟩ | exact dr_trans ⟨_, rfl⟩ ⟨_, rfl⟩ | exact dr_trans (dr_trans ⟨_, rfl⟩ ⟨_, rfl⟩) ⟨_, rfl⟩ | exact dr_trans (dr_trans (dr_trans ⟨_, rfl⟩ ⟨_, rfl⟩) ⟨_, rfl⟩) ⟨_, rfl⟩)⟩
                    case measure => simp [intOf]; try omega
                  · have hg1 : ((g u : Int) == (g t : Int)) = false := beq_eq_false_iff_ne.2 (by omega)
                    have hg2 : (g u == g t) = false := beq_eq_false_iff_ne.2 hgg
                    have HNE := Lib.hid hgg
                    have gu := HG.out.1 u hum; have gt := HG.out.1 t htm
                    obtain ⟨aa, haa⟩ : ∃ aa, min (g u) (g t) = aa := ⟨_, rfl⟩
                    obtain ⟨bb, hbb⟩ : ∃ bb, max (g u) (g t) = bb := ⟨_, rfl⟩
                    have ia : min (g u : Int) (g t : Int) = (aa : Int) := by omega
                    have ib : max (g u : Int) (g t : Int) = (bb : Int) := by omega
                    have HG2 : Hid (GroupOk (Ed ss N m) m (merge g aa bb)) := Lib.hid (by rw [← haa, ← hbb]; exact merge_ok HG.out hum htm (Conn.edge HE.out) hgg)
                    have HJ2 : Hid (Jn ss N m t 1 (merge g aa bb)) := Lib.hid (fjn_one (fjn_merge HJ.out _ _) (fun a e => by rw [HU.out a e, ← haa, ← hbb]; exact merge_join g u t))
                    have ham : aa < m := by omega
                    clear hgg gu gt haa hbb
                    go_wp2
                    go_quiet (fail)
                    go_wp2
                    go_quiet (fail)
                    go_wp2
                    go_quiet (fail)
                    go_wp2
                    go_quiet (fail)
                    go_wp2
                    rename World => wq
                    go_loopw [15] (fun x wr => ∃ y : Nat, y ≤ m ∧ x = .int .i64 y ∧ OwnI (w.heap.size + 1) (.slice (some ⟨gb, 0, none⟩) m cap) (lF (mgx g aa bb y) m) wr ∧ Below (w.heap.size + 1) u0 wr) (fun x _ => m - (intOf x).toNat)
                    case atStart => exact ⟨0, Nat.zero_le _, rfl, by rw [mgx_zero]; exact hown, dr_below' hb (by first | exact dr_refl _ | exact ⟨_, rfl⟩ | exact dr_trans ⟨_, rfl⟩ ⟨_, rfl⟩ | exact dr_trans (dr_trans ⟨_, rfl⟩ ⟨_, rfl⟩) ⟨_, rfl⟩ | exact dr_trans (dr_trans (dr_trans ⟨_, rfl⟩ ⟨_, rfl⟩) ⟨_, rfl⟩) ⟨_, rfl⟩)⟩
                    case round =>
                      clear hown hb c1 c2 k0 k1 k2 g1
                      obtain ⟨y, hy, rfl, hown, hb⟩ := hrel
                      by_cases hym : y < m
                      · have y1 : (y : Int) < (m : Int) := by omega
                        have cy := hown.at y hym
                        rw [mgx_at] at cy
                        have fy := hown.frozen y
                        by_cases hyb : g y = bb
                        · have y2 : ((g y : Int) == (bb : Int)) = true := beq_iff_eq.2 (by omega)
                          have y3 : (g y == bb) = true := beq_iff_eq.2 hyb
                          have hown2 := hown.set y (aa : Int)
                          rw [lF_set, mgx_hit hyb] at hown2
                          have hb2 := hb.setCell (p := ⟨gb, y, none⟩) hgb (.int .i64 (aa : Int))
                          clear hyb
                          go_wp2
                          go_roundw
                          case rel => exact ⟨y + 1, by omega, by go_num, hown2, hb2⟩
                          case measure => simp [intOf]; try omega
                        · have y2 : ((g y : Int) == (bb : Int)) = false := beq_eq_false_iff_ne.2 (by omega)
                          have y3 : (g y == bb) = false := beq_eq_false_iff_ne.2 hyb
                          rw [mgx_miss hyb] at hown
                          clear hyb
                          go_wp2
                          go_roundw
                          case rel => exact ⟨y + 1, by omega, by go_num, hown, hb⟩
                          case measure => simp [intOf]; try omega
                      · have hye : y = m := by omega
                        have y1 : decide ((y : Int) < (m : Int)) = false := decide_eq_false (by omega)
                        have y1n : decide (y < m) = false := decide_eq_false (by omega)
                        have hown2 : OwnI (w.heap.size + 1) (.slice (some ⟨gb, 0, none⟩) m cap) (lF (merge g aa bb) m) wr := by
                          rw [hye, lF_congr (fun j hj => mgx_all hj)] at hown; exact hown
                        clear hye hown
                        go_wp2
                        go_roundw
                        case rel => exact ⟨1, merge g aa bb, by omega, by go_num, hown2, HG2, HJ2, hb⟩
                        case measure => simp [intOf]; try omega
                · have x12 : (((sel ss k)[i].toNat : Int) == ((sel ss k)[i'].toNat : Int)) = false := by rw [byt_get _ i hzi, byt_get _ i' hzi2] at hl; rw [int_beq]; exact decide_eq_false (fun h => hl (UInt8.toNat_inj.1 h))
                  have HJ2 : Hid (Jn ss N m t 1 g) := Lib.hid (fjn_one HJ.out (fun a e => absurd ((HE1.out a).1 e).2 hl))
                  clear hl hut HE1
                  go_wp2
                  go_quiet (fail)
                  go_wp2
                  go_quiet (fail)
                  go_wp2
                  go_roundw
                  case rel => exact ⟨1, g, by omega, by go_num, hown, HG, HJ2, dr_below' hb (by first | exact ⟨_, rfl⟩ | exact dr_trans ⟨_, rfl⟩ ⟨_, rfl⟩)⟩
                  case measure => simp [intOf]; try omega
              · have x7 : decide ((0 : Int) < (i : Int)) = false := decide_eq_false (by omega)
                have x7n : decide (0 < i) = false := decide_eq_false hi0
                have HJ2 : Hid (Jn ss N m t 1 g) := Lib.hid (fjn_one HJ.out (fun a e => by obtain ⟨_, _, h, _⟩ := e; rw [HIT.out] at h; exact absurd h hi0))
                clear hi0
                go_wp2
                go_quiet (fail)
                go_wp2
                go_quiet (fail)
                go_wp2
                go_roundw
                case rel => exact ⟨1, g, by omega, by go_num, hown, HG, HJ2, dr_below' hb (by first | exact ⟨_, rfl⟩ | exact dr_trans ⟨_, rfl⟩ ⟨_, rfl⟩)⟩
                case measure => simp [intOf]; try omega
            · have x6 : IntKind.i64.wrap ((t : Int) - 1) = (t : Int) - 1 := IntWalk.i64_in _ (by omega)
              by_cases hk0 : 0 < k
              · have x7 : (0 : Int) < (k : Int) := by omega
                obtain ⟨k', hkk⟩ : ∃ k', k = k' + 1 := ⟨k - 1, by omega⟩
                have x8 : IntKind.i64.wrap ((k : Int) - 1) = (k' : Int) := by rw [show (k : Int) - 1 = (k' : Int) from by omega]; exact IntWalk.i64_in _ (by omega)
                have hNt : N ≤ t := by rw [HTKI.out, hkk, Nat.succ_mul]; omega
                obtain ⟨u, hut⟩ : ∃ u, t = u + N := ⟨t - N, by omega⟩
                have x14 : IntKind.i64.wrap ((t : Int) - (N : Int)) = (u : Int) := by rw [show (t : Int) - (N : Int) = (u : Int) from by omega]; exact IntWalk.i64_in _ (by omega)
                have hum : u < m := by omega
                have x15 : (u : Int) < (m : Int) := by omega
                have HU : Hid (∀ a, E2 ss N m a t → a = u) := Lib.hid (fun a e => by have := e.2.1; omega)
                have HE2 : Hid (∀ a, E2 ss N m a t → sameV (sel ss k') (sel ss (k' + 1)) i = true) := Lib.hid (fun a e => by
                  have h := e.2.2
                  rw [HKT.out, HIT.out, hkk, Nat.add_sub_cancel] at h; exact h)
                have HE3 : Hid (sameV (sel ss k') (sel ss (k' + 1)) i = true → E2 ss N m u t) := Lib.hid (fun h => ⟨htm, hut.symm, by rw [HKT.out, HIT.out, hkk, Nat.add_sub_cancel]; exact h⟩)
                have LJ1 : Hid (∀ v : World, RdS v (some ⟨b, o, none⟩) ss → Calls Try.prog 88 #[.agg #[.int .i64 d, .int .i64 f, .slice (some ⟨b, o, none⟩) K c], .int .i64 k', .int .i64 i, .int .i64 i] v fun e w' => e = .returned (.bool (sameV (sel ss k') (sel ss (k' + 1)) i)) ∧ Below v.heap.size v w') := Lib.hid (fun v hv => LJ.out v k' i (by omega) iN hv)
                have hsz0 : w.heap.size + 1 ≤ wr.heap.size := by rw [← HZ0.out]; exact hb.size
                clear hkk hNt hut
                generalize hsv : sameV (sel ss k') (sel ss (k' + 1)) i = sv at *
                have HSV := Lib.hid hsv; clear hsv
                cases sv with
                | true =>
                  have HE : Hid (Ed ss N m u t) := Lib.hid (.inr (HE3.out rfl))
                  clear HE2 HE3
                  go_wp2
                  go_quiet (fail)
                  go_wp2_with fail
                  refine (LJ1.out _ (HRW.out.drewN _)).mono ?_
                  rintro e w5 ⟨rfl, b5⟩
                  have hown : OwnI (w.heap.size + 1) (.slice (some ⟨gb, 0, none⟩) m cap) (lF g m) w5 := OwnI.below (hown.drewN _) b5
                  have hb : Below (w.heap.size + 1) u0 w5 := Below.trans (dr_below' hb ⟨_, rfl⟩) (b5.mono hsz0)
                  clear b5
                  have c1 := hown.at u hum
                  have c2 := hown.at t htm
                  by_cases hgg : g u = g t
                  · have hg1 : ((g u : Int) == (g t : Int)) = true := beq_iff_eq.2 (by omega)
                    have hg2 : (g u == g t) = true := beq_iff_eq.2 hgg
                    have HJ2 : Hid (Jn ss N m t 2 g) := Lib.hid (fjn_two HJ.out (fun a e => by rw [HU.out a e]; exact hgg))
                    clear hgg
                    go_wp2
                    go_quiet (fail)
                    go_wp2
                    go_roundw
                    case rel => exact ⟨2, g, by omega, by go_num, hown, HG, HJ2, dr_below' hb (by first | exact dr_refl _ | exact ⟨_, rfl⟩ | exact dr_trans ⟨_, rfl⟩ ⟨_, rfl⟩ | exact dr_trans (dr_trans ⟨_, rfl⟩ ⟨_, rfl⟩) ⟨_, rfl⟩ | exact dr_trans (dr_trans (dr_trans ⟨_, rfl⟩ ⟨_, rfl⟩) ⟨_, rfl⟩) ⟨_, rfl⟩)⟩
                    case measure => simp [intOf]; try omega
                  · have hg1 : ((g u : Int) == (g t : Int)) = false := beq_eq_false_iff_ne.2 (by omega)
                    have hg2 : (g u == g t) = false := beq_eq_false_iff_ne.2 hgg
                    have HNE := Lib.hid hgg
                    have gu := HG.out.1 u hum; have gt := HG.out.1 t htm
                    obtain ⟨aa, haa⟩ : ∃ aa, min (g u) (g t) = aa := ⟨_, rfl⟩
                    obtain ⟨bb, hbb⟩ : ∃ bb, max (g u) (g t) = bb := ⟨_, rfl⟩
                    have ia : min (g u : Int) (g t : Int) = (aa : Int) := by omega
                    have ib : max (g u : Int) (g t : Int) = (bb : Int) := by omega
                    have HG2 : Hid (GroupOk (Ed ss N m) m (merge g aa bb)) := Lib.hid (by rw [← haa, ← hbb]; exact merge_ok HG.out hum htm (Conn.edge HE.out) hgg)
                    have HJ2 : Hid (Jn ss N m t 2 (merge g aa bb)) := Lib.hid (fjn_two (fjn_merge HJ.out _ _) (fun a e => by rw [HU.out a e, ← haa, ← hbb]; exact merge_join g u t))
                    have ham : aa < m := by omega
                    clear hgg gu gt haa hbb
                    go_wp2
                    go_quiet (fail)
                    go_wp2
                    go_quiet (fail)
                    go_wp2
                    go_quiet (fail)
                    go_wp2
                    rename World => wq
                    go_loopw [15] (fun x wr => ∃ y : Nat, y ≤ m ∧ x = .int .i64 y ∧ OwnI (w.heap.size + 1) (.slice (some ⟨gb, 0, none⟩) m cap) (lF (mgx g aa bb y) m) wr ∧ Below (w.heap.size + 1) u0 wr) (fun x _ => m - (intOf x).toNat)
                    case atStart => exact ⟨0, Nat.zero_le _, rfl, by rw [mgx_zero]; exact hown, dr_below' hb (by first | exact dr_refl _ | exact ⟨_, rfl⟩ | exact dr_trans ⟨_, rfl⟩ ⟨_, rfl⟩ | exact dr_trans (dr_trans ⟨_, rfl⟩ ⟨_, rfl⟩) ⟨_, rfl⟩ | exact dr_trans (dr_trans (dr_trans ⟨_, rfl⟩ ⟨_, rfl⟩) ⟨_, rfl⟩) ⟨_, rfl⟩)⟩
                    case round =>
                      clear hown hb c1 c2 k0 k1 k2 g1
                      obtain ⟨y, hy, rfl, hown, hb⟩ := hrel
                      by_cases hym : y < m
                      · have y1 : (y : Int) < (m : Int) := by omega
                        have cy := hown.at y hym
                        rw [mgx_at] at cy
                        have fy := hown.frozen y
                        by_cases hyb : g y = bb
                        · have y2 : ((g y : Int) == (bb : Int)) = true := beq_iff_eq.2 (by omega)
                          have y3 : (g y == bb) = true := beq_iff_eq.2 hyb
                          have hown2 := hown.set y (aa : Int)
                          rw [lF_set, mgx_hit hyb] at hown2
                          have hb2 := hb.setCell (p := ⟨gb, y, none⟩) hgb (.int .i64 (aa : Int))
                          clear hyb
                          go_wp2
                          go_roundw
                          case rel => exact ⟨y + 1, by omega, by go_num, hown2, hb2⟩
                          case measure => simp [intOf]; try omega
                        · have y2 : ((g y : Int) == (bb : Int)) = false := beq_eq_false_iff_ne.2 (by omega)
                          have y3 : (g y == bb) = false := beq_eq_false_iff_ne.2 hyb
                          rw [mgx_miss hyb] at hown
                          clear hyb
                          go_wp2
                          go_roundw
                          case rel => exact ⟨y + 1, by omega, by go_num, hown, hb⟩
                          case measure => simp [intOf]; try omega
                      · have hye : y = m := by omega
                        have y1 : decide ((y : Int) < (m : Int)) = false := decide_eq_false (by omega)
                        have y1n : decide (y < m) = false := decide_eq_false (by omega)
                        have hown2 : OwnI (w.heap.size + 1) (.slice (some ⟨gb, 0, none⟩) m cap) (lF (merge g aa bb) m) wr := by
                          rw [hye, lF_congr (fun j hj => mgx_all hj)] at hown; exact hown
                        clear hye hown
                        go_wp2
                        go_roundw
                        case rel => exact ⟨2, merge g aa bb, by omega, by go_num, hown2, HG2, HJ2, hb⟩
                        case measure => simp [intOf]; try omega
                | false =>
                  have HJ2 : Hid (Jn ss N m t 2 g) := Lib.hid (fjn_two HJ.out (fun a e => by have := HE2.out a e; cases this))
                  clear HE2 HE3
                  go_wp2
                  go_quiet (fail)
                  go_wp2_with fail
                  refine (LJ1.out _ (HRW.out.drewN _)).mono ?_
                  rintro e w5 ⟨rfl, b5⟩
                  have hown : OwnI (w.heap.size + 1) (.slice (some ⟨gb, 0, none⟩) m cap) (lF g m) w5 := OwnI.below (hown.drewN _) b5
                  have hb : Below (w.heap.size + 1) u0 w5 := Below.trans (dr_below' hb ⟨_, rfl⟩) (b5.mono hsz0)
                  clear b5
                  go_wp2
                  go_quiet (fail)
                  go_wp2
                  go_roundw
                  case rel => exact ⟨2, g, by omega, by go_num, hown, HG, HJ2, dr_below' hb ⟨_, rfl⟩⟩
                  case measure => simp [intOf]; try omega
              · have x7 : decide ((0 : Int) < (k : Int)) = false := decide_eq_false (by omega)
                have x7n : decide (0 < k) = false := decide_eq_false hk0
                have HJ2 : Hid (Jn ss N m t 2 g) := Lib.hid (fjn_two HJ.out (fun a e => by
                  exfalso
                  have h1 := e.2.1
                  have h2 := HTKI.out
                  have h3 : k = 0 := by omega
                  rw [h3, Nat.zero_mul] at h2; omega))
                clear hk0
                go_wp2
                go_quiet (fail)
                go_wp2
                go_quiet (fail)
                go_wp2
                go_roundw
                case rel => exact ⟨2, g, by omega, by go_num, hown, HG, HJ2, dr_below' hb (by first | exact ⟨_, rfl⟩ | exact dr_trans ⟨_, rfl⟩ ⟨_, rfl⟩)⟩
                case measure => simp [intOf]; try omega
            · have HJ2 := Lib.hid (fjn_next HJ.out)
              clear k0 k1 k2 g1
              go_wp2
              go_roundw
              case rel => exact ⟨t + 1, g, by omega, by go_num, hown, HG, HJ2, hb⟩
              case measure => simp [intOf]; try omega
        · have htm2 : t = m := by omega
          have x1 : decide ((t : Int) < (m : Int)) = false := decide_eq_false (by omega)
          have x1n : decide (t < m) = false := decide_eq_false (by omega)
          have HJ2 : Hid (∀ a b, Ed ss N m a b → g a = g b) := Lib.hid (fjn_all (by rw [htm2] at HJ; exact HJ.out))
          clear htm2 ht htm HJ
          have hb1 : i0.bytes * m ≤ 281474976710656 := by rw [hz2]; omega
          have hb2 : m ≤ maxLen := by unfold maxLen; omega
          have HB := Lib.hid hb
          have HOW := Lib.hid hown
          clear hown hb
          go_wp2_with (at_make; refine wpList_make_full _ rfl _ _ 48 rfl _ 3 i0 (.int .i64 0) 1 Try.underlying48 hi hz0 hz1 _ _ _ _ m rfl rfl rfl (by simp) hb1 hb2 (Nat.le_refl _) ?_; intro w0 hown0 hgrow0)
          have ho := made_row hown0
          have bw : Below wt.heap.size wt w0 := (Below.refl _ _).grown hgrow0 (Nat.le_refl _) (fun k hk => by cases hk)
          clear hown0 hgrow0
          go_wp2
          go_loopw [17, 18] (fun nx i wr => ∃ (t : Nat) (lab : Nat → Nat), t ≤ m ∧ i = .int .i64 t ∧ nx = .int .i64 (nxt lab t) ∧ OwnI wt.heap.size (.slice (some ⟨wt.heap.size, 0, none⟩) m m) (lF lab m) wr ∧ Hid (NumUpto g t lab) ∧ nxt lab t ≤ t ∧ Below wt.heap.size wt wr) (fun _ i _ => m - (intOf i).toNat)
          case atStart => exact ⟨0, fun _ => 0, Nat.zero_le _, rfl, rfl, ho, Lib.hid (fun u hu => by omega), Nat.le_refl _, bw⟩
          case round =>
            clear ho bw x1 x1n
            obtain ⟨t, lab, ht, rfl, rfl, ow, HNU, hnt, hbw⟩ := hrel
            by_cases htm : t < m
            · have x1 : (t : Int) < (m : Int) := by omega
              have hgt : g t ≤ t := HG.out.1 t htm
              have cg := (HOW.out.below hbw).at t htm
              have ft := ow.frozen t
              have ct := ow.at t htm
              have HST := Lib.hid (numUpto_step (t := t) (fun x hx => HG.out.1 x (by omega)) HNU.out)
              by_cases hgg : g t = t
              · have y1 : ((g t : Int) == (t : Int)) = true := beq_iff_eq.2 (by omega)
                have y2 : (g t == t) = true := beq_iff_eq.2 hgg
                have hs1 : Hid (NumUpto g (t + 1) (upd lab t (nxt lab t))) := Lib.hid (by have := HST.out.1; rwa [if_pos hgg] at this)
                have hs2 : nxt (upd lab t (nxt lab t)) (t + 1) = nxt lab t + 1 := by have := HST.out.2; rwa [if_pos hgg, if_pos hgg] at this
                have ow2 := ow.set t (nxt lab t : Int)
                rw [lF_set] at ow2
                have hb2 := hbw.setCell (p := ⟨wt.heap.size, t, none⟩) (Nat.le_refl _) (.int .i64 (nxt lab t : Int))
                have y3 : IntKind.i64.wrap ((nxt lab t : Int) + 1) = (nxt lab t : Int) + 1 := IntWalk.i64_in _ (by omega)
                have HS2 := Lib.hid hs2
                clear hgg hs2 HST
                go_wp2
                go_roundw
                case rel => exact ⟨t + 1, upd lab t (nxt lab t), by omega, by go_num, by rw [HS2.out]; go_num, ow2, hs1, by rw [HS2.out]; omega, hb2⟩
                case measure => simp [intOf]; try omega
              · have y1 : ((g t : Int) == (t : Int)) = false := beq_eq_false_iff_ne.2 (by omega)
                have y2 : (g t == t) = false := beq_eq_false_iff_ne.2 hgg
                have hs1 : Hid (NumUpto g (t + 1) (upd lab t (lab (g t)))) := Lib.hid (by have := HST.out.1; rwa [if_neg hgg] at this)
                have hs2 : nxt (upd lab t (lab (g t))) (t + 1) = nxt lab t := by have := HST.out.2; rwa [if_neg hgg, if_neg hgg] at this
                have cl := ow.at (g t) (by omega)
                have y4 : (g t : Int) < (m : Int) := by omega
                have ow2 := ow.set t (lab (g t) : Int)
                rw [lF_set] at ow2
                have hb2 := hbw.setCell (p := ⟨wt.heap.size, t, none⟩) (Nat.le_refl _) (.int .i64 (lab (g t) : Int))
                have HS2 := Lib.hid hs2
                clear hgg hs2 HST
                go_wp2
                go_roundw
                case rel => exact ⟨t + 1, upd lab t (lab (g t)), by omega, by go_num, by rw [HS2.out], ow2, hs1, by rw [HS2.out]; omega, hb2⟩
                case measure => simp [intOf]; try omega
            · have hte : t = m := by omega
              have x1 : decide ((t : Int) < (m : Int)) = false := decide_eq_false (by omega)
              have x1n : decide (t < m) = false := decide_eq_false (by omega)
              have HLB : Hid (Labels (Ed ss N m) m lab) := Lib.hid (labels_of_group ed_lt HG.out HJ2.out (by have := HNU.out; rwa [hte] at this))
              have hsw : w.heap.size + 1 ≤ wt.heap.size := by rw [← HZ0.out]; exact HB.out.size
              have ow2 : OwnI w.heap.size (.slice (some ⟨wt.heap.size, 0, none⟩) m m) (lF lab m) wr := own_mono ow (by omega)
              have hbf : Below w.heap.size w wr := HB0.out.trans ((HB.out.mono (Nat.le_succ _)).trans (hbw.mono (by omega)))
              clear hte ow hbw
              go_wp2
              go_ret
              exact ⟨_, lab, rfl, ow2, HLB.out, hbf⟩

end Go.Proofs.Ytmpbhhggbmjfcaa
