/- Contract of impl's fill. -/
import Derived.Test.YtmpbhhggbmjfcaaFaceM
import Derived.Test.YtmpbhhggbmjfcaaFaceS
import Derived.StillTailTactics
import Derived.OwnWalk
import Derived.BigQuiet
import Derived.Deep.RegionWith
namespace Go.Proofs.Ytmpbhhggbmjfcaa
open Go.RowKit
set_option linter.unusedVariables false
set_option linter.unusedSimpArgs false
set_option maxRecDepth 20000

theorem alloc_at (v : World) (cs : Array Value) (t j : Nat) (x : Value) (h : cs[j]? = some x) : (v.alloc (.cells cs t)).cell? ⟨v.heap.size, j, none⟩ = some x := by
  unfold World.cell?
  rw [heap_alloc_new]
  simp [h]
set_option maxHeartbeats 6400000 in
theorem fill_any (d f : Int) (b o c : Nat) (ss : List ByteArray) (N m : Nat) (hok : okC d f ss = true) (hz : SzS ss) (hN : (N : Int) = d + f) (hm : ss.length * N = m) (B g cap : Nat) (G C : Nat → Nat) (hbB : b < B) (face : Nat) (hface : face ≤ 200) :
    ∀ n : Nat, ∀ (M : Nat → Int) (k i : Nat) (w : World), RdS w (some ⟨b, o, none⟩) ss → OwnR B (.slice (some ⟨g, 0, none⟩) ss.length cap) ss.length G C (ZM N M) w → k < ss.length → i < N → M (k * N + i) < 0 → unm M m ≤ n →
    Calls Try.prog 90 #[.agg #[.int .i64 d, .int .i64 f, .slice (some ⟨b, o, none⟩) ss.length c], .slice (some ⟨g, 0, none⟩) ss.length cap, .int .i64 k, .int .i64 i, .int .i64 face] w fun e w' => ∃ (M' : Nat → Int) (cn : Nat), e = .returned (.int .i64 cn) ∧ OwnR B (.slice (some ⟨g, 0, none⟩) ss.length cap) ss.length G C (ZM N M') w' ∧ Filled (Ed ss N m) m M (k * N + i) face M' cn ∧ Only (Rws ss.length G) w w' := by
  obtain ⟨⟨d1, d2, f1, f2⟩, ⟨l1, l2⟩, _⟩ := (okC_iff d f ss).1 hok
  have HS : Hid (∀ k, k < ss.length → (sel ss k).size = N) := Lib.hid (fun k hk => by have := (okC_sel hok hk).2.2.2.1; omega)
  have N1 : 2 ≤ N := by omega
  have N2 : N ≤ 16 := by omega
  have M2 : m ≤ 160 := by rw [← hm]; exact Nat.le_trans (Nat.mul_le_mul l2 N2) (by decide)
  have HT : Hid (∀ (v : World) (x y : Int), RdS v (some ⟨b, o, none⟩) ss → Calls Try.prog 62 #[.agg #[.int .i64 d, .int .i64 f, .slice (some ⟨b, o, none⟩) ss.length c], .int .i64 x, .int .i64 y] v fun e w' => e = .returned (.bool (decide ((0 ≤ x ∧ x < ss.length) ∧ (0 ≤ y ∧ y < N)))) ∧ Below v.heap.size v w') := Lib.hid (fun v x y hv => by
    have h := hasTile_any v d f (some ⟨b, o, none⟩) c ss hv hz x y
    have e : tile d f ss x y = decide ((0 ≤ x ∧ x < ss.length) ∧ (0 ≤ y ∧ y < N)) := by
      unfold tile hasV; rw [hok, Bool.true_and, ← hN, ← Bool.decide_and]
    rwa [e] at h)
  obtain ⟨K, hK⟩ : ∃ K, ss.length = K := ⟨_, rfl⟩
  rw [hK] at HT hm l1 l2 ⊢
  have HK := Lib.hid hK; clear hK
  have HM := Lib.hid hm; have HOK := Lib.hid hok
  clear hm hN d1 d2 f1 f2 hok hz
  intro n
  induction n with
  | zero =>
    intro M k i w hr ho hk hi hneg hu
    exfalso
    have := unm_pos hneg (m := m) (by rw [← HM.out]; exact tile_lt hi hk)
    omega
  | succ n IH =>
    intro M k i w hr ho hk hi hneg hu
    have HIH := Lib.hid IH; clear IH
    have HU := Lib.hid hu; have HNEG := Lib.hid hneg
    have htm : Hid (k * N + i < m) := Lib.hid (by rw [← HM.out]; exact tile_lt hi hk)
    clear hu hneg
    have hGlt : ∀ j, j < K → B ≤ G j ∧ G j < w.heap.size := fun j hj => ho.lt (.inr ⟨j, hj, rfl⟩)
    have HGL := Lib.hid hGlt
    have hGk := hGlt k hk
    have hbw : b < w.heap.size := by omega
    have hgw : g < w.heap.size := (ho.lt (.inl rfl)).2
    have z1 : (k : Int) < (K : Int) := by omega
    have z2 : (i : Int) < (N : Int) := by omega
    have c1 := (ho.al (.cells #[.int .i64 d, .int .i64 f, .slice (some ⟨b, o, none⟩) K c] 34)).cellM k hk
    have c2 := (ho.al (.cells #[.int .i64 d, .int .i64 f, .slice (some ⟨b, o, none⟩) K c] 34)).atM k i hk hi
    have c3 := (ho.al (.cells #[.int .i64 d, .int .i64 f, .slice (some ⟨b, o, none⟩) K c] 34)).frM k i hk
    have O1 : Hid (OwnR B (.slice (some ⟨g, 0, none⟩) K cap) K G C (ZM N (upd M (k * N + i) face)) ((w.setCell ⟨G k, i, none⟩ (.int .i64 face)).alloc (.cells #[.int .i64 d, .int .i64 f, .slice (some ⟨b, o, none⟩) K c] 34))) := Lib.hid ((ho.setM hk hi face).al _)
    have ON1 : Hid (Only (Rws K G) w ((w.setCell ⟨G k, i, none⟩ (.int .i64 face)).alloc (.cells #[.int .i64 d, .int .i64 f, .slice (some ⟨b, o, none⟩) K c] 34))) := Lib.hid ((only_set _ _ _ _ ⟨k, hk, rfl⟩).trans (only_alloc _ _ _))
    have k0 : ((w.setCell ⟨G k, i, none⟩ (.int .i64 face)).alloc (.cells #[.int .i64 d, .int .i64 f, .slice (some ⟨b, o, none⟩) K c] 34)).cell? ⟨w.heap.size, 0, none⟩ = some (.int .i64 d) := by simp [go_sem]
    have k1 : ((w.setCell ⟨G k, i, none⟩ (.int .i64 face)).alloc (.cells #[.int .i64 d, .int .i64 f, .slice (some ⟨b, o, none⟩) K c] 34)).cell? ⟨w.heap.size, 1, none⟩ = some (.int .i64 f) := by simp [go_sem]
    have k2 : ((w.setCell ⟨G k, i, none⟩ (.int .i64 face)).alloc (.cells #[.int .i64 d, .int .i64 f, .slice (some ⟨b, o, none⟩) K c] 34)).cell? ⟨w.heap.size, 2, none⟩ = some (.slice (some ⟨b, o, none⟩) K c) := by simp [go_sem]
    have HZ1 : Hid (((w.setCell ⟨G k, i, none⟩ (.int .i64 face)).alloc (.cells #[.int .i64 d, .int .i64 f, .slice (some ⟨b, o, none⟩) K c] 34)).heap.size = w.heap.size + 1) := Lib.hid (by simp)
    have hr1 := hr.only ON1.out (by rintro ⟨j, hj, e⟩; have := hGlt j hj; omega)
    have g1 := rdc hr1 (by rw [HK.out]; exact hk)
    have HR1 := Lib.hid hr1
    clear hr1 hr ho hGlt
    have v1 : IntKind.i64.wrap ((i : Int) - 1) = (i : Int) - 1 := IntWalk.i64_in _ (by omega)
    have v2 : IntKind.i64.wrap ((i : Int) + 1) = (i : Int) + 1 := IntWalk.i64_in _ (by omega)
    have v3 : IntKind.i64.wrap ((k : Int) - 1) = (k : Int) - 1 := IntWalk.i64_in _ (by omega)
    have v4 : IntKind.i64.wrap ((k : Int) + 1) = (k : Int) + 1 := IntWalk.i64_in _ (by omega)
    go_enter Try.func90, Try.ntmps90
    go_wp2
    generalize ((w.setCell ⟨G k, i, none⟩ (.int .i64 face)).alloc (.cells #[.int .i64 d, .int .i64 f, .slice (some ⟨b, o, none⟩) K c] 34)) = u1 at *
    clear c1 c2 c3
    go_quiet (fail)
    go_wp2
    have CL : Hid (∀ q, q < 4 → ((u1.drewN nq).alloc (.cells #[.int .i64 k, .int .i64 ((i : Int) - 1), .int .i64 k, .int .i64 ((i : Int) + 1), .int .i64 ((k : Int) - 1), .int .i64 i, .int .i64 ((k : Int) + 1), .int .i64 i] 109)).cell? ⟨u1.heap.size, q * 2, none⟩ = some (.int .i64 (nbm k q)) ∧ ((u1.drewN nq).alloc (.cells #[.int .i64 k, .int .i64 ((i : Int) - 1), .int .i64 k, .int .i64 ((i : Int) + 1), .int .i64 ((k : Int) - 1), .int .i64 i, .int .i64 ((k : Int) + 1), .int .i64 i] 109)).cell? ⟨u1.heap.size, q * 2 + 1, none⟩ = some (.int .i64 (nbj i q))) := Lib.hid (fun q hq => by
      have hq4 : q = 0 ∨ q = 1 ∨ q = 2 ∨ q = 3 := by omega
      rcases hq4 with rfl | rfl | rfl | rfl <;> exact ⟨alloc_at (u1.drewN nq) _ _ _ _ (by simp [nbm]), alloc_at (u1.drewN nq) _ _ _ _ (by simp [nbj])⟩)
    have ON2 : Only (Rws K G) u1 ((u1.drewN nq).alloc (.cells #[.int .i64 k, .int .i64 ((i : Int) - 1), .int .i64 k, .int .i64 ((i : Int) + 1), .int .i64 ((k : Int) - 1), .int .i64 i, .int .i64 ((k : Int) + 1), .int .i64 i] 109)) := (only_below (dr_below ⟨nq, rfl⟩ _) _).trans (only_alloc _ _ _)
    have HZ2 : Hid (((u1.drewN nq).alloc (.cells #[.int .i64 k, .int .i64 ((i : Int) - 1), .int .i64 k, .int .i64 ((i : Int) + 1), .int .i64 ((k : Int) - 1), .int .i64 i, .int .i64 ((k : Int) + 1), .int .i64 i] 109)).heap.size = w.heap.size + 2) := Lib.hid (by simp [HZ1.out])
    have HO2 : Hid (OwnR B (.slice (some ⟨g, 0, none⟩) K cap) K G C (ZM N (upd M (k * N + i) face)) ((u1.drewN nq).alloc (.cells #[.int .i64 k, .int .i64 ((i : Int) - 1), .int .i64 k, .int .i64 ((i : Int) + 1), .int .i64 ((k : Int) - 1), .int .i64 i, .int .i64 ((k : Int) + 1), .int .i64 i] 109))) := Lib.hid (O1.out.below (((Below.refl _ _).trans (dr_below ⟨nq, rfl⟩ _)).alloc (Nat.le_refl _) _))
    have k0' : ((u1.drewN nq).alloc (.cells #[.int .i64 k, .int .i64 ((i : Int) - 1), .int .i64 k, .int .i64 ((i : Int) + 1), .int .i64 ((k : Int) - 1), .int .i64 i, .int .i64 ((k : Int) + 1), .int .i64 i] 109)).cell? ⟨w.heap.size, 0, none⟩ = some (.int .i64 d) := (ON2.cell (by rw [HZ1.out]; exact Nat.lt_succ_self _) (fun e => by obtain ⟨j, hj, e⟩ := e; have := HGL.out j hj; exact absurd e (by show ¬ G j = w.heap.size; omega))).trans k0
    have k1' : ((u1.drewN nq).alloc (.cells #[.int .i64 k, .int .i64 ((i : Int) - 1), .int .i64 k, .int .i64 ((i : Int) + 1), .int .i64 ((k : Int) - 1), .int .i64 i, .int .i64 ((k : Int) + 1), .int .i64 i] 109)).cell? ⟨w.heap.size, 1, none⟩ = some (.int .i64 f) := (ON2.cell (by rw [HZ1.out]; exact Nat.lt_succ_self _) (fun e => by obtain ⟨j, hj, e⟩ := e; have := HGL.out j hj; exact absurd e (by show ¬ G j = w.heap.size; omega))).trans k1
    have k2' : ((u1.drewN nq).alloc (.cells #[.int .i64 k, .int .i64 ((i : Int) - 1), .int .i64 k, .int .i64 ((i : Int) + 1), .int .i64 ((k : Int) - 1), .int .i64 i, .int .i64 ((k : Int) + 1), .int .i64 i] 109)).cell? ⟨w.heap.size, 2, none⟩ = some (.slice (some ⟨b, o, none⟩) K c) := (ON2.cell (by rw [HZ1.out]; exact Nat.lt_succ_self _) (fun e => by obtain ⟨j, hj, e⟩ := e; have := HGL.out j hj; exact absurd e (by show ¬ G j = w.heap.size; omega))).trans k2
    have HR2 : Hid (RdS ((u1.drewN nq).alloc (.cells #[.int .i64 k, .int .i64 ((i : Int) - 1), .int .i64 k, .int .i64 ((i : Int) + 1), .int .i64 ((k : Int) - 1), .int .i64 i, .int .i64 ((k : Int) + 1), .int .i64 i] 109)) (some ⟨b, o, none⟩) ss) := Lib.hid (HR1.out.only ON2 (by rintro ⟨j, hj, e⟩; have := HGL.out j hj; omega))
    have HON2 := Lib.hid (ON1.out.trans ON2)
    rw [HZ1.out] at CL
    clear k0 k1 k2 ON2 HR1 g1 v1 v2 v3 v4
    generalize ((u1.drewN nq).alloc (.cells #[.int .i64 k, .int .i64 ((i : Int) - 1), .int .i64 k, .int .i64 ((i : Int) + 1), .int .i64 ((k : Int) - 1), .int .i64 i, .int .i64 ((k : Int) + 1), .int .i64 i] 109)) = u2 at *
    rw [HZ1.out]
    go_loopw [11, 47] (fun nv jv wr => ∃ (q : Nat) (M' : Nat → Int) (cn : Nat), q ≤ 4 ∧ jv = .int .i64 q ∧ nv = .int .i64 cn ∧ OwnR B (.slice (some ⟨g, 0, none⟩) K cap) K G C (ZM N M') wr ∧ Hid (Filling (Ed ss N m) m M (k * N + i) face (Nb K N k i q) M' cn) ∧ Only (Rws K G) u2 wr) (fun _ jv _ => 4 - (intOf jv).toNat)
    case atStart => exact ⟨0, upd M (k * N + i) face, 1, by omega, rfl, rfl, HO2.out, Lib.hid (filling_mono (filling_start (by omega) htm.out HNEG.out) (fun y hy => (nb_zero _ _ _ _ _ hy).elim)), Only.refl _ _⟩
    case round =>
      obtain ⟨q, M', cn, hq, rfl, rfl, ho, HF, hon⟩ := hrel
      have HOUT : Hid (∀ x, w.heap.size ≤ x → ¬ Rws K G x) := Lib.hid (fun x hx e => by obtain ⟨j, hj, e⟩ := e; have := HGL.out j hj; omega)
      by_cases hlt : q < 4
      · have k0 := (hon.cell (p := ⟨w.heap.size, 0, none⟩) (by rw [HZ2.out]; show w.heap.size < _; omega) (HOUT.out _ (Nat.le_refl _))).trans k0'
        have k1 := (hon.cell (p := ⟨w.heap.size, 1, none⟩) (by rw [HZ2.out]; show w.heap.size < _; omega) (HOUT.out _ (Nat.le_refl _))).trans k1'
        have k2 := (hon.cell (p := ⟨w.heap.size, 2, none⟩) (by rw [HZ2.out]; show w.heap.size < _; omega) (HOUT.out _ (Nat.le_refl _))).trans k2'
        have x0 := (hon.cell (p := ⟨w.heap.size + 1, q * 2, none⟩) (by rw [HZ2.out]; show w.heap.size + 1 < _; omega) (HOUT.out _ (by show w.heap.size ≤ w.heap.size + 1; omega))).trans (CL.out q hlt).1
        have x1 := (hon.cell (p := ⟨w.heap.size + 1, q * 2 + 1, none⟩) (by rw [HZ2.out]; show w.heap.size + 1 < _; omega) (HOUT.out _ (by show w.heap.size ≤ w.heap.size + 1; omega))).trans (CL.out q hlt).2
        obtain ⟨mv, hmv⟩ : ∃ mv, nbm k q = mv := ⟨_, rfl⟩
        obtain ⟨jv, hjv⟩ : ∃ jv, nbj i q = jv := ⟨_, rfl⟩
        rw [hmv] at x0
        rw [hjv] at x1
        have hrd := HR2.out.only hon (by rintro ⟨j, hj, e⟩; have := HGL.out j hj; omega)
        have HRD := Lib.hid hrd; clear hrd
        have HMV := Lib.hid hmv; have HJV := Lib.hid hjv; clear hmv hjv
        have e1 : (q : Int) < 4 := by omega
        have onA : Only (Rws K G) u2 (wr.alloc (.cells #[.int .i64 mv, .int .i64 jv] 109)) := hon.trans (only_alloc _ _ _)
        have k0a := ((only_alloc wr (.cells #[.int .i64 mv, .int .i64 jv] 109) (fun _ => False)).cell (p := ⟨w.heap.size, 0, none⟩) (by have := hon.size; rw [HZ2.out] at this; show w.heap.size < _; omega) id).trans k0
        have k1a := ((only_alloc wr (.cells #[.int .i64 mv, .int .i64 jv] 109) (fun _ => False)).cell (p := ⟨w.heap.size, 1, none⟩) (by have := hon.size; rw [HZ2.out] at this; show w.heap.size < _; omega) id).trans k1
        have k2a := ((only_alloc wr (.cells #[.int .i64 mv, .int .i64 jv] 109) (fun _ => False)).cell (p := ⟨w.heap.size, 2, none⟩) (by have := hon.size; rw [HZ2.out] at this; show w.heap.size < _; omega) id).trans k2
        have y0 : (wr.alloc (.cells #[.int .i64 mv, .int .i64 jv] 109)).cell? ⟨wr.heap.size, 0, none⟩ = some (.int .i64 mv) := alloc_at _ _ _ _ _ rfl
        have y1 : (wr.alloc (.cells #[.int .i64 mv, .int .i64 jv] 109)).cell? ⟨wr.heap.size, 1, none⟩ = some (.int .i64 jv) := alloc_at _ _ _ _ _ rfl
        have HO3 := Lib.hid (ho.al (.cells #[.int .i64 mv, .int .i64 jv] 109))
        have HRD := Lib.hid (HRD.out.alloc (.cells #[.int .i64 mv, .int .i64 jv] 109))
        have HZ3 : Hid (u2.heap.size ≤ (wr.alloc (.cells #[.int .i64 mv, .int .i64 jv] 109)).heap.size) := Lib.hid onA.size
        have HONA := Lib.hid onA
        go_wp2
        generalize (wr.alloc (.cells #[.int .i64 mv, .int .i64 jv] 109)) = u3 at *
        clear k0 k1 k2 x0 x1 ho hon onA k0' k1' k2'
        have KB : Hid (∀ v : World, Below u3.heap.size u3 v → ∀ j, v.cell? ⟨w.heap.size, j, none⟩ = u3.cell? ⟨w.heap.size, j, none⟩) := Lib.hid (fun v hv j => hv.cell (p := ⟨w.heap.size, j, none⟩) (by have := HZ3.out; rw [HZ2.out] at this; show w.heap.size < _; omega))
        by_cases hT : (0 ≤ mv ∧ mv < K) ∧ (0 ≤ jv ∧ jv < N)
        rotate_left
        · have HT1 : Hid (∀ v : World, RdS v (some ⟨b, o, none⟩) ss → Calls Try.prog 62 #[.agg #[.int .i64 d, .int .i64 f, .slice (some ⟨b, o, none⟩) K c], .int .i64 mv, .int .i64 jv] v fun e w' => e = .returned (.bool false) ∧ Below v.heap.size v w') := Lib.hid (fun v hv => by have h := HT.out v mv jv hv; rwa [decide_eq_false hT] at h)
          have HF2 := Lib.hid (filling_mono HF.out (fun y hy => nb_no (q := q) (by rw [HMV.out, HJV.out]; exact hT) hy))
          clear hT
          go_quiet (fail)
          go_wp2_with fail
          refine (HT1.out _ (HRD.out.drewN _)).mono ?_
          rintro e w5 ⟨rfl, b5⟩
          have O5 : OwnR B (.slice (some ⟨g, 0, none⟩) K cap) K G C (ZM N M') w5 := (show OwnR B (.slice (some ⟨g, 0, none⟩) K cap) K G C (ZM N M') (u3.drewN nq) from HO3.out.below (dr_below ⟨nq, rfl⟩ _)).below b5
          have ON5 : Only (Rws K G) u2 w5 := (HONA.out.drewN nq).trans (only_below b5 _)
          clear b5 k0a k1a k2a y0 y1
          go_wp2
          go_roundw
          case rel => exact ⟨q + 1, M', cn, by omega, by go_num, rfl, O5, HF2, ON5⟩
          case measure => simp [intOf]; try omega
        · have HT1 : Hid (∀ v : World, RdS v (some ⟨b, o, none⟩) ss → Calls Try.prog 62 #[.agg #[.int .i64 d, .int .i64 f, .slice (some ⟨b, o, none⟩) K c], .int .i64 mv, .int .i64 jv] v fun e w' => e = .returned (.bool true) ∧ Below v.heap.size v w') := Lib.hid (fun v hv => by have h := HT.out v mv jv hv; rwa [decide_eq_true hT] at h)
          obtain ⟨⟨t1, t2⟩, t3, t4⟩ := hT
          obtain ⟨m', rfl⟩ : ∃ m' : Nat, mv = m' := ⟨mv.toNat, by omega⟩
          obtain ⟨j', rfl⟩ : ∃ j' : Nat, jv = j' := ⟨jv.toNat, by omega⟩
          have hm' : m' < K := by omega
          have hj' : j' < N := by omega
          clear t1 t3
          go_quiet (fail)
          go_wp2_with fail
          refine (HT1.out _ (HRD.out.drewN _)).mono ?_
          rintro e w5 ⟨rfl, b5⟩
          have b5' : Below u3.heap.size u3 w5 := (dr_below ⟨nq, rfl⟩ _).trans b5
          have O5 : OwnR B (.slice (some ⟨g, 0, none⟩) K cap) K G C (ZM N M') w5 := HO3.out.below b5'
          have ON5 : Only (Rws K G) u2 w5 := HONA.out.trans (only_below b5' _)
          have R5 : RdS w5 (some ⟨b, o, none⟩) ss := HRD.out.below b5'
          have k0 := (KB.out w5 b5' 0).trans k0a
          have k1 := (KB.out w5 b5' 1).trans k1a
          have k2 := (KB.out w5 b5' 2).trans k2a
          have cg := O5.cellM m' hm'
          have cv := O5.atM m' j' hm' hj'
          have HO5 := Lib.hid O5; have HON5 := Lib.hid ON5; have HR5 := Lib.hid R5
          have HLT := Lib.hid hlt
          clear b5 b5' k0a k1a k2a y0 y1 HT1 O5 ON5 KB HRD HO3 HONA HZ3
          have HNB : Hid (∀ y, Nb K N k i (q + 1) y → Nb K N k i q y ∨ y = m' * N + j') := Lib.hid (fun y hy => nb_one HMV.out HJV.out hy)
          have HED := Lib.hid (nb_edge (ss := ss) HM.out hk hi hm' hj' hlt HMV.out HJV.out)
          generalize hyy : M' (m' * N + j') = yv at *
          by_cases hy : 0 ≤ yv
          · have HF2 := Lib.hid (filling_mono (filling_skip (y := m' * N + j') HF.out (fun _ => by rw [hyy]; exact hy)) (fun y h => HNB.out y h))
            clear hyy
            have ON5 := HON5.out; have O5 := HO5.out
            go_wp2
            go_roundw
            case rel => exact ⟨q + 1, M', cn, by omega, by go_num, rfl, O5, HF2, ON5⟩
            case measure => simp [intOf]; try omega
          · have hy1 : decide (0 ≤ yv) = false := decide_eq_false hy
            have HYY := Lib.hid hyy; have HYN : Hid (yv < 0) := Lib.hid (by omega)
            clear hy hyy
            have zk := HS.out k (by rw [HK.out]; exact hk)
            have zm := HS.out m' (by rw [HK.out]; exact hm')
            by_cases hmk : m' = k
            · have q1 : ((m' : Int) == (k : Int)) = true := beq_iff_eq.2 (by omega)
              have q2 : (m' == k) = true := beq_iff_eq.2 hmk
              have q3 : ((m' : Int) != (k : Int)) = false := by rw [bne, q1]; rfl
              have q4 : (m' != k) = false := by rw [bne, q2]; rfl
              have q5 : (j' : Int) < ((sel ss k).size : Int) := by omega
              have q6 : (i : Int) < ((sel ss k).size : Int) := by omega
              have q5n : j' < (sel ss k).size := by omega
              have q6n : i < (sel ss k).size := by omega
              by_cases hl : byt (sel ss k) j' = byt (sel ss k) i
              · have HS1 : Hid (nbS ss k i m' j' = true) := Lib.hid (by unfold nbS; rw [if_pos hmk]; exact decide_eq_true hl)
                have x12 : (((sel ss k)[j'].toNat : Int) == ((sel ss k)[i].toNat : Int)) = true := by rw [byt_get _ j' q5n, byt_get _ i q6n] at hl; rw [hl]; simp
                clear hl
                have HMK := Lib.hid hmk; clear hmk
                go_wp2
                go_quiet (fail)
                go_wp2_with fail
                have hu2 : unm M' m ≤ n := by
                  have h1 := unm_lt (M := M) (M' := M') HF.out.up HNEG.out (by rw [HF.out.2.2.1]; omega) m htm.out
                  have h2 := HU.out
                  omega
                have HR6 := HR5.out.below (dr_below ⟨nq, rfl⟩ _)
                have HO6 := HO5.out.below (dr_below ⟨nq, rfl⟩ _)
                refine (HIH.out M' m' j' _ HR6 HO6 hm' hj' (by rw [HYY.out]; exact HYN.out) hu2).mono ?_
                rintro e w7 ⟨M2, c2, rfl, o7, f7, on7⟩
                have hF7 := filling_call (by omega) HF.out (HED.out.2 HS1.out) (by rw [HYY.out]; exact HYN.out) f7
                have hcl := hF7.cle
                have HF7 := Lib.hid (filling_mono hF7 (fun y h => HNB.out y h))
                have ON7 : Only (Rws K G) u2 w7 := (HON5.out.drewN nq).trans on7
                have e9 : IntKind.i64.wrap ((cn : Int) + (c2 : Int)) = ((cn + c2 : Nat) : Int) := by rw [← Int.natCast_add]; exact IntWalk.i64_in _ (by omega)
                clear f7 on7 hF7 HR6 HO6 k0 k1 k2 cg cv
                go_wp2
                go_roundw
                case rel => exact ⟨q + 1, M2, cn + c2, by omega, by go_num, by first | rfl | (go_num), o7, HF7, ON7⟩
                case measure => simp [intOf]; try omega
              · have HS1 : Hid (nbS ss k i m' j' = false) := Lib.hid (by unfold nbS; rw [if_pos hmk]; exact decide_eq_false hl)
                have x12 : (((sel ss k)[j'].toNat : Int) == ((sel ss k)[i].toNat : Int)) = false := by rw [byt_get _ j' q5n, byt_get _ i q6n] at hl; rw [int_beq]; exact decide_eq_false (fun h => hl (UInt8.toNat_inj.1 h))
                clear hl
                have HMK := Lib.hid hmk; clear hmk
                have HF2 := Lib.hid (filling_mono (filling_skip (y := m' * N + j') HF.out (fun h => by have := HED.out.1 h; rw [HS1.out] at this; cases this)) (fun y h => HNB.out y h))
                go_wp2
                go_quiet (fail)
                have O5 := HO5.out.below (dr_below ⟨nq, rfl⟩ _)
                have ON5 := HON5.out.drewN nq
                go_wp2
                go_roundw
                case rel => exact ⟨q + 1, M', cn, by omega, by go_num, rfl, O5, HF2, ON5⟩
                case measure => simp [intOf]; try omega
            · have q1 : ((m' : Int) == (k : Int)) = false := beq_eq_false_iff_ne.2 (by omega)
              have q2 : (m' == k) = false := beq_eq_false_iff_ne.2 hmk
              have q3 : ((m' : Int) != (k : Int)) = true := by rw [bne, q1]; rfl
              have q4 : (m' != k) = true := by rw [bne, q2]; rfl
              have g1 := rdc HR5.out (show m' < ss.length by rw [HK.out]; exact hm')
              have HST : Hid (∀ v : World, Calls Try.prog 81 #[.string (sel ss k), .string (sel ss m'), .int .i64 i] v fun e w' => e = .returned (.bool (nbS ss k i m' j')) ∧ ∃ n, w' = v.drewN n) := Lib.hid (fun v => by
                have h := isSameStepC (sel ss k) (sel ss m') i (by omega) (by omega) (by unfold maxLen; omega) (by unfold maxLen; omega) (by omega) v
                have e : nbS ss k i m' j' = sameV (sel ss k) (sel ss m') i := by unfold nbS; rw [if_neg hmk]
                rwa [← e] at h)
              clear hmk
              generalize hsb : nbS ss k i m' j' = sb at HST
              cases sb with
              | true =>
                have HS1 := Lib.hid hsb; clear hsb
                go_wp2
                go_quiet ((go_at_call 81; with_reducible exact Calls.quiet_of (HST.out _)))
                go_wp2_with fail
                have hu2 : unm M' m ≤ n := by
                  have h1 := unm_lt (M := M) (M' := M') HF.out.up HNEG.out (by rw [HF.out.2.2.1]; omega) m htm.out
                  have h2 := HU.out
                  omega
                have HR6 := HR5.out.below (dr_below ⟨nq, rfl⟩ _)
                have HO6 := HO5.out.below (dr_below ⟨nq, rfl⟩ _)
                refine (HIH.out M' m' j' _ HR6 HO6 hm' hj' (by rw [HYY.out]; exact HYN.out) hu2).mono ?_
                rintro e w7 ⟨M2, c2, rfl, o7, f7, on7⟩
                have hF7 := filling_call (by omega) HF.out (HED.out.2 HS1.out) (by rw [HYY.out]; exact HYN.out) f7
                have hcl := hF7.cle
                have HF7 := Lib.hid (filling_mono hF7 (fun y h => HNB.out y h))
                have ON7 : Only (Rws K G) u2 w7 := (HON5.out.drewN nq).trans on7
                have e9 : IntKind.i64.wrap ((cn : Int) + (c2 : Int)) = ((cn + c2 : Nat) : Int) := by rw [← Int.natCast_add]; exact IntWalk.i64_in _ (by omega)
                clear f7 on7 hF7 HR6 HO6 k0 k1 k2 cg cv
                go_wp2
                go_roundw
                case rel => exact ⟨q + 1, M2, cn + c2, by omega, by go_num, by first | rfl | (go_num), o7, HF7, ON7⟩
                case measure => simp [intOf]; try omega
              | false =>
                have HS1 := Lib.hid hsb; clear hsb
                have HF2 := Lib.hid (filling_mono (filling_skip (y := m' * N + j') HF.out (fun h => by have := HED.out.1 h; rw [HS1.out] at this; cases this)) (fun y h => HNB.out y h))
                go_wp2
                go_quiet ((go_at_call 81; with_reducible exact Calls.quiet_of (HST.out _)))
                have O5 := HO5.out.below (dr_below ⟨nq, rfl⟩ _)
                have ON5 := HON5.out.drewN nq
                go_wp2
                go_roundw
                case rel => exact ⟨q + 1, M', cn, by omega, by go_num, rfl, O5, HF2, ON5⟩
                case measure => simp [intOf]; try omega
      · have hq4 : q = 4 := by omega
        have e1 : decide ((q : Int) < 4) = false := decide_eq_false (by omega)
        have e1n : decide (q < 4) = false := decide_eq_false hlt
        have HFD : Hid (Filled (Ed ss N m) m M (k * N + i) face M' cn) := Lib.hid (filling_done (by rw [hq4] at HF; exact HF.out) (fun y h => nb_all HM.out hk hi h))
        have HONF := Lib.hid (HON2.out.trans hon)
        clear hq4 hlt k0' k1' k2'
        go_wp2
        go_ret
        exact ⟨M', cn, rfl, ho, HFD.out, HONF.out⟩
end Go.Proofs.Ytmpbhhggbmjfcaa
