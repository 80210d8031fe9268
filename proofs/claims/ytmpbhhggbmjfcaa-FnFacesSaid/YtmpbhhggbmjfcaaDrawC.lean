/- Contracts of l05Card, DrawCard, at. -/
import Derived.Test.YtmpbhhggbmjfcaaDrawS
import Derived.Test.YtmpbhhggbmjfcaaStripsL
import Derived.Test.YtmpbhhggbmjfcaaPlain
import Derived.Test.YtmpbhhggbmjfcaaOwnR
import Derived.Test.YtmpbhhggbmjfcaaCardIn
import Derived.OwnWalk
namespace Go.Proofs.Ytmpbhhggbmjfcaa
open Go.RowKit
set_option linter.unusedVariables false
set_option linter.unusedSimpArgs false
set_option maxRecDepth 20000

theorem Cur.below {B : Nat} {a : Option Addr} {n cap g : Nat} {w w' : World} (h : Cur B a n cap g w) (hb : Below w.heap.size w w') : Cur B a n cap g w' := by
  obtain ⟨hle, hsz, hrd, i, x, hi, hblk⟩ := h
  have hlt : g < w.heap.size := (Array.getElem?_eq_some_iff.1 hblk).1
  exact ⟨hle, hsz, hrd.old (hb.mono (by omega)), i, x, hi, (hb.block g hlt).trans hblk⟩
theorem Cur.lt {B : Nat} {a : Option Addr} {n cap g : Nat} {w : World} (h : Cur B a n cap g w) : g < w.heap.size := by
  obtain ⟨_, _, _, i, x, hi, hblk⟩ := h
  exact (Array.getElem?_eq_some_iff.1 hblk).1
theorem Cur.only {S : Nat → Prop} {B : Nat} {a : Option Addr} {n cap g : Nat} {w w' : World} (h : Cur B a n cap g w) (hb : Only S w w') (hs : ∀ k, k ≤ g → ¬ S k) : Cur B a n cap g w' := by
  have hlt := h.lt
  obtain ⟨hle, hsz, hrd, i, x, hi, hblk⟩ := h
  exact ⟨hle, hsz, hrd.old (hb.toBelow (by omega) (fun k hk => hs k (by omega))), i, x, hi, (hb.block g hlt (hs g (Nat.le_refl _))).trans hblk⟩
theorem OwnS.gr {B g : Nat} {v : Value} {ss : List ByteArray} {w w' : World} (h : OwnS B v ss w) (hg : w.grownBy w' (some g)) (hb : g < B) : OwnS B v ss w' :=
  own_only h (only_grown hg (S := fun k => k = g) (fun k e => (Option.some.inj e).symm)) (fun k e e2 => by have := (h.lt k e).1; omega)
theorem OwnS.snoc {B k g cap : Nat} {s : ByteArray} {ss : List ByteArray} {w : World} (hk : ss.length = k) (h : w.ownsRow B 9 1 (.slice (some ⟨g, 0, none⟩) (k + 1) cap) (k + 1) (strCells ss ++ [.string s])) : OwnS B (.slice (some ⟨g, 0, none⟩) (k + 1) cap) (ss ++ [s]) w := by
  unfold OwnS
  subst hk
  have : strCells (ss ++ [s]) = strCells ss ++ [.string s] := by simp [strCells]
  rw [this, List.length_append]; exact h
theorem sel_app {ss : List ByteArray} {s : ByteArray} {j : Nat} (h : j < ss.length + 1) : sel (ss ++ [s]) j = if j = ss.length then s else sel ss j := by
  unfold sel
  by_cases e : j = ss.length
  · rw [if_pos e, List.getD_eq_getElem?_getD, List.getElem?_append_right (by omega)]; subst e; simp
  · rw [if_neg e, List.getD_eq_getElem?_getD, List.getD_eq_getElem?_getD, List.getElem?_append_left (by omega)]
theorem fits_snoc {d f : Int} {ss : List ByteArray} {s : ByteArray} (h : ∀ j, j < ss.length → fits d f (sel ss j) = true) (hs : fits d f s = true) : ∀ j, j < (ss ++ [s]).length → fits d f (sel (ss ++ [s]) j) = true := fun j hj => by
  rw [List.length_append] at hj
  rw [sel_app (by simpa using hj)]
  by_cases e : j = ss.length
  · rw [if_pos e]; exact hs
  · rw [if_neg e]; exact h j (by simp at hj; omega)
theorem fits_of {d f : Nat} {s : ByteArray} (h1 : cD s.data.toList = d) (h2 : cF s.data.toList = f) (h3 : s.size = d + f) (hd : 1 ≤ d ∧ d ≤ 8) (hf : 1 ≤ f ∧ f ≤ 8) : fits (d : Int) (f : Int) s = true := by
  have hst : strip s.data.toList = true := strip_mk (by rw [h1, h2, size_len, h3]) (by omega) (by omega) (by omega) (by omega)
  exact (fits_iff _ _ _).2 ⟨by rw [downV_yes hst, h1], by rw [fwdV_yes hst, h2]⟩
def SG (g N k : Nat) : Prop := k = g ∨ N ≤ k
set_option maxHeartbeats 6400000 in
theorem l05Card_any (B : Nat) (a : Option Addr) (n cap g : Nat) (w : World) (hc : Cur B a n cap g w) :
    Calls Try.prog 79 #[.pointer (some ⟨g, 0, none⟩)] w fun e w' => ∃ (d f : Nat) (p : Option Addr) (q : Nat) (ss : List ByteArray), e = .returned (.agg #[.int .i64 d, .int .i64 f, .slice p ss.length q]) ∧ okC (d : Int) (f : Int) ss = true ∧ OwnS w.heap.size (.slice p ss.length q) ss w' ∧ Only (fun k => k = g) w w' := by
  obtain ⟨i0, hi, hz0, hz1, hz2⟩ := info_parts Try.info9s
  have hgw := hc.lt
  have HC0 := Lib.hid hc; clear hc
  go_enter Try.func79, Try.ntmps79
  go_wp2_with fail
  refine (l01Below_pos B a n cap g _ (by omega) (by omega) _ (HC0.out.below ((Below.refl _ _).alloc (Nat.le_refl _) _))).mono ?_
  rintro e w1 ⟨x, rfl, x0, x1, hc1, gr1⟩
  have A1 := Lib.hid ((Blk.new w (.int .i64 0) (.int .i64 0) (.slice none 0 0)).grown gr1 (fun e => by have := Option.some.inj e; omega))
  have ON1 : Hid (Only (SG g w.heap.size) w w1) := Lib.hid ((only_alloc _ _ _).trans (only_grown gr1 (fun k e => .inl (Option.some.inj e).symm)))
  have HC1 := Lib.hid hc1
  have hs1 : w.heap.size + 1 ≤ w1.heap.size := by have := gr1.size; simpa using this
  clear hc1 gr1
  go_wp2_with fail
  refine (l01Below_pos B a n cap g _ (by omega) (by omega) _ HC1.out).mono ?_
  rintro e w2 ⟨y, rfl, y0, y1, hc2, gr2⟩
  have A2 := Lib.hid (A1.out.grown gr2 (fun e => by have := Option.some.inj e; omega))
  have ON2 : Hid (Only (SG g w.heap.size) w w2) := Lib.hid (ON1.out.trans (only_grown gr2 (fun k e => .inl (Option.some.inj e).symm)))
  have HC2 := Lib.hid hc2
  have hs2 : w.heap.size + 1 ≤ w2.heap.size := Nat.le_trans hs1 gr2.size
  clear hc2 gr2
  obtain ⟨d, hd⟩ : ∃ d : Nat, 1 + x = (d : Int) := ⟨(1 + x).toNat, by omega⟩
  obtain ⟨f, hf⟩ : ∃ f : Nat, 1 + y = (f : Int) := ⟨(1 + y).toNat, by omega⟩
  have e1 : IntKind.i64.wrap (1 + x) = (d : Int) := by rw [hd]; exact IntWalk.i64_in _ (by omega)
  have e2 : IntKind.i64.wrap (1 + y) = (f : Int) := by rw [hf]; exact IntWalk.i64_in _ (by omega)
  have d1 : 1 ≤ d ∧ d ≤ 8 := by omega
  have f1 : 1 ≤ f ∧ f ≤ 8 := by omega
  obtain ⟨bo, hbo⟩ : ∃ bo, w2.heap.size = bo := ⟨_, rfl⟩
  have B2 := Lib.hid (Blk.new' hbo.symm (.int .i64 d) (.int .i64 f) (.slice none 0 0))
  have A3 := Lib.hid (A2.out.alloc (.cells #[.int .i64 d, .int .i64 f, .slice none 0 0] 34))
  have ON3 := Lib.hid (ON2.out.trans (only_alloc w2 (.cells #[.int .i64 d, .int .i64 f, .slice none 0 0] 34) _))
  have HC3 := Lib.hid (HC2.out.below ((Below.refl _ _).alloc (Nat.le_refl _) (.cells #[.int .i64 d, .int .i64 f, .slice none 0 0] 34)))
  go_wp2_with fail
  refine (l01Below_pos B a n cap g _ (by omega) (by omega) _ HC3.out).mono ?_
  rintro e w3 ⟨z, rfl, z0, z1, hc4, gr4⟩
  have A4 := Lib.hid (A3.out.grown gr4 (fun e => by have := Option.some.inj e; omega))
  have B4 := Lib.hid (B2.out.grown gr4 (fun e => by have := Option.some.inj e; omega))
  have ON4 : Hid (Only (SG g w.heap.size) w w3) := Lib.hid (ON3.out.trans (only_grown gr4 (fun k e => .inl (Option.some.inj e).symm)))
  have HC4 := Lib.hid hc4
  obtain ⟨N, hN⟩ : ∃ N : Nat, 1 + z = (N : Int) := ⟨(1 + z).toNat, by omega⟩
  have e3 : IntKind.i64.wrap (1 + z) = (N : Int) := by rw [hN]; exact IntWalk.i64_in _ (by omega)
  have N1 : 1 ≤ N ∧ N ≤ 6 := by omega
  have hbw : w.heap.size < bo := by omega
  clear hc4 gr4 x0 x1 y0 y1 z0 z1 A1 A2 A3 ON1 ON2 ON3 HC1 HC2 HC3 B2 hs1 hs2
  go_wp2
  clear hbo
  go_loopw [5] (fun kv wr => ∃ (k : Nat) (v : Value) (ss : List ByteArray), k ≤ N ∧ kv = .int .i64 k ∧ Hid (ss.length = k) ∧ Blk wr w.heap.size (.int .i64 0) (.int .i64 0) (.slice none 0 0) ∧ Blk wr bo (.int .i64 d) (.int .i64 f) v ∧ OwnS (bo + 1) v ss wr ∧ Hid (∀ j, j < k → fits (d : Int) (f : Int) (sel ss j) = true) ∧ Hid (Cur B a n cap g wr) ∧ Hid (Only (SG g w.heap.size) w wr)) (fun kv _ => N - (intOf kv).toNat)
  case atStart => exact ⟨0, _, [], Nat.zero_le _, rfl, Lib.hid rfl, A4.out, B4.out, World.ownsRow_nil _ _ _ _, Lib.hid (fun j hj => by omega), HC4, ON4⟩
  case round =>
    clear A4 B4 ON4 HC4 e1 e2 e3
    obtain ⟨k, v, ss, hk, rfl, hk0, hA, hB, how, HF, HC, HON⟩ := hrel
    by_cases hlt : k < N
    · have t1 : (k : Int) < (N : Int) := by omega
      have q0 := hB.c0; have q1 := hB.c1
      have HA := Lib.hid hA; have HBK := Lib.hid hB; have HOW := Lib.hid how
      clear hA hB how
      go_wp2_with fail
      refine (l02Draw_any B a n cap g d f d1.2 f1.2 _ HC.out).mono ?_
      rintro e w4 ⟨s, rfl, s1, s2, s3, hc5, gr5⟩
      have HFS := Lib.hid (fits_of s1 s2 s3 d1 f1)
      have HA := Lib.hid (HA.out.grown gr5 (fun e => by have := Option.some.inj e; omega))
      have HBK := Lib.hid (HBK.out.grown gr5 (fun e => by have := Option.some.inj e; omega))
      have HOW := Lib.hid (HOW.out.gr gr5 (by omega))
      have HON := Lib.hid (HON.out.trans (only_grown gr5 (fun k e => .inl (Option.some.inj e).symm)))
      have HC := Lib.hid hc5
      clear s1 s2 s3 hc5 gr5 q0 q1
      go_wp2_with fail
      refine (l01Below_pos B a n cap g _ (by omega) (by omega) _ HC.out).mono ?_
      rintro e w5 ⟨x, rfl, x0, x1, hc6, gr6⟩
      have HA := Lib.hid (HA.out.grown gr6 (fun e => by have := Option.some.inj e; omega))
      have HBK := Lib.hid (HBK.out.grown gr6 (fun e => by have := Option.some.inj e; omega))
      have HOW := Lib.hid (HOW.out.gr gr6 (by omega))
      have HON := Lib.hid (HON.out.trans (only_grown gr6 (fun k e => .inl (Option.some.inj e).symm)))
      have HC := Lib.hid hc6
      clear hc6 gr6
      by_cases hx0 : x = 0
      · have u1 : (x == 0) = true := beq_iff_eq.2 hx0
        clear hx0 x0 x1
        have q0 := HBK.out.c0; have q1 := HBK.out.c1
        go_wp2_with fail
        refine (specFlatStrip_yes d f d1.1 d1.2 f1.1 f1.2 _).mono ?_
        rintro e w6 ⟨rfl, b6⟩
        have HFS := Lib.hid (fits_of (flat_cnt d f).1 (flat_cnt d f).2.1 (flat_cnt d f).2.2 d1 f1)
        have HA := Lib.hid (HA.out.below b6); have HBK := Lib.hid (HBK.out.below b6); have HOW := Lib.hid (OwnS.below HOW.out b6)
        have HON := Lib.hid (HON.out.trans (only_below b6 _)); have HC := Lib.hid (HC.out.below b6)
        clear b6 q0 q1
        have hn1 : k + 1 ≤ maxLen := by unfold maxLen; omega
        have hn2 : (k + 1) * 16 ≤ 140737488355328 := by omega
        have hsz : bo + 1 ≤ w6.heap.size := HBK.out.lt
        have hown' : w6.ownsRow (bo + 1) 9 1 v k (strCells ss) := by have h := HOW.out; unfold OwnS at h; rw [hk0.out] at h; exact h
        have q2 := HBK.out.c2
        go_wp2_with (at_builtin; refine wpList_app1 rfl _ _ 29 rfl (bo + 1) 9 i0 (.string ByteArray.empty) 16 Try.underlying29 hi hz0 hz1 hz2 rfl _ _ _ rfl hown' _ rfl rfl hn1 hn2 hsz ?_; intro g2 cap2 w9 hown1 hg1; have hB2 := (HBK.out.alloc (.cells #[.string (flatS d f)] 9)).grown hg1 (own_ne hown' (by omega)); have y2 := hB2.c2; have y3 := hB2.fz 2)
        have O2 := ownsRow_setCell_below (OwnS.snoc hk0.out hown1) (a := ⟨bo, 2, none⟩) (by simp) (.slice (some ⟨g2, 0, none⟩) (k + 1) cap2)
        have A2 := ((HA.out.alloc (.cells #[.string (flatS d f)] 9)).grown hg1 (own_ne hown' (by omega))).other (a := ⟨bo, 2, none⟩) (by simp; omega) (.slice (some ⟨g2, 0, none⟩) (k + 1) cap2)
        have B3 := hB2.set2 (.slice (some ⟨g2, 0, none⟩) (k + 1) cap2)
        have N2 : Only (SG g w.heap.size) w (w9.setCell ⟨bo, 2, none⟩ (.slice (some ⟨g2, 0, none⟩) (k + 1) cap2)) := ((HON.out.trans (only_alloc _ _ _)).trans (only_grown hg1 (fun x e => .inr (by have := (hown'.lt x e).1; omega)))).trans (only_set _ _ _ _ (.inr (by omega)))
        have C2 : Cur B a n cap g (w9.setCell ⟨bo, 2, none⟩ (.slice (some ⟨g2, 0, none⟩) (k + 1) cap2)) := HC.out.only (S := fun x => bo ≤ x) (((only_alloc _ _ _).trans (only_grown hg1 (fun x e => by have := (hown'.lt x e).1; omega))).trans (only_set _ _ _ _ (Nat.le_refl bo))) (fun x h1 h2 => by omega)
        have F2 := Lib.hid (fits_snoc (fun j hj => HF.out j (by rw [← hk0.out]; exact hj)) HFS.out)
        have L2 : Hid ((ss ++ [(flatS d f)]).length = k + 1) := Lib.hid (by rw [List.length_append, hk0.out]; rfl)
        clear hown1 hg1 hown' hB2 y2 y3 q2
        go_wp2
        go_roundw
        case rel => exact ⟨k + 1, _, ss ++ [(flatS d f)], by omega, by go_num, L2, A2, B3, O2, Lib.hid (by have := F2.out; rw [L2.out] at this; exact this), Lib.hid C2, Lib.hid N2⟩
        case measure => simp [intOf]; omega
      · have u1 : (x == 0) = false := beq_eq_false_iff_ne.2 hx0
        by_cases hx1 : x = 1
        · have u2 : (x == 1) = true := beq_iff_eq.2 hx1
          clear hx0 hx1 x0 x1
          by_cases hkp : 0 < k
          · have u3 : (0 : Int) < (k : Int) := by omega
            obtain ⟨k', hkk⟩ : ∃ k', k = k' + 1 := ⟨k - 1, by omega⟩
            have u4 : IntKind.i64.wrap ((k : Int) - 1) = (k' : Int) := by rw [show (k : Int) - 1 = (k' : Int) from by omega]; exact IntWalk.i64_in _ (by omega)
            obtain ⟨p, c', hv, hrd⟩ := HOW.out.read
            rw [hk0.out] at hv
            subst hv
            rcases hrd with h | ⟨b', o', hp, _, _, hcc⟩
            · have := hk0.out; rw [h] at this; simp at this; omega
            subst hp
            have cc := hcc k' (by rw [hk0.out]; omega)
            have u5 : (k' : Int) < (k : Int) := by omega
            have q2 := HBK.out.c2
            have HFS := Lib.hid (HF.out k' (by omega))
            clear hcc hkp hkk
            have hn1 : k + 1 ≤ maxLen := by unfold maxLen; omega
            have hn2 : (k + 1) * 16 ≤ 140737488355328 := by omega
            have hsz : bo + 1 ≤ w5.heap.size := HBK.out.lt
            have hown' : w5.ownsRow (bo + 1) 9 1 (.slice (some ⟨b', o', none⟩) k c') k (strCells ss) := by have h := HOW.out; unfold OwnS at h; rw [hk0.out] at h; exact h
            have q2 := HBK.out.c2
            go_wp2_with (at_builtin; refine wpList_app1 rfl _ _ 29 rfl (bo + 1) 9 i0 (.string ByteArray.empty) 16 Try.underlying29 hi hz0 hz1 hz2 rfl _ _ _ rfl hown' _ rfl rfl hn1 hn2 hsz ?_; intro g2 cap2 w9 hown1 hg1; have hB2 := (HBK.out.alloc (.cells #[.string (sel ss k')] 9)).grown hg1 (own_ne hown' (by omega)); have y2 := hB2.c2; have y3 := hB2.fz 2)
            have O2 := ownsRow_setCell_below (OwnS.snoc hk0.out hown1) (a := ⟨bo, 2, none⟩) (by simp) (.slice (some ⟨g2, 0, none⟩) (k + 1) cap2)
            have A2 := ((HA.out.alloc (.cells #[.string (sel ss k')] 9)).grown hg1 (own_ne hown' (by omega))).other (a := ⟨bo, 2, none⟩) (by simp; omega) (.slice (some ⟨g2, 0, none⟩) (k + 1) cap2)
            have B3 := hB2.set2 (.slice (some ⟨g2, 0, none⟩) (k + 1) cap2)
            have N2 : Only (SG g w.heap.size) w (w9.setCell ⟨bo, 2, none⟩ (.slice (some ⟨g2, 0, none⟩) (k + 1) cap2)) := ((HON.out.trans (only_alloc _ _ _)).trans (only_grown hg1 (fun x e => .inr (by have := (hown'.lt x e).1; omega)))).trans (only_set _ _ _ _ (.inr (by omega)))
            have C2 : Cur B a n cap g (w9.setCell ⟨bo, 2, none⟩ (.slice (some ⟨g2, 0, none⟩) (k + 1) cap2)) := HC.out.only (S := fun x => bo ≤ x) (((only_alloc _ _ _).trans (only_grown hg1 (fun x e => by have := (hown'.lt x e).1; omega))).trans (only_set _ _ _ _ (Nat.le_refl bo))) (fun x h1 h2 => by omega)
            have F2 := Lib.hid (fits_snoc (fun j hj => HF.out j (by rw [← hk0.out]; exact hj)) HFS.out)
            have L2 : Hid ((ss ++ [(sel ss k')]).length = k + 1) := Lib.hid (by rw [List.length_append, hk0.out]; rfl)
            clear hown1 hg1 hown' hB2 y2 y3 q2
            go_wp2
            go_roundw
            case rel => exact ⟨k + 1, _, ss ++ [(sel ss k')], by omega, by go_num, L2, A2, B3, O2, Lib.hid (by have := F2.out; rw [L2.out] at this; exact this), Lib.hid C2, Lib.hid N2⟩
            case measure => simp [intOf]; omega
          · have u3 : decide ((0 : Int) < (k : Int)) = false := decide_eq_false (by omega)
            have u3n : decide (0 < k) = false := decide_eq_false hkp
            have hn1 : k + 1 ≤ maxLen := by unfold maxLen; omega
            have hn2 : (k + 1) * 16 ≤ 140737488355328 := by omega
            have hsz : bo + 1 ≤ w5.heap.size := HBK.out.lt
            have hown' : w5.ownsRow (bo + 1) 9 1 v k (strCells ss) := by have h := HOW.out; unfold OwnS at h; rw [hk0.out] at h; exact h
            have q2 := HBK.out.c2
            go_wp2_with (at_builtin; refine wpList_app1 rfl _ _ 29 rfl (bo + 1) 9 i0 (.string ByteArray.empty) 16 Try.underlying29 hi hz0 hz1 hz2 rfl _ _ _ rfl hown' _ rfl rfl hn1 hn2 hsz ?_; intro g2 cap2 w9 hown1 hg1; have hB2 := (HBK.out.alloc (.cells #[.string s] 9)).grown hg1 (own_ne hown' (by omega)); have y2 := hB2.c2; have y3 := hB2.fz 2)
            have O2 := ownsRow_setCell_below (OwnS.snoc hk0.out hown1) (a := ⟨bo, 2, none⟩) (by simp) (.slice (some ⟨g2, 0, none⟩) (k + 1) cap2)
            have A2 := ((HA.out.alloc (.cells #[.string s] 9)).grown hg1 (own_ne hown' (by omega))).other (a := ⟨bo, 2, none⟩) (by simp; omega) (.slice (some ⟨g2, 0, none⟩) (k + 1) cap2)
            have B3 := hB2.set2 (.slice (some ⟨g2, 0, none⟩) (k + 1) cap2)
            have N2 : Only (SG g w.heap.size) w (w9.setCell ⟨bo, 2, none⟩ (.slice (some ⟨g2, 0, none⟩) (k + 1) cap2)) := ((HON.out.trans (only_alloc _ _ _)).trans (only_grown hg1 (fun x e => .inr (by have := (hown'.lt x e).1; omega)))).trans (only_set _ _ _ _ (.inr (by omega)))
            have C2 : Cur B a n cap g (w9.setCell ⟨bo, 2, none⟩ (.slice (some ⟨g2, 0, none⟩) (k + 1) cap2)) := HC.out.only (S := fun x => bo ≤ x) (((only_alloc _ _ _).trans (only_grown hg1 (fun x e => by have := (hown'.lt x e).1; omega))).trans (only_set _ _ _ _ (Nat.le_refl bo))) (fun x h1 h2 => by omega)
            have F2 := Lib.hid (fits_snoc (fun j hj => HF.out j (by rw [← hk0.out]; exact hj)) HFS.out)
            have L2 : Hid ((ss ++ [s]).length = k + 1) := Lib.hid (by rw [List.length_append, hk0.out]; rfl)
            clear hown1 hg1 hown' hB2 y2 y3 q2
            go_wp2
            go_roundw
            case rel => exact ⟨k + 1, _, ss ++ [s], by omega, by go_num, L2, A2, B3, O2, Lib.hid (by have := F2.out; rw [L2.out] at this; exact this), Lib.hid C2, Lib.hid N2⟩
            case measure => simp [intOf]; omega
        · have u2 : (x == 1) = false := beq_eq_false_iff_ne.2 hx1
          clear hx0 hx1 x0 x1
          have hn1 : k + 1 ≤ maxLen := by unfold maxLen; omega
          have hn2 : (k + 1) * 16 ≤ 140737488355328 := by omega
          have hsz : bo + 1 ≤ w5.heap.size := HBK.out.lt
          have hown' : w5.ownsRow (bo + 1) 9 1 v k (strCells ss) := by have h := HOW.out; unfold OwnS at h; rw [hk0.out] at h; exact h
          have q2 := HBK.out.c2
          go_wp2_with (at_builtin; refine wpList_app1 rfl _ _ 29 rfl (bo + 1) 9 i0 (.string ByteArray.empty) 16 Try.underlying29 hi hz0 hz1 hz2 rfl _ _ _ rfl hown' _ rfl rfl hn1 hn2 hsz ?_; intro g2 cap2 w9 hown1 hg1; have hB2 := (HBK.out.alloc (.cells #[.string s] 9)).grown hg1 (own_ne hown' (by omega)); have y2 := hB2.c2; have y3 := hB2.fz 2)
          have O2 := ownsRow_setCell_below (OwnS.snoc hk0.out hown1) (a := ⟨bo, 2, none⟩) (by simp) (.slice (some ⟨g2, 0, none⟩) (k + 1) cap2)
          have A2 := ((HA.out.alloc (.cells #[.string s] 9)).grown hg1 (own_ne hown' (by omega))).other (a := ⟨bo, 2, none⟩) (by simp; omega) (.slice (some ⟨g2, 0, none⟩) (k + 1) cap2)
          have B3 := hB2.set2 (.slice (some ⟨g2, 0, none⟩) (k + 1) cap2)
          have N2 : Only (SG g w.heap.size) w (w9.setCell ⟨bo, 2, none⟩ (.slice (some ⟨g2, 0, none⟩) (k + 1) cap2)) := ((HON.out.trans (only_alloc _ _ _)).trans (only_grown hg1 (fun x e => .inr (by have := (hown'.lt x e).1; omega)))).trans (only_set _ _ _ _ (.inr (by omega)))
          have C2 : Cur B a n cap g (w9.setCell ⟨bo, 2, none⟩ (.slice (some ⟨g2, 0, none⟩) (k + 1) cap2)) := HC.out.only (S := fun x => bo ≤ x) (((only_alloc _ _ _).trans (only_grown hg1 (fun x e => by have := (hown'.lt x e).1; omega))).trans (only_set _ _ _ _ (Nat.le_refl bo))) (fun x h1 h2 => by omega)
          have F2 := Lib.hid (fits_snoc (fun j hj => HF.out j (by rw [← hk0.out]; exact hj)) HFS.out)
          have L2 : Hid ((ss ++ [s]).length = k + 1) := Lib.hid (by rw [List.length_append, hk0.out]; rfl)
          clear hown1 hg1 hown' hB2 y2 y3 q2
          go_wp2
          go_roundw
          case rel => exact ⟨k + 1, _, ss ++ [s], by omega, by go_num, L2, A2, B3, O2, Lib.hid (by have := F2.out; rw [L2.out] at this; exact this), Lib.hid C2, Lib.hid N2⟩
          case measure => simp [intOf]; omega
    · have hkN : k = N := by omega
      have t1 : decide ((k : Int) < (N : Int)) = false := decide_eq_false (by omega)
      have t1n : decide (k < N) = false := decide_eq_false hlt
      obtain ⟨p, c', hv, _⟩ := how.read
      subst hv
      have HOK : Hid (okC (d : Int) (f : Int) ss = true) := Lib.hid (okC_mk ⟨by omega, by omega, by omega, by omega⟩ (by rw [hk0.out]; omega) (fun j hj => HF.out j (by rw [← hk0.out]; exact hj)))
      have c0 := hB.c0
      have c1 := hB.c1
      have c2 := hB.c2
      have j0 := hA.c0
      have j1 := hA.c1
      have j2 := hA.c2
      have m0 := hA.fz 0
      have m1 := hA.fz 1
      have m2 := hA.fz 2
      have l1 := hA.lt
      have l2 := hB.lt
      clear hkN hlt hk hA hB
      go_wp2
      refine bodyPost_ret (v := .agg #[.int .i64 d, .int .i64 f, .slice p ss.length c']) (by simp [results, Try.results79, go_sem, c0, c1, c2, j0, j1, j2, m0, m1, m2, l1, l2]) rfl ⟨d, f, p, c', ss, rfl, HOK.out, ?_, ?_⟩
      · exact World.ownsRow.mono (ownsRow_setCell_below (ownsRow_setCell_below (ownsRow_setCell_below how (by simp; try omega) _) (by simp; try omega) _) (by simp; try omega) _) (by omega)
      · exact Only.mono (((HON.out.trans (only_set _ _ _ _ (.inr (Nat.le_refl _)))).trans (only_set _ _ _ _ (.inr (Nat.le_refl _)))).trans (only_set _ _ _ _ (.inr (Nat.le_refl _)))) (fun k h1 h2 => by rcases h2 with h | h <;> omega)
end Go.Proofs.Ytmpbhhggbmjfcaa
