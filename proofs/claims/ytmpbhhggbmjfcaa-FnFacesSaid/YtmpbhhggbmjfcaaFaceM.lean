/- Labels of tiles as rows; what a flood keeps; the neighbours of a tile. -/
import Derived.Test.YtmpbhhggbmjfcaaFaceE
import Derived.Test.YtmpbhhggbmjfcaaOwnR
import Derived.Test.YtmpbhhggbmjfcaaCardIn
namespace Go.Proofs.Ytmpbhhggbmjfcaa
open Go.RowKit
set_option linter.unusedVariables false
set_option linter.unusedSimpArgs false

def ZM (N : Nat) (M : Nat → Int) (k : Nat) : List Int := (List.range N).map fun i => M (k * N + i)
theorem ZM_length (N : Nat) (M : Nat → Int) (k : Nat) : (ZM N M k).length = N := by simp [ZM]
theorem tile_inj {N k i j l : Nat} (hi : i < N) (hl : l < N) (h : k * N + i = j * N + l) : k = j ∧ i = l := by
  have hN : 0 < N := by omega
  have h1 : (k * N + i) / N = k := by rw [Nat.mul_comm, Nat.mul_add_div hN, Nat.div_eq_of_lt hi, Nat.add_zero]
  have h2 : (j * N + l) / N = j := by rw [Nat.mul_comm, Nat.mul_add_div hN, Nat.div_eq_of_lt hl, Nat.add_zero]
  have h3 : k = j := by rw [← h1, h, h2]
  subst h3; exact ⟨rfl, by omega⟩
theorem tile_div {N k i : Nat} (hi : i < N) : (k * N + i) / N = k ∧ (k * N + i) % N = i := by
  have hN : 0 < N := by omega
  exact ⟨by rw [Nat.mul_comm, Nat.mul_add_div hN, Nat.div_eq_of_lt hi, Nat.add_zero], by rw [Nat.mul_comm, Nat.mul_add_mod, Nat.mod_eq_of_lt hi]⟩
theorem tile_lt {N k i K : Nat} (hi : i < N) (hk : k < K) : k * N + i < K * N := by
  have h : (k + 1) * N ≤ K * N := Nat.mul_le_mul_right N hk
  rw [Nat.succ_mul] at h; omega
theorem ZM_set (N : Nat) (M : Nat → Int) {k i : Nat} (hi : i < N) (x : Int) (j : Nat) : upd (ZM N M) k ((ZM N M k).set i x) j = ZM N (upd M (k * N + i) x) j := by
  apply List.ext_getElem
  · by_cases e : j = k
    · subst e; rw [upd_same, List.length_set, ZM_length, ZM_length]
    · rw [upd_other _ _ e, ZM_length, ZM_length]
  · intro l h1 h2
    rw [ZM_length] at h2
    have hr : (ZM N (upd M (k * N + i) x) j)[l]'(by rw [ZM_length]; exact h2) = upd M (k * N + i) x (j * N + l) := by simp [ZM]
    rw [hr]
    by_cases e : j = k
    · subst e
      simp only [upd_same, List.getElem_set]
      by_cases e2 : i = l
      · subst e2; rw [if_pos rfl, upd_same]
      · rw [if_neg e2, show upd M (j * N + i) x (j * N + l) = M (j * N + l) from upd_other _ _ (by omega)]; simp [ZM]
    · simp only [upd_other _ _ e]
      rw [show upd M (k * N + i) x (j * N + l) = M (j * N + l) from upd_other _ _ (fun h => e (tile_inj h2 hi h).1)]; simp [ZM]
section
variable {B g cap K N : Nat} {G C : Nat → Nat} {M : Nat → Int} {w w' : World}
theorem OwnR.cellM (h : OwnR B (.slice (some ⟨g, 0, none⟩) K cap) K G C (ZM N M) w) (k : Nat) (hk : k < K) : w.cell? ⟨g, k, none⟩ = some (.slice (some ⟨G k, 0, none⟩) N (C k)) := by
  rw [h.cell k hk, ZM_length]
theorem OwnR.atM {v : Value} (h : OwnR B v K G C (ZM N M) w) (k i : Nat) (hk : k < K) (hi : i < N) : w.cell? ⟨G k, i, none⟩ = some (.int .i64 (M (k * N + i))) := by
  have := (h.row k hk).cell i (by rw [ZM_length]; exact hi)
  rw [this]; simp [ZM]
theorem OwnR.frM {v : Value} (h : OwnR B v K G C (ZM N M) w) (k i : Nat) (hk : k < K) : w.frozen? ⟨G k, i, none⟩ = false := (h.row k hk).frozen i
theorem OwnR.setM {v : Value} (h : OwnR B v K G C (ZM N M) w) {k i : Nat} (hk : k < K) (hi : i < N) (x : Int) : OwnR B v K G C (ZM N (upd M (k * N + i) x)) (w.setCell ⟨G k, i, none⟩ (.int .i64 x)) :=
  (h.setRow hk i x).congr (fun j _ => ZM_set N M hi x j)
theorem Only.cell {S : Nat → Prop} (h : Only S w w') {p : Addr} (hp : p.block < w.heap.size) (hs : ¬ S p.block) : w'.cell? p = w.cell? p := World.cell?_of_block (w := w) (h.block p.block hp hs)
theorem RdS.only {S : Nat → Prop} {b o : Nat} {ss : List ByteArray} (h : RdS w (some ⟨b, o, none⟩) ss) (hb : Only S w w') (hs : ¬ S b) : RdS w' (some ⟨b, o, none⟩) ss := by
  rcases h with h | ⟨b', o', e, hp, hl, hc⟩
  · exact .inl h
  · cases e
    exact .inr ⟨b, o, rfl, hp, Nat.lt_of_lt_of_le hl hb.size, fun j hj => (hb.cell (p := ⟨b, o + j, none⟩) hl hs).trans (hc j hj)⟩
end
theorem unm_pos {M : Nat → Int} {t : Nat} (h1 : M t < 0) : ∀ {m : Nat}, t < m → 0 < unm M m
  | 0, h => by omega
  | m + 1, h => by
    unfold unm
    by_cases e : t = m
    · subst e; rw [if_pos h1]; omega
    · have := unm_pos h1 (m := m) (by omega); omega
theorem lcnt_le (M : Nat → Int) (f : Int) : ∀ m, cnt M f m ≤ m
  | 0 => Nat.le_refl _
  | m + 1 => by have := lcnt_le M f m; unfold cnt; split <;> omega
theorem filling_mono {E : Nat → Nat → Prop} {m : Nat} {M M' : Nat → Int} {t c : Nat} {f : Int} {D D' : Nat → Prop} (h : Filling E m M t f D M' c) (hD : ∀ y, D' y → D y) : Filling E m M t f D' M' c := by
  obtain ⟨h1, h2, h3, h4, h5, h6⟩ := h
  exact ⟨h1, h2, h3, h4, fun y hy e => h5 y (hD y hy) e, h6⟩
theorem Filling.cle {E : Nat → Nat → Prop} {m : Nat} {M M' : Nat → Int} {t c : Nat} {f : Int} {D : Nat → Prop} (h : Filling E m M t f D M' c) : c ≤ m := by
  have := h.2.2.2.2.2.1
  have := lcnt_le M' f m
  omega
theorem Filled.cle {E : Nat → Nat → Prop} {m : Nat} {M M' : Nat → Int} {t c : Nat} {f : Int} (h : Filled E m M t f M' c) : c ≤ m := by
  have := h.2.2.2.2.1
  have := lcnt_le M' f m
  omega
/-- The q-th neighbour: its strip and its step. -/
def nbm (k q : Nat) : Int := if q = 2 then (k : Int) - 1 else if q = 3 then (k : Int) + 1 else k
def nbj (i q : Nat) : Int := if q = 0 then (i : Int) - 1 else if q = 1 then (i : Int) + 1 else i
/-- The tiles that the first q neighbours are. -/
def Nb (K N k i q y : Nat) : Prop := ∃ p, p < q ∧ ∃ m' j' : Nat, m' < K ∧ j' < N ∧ nbm k p = (m' : Int) ∧ nbj i p = (j' : Int) ∧ y = m' * N + j'
theorem nb_zero (K N k i y : Nat) (h : Nb K N k i 0 y) : False := by obtain ⟨p, hp, _⟩ := h; omega
theorem nb_no {K N k i q y : Nat} (hno : ¬ ((0 ≤ nbm k q ∧ nbm k q < K) ∧ (0 ≤ nbj i q ∧ nbj i q < N))) (h : Nb K N k i (q + 1) y) : Nb K N k i q y := by
  obtain ⟨p, hp, m', j', h1, h2, h3, h4, h5⟩ := h
  rcases Nat.lt_or_ge p q with h | h
  · exact ⟨p, h, m', j', h1, h2, h3, h4, h5⟩
  · obtain rfl : p = q := by omega
    exact absurd ⟨⟨by omega, by omega⟩, by omega, by omega⟩ hno
theorem nb_one {K N k i q y m' j' : Nat} (h3 : nbm k q = (m' : Int)) (h4 : nbj i q = (j' : Int)) (h : Nb K N k i (q + 1) y) : Nb K N k i q y ∨ y = m' * N + j' := by
  obtain ⟨p, hp, m2, j2, h1, h2, h5, h6, h7⟩ := h
  rcases Nat.lt_or_ge p q with h | h
  · exact .inl ⟨p, h, m2, j2, h1, h2, h5, h6, h7⟩
  · obtain rfl : p = q := by omega
    obtain rfl : m2 = m' := by omega
    obtain rfl : j2 = j' := by omega
    exact .inr h7
theorem nb_all {ss : List ByteArray} {K N m k i y : Nat} (hm : K * N = m) (hk : k < K) (hi : i < N) (h : Ed ss N m (k * N + i) y ∨ Ed ss N m y (k * N + i)) : Nb K N k i 4 y := by
  have ht := tile_lt hi hk
  have hN : 0 < N := by omega
  rcases h with (⟨h1, h2, h3, _⟩ | ⟨h1, h2, _⟩) | (⟨h1, h2, h3, _⟩ | ⟨h1, h2, _⟩)
  · -- y = t + 1, y not at the strip's start
    have hi1 : i + 1 < N := by
      rcases Nat.lt_or_ge (i + 1) N with h | h
      · exact h
      · exfalso
        have e : y = (k + 1) * N + 0 := by rw [Nat.succ_mul]; omega
        rw [e, (tile_div hN).2] at h3; omega
    exact ⟨1, by omega, k, i + 1, hk, hi1, rfl, by show ((i : Int) + 1) = _; omega, by omega⟩
  · have hk1 : k + 1 < K := by
      rcases Nat.lt_or_ge (k + 1) K with h | h
      · exact h
      · exfalso
        have : K * N ≤ (k + 1) * N := Nat.mul_le_mul_right N h
        rw [Nat.succ_mul] at this; omega
    exact ⟨3, by omega, k + 1, i, hk1, hi, by show ((k : Int) + 1) = _; omega, rfl, by rw [Nat.succ_mul]; omega⟩
  · rw [(tile_div hi).2] at h3
    exact ⟨0, by omega, k, i - 1, hk, by omega, rfl, by show ((i : Int) - 1) = _; omega, by omega⟩
  · have hk1 : 0 < k := by
      rcases Nat.eq_zero_or_pos k with h | h
      · exfalso; subst h; rw [Nat.zero_mul] at h2; omega
      · exact h
    obtain ⟨k', rfl⟩ : ∃ k', k = k' + 1 := ⟨k - 1, by omega⟩
    rw [Nat.succ_mul] at h2
    exact ⟨2, by omega, k', i, by omega, hi, by show (((k' + 1 : Nat) : Int) - 1) = _; omega, rfl, by omega⟩
/-- Whether a tile and its q-th neighbour belong together. -/
def nbS (ss : List ByteArray) (k i m' j' : Nat) : Bool := if m' = k then decide (byt (sel ss k) j' = byt (sel ss k) i) else sameV (sel ss k) (sel ss m') i
theorem sameV_symm (s t : ByteArray) (i : Nat) : sameV s t i = sameV t s i := by
  unfold sameV; congr 1 <;> exact decide_eq_decide.2 ⟨Eq.symm, Eq.symm⟩
theorem nb_edge {ss : List ByteArray} {K N m k i q m' j' : Nat} (hm : K * N = m) (hk : k < K) (hi : i < N) (hm' : m' < K) (hj' : j' < N) (hq : q < 4) (h3 : nbm k q = (m' : Int)) (h4 : nbj i q = (j' : Int)) :
    (Ed ss N m (k * N + i) (m' * N + j') ∨ Ed ss N m (m' * N + j') (k * N + i)) ↔ nbS ss k i m' j' = true := by
  have ht := tile_lt hi hk
  have hy := tile_lt hj' hm'
  rw [hm] at ht hy
  have hd := tile_div (N := N) (k := k) hi
  have hd' := tile_div (N := N) (k := m') hj'
  unfold nbS Ed E1 E2
  rw [hd.1, hd.2, hd'.1, hd'.2]
  have hq4 : q = 0 ∨ q = 1 ∨ q = 2 ∨ q = 3 := by omega
  rcases hq4 with rfl | rfl | rfl | rfl
  · obtain rfl : k = m' := by have : ((k : Nat) : Int) = m' := h3; omega
    obtain rfl : i = j' + 1 := by have : ((i : Int) - 1) = j' := h4; omega
    rw [if_pos rfl, decide_eq_true_iff, Nat.add_sub_cancel]
    constructor
    · rintro ((⟨_, h, _⟩ | ⟨_, h, _⟩) | (⟨_, _, _, h⟩ | ⟨_, h, _⟩))
      · omega
      · omega
      · exact h.symm
      · omega
    · intro h; exact .inr (.inl ⟨ht, by omega, by omega, h.symm⟩)
  · obtain rfl : k = m' := by have : ((k : Nat) : Int) = m' := h3; omega
    obtain rfl : j' = i + 1 := by have : ((i : Int) + 1) = j' := h4; omega
    rw [if_pos rfl, decide_eq_true_iff, Nat.add_sub_cancel]
    constructor
    · rintro ((⟨_, _, _, h⟩ | ⟨_, h, _⟩) | (⟨_, h, _⟩ | ⟨_, h, _⟩))
      · exact h
      · omega
      · omega
      · omega
    · intro h; exact .inl (.inl ⟨hy, by omega, by omega, h⟩)
  · obtain rfl : k = m' + 1 := by have : ((k : Int) - 1) = m' := h3; omega
    obtain rfl : i = j' := by have : ((i : Nat) : Int) = j' := h4; omega
    rw [if_neg (by omega), Nat.add_sub_cancel]
    have hs : (m' + 1) * N + i = m' * N + i + N := by rw [Nat.succ_mul]; omega
    rw [hs] at ht ⊢
    constructor
    · rintro ((⟨_, h, _⟩ | ⟨_, h, _⟩) | (⟨_, h, h0, h5⟩ | ⟨_, _, h⟩))
      · omega
      · omega
      · exfalso
        have hN1 : N = 1 := by omega
        omega
      · rw [sameV_symm]; exact h
    · intro h; exact .inr (.inr ⟨ht, rfl, by rw [sameV_symm]; exact h⟩)
  · obtain rfl : m' = k + 1 := by have : ((k : Int) + 1) = m' := h3; omega
    obtain rfl : i = j' := by have : ((i : Nat) : Int) = j' := h4; omega
    rw [if_neg (by omega), Nat.add_sub_cancel]
    have hs : (k + 1) * N + i = k * N + i + N := by rw [Nat.succ_mul]; omega
    rw [hs] at hy ⊢
    constructor
    · rintro ((⟨_, h, h0, h5⟩ | ⟨_, _, h⟩) | (⟨_, h, _⟩ | ⟨_, h, _⟩))
      · exfalso
        have hN1 : N = 1 := by omega
        omega
      · exact h
      · omega
      · omega
    · intro h; exact .inl (.inr ⟨hy, rfl, h⟩)
end Go.Proofs.Ytmpbhhggbmjfcaa
