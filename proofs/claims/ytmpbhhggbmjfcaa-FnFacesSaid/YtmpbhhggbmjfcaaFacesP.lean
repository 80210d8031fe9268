/- Two ways to number the classes of a relation on numbers below m agree: by a union of least members, and by a flood from each tile in order. No program stands in it. -/
import Derived.Test.YtmpbhhggbmjfcaaOwn
namespace Go.Proofs.Ytmpbhhggbmjfcaa
set_option linter.unusedVariables false

/-- Connected: no set that the edges keep tells the two apart. -/
def Conn (E : Nat → Nat → Prop) (x y : Nat) : Prop := ∀ S : Nat → Prop, (∀ a b, E a b → (S a ↔ S b)) → (S x ↔ S y)
theorem Conn.refl {E : Nat → Nat → Prop} (x : Nat) : Conn E x x := fun _ _ => Iff.rfl
theorem Conn.symm {E : Nat → Nat → Prop} {x y : Nat} (h : Conn E x y) : Conn E y x := fun S hS => (h S hS).symm
theorem Conn.trans {E : Nat → Nat → Prop} {x y z : Nat} (h : Conn E x y) (h2 : Conn E y z) : Conn E x z := fun S hS => (h S hS).trans (h2 S hS)
theorem Conn.edge {E : Nat → Nat → Prop} {x y : Nat} (h : E x y) : Conn E x y := fun S hS => hS x y h
theorem Conn.lab {E : Nat → Nat → Prop} {x y : Nat} {α : Type} (h : Conn E x y) (f : Nat → α) (hf : ∀ a b, E a b → f a = f b) : f x = f y :=
  (h (fun z => f z = f y) (fun a b e => by rw [hf a b e])).2 rfl

/-- One more than the greatest label ahead of t. -/
def nxt (lab : Nat → Nat) : Nat → Nat
  | 0 => 0
  | t + 1 => max (nxt lab t) (lab t + 1)
theorem nxt_congr {lab lab' : Nat → Nat} : ∀ {t : Nat}, (∀ u, u < t → lab u = lab' u) → nxt lab t = nxt lab' t
  | 0, _ => rfl
  | t + 1, h => by
    unfold nxt
    rw [nxt_congr (fun u hu => h u (by omega)), h t (by omega)]
theorem nxt_lt {lab : Nat → Nat} : ∀ {t u : Nat}, u < t → lab u < nxt lab t
  | 0, u, h => by omega
  | t + 1, u, h => by
    unfold nxt
    rcases Nat.lt_or_ge u t with h1 | h1
    · have := nxt_lt (lab := lab) h1; omega
    · obtain rfl : u = t := by omega
      omega
theorem nxt_hit {lab : Nat → Nat} : ∀ {t : Nat}, (∀ u, u < t → lab u ≤ nxt lab u) → ∀ f, f < nxt lab t → ∃ u, u < t ∧ lab u = f
  | 0, _, f, hf => by simp [nxt] at hf
  | t + 1, h, f, hf => by
    rcases Nat.lt_or_ge f (nxt lab t) with h1 | h1
    · obtain ⟨u, hu, e⟩ := nxt_hit (fun u hu => h u (by omega)) f h1
      exact ⟨u, by omega, e⟩
    · have h2 := h t (by omega)
      unfold nxt at hf
      exact ⟨t, by omega, by omega⟩
/-- The labels follow the edges, tell the classes apart and are numbered in the order of their first members. -/
def Labels (E : Nat → Nat → Prop) (m : Nat) (lab : Nat → Nat) : Prop :=
  (∀ a b, E a b → lab a = lab b) ∧ (∀ a b, a < m → b < m → lab a = lab b → Conn E a b) ∧ ∀ t, t < m → lab t ≤ nxt lab t
theorem labels_unique {E : Nat → Nat → Prop} {m : Nat} {lab lab' : Nat → Nat} (h : Labels E m lab) (h' : Labels E m lab') : ∀ t, t ≤ m → ∀ u, u < t → lab u = lab' u
  | 0, _, u, hu => by omega
  | t + 1, ht, u, hu => by
    have ih := labels_unique h h' t (by omega)
    rcases Nat.lt_or_ge u t with h1 | h1
    · exact ih u h1
    · obtain rfl : u = t := by omega
      have hn := nxt_congr ih
      have c1 := h.2.2 u (by omega)
      have c2 := h'.2.2 u (by omega)
      rcases Nat.lt_or_ge (lab u) (nxt lab u) with h2 | h2
      · obtain ⟨v, hv, e⟩ := nxt_hit (fun x hx => h.2.2 x (by omega)) _ h2
        have hc := h.2.1 v u (by omega) (by omega) e
        have e2 := hc.lab lab' h'.1
        rw [← e, ih v hv, e2]
      · rcases Nat.lt_or_ge (lab' u) (nxt lab' u) with h3 | h3
        · obtain ⟨v, hv, e⟩ := nxt_hit (fun x hx => h'.2.2 x (by omega)) _ h3
          have hc := h'.2.1 v u (by omega) (by omega) e
          have e2 := hc.lab lab h.1
          rw [← e, ← ih v hv, e2]
        · omega

/-- A union of classes: each member knows a least member, and equal ones are connected. -/
def GroupOk (E : Nat → Nat → Prop) (m : Nat) (g : Nat → Nat) : Prop :=
  (∀ x, x < m → g x ≤ x) ∧ (∀ x, x < m → g (g x) = g x) ∧ ∀ x y, x < m → y < m → g x = g y → Conn E x y
def merge (g : Nat → Nat) (a b : Nat) : Nat → Nat := fun x => if g x = b then a else g x
theorem group_id (E : Nat → Nat → Prop) (m : Nat) : GroupOk E m (fun x => x) := ⟨fun _ _ => Nat.le_refl _, fun _ _ => rfl, fun x y _ _ h => by obtain rfl : x = y := h; exact Conn.refl _⟩
theorem merge_eq {g : Nat → Nat} {x y : Nat} (a b : Nat) (h : g x = g y) : merge g a b x = merge g a b y := by unfold merge; rw [h]
theorem merge_join (g : Nat → Nat) (u t : Nat) : merge g (min (g u) (g t)) (max (g u) (g t)) u = merge g (min (g u) (g t)) (max (g u) (g t)) t := by
  unfold merge
  split <;> split <;> omega
theorem merge_ok {E : Nat → Nat → Prop} {m : Nat} {g : Nat → Nat} (h : GroupOk E m g) {u t : Nat} (hu : u < m) (ht : t < m) (he : Conn E u t) (hne : g u ≠ g t) : GroupOk E m (merge g (min (g u) (g t)) (max (g u) (g t))) := by
  obtain ⟨h1, h2, h3⟩ := h
  have gu : g (g u) = g u := h2 u hu
  have gt : g (g t) = g t := h2 t ht
  have ga : g (min (g u) (g t)) = min (g u) (g t) := by
    rcases Nat.le_total (g u) (g t) with h | h
    · rw [Nat.min_eq_left h, gu]
    · rw [Nat.min_eq_right h, gt]
  generalize ha : min (g u) (g t) = a at *
  generalize hb : max (g u) (g t) = b at *
  have hab : a < b := by omega
  -- whoever bears a or b is connected with u
  have hcon : ∀ x, x < m → g x = a ∨ g x = b → Conn E x u := by
    intro x hx h
    have h4 : g x = g u ∨ g x = g t := by omega
    rcases h4 with h4 | h4
    · exact h3 x u hx hu h4
    · exact (h3 x t hx ht h4).trans he.symm
  refine ⟨fun x hx => ?_, fun x hx => ?_, fun x y hx hy e => ?_⟩
  · unfold merge
    have := h1 x hx
    split <;> omega
  · have hgx := h2 x hx
    unfold merge
    by_cases h4 : g x = b
    · rw [if_pos h4, if_neg (by rw [ga]; omega), ga]
    · rw [if_neg h4, if_neg (by rw [hgx]; exact h4), hgx]
  · unfold merge at e
    by_cases hxb : g x = b <;> by_cases hyb : g y = b
    · exact h3 x y hx hy (hxb.trans hyb.symm)
    · rw [if_pos hxb, if_neg hyb] at e
      exact (hcon x hx (.inr hxb)).trans (hcon y hy (.inl e.symm)).symm
    · rw [if_neg hxb, if_pos hyb] at e
      exact (hcon x hx (.inl e)).trans (hcon y hy (.inr hyb)).symm
    · rw [if_neg hxb, if_neg hyb] at e
      exact h3 x y hx hy e

/-- The numbers of the first t members: a least member takes the next number, any other the number of its least one. -/
def NumUpto (g : Nat → Nat) (t : Nat) (lab : Nat → Nat) : Prop := ∀ u, u < t → (g u = u → lab u = nxt lab u) ∧ (g u ≠ u → lab u = lab (g u))
def upd {α : Type} (f : Nat → α) (t : Nat) (v : α) : Nat → α := fun x => if x = t then v else f x
theorem upd_same {α : Type} (f : Nat → α) (t : Nat) (v : α) : upd f t v t = v := if_pos rfl
theorem upd_other {α : Type} (f : Nat → α) {t x : Nat} (v : α) (h : x ≠ t) : upd f t v x = f x := if_neg h
theorem numUpto_step {g lab : Nat → Nat} {t : Nat} (hg : ∀ x, x ≤ t → g x ≤ x) (h : NumUpto g t lab) :
    NumUpto g (t + 1) (upd lab t (if g t = t then nxt lab t else lab (g t))) ∧ nxt (upd lab t (if g t = t then nxt lab t else lab (g t))) (t + 1) = (if g t = t then nxt lab t + 1 else nxt lab t) := by
  have hc : ∀ u, u ≤ t → nxt (upd lab t (if g t = t then nxt lab t else lab (g t))) u = nxt lab u := fun u hu => nxt_congr (fun x hx => upd_other _ _ (by omega))
  have hgt := hg t (Nat.le_refl _)
  constructor
  · intro u hu
    rcases Nat.lt_or_ge u t with h1 | h1
    · have hgu := hg u (by omega)
      rw [upd_other _ _ (by omega), upd_other _ _ (by omega), hc u (by omega)]
      exact h u h1
    · obtain rfl : u = t := by omega
      rw [upd_same, hc u (Nat.le_refl _)]
      constructor
      · intro e; rw [if_pos e]
      · intro e; rw [if_neg e, upd_other _ _ e]
  · show max (nxt _ t) (_ + 1) = _
    rw [hc t (Nat.le_refl _), upd_same]
    by_cases e : g t = t
    · rw [if_pos e, if_pos e]; omega
    · rw [if_neg e, if_neg e]
      have := nxt_lt (lab := lab) (show g t < t by omega)
      omega
theorem labels_of_group {E : Nat → Nat → Prop} {m : Nat} {g lab : Nat → Nat} (hE : ∀ a b, E a b → a < m ∧ b < m) (h : GroupOk E m g) (he : ∀ a b, E a b → g a = g b) (hl : NumUpto g m lab) : Labels E m lab := by
  obtain ⟨h1, h2, h3⟩ := h
  have root : ∀ x, x < m → lab x = lab (g x) := fun x hx => by
    by_cases e : g x = x
    · rw [e]
    · exact (hl x hx).2 e
  refine ⟨fun a b hab => ?_, fun a b ha hb e => ?_, fun t ht => ?_⟩
  · obtain ⟨ha, hb⟩ := hE a b hab
    rw [root a ha, root b hb, he a b hab]
  · have hga := h1 a ha
    have hgb := h1 b hb
    have ra := (hl (g a) (by omega)).1 (h2 a ha)
    have rb := (hl (g b) (by omega)).1 (h2 b hb)
    rw [root a ha, root b hb] at e
    refine h3 a b ha hb ?_
    rcases Nat.lt_trichotomy (g a) (g b) with h | h | h
    · have := nxt_lt (lab := lab) h; omega
    · exact h
    · have := nxt_lt (lab := lab) h; omega
  · by_cases e : g t = t
    · rw [(hl t ht).1 e]; exact Nat.le_refl _
    · have := h1 t ht
      rw [(hl t ht).2 e]
      exact Nat.le_of_lt (nxt_lt (by omega))

/-- How many below m bear the label f. -/
def cnt (M : Nat → Int) (f : Int) : Nat → Nat
  | 0 => 0
  | x + 1 => cnt M f x + (if M x = f then 1 else 0)
/-- How many below m bear no label. -/
def unm (M : Nat → Int) : Nat → Nat
  | 0 => 0
  | x + 1 => unm M x + (if M x < 0 then 1 else 0)
theorem cnt_congr {M M' : Nat → Int} {f : Int} : ∀ {m : Nat}, (∀ x, x < m → (M x = f ↔ M' x = f)) → cnt M f m = cnt M' f m
  | 0, _ => rfl
  | m + 1, h => by
    unfold cnt
    rw [cnt_congr (fun x hx => h x (by omega))]
    have := h m (by omega)
    by_cases e : M m = f
    · rw [if_pos e, if_pos (this.1 e)]
    · rw [if_neg e, if_neg (fun e' => e (this.2 e'))]
theorem cnt_zero {M : Nat → Int} {f : Int} : ∀ {m : Nat}, (∀ x, x < m → M x ≠ f) → cnt M f m = 0
  | 0, _ => rfl
  | m + 1, h => by
    unfold cnt
    rw [cnt_zero (fun x hx => h x (by omega)), if_neg (h m (by omega))]
theorem cnt_upd {M : Nat → Int} {f : Int} {t : Nat} (hf : M t ≠ f) : ∀ {m : Nat}, cnt (upd M t f) f m = cnt M f m + (if t < m then 1 else 0)
  | 0 => by simp [cnt]
  | m + 1 => by
    unfold cnt
    rw [cnt_upd hf]
    by_cases e : m = t
    · subst e
      rw [upd_same, if_pos rfl, if_neg hf, if_neg (by omega), if_pos (by omega)]
    · rw [upd_other _ _ e]
      by_cases h : t < m
      · rw [if_pos h, if_pos (show t < m + 1 by omega)]; omega
      · rw [if_neg h, if_neg (show ¬ t < m + 1 by omega)]; rfl
theorem unm_le {M M' : Nat → Int} (h : ∀ x, 0 ≤ M x → 0 ≤ M' x) : ∀ m, unm M' m ≤ unm M m
  | 0 => Nat.le_refl _
  | m + 1 => by
    have := unm_le h m
    have := h m
    unfold unm
    split <;> split <;> omega
theorem unm_lt {M M' : Nat → Int} (h : ∀ x, 0 ≤ M x → 0 ≤ M' x) {t : Nat} (h1 : M t < 0) (h2 : 0 ≤ M' t) : ∀ m, t < m → unm M' m < unm M m
  | 0, hm => by omega
  | m + 1, hm => by
    have := h m
    unfold unm
    by_cases e : t = m
    · subst e
      have := unm_le h t
      rw [if_pos h1, if_neg (by omega)]; omega
    · have := unm_lt h h1 h2 m (by omega)
      split <;> split <;> omega

/-- What a flood from t leaves: the old labels, f at what it has reached, all neighbours of which bear a label; c of them. -/
def Filled (E : Nat → Nat → Prop) (m : Nat) (M : Nat → Int) (t : Nat) (f : Int) (M' : Nat → Int) (c : Nat) : Prop :=
  (∀ x, 0 ≤ M x → M' x = M x) ∧ (∀ x, M x < 0 → M' x = M x ∨ (M' x = f ∧ x < m ∧ Conn E t x)) ∧ M' t = f ∧ (∀ x y, M x < 0 → 0 ≤ M' x → (E x y ∨ E y x) → 0 ≤ M' y) ∧ cnt M' f m = cnt M f m + c ∧ 1 ≤ c
/-- .. while it goes on: t's own neighbours are not asked yet, but those of the list. -/
def Filling (E : Nat → Nat → Prop) (m : Nat) (M : Nat → Int) (t : Nat) (f : Int) (D : Nat → Prop) (M' : Nat → Int) (c : Nat) : Prop :=
  (∀ x, 0 ≤ M x → M' x = M x) ∧ (∀ x, M x < 0 → M' x = M x ∨ (M' x = f ∧ x < m ∧ Conn E t x)) ∧ M' t = f ∧ (∀ x y, M x < 0 → x ≠ t → 0 ≤ M' x → (E x y ∨ E y x) → 0 ≤ M' y) ∧ (∀ y, D y → (E t y ∨ E y t) → 0 ≤ M' y) ∧ cnt M' f m = cnt M f m + c ∧ 1 ≤ c
theorem filling_start {E : Nat → Nat → Prop} {m : Nat} {M : Nat → Int} {t : Nat} {f : Int} (hf : 0 ≤ f) (ht : t < m) (h0 : M t < 0) : Filling E m M t f (fun _ => False) (upd M t f) 1 := by
  refine ⟨fun x hx => upd_other _ _ (fun e => by subst e; omega), fun x hx => ?_, upd_same _ _ _, fun x y hx hne h _ => ?_, fun y h => h.elim, ?_, Nat.le_refl _⟩
  · by_cases e : x = t
    · subst e; exact .inr ⟨upd_same _ _ _, ht, Conn.refl _⟩
    · exact .inl (upd_other _ _ e)
  · rw [upd_other _ _ hne] at h; omega
  · rw [cnt_upd (by omega), if_pos ht]
/-- A neighbour that bears a label already, or is none. -/
theorem filling_skip {E : Nat → Nat → Prop} {m : Nat} {M M' : Nat → Int} {t c y : Nat} {f : Int} {D : Nat → Prop} (h : Filling E m M t f D M' c) (hy : (E t y ∨ E y t) → 0 ≤ M' y) : Filling E m M t f (fun z => D z ∨ z = y) M' c := by
  obtain ⟨h1, h2, h3, h4, h5, h6⟩ := h
  refine ⟨h1, h2, h3, h4, fun z hz e => ?_, h6⟩
  rcases hz with hz | rfl
  · exact h5 z hz e
  · exact hy e
theorem filling_call {E : Nat → Nat → Prop} {m : Nat} {M M' M2 : Nat → Int} {t c y c2 : Nat} {f : Int} {D : Nat → Prop} (hf : 0 ≤ f) (h : Filling E m M t f D M' c) (hy : E t y ∨ E y t) (hl : M' y < 0) (hc : Filled E m M' y f M2 c2) : Filling E m M t f (fun z => D z ∨ z = y) M2 (c + c2) := by
  obtain ⟨h1, h2, h3, h4, h5, h6, h7⟩ := h
  obtain ⟨k1, k2, k3, k4, k5, k6⟩ := hc
  have hcy : Conn E t y := hy.elim Conn.edge (fun e => (Conn.edge e).symm)
  have up : ∀ x, 0 ≤ M' x → 0 ≤ M2 x := fun x hx => by rw [k1 x hx]; exact hx
  refine ⟨fun x hx => ?_, fun x hx => ?_, ?_, fun x z hx hne hm e => ?_, fun z hz e => ?_, by rw [k5, h6]; omega, by omega⟩
  · rw [k1 x (by rw [h1 x hx]; exact hx), h1 x hx]
  · rcases h2 x hx with e | ⟨e, hxm, hcx⟩
    · rcases k2 x (by rw [e]; exact hx) with e2 | ⟨e2, hxm, hcx⟩
      · exact .inl (e2.trans e)
      · exact .inr ⟨e2, hxm, hcy.trans hcx⟩
    · exact .inr ⟨by rw [k1 x (by omega), e], hxm, hcx⟩
  · rw [k1 t (by omega), h3]
  · rcases Int.lt_or_le (M' x) 0 with h | h
    · exact k4 x z h hm e
    · exact up z (h4 x z hx hne h e)
  · rcases hz with hz | rfl
    · exact up z (h5 z hz e)
    · omega
theorem filling_done {E : Nat → Nat → Prop} {m : Nat} {M M' : Nat → Int} {t c : Nat} {f : Int} {D : Nat → Prop} (h : Filling E m M t f D M' c) (hD : ∀ y, (E t y ∨ E y t) → D y) : Filled E m M t f M' c := by
  obtain ⟨h1, h2, h3, h4, h5, h6⟩ := h
  refine ⟨h1, h2, h3, fun x y hx hm e => ?_, h6⟩
  by_cases hxt : x = t
  · subst hxt; exact h5 y (hD y e) e
  · exact h4 x y hx hxt hm e
theorem Filling.up {E : Nat → Nat → Prop} {m : Nat} {M M' : Nat → Int} {t c : Nat} {f : Int} {D : Nat → Prop} (h : Filling E m M t f D M' c) : ∀ x, 0 ≤ M x → 0 ≤ M' x := fun x hx => by rw [h.1 x hx]; exact hx

/-- The state of the floods in order: the first t members bear labels, n of them. -/
def Flood (E : Nat → Nat → Prop) (m t : Nat) (M : Nat → Int) (n : Nat) : Prop :=
  (∀ x, x < t → 0 ≤ M x) ∧ (∀ x, 0 ≤ M x → x < m ∧ M x < n) ∧ (∀ a b, E a b → (0 ≤ M a ↔ 0 ≤ M b)) ∧ (∀ a b, E a b → 0 ≤ M a → M a = M b) ∧ (∀ a b, 0 ≤ M a → M a = M b → Conn E a b) ∧ n = nxt (fun x => (M x).toNat) t ∧ ∀ u, u < t → (M u).toNat ≤ nxt (fun x => (M x).toNat) u
theorem flood_start (E : Nat → Nat → Prop) (m : Nat) : Flood E m 0 (fun _ => -1) 0 :=
  by
  have z : ∀ x : Nat, ¬ (0 : Int) ≤ (fun _ => -1 : Nat → Int) x := fun x h => by have h' : (0 : Int) ≤ -1 := h; omega
  exact ⟨fun x hx => by omega, fun x hx => absurd hx (z x), fun a b _ => Iff.rfl, fun a b _ h => absurd h (z a), fun a b h _ => absurd h (z a), rfl, fun u hu => by omega⟩
theorem flood_skip {E : Nat → Nat → Prop} {m t n : Nat} {M : Nat → Int} (h : Flood E m t M n) (ht : 0 ≤ M t) : Flood E m (t + 1) M n := by
  obtain ⟨h1, h2, h3, h4, h5, h6, h7⟩ := h
  have hn := (h2 t ht).2
  refine ⟨fun x hx => ?_, h2, h3, h4, h5, ?_, fun u hu => ?_⟩
  · rcases Nat.lt_or_ge x t with h | h
    · exact h1 x h
    · obtain rfl : x = t := by omega
      exact ht
  · show n = max (nxt (fun x => (M x).toNat) t) ((M t).toNat + 1)
    omega
  · rcases Nat.lt_or_ge u t with h | h
    · exact h7 u h
    · obtain rfl : u = t := by omega
      omega
theorem flood_fill {E : Nat → Nat → Prop} {m t n c : Nat} {M M' : Nat → Int} (h : Flood E m t M n) (htm : t < m) (ht : M t < 0) (hc : Filled E m M t n M' c) : Flood E m (t + 1) M' (n + 1) := by
  obtain ⟨h1, h2, h3, h4, h5, h6, h7⟩ := h
  obtain ⟨k1, k2, k3, k4, _⟩ := hc
  have cases : ∀ x, 0 ≤ M' x → (0 ≤ M x ∧ M' x = M x) ∨ (M x < 0 ∧ M' x = n ∧ x < m ∧ Conn E t x) := fun x hx => by
    rcases Int.lt_or_le (M x) 0 with h | h
    · rcases k2 x h with e | ⟨e, hm, hcx⟩
      · omega
      · exact .inr ⟨h, e, hm, hcx⟩
    · exact .inl ⟨h, k1 x h⟩
  have step : ∀ a b, E a b ∨ E b a → 0 ≤ M' a → 0 ≤ M' b := fun a b e ha => by
    rcases cases a ha with ⟨h, _⟩ | ⟨h, _⟩
    · have hb : 0 ≤ M b := e.elim (fun e => (h3 a b e).1 h) (fun e => (h3 b a e).2 h)
      rw [k1 b hb]; exact hb
    · exact k4 a b h ha e
  have same : ∀ u, u ≤ t → nxt (fun x => (M' x).toNat) u = nxt (fun x => (M x).toNat) u := fun u hu => nxt_congr (fun x hx => by
    show (M' x).toNat = (M x).toNat
    rw [k1 x (h1 x (by omega))])
  refine ⟨fun x hx => ?_, fun x hx => ?_, fun a b e => ⟨step a b (.inl e), step b a (.inr e)⟩, fun a b e ha => ?_, fun a b ha e => ?_, ?_, fun u hu => ?_⟩
  · rcases Nat.lt_or_ge x t with h | h
    · rw [k1 x (h1 x h)]; exact h1 x h
    · obtain rfl : x = t := by omega
      omega
  · rcases cases x hx with ⟨h, e⟩ | ⟨_, e, hm, _⟩
    · have := h2 x h; exact ⟨this.1, by omega⟩
    · exact ⟨hm, by omega⟩
  · have hb := step a b (.inl e) ha
    rcases cases a ha with ⟨h, e1⟩ | ⟨h, e1, _⟩
    · have hb' := (h3 a b e).1 h
      rw [e1, k1 b hb', h4 a b e h]
    · rcases cases b hb with ⟨h', _⟩ | ⟨_, e2, _⟩
      · have := (h3 a b e).2 h'; omega
      · omega
  · have hb : 0 ≤ M' b := by omega
    rcases cases a ha with ⟨h, e1⟩ | ⟨h, e1, _, c1⟩ <;> rcases cases b hb with ⟨h', e2⟩ | ⟨h', e2, _, c2⟩
    · exact h5 a b h (by omega)
    · have := (h2 a h).2; omega
    · have := (h2 b h').2; omega
    · exact c1.symm.trans c2
  · show n + 1 = max (nxt (fun x => (M' x).toNat) t) ((M' t).toNat + 1)
    rw [same t (Nat.le_refl _), k3]
    omega
  · rcases Nat.lt_or_ge u t with h | h
    · rw [same u (by omega), k1 u (h1 u h)]; exact h7 u h
    · obtain rfl : u = t := by omega
      rw [same u (Nat.le_refl _), k3]
      omega
theorem labels_of_flood {E : Nat → Nat → Prop} {m n : Nat} {M : Nat → Int} (hE : ∀ a b, E a b → a < m ∧ b < m) (h : Flood E m m M n) : Labels E m (fun x => (M x).toNat) := by
  obtain ⟨h1, h2, h3, h4, h5, h6, h7⟩ := h
  refine ⟨fun a b e => ?_, fun a b ha hb e => ?_, h7⟩
  · show (M a).toNat = (M b).toNat
    rw [h4 a b e (h1 a (hE a b e).1)]
  · have ha' := h1 a ha
    have hb' := h1 b hb
    have e' : (M a).toNat = (M b).toNat := e
    exact h5 a b ha' (by omega)
/-- The sizes: a flood counts its own label; the others stay. -/
theorem sizes_fill {E : Nat → Nat → Prop} {m t n c : Nat} {M M' : Nat → Int} (h : Flood E m t M n) (hc : Filled E m M t n M' c) : ((List.range n).map fun (f : Nat) => ((cnt M f m : Nat) : Int)) ++ [(c : Int)] = (List.range (n + 1)).map fun (f : Nat) => ((cnt M' f m : Nat) : Int) := by
  obtain ⟨h1, h2, _⟩ := h
  obtain ⟨k1, k2, k3, k4, k5, _⟩ := hc
  have z : cnt M n m = 0 := cnt_zero (fun x hx e => by have := (h2 x (by omega)).2; omega)
  rw [List.range_succ, List.map_append]
  congr 1
  · refine List.map_congr_left (fun f hf => ?_)
    have hf' := List.mem_range.1 hf
    rw [cnt_congr (M := M) (M' := M') (f := (f : Int)) (fun x hx => ?_)]
    rcases Int.lt_or_le (M x) 0 with h | h
    · rcases k2 x h with e | ⟨e, _⟩
      · rw [e]
      · constructor <;> intro e' <;> omega
    · rw [k1 x h]
  · simp only [List.map_cons, List.map_nil]
    rw [k5, z]; simp
end Go.Proofs.Ytmpbhhggbmjfcaa
