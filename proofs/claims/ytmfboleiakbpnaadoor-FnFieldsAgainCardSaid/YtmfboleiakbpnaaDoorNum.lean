/- Decimal numerals as plain lists. No program stands in it. -/
import Derived.Test.YtmfboleiakbpnaaDoorOwn
import Derived.Lib.ItoaMem
import Derived.Lib.AtoiAll
namespace Go.Proofs.YtmfboleiakbpnaaDoor
open Go.Lib
set_option linter.unusedVariables false

/-- The digits of a number, none of 0. -/
def dgs (u : Nat) : List UInt8 := if u = 0 then [] else decDigits u
theorem dgs_zero : dgs 0 = [] := rfl
theorem dgs_pos {u : Nat} (h : u ≠ 0) : dgs u = decDigits u := if_neg h
theorem dgs_step {u : Nat} (h : 0 < u) : dgs u = dgs (u / 10) ++ [UInt8.ofNat (48 + u % 10)] := by
  unfold dgs
  rw [if_neg (by omega)]
  by_cases h10 : u < 10
  · rw [if_pos (by omega), decDigits, dif_pos h10, Nat.mod_eq_of_lt h10]; rfl
  · rw [if_neg (by omega), decDigits, dif_neg h10]
theorem itoa_dgs {n : Int} (h : n ≠ 0) : itoa n = (if n < 0 then [45] else []) ++ dgs n.natAbs := by
  unfold itoa
  rw [dgs_pos (by omega)]
  split
  · rfl
  · rw [show n.toNat = n.natAbs from by omega]; rfl
theorem itoa_zero : itoa 0 = [48] := by unfold itoa; rw [if_neg (by omega), show (0 : Int).toNat = 0 from rfl, decDigits, dif_pos (by omega)]; rfl
/-- The number that digits spell. -/
def dvs (acc : Nat) : List UInt8 → Nat
  | [] => acc
  | c :: r => dvs (10 * acc + (c.toNat - 48)) r
theorem dvs_append (l m : List UInt8) : ∀ acc, dvs acc (l ++ m) = dvs (dvs acc l) m := by
  induction l with
  | nil => intro acc; rfl
  | cons c r ih => intro acc; exact ih _
theorem digit_nat {d : Nat} (h : d < 10) : (UInt8.ofNat (48 + d)).toNat = 48 + d := by
  rw [UInt8.toNat_ofNat']; omega
theorem dvs_dec (u : Nat) : dvs 0 (decDigits u) = u := by
  induction u using Nat.strongRecOn with
  | _ u ih =>
    by_cases h : u < 10
    · rw [decDigits, dif_pos h]
      show 10 * 0 + ((UInt8.ofNat (48 + u)).toNat - 48) = u
      rw [digit_nat h]; omega
    · rw [decDigits, dif_neg h, dvs_append, ih (u / 10) (by omega)]
      show 10 * (u / 10) + ((UInt8.ofNat (48 + u % 10)).toNat - 48) = u
      rw [digit_nat (by omega)]; omega
theorem dec_digit (u : Nat) : ∀ c ∈ decDigits u, 48 ≤ c.toNat ∧ c.toNat ≤ 57 := by
  induction u using Nat.strongRecOn with
  | _ u ih =>
    intro c hc
    by_cases h : u < 10
    · rw [decDigits, dif_pos h] at hc
      obtain rfl := List.mem_singleton.1 hc
      rw [digit_nat h]; omega
    · rw [decDigits, dif_neg h] at hc
      rcases List.mem_append.1 hc with hc | hc
      · exact ih (u / 10) (by omega) c hc
      · obtain rfl := List.mem_singleton.1 hc
        rw [digit_nat (by omega)]; omega
theorem nDigits_le : ∀ (k u : Nat), u < 10 ^ (k + 1) → nDigits u ≤ k + 1
  | 0, u, h => by rw [nDigits_small (by simpa using h)]; exact Nat.le_refl _
  | k + 1, u, h => by
    by_cases h10 : u < 10
    · rw [nDigits_small h10]; omega
    · rw [nDigits_big h10]
      have := nDigits_le k (u / 10) (by rw [Nat.pow_succ] at h; omega)
      omega
theorem dec_len {u : Nat} (h : u ≤ 1000000000) : (decDigits u).length ≤ 10 := by
  rw [decDigits_length]; exact nDigits_le 9 u (by omega)
theorem dec_ne (u : Nat) : decDigits u ≠ [] := by
  have := nDigits_pos u
  intro e
  have h := decDigits_length u
  rw [e] at h
  simp at h; omega
theorem dvs_up (l : List UInt8) : ∀ acc, acc ≤ dvs acc l := by
  induction l with
  | nil => intro acc; exact Nat.le_refl _
  | cons c r ih => intro acc; have := ih (10 * acc + (c.toNat - 48)); show acc ≤ dvs _ r; omega
theorem dvs_lt (l : List UInt8) : (∀ c ∈ l, c.toNat ≤ 57) → ∀ acc, dvs acc l + 1 ≤ (acc + 1) * 10 ^ l.length := by
  induction l with
  | nil => intro _ acc; show acc + 1 ≤ (acc + 1) * 10 ^ 0; omega
  | cons c r ih =>
    intro h acc
    have hc := h c (List.mem_cons_self ..)
    have := ih (fun x hx => h x (List.mem_cons_of_mem _ hx)) (10 * acc + (c.toNat - 48))
    have e : (acc + 1) * 10 ^ (r.length + 1) = (10 * acc + 10) * 10 ^ r.length := by rw [Nat.pow_succ, show 10 * acc + 10 = (acc + 1) * 10 from by omega, Nat.mul_assoc, Nat.mul_comm 10]
    have m : (10 * acc + (c.toNat - 48) + 1) * 10 ^ r.length ≤ (10 * acc + 10) * 10 ^ r.length := Nat.mul_le_mul_right _ (by omega)
    show dvs _ r + 1 ≤ (acc + 1) * 10 ^ (r.length + 1)
    omega
theorem parse_digits (l : List UInt8) : (∀ c ∈ l, 48 ≤ c.toNat ∧ c.toNat ≤ 57) → ∀ acc, dvs acc l ≤ 1000000000 → parseUint10 acc l = .ok (dvs acc l) := by
  induction l with
  | nil => intro _ acc _; rfl
  | cons c r ih =>
    intro h acc hb
    have hc := h c (List.mem_cons_self ..)
    have hb' : dvs (10 * acc + (c.toNat - 48)) r ≤ 1000000000 := hb
    have := dvs_up r (10 * acc + (c.toNat - 48))
    unfold parseUint10
    rw [if_pos hc, if_neg (by omega), if_neg (by omega), show acc * 10 + (c.toNat - 48) = 10 * acc + (c.toNat - 48) from by omega]
    exact ih (fun x hx => h x (List.mem_cons_of_mem _ hx)) _ hb'
theorem atoi_dec {u : Nat} (h : u ≤ 1000000000) : atoiAll (decDigits u) = .ok (u : Int) := by
  have hd := dec_digit u
  have hv := dvs_dec u
  cases e : decDigits u with
  | nil => exact absurd e (dec_ne u)
  | cons c r =>
    rw [e] at hd hv
    have hc := hd c (List.mem_cons_self ..)
    unfold atoiAll
    have hp : parseMag (c :: r) = .ok u := by
      unfold parseMag
      rw [if_neg (by simp), parse_digits _ hd 0 (by omega), hv]
    have e1 : (if c.toNat = 43 ∨ c.toNat = 45 then r else c :: r) = c :: r := if_neg (by omega)
    simp only [e1, hp]
    show (if ¬ c.toNat = 45 ∧ 9223372036854775808 ≤ u then NumEnd.range else if c.toNat = 45 ∧ 9223372036854775808 < u then .range else .ok (if c.toNat = 45 then -(u : Int) else u)) = _
    rw [if_neg (fun hh => by have := hh.2; omega), if_neg (fun hh => by have := hh.1; omega), if_neg (by omega)]
/-- What both parsers answer. -/
def okN (l : List UInt8) : Bool := decide (decDigits (dvs 0 l) = l ∧ dvs 0 l ≤ 1000000000)
def numN (l : List UInt8) : Nat := if okN l then dvs 0 l else 0
theorem okN_dec {u : Nat} (h : u ≤ 1000000000) : okN (decDigits u) = true ∧ numN (decDigits u) = u := by
  have h1 : okN (decDigits u) = true := decide_eq_true (by rw [dvs_dec]; exact ⟨rfl, h⟩)
  exact ⟨h1, by unfold numN; rw [if_pos h1, dvs_dec]⟩
theorem okN_inv {l : List UInt8} (h : okN l = true) : ∃ u, u ≤ 1000000000 ∧ l = decDigits u := by
  have := of_decide_eq_true h
  exact ⟨dvs 0 l, this.2, this.1.symm⟩
theorem okN_long {l : List UInt8} (h : 10 < l.length) : okN l = false := by
  cases e : okN l with
  | false => rfl
  | true => obtain ⟨u, hu, rfl⟩ := okN_inv e; have := dec_len hu; omega
theorem okN_other {l : List UInt8} {c : UInt8} (hm : c ∈ l) (h : ¬ (48 ≤ c.toNat ∧ c.toNat ≤ 57)) : okN l = false := by
  cases e : okN l with
  | false => rfl
  | true => obtain ⟨u, hu, rfl⟩ := okN_inv e; exact absurd (dec_digit u c hm) h
theorem okN_big {l : List UInt8} (h : 1000000000 < dvs 0 l) : okN l = false := decide_eq_false (fun h2 => by omega)
theorem okN_text {l : List UInt8} (h : itoa (dvs 0 l : Nat) ≠ l) : okN l = false := decide_eq_false (fun h2 => h (by rw [itoa_nonneg]; exact h2.1))
theorem okN_same {l : List UInt8} (h : itoa (dvs 0 l : Nat) = l) (h2 : dvs 0 l ≤ 1000000000) : okN l = true := decide_eq_true ⟨by rw [itoa_nonneg] at h; exact h, h2⟩
theorem okN_atoi {l : List UInt8} {v : Int} (h0 : 0 ≤ v) (h1 : v ≤ 1000000000) (h : itoa v = l) : okN l = true ∧ (numN l : Int) = v := by
  obtain ⟨u, rfl⟩ : ∃ u : Nat, v = u := ⟨v.toNat, by omega⟩
  rw [itoa_nonneg] at h
  subst h
  have := okN_dec (u := u) (by omega)
  exact ⟨this.1, by rw [this.2]⟩
theorem atoi_of_ok {l : List UInt8} (h : okN l = true) : atoiAll l = .ok (numN l : Int) ∧ itoa (numN l : Int) = l ∧ numN l ≤ 1000000000 := by
  obtain ⟨u, hu, rfl⟩ := okN_inv h
  rw [(okN_dec hu).2]
  exact ⟨atoi_dec hu, itoa_nonneg u, hu⟩
theorem numN_no {l : List UInt8} (h : okN l = false) : numN l = 0 := by unfold numN; rw [h]; rfl
end Go.Proofs.YtmfboleiakbpnaaDoor
