/- The ways to go some steps down and forward, by the room under them: plain numbers. No program stands in it. -/
import Derived.Test.YtmpbhhggbmjfcaaOwn
namespace Go.Proofs.Ytmpbhhggbmjfcaa

/-- A row of the table: some steps down, the row for one step down less. -/
def RRow (prev : Nat → Nat → Nat) (D : Nat) : Nat → Nat → Nat
  | 0, r => if r = 0 then 1 else 0
  | f + 1, r => prev (f + 1) r + if D ≤ r then RRow prev D f (r - D) else 0
/-- The ways to go d steps down and f forward with r room under them. -/
def RR : Nat → Nat → Nat → Nat
  | 0 => fun _ r => if r = 0 then 1 else 0
  | d + 1 => RRow (RR d) (d + 1)
theorem RR_zero (f r : Nat) : RR 0 f r = if r = 0 then 1 else 0 := rfl
theorem RR_flat (d r : Nat) : RR d 0 r = if r = 0 then 1 else 0 := by cases d <;> rfl
theorem RR_step (d f r : Nat) : RR (d + 1) (f + 1) r = RR d (f + 1) r + if d + 1 ≤ r then RR (d + 1) f (r - (d + 1)) else 0 := rfl
def PRow (prev : Nat → Nat) : Nat → Nat
  | 0 => 1
  | f + 1 => prev (f + 1) + PRow prev f
/-- The ways to go d steps down and f forward. -/
def PP : Nat → Nat → Nat
  | 0 => fun _ => 1
  | d + 1 => PRow (PP d)
theorem PP_zero (f : Nat) : PP 0 f = 1 := rfl
theorem PP_flat (d : Nat) : PP d 0 = 1 := by cases d <;> rfl
theorem PP_step (d f : Nat) : PP (d + 1) (f + 1) = PP d (f + 1) + PP (d + 1) f := rfl

theorem RR_past : ∀ d f r, d * f < r → RR d f r = 0
  | 0, f, r, h => by rw [RR_zero, if_neg (by omega)]
  | d + 1, 0, r, h => by rw [RR_flat, if_neg (by omega)]
  | d + 1, f + 1, r, h => by
    have e1 : (d + 1) * (f + 1) = d * (f + 1) + (f + 1) := Nat.succ_mul _ _
    have e2 : (d + 1) * (f + 1) = (d + 1) * f + (d + 1) := Nat.mul_succ _ _
    rw [RR_step, RR_past d (f + 1) r (by omega)]
    split
    · rw [RR_past (d + 1) f (r - (d + 1)) (by omega)]
    · rfl
/-- The sum of the first n values. -/
def sm (g : Nat → Nat) : Nat → Nat
  | 0 => 0
  | n + 1 => sm g n + g n
theorem sm_mono (g : Nat → Nat) (n m : Nat) : sm g n ≤ sm g (n + m) := by
  induction m with
  | zero => exact Nat.le_refl _
  | succ m ih => show _ ≤ sm g (n + m) + g (n + m); omega
theorem sm_shift (a b : Nat → Nat) (D : Nat) : ∀ n, sm (fun r => a r + if D ≤ r then b (r - D) else 0) n = sm a n + sm b (n - D)
  | 0 => by simp [sm]
  | n + 1 => by
    show sm _ n + (a n + _) = (sm a n + a n) + _
    rw [sm_shift a b D n]
    by_cases h : D ≤ n
    · rw [if_pos h, show n + 1 - D = (n - D) + 1 from by omega]; show _ = _ + (sm b (n - D) + b (n - D)); omega
    · rw [if_neg h, show n + 1 - D = n - D from by omega]; omega
theorem sm_one (n : Nat) : sm (fun r => if r = 0 then 1 else 0) (n + 1) = 1 := by
  induction n with
  | zero => rfl
  | succ n ih => show sm _ (n + 1) + (if n + 1 = 0 then 1 else 0) = 1; rw [ih, if_neg (by omega)]
theorem sm_RR : ∀ d f n, d * f < n → sm (RR d f) n = PP d f
  | 0, f, n, h => by
    obtain ⟨m, rfl⟩ : ∃ m, n = m + 1 := ⟨n - 1, by omega⟩
    exact sm_one m
  | d + 1, 0, n, h => by
    obtain ⟨m, rfl⟩ : ∃ m, n = m + 1 := ⟨n - 1, by omega⟩
    exact sm_one m
  | d + 1, f + 1, n, h => by
    have e1 : (d + 1) * (f + 1) = d * (f + 1) + (f + 1) := Nat.succ_mul _ _
    have e2 : (d + 1) * (f + 1) = (d + 1) * f + (d + 1) := Nat.mul_succ _ _
    have e3 : RR (d + 1) (f + 1) = fun r => RR d (f + 1) r + if d + 1 ≤ r then RR (d + 1) f (r - (d + 1)) else 0 := rfl
    rw [e3, sm_shift, sm_RR d (f + 1) n (by omega), sm_RR (d + 1) f (n - (d + 1)) (by omega), PP_step]
theorem PP_small (d f : Nat) (hd : d ≤ 8) (hf : f ≤ 8) : PP d f ≤ 12870 := by
  have h : ∀ d : Fin 9, ∀ f : Fin 9, PP d.val f.val ≤ 12870 := by decide +kernel
  exact h ⟨d, by omega⟩ ⟨f, by omega⟩
theorem sm_RR_le (d f k : Nat) (hd : d ≤ 8) (hf : f ≤ 8) : sm (RR d f) k ≤ 12870 := by
  have h := sm_mono (RR d f) k (d * f + 1)
  rw [sm_RR d f (k + (d * f + 1)) (by omega)] at h
  exact Nat.le_trans h (PP_small d f hd hf)
theorem RR_small (d f r : Nat) (hd : d ≤ 8) (hf : f ≤ 8) : RR d f r ≤ 12870 := by
  have h := sm_RR_le d f (r + 1) hd hf
  have : sm (RR d f) (r + 1) = sm (RR d f) r + RR d f r := rfl
  omega
/-- The next count by multiplication and division. -/
theorem PP_next (d f : Nat) (hd : d < 8) (hf : f ≤ 8) : PP d f * (f + (d + 1)) / (d + 1) = PP (d + 1) f ∧ PP d f * (f + (d + 1)) ≤ 205920 := by
  have h : ∀ d : Fin 8, ∀ f : Fin 9, PP d.val f.val * (f.val + (d.val + 1)) / (d.val + 1) = PP (d.val + 1) f.val ∧ PP d.val f.val * (f.val + (d.val + 1)) ≤ 205920 := by decide +kernel
  exact h ⟨d, hd⟩ ⟨f, by omega⟩
end Go.Proofs.Ytmpbhhggbmjfcaa
