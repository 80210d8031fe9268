/- Plain laws on faces: the sizes sum up, each face has a tile, joined tiles have one number. -/
import Derived.Test.YtmpbhhggbmjfcaaFaceF
import Derived.Test.YtmpbhhggbmjfcaaCards2
namespace Go.Proofs.Ytmpbhhggbmjfcaa
open Go.RowKit
set_option linter.unusedVariables false
set_option linter.unusedSimpArgs false
set_option maxRecDepth 20000

def csum (lab : Nat → Nat) (m : Nat) : Nat → Nat
  | 0 => 0
  | n + 1 => csum lab m n + cnt (fun t => (lab t : Int)) n m
theorem csum_zero (lab : Nat → Nat) : ∀ n, csum lab 0 n = 0
  | 0 => rfl
  | n + 1 => by show csum lab 0 n + 0 = 0; rw [csum_zero lab n]
theorem csum_step (lab : Nat → Nat) (m : Nat) : ∀ n, csum lab (m + 1) n = csum lab m n + (if lab m < n then 1 else 0)
  | 0 => by rw [if_neg (by omega)]; rfl
  | n + 1 => by
    show csum lab (m + 1) n + (cnt (fun t => (lab t : Int)) n m + (if (lab m : Int) = (n : Int) then 1 else 0)) = csum lab m n + cnt (fun t => (lab t : Int)) n m + _
    rw [csum_step lab m n]
    by_cases h1 : lab m < n
    · rw [if_pos h1, if_neg (by omega), if_pos (by omega)]; omega
    · by_cases h2 : lab m = n
      · rw [if_neg h1, if_pos (by omega), if_pos (by omega)]; omega
      · rw [if_neg h1, if_neg (by omega), if_neg (by omega)]; omega
theorem csum_all (lab : Nat → Nat) : ∀ m n, nxt lab m ≤ n → csum lab m n = m
  | 0, n, _ => csum_zero lab n
  | m + 1, n, h => by
    have h' : max (nxt lab m) (lab m + 1) ≤ n := h
    rw [csum_step, csum_all lab m n (by omega), if_pos (by omega)]
theorem csum_le (lab : Nat → Nat) : ∀ m n, csum lab m n ≤ m
  | 0, n => by rw [csum_zero]; omega
  | m + 1, n => by
    have := csum_le lab m n
    rw [csum_step]; split <;> omega
theorem cnt_pos {M : Nat → Int} {f : Int} : ∀ {m u : Nat}, u < m → M u = f → 1 ≤ cnt M f m
  | m + 1, u, h, e => by
    show 1 ≤ cnt M f m + (if M m = f then 1 else 0)
    by_cases hu : u = m
    · subst hu; rw [if_pos e]; omega
    · have := cnt_pos (M := M) (f := f) (m := m) (u := u) (by omega) e; omega
theorem face_pos {E : Nat → Nat → Prop} {m : Nat} {lab : Nat → Nat} (h : Labels E m lab) {f : Nat} (hf : f < nxt lab m) : 1 ≤ cnt (fun t => (lab t : Int)) f m := by
  obtain ⟨u, hu, e⟩ := nxt_hit (fun u hu => h.2.2 u hu) f hf
  exact cnt_pos hu (by show (lab u : Int) = f; rw [e])
theorem face_zero {E : Nat → Nat → Prop} {m : Nat} {lab : Nat → Nat} (h : Labels E m lab) (hm : 0 < m) : lab 0 = 0 := by
  have : lab 0 ≤ 0 := h.2.2 0 hm
  omega
theorem face_left {ss : List ByteArray} {N m : Nat} {lab : Nat → Nat} (h : Labels (Ed ss N m) m lab) {k i : Nat} (hi : i + 1 < N) (hm : k * N + (i + 1) < m) (hb : byt (sel ss k) i = byt (sel ss k) (i + 1)) : lab (k * N + i) = lab (k * N + (i + 1)) := by
  refine h.1 _ _ (.inl ⟨hm, by omega, ?_, ?_⟩)
  · rw [(tile_div hi).2]; omega
  · rw [(tile_div hi).1, (tile_div hi).2, ← hb]; rfl
theorem face_up {ss : List ByteArray} {N m : Nat} {lab : Nat → Nat} (h : Labels (Ed ss N m) m lab) {k i : Nat} (hi : i < N) (hm : (k + 1) * N + i < m) (hb : sameV (sel ss k) (sel ss (k + 1)) i = true) : lab (k * N + i) = lab ((k + 1) * N + i) := by
  refine h.1 _ _ (.inr ⟨hm, by rw [Nat.add_mul]; omega, ?_⟩)
  rw [(tile_div hi).1, (tile_div hi).2]; exact hb
theorem ext_eq {s t : ByteArray} {i : Nat} (hi : i < s.size) (hj : i < t.size) : (s.extract i (i + 1) = t.extract i (i + 1)) ↔ byt s i = byt t i := by
  have one : ∀ (u : ByteArray), i < u.size → (u.extract i (i + 1)).data.toList = [byt u i] := fun u hu => by
    rw [ByteArray.data_extract, Array.toList_extract]
    show List.take (i + 1 - i) (List.drop i u.data.toList) = [byt u i]
    rw [byt_get u i hu, show i + 1 - i = 1 from by omega]
    have : List.drop i u.data.toList = u[i] :: List.drop (i + 1) u.data.toList := by
      rw [List.drop_eq_getElem_cons (by simpa using hu)]; rfl
    rw [this]; rfl
  constructor
  · intro h
    have := congrArg (fun x : ByteArray => x.data.toList) h
    simp only [one s hi, one t hj] at this
    simpa using this
  · intro h
    apply ByteArray.ext; apply Array.ext'
    rw [one s hi, one t hj, h]
end Go.Proofs.Ytmpbhhggbmjfcaa
