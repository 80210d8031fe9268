/- What FnFaces calls: the shapes that its walk meets. -/
import Derived.Test.YtmpbhhggbmjfcaaFaceW
namespace Go.Proofs.Ytmpbhhggbmjfcaa
open Go.RowKit
set_option linter.unusedVariables false
set_option linter.unusedSimpArgs false
set_option maxRecDepth 20000

section
variable {W u u' : World} {b d f q : Nat} {p : Option Addr} {ss : List ByteArray} {lab : Nat → Nat} {K N m : Nat}
theorem fw_zero (D : Dim d f ss K N m) (hl : Labels (Ed ss N m) m lab) (s : St W b d f p q ss u) :
    Calls Try.prog 22 #[.agg #[.int .i64 (d : Int), .int .i64 (f : Int), .slice p ss.length q], .int .i64 0, .int .i64 0] u fun e w' => e = .returned (.int .i64 0) ∧ St W b d f p q ss w' := by
  refine (fw_of D hl (k := 0) (i := 0) (by have := D.k1; omega) (by have := D.d1; have := D.nn; omega) s).mono ?_
  rintro e w' ⟨rfl, h⟩
  refine ⟨ret_int' ?_, h⟩
  rw [Nat.zero_mul, Nat.zero_add, face_zero hl D.mpos]; rfl
theorem fw_over (D : Dim d f ss K N m) (hl : Labels (Ed ss N m) m lab) (s : St W b d f p q ss u) {nx : Nat} (hn : nxt lab m = nx) :
    Calls Try.prog 27 #[.agg #[.int .i64 (d : Int), .int .i64 (f : Int), .slice p ss.length q], .int .i64 (nx : Int)] u fun e w' => e = .returned (.int .i64 0) ∧ St W b d f p q ss w' := by
  refine (fw_size D hl (nx : Int) s).mono ?_
  rintro e w' ⟨rfl, h⟩
  refine ⟨ret_int' ?_, h⟩
  rw [cnt_none (.inr (by rw [hn]; exact Int.le_refl _))]; rfl
theorem fw_next (D : Dim d f ss K N m) (hl : Labels (Ed ss N m) m lab) {k k2 i : Nat} (hk : k2 < K) (hi : i < N) (h2 : k2 = k + 1) (s : St W b d f p q ss u) (hsame : sameV (sel ss k) (sel ss k2) i = true) :
    Calls Try.prog 22 #[.agg #[.int .i64 (d : Int), .int .i64 (f : Int), .slice p ss.length q], .int .i64 (k2 : Int), .int .i64 (i : Int)] u fun e w' => e = .returned (.int .i64 (lab (k * N + i) : Int)) ∧ St W b d f p q ss w' := by
  subst h2
  refine (fw_of D hl hk hi s).mono ?_
  rintro e w' ⟨rfl, h⟩
  refine ⟨ret_int' ?_, h⟩
  rw [face_up hl hi (D.lt hk hi) hsame]
theorem fw_back (D : Dim d f ss K N m) (hl : Labels (Ed ss N m) m lab) {k i i' : Nat} (hk : k < K) (hi : i < N) (h2 : i = i' + 1) (s : St W b d f p q ss u) (hb : byt (sel ss k) i' = byt (sel ss k) i) :
    Calls Try.prog 22 #[.agg #[.int .i64 (d : Int), .int .i64 (f : Int), .slice p ss.length q], .int .i64 (k : Int), .int .i64 (i' : Int)] u fun e w' => e = .returned (.int .i64 (lab (k * N + i) : Int)) ∧ St W b d f p q ss w' := by
  subst h2
  refine (fw_of D hl hk (by omega) s).mono ?_
  rintro e w' ⟨rfl, h⟩
  refine ⟨ret_int' ?_, h⟩
  rw [face_left hl hi (D.lt hk hi) hb]
theorem fw_join2 (D : Dim d f ss K N m) {k k2 i : Nat} (hk : k2 < K) (hi : i < N) (h2 : k2 = k + 1) (s : St W b d f p q ss u) {J : Bool} (hJ : sameV (sel ss k) (sel ss k2) i = J) :
    Calls Try.prog 48 #[.agg #[.int .i64 (d : Int), .int .i64 (f : Int), .slice p ss.length q], .int .i64 (k : Int), .int .i64 (i : Int), .int .i64 (i : Int)] u fun e w' => e = .returned (.bool J) ∧ St W b d f p q ss w' := by
  subst h2; subst hJ
  exact fw_join D hk hi s
theorem fw_place2 (D : Dim d f ss K N m) {k i : Nat} (hk : k < K) (hi : i < N) {cf cd : Nat} {x : ByteArray} (h1 : cF ((sel ss k).data.toList.take i) = cf) (h2 : cD ((sel ss k).data.toList.take i) = cd) (h3 : (sel ss k).extract i (i + 1) = x) (s : St W b d f p q ss u) :
    Calls Try.prog 47 #[.agg #[.int .i64 (d : Int), .int .i64 (f : Int), .slice p ss.length q], .int .i64 (k : Int), .int .i64 (i : Int)] u fun e w' => e = .returned (.tuple #[.int .i64 (cf : Int), .int .i64 (cd : Int), .string x]) ∧ St W b d f p q ss w' := by
  subst h1; subst h2; subst h3
  exact fw_place D hk hi s
theorem St.str {bb oo : Nat} (s : St W b d f (some ⟨bb, oo, none⟩) q ss u) {k : Nat} {x : ByteArray} (hk : k < ss.length) (h : sel ss k = x) : u.cell? ⟨bb, oo + k, none⟩ = some (.string x) := by subst h; exact s.rd.cellAt hk
end

end Go.Proofs.Ytmpbhhggbmjfcaa
