/- Three closed facts on the program's head (may it be entered, does it lift, how was it made), by its first words alone. -/
import Derived.Test.YtmpbhhggbmjfcaaRows
import Derived.WalkKit
import Derived.ProofKit
namespace Go.Proofs.Ytmpbhhggbmjfcaa

theorem and_mk {a b : Bool} (h : a = true) (k : b = true) : (a && b) = true := by rw [h, k]; rfl
theorem behind_of {h s : List Char} {r : List (List Char)} (hc : ((h == "harness".toList || h == "ownmain".toList) && isSumSigns s) = true) : behindMainWord (h :: s :: r) = r := by
  unfold behindMainWord
  dsimp only
  rw [if_pos hc]
def cellSp : Char := Char.ofNat 32
theorem wordsSigns_skip : ∀ (w r : List Char), w.all (fun c => c != cellSp) = true → wordsSigns (w ++ cellSp :: r) = w :: wordsSigns r
  | [], r, _ => rfl
  | c :: w, r, h => by
    simp only [List.all_cons, Bool.and_eq_true, bne_iff_ne] at h
    rw [List.cons_append]
    have ih := wordsSigns_skip w r h.2
    have hs : ∀ (c : Char) (l : List Char) (m : List (List Char)), c ≠ cellSp → wordsSigns l = w :: m → wordsSigns (c :: l) = (c :: w) :: m := by
      intro c l m hc hl
      rw [wordsSigns.eq_3 _ _ (fun e => hc e), hl]
    exact hs c _ _ h.1 ih
def cellW0 : List Char := [104, 97, 114, 110, 101, 115, 115].map Char.ofNat
def cellW1 : List Char := [53, 99, 50, 100, 48, 51, 99, 55, 100, 49, 99, 50, 57, 102, 102, 50, 50, 53, 50, 51, 55, 97, 52, 51, 50, 97, 99, 99, 50, 56, 55, 50, 51, 49, 55, 102, 53, 50, 97, 54, 55, 54, 55, 51, 100, 56, 57, 53, 97, 57, 48, 56, 48, 100, 99, 98, 97, 49, 51, 51, 49, 97, 100, 101].map Char.ofNat
def cellW2 : List Char := [99, 117, 116].map Char.ofNat
def cellRest : List Char := [97, 116, 32, 108, 111, 111, 112, 46, 101, 120, 97, 109, 112, 108, 101, 47, 103, 48, 51, 51, 48, 53, 47, 108, 97, 119, 115, 46, 70, 110, 69, 120, 97, 99, 116, 67, 117, 116, 82, 117, 110, 115, 32, 108, 111, 111, 112, 46, 101, 120, 97, 109, 112, 108, 101, 47, 103, 48, 51, 51, 48, 53, 47, 108, 97, 119, 115, 46, 70, 110, 69, 120, 97, 99, 116, 67, 111, 117, 110, 116, 87, 105, 116, 104, 82, 111, 111, 109, 32, 108, 111, 111, 112, 46, 101, 120, 97, 109, 112, 108, 101, 47, 103, 48, 51, 51, 48, 53, 47, 108, 97, 119, 115, 46, 70, 110, 69, 120, 97, 99, 116, 70, 97, 99, 101, 79, 102, 32, 108, 111, 111, 112, 46, 101, 120, 97, 109, 112, 108, 101, 47, 103, 48, 51, 51, 48, 53, 47, 108, 97, 119, 115, 46, 70, 110, 69, 120, 97, 99, 116, 67, 111, 117, 110, 116, 70, 97, 99, 101, 115, 32, 108, 111, 111, 112, 46, 101, 120, 97, 109, 112, 108, 101, 47, 103, 48, 51, 51, 48, 53, 47, 108, 97, 119, 115, 46, 70, 110, 69, 120, 97, 99, 116, 70, 97, 99, 101, 83, 105, 122, 101, 32, 108, 111, 111, 112, 46, 101, 120, 97, 109, 112, 108, 101, 47, 103, 48, 51, 51, 48, 53, 47, 108, 97, 119, 115, 46, 70, 110, 69, 120, 97, 99, 116, 76, 111, 119, 101, 114, 67, 97, 114, 100, 32, 108, 111, 111, 112, 46, 101, 120, 97, 109, 112, 108, 101, 47, 103, 48, 51, 51, 48, 53, 47, 108, 97, 119, 115, 46, 70, 110, 69, 120, 97, 99, 116, 85, 112, 112, 101, 114, 67, 97, 114, 100, 32, 108, 111, 111, 112, 46, 101, 120, 97, 109, 112, 108, 101, 47, 103, 48, 51, 51, 48, 53, 47, 108, 97, 119, 115, 46, 70, 110, 67, 111, 114, 110, 101, 114, 115, 32, 108, 111, 111, 112, 46, 101, 120, 97, 109, 112, 108, 101, 47, 103, 48, 51, 51, 48, 53, 47, 108, 97, 119, 115, 46, 70, 110, 70, 97, 99, 101, 115].map Char.ofNat
theorem cellInit : Try.prog.initOrder = String.ofList (cellW0 ++ cellSp :: (cellW1 ++ cellSp :: (cellW2 ++ cellSp :: (cellRest)))) := by kernel_rfl
theorem cellWords : behindMainWord (wordsSigns Try.prog.initOrder.toList) = cellW2 :: wordsSigns cellRest := by
  rw [cellInit, String.toList_ofList]
  rw [wordsSigns_skip cellW0 _ (by decide +kernel)]
  rw [wordsSigns_skip cellW1 _ (by decide +kernel)]
  rw [wordsSigns_skip cellW2 _ (by decide +kernel)]
  exact behind_of (by decide +kernel)
theorem mayEnter_of {P : Program} {w : List Char} {R : List (List Char)} (h : behindMainWord (wordsSigns P.initOrder.toList) = w :: R) (hs : stripLifts liftWords (w :: R) = ([], w :: R))
    (h1 : P.laysLater = false) (h2 : P.bearsReflect = false) (h3 : P.doorFits [] = true) (hc : (some w == some "cut".toList) = true) : P.mayEnter = true := by
  unfold Program.mayEnter
  rw [h]
  dsimp only
  rw [hs, h1, h2]
  dsimp only
  rw [h3, List.head?_cons, hc]
  simp
theorem headLifts_of {P : Program} {w : List Char} {R : List (List Char)} (h : behindMainWord (wordsSigns P.initOrder.toList) = w :: R) (hs : stripLifts liftWords (w :: R) = ([], w :: R)) : P.headLifts = [] := by
  unfold Program.headLifts
  rw [h]
  dsimp only
  rw [hs]
  simp
theorem liftsFinal_of {P : Program} {w : List Char} {R : List (List Char)} (h : behindMainWord (wordsSigns P.initOrder.toList) = w :: R) (hl : P.headLifts = []) (hc : (some w == some "carried".toList) = false) : P.liftsFinal = false := by
  unfold Program.liftsFinal
  rw [h, hl]
  dsimp only
  rw [List.head?_cons, hc]
  simp
theorem make_of {P : Program} {w : List Char} {R : List (List Char)} (h : behindMainWord (wordsSigns P.initOrder.toList) = w :: R) (h1 : (w == "gc".toList) = false) (h2 : (w == "spec".toList) = false) (hc : (w == "cut".toList) = true) : P.make = some .cut := by
  unfold Program.make
  rw [h]
  dsimp only
  rw [h1, h2, hc]
  simp
theorem cellStrip (R : List (List Char)) : stripLifts liftWords (cellW2 :: R) = ([], cellW2 :: R) := by kernel_rfl
theorem cellLater : Try.prog.laysLater = false := by kernel_rfl
theorem cellReflect : Try.prog.bearsReflect = false := by kernel_rfl
theorem cellDoor : Try.prog.doorFits [] = true := by kernel_rfl
theorem cellMay : Try.prog.mayEnter = true := mayEnter_of cellWords (cellStrip _) cellLater cellReflect cellDoor (by decide +kernel)
theorem cellLifts : Try.prog.headLifts = [] := headLifts_of cellWords (cellStrip _)
theorem cellFinal : Try.prog.liftsFinal = false := liftsFinal_of cellWords cellLifts (by decide +kernel)
theorem cellMake : Try.prog.make = some .cut := make_of cellWords (by decide +kernel) (by decide +kernel) (by decide +kernel)
end Go.Proofs.Ytmpbhhggbmjfcaa

