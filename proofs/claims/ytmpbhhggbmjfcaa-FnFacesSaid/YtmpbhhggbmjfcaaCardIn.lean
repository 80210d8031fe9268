/- A card that came in, read as two numbers and a list of strings. -/
import Derived.Test.YtmpbhhggbmjfcaaCards
import Derived.ProofKit
import Derived.OpenShut
import Derived.ChangeOld
import Derived.Lib.SmallJoins
import Derived.SliceStrings
namespace Go.Proofs.Ytmpbhhggbmjfcaa
open Go.ChangeShapes Go.WideShapes Go.ChangeAt Go.RowKit Go.Joins
set_option linter.unusedVariables false

theorem OwnS.rd {B n c : Nat} {a : Option Addr} {ss : List ByteArray} {w : World} (h : OwnS B (.slice a n c) ss w) : RdS w a ss := by
  obtain ⟨a', c', e, hr⟩ := h.read
  obtain ⟨rfl, _⟩ : a = a' ∧ True := by simpa using (Value.slice.inj e).1
  exact hr
theorem cardCells : Try.prog.cellsOf 31 = 3 := by kernel_rfl
theorem strCells1 : Try.prog.cellsOf 9 = 1 := by kernel_rfl
theorem sel_take {zs : List ByteArray} {len j : Nat} (h : j < len) : sel (zs.take len) j = zs.getD j ByteArray.empty := by
  unfold sel; rw [List.getD_eq_getElem?_getD, List.getD_eq_getElem?_getD, List.getElem?_take_of_lt h]
set_option maxRecDepth 100000 in
theorem cardIn {H : Type} {enc : TypeId × Value → H} {W : World} {base : Nat} {v : Value} {d : DataW H} {p : List MemPlace}
    (hv : Value.okWide Try.prog W .any base 31 v) (h : DataW.Trod enc Try.prog W 0 (fun _ => true) true 31 v d p) :
    ∃ (dn fw : Int) (a : Option Addr) (c : Nat) (ss : List ByteArray), v = .agg #[.int .i64 dn, .int .i64 fw, .slice a ss.length c] ∧ RdS W a ss ∧ SzS ss ∧ (Lit.int .i64 dn).wf = true ∧ (Lit.int .i64 fw).wf = true := by
  obtain ⟨v0, v1, v2, y0, y1, y2, n, rfl, _, _, h0, h1, h2⟩ := open_agg3 Try.underlying31 (by kernel_rfl) cardCells hv h
  obtain ⟨x0, e0, _, wx0⟩ := DataW.trod_int Try.underlying3 h0
  obtain ⟨x1, e1, _, wx1⟩ := DataW.trod_int Try.underlying3 h1
  simp at e0 e1
  subst e0 e1
  rcases open_strings Try.underlying29 Try.underlying9 strCells1 h2 with ⟨hcs, _⟩ | ⟨ad, len, cap, zs, hcs, _, hl, hm, hz, _, hcell, hwz⟩
  · simp at hcs
    subst hcs
    refine ⟨x0, x1, none, 0, [], rfl, .inl rfl, ⟨Nat.zero_le _, fun j => ?_⟩, wx0, wx1⟩
    rw [sel_out [] j (Nat.zero_le _)]; exact Nat.zero_le _
  · simp at hcs
    subst hcs
    have hzl : zs.length = cap := by simpa using hz
    have hlen : (zs.take len).length = len := by rw [List.length_take]; omega
    refine ⟨x0, x1, some ad, cap, zs.take len, by rw [hlen], ?_, ⟨by rw [hlen]; omega, fun j => ?_⟩, wx0, wx1⟩
    · rcases Nat.eq_zero_or_pos len with h0 | h0
      · left; rw [h0]; rfl
      · right
        obtain ⟨b, off, spot⟩ := ad
        have hc0 := hcell 0 (by omega)
        have hspot : spot = none := by simpa [Addr.add] using World.cell?_spot hc0
        subst hspot
        refine ⟨b, off, rfl, by omega, ?_, fun j hj => ?_⟩
        · exact World.block_lt_of_cell? W _ hc0
        · rw [hlen] at hj
          have := hcell j (by omega)
          rw [sel_take hj, ← this]
          unfold Addr.add; split <;> simp_all
    · rcases Nat.lt_or_ge j len with hj | hj
      · rw [sel_take hj, List.getD_eq_getElem?_getD, List.getElem?_eq_getElem (by omega)]
        exact hwz _ (List.getElem_mem _)
      · rw [sel_out _ j (by rw [hlen]; exact hj)]; exact Nat.zero_le _
end Go.Proofs.Ytmpbhhggbmjfcaa
