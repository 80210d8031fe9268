/- Hexadecimal digits as plain lists of bytes; the contracts of spec.l01Figure, impl.EncodeHex, spec.EncodeHex. -/
import Derived.Test.YtmfboleiakbpnaaDoorRows
import Derived.Test.YtmfboleiakbpnaaDoorOwn
import Derived.StillTailTactics
import Derived.Deep.RegionLaw
import Derived.BigRegion
import Derived.IntWalk
namespace Go.Proofs.YtmfboleiakbpnaaDoor
open Go.RowKit
set_option maxRecDepth 20000

def hexd (n : Nat) : UInt8 := if n < 10 then UInt8.ofNat (48 + n) else UInt8.ofNat (87 + n)
def hexB (b : UInt8) : List UInt8 := [hexd (b.toNat / 16), hexd (b.toNat % 16)]
def hexL (l : List UInt8) : List UInt8 := l.flatMap hexB
theorem hexL_length (l : List UInt8) : (hexL l).length = 2 * l.length := by
  induction l with
  | nil => rfl
  | cons b l ih => simp only [hexL, List.flatMap_cons, List.length_append] at ih ⊢; rw [ih]; simp [hexB]; omega
theorem hexd_nat (n : Nat) (h : n < 16) : ((hexd n).toNat : Int) = if n < 10 then (48 + n : Int) else (87 + n : Int) := by
  unfold hexd; split <;> simp <;> omega
theorem hexL_snoc (l : List UInt8) (b : UInt8) : hexL (l ++ [b]) = hexL l ++ hexB b := by simp [hexL]

theorem hexdig (j : Nat) (h : j < 16) : ∀ h', (({ data := #[48, 49, 50, 51, 52, 53, 54, 55, 56, 57, 97, 98, 99, 100, 101, 102] } : ByteArray)[j]'h').toNat = (hexd j).toNat := by
  intro _
  have : ∀ i : Fin 16, (({ data := #[48, 49, 50, 51, 52, 53, 54, 55, 56, 57, 97, 98, 99, 100, 101, 102] } : ByteArray)[i.val]'(i.isLt)).toNat = (hexd i.val).toNat := by decide
  exact this ⟨j, h⟩
theorem rel_hex {w1 : World} {B : Nat} {e : TypeId} {v x y : Value} {s : ByteArray} {k : Nat} (hk : k < s.size) (h : w1.ownsRow B e 1 v ((hexL (s.data.toList.take k)).length + 2) (byteCells (hexL (s.data.toList.take k)) ++ [x, y]))
    (hx : x = .int .u8 ((hexd (s[k].toNat / 16)).toNat : Int)) (hy : y = .int .u8 ((hexd (s[k].toNat % 16)).toNat : Int)) :
    w1.ownsRow B e 1 v (hexL (s.data.toList.take (k + 1))).length (byteCells (hexL (s.data.toList.take (k + 1)))) := by
  subst hx hy
  rw [take_snoc s k hk, hexL_snoc, byteCells_append, List.length_append]
  exact h

set_option maxHeartbeats 400000 in
theorem figure_any (x : Int) (h0 : 0 ≤ x) (h1 : x < 16) (w : World) :
    Calls Tryd.prog 25 #[.int .i64 x] w fun e w' => e = .returned (.int .u8 ((hexd x.toNat).toNat : Int)) ∧ w = w' := by
  go_enter Tryd.func25, Tryd.ntmps25
  go_wp2
  all_goals (go_ret; refine ⟨ret_int ?_, rfl⟩; rw [hexd_nat _ (by omega)]; split <;> omega)

theorem Tryd.info5 : (Tryd.prog.info? 5).map (fun i => (i.zero, i.size, i.bytes)) = some (some (.int .u8 0), 1, 1) := by kernel_rfl

theorem implEncode_long (s : ByteArray) (hs : 20000 < s.size) (hm : s.size ≤ maxLen) (w : World) :
    Calls Tryd.prog 18 #[.string s] w fun e w' => e = .returned (.tuple #[.string ⟨#[]⟩, .bool false]) ∧ w = w' := by
  unfold maxLen at hm
  go_enter Tryd.func18, Tryd.ntmps18
  go_wp2
  go_ret2
  exact ⟨rfl, rfl⟩

set_option maxHeartbeats 400000 in
theorem implEncode_ok (s : ByteArray) (hs : s.size ≤ 20000) (w : World) :
    Calls Tryd.prog 18 #[.string s] w fun e w' => e = .returned (.tuple #[.string ⟨(hexL s.data.toList).toArray⟩, .bool true]) ∧ Below w.heap.size w w' := by
  obtain ⟨i0, hi, hz0, hz1, hz2⟩ := info_parts Tryd.info5
  go_enter Tryd.func18, Tryd.ntmps18
  go_wp2
  go_loopw [4, 12] (fun v i wr => ∃ k : Nat, k ≤ s.size ∧ i = .int .i64 k ∧ wr.ownsRow w.heap.size 5 1 v (hexL (s.data.toList.take k)).length (byteCells (hexL (s.data.toList.take k))) ∧ Below w.heap.size w wr) (fun _ i _ => s.size - (intOf i).toNat)
  case atStart =>
    exact ⟨0, Nat.zero_le _, rfl, World.ownsRow_made w #[] 0 (Nat.le_refl _) (Nat.zero_le _) rfl, (Below.refl _ _).alloc (Nat.le_refl _) _⟩
  case round =>
    obtain ⟨k, hk, rfl, hown, hb⟩ := hrel
    by_cases hlt : k < s.size
    · have hbb : s[k].toNat < 256 := UInt8.toNat_lt _
      have hq : IntKind.u8.wrap ((s[k].toNat : Int) / 16) = (s[k].toNat : Int) / 16 := IntWalk.u8_in _ (by omega)
      have hr : ((s[k].toNat : Int)).tmod 16 = (s[k].toNat : Int) % 16 := Int.tmod_eq_emod_of_nonneg (by omega)
      have hq2 : (s[k].toNat : Int) / 16 < 16 := by omega
      have hr2 : (s[k].toNat : Int) % 16 < 16 := by omega
      have hq3 : 0 ≤ (s[k].toNat : Int) / 16 := by omega
      have hr3 : 0 ≤ (s[k].toNat : Int) % 16 := by omega
      have hn0 : (hexL (s.data.toList.take k)).length = 2 * (s.data.toList.take k).length := hexL_length _
      have hnk : (s.data.toList.take k).length ≤ k := List.length_take_le _ _
      have hn1 : (hexL (s.data.toList.take k)).length + 2 ≤ maxLen := by unfold maxLen; omega
      have hn2 : ((hexL (s.data.toList.take k)).length + 2) * 1 ≤ 140737488355328 := by omega
      have hsz : w.heap.size ≤ wr.drew.heap.size := hb.size
      clear hn0
      go_wp2
      go_region_law (refine step_app2 rfl _ _ 30 rfl w.heap.size 5 i0 (.int .u8 0) 1 Tryd.underlying30 hi hz0 hz1 hz2 rfl _ _ _ rfl hown.drew _ _ rfl rfl rfl hn1 hn2 hsz ?_; intro g cap w1 hown1 hg1)
      all_goals
        have hown2 := rel_hex hlt hown1 (by rw [hexdig _ (by omega), show ((s[k].toNat : Int) / 16).toNat = s[k].toNat / 16 from by omega]) (by rw [hexdig _ (by omega), show ((s[k].toNat : Int) % 16).toNat = s[k].toNat % 16 from by omega])
        have hb1 := below_of_grown hb.drew hsz hown.drew hg1
        clear hown1 hg1 hq hr
        go_wp2
        go_roundw
        case rel => exact ⟨k + 1, by omega, by go_num, hown2, hb1⟩
        case measure => simp [intOf]; omega
    · obtain rfl : k = s.size := by omega
      rw [take_all] at hown
      have hcv := run_convert_own (P := Tryd.prog) wr 30 9 5 Tryd.underlying30 Tryd.underlying5 Tryd.underlying9 hown
      go_wp2
      go_ret2
      exact ⟨rfl, hb⟩
end Go.Proofs.YtmfboleiakbpnaaDoor
