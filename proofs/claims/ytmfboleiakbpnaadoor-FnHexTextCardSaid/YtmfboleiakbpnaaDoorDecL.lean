/- Decoding of hexadecimal digits as plain lists of bytes; the contracts of spec.l01Value, strings.IndexByte at the digits, impl.DecodeHex. -/
import Derived.Test.YtmfboleiakbpnaaDoorRows
import Derived.Test.YtmfboleiakbpnaaDoorOwn
import Derived.Test.YtmfboleiakbpnaaDoorShelf
import Derived.Deep.QuietTactic
import Derived.BigQuiet
import Derived.IntWalk
import Derived.Lib.Hide
namespace Go.Proofs.YtmfboleiakbpnaaDoor
open Go.RowKit
set_option maxRecDepth 20000

def hexv (b : UInt8) : Int := if 48 ≤ b.toNat ∧ b.toNat ≤ 57 then (b.toNat : Int) - 48 else if 97 ≤ b.toNat ∧ b.toNat ≤ 102 then (b.toNat : Int) - 87 else -1
theorem hexv_bd (b : UInt8) : -1 ≤ hexv b ∧ hexv b ≤ 15 := by unfold hexv; split <;> (try split) <;> omega
def decGo (acc : List UInt8) : List UInt8 → Option (List UInt8)
  | a :: b :: r => if hexv a < 0 ∨ hexv b < 0 then none else decGo (acc ++ [UInt8.ofNat (16 * hexv a + hexv b).toNat]) r
  | _ => some acc
def decS (l : List UInt8) : ByteArray := ⟨((decGo [] l).getD []).toArray⟩
def decB (l : List UInt8) : Bool := (decGo [] l).isSome
theorem dec_none {l : List UInt8} (h : decGo [] l = none) : decS l = ⟨#[]⟩ ∧ decB l = false := by unfold decS decB; rw [h]; exact ⟨rfl, rfl⟩
theorem dec_some {l o : List UInt8} (h : decGo [] l = some o) : decS l = ⟨o.toArray⟩ ∧ decB l = true := by unfold decS decB; rw [h]; exact ⟨rfl, rfl⟩
theorem drop_two (s : ByteArray) (k : Nat) (h : k + 1 < s.size) : s.data.toList.drop k = s[k] :: s[k + 1] :: s.data.toList.drop (k + 2) := by
  have h' : k + 1 < s.data.toList.length := by simpa using h
  rw [List.drop_eq_getElem_cons (by omega), List.drop_eq_getElem_cons h']; rfl
theorem dec_bad (s : ByteArray) (k : Nat) (h : k + 1 < s.size) (acc : List UInt8) (hv : hexv s[k] < 0 ∨ hexv s[k + 1] < 0) (he : decGo acc (s.data.toList.drop k) = decGo [] s.data.toList) : decGo [] s.data.toList = none := by
  rw [← he, drop_two s k h, decGo, if_pos hv]
theorem dec_good (s : ByteArray) (k : Nat) (h : k + 1 < s.size) (acc : List UInt8) (h1 : 0 ≤ hexv s[k]) (h2 : 0 ≤ hexv s[k + 1]) (he : decGo acc (s.data.toList.drop k) = decGo [] s.data.toList) :
    decGo (acc ++ [UInt8.ofNat (16 * hexv s[k] + hexv s[k + 1]).toNat]) (s.data.toList.drop (k + 2)) = decGo [] s.data.toList := by
  rw [← he, drop_two s k h, decGo, if_neg (by omega)]
theorem dec_end (s : ByteArray) (acc : List UInt8) (he : decGo acc (s.data.toList.drop s.size) = decGo [] s.data.toList) : decGo [] s.data.toList = some acc := by
  rw [← he, List.drop_eq_nil_of_le (by simp)]; rfl
theorem rel_dec {w1 : World} {B : Nat} {e : TypeId} {v : Value} {acc : List UInt8} {n : Int} (h0 : 0 ≤ n) (h1 : n ≤ 255) (h : w1.ownsRow B e 1 v (acc.length + 1) (byteCells acc ++ [.int .u8 n])) :
    w1.ownsRow B e 1 v (acc ++ [UInt8.ofNat n.toNat]).length (byteCells (acc ++ [UInt8.ofNat n.toNat])) := by
  rw [byteCells_append, List.length_append]
  have : Value.int .u8 n = .int .u8 ((UInt8.ofNat n.toNat).toNat : Int) := by
    congr 1; rw [UInt8.toNat_ofNat']; omega
  rw [this] at h
  exact h

theorem index_hex (b : UInt8) : Lib.indexByte [48, 49, 50, 51, 52, 53, 54, 55, 56, 57, 97, 98, 99, 100, 101, 102] b = hexv b := by
  have : ∀ i : Fin 256, Lib.indexByte [48, 49, 50, 51, 52, 53, 54, 55, 56, 57, 97, 98, 99, 100, 101, 102] (UInt8.ofNat i.val) = hexv (UInt8.ofNat i.val) := by decide +kernel
  have h := this ⟨b.toNat, UInt8.toNat_lt b⟩
  simpa using h
theorem index_any (b : UInt8) (w : World) :
    Calls Tryd.prog 34 #[.string ⟨#[48, 49, 50, 51, 52, 53, 54, 55, 56, 57, 97, 98, 99, 100, 101, 102]⟩, .int .u8 (b.toNat : Int)] w fun e w' => e = .returned (.int .i64 (hexv b)) ∧ w' = w := by
  refine (Tryd.strings_IndexByte _ _ w).mono ?_
  rintro e w' ⟨rfl, rfl⟩
  refine ⟨ret_int ?_, rfl⟩
  rw [← index_hex]
  simp

theorem Tryd.info5d : (Tryd.prog.info? 5).map (fun i => (i.zero, i.size, i.bytes)) = some (some (.int .u8 0), 1, 1) := by kernel_rfl

set_option maxHeartbeats 400000 in
theorem implDecode_bad (s : ByteArray) (hs : s.size % 2 = 1 ∨ 40000 < s.size) (hm : s.size ≤ maxLen) (w : World) :
    Calls Tryd.prog 19 #[.string s] w fun e w' => e = .returned (.tuple #[.string ⟨#[]⟩, .bool false]) ∧ w = w' := by
  unfold maxLen at hm
  by_cases h2 : s.size % 2 = 1
  · have h3 : (((s.size : Int) % 2) == 1) = true := beq_iff_eq.2 (by omega)
    go_enter Tryd.func19, Tryd.ntmps19
    go_wp2
    go_ret2
    exact ⟨rfl, rfl⟩
  · have h3 : (((s.size : Int) % 2) == 1) = false := beq_eq_false_iff_ne.2 (by omega)
    have h4 : 40000 < s.size := by omega
    clear hs
    go_enter Tryd.func19, Tryd.ntmps19
    go_wp2
    go_ret2
    exact ⟨rfl, rfl⟩

set_option maxHeartbeats 800000 in
theorem implDecode_ok (s : ByteArray) (hs : s.size % 2 = 0) (hs2 : s.size ≤ 40000) (w : World) :
    Calls Tryd.prog 19 #[.string s] w fun e w' => e = .returned (.tuple #[.string (decS s.data.toList), .bool (decB s.data.toList)]) ∧ Below w.heap.size w w' := by
  obtain ⟨i0, hi, hz0, hz1, hz2⟩ := info_parts Tryd.info5d
  have h3 : (((s.size : Int) % 2) == 1) = false := beq_eq_false_iff_ne.2 (by omega)
  go_enter Tryd.func19, Tryd.ntmps19
  go_wp2
  go_loopw [4, 5] (fun v i wr => ∃ (k : Nat) (acc : List UInt8), k ≤ s.size ∧ k % 2 = 0 ∧ acc.length ≤ k ∧ i = .int .i64 k ∧ Hid (decGo acc (s.data.toList.drop k) = decGo [] s.data.toList) ∧ wr.ownsRow w.heap.size 5 1 v acc.length (byteCells acc) ∧ Below w.heap.size w wr) (fun _ i _ => s.size - (intOf i).toNat)
  case atStart =>
    exact ⟨0, [], Nat.zero_le _, rfl, Nat.le_refl _, rfl, Lib.hid rfl, World.ownsRow_made w #[] 0 (Nat.le_refl _) (Nat.zero_le _) rfl, (Below.refl _ _).alloc (Nat.le_refl _) _⟩
  case round =>
    obtain ⟨k, acc, hk, hk2, hacc, rfl, HD, hown, hb⟩ := hrel
    by_cases hlt : k < s.size
    · have hlt2 : k + 1 < s.size := by omega
      have b1 := hexv_bd s[k]
      have b2 := hexv_bd s[k + 1]
      have e1 : IntKind.i64.wrap ((k : Int) + 1) = (k : Int) + 1 := IntWalk.i64_in _ (by omega)
      have e2 : ((k : Int) + 1).toNat = k + 1 := by omega
      have e3 : (0 : Int) ≤ (k : Int) + 1 := by omega
      have e4 : (k : Int) + 1 < (s.size : Int) := by omega
      go_wp2
      go_quiet ((go_at_call 34; exact Calls.quiet_of_same (index_any _ _)))
      generalize hvA : hexv s[k] = vA at b1 ⊢
      generalize hvB : hexv s[k + 1] = vB at b2 ⊢
      have HA := Lib.hid hvA; have HB := Lib.hid hvB; clear hvA hvB
      have hb' : Below w.heap.size w (wr.drewN nq) := hb.trans ⟨rfl, rfl, rfl, Nat.le_refl _, fun _ _ => rfl⟩
      by_cases h1 : vA < 0
      · obtain ⟨r1, r2⟩ := dec_none (dec_bad s k hlt2 acc (.inl (by rw [HA.out]; exact h1)) HD.out)
        have R1 := Lib.hid r1; have R2 := Lib.hid r2; clear r1 r2
        go_wp2
        go_ret2
        exact ⟨ret_sb R1.out R2.out, hb'⟩
      by_cases h2 : vB < 0
      · obtain ⟨r1, r2⟩ := dec_none (dec_bad s k hlt2 acc (.inr (by rw [HB.out]; exact h2)) HD.out)
        have R1 := Lib.hid r1; have R2 := Lib.hid r2; clear r1 r2
        go_wp2
        go_ret2
        exact ⟨ret_sb R1.out R2.out, hb'⟩
      · have g1 : 0 ≤ vA := by omega
        have g2 : 0 ≤ vB := by omega
        have HD2 := Lib.hid (dec_good s k hlt2 acc (by rw [HA.out]; exact g1) (by rw [HB.out]; exact g2) HD.out)
        have g3 : 0 ≤ 16 * vA + vB := by omega
        have g4 : 16 * vA + vB ≤ 255 := by omega
        have hn1 : acc.length + 1 ≤ maxLen := by unfold maxLen; omega
        have hn2 : (acc.length + 1) * 1 ≤ 140737488355328 := by omega
        have hsz : w.heap.size ≤ (wr.drewN nq).heap.size := hb.size
        have hown' : (wr.drewN nq).ownsRow w.heap.size 5 1 u4 acc.length (byteCells acc) := hown
        go_wp2_with (at_builtin; refine wpList_app1 rfl _ _ 30 rfl w.heap.size 5 i0 (.int .u8 0) 1 Tryd.underlying30 hi hz0 hz1 hz2 rfl _ _ _ rfl hown' _ rfl rfl hn1 hn2 hsz ?_; intro g cap w1 hown1 hg1)
        have hown2 := rel_dec g3 g4 hown1
        have hb1 := below_of_grown hb' hsz hown' hg1
        have hlen : (acc ++ [UInt8.ofNat (16 * vA + vB).toNat]).length ≤ k + 2 := by simp; omega
        rw [HA.out, HB.out] at HD2
        clear hown1 hg1
        go_wp2
        go_roundw
        case rel => exact ⟨k + 2, _, by omega, by omega, hlen, by go_num, HD2, hown2, hb1⟩
        case measure => simp [intOf]; omega
    · obtain rfl : k = s.size := by omega
      obtain ⟨r1, r2⟩ := dec_some (dec_end s acc HD.out)
      have R1 := Lib.hid r1; have R2 := Lib.hid r2; clear r1 r2
      have hcv := run_convert_own (P := Tryd.prog) wr 30 9 5 Tryd.underlying30 Tryd.underlying5 Tryd.underlying9 hown
      go_wp2
      go_ret2
      exact ⟨ret_sb R1.out R2.out, hb⟩
end Go.Proofs.YtmfboleiakbpnaaDoor
