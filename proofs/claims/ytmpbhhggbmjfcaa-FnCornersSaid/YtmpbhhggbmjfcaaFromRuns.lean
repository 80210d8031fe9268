/- Contracts of exchanged at one letter and of FromRuns, both sides; the plain law beside them. -/
import Derived.Test.YtmpbhhggbmjfcaaInts
import Derived.Test.YtmpbhhggbmjfcaaFlat
import Derived.Test.YtmpbhhggbmjfcaaStrs
namespace Go.Proofs.Ytmpbhhggbmjfcaa
open Go.RowKit
set_option linter.unusedVariables false
set_option linter.unusedSimpArgs false

def oth (b : UInt8) : UInt8 := if b = 100 then 102 else 100
/-- The letter of the k-th run. -/
def lett (b : UInt8) (k : Nat) : UInt8 := if k % 2 = 0 then b else oth b
theorem lett_oth (b : UInt8) (hb : b = 100 ∨ b = 102) (k : Nat) : oth (lett b k) = lett b (k + 1) := by
  rcases hb with rfl | rfl <;> rcases Nat.mod_two_eq_zero_or_one k with h | h <;> (have h2 : (k + 1) % 2 = 1 - k % 2 := by omega) <;> simp [lett, h, h2] <;> decide
theorem lett_df (b : UInt8) (hb : b = 100 ∨ b = 102) (k : Nat) : lett b k = 100 ∨ lett b k = 102 := by
  rcases hb with rfl | rfl <;> rcases Nat.mod_two_eq_zero_or_one k with h | h <;> simp [lett, h] <;> decide
/-- The strip of the first k runs. -/
def bld (b : UInt8) (ns : List Int) : Nat → ByteArray
  | 0 => ⟨#[]⟩
  | k + 1 => bld b ns k ++ repS (lett b k) (ns.getD k 0).toNat
theorem bld_succ (b : UInt8) (ns : List Int) (k : Nat) : bld b ns (k + 1) = bld b ns k ++ repS (lett b k) (ns.getD k 0).toNat := rfl
theorem bld_size_succ (b : UInt8) (ns : List Int) (k : Nat) : (bld b ns (k + 1)).size = (bld b ns k).size + (ns.getD k 0).toNat := by
  rw [bld_succ, ByteArray.size_append, repS_size]
theorem bld_mono (b : UInt8) (ns : List Int) (k m : Nat) : (bld b ns k).size ≤ (bld b ns (k + m)).size := by
  induction m with
  | zero => exact Nat.le_refl _
  | succ m ih => rw [← Nat.add_assoc, bld_size_succ]; omega
def okR (ns : List Int) (k : Nat) : Prop := ∀ j, j < k → 1 ≤ ns.getD j 0 ∧ ns.getD j 0 ≤ 8
instance okRdec (ns : List Int) (k : Nat) : Decidable (okR ns k) := by unfold okR; infer_instance
theorem okR_succ {ns : List Int} {k : Nat} (h : okR ns k) (h2 : 1 ≤ ns.getD k 0 ∧ ns.getD k 0 ≤ 8) : okR ns (k + 1) := fun j hj => by
  rcases Nat.lt_or_ge j k with h' | h'
  · exact h j h'
  · obtain rfl : j = k := by omega
    exact h2
theorem bld_ge {b : UInt8} {ns : List Int} : ∀ {k : Nat}, okR ns k → k ≤ (bld b ns k).size
  | 0, _ => Nat.zero_le _
  | k + 1, h => by
    have := bld_ge (b := b) (ns := ns) (k := k) (fun j hj => h j (by omega))
    have := h k (by omega)
    rw [bld_size_succ]; omega
theorem bld_le {b : UInt8} {ns : List Int} : ∀ {k : Nat}, okR ns k → (bld b ns k).size ≤ 8 * k
  | 0, _ => Nat.zero_le _
  | k + 1, h => by
    have := bld_le (b := b) (ns := ns) (k := k) (fun j hj => h j (by omega))
    have := h k (by omega)
    rw [bld_size_succ]; omega
/-- What FromRuns gives. -/
def frV (b : UInt8) (ns : List Int) : ByteArray := if okR ns ns.length ∧ strip (bld b ns ns.length).data.toList = true then bld b ns ns.length else ⟨#[]⟩
theorem frV_bad {b : UInt8} {ns : List Int} {k : Nat} (hk : k < ns.length) (h : ¬ (1 ≤ ns.getD k 0 ∧ ns.getD k 0 ≤ 8)) : frV b ns = ⟨#[]⟩ := by
  unfold frV; rw [if_neg (fun hh => h (hh.1 k hk))]
theorem frV_long {b : UInt8} {ns : List Int} {k : Nat} (hk : k ≤ ns.length) (h : 16 < (bld b ns k).size) : frV b ns = ⟨#[]⟩ := by
  unfold frV; rw [if_neg]
  rintro ⟨_, hs⟩
  have h1 := (strip_size hs).2.1
  have h2 := bld_mono b ns k (ns.length - k)
  rw [show k + (ns.length - k) = ns.length from by omega] at h2
  omega
theorem frV_no {b : UInt8} {ns : List Int} (h : strip (bld b ns ns.length).data.toList = false) : frV b ns = ⟨#[]⟩ := by
  unfold frV; rw [if_neg (fun hh => by rw [h] at hh; exact Bool.false_ne_true hh.2)]
theorem frV_yes {b : UInt8} {ns : List Int} (h1 : okR ns ns.length) (h : strip (bld b ns ns.length).data.toList = true) : frV b ns = bld b ns ns.length := by
  unfold frV; rw [if_pos ⟨h1, h⟩]

theorem Try.info5x : (Try.prog.info? 5).map (fun i => (i.zero, i.size, i.bytes)) = some (some (.int .u8 0), 1, 1) := by kernel_rfl
theorem rel_oth {w : World} {B g cap : Nat} {acc : List UInt8} {b : UInt8} {z : Int} (hz : z = (b.toNat : Int)) (h : w.ownsRow B 5 1 (.slice (some ⟨g, 0, none⟩) (acc.length + 1) cap) (acc.length + 1) (byteCells acc ++ [.int .u8 z])) : w.ownsRow B 5 1 (.slice (some ⟨g, 0, none⟩) (acc.length + 1) cap) (acc ++ [b]).length (byteCells (acc ++ [b])) := by
  subst hz; rw [byteCells_append, List.length_append]; exact h
def exL (s : ByteArray) (k : Nat) : List UInt8 := (s.data.toList.take k).map oth
theorem exL_snoc (s : ByteArray) (k : Nat) (h : k < s.size) : exL s (k + 1) = exL s k ++ [oth s[k]] := by unfold exL; rw [take_snoc s k h]; simp
theorem exL_length (s : ByteArray) (k : Nat) (h : k ≤ s.size) : (exL s k).length = k := by unfold exL; rw [List.length_map, List.length_take, size_len]; omega

set_option maxRecDepth 20000 in
set_option maxHeartbeats 800000 in
theorem exchanged_all (s : ByteArray) (hs : s.size ≤ 1000) (w : World) :
    Calls Try.prog 78 #[.string s] w fun e w' => e = .returned (.string ⟨(exL s s.size).toArray⟩) ∧ Below w.heap.size w w' := by
  obtain ⟨i0, hi, hz0, hz1, hz2⟩ := info_parts Try.info5x
  go_enter Try.func78, Try.ntmps78
  go_wp2
  go_loopw [3, 8] (fun v i wr => ∃ (k : Nat), k ≤ s.size ∧ i = .int .i64 k ∧ wr.ownsRow w.heap.size 5 1 v (exL s k).length (byteCells (exL s k)) ∧ Below w.heap.size w wr) (fun _ i _ => s.size - (intOf i).toNat)
  case atStart =>
    exact ⟨0, Nat.zero_le _, rfl, World.ownsRow_made w #[] 0 (Nat.le_refl _) (Nat.zero_le _) rfl, (Below.refl _ _).alloc (Nat.le_refl _) _⟩
  case round =>
    obtain ⟨k, hk, rfl, hown, hb⟩ := hrel
    have hln := exL_length s k hk
    by_cases hlt : k < s.size
    · have hn1 : (exL s k).length + 1 ≤ maxLen := by unfold maxLen; omega
      have hn2 : ((exL s k).length + 1) * 1 ≤ 140737488355328 := by omega
      have HL := Lib.hid hln; clear hln
      have HS := Lib.hid (exL_snoc s k hlt)
      have hsz : w.heap.size ≤ wr.heap.size := hb.size
      by_cases hc : s[k].toNat = 100
      · have t1 : ((s[k].toNat : Int) == 100) = true := beq_iff_eq.2 (by omega)
        have HO : Hid (oth s[k] = 102) := Lib.hid (by unfold oth; rw [if_pos (UInt8.toNat_inj.1 hc)])
        clear hc
        go_wp2_with (at_builtin; refine wpList_app1 rfl _ _ 45 rfl w.heap.size 5 i0 (.int .u8 0) 1 Try.underlying45 hi hz0 hz1 hz2 rfl _ _ _ rfl hown _ rfl rfl hn1 hn2 hsz ?_; intro g cap w1 hown1 hg1)
        have hown2 := rel_oth (b := 102) rfl hown1
        rw [← HO.out, ← HS.out] at hown2
        have hb1 := below_of_grown hb hsz hown hg1
        clear hown1 hg1
        go_wp2
        go_roundw
        case rel => exact ⟨k + 1, by omega, by go_num, hown2, hb1⟩
        case measure => simp [intOf]; omega
      · have t1 : ((s[k].toNat : Int) == 100) = false := beq_eq_false_iff_ne.2 (by omega)
        have HO : Hid (oth s[k] = 100) := Lib.hid (by unfold oth; rw [if_neg (fun e => hc (by rw [e]; rfl))])
        clear hc
        go_wp2_with (at_builtin; refine wpList_app1 rfl _ _ 45 rfl w.heap.size 5 i0 (.int .u8 0) 1 Try.underlying45 hi hz0 hz1 hz2 rfl _ _ _ rfl hown _ rfl rfl hn1 hn2 hsz ?_; intro g cap w1 hown1 hg1)
        have hown2 := rel_oth (b := 100) rfl hown1
        rw [← HO.out, ← HS.out] at hown2
        have hb1 := below_of_grown hb hsz hown hg1
        clear hown1 hg1
        go_wp2
        go_roundw
        case rel => exact ⟨k + 1, by omega, by go_num, hown2, hb1⟩
        case measure => simp [intOf]; omega
    · obtain rfl : k = s.size := by omega
      clear hln
      have hcv := run_convert_own (P := Try.prog) wr 45 9 5 Try.underlying45 Try.underlying5 Try.underlying9 hown
      go_wp2
      go_ret
      exact ⟨rfl, hb⟩
theorem exchanged_any (b : UInt8) (w : World) :
    Calls Try.prog 78 #[.string ⟨#[b]⟩] w fun e w' => e = .returned (.string ⟨#[oth b]⟩) ∧ Below w.heap.size w w' := by
  refine (exchanged_all ⟨#[b]⟩ (by show 1 ≤ 1000; omega) w).mono ?_
  rintro e w' ⟨rfl, hb⟩
  exact ⟨ret_str rfl, hb⟩
end Go.Proofs.Ytmpbhhggbmjfcaa
