/- Contracts of markText, markStringS, heldStringS, markCard, heldCard. -/
import Derived.Test.YtmfboleiakbpnaaDoorStrsD
import Derived.Deep.RegionWith
namespace Go.Proofs.YtmfboleiakbpnaaDoor
open Go.RowKit
set_option linter.unusedVariables false
set_option linter.unusedSimpArgs false

def dgt (k : Nat) : UInt8 := UInt8.ofNat (48 + k % 10)
def mtGo : Nat → Nat → ByteArray → ByteArray
  | 0, _, out => out
  | n + 1, k, out => if k = 0 then out else mtGo n (k / 10) (⟨#[dgt k]⟩ ++ out)
theorem mtGo_done (n : Nat) (out : ByteArray) : mtGo n 0 out = out := by cases n <;> simp [mtGo]
theorem mtGo_step (n k : Nat) (out : ByteArray) (h : 0 < k) : mtGo (n + 1) k out = mtGo n (k / 10) (⟨#[dgt k]⟩ ++ out) := by
  show (if k = 0 then _ else _) = _; rw [if_neg (by omega)]
/-- The text of a mark. -/
def mT (k : Nat) : ByteArray := if k = 0 then ⟨#[109, 48]⟩ else ⟨#[109]⟩ ++ mtGo k k ⟨#[]⟩
theorem dgt_val (k : Nat) : ((48 : Int) + (k : Int) % 10).toNat = 48 + k % 10 := by omega
theorem one_size (b : UInt8) (s : ByteArray) : ((⟨#[b]⟩ : ByteArray) ++ s).size = s.size + 1 := by rw [ByteArray.size_append]; show 1 + _ = _; omega
theorem Tryd.info9m : (Tryd.prog.info? 9).map (fun i => (i.zero, i.size, i.bytes)) = some (some (.string ByteArray.empty), 1, 16) := by kernel_rfl

theorem conv_one (w : World) (b : UInt8) (x : Int) (hx : x = (b.toNat : Int)) :
    (convert 30 9 (.slice (some ⟨w.heap.size, 0, none⟩) 1 1)).run Tryd.prog (w.alloc (.cells #[.int .u8 x] 5)) = .ok (.string ⟨#[b]⟩) (w.alloc (.cells #[.int .u8 x] 5)) := by
  subst hx
  refine run_convert_bytes_back _ 30 9 5 ⟨w.heap.size, 0, none⟩ 1 [b] Tryd.underlying30 Tryd.underlying5 Tryd.underlying9 fun j hj => ?_
  obtain rfl : j = 0 := by simpa using hj
  simp [Addr.add]
theorem dgt_nat (k : Nat) : (48 : Int) + (k : Int) % 10 = ((dgt k).toNat : Int) := by
  unfold dgt; rw [UInt8.toNat_ofNat']; omega

set_option maxHeartbeats 800000 in
set_option maxRecDepth 20000 in
theorem markText_any (k : Nat) (hk : k ≤ 10000000) (w : World) :
    Calls Tryd.prog 28 #[.int .i64 k] w fun e w' => e = .returned (.string (mT k)) ∧ Below w.heap.size w w' := by
  rcases Nat.eq_zero_or_pos k with rfl | h0
  · go_enter Tryd.func28, Tryd.ntmps28
    go_wp2
    go_ret
    exact ⟨rfl, Below.refl _ _⟩
  · have R : Hid (mT k = ⟨#[109]⟩ ++ mtGo k k ⟨#[]⟩) := Lib.hid (by unfold mT; rw [if_neg (by omega)])
    have n0 : ¬ (k : Int) ≤ 0 := by omega
    go_enter Tryd.func28, Tryd.ntmps28
    go_wp2
    go_loopw [0, 3] (fun c o wr => ∃ (n j : Nat) (out : ByteArray), j ≤ n ∧ c = .int .i64 j ∧ o = .string out ∧ Hid (mtGo n j out = mtGo k k ⟨#[]⟩) ∧ out.size + j ≤ k ∧ Below w.heap.size w wr) (fun c _ _ => (intOf c).toNat)
    case atStart => exact ⟨k, k, ⟨#[]⟩, Nat.le_refl _, rfl, rfl, Lib.hid rfl, by show 0 + k ≤ k; omega, Below.refl _ _⟩
    case round =>
      obtain ⟨n, j, out, hj, rfl, rfl, HM, hsz, hb⟩ := hrel
      by_cases hlt : 0 < j
      · obtain ⟨n, rfl⟩ : ∃ n', n = n' + 1 := ⟨n - 1, by omega⟩
        have e1 : (0 : Int) < (j : Int) := by omega
        have e2 : (48 : Int) + (j : Int) % 10 ≤ 255 := by omega
        have e3 : (0 : Int) ≤ (48 : Int) + (j : Int) % 10 := by omega
        have HM2 : Hid (mtGo n (j / 10) (⟨#[dgt j]⟩ ++ out) = mtGo k k ⟨#[]⟩) := Lib.hid (by rw [← mtGo_step n j out hlt]; exact HM.out)
        have HS := Lib.hid (one_size (dgt j) out)
        have hcv := conv_one wr (dgt j) _ (dgt_nat j)
        have hob : out.size ≤ 10000000 := by omega
        clear HM
        go_wp2
        go_roundw
        case rel => exact ⟨n, j / 10, ⟨#[dgt j]⟩ ++ out, by omega, by go_num, rfl, HM2, by rw [HS.out]; omega, hb.alloc (by have := hb.size; omega) _⟩
        case measure => simp [intOf]; omega
      · obtain rfl : j = 0 := by omega
        have HE : Hid (out = mtGo k k ⟨#[]⟩) := Lib.hid (by rw [← HM.out, mtGo_done])
        have hob : out.size ≤ 10000000 := by omega
        clear HM
        go_wp2
        go_ret
        exact ⟨ret_str (by rw [R.out, ← HE.out]), hb⟩

theorem grown_trans {a b c : World} {row : Option Nat} (h : a.grownBy b row) (k : b.grownBy c row) : a.grownBy c row :=
  ⟨k.os.trans h.os, k.tape.trans h.tape, k.output.trans h.output, Nat.le_trans h.size k.size, fun i hi hr => (k.block i (Nat.lt_of_lt_of_le hi h.size) hr).trans (h.block i hi hr)⟩
theorem grown_below {a b : World} {row : Option Nat} (h : Below a.heap.size a b) : a.grownBy b row := ⟨h.os, h.tape, h.output, h.size, fun k hk _ => h.block k hk⟩
theorem grown_set (a : World) (g j : Nat) (u : Value) : a.grownBy (a.setCell ⟨g, j, none⟩ u) (some g) :=
  ⟨rfl, rfl, rfl, by simp [World.setCell], fun k hk hr => Below.heap_setCell _ _ _ _ (fun e => hr (by rw [e]))⟩
theorem below_grown {B : Nat} {a b : World} {row : Option Nat} (h : a.grownBy b row) (hB : B ≤ a.heap.size) (hr : ∀ k, row = some k → B ≤ k) : Below B a b := (Below.refl _ _).grown h hB hr
/-- The marks from m on, on the first k places. -/
def pmS (m k : Nat) (ss : List ByteArray) : List ByteArray := (List.range ss.length).map fun j => if j < k then mT (m + j) else sel ss j
theorem pmS_length (m k : Nat) (ss : List ByteArray) : (pmS m k ss).length = ss.length := by simp [pmS]
theorem pmS_zero (m : Nat) (ss : List ByteArray) : pmS m 0 ss = ss := by
  apply List.ext_getElem
  · exact pmS_length _ _ _
  · intro i h1 h2; simp [pmS, sel_get ss i h2]
theorem pmS_succ (m k : Nat) (ss : List ByteArray) : (pmS m k ss).set k (mT (m + k)) = pmS m (k + 1) ss := by
  apply List.ext_getElem
  · rw [List.length_set, pmS_length, pmS_length]
  · intro i h1 h2
    rw [List.getElem_set]
    split
    · rename_i h; subst h; simp [pmS]
    · rename_i h
      simp only [pmS, List.getElem_map, List.getElem_range]
      by_cases hik : i < k
      · rw [if_pos hik, if_pos (by omega)]
      · rw [if_neg hik, if_neg (by omega)]
def marksS (m n : Nat) : List ByteArray := (List.range n).map fun (j : Nat) => mT (m + j)
theorem marksS_length (m n : Nat) : (marksS m n).length = n := by simp [marksS]
theorem pmS_all (m : Nat) (ss : List ByteArray) : pmS m ss.length ss = marksS m ss.length := by
  apply List.ext_getElem
  · rw [pmS_length, marksS_length]
  · intro i h1 h2
    rw [marksS_length] at h2
    simp [pmS, marksS, h2]
theorem marksS_sel (m n j : Nat) (h : j < n) : sel (marksS m n) j = mT (m + j) := by
  rw [sel_get _ _ (by rw [marksS_length]; exact h)]; simp [marksS]
theorem OwnS.form {B : Nat} {v : Value} {ss : List ByteArray} {w : World} (h : OwnS B v ss w) :
    (∃ a c, v = .slice a 0 c ∧ ss = []) ∨ ∃ g cap, v = .slice (some ⟨g, 0, none⟩) ss.length cap ∧ B ≤ g ∧ 0 < ss.length := by
  rcases h.2 with ⟨rfl, h0⟩ | ⟨g, cap, cur, rfl, hg, _⟩
  · exact .inl ⟨_, _, rfl, List.length_eq_zero_iff.1 h0⟩
  · rcases Nat.eq_zero_or_pos ss.length with h0 | h0
    · exact .inl ⟨_, _, by rw [h0], List.length_eq_zero_iff.1 h0⟩
    · exact .inr ⟨g, cap, rfl, hg, h0⟩

set_option maxHeartbeats 1600000 in
theorem markStringS_any (v : Value) (B : Nat) (ss : List ByteArray) (m : Nat) (w : World) (h : OwnS B v ss w) (hm : m + ss.length ≤ 10000000) :
    Calls Tryd.prog 14 #[v, .int .i64 m] w fun e w' => e = .returned (.int .i64 ((m + ss.length : Nat) : Int)) ∧ OwnS B v (marksS m ss.length) w' ∧ w.grownBy w' v.ownBlock := by
  rcases h.form with ⟨a1, c1, rfl, rfl⟩ | ⟨g, cap, rfl, hB, hpos⟩
  · go_enter Tryd.func14, Tryd.ntmps14
    go_wp2
    refine wp_loop_rounds 1 ?_
    rw [rounds_succ]
    go_wp2
    go_ret
    exact ⟨ret_int (by simp), h, World.grownBy.refl _ _⟩
  · have HP := Lib.hid (pmS_all m ss)
    go_enter Tryd.func14, Tryd.ntmps14
    go_wp2
    go_loopw [1, 5] (fun j i wr => ∃ k : Nat, k ≤ ss.length ∧ i = .int .i64 k ∧ j = .int .i64 ((m + k : Nat) : Int) ∧ OwnS B (.slice (some ⟨g, 0, none⟩) ss.length cap) (pmS m k ss) wr ∧ Hid (w.grownBy wr (some g))) (fun _ i _ => ss.length - (intOf i).toNat)
    case atStart => exact ⟨0, Nat.zero_le _, rfl, rfl, by rw [pmS_zero]; exact h, World.grownBy.refl _ _⟩
    case round =>
      obtain ⟨k, hk, rfl, rfl, hown, hgr⟩ := hrel
      by_cases hlt : k < ss.length
      · have e1 : (k : Int) < (ss.length : Int) := by omega
        go_wp2_with fail
        refine (markText_any (m + k) (by omega) _).mono ?_
        rintro e w1 ⟨rfl, hb1⟩
        have hown1 := hown.below hb1
        have hc := hown1.cell k (by rw [pmS_length]; exact hlt)
        have hf := hown1.frozen k
        have hown2 := hown1.set k (mT (m + k))
        rw [pmS_succ] at hown2
        have hgr2 : Hid (w.grownBy (w1.setCell ⟨g, k, none⟩ (.string (mT (m + k)))) (some g)) := grown_trans (grown_trans hgr.out (grown_below hb1)) (grown_set w1 g k _)
        clear hb1
        go_wp2
        go_roundw
        case rel => exact ⟨k + 1, by omega, by go_num, by go_num, hown2, hgr2⟩
        case measure => simp [intOf]; omega
      · obtain rfl : k = ss.length := by omega
        go_wp2
        go_ret
        exact ⟨rfl, by rw [← HP.out]; exact hown, hgr.out⟩

set_option maxHeartbeats 1600000 in
theorem heldStringS_any (a : Option Addr) (c n : Nat) (m : Nat) (w : World) (h : RdS w a (marksS m n)) (hm : m + n ≤ 10000000) :
    Calls Tryd.prog 15 #[.slice a n c, .int .i64 m] w fun e w' => e = .returned (.int .i64 ((m + n : Nat) : Int)) ∧ Below w.heap.size w w' := by
  rcases h with h0 | ⟨b, o, rfl, hp, hl, hc⟩
  · obtain rfl : n = 0 := by have := marksS_length m n; rw [h0] at this; exact this.symm
    clear h0
    go_enter Tryd.func15, Tryd.ntmps15
    go_wp2
    refine wp_loop_rounds 1 ?_
    rw [rounds_succ]
    go_wp2
    go_ret
    exact ⟨ret_int (by simp), Below.refl _ _⟩
  · rw [marksS_length] at hc hp
    have HC := Lib.hid hc; clear hc
    go_enter Tryd.func15, Tryd.ntmps15
    go_wp2
    go_loopw [1, 5] (fun j i wr => ∃ k : Nat, k ≤ n ∧ i = .int .i64 k ∧ j = .int .i64 ((m + k : Nat) : Int) ∧ Below w.heap.size w wr) (fun _ i _ => n - (intOf i).toNat)
    case atStart => exact ⟨0, Nat.zero_le _, rfl, rfl, Below.refl _ _⟩
    case round =>
      obtain ⟨k, hk, rfl, rfl, hb⟩ := hrel
      by_cases hlt : k < n
      · have e1 : (k : Int) < (n : Int) := by omega
        have g1 : wr.cell? ⟨b, o + k, none⟩ = some (.string (mT (m + k))) := by rw [hb.cell (p := ⟨b, o + k, none⟩) hl, HC.out k hlt, marksS_sel m n k hlt]
        have hlw := Nat.lt_of_lt_of_le hl hb.size
        go_wp2
        go_region_with ((go_at_call 28; refine (markText_any (m + k) (by omega) _).mono ?_; rintro e u1 ⟨rfl, b1⟩; have g2 := (b1.cell (p := ⟨b, o + k, none⟩) hlw).trans g1; have hb1 := (dr_bel hb ⟨1, rfl⟩).trans (b1.mono hb.size)))
        all_goals
          go_wp2
          go_roundw
          case rel => exact ⟨k + 1, by omega, by go_num, by go_num, hb1⟩
          case measure => simp [intOf]; omega
      · obtain rfl : k = n := by omega
        go_wp2
        go_ret
        exact ⟨rfl, hb⟩

end Go.Proofs.YtmfboleiakbpnaaDoor
