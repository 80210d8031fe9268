/- Contracts of toIntS at a slice that came in, FromRuns on both sides. -/
import Derived.Test.YtmpbhhggbmjfcaaFromRuns
import Derived.Test.YtmpbhhggbmjfcaaRoomFns
import Derived.ProofKit
import Derived.OpenShut
import Derived.ChangeOld
namespace Go.Proofs.Ytmpbhhggbmjfcaa
open Go.RowKit
set_option linter.unusedVariables false
set_option linter.unusedSimpArgs false

/-- A slice at the address a reads as the ints zs. -/
def RdI (w : World) (a : Option Addr) (zs : List Int) : Prop :=
  zs = [] ∨ ∃ b off, a = some ⟨b, off, none⟩ ∧ 0 < zs.length ∧ b < w.heap.size ∧ ∀ j, j < zs.length → w.cell? ⟨b, off + j, none⟩ = some (.int .i64 (zs.getD j 0))
theorem RdI.below {w w' : World} {a : Option Addr} {zs : List Int} (h : RdI w a zs) (hb : Below w.heap.size w w') : RdI w' a zs := by
  rcases h with h | ⟨b, off, rfl, hp, hl, hc⟩
  · exact .inl h
  · exact .inr ⟨b, off, rfl, hp, Nat.lt_of_lt_of_le hl hb.size, fun j hj => (hb.cell (p := ⟨b, off + j, none⟩) hl).trans (hc j hj)⟩
theorem OwnI.rdI {B : Nat} {v : Value} {zs : List Int} {w : World} (h : OwnI B v zs w) : ∃ a c, v = .slice a zs.length c ∧ RdI w a zs := by
  rcases h.form with ⟨a, c, rfl, rfl⟩ | ⟨g, cap, rfl, hg, hp⟩
  · exact ⟨a, c, rfl, .inl rfl⟩
  · refine ⟨_, _, rfl, .inr ⟨g, 0, rfl, hp, (h.lt g rfl).2, fun j hj => ?_⟩⟩
    rw [Nat.zero_add, h.cell j hj, List.getD_eq_getElem?_getD, List.getElem?_eq_getElem hj]; rfl
/-- The first k copied, the rest zero. -/
def cpI (k : Nat) (zs : List Int) : List Int := (List.range zs.length).map fun j => if j < k then zs.getD j 0 else 0
theorem cpI_length (k : Nat) (zs : List Int) : (cpI k zs).length = zs.length := by simp [cpI]
theorem cpI_succ (k : Nat) (zs : List Int) : (cpI k zs).set k (zs.getD k 0) = cpI (k + 1) zs := by
  apply List.ext_getElem
  · rw [List.length_set, cpI_length, cpI_length]
  · intro i h1 h2
    rw [List.getElem_set]
    split
    · rename_i h; subst h; simp [cpI]
    · rename_i h
      simp only [cpI, List.getElem_map, List.getElem_range]
      by_cases hik : i < k
      · rw [if_pos hik, if_pos (by omega)]
      · rw [if_neg hik, if_neg (by omega)]
theorem cpI_all (zs : List Int) : cpI zs.length zs = zs := by
  apply List.ext_getElem
  · exact cpI_length _ _
  · intro i h1 h2; simp [cpI, h2]
theorem cpI_zero (zs : List Int) : intCells (cpI 0 zs) = (madeCells (Value.int .i64 0).cells (zs.length * 1)).toList := by
  apply List.ext_getElem
  · simp [intCells, cpI_length, madeCells, Value.cells]
  · intro i h1 h2; simp [intCells, cpI, madeCells, Value.cells, Nat.mod_one]

set_option maxRecDepth 20000 in
set_option maxHeartbeats 3200000 in
theorem implFromRuns_d (a : Option Addr) (c : Nat) (zs : List Int) (w : World) (h : RdI w a zs) (hl : zs.length ≤ 1048576) :
    Calls Try.prog 42 #[.string ⟨#[100]⟩, .slice a zs.length c] w fun e w' => e = .returned (.string (frV 100 zs)) ∧ Below w.heap.size w w' := by
  have HRD := Lib.hid h; clear h
  generalize hn : zs.length = n at *
  have HN := Lib.hid hn; clear hn
  go_enter Try.func42, Try.ntmps42
  go_wp2
  go_loopw [0, 5, 16] (fun fs s i wr => ∃ k : Nat, k ≤ n ∧ i = .int .i64 k ∧ s = .string (bld 100 zs k) ∧ fs = .string ⟨#[lett 100 k]⟩ ∧ Hid (okR zs k) ∧ (bld 100 zs k).size ≤ 24 ∧ Below w.heap.size w wr) (fun _ _ i _ => n - (intOf i).toNat)
  case atStart => exact ⟨0, Nat.zero_le _, rfl, rfl, rfl, Lib.hid (fun j hj => by omega), by show 0 ≤ 24; omega, Below.refl _ _⟩
  case round =>
    obtain ⟨k, hk, rfl, rfl, rfl, HK, hsz, hb⟩ := hrel
    by_cases hlt : k < n
    · rcases HRD.out with h0 | ⟨b, off, rfl, hp, hbl, hc⟩
      · exfalso; have := HN.out; rw [h0] at this; simp at this; omega
      have g1 := (hb.cell (p := ⟨b, off + k, none⟩) hbl).trans (hc k (by rw [HN.out]; exact hlt))
      have HC := Lib.hid hc; clear hc hp
      have e1 : (k : Int) < (n : Int) := by omega
      have HB0 := Lib.hid (bld_succ 100 zs k)
      generalize hz : zs.getD k 0 = z at *
      have HZ := Lib.hid hz; clear hz
      by_cases hok : 1 ≤ z ∧ z ≤ 8
      · obtain ⟨h1, h2⟩ := hok
        obtain ⟨m, rfl⟩ : ∃ m : Nat, z = m := ⟨z.toNat, by omega⟩
        go_wp2_with fail
        refine (isSteps_yes _ h1 h2 _).mono ?_
        rintro e w' ⟨rfl, rfl⟩
        by_cases h16 : (bld 100 zs k).size ≤ 16
        · have e2 : ¬ 16 < ((bld 100 zs k).size : Int) := by omega
          have HK2 : Hid (okR zs (k + 1)) := Lib.hid (okR_succ HK.out (by rw [HZ.out]; omega))
          have HB : Hid (bld 100 zs (k + 1) = bld 100 zs k ++ repS (lett 100 k) m) := Lib.hid (by rw [HB0.out]; simp)
          have r1 : (repS (lett 100 k) m).size ≤ 8 := by rw [repS_size]; omega
          have HS2 : Hid ((bld 100 zs (k + 1)).size ≤ 24) := Lib.hid (by rw [HB.out, ByteArray.size_append]; omega)
          have HLt := Lib.hid (lett_oth 100 (by decide) k)
          generalize hle : lett 100 k = le at *
          clear hle
          go_wp2_with fail
          refine (repeat_any le m (by omega) _).mono ?_
          rintro e w1 ⟨rfl, b1⟩
          have HB1 := Lib.hid (hb.trans (b1.mono hb.size)); clear b1
          go_wp2_with fail
          refine (exchanged_any le _).mono ?_
          rw [HLt.out]
          rintro e w2 ⟨rfl, b2⟩
          have hb2 := HB1.out.trans (b2.mono HB1.out.size); clear b2
          go_wp2
          go_roundw
          case rel => exact ⟨k + 1, by omega, by go_num, by rw [HB.out], rfl, HK2, HS2.out, hb2⟩
          case measure => simp [intOf]; omega
        · have e2 : 16 < ((bld 100 zs k).size : Int) := by omega
          have R := Lib.hid (frV_long (b := 100) (ns := zs) (k := k) (by rw [HN.out]; exact hk) (by omega))
          go_wp2
          go_ret
          exact ⟨ret_str R.out.symm, hb⟩
      · have R := Lib.hid (frV_bad (b := 100) (ns := zs) (k := k) (by rw [HN.out]; exact hlt) (by rw [HZ.out]; exact hok))
        have H : Hid (z < 1 ∨ 8 < z) := Lib.hid (by omega)
        clear hok
        go_wp2_with fail
        refine (isSteps_no _ H.out _).mono ?_
        rintro e w' ⟨rfl, rfl⟩
        go_wp2
        go_ret
        exact ⟨ret_str R.out.symm, hb⟩
    · obtain rfl : k = n := by omega
      have hmx : (bld 100 zs k).size ≤ maxLen := by unfold maxLen; omega
      cases hst : strip (bld 100 zs k).data.toList with
      | true =>
        have R : Hid (frV 100 zs = bld 100 zs k) := Lib.hid (by have := frV_yes (b := 100) (ns := zs) (by rw [HN.out]; exact HK.out) (by rw [HN.out]; exact hst); rw [this, HN.out])
        have HST := Lib.hid hst; clear hst
        go_wp2_with fail
        refine (implIsStrip_any _ hmx _).mono ?_
        rw [HST.out]
        rintro e w' ⟨rfl, rfl⟩
        go_wp2
        go_ret
        exact ⟨ret_str R.out.symm, hb⟩
      | false =>
        have R : Hid (frV 100 zs = ⟨#[]⟩) := Lib.hid (frV_no (by rw [HN.out]; exact hst))
        have HST := Lib.hid hst; clear hst
        go_wp2_with fail
        refine (implIsStrip_any _ hmx _).mono ?_
        rw [HST.out]
        rintro e w' ⟨rfl, rfl⟩
        go_wp2
        go_ret
        exact ⟨ret_str R.out.symm, hb⟩

set_option maxRecDepth 20000 in
set_option maxHeartbeats 3200000 in
theorem implFromRuns_f (a : Option Addr) (c : Nat) (zs : List Int) (w : World) (h : RdI w a zs) (hl : zs.length ≤ 1048576) :
    Calls Try.prog 42 #[.string ⟨#[102]⟩, .slice a zs.length c] w fun e w' => e = .returned (.string (frV 102 zs)) ∧ Below w.heap.size w w' := by
  have HRD := Lib.hid h; clear h
  generalize hn : zs.length = n at *
  have HN := Lib.hid hn; clear hn
  go_enter Try.func42, Try.ntmps42
  go_wp2
  go_loopw [0, 5, 16] (fun fs s i wr => ∃ k : Nat, k ≤ n ∧ i = .int .i64 k ∧ s = .string (bld 102 zs k) ∧ fs = .string ⟨#[lett 102 k]⟩ ∧ Hid (okR zs k) ∧ (bld 102 zs k).size ≤ 24 ∧ Below w.heap.size w wr) (fun _ _ i _ => n - (intOf i).toNat)
  case atStart => exact ⟨0, Nat.zero_le _, rfl, rfl, rfl, Lib.hid (fun j hj => by omega), by show 0 ≤ 24; omega, Below.refl _ _⟩
  case round =>
    obtain ⟨k, hk, rfl, rfl, rfl, HK, hsz, hb⟩ := hrel
    by_cases hlt : k < n
    · rcases HRD.out with h0 | ⟨b, off, rfl, hp, hbl, hc⟩
      · exfalso; have := HN.out; rw [h0] at this; simp at this; omega
      have g1 := (hb.cell (p := ⟨b, off + k, none⟩) hbl).trans (hc k (by rw [HN.out]; exact hlt))
      have HC := Lib.hid hc; clear hc hp
      have e1 : (k : Int) < (n : Int) := by omega
      have HB0 := Lib.hid (bld_succ 102 zs k)
      generalize hz : zs.getD k 0 = z at *
      have HZ := Lib.hid hz; clear hz
      by_cases hok : 1 ≤ z ∧ z ≤ 8
      · obtain ⟨h1, h2⟩ := hok
        obtain ⟨m, rfl⟩ : ∃ m : Nat, z = m := ⟨z.toNat, by omega⟩
        go_wp2_with fail
        refine (isSteps_yes _ h1 h2 _).mono ?_
        rintro e w' ⟨rfl, rfl⟩
        by_cases h16 : (bld 102 zs k).size ≤ 16
        · have e2 : ¬ 16 < ((bld 102 zs k).size : Int) := by omega
          have HK2 : Hid (okR zs (k + 1)) := Lib.hid (okR_succ HK.out (by rw [HZ.out]; omega))
          have HB : Hid (bld 102 zs (k + 1) = bld 102 zs k ++ repS (lett 102 k) m) := Lib.hid (by rw [HB0.out]; simp)
          have r1 : (repS (lett 102 k) m).size ≤ 8 := by rw [repS_size]; omega
          have HS2 : Hid ((bld 102 zs (k + 1)).size ≤ 24) := Lib.hid (by rw [HB.out, ByteArray.size_append]; omega)
          have HLt := Lib.hid (lett_oth 102 (by decide) k)
          generalize hle : lett 102 k = le at *
          clear hle
          go_wp2_with fail
          refine (repeat_any le m (by omega) _).mono ?_
          rintro e w1 ⟨rfl, b1⟩
          have HB1 := Lib.hid (hb.trans (b1.mono hb.size)); clear b1
          go_wp2_with fail
          refine (exchanged_any le _).mono ?_
          rw [HLt.out]
          rintro e w2 ⟨rfl, b2⟩
          have hb2 := HB1.out.trans (b2.mono HB1.out.size); clear b2
          go_wp2
          go_roundw
          case rel => exact ⟨k + 1, by omega, by go_num, by rw [HB.out], rfl, HK2, HS2.out, hb2⟩
          case measure => simp [intOf]; omega
        · have e2 : 16 < ((bld 102 zs k).size : Int) := by omega
          have R := Lib.hid (frV_long (b := 102) (ns := zs) (k := k) (by rw [HN.out]; exact hk) (by omega))
          go_wp2
          go_ret
          exact ⟨ret_str R.out.symm, hb⟩
      · have R := Lib.hid (frV_bad (b := 102) (ns := zs) (k := k) (by rw [HN.out]; exact hlt) (by rw [HZ.out]; exact hok))
        have H : Hid (z < 1 ∨ 8 < z) := Lib.hid (by omega)
        clear hok
        go_wp2_with fail
        refine (isSteps_no _ H.out _).mono ?_
        rintro e w' ⟨rfl, rfl⟩
        go_wp2
        go_ret
        exact ⟨ret_str R.out.symm, hb⟩
    · obtain rfl : k = n := by omega
      have hmx : (bld 102 zs k).size ≤ maxLen := by unfold maxLen; omega
      cases hst : strip (bld 102 zs k).data.toList with
      | true =>
        have R : Hid (frV 102 zs = bld 102 zs k) := Lib.hid (by have := frV_yes (b := 102) (ns := zs) (by rw [HN.out]; exact HK.out) (by rw [HN.out]; exact hst); rw [this, HN.out])
        have HST := Lib.hid hst; clear hst
        go_wp2_with fail
        refine (implIsStrip_any _ hmx _).mono ?_
        rw [HST.out]
        rintro e w' ⟨rfl, rfl⟩
        go_wp2
        go_ret
        exact ⟨ret_str R.out.symm, hb⟩
      | false =>
        have R : Hid (frV 102 zs = ⟨#[]⟩) := Lib.hid (frV_no (by rw [HN.out]; exact hst))
        have HST := Lib.hid hst; clear hst
        go_wp2_with fail
        refine (implIsStrip_any _ hmx _).mono ?_
        rw [HST.out]
        rintro e w' ⟨rfl, rfl⟩
        go_wp2
        go_ret
        exact ⟨ret_str R.out.symm, hb⟩

theorem toList_inj'' {a b : ByteArray} (h : a.toList = b.toList) : a = b := by
  rw [Go.ByteArray.toList_eq, Go.ByteArray.toList_eq] at h; exact ByteArray.ext (Array.toList_inj.1 h)
theorem toList_ne {a : ByteArray} {b : UInt8} (h : ¬ a = ⟨#[b]⟩) : (a.toList == [b]) = false := beq_eq_false_iff_ne.2 fun e => h (toList_inj'' (by
  rw [e, Go.ByteArray.toList_eq]))
set_option maxHeartbeats 400000 in
theorem implFromRuns_no (f : ByteArray) (h1 : ¬ f = ⟨#[100]⟩) (h2 : ¬ f = ⟨#[102]⟩) (v : Value) (w : World) :
    Calls Try.prog 42 #[.string f, v] w fun e w' => e = .returned (.string ⟨#[]⟩) ∧ w = w' := by
  have t1 := toList_ne h1
  have t2 := toList_ne h2
  clear h1 h2
  go_enter Try.func42, Try.ntmps42
  go_wp2
  go_ret
  exact ⟨rfl, rfl⟩
def frF (f : ByteArray) (zs : List Int) : ByteArray := if f = ⟨#[100]⟩ then frV 100 zs else if f = ⟨#[102]⟩ then frV 102 zs else ⟨#[]⟩
theorem implFromRuns_any (f : ByteArray) (a : Option Addr) (c : Nat) (zs : List Int) (w : World) (h : RdI w a zs) (hl : zs.length ≤ 1048576) :
    Calls Try.prog 42 #[.string f, .slice a zs.length c] w fun e w' => e = .returned (.string (frF f zs)) ∧ Below w.heap.size w w' := by
  by_cases h1 : f = ⟨#[100]⟩
  · subst h1
    refine (implFromRuns_d a c zs w h hl).mono ?_
    rintro e w' ⟨rfl, hw⟩
    exact ⟨ret_str (by unfold frF; rw [if_pos rfl]), hw⟩
  · by_cases h2 : f = ⟨#[102]⟩
    · subst h2
      refine (implFromRuns_f a c zs w h hl).mono ?_
      rintro e w' ⟨rfl, hw⟩
      exact ⟨ret_str (by unfold frF; rw [if_neg h1, if_pos rfl]), hw⟩
    · refine (implFromRuns_no f h1 h2 _ w).mono ?_
      rintro e w' ⟨rfl, rfl⟩
      exact ⟨ret_str (by unfold frF; rw [if_neg h1, if_neg h2]), Below.refl _ _⟩
end Go.Proofs.Ytmpbhhggbmjfcaa
