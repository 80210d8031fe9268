/- Contracts of strconv.Atoi, impl.ParseUint, spec.ParseUint. -/
import Derived.Test.YtmfboleiakbpnaaDoorItoa
import Derived.Deep.QuietTactic
import Derived.BigQuiet
import Derived.Deep.RegionWith
namespace Go.Proofs.YtmfboleiakbpnaaDoor
open Go.RowKit
set_option linter.unusedVariables false
set_option linter.unusedSimpArgs false
set_option maxRecDepth 20000

/-- The two variables of strconv hold errors. -/
def ErrsAt (w : World) : Prop := ∃ (t3 t4 : TypeId) (p3 p4 : Value), w.cell? ⟨3, 0, none⟩ = some (.iface t3 p3) ∧ w.cell? ⟨4, 0, none⟩ = some (.iface t4 p4)
theorem cell_lt {w : World} {a : Addr} {v : Value} (h : w.cell? a = some v) : a.block < w.heap.size := by
  unfold World.cell? at h
  cases e : w.heap[a.block]? with
  | none => rw [e] at h; simp at h
  | some x => exact (Array.getElem?_eq_some_iff.1 e).1
theorem ErrsAt.below {w w' : World} (h : ErrsAt w) (hb : Below w.heap.size w w') : ErrsAt w' := by
  obtain ⟨t3, t4, p3, p4, h3, h4⟩ := h
  exact ⟨t3, t4, p3, p4, (hb.cell (p := ⟨3, 0, none⟩) (cell_lt h3)).trans h3, (hb.cell (p := ⟨4, 0, none⟩) (cell_lt h4)).trans h4⟩
theorem within_yes (n lo hi : Int) (h1 : lo ≤ n) (h2 : n ≤ hi) (w : World) :
    Calls Tryd.prog 37 #[.int .i64 n, .int .i64 lo, .int .i64 hi] w fun e w' => e = .returned (.bool true) ∧ w = w' := by
  go_enter Tryd.func37, Tryd.ntmps37
  go_wp2
  go_ret
  exact ⟨rfl, rfl⟩
theorem bytes_below (w : World) (t : TypeId) (s : ByteArray) : Below w.heap.size w (Lib.bytesWorld w t s) := by
  exact Lib.bytesWorld_below _ _ _
theorem atoi_ok (s : ByteArray) (hm : s.size ≤ 1048576) (v : Int) (h : Lib.atoiAll s.data.toList = .ok v) (w : World) :
    Calls Tryd.prog 36 #[.string s] w fun e w' => e = .returned (.tuple #[.int .i64 v, .nilIface]) ∧ Below w.heap.size w w' := by
  refine (Tryd.strconv_Atoi_ok s (by omega) v h w).mono ?_
  rintro e w' ⟨rfl, rfl | ⟨t, rfl⟩⟩
  · exact ⟨rfl, Below.refl _ _⟩
  · exact ⟨rfl, bytes_below _ _ _⟩
theorem atoi_err (s : ByteArray) (hm : s.size ≤ 1048576) (h : ∀ v, Lib.atoiAll s.data.toList ≠ .ok v) (w : World) (he : ErrsAt w) :
    Calls Tryd.prog 36 #[.string s] w fun e w' => (∃ (x : Int) (t : TypeId) (p : Value), e = .returned (.tuple #[.int .i64 x, .iface t p])) ∧ Below w.heap.size w w' := by
  obtain ⟨t3, t4, p3, p4, h3, h4⟩ := he
  rcases e : Lib.atoiAll s.data.toList with v | _ | _
  · exact absurd e (h v)
  · refine (Tryd.strconv_Atoi_syntax s (by omega) e _ w h3 (.inr ⟨_, _, rfl⟩)).mono ?_
    rintro e w' ⟨N, rfl, _, _, hb⟩
    exact ⟨⟨_, _, _, rfl⟩, hb⟩
  · refine (Tryd.strconv_Atoi_range s (by omega) e _ w h4 (.inr ⟨_, _, rfl⟩)).mono ?_
    rintro e w' ⟨N, rfl, _, _, hb⟩
    exact ⟨⟨_, _, _, rfl⟩, hb⟩
theorem str_inj {a b : ByteArray} (h : a.toList = b.toList) : a = b := by
  rw [Go.ByteArray.toList_eq, Go.ByteArray.toList_eq] at h; exact ByteArray.ext (Array.toList_inj.1 h)
theorem str_ne {a b : ByteArray} (h : ¬ a = b) : (a.toList == b.toList) = false := beq_eq_false_iff_ne.2 fun e => h (str_inj e)
theorem str_eq (a : ByteArray) : (a.toList == a.toList) = true := beq_self_eq_true _
theorem ret_ib {a a' : Int} {b b' : Bool} (h1 : a' = a) (h2 : b' = b) : Ending.returned (.tuple #[.int .i64 a, .bool b]) = .returned (.tuple #[.int .i64 a', .bool b']) := by rw [h1, h2]
set_option maxHeartbeats 800000 in
theorem implParse_err (s : ByteArray) (w : World) (hm : s.size ≤ 1048576) (hE : ErrsAt w) (h : ∀ v, Lib.atoiAll s.data.toList ≠ .ok v) :
    Calls Tryd.prog 23 #[.string s] w fun e w' => e = .returned (.tuple #[.int .i64 (numN s.data.toList : Int), .bool (okN s.data.toList)]) ∧ Below w.heap.size w w' := by
  have ho : okN s.data.toList = false := by
    cases e : okN s.data.toList with
    | false => rfl
    | true => exact absurd (atoi_of_ok e).1 (h _)
  have R := Lib.hid ho
  have R2 := Lib.hid (numN_no ho)
  clear ho
  go_enter Tryd.func23, Tryd.ntmps23
  go_wp2_with fail
  refine (atoi_err s hm h _ hE).mono ?_
  rintro e w1 ⟨⟨x, t, p, rfl⟩, hb⟩
  clear h
  go_wp2
  go_ret2
  exact ⟨ret_ib (by rw [R2.out]; rfl) (by rw [R.out]), hb⟩

set_option maxHeartbeats 800000 in
theorem implParse_out (s : ByteArray) (w : World) (hm : s.size ≤ 1048576) (v : Int) (h : Lib.atoiAll s.data.toList = .ok v) (hv : ¬ (0 ≤ v ∧ v ≤ 1000000000)) :
    Calls Tryd.prog 23 #[.string s] w fun e w' => e = .returned (.tuple #[.int .i64 (numN s.data.toList : Int), .bool (okN s.data.toList)]) ∧ Below w.heap.size w w' := by
  have ho : okN s.data.toList = false := by
    cases e : okN s.data.toList with
    | false => rfl
    | true =>
      obtain ⟨a1, _, a3⟩ := atoi_of_ok e
      rw [h] at a1
      have a4 := Lib.NumEnd.ok.inj a1
      omega
  have R := Lib.hid ho
  have R2 := Lib.hid (numN_no ho)
  clear ho
  go_enter Tryd.func23, Tryd.ntmps23
  go_wp2_with fail
  refine (atoi_ok s hm v h _).mono ?_
  rintro e w1 ⟨rfl, hb⟩
  clear h
  by_cases hv0 : v < 0
  · clear hv
    go_wp2
    go_ret2
    exact ⟨ret_ib (by rw [R2.out]; rfl) (by rw [R.out]), hb⟩
  · have hv1 : 1000000000 < v := by omega
    have hv2 : 0 ≤ v := by omega
    clear hv hv0
    go_wp2
    go_ret2
    exact ⟨ret_ib (by rw [R2.out]; rfl) (by rw [R.out]), hb⟩

set_option maxHeartbeats 800000 in
theorem implParse_text (s : ByteArray) (w : World) (hm : s.size ≤ 1048576) (hT : TabB w) (v : Int) (h : Lib.atoiAll s.data.toList = .ok v) (hv : 0 ≤ v ∧ v ≤ 1000000000) (ht : ¬ (⟨(Lib.itoa v).toArray⟩ : ByteArray) = s) :
    Calls Tryd.prog 23 #[.string s] w fun e w' => e = .returned (.tuple #[.int .i64 (numN s.data.toList : Int), .bool (okN s.data.toList)]) ∧ Below w.heap.size w w' := by
  have ho : okN s.data.toList = false := by
    cases e : okN s.data.toList with
    | false => rfl
    | true =>
      obtain ⟨a1, a2, _⟩ := atoi_of_ok e
      rw [h] at a1
      have a4 := Lib.NumEnd.ok.inj a1
      exact absurd (by rw [a4, a2]) ht
  have R := Lib.hid ho
  have R2 := Lib.hid (numN_no ho)
  clear ho
  go_enter Tryd.func23, Tryd.ntmps23
  go_wp2_with fail
  refine (atoi_ok s hm v h _).mono ?_
  rintro e w1 ⟨rfl, hb⟩
  have hT' := Lib.hid (hT.below hb)
  obtain ⟨hv0, hv1⟩ := hv
  clear h
  go_wp2_with fail
  refine (within_yes v 0 1000000000 hv0 hv1 _).mono ?_
  rintro e w' ⟨rfl, rfl⟩
  go_wp2_with fail
  refine (itoa_any v (by omega) (by omega) _ hT'.out).mono ?_
  rintro e w3 ⟨rfl, hb3⟩
  generalize (⟨(Lib.itoa v).toArray⟩ : ByteArray) = tt at *
  have hq := str_ne ht
  have hb4 := hb.trans (hb3.mono hb.size)
  go_wp2
  go_ret2
  exact ⟨ret_ib (by rw [R2.out]; rfl) (by rw [R.out]), hb4⟩

set_option maxHeartbeats 800000 in
theorem implParse_same (s : ByteArray) (w : World) (hm : s.size ≤ 1048576) (hT : TabB w) (v : Int) (h : Lib.atoiAll s.data.toList = .ok v) (hv : 0 ≤ v ∧ v ≤ 1000000000) (ht : (⟨(Lib.itoa v).toArray⟩ : ByteArray) = s) :
    Calls Tryd.prog 23 #[.string s] w fun e w' => e = .returned (.tuple #[.int .i64 (numN s.data.toList : Int), .bool (okN s.data.toList)]) ∧ Below w.heap.size w w' := by
  obtain ⟨ho, hn⟩ := okN_atoi (l := s.data.toList) hv.1 hv.2 (by rw [← ht])
  have R := Lib.hid ho
  have R2 := Lib.hid hn
  clear ho hn
  go_enter Tryd.func23, Tryd.ntmps23
  go_wp2_with fail
  refine (atoi_ok s hm v h _).mono ?_
  rintro e w1 ⟨rfl, hb⟩
  have hT' := Lib.hid (hT.below hb)
  obtain ⟨hv0, hv1⟩ := hv
  clear h
  go_wp2_with fail
  refine (within_yes v 0 1000000000 hv0 hv1 _).mono ?_
  rintro e w' ⟨rfl, rfl⟩
  go_wp2_with fail
  refine (itoa_any v (by omega) (by omega) _ hT'.out).mono ?_
  rintro e w3 ⟨rfl, hb3⟩
  rw [ht]
  have hq := str_eq s
  have hb4 := hb.trans (hb3.mono hb.size)
  go_wp2
  go_ret2
  exact ⟨ret_ib R2.out R.out, hb4⟩

/-- The number of the first k bytes. -/
def dvK (s : ByteArray) (k : Nat) : Nat := dvs 0 (s.data.toList.take k)
theorem dvK_step {s : ByteArray} {k : Nat} (h : k < s.size) (hd : 48 ≤ s[k].toNat) : (dvK s (k + 1) : Int) = 10 * (dvK s k : Int) + (s[k].toNat : Int) - 48 := by
  unfold dvK; rw [take_snoc s k h, dvs_append]
  show ((10 * _ + (s[k].toNat - 48) : Nat) : Int) = _
  omega
theorem dvK_bd {s : ByteArray} {k : Nat} (hk : k ≤ 10) (h : ∀ j, (hj : j < s.size) → j < k → s[j].toNat ≤ 57) : dvK s k ≤ 10000000000 := by
  have h1 := dvs_lt (s.data.toList.take k) (fun c hc => by
    obtain ⟨j, hj, rfl⟩ := List.mem_iff_getElem.1 hc
    have hl : j < k ∧ j < s.size := by simp at hj; omega
    have h3 := h j hl.2 hl.1
    rw [List.getElem_take]
    exact h3) 0
  have h2 : (s.data.toList.take k).length ≤ 10 := by rw [List.length_take]; omega
  have h3 : 10 ^ (s.data.toList.take k).length ≤ 10 ^ 10 := Nat.pow_le_pow_right (by omega) h2
  unfold dvK; omega
theorem dvK_all (s : ByteArray) : dvK s s.size = dvs 0 s.data.toList := by unfold dvK; rw [take_all]
theorem byte_mem (s : ByteArray) (k : Nat) (h : k < s.size) : s[k] ∈ s.data.toList := by
  rw [List.mem_iff_getElem]; exact ⟨k, by simpa using h, by rfl⟩
set_option maxHeartbeats 800000 in
theorem specParse_long (s : ByteArray) (w : World) (hm : s.size ≤ 1048576) (hl : 10 < s.size) :
    Calls Tryd.prog 22 #[.string s] w fun e w' => e = .returned (.tuple #[.int .i64 (numN s.data.toList : Int), .bool (okN s.data.toList)]) ∧ Below w.heap.size w w' := by
  have ho : okN s.data.toList = false := okN_long (by simpa using hl)
  have R := Lib.hid ho
  have R2 := Lib.hid (numN_no ho)
  clear ho
  go_enter Tryd.func22, Tryd.ntmps22
  go_wp2
  go_ret2
  exact ⟨ret_ib (by rw [R2.out]; rfl) (by rw [R.out]), Below.refl _ _⟩

set_option maxHeartbeats 1600000 in
theorem specParse_short (s : ByteArray) (w : World) (hm : s.size ≤ 1048576) (hl : s.size ≤ 10) :
    Calls Tryd.prog 22 #[.string s] w fun e w' => e = .returned (.tuple #[.int .i64 (numN s.data.toList : Int), .bool (okN s.data.toList)]) ∧ Below w.heap.size w w' := by
  have HA := Lib.hid (dvK_all s)
  go_enter Tryd.func22, Tryd.ntmps22
  go_wp2
  go_loop [4, 5] (fun n i => ∃ k : Nat, k ≤ s.size ∧ i = .int .i64 k ∧ n = .int .i64 (dvK s k) ∧ Hid (∀ j, (hj : j < s.size) → j < k → s[j].toNat ≤ 57)) (fun _ i => s.size - (intOf i).toNat)
  case atStart => exact ⟨0, Nat.zero_le _, rfl, rfl, Lib.hid (fun j _ h => absurd h (Nat.not_lt_zero _))⟩
  case round =>
    obtain ⟨k, hk, rfl, rfl, HD⟩ := hrel
    have bd := dvK_bd (s := s) (k := k) (by omega) HD.out
    by_cases hlt : k < s.size
    · have e1 : (k : Int) < (s.size : Int) := by omega
      by_cases h1 : s[k].toNat < 48
      · have c1 : (s[k].toNat : Int) < 48 := by omega
        have ho : okN s.data.toList = false := okN_other (byte_mem s k hlt) (by omega)
        have R := Lib.hid ho
        have R2 := Lib.hid (numN_no ho)
        clear ho
        clear h1
        go_wp2
        go_ret2
        exact ⟨ret_ib (by rw [R2.out]; rfl) (by rw [R.out]), Below.refl _ _⟩
      · by_cases h2 : 57 < s[k].toNat
        · have c1 : (48 : Int) ≤ (s[k].toNat : Int) := by omega
          have c2 : (57 : Int) < (s[k].toNat : Int) := by omega
          have ho : okN s.data.toList = false := okN_other (byte_mem s k hlt) (by omega)
          have R := Lib.hid ho
          have R2 := Lib.hid (numN_no ho)
          clear ho
          clear h1 h2
          go_wp2
          go_ret2
          exact ⟨ret_ib (by rw [R2.out]; rfl) (by rw [R.out]), Below.refl _ _⟩
        · have c1 : (48 : Int) ≤ (s[k].toNat : Int) := by omega
          have c2 : (s[k].toNat : Int) ≤ 57 := by omega
          have HS := Lib.hid (dvK_step hlt (by omega))
          have HD2 : Hid (∀ j, (hj : j < s.size) → j < k + 1 → s[j].toNat ≤ 57) := Lib.hid (fun j hj h => by
            rcases Nat.lt_or_ge j k with h' | h'
            · exact HD.out j hj h'
            · obtain rfl : j = k := by omega
              omega)
          clear h1 h2
          go_wp2
          go_round
          case rel => exact ⟨k + 1, by omega, by go_num, by rw [HS.out]; try go_num, HD2⟩
          case measure => simp [intOf]; omega
    · obtain rfl : k = s.size := by omega
      rw [HA.out] at bd ⊢
      by_cases h1 : 1000000000 < dvs 0 s.data.toList
      · have c1 : (1000000000 : Int) < (dvs 0 s.data.toList : Int) := by omega
        have ho : okN s.data.toList = false := okN_big h1
        have R := Lib.hid ho
        have R2 := Lib.hid (numN_no ho)
        clear ho
        clear h1
        go_wp2
        go_ret2
        exact ⟨ret_ib (by rw [R2.out]; rfl) (by rw [R.out]), Below.refl _ _⟩
      · have c1 : (dvs 0 s.data.toList : Int) ≤ 1000000000 := by omega
        have c0 : (0 : Int) ≤ (dvs 0 s.data.toList : Int) := by omega
        by_cases h2 : (⟨(Lib.itoa (dvs 0 s.data.toList : Nat)).toArray⟩ : ByteArray) = s
        · have ho : okN s.data.toList = true := okN_same (by have e := congrArg (fun x : ByteArray => x.data.toList) h2; simpa using e) (by omega)
          have R := Lib.hid ho
          have R2 : Hid (numN s.data.toList = dvs 0 s.data.toList) := Lib.hid (by unfold numN; rw [if_pos ho])
          clear ho h1
          go_wp2_with fail
          refine (specFormat_any (dvs 0 s.data.toList : Nat) (by omega) (by omega) _).mono ?_
          rintro e w1 ⟨rfl, hb⟩
          rw [h2]
          have hq := str_eq s
          go_wp2
          go_ret2
          exact ⟨ret_ib (by rw [R2.out]) R.out, hb⟩
        · have ho : okN s.data.toList = false := okN_text (fun e => h2 (by rw [e]))
          have R := Lib.hid ho
          have R2 := Lib.hid (numN_no ho)
          clear ho h1
          go_wp2_with fail
          refine (specFormat_any (dvs 0 s.data.toList : Nat) (by omega) (by omega) _).mono ?_
          rintro e w1 ⟨rfl, hb⟩
          generalize (⟨(Lib.itoa (dvs 0 s.data.toList : Nat)).toArray⟩ : ByteArray) = tt at *
          have hq := str_ne h2
          go_wp2
          go_ret2
          exact ⟨ret_ib (by rw [R2.out]; rfl) (by rw [R.out]), hb⟩

theorem implParse_any (s : ByteArray) (w : World) (hm : s.size ≤ 1048576) (hT : TabB w) (hE : ErrsAt w) :
    Calls Tryd.prog 23 #[.string s] w fun e w' => e = .returned (.tuple #[.int .i64 (numN s.data.toList : Int), .bool (okN s.data.toList)]) ∧ Below w.heap.size w w' := by
  rcases e : Lib.atoiAll s.data.toList with v | _ | _
  · by_cases hv : 0 ≤ v ∧ v ≤ 1000000000
    · by_cases ht : (⟨(Lib.itoa v).toArray⟩ : ByteArray) = s
      · exact implParse_same s w hm hT v e hv ht
      · exact implParse_text s w hm hT v e hv ht
    · exact implParse_out s w hm v e hv
  · exact implParse_err s w hm hE (fun v h => by rw [e] at h; cases h)
  · exact implParse_err s w hm hE (fun v h => by rw [e] at h; cases h)
theorem specParse_any (s : ByteArray) (w : World) (hm : s.size ≤ 1048576) :
    Calls Tryd.prog 22 #[.string s] w fun e w' => e = .returned (.tuple #[.int .i64 (numN s.data.toList : Int), .bool (okN s.data.toList)]) ∧ Below w.heap.size w w' := by
  rcases Nat.lt_or_ge 10 s.size with h | h
  · exact specParse_long s w hm h
  · exact specParse_short s w hm h
end Go.Proofs.YtmfboleiakbpnaaDoor
