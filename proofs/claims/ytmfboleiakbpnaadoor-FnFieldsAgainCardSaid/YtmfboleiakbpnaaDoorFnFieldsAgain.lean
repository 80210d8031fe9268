/- FnFieldsAgain: for every input the law returns true and its arguments read afterwards as they read before. Condition: the listed variables of the library hold what their initialisers lay; the card ties that to the program's text. -/
import Derived.Test.YtmfboleiakbpnaaDoorRows
import Derived.Test.YtmfboleiakbpnaaDoorCards
import Derived.Test.YtmfboleiakbpnaaDoorTie
import Derived.WalkKit
import Derived.ProofKit
import Derived.OpenShut
import Derived.ShutString
import Derived.ChangeOld
import Derived.Below
import Derived.Lib.SmallJoins
import Derived.SliceStrings
import Derived.LaidMore
import Derived.Stop.Joined
import Derived.Stop.LaidErr
import Derived.Handed
import Derived.MakeChecks
import Derived.LaidHandle
import Derived.SevenTiedAt
import Derived.Test.YtmfboleiakbpnaaDoorItoa
import Derived.Test.YtmfboleiakbpnaaDoorSplitS
import Derived.Test.YtmfboleiakbpnaaDoorDrawF
namespace Go.Proofs.YtmfboleiakbpnaaDoor.fnFieldsAgain
open Go.ChangeShapes Go.WideShapes Go.ChangeAt Go.RowKit Go.Joins
open Go.ChangeMaps (open_string shut_string)
set_option linter.unusedVariables false
set_option linter.unusedSimpArgs false
set_option maxRecDepth 100000

theorem own : ownKnob Tryd.prog.godebug = none := by kernel_rfl
theorem laidOut : laidOutB Tryd.prog = true := by kernel_rfl
/-- The listed variables. -/
abbrev LD : List (String × DataW Unit) := Rows.fnFieldsAgainRow.laid
theorem door_met (os : Os) (args : Array Value) : laidMetH Tryd.prog LD ((World.doorLaid Tryd.prog 86 os).forCall (fun _ _ => 0) ⟨#[], args, []⟩).memory :=
  laidMetH_of_parts3 (fuel := 8) (laidMet_of_run' 8 (by kernel_rfl) (by kernel_rfl)) (by kernel_rfl) (by kernel_rfl)

theorem gT : Tryd.prog.globalNamed "internal/strconv.uint64pow10" = some 5 := by kernel_rfl
/-- The table of powers of ten. -/
theorem tab_of {W : World} (h : laidMet Tryd.prog LD W) : Lib.TabIs Tryd.prog W "internal/strconv.uint64pow10" .u64 Lib.pow10Tab :=
  Lib.tabIs_of_head (t := 101) (e := 77) (n := 20) gT (by kernel_rfl) (by kernel_rfl) (by kernel_rfl) (by kernel_rfl) (by kernel_rfl) (show laidMet Tryd.prog (("internal/strconv.uint64pow10", Lib.tabData .u64 Lib.pow10Tab) :: _) W from laidMet.tail (laidMet.tail h))

theorem big_no (a : Option Addr) (n cap : Nat) (hn : n ≤ 1048576) (w : World) :
    Calls Tryd.prog 16 #[.slice a n cap] w fun e w' => e = .returned (.bool false) ∧ w = w' := by
  go_enter Tryd.func16, Tryd.ntmps16
  go_wp2
  go_ret
  exact ⟨ret_bool (decide_eq_false (by omega)), rfl⟩
theorem gS : Tryd.prog.globalNamed "strings.asciiSpace" = some 0 := by kernel_rfl
theorem laidS : Rows.laid_strings_asciiSpace (H := Unit) = Lib.tabData .u8 Lib.asciiSpaceTab := by kernel_rfl
/-- The table of spaces. -/
theorem tabS_of {W : World} (h : laidMet Tryd.prog LD W) : TabS W := by
  have h2 : laidMet Tryd.prog (("strings.asciiSpace", Rows.laid_strings_asciiSpace) :: []) W := laidMet.tail (laidMet.tail (laidMet.tail (laidMet.tail h)))
  rw [laidS] at h2
  exact Lib.tabBelow_of_tabIs (Lib.tabIs_of_head (t := 54) (e := 5) (n := 256) gS (by kernel_rfl) (by kernel_rfl) (by kernel_rfl) (by kernel_rfl) (by kernel_rfl) h2)
theorem dr_belS {B : Nat} {w w1 w2 : World} (h : Below B w w1) (h2 : ∃ n, w2 = w1.drewN n) : Below B w w2 := h.trans (dr_below h2 B)
set_option maxHeartbeats 800000 in
theorem sameTexts_same (a1 a2 : Option Addr) (c1 c2 : Nat) (ss : List ByteArray) (w : World) (h1 : RdS w a1 ss) (h2 : RdS w a2 ss) (hm : ss.length ≤ maxLen) :
    Calls Tryd.prog 21 #[.slice a1 ss.length c1, .slice a2 ss.length c2] w fun e w' => e = .returned (.bool true) ∧ ∃ n, w' = w.drewN n := by
  unfold maxLen at hm
  rcases h1 with rfl | ⟨b1, o1, rfl, hp, hl1, hc1⟩
  · clear h2 hm
    go_enter Tryd.func21, Tryd.ntmps21
    go_wp2
    refine wp_loop_rounds 1 ?_
    rw [rounds_succ]
    go_wp2
    go_ret
    exact ⟨rfl, dr_refl _⟩
  · rcases h2 with rfl | ⟨b2, o2, rfl, _, hl2, hc2⟩
    · simp at hp
    generalize hn : ss.length = n at *
    go_enter Tryd.func21, Tryd.ntmps21
    go_wp2
    go_loopw [5] (fun i wr => ∃ k : Nat, k ≤ n ∧ i = .int .i64 k ∧ ∃ q, wr = w.drewN q) (fun i _ => n - (intOf i).toNat)
    case atStart => exact ⟨0, Nat.zero_le _, rfl, dr_refl _⟩
    case round =>
      obtain ⟨k, hk, rfl, q, rfl⟩ := hrel
      by_cases hlt : k < n
      · have g1 := hc1 k hlt
        have g2 := hc2 k hlt
        have e1 : (k : Int) < (n : Int) := by omega
        go_wp2
        go_quiet (fail)
        go_wp2
        go_roundw
        case rel => exact ⟨k + 1, by omega, by go_num, _, rfl⟩
        case measure => simp [intOf]; omega
      · obtain rfl : k = n := by omega
        go_wp2
        go_ret
        exact ⟨rfl, _, rfl⟩


def noSp (x : List UInt8) : Prop := ∀ b ∈ x, Lib.isSp b = false
def joinL : List (List UInt8) → List UInt8
  | [] => []
  | x :: r => x ++ 32 :: joinL r
theorem joinL_append (a b : List (List UInt8)) : joinL (a ++ b) = joinL a ++ joinL b := by
  induction a with
  | nil => rfl
  | cons x r ih => show x ++ 32 :: joinL (r ++ b) = (x ++ 32 :: joinL r) ++ joinL b; rw [ih]; simp
theorem fg_run : ∀ (x cur r : List UInt8), noSp x → Lib.fieldsGo cur (x ++ r) = Lib.fieldsGo (cur ++ x) r
  | [], cur, r, _ => by simp
  | b :: x, cur, r, h => by
    have hb := h b (List.mem_cons_self ..)
    show Lib.fieldsGo cur (b :: (x ++ r)) = _
    rw [Lib.fieldsGo, hb]
    show Lib.fieldsGo (cur ++ [b]) (x ++ r) = _
    rw [fg_run x _ r (fun c hc => h c (List.mem_cons_of_mem _ hc))]; simp
theorem fields_join : ∀ ps : List (List UInt8), (∀ x ∈ ps, x ≠ [] ∧ noSp x) → Lib.fields (joinL ps) = ps
  | [], _ => rfl
  | x :: r, h => by
    obtain ⟨hx, hs⟩ := h x (List.mem_cons_self ..)
    have ih := fields_join r (fun y hy => h y (List.mem_cons_of_mem _ hy))
    show Lib.fieldsGo [] (x ++ 32 :: joinL r) = _
    rw [fg_run x [] _ hs, List.nil_append, Lib.fieldsGo, show Lib.isSp 32 = true from by decide]
    have he : x.isEmpty = false := by cases x with
      | nil => exact absurd rfl hx
      | cons _ _ => rfl
    rw [he]
    show x :: Lib.fields (joinL r) = _
    rw [ih]
theorem fg_mem : ∀ (l cur : List UInt8), noSp cur → ∀ x ∈ Lib.fieldsGo cur l, x ≠ [] ∧ noSp x ∧ (∀ b ∈ x, b ∈ cur ∨ b ∈ l) ∧ x.length ≤ cur.length + l.length
  | [], cur, hc, x, hx => by
    unfold Lib.fieldsGo at hx
    cases cur with
    | nil => exact absurd hx (by simp)
    | cons c r =>
      obtain rfl : x = c :: r := by simpa using hx
      exact ⟨by simp, hc, fun b hb => .inl hb, by simp⟩
  | b :: l, cur, hc, x, hx => by
    unfold Lib.fieldsGo at hx
    cases hb : Lib.isSp b with
    | false =>
      rw [hb] at hx
      have hc2 : noSp (cur ++ [b]) := fun c hcm => by
        rcases List.mem_append.1 hcm with h | h
        · exact hc c h
        · obtain rfl := List.mem_singleton.1 h; exact hb
      obtain ⟨h1, h2, h3, h4⟩ := fg_mem l (cur ++ [b]) hc2 x hx
      refine ⟨h1, h2, fun c hcm => ?_, by rw [List.length_append] at h4; simp at h4 ⊢; omega⟩
      rcases h3 c hcm with h | h
      · rcases List.mem_append.1 h with h | h
        · exact .inl h
        · obtain rfl := List.mem_singleton.1 h; exact .inr (List.mem_cons_self ..)
      · exact .inr (List.mem_cons_of_mem _ h)
    | true =>
      rw [hb] at hx
      have hn : noSp [] := fun c hcm => absurd hcm (by simp)
      have rest : ∀ y ∈ Lib.fieldsGo [] l, y ≠ [] ∧ noSp y ∧ (∀ c ∈ y, c ∈ cur ∨ c ∈ b :: l) ∧ y.length ≤ cur.length + (b :: l).length := fun y hy => by
        obtain ⟨h1, h2, h3, h4⟩ := fg_mem l [] hn y hy
        refine ⟨h1, h2, fun c hcm => ?_, by simp at h4 ⊢; omega⟩
        rcases h3 c hcm with h | h
        · exact absurd h (by simp)
        · exact .inr (List.mem_cons_of_mem _ h)
      cases cur with
      | nil => exact rest x hx
      | cons c r =>
        rcases List.mem_cons.1 hx with rfl | h
        · exact ⟨by simp, hc, fun c hcm => .inl hcm, by simp⟩
        · exact rest x h
theorem joinL_mem : ∀ (ps : List (List UInt8)), ∀ b ∈ joinL ps, b = 32 ∨ ∃ x ∈ ps, b ∈ x
  | [], b, hb => absurd hb (by simp [joinL])
  | x :: r, b, hb => by
    rcases List.mem_append.1 hb with h | h
    · exact .inr ⟨x, List.mem_cons_self .., h⟩
    · rcases List.mem_cons.1 h with h | h
      · exact .inl h
      · rcases joinL_mem r b h with h | ⟨y, hy, h⟩
        · exact .inl h
        · exact .inr ⟨y, List.mem_cons_of_mem _ hy, h⟩
theorem okF_parts {s : ByteArray} (h : okF s = true) : s.size ≤ 600 ∧ prn s = true ∧ (Lib.fields s.data.toList).length ≤ 24 := by
  unfold okF at h
  simp only [Bool.and_eq_true, decide_eq_true_eq] at h
  exact h
theorem prn_mem {s : ByteArray} (h : prn s = true) {b : UInt8} (hb : b ∈ s.data.toList) : 32 ≤ b.toNat ∧ b.toNat ≤ 126 := by
  unfold prn at h
  rw [List.all_eq_true] at h
  exact of_decide_eq_true (h b hb)
/-- A line's fields, joined by spaces, are a line with the same fields. -/
theorem again {s t : ByteArray} (h : okF s = true) (ht : t.data.toList = joinL (Lib.fields s.data.toList)) (hl : t.size ≤ 600) : okF t = true ∧ spV t = spV s := by
  obtain ⟨h1, h2, h3⟩ := okF_parts h
  have hm : ∀ x ∈ Lib.fields s.data.toList, x ≠ [] ∧ noSp x := fun x hx => by
    obtain ⟨a, b, _⟩ := fg_mem s.data.toList [] (fun c hcm => absurd hcm (by simp)) x hx
    exact ⟨a, b⟩
  have hf : Lib.fields t.data.toList = Lib.fields s.data.toList := by rw [ht, fields_join _ hm]
  have ho : okF t = true := okF_yes hl (by
    unfold prn
    rw [List.all_eq_true]
    intro b hb
    rw [ht] at hb
    refine decide_eq_true ?_
    rcases joinL_mem _ b hb with rfl | ⟨x, hx, hbx⟩
    · decide
    · obtain ⟨_, _, c, _⟩ := fg_mem s.data.toList [] (fun c hcm => absurd hcm (by simp)) x hx
      rcases c b hbx with h | h
      · exact absurd h (by simp)
      · exact prn_mem h2 h) (by rw [hf]; exact h3)
  exact ⟨ho, by rw [spV_yes ho, spV_yes h, hf]⟩
theorem sel_map {l : List (List UInt8)} {k : Nat} (h : k < l.length) : sel (l.map mkB) k = mkB l[k] := by rw [sel_get _ _ (by simpa using h)]; simp
theorem piece_size {s : ByteArray} {k : Nat} (h : k < (Lib.fields s.data.toList).length) : (mkB (Lib.fields s.data.toList)[k]).size ≤ s.size := by
  obtain ⟨_, _, _, d⟩ := fg_mem s.data.toList [] (fun c hcm => absurd hcm (by simp)) _ (List.getElem_mem h)
  show (Lib.fields s.data.toList)[k].toArray.size ≤ _
  simpa using d
theorem piece_step {t : ByteArray} {l : List (List UInt8)} {k : Nat} (h : k < l.length) (ht : t.data.toList = joinL (l.take k)) : (t ++ mkB l[k] ++ ⟨#[32]⟩).data.toList = joinL (l.take (k + 1)) := by
  rw [List.take_succ_eq_append_getElem h, joinL_append, ← ht]
  simp [mkB, joinL]

set_option maxHeartbeats 3200000 in
theorem walk (a : Option Addr) (n cap : Nat) (w : World) (hn : n ≤ maxLen) (hr : RdB w.heap.size w a n) (hL : laidMet Tryd.prog LD w) :
    Calls Tryd.prog 6 #[.slice a n cap] w fun e w' => e = .returned (.bool true) ∧ Below w.heap.size w w' := by
  have HT := Lib.hid (Lib.tabBelow_of_tabIs (tab_of hL))
  have HS := Lib.hid (tabS_of hL)
  clear hL
  by_cases hg : 1048576 < n
  · unfold maxLen at hn
    clear hr
    go_enter Tryd.func6, Tryd.ntmps6
    go_wp2
    go_ret
    exact ⟨rfl, Below.refl _ _⟩
  have hn2 : n ≤ 1048576 := by omega
  clear hg hn
  have HR := Lib.hid hr; clear hr
  go_enter Tryd.func6, Tryd.ntmps6
  go_wp2_with fail
  refine (big_no _ _ _ hn2 _).mono ?_
  rintro e w' ⟨rfl, rfl⟩
  go_wp2_with fail
  refine (drawSplit_any _ _ _ _ hn2 HR.out).mono ?_
  rintro e w1 ⟨s, rfl, hs, b1⟩
  have HB := Lib.hid b1; clear b1
  have hs2 : s.size ≤ 1048576 := by omega
  go_wp2_with fail
  refine (implSplit_any s hs2 _ (HS.out.below HB.out)).mono ?_
  rintro e w2 ⟨⟨v1, rfl, o1⟩, b2⟩
  have HB2 := Lib.hid (HB.out.trans (b2.mono HB.out.size)); clear b2
  go_wp2_with fail
  refine (specSplit_any s hs2 _).mono ?_
  rintro e w3 ⟨⟨v2, rfl, o2⟩, b3⟩
  have HB3 := Lib.hid (HB2.out.trans (b3.mono HB2.out.size))
  obtain ⟨a1, c1, rfl, r1⟩ := OwnS.read (o1.below b3)
  clear o1 o2 b3
  cases ho : okF s with
  | false =>
    have hz : (spV s).length = 0 := by rw [spV_no ho]; rfl
    rw [hz]
    clear hz r1
    go_wp2_with fail
    refine (implFormat_any (-3) (by omega) (by omega) _ (TabB.below HT.out HB3.out)).mono ?_
    rintro e w4 ⟨rfl, b4⟩
    have HB4 := HB3.out.trans (b4.mono HB3.out.size)
    have q : (⟨(Lib.itoa (-3)).toArray⟩ : ByteArray) = ⟨#[45, 51]⟩ := by decide +kernel
    rw [q]
    go_wp2
    go_ret
    exact ⟨rfl, HB4⟩
  | true =>
    have HV := Lib.hid (spV_yes ho)
    have HP := Lib.hid (okF_parts ho)
    have h24 := HP.out.2.2
    have h600 := HP.out.1
    have HAG := Lib.hid (fun (t : ByteArray) => again (t := t) ho)
    rw [HV.out] at r1 ⊢
    rw [List.length_map]
    generalize hm : (Lib.fields s.data.toList).length = m at *
    have HM := Lib.hid hm; clear hm
    have HPS := Lib.hid (fun k h => piece_size (s := s) (k := k) h)
    have fin : ∀ t : ByteArray, t.data.toList = joinL ((Lib.fields s.data.toList).take m) → t.data.toList = joinL (Lib.fields s.data.toList) := fun t h => by rw [h, ← HM.out, List.take_length]
    have HFIN := Lib.hid fin; clear fin ho
    rcases r1 with h0 | ⟨b, o, rfl, hp, hlt, hc⟩
    · have hm0 : m = 0 := by rw [← HM.out]; have := congrArg List.length h0; simpa using this
      subst hm0
      have h00 : (⟨#[]⟩ : ByteArray).data.toList = joinL ((Lib.fields s.data.toList).take 0) := rfl
      obtain ⟨ho2, hv2⟩ := HAG.out ⟨#[]⟩ (HFIN.out _ h00) (Nat.zero_le _)
      have hsp0 : spV s = [] := by rw [HV.out]; exact h0
      go_wp2
      refine wp_loop_rounds 1 ?_
      rw [rounds_succ]
      go_wp2_with fail
      refine (implSplit_any ⟨#[]⟩ (Nat.zero_le _) _ (HS.out.below HB3.out)).mono ?_
      rintro e w5 ⟨⟨v5, rfl, o5⟩, b5⟩
      have HB5 := Lib.hid (HB3.out.trans (b5.mono HB3.out.size)); clear b5
      rw [ho2]
      rw [hv2, hsp0] at o5
      obtain ⟨a5, c5, rfl, r5⟩ := OwnS.read o5
      clear o5 hv2 hsp0 ho2 h00
      go_wp2_with fail
      refine (sameTexts_same a1 a5 c1 c5 [] _ (.inl rfl) (.inl rfl) (Nat.zero_le _)).mono ?_
      rintro e w6 ⟨rfl, n6, rfl⟩
      go_wp2
      go_ret
      exact ⟨rfl, dr_belS HB5.out ⟨_, rfl⟩⟩
    · have HC := Lib.hid hc; clear hc
      have hmlen : ((Lib.fields s.data.toList).map mkB).length = m := by rw [List.length_map]; exact HM.out
      rw [hmlen] at hp
      go_wp2
      go_loop [8, 9] (fun u i => ∃ (k : Nat) (t : ByteArray), k ≤ m ∧ i = .int .i64 k ∧ u = .string t ∧ t.size ≤ 700 * k ∧ Hid (t.data.toList = joinL ((Lib.fields s.data.toList).take k))) (fun _ i => m - (intOf i).toNat)
      case atStart => exact ⟨0, _, Nat.zero_le _, rfl, rfl, Nat.zero_le _, Lib.hid rfl⟩
      case round =>
        obtain ⟨k, t, hk, rfl, rfl, hts, HJ⟩ := hrel
        by_cases hlt2 : k < m
        · have e1 : (k : Int) < (m : Int) := by omega
          have hk2 : k < (Lib.fields s.data.toList).length := by rw [HM.out]; exact hlt2
          have g1 := HC.out k (by rw [hmlen]; exact hlt2)
          rw [sel_map hk2] at g1
          have hps := HPS.out k hk2
          have HJ2 := Lib.hid (piece_step hk2 HJ.out)
          generalize mkB (Lib.fields s.data.toList)[k] = x at *
          have HSZ : Hid ((t ++ x ++ ⟨#[32]⟩).size = t.size + x.size + 1) := Lib.hid (by rw [ByteArray.size_append, ByteArray.size_append]; rfl)
          have hadd : (t ++ x).size = t.size + x.size := ByteArray.size_append
          have hb1 : (t ++ x).size ≤ 100000 := by omega
          go_wp2
          go_round
          case rel => exact ⟨k + 1, _, by omega, by go_num, rfl, by rw [HSZ.out]; omega, HJ2⟩
          case measure => simp [intOf]; omega
        · obtain rfl : k = m := by omega
          have hag := HAG.out t (HFIN.out _ HJ.out)
          have HAG2 := Lib.hid hag; clear hag
          go_wp2_with fail
          refine (implSplit_any t (by omega) _ (HS.out.below HB3.out)).mono ?_
          rintro e w5 ⟨⟨v5, rfl, o5⟩, b5⟩
          have HB5 := Lib.hid (HB3.out.trans (b5.mono HB3.out.size))
          have r9 : RdS w5 (some ⟨b, o, none⟩) ((Lib.fields s.data.toList).map mkB) := RdS.below (.inr ⟨b, o, rfl, by rw [hmlen]; exact hp, hlt, HC.out⟩) b5
          clear b5
          by_cases h6 : 600 < t.size
          · have e6 : (600 : Int) < (t.size : Int) := by omega
            clear r9 o5
            generalize okF t = b9
            go_wp2
            go_ret
            exact ⟨rfl, HB5.out⟩
          · have e6 : decide ((600 : Int) < (t.size : Int)) = false := decide_eq_false (by omega)
            obtain ⟨ho2, hv2⟩ := HAG2.out (by omega)
            rw [ho2]
            rw [hv2, HV.out] at o5
            obtain ⟨a5, c5, rfl, r5⟩ := OwnS.read o5
            rw [hmlen]
            have HSAME := Lib.hid (sameTexts_same (some ⟨b, o, none⟩) a5 c1 c5 _ w5 r9 r5 (by rw [hmlen]; unfold maxLen; omega))
            rw [hmlen] at HSAME
            clear o5 hv2 ho2 h6 r9 r5
            go_wp2_with fail
            refine HSAME.out.mono ?_
            rintro e w6 ⟨rfl, n6, rfl⟩
            go_wp2
            go_ret
            exact ⟨rfl, dr_belS HB5.out ⟨_, rfl⟩⟩

theorem lifted (os : Os) (started : os.Started) (H : Type) (enc : TypeId × Value → H) :
    ReturnsInHanded {} Tryd.checked os 6 .any (fun w args => (Rows.fnFieldsAgainSpec.pre enc Tryd.prog Tryd.f6 [] false w args ∧ laidMetH Tryd.prog LD w) ∧ sizedMet enc Tryd.prog Tryd.f6 (OpenSpec.ofChange Rows.fnFieldsAgainSpec) false w args)
      (Rows.fnFieldsAgainSpec.post enc Tryd.prog Tryd.f6 false true false false) := by
  refine returnsInHanded_of_change_and (C := Tryd.checked) (X := fun w _ => laidMetH Tryd.prog LD w) (fun _ _ _ hh h => h.of_heap hh) own started (by kernel_rfl) Tryd.func6
    (ChangeSpec.witness_shaped (enc := enc) (C := Tryd.checked) (os := os) (X := fun w _ => laidMetH Tryd.prog LD w) false (World.doorLaid Tryd.prog 86 os) #[.slice none 0 0] 8 rfl (World.shaped_of_RefB (by kernel_rfl) (by kernel_rfl)) (by kernel_rfl) (by kernel_rfl) (by kernel_rfl) (door_met os _)) ?_
  intro W base args ds gs before hval0 hW _ _ hL0 _
  have hL : laidMet Tryd.prog LD W := by rw [MakeChecks.laidMetH_plain _ _ _ (by kernel_rfl)] at hL0; exact hL0
  clear hL0
  have hval : ∀ (j : Nat) t v, Tryd.f6.params[j]? = some t → args[j]? = some v → Value.okWide Tryd.prog W .any base t v := hval0
  have hW' := hW
  obtain ⟨p, q, hA0, hV, rfl, hfz, hnd⟩ := hW
  have hA : DataW.TrodAll enc Tryd.prog W 0 (fun _ => true) true Tryd.f6.params.toList args.toList ds p := hA0
  rw [Tryd.params6] at hA hval
  obtain ⟨v0, vs0, d0, ds0, p0, q0, hargs, rfl, rfl, h0, r0⟩ := trodAll_cons hA
  obtain ⟨rfl, rfl, rfl⟩ := trodAll_nil r0
  obtain rfl : args = #[v0] := by cases args; simp_all
  obtain ⟨rfl, rfl⟩ := trodVars_none hV
  have k0 := h0
  have lt0 : ∀ x ∈ p0, x.block < W.heap.size := by obtain ⟨m, hm⟩ := k0; exact DataW.trod_lt m _ _ _ hm
  obtain ⟨ba0, bn0, bc0, rfl, bm0, br0⟩ := codeIn (hval 0 30 v0 rfl rfl) h0
  clear hA0 hval0
  refine (walk ba0 bn0 bc0 W bm0 br0 hL).mono fun e W' ⟨he, bel⟩ => ?_
  subst he
  exact ⟨_, rfl, _, _, _, [], _, [], hW', trodAll_mk1 (shut_bool Tryd.underlying4 _), (trodAll_cons_mk (Below.trod laidOut (by kernel_rfl) (of_decide_eq_true (by kernel_rfl)) k0 bel lt0) trodAll_mk0), rfl, bel.frame _, fun h => by cases h⟩
theorem holds : Rows.FnFieldsAgainSaid :=
  OpenClaim.holds_of_wide 6 Tryd.f6 rfl rfl rfl rfl rfl rfl rfl ⟨rfl, rfl, rfl, rfl, rfl⟩ rfl rfl rfl rfl rfl (by kernel_rfl) Tryd.func6 (by kernel_rfl)
    (of_decide_eq_true (by kernel_rfl)) (by unfold Func.isWrapper; first | (rw [if_pos (by decide +kernel)]; kernel_rfl) | (rw [if_neg (by decide +kernel)]; exact ⟨rfl, rfl⟩))
    (fun os started H enc _ => lifted os started H enc)
/-- The tied card. -/
theorem proved : Rows.FnFieldsAgainCardSaid :=
  Claim7.holds_tied_plain_at .later [] [.data, .data, .data, .listed, .data] true (true, "335b0b081b570d33a9855c9ffc02c62baa5d50e98957b8b888ffd635bffd9fec") true
    holds (fun _ h => by cases h) (by kernel_rfl) (fun _ h => by cases h) fnFieldsAgain_row_tie rfl ⟨rfl, rfl⟩ (by kernel_rfl) rfl
    (fun f fn hf hfn => by
      obtain rfl : f = 6 := Option.some.inj ((show Tryd.prog.funcNamed "loop.example/g03305/laws.FnFieldsAgain" = some 6 by kernel_rfl).symm.trans hf) |>.symm
      obtain rfl : fn = Tryd.f6 := (Option.some.inj (Tryd.func6.symm.trans hfn)).symm
      exact ⟨by kernel_rfl, fun j t ht => by
        rw [Tryd.params6] at ht
        have hm : t ∈ [30] := by simpa using Array.mem_of_getElem? ht
        have hall : ([30].all fun u => !Tryd.prog.wantsStandIn u) = true := by kernel_rfl
        exact (show Tryd.prog.wantsStandIn t = false by simpa using List.all_eq_true.1 hall t hm)⟩)
    (by kernel_rfl)
#print axioms proved
end Go.Proofs.YtmfboleiakbpnaaDoor.fnFieldsAgain
