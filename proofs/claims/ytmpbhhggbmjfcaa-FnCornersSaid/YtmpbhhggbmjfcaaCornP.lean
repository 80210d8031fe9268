/- Folds and runs of a strip: the plain law that folds alternate and that the runs tell the strip. No program stands in it. -/
import Derived.Test.YtmpbhhggbmjfcaaRuns
import Derived.Test.YtmpbhhggbmjfcaaFromRuns
namespace Go.Proofs.Ytmpbhhggbmjfcaa
open Go.RowKit
set_option linter.unusedVariables false
set_option linter.unusedSimpArgs false

theorem el_app {a b : List Int} {j : Nat} (h : j < a.length) : el (a ++ b) j = el a j := by
  unfold el; rw [List.getD_eq_getElem?_getD, List.getD_eq_getElem?_getD, List.getElem?_append_left h]
theorem el_last (a : List Int) (x : Int) : el (a ++ [x]) a.length = x := by
  unfold el; rw [List.getD_eq_getElem?_getD, List.getElem?_append_right (Nat.le_refl _)]; simp
theorem corn_pre (s : ByteArray) (n : Nat) : ∀ d, ∃ r, crnI s (n + d) = crnI s n ++ r
  | 0 => ⟨[], by simp⟩
  | d + 1 => by
    obtain ⟨r, hr⟩ := corn_pre s n d
    cases h : crn s (n + d) with
    | true => exact ⟨r ++ [((n + d : Nat) : Int)], by rw [← Nat.add_assoc, crnI_hit h, hr, List.append_assoc]⟩
    | false => exact ⟨r, by rw [← Nat.add_assoc, crnI_miss h, hr]⟩
theorem el_pre {s : ByteArray} {n N j : Nat} (hn : n ≤ N) (hj : j < (crnI s n).length) : el (crnI s N) j = el (crnI s n) j := by
  obtain ⟨r, hr⟩ := corn_pre s n (N - n)
  rw [show n + (N - n) = N from by omega] at hr
  rw [hr, el_app hj]
theorem len_pre {s : ByteArray} {n N : Nat} (hn : n ≤ N) : (crnI s n).length ≤ (crnI s N).length := by
  obtain ⟨r, hr⟩ := corn_pre s n (N - n)
  rw [show n + (N - n) = N from by omega] at hr
  rw [hr, List.length_append]; omega
/-- Ahead of the k-th fold there are k folds. -/
theorem corn_at (s : ByteArray) : ∀ n k, k < (crnI s n).length → ∃ x : Nat, el (crnI s n) k = (x : Int) ∧ x < n ∧ crn s x = true ∧ (crnI s x).length = k
  | 0, k, hk => by simp [crnI, crns] at hk
  | n + 1, k, hk => by
    cases h : crn s n with
    | true =>
      rw [crnI_hit h] at hk ⊢
      rw [List.length_append] at hk
      rcases Nat.lt_or_ge k (crnI s n).length with h1 | h1
      · obtain ⟨x, e, hx, hc, hl⟩ := corn_at s n k h1
        exact ⟨x, by rw [el_app h1, e], by omega, hc, hl⟩
      · obtain rfl : k = (crnI s n).length := by simp at hk; omega
        exact ⟨n, el_last _ _, by omega, h, rfl⟩
    | false =>
      rw [crnI_miss h] at hk ⊢
      obtain ⟨x, e, hx, hc, hl⟩ := corn_at s n k hk
      exact ⟨x, e, by omega, hc, hl⟩
theorem byt_df {s : ByteArray} (hs : strip s.data.toList = true) {k : Nat} (hk : k < s.size) : byt s k = 100 ∨ byt s k = 102 := by
  rw [byt_get s k hk]
  rcases strip_letter hs k hk with h | h
  · exact .inl (UInt8.toNat_inj.1 h)
  · exact .inr (UInt8.toNat_inj.1 h)
theorem take_const {s : ByteArray} {x : UInt8} {a : Nat} : ∀ d, a + d ≤ s.size → (∀ j, a ≤ j → j < a + d → byt s j = x) → s.data.toList.take (a + d) = s.data.toList.take a ++ List.replicate d x
  | 0, _, _ => by simp
  | d + 1, hd, h => by
    rw [← Nat.add_assoc, take_snoc s (a + d) (by omega), take_const d (by omega) (fun j h1 h2 => h j h1 (by omega)), ← byt_get s (a + d) (by omega), h (a + d) (by omega) (by omega), List.append_assoc, List.replicate_succ']
theorem cD_rep (n : Nat) : cD (List.replicate n 100) = n := by simp [cD]
theorem cF_rep (n : Nat) : cF (List.replicate n 102) = n := by simp [cF]
/-- The sum of the first k. -/
def sI (l : List Int) : Nat → Int
  | 0 => 0
  | k + 1 => sI l k + el l k
def pk (b : UInt8) : Nat → Nat
  | 0 => 0
  | k + 1 => pk b k + (if lett b k = 102 then 1 else 0)
theorem run_len {s : ByteArray} (hs : strip s.data.toList = true) : (runV s).length = (cornV s).length + 1 := by rw [runV_yes hs, List.length_append, runsP_length]; rfl
theorem runsP_el {s : ByteArray} (hs : strip s.data.toList = true) (c : List Int) : ∀ m k, k < m → el (runsP c m) k = el c k - frR c k
  | 0, k, h => by omega
  | m + 1, k, h => by
    show el (runsP c m ++ [el c m - frR c m]) k = _
    rcases Nat.lt_or_ge k m with h1 | h1
    · rw [el_app (by rw [runsP_length]; exact h1)]; exact runsP_el hs c m k h1
    · obtain rfl : k = m := by omega
      have := el_last (runsP c k) (el c k - frR c k)
      rwa [runsP_length] at this
theorem run_el {s : ByteArray} (hs : strip s.data.toList = true) {k : Nat} (h : k < (cornV s).length) : el (runV s) k = el (cornV s) k - frR (cornV s) k := by
  rw [runV_yes hs, el_app (by rw [runsP_length]; exact h), runsP_el hs _ _ _ h]
theorem run_last {s : ByteArray} (hs : strip s.data.toList = true) : el (runV s) (cornV s).length = (s.size : Int) - frR (cornV s) (cornV s).length := by
  rw [runV_yes hs]
  have := el_last (runsP (cornV s) (cornV s).length) ((s.size : Int) - frR (cornV s) (cornV s).length)
  rwa [runsP_length] at this
theorem sum_runs {s : ByteArray} (hs : strip s.data.toList = true) : ∀ k, k ≤ (cornV s).length → sI (runV s) k = frR (cornV s) k
  | 0, _ => rfl
  | k + 1, h => by
    show sI (runV s) k + el (runV s) k = _
    rw [sum_runs hs k (by omega), run_el hs (by omega), frR_succ]; omega
theorem sum_all {s : ByteArray} (hs : strip s.data.toList = true) : sI (runV s) ((cornV s).length + 1) = s.size := by
  show sI (runV s) (cornV s).length + el (runV s) (cornV s).length = _
  rw [sum_runs hs _ (Nat.le_refl _), run_last hs]; omega
/-- Up to the n-th step: where the run that goes on began, its letter, and what the runs ahead of it tell. -/
theorem runs_upto {s : ByteArray} (hs : strip s.data.toList = true) : ∀ n, 1 ≤ n → n ≤ s.size → ∃ a : Nat, frR (cornV s) (crnI s n).length = (a : Int) ∧ a < n ∧ (∀ j, a ≤ j → j < n → byt s j = lett (byt s 0) (crnI s n).length) ∧ (bld (byt s 0) (runV s) (crnI s n).length).data.toList = s.data.toList.take a ∧ okR (runV s) (crnI s n).length
  | 0, h, _ => by omega
  | 1, _, hn => by
    rw [crnI_one]
    refine ⟨0, rfl, by omega, fun j _ hj => ?_, rfl, fun j hj => by simp at hj⟩
    obtain rfl : j = 0 := by omega
    rfl
  | n + 2, _, hn => by
    obtain ⟨a, ha, han, hl, hb, ho⟩ := runs_upto hs (n + 1) (by omega) (by omega)
    have hprev := hl n (by omega) (by omega)
    cases hc : crn s (n + 1) with
    | false =>
      have he : byt s (n + 1) = byt s n := by
        unfold crn at hc
        rw [decide_eq_true (show 1 ≤ n + 1 ∧ n + 1 < s.size by omega), Bool.true_and] at hc
        have : byt s (n + 1 - 1) = byt s (n + 1) := by simpa using hc
        rw [Nat.add_sub_cancel] at this
        exact this.symm
      rw [crnI_miss hc]
      refine ⟨a, ha, by omega, fun j h1 h2 => ?_, hb, ho⟩
      rcases Nat.lt_or_ge j (n + 1) with h3 | h3
      · exact hl j h1 h3
      · obtain rfl : j = n + 1 := by omega
        rw [he, hprev]
    | true =>
      have hlen : (crnI s (n + 2)).length = (crnI s (n + 1)).length + 1 := by rw [crnI_hit hc, List.length_append]; rfl
      have hkm : (crnI s (n + 1)).length < (cornV s).length := by
        rw [cornV_yes hs]; have := len_pre (s := s) (n := n + 2) (N := s.size) hn; omega
      have hel : el (cornV s) (crnI s (n + 1)).length = ((n + 1 : Nat) : Int) := by
        rw [cornV_yes hs, el_pre (n := n + 2) hn (by omega), crnI_hit hc, el_last]
      have hrun : (runV s).getD (crnI s (n + 1)).length 0 = ((n + 1 - a : Nat) : Int) := by
        show el (runV s) _ = _
        rw [run_el hs hkm, hel, ha]; omega
      have htake : s.data.toList.take (n + 1) = s.data.toList.take a ++ List.replicate (n + 1 - a) (lett (byt s 0) (crnI s (n + 1)).length) := by
        have := take_const (s := s) (a := a) (n + 1 - a) (by omega) (fun j h1 h2 => hl j h1 (by omega))
        rwa [show a + (n + 1 - a) = n + 1 from by omega] at this
      have hok : 1 ≤ ((n + 1 - a : Nat) : Int) ∧ ((n + 1 - a : Nat) : Int) ≤ 8 := by
        obtain ⟨_, _, _, _, h8d, _, h8f⟩ := strip_size hs
        have c1 := cD_take_le s.data.toList (n + 1)
        have c2 := cF_take_le s.data.toList (n + 1)
        have h0 := byt_df hs (k := 0) (by omega)
        rw [htake] at c1 c2
        rcases lett_df (byt s 0) h0 (crnI s (n + 1)).length with h | h
        · rw [h, cD_append, cD_rep] at c1; omega
        · rw [h, cF_append, cF_rep] at c2; omega
      have hne : byt s n ≠ byt s (n + 1) := by
        unfold crn at hc
        simp only [Bool.and_eq_true, Bool.not_eq_true', decide_eq_false_iff_not, Nat.add_sub_cancel] at hc
        exact hc.2
      have h0 := byt_df hs (k := 0) (by omega)
      have h1 := byt_df hs (k := n + 1) (by omega)
      have hnew : byt s (n + 1) = lett (byt s 0) ((crnI s (n + 1)).length + 1) := by
        rw [← lett_oth _ h0, ← hprev]
        have h2 := byt_df hs (k := n) (by omega)
        rcases h1 with e1 | e1 <;> rcases h2 with e2 | e2 <;> rw [e1, e2] at hne ⊢
        · exact absurd rfl hne
        · rfl
        · rfl
        · exact absurd rfl hne
      rw [hlen]
      refine ⟨n + 1, by rw [frR_succ, hel], by omega, fun j h1 h2 => ?_, ?_, okR_succ ho (by rw [hrun]; exact hok)⟩
      · obtain rfl : j = n + 1 := by omega
        exact hnew
      · rw [bld_succ, hrun, htake]
        show (bld (byt s 0) (runV s) _ ++ repS _ _).data.toList = _
        rw [ByteArray.data_append, Array.toList_append, hb, repS_data, Int.toNat_natCast]
theorem runs_end {s : ByteArray} (hs : strip s.data.toList = true) : ∃ a : Nat, frR (cornV s) (cornV s).length = (a : Int) ∧ a < s.size ∧ (∀ j, a ≤ j → j < s.size → byt s j = lett (byt s 0) (cornV s).length) ∧ (bld (byt s 0) (runV s) (cornV s).length).data.toList = s.data.toList.take a ∧ okR (runV s) (cornV s).length := by
  have h2 := (strip_size hs).1
  have := runs_upto hs s.size (by omega) (Nat.le_refl _)
  rwa [← cornV_yes hs] at this
theorem runs_tell {s : ByteArray} (hs : strip s.data.toList = true) : frV (byt s 0) (runV s) = s := by
  obtain ⟨a, ha, han, hl, hb, ho⟩ := runs_end hs
  obtain ⟨h2, _, _, _, h8d, _, h8f⟩ := strip_size hs
  have hrun : (runV s).getD (cornV s).length 0 = ((s.size - a : Nat) : Int) := by
    show el (runV s) _ = _
    rw [run_last hs, ha]; omega
  have htake : s.data.toList = s.data.toList.take a ++ List.replicate (s.size - a) (lett (byt s 0) (cornV s).length) := by
    have := take_const (s := s) (a := a) (s.size - a) (by omega) (fun j h1 h2 => hl j h1 (by omega))
    rw [show a + (s.size - a) = s.size from by omega, take_all] at this
    exact this
  have h0 := byt_df hs (k := 0) (by omega)
  have hok : 1 ≤ ((s.size - a : Nat) : Int) ∧ ((s.size - a : Nat) : Int) ≤ 8 := by
    rcases lett_df (byt s 0) h0 (cornV s).length with h | h
    · rw [h] at htake; rw [htake, cD_append, cD_rep] at h8d; omega
    · rw [h] at htake; rw [htake, cF_append, cF_rep] at h8f; omega
  have hbl : bld (byt s 0) (runV s) ((cornV s).length + 1) = s := by
    apply ByteArray.ext
    apply Array.ext'
    rw [bld_succ, hrun, ByteArray.data_append, Array.toList_append, hb, repS_data, Int.toNat_natCast]
    exact htake.symm
  have ho2 : okR (runV s) ((cornV s).length + 1) := okR_succ ho (by rw [hrun]; exact hok)
  have hlen := run_len hs
  rw [frV_yes (by rw [hlen]; exact ho2) (by rw [hlen, hbl]; exact hs), hlen, hbl]
/-- The letter ahead of the k-th fold. -/
theorem fold_letter {s : ByteArray} (hs : strip s.data.toList = true) {k : Nat} (hk : k < (cornV s).length) : ∃ x : Nat, el (cornV s) k = (x : Int) ∧ 1 ≤ x ∧ x < s.size ∧ crn s x = true ∧ byt s (x - 1) = lett (byt s 0) k := by
  rw [cornV_yes hs] at hk ⊢
  obtain ⟨x, e, hx, hc, hl⟩ := corn_at s s.size k hk
  have h1 : 1 ≤ x := by
    rcases Nat.eq_zero_or_pos x with h | h
    · subst h; rw [crn_out (.inl (by omega))] at hc; cases hc
    · exact h
  obtain ⟨a, _, han, hlet, _⟩ := runs_upto hs x h1 (by omega)
  exact ⟨x, e, h1, hx, hc, by rw [hlet (x - 1) (by omega) (by omega), hl]⟩
theorem peaks_count {s : ByteArray} (hs : strip s.data.toList = true) : ∀ n, n ≤ s.size → crlN s 102 n = pk (byt s 0) (crnI s n).length
  | 0, _ => rfl
  | n + 1, hn => by
    have ih := peaks_count hs n (by omega)
    cases hc : crn s n with
    | false =>
      show crlN s 102 n + (if crl s 102 n then 1 else 0) = _
      rw [crl_out hc, crnI_miss hc, ih]; rfl
    | true =>
      have h1 : 1 ≤ n := by
        rcases Nat.eq_zero_or_pos n with h | h
        · subst h; rw [crn_out (.inl (by omega))] at hc; cases hc
        · exact h
      obtain ⟨a, _, han, hlet, _⟩ := runs_upto hs n h1 (by omega)
      have hb := hlet (n - 1) (by omega) (by omega)
      show crlN s 102 n + (if crl s 102 n then 1 else 0) = _
      rw [crnI_hit hc, List.length_append, ih]
      show _ = pk (byt s 0) (crnI s n).length + (if lett (byt s 0) (crnI s n).length = 102 then 1 else 0)
      unfold crl
      rw [hc, hb, Bool.true_and]
      by_cases e : lett (byt s 0) (crnI s n).length = 102
      · rw [if_pos e, if_pos (decide_eq_true e)]
      · rw [if_neg e, decide_eq_false e]; rfl
theorem lett_even {s : ByteArray} (hs : strip s.data.toList = true) (k : Nat) : lett (byt s 0) k = byt s 0 ↔ k % 2 = 0 := by
  have h0 := byt_df hs (k := 0) (by have := (strip_size hs).1; omega)
  unfold lett
  by_cases h : k % 2 = 0
  · rw [if_pos h]; exact ⟨fun _ => h, fun _ => rfl⟩
  · rw [if_neg h]
    refine ⟨fun e => ?_, fun e => absurd e h⟩
    rcases h0 with e0 | e0 <;> rw [e0] at e <;> exact absurd e (by decide)
theorem folds_odd {s : ByteArray} (hs : strip s.data.toList = true) : foldsV s % 2 = 1 := by
  obtain ⟨a, _, han, hl, _⟩ := runs_end hs
  have h2 := (strip_size hs).1
  have hlast := hl (s.size - 1) (by omega) (by omega)
  have h0 := byt_df hs (k := 0) (by omega)
  have h9 := byt_df hs (k := s.size - 1) (by omega)
  have he := lett_even hs (cornV s).length
  rw [← hlast] at he
  rw [foldsV_yes hs]
  rcases h0 with e0 | e0 <;> rcases h9 with e9 | e9 <;> rw [e0, e9] at he ⊢
  · have := he.1 rfl
    rw [if_neg (by decide), if_pos (by decide)]; omega
  · have : ¬ (cornV s).length % 2 = 0 := fun h => absurd (he.2 h) (by decide)
    rw [if_neg (by decide), if_neg (by decide)]; omega
  · have : ¬ (cornV s).length % 2 = 0 := fun h => absurd (he.2 h) (by decide)
    rw [if_pos (by decide), if_pos (by decide)]; omega
  · have := he.1 rfl
    rw [if_pos (by decide), if_neg (by decide)]; omega
end Go.Proofs.Ytmpbhhggbmjfcaa
