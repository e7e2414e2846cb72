/- The items of WalkHalves: plain lists. -/
import Derived.Test.YthknenhcnpgkcaaMt
import Derived.Laws.BytesArg
namespace Go.Proofs.Ythknenhcnpgkcaa
open Go.RowKit
set_option linter.unusedVariables false
set_option linter.unusedSimpArgs false
def hk (i : Nat) : It := (strOfNums [(i : Int) + 1], ⟨#[]⟩)
def hList (n : Nat) : List It := (List.range n).map hk
theorem hList_succ (n : Nat) : hList (n + 1) = hList n ++ [hk n] := by unfold hList; rw [List.range_succ, List.map_append]; rfl
theorem hList_len (n : Nat) : (hList n).length = n := by simp [hList]
theorem hList_at {n i : Nat} (h : i < n) : (hList n)[i]? = some (hk i) := by simp [hList, h]
theorem hk_data (i : Nat) : (hk i).1.data.toList = [UInt8.ofNat (i + 1)] := by
  unfold hk
  rw [strOfNums_data]
  simp
theorem hk_lt {i j : Nat} (h : i < j) (hj : j < 200) : lt (hk i).1 (hk j).1 = true := by
  unfold lt
  rw [hk_data, hk_data, less_cons]
  have e1 : (UInt8.ofNat (i + 1)).toNat = i + 1 := by simp; omega
  have e2 : (UInt8.ofNat (j + 1)).toNat = j + 1 := by simp; omega
  rw [e1, e2]
  simp; omega
theorem hk_adr {i : Nat} (h : i < 200) : adr (hk i) = ((i : Int) + 1) * 72057594037927936 := by
  have e1 : (UInt8.ofNat (i + 1)).toNat = i + 1 := by simp; omega
  unfold adr addrN
  rw [hk_data]
  simp only [addrUp, byteAt, List.getD_cons_zero, List.getD_cons_succ, List.getD_nil]
  rw [e1]
  simp
  omega
theorem hList_rises : ∀ n, n ≤ 200 → Rises (hList n)
  | 0, _ => List.Pairwise.nil
  | n + 1, h => by
    rw [hList_succ]
    refine Rises.append.2 ⟨hList_rises n (by omega), List.pairwise_singleton _ _, fun a ha b hb => ?_⟩
    obtain rfl := List.mem_singleton.1 hb
    obtain ⟨i, hi, rfl⟩ := List.mem_map.1 ha
    exact hk_lt (List.mem_range.1 hi) (by omega)
theorem hList_fill : ∀ n, n ≤ 190 → fillL (hList n) = hList n
  | 0, _ => rfl
  | n + 1, h => by
    have hn : ∀ x ∈ hList n, lt x.1 (hk n).1 = true := fun x hx => by
      obtain ⟨i, hi, rfl⟩ := List.mem_map.1 hx
      exact hk_lt (List.mem_range.1 hi) (by omega)
    rw [hList_succ, fillL_snoc, hList_fill n (by omega)]
    unfold putL
    rw [if_neg (show ¬ ((hk n).1.size < 1 ∨ 16 < (hk n).1.size) by rw [show (hk n).1.size = 1 from rfl]; omega), if_neg (show ¬ 16 < (hk n).2.size by rw [show (hk n).2.size = 0 from rfl]; omega),
      show valueOf (hk n).1 (hList n) = none from valueOf_none fun x hx => lt_ne (hn x hx), if_neg (by simp), if_neg (by rw [hList_len]; omega)]
    have := insL_split (it := ((hk n).1, (hk n).2)) (A := hList n) (B := []) hn (by simp)
    rw [List.append_nil] at this
    exact this
theorem arcL_whole (xs : List It) : arcL 0 0 xs = xs := by
  unfold arcL piecesA
  rw [if_pos rfl, List.flatMap_cons, List.flatMap_nil, List.append_nil, List.filter_eq_self]
  intro x _
  have := adr_ge x
  rw [inP_iff]
  exact ⟨this, .inl rfl⟩
theorem range_few (h : Nat) : ∀ n, (List.range n).countP (fun i => decide (i < h)) = min n h
  | 0 => by simp
  | n + 1 => by
    rw [List.range_succ, List.countP_append, range_few h n, List.countP_singleton]
    by_cases c : n < h
    · rw [if_pos (by simpa using c)]; omega
    · rw [if_neg (by simpa using c)]; omega
theorem half_none {n : Nat} (h : n < 2) : midL ((arcL 0 0 (hList n)).map adr) = none := by
  rw [arcL_whole]
  refine SameTo.none fun j x h1 h2 hx => ?_
  exact SameTo.start _ j x h1 (by rw [hList_len] at *; omega) hx
theorem half_mid {n i : Nat} (hi : (n + 1) / 2 = i + 1) (h : 2 ≤ n) (hn : n ≤ 60) : midL ((arcL 0 0 (hList n)).map adr) = some (adr (hk (i + 1))) := by
  rw [arcL_whole]
  have hs := SameTo.start (hList n)
  rw [hList_len, hi] at hs
  refine SameTo.some hs (by rw [hList_len]; omega) (hList_at (by omega)) (hList_at (i := i) (by omega)) ?_
  rw [hk_adr (by omega), hk_adr (by omega)]
  omega
theorem half_low {n i : Nat} {m : Int} (hi : (n + 1) / 2 = i + 1) (h : 2 ≤ n) (hn : n ≤ 60) (hm : m = ((i : Int) + 2) * 72057594037927936) : (arcL 0 m (hList n)).length = i + 1 := by
  rw [arcL_len (Int.le_refl _) (by decide) (by omega) (by omega)]
  unfold hList
  rw [List.countP_map]
  have e := range_few (i + 1) n
  rw [show min n (i + 1) = i + 1 by omega] at e
  conv => rhs; rw [← e]
  refine List.countP_congr fun j hj => ?_
  have hj := List.mem_range.1 hj
  have hjn : j < 200 := by omega
  have ha := hk_adr hjn
  simp only [Function.comp, inArc_iff, decide_eq_true_eq]
  rw [ha]
  omega
theorem half_some {n i : Nat} {m : Int} (hi : (n + 1) / 2 = i + 1) (h : 2 ≤ n) (hn : n ≤ 60) (hm : m = ((i : Int) + 2) * 72057594037927936) : midL ((arcL 0 0 (hList n)).map adr) = some m ∧ (arcL 0 m (hList n)).length = i + 1 ∧ (arcL m 0 (hList n)).length = n / 2 := by
  have h1 := half_mid hi h hn
  have h2 := half_low hi h hn hm
  have ha := hk_adr (i := i + 1) (by omega)
  have e : adr (hk (i + 1)) = m := by rw [ha, hm]; omega
  rw [e] at h1
  clear ha e
  obtain ⟨_, _, _, _, _, _, k7⟩ := middle_law (Int.le_refl _) (by decide) (Int.le_refl _) (by decide) (hList_rises n (by omega)) h1
  rw [arcL_whole, hList_len, h2] at k7
  exact ⟨h1, h2, by omega⟩
end Go.Proofs.Ythknenhcnpgkcaa
