/- ShelfCopies: what the two lists are. Plain lists. -/
import Derived.Test.YthknenhcnpgkcaaShF1
namespace Go.Proofs.Ythknenhcnpgkcaa
set_option linter.unusedVariables false
open Go.RowKit
theorem has_value {n : Nat} {xs : List It} (h : Has 1 0 n xs) (hn : n ≤ 150) {j : Nat} (hj : j ≤ 996) : valueOf (keyOf j) xs = if j < n then some ⟨#[118]⟩ else none := by
  by_cases hlt : j < n
  · rw [if_pos hlt]
    refine valueOf_mem h.rises ((h.mem _).2 ⟨j, Nat.zero_le _, hlt, ?_⟩)
    rw [it_one (by omega)]
  · rw [if_neg hlt]
    refine valueOf_none fun x hx e => ?_
    obtain ⟨i, _, hi, rfl⟩ := (h.mem x).1 hx
    rw [it_one (by omega)] at e
    have := keyOf_inj (by omega) (by omega) e
    omega
/-- The shelf behind i rounds. -/
structure SLst (n i : Nat) (xs : List It) : Prop where
  rises : Rises xs
  len : xs.length = i + max n i
  val : ∀ j, j ≤ 996 → valueOf (keyOf j) xs = if j < i then some ⟨#[120]⟩ else if j < n then some ⟨#[118]⟩ else if 500 ≤ j ∧ j < 500 + i then some ⟨#[119]⟩ else none
/-- The copy behind i rounds. -/
structure CLst (n i : Nat) (xs : List It) : Prop where
  rises : Rises xs
  len : xs.length ≤ n
  val : ∀ j, j ≤ 996 → valueOf (keyOf j) xs = if j < n ∧ ¬ (j % 2 = 0 ∧ j / 2 < i) then some ⟨#[118]⟩ else none
theorem SLst.start {n : Nat} {xs : List It} (h : Has 1 0 n xs) (hn : n ≤ 150) : SLst n 0 xs :=
  ⟨h.rises, by have := h.len; omega, fun j hj => by
    rw [has_value h hn hj, if_neg (Nat.not_lt_zero j)]
    by_cases c : j < n
    · rw [if_pos c, if_pos c]
    · rw [if_neg c, if_neg c, if_neg (by omega)]⟩
theorem CLst.start {n : Nat} {xs : List It} (h : Has 1 0 n xs) (hn : n ≤ 150) : CLst n 0 xs :=
  ⟨h.rises, by have := h.len; omega, fun j hj => by
    rw [has_value h hn hj]
    by_cases c : j < n
    · rw [if_pos c, if_pos ⟨c, by omega⟩]
    · rw [if_neg c, if_neg (by omega)]⟩
theorem CLst.next {n i : Nat} {xs : List It} (h : CLst n i xs) (hi : i ≤ 60) : CLst n (i + 1) (delL (keyOf (2 * i)) xs) := by
  refine ⟨delL_rises h.rises, Nat.le_trans (List.length_filter_le _ _) h.len, fun j hj => ?_⟩
  by_cases c : j = 2 * i
  · subst c
    rw [valueOf_delL_self, if_neg (by omega)]
  · rw [valueOf_delL_ne (fun e => c (keyOf_inj hj (by omega) e)), h.val j hj]
    by_cases c2 : j < n ∧ ¬ (j % 2 = 0 ∧ j / 2 < i)
    · rw [if_pos c2, if_pos (by omega)]
    · rw [if_neg c2, if_neg (by omega)]
theorem SLst.next {n i : Nat} {xs : List It} (h : SLst n i xs) (hn : n ≤ 60) (hi : i < 60) : ∃ ys zs, putL 200 (keyOf (500 + i)) ⟨#[119]⟩ xs = (0, ys) ∧ putL 200 (keyOf i) ⟨#[120]⟩ ys = (0, zs) ∧ SLst n (i + 1) zs ∧ ys.length ≤ 1000 := by
  have s1 : ∀ j, (keyOf j).size = 3 := fun j => rfl
  have hl := h.len
  have hv1 : valueOf (keyOf (500 + i)) xs = none := by rw [h.val _ (by omega), if_neg (by omega), if_neg (by omega), if_neg (by omega)]
  have hp1 : putL 200 (keyOf (500 + i)) ⟨#[119]⟩ xs = (0, insL (keyOf (500 + i), ⟨#[119]⟩) xs) := by
    rw [putL_ok (by rw [s1]; omega) (by rw [s1]; omega) (by decide), hv1, if_neg (by simp), if_neg (by omega)]
  have hr1 := putL_rises (most := 200) (k := keyOf (500 + i)) (v := ⟨#[119]⟩) h.rises
  rw [hp1] at hr1
  have hl1 : (insL (keyOf (500 + i), ⟨#[119]⟩) xs).length = xs.length + 1 := insL_length _ _
  have hv2 : ∀ j, j ≤ 996 → valueOf (keyOf j) (insL (keyOf (500 + i), ⟨#[119]⟩) xs) = if j = 500 + i then some ⟨#[119]⟩ else valueOf (keyOf j) xs := fun j hj => by
    by_cases c : j = 500 + i
    · rw [if_pos c, c, valueOf_insL_self hv1]
    · rw [if_neg c, valueOf_insL_ne (fun e => c (keyOf_inj hj (by omega) e))]
  generalize insL (keyOf (500 + i), ⟨#[119]⟩) xs = ys at hp1 hr1 hl1 hv2
  have hr2 := putL_rises (most := 200) (k := keyOf i) (v := ⟨#[120]⟩) hr1
  refine ⟨ys, (putL 200 (keyOf i) ⟨#[120]⟩ ys).2, hp1, ?_, ⟨hr2, ?_, fun j hj => ?_⟩, by omega⟩
  · rw [putL_ok (by rw [s1]; omega) (by rw [s1]; omega) (by decide)]
    split
    · rfl
    · rw [if_neg (by omega)]
  · have hv3 : valueOf (keyOf i) ys = if i < n then some ⟨#[118]⟩ else none := by
      rw [hv2 i (by omega), if_neg (by omega), h.val i (by omega), if_neg (by omega)]
      by_cases c : i < n
      · rw [if_pos c, if_pos c]
      · rw [if_neg c, if_neg c, if_neg (by omega)]
    rw [putL_ok (by rw [s1]; omega) (by rw [s1]; omega) (by decide), hv3]
    by_cases c : i < n
    · rw [if_pos c, if_pos (by simp)]
      show (repL _ _ _).length = _
      rw [repL_length]; omega
    · rw [if_neg c, if_neg (by simp), if_neg (by omega)]
      show (insL _ _).length = _
      rw [insL_length]; omega
  · have e : ∀ j, j ≤ 996 → valueOf (keyOf j) (putL 200 (keyOf i) ⟨#[120]⟩ ys).2 = if j = i then some ⟨#[120]⟩ else valueOf (keyOf j) ys := fun j hj => by
      rw [putL_ok (by rw [s1]; omega) (by rw [s1]; omega) (by decide)]
      cases hs : (valueOf (keyOf i) ys).isSome
      · rw [if_neg (by simp), if_neg (by omega)]
        have hn : valueOf (keyOf i) ys = none := by cases h' : valueOf (keyOf i) ys with
          | none => rfl
          | some v => rw [h'] at hs; cases hs
        by_cases c : j = i
        · rw [if_pos c, c]; exact valueOf_insL_self hn
        · rw [if_neg c]; exact valueOf_insL_ne (fun e => c (keyOf_inj hj (by omega) e))
      · rw [if_pos rfl]
        by_cases c : j = i
        · rw [if_pos c, c]; exact valueOf_repL_self (isSome_iff.1 hs)
        · rw [if_neg c]; exact valueOf_repL_ne (fun e => c (keyOf_inj hj (by omega) e))
    rw [e j hj, hv2 j hj, h.val j hj]
    by_cases c1 : j = i
    · rw [if_pos c1, if_pos (by omega)]
    · rw [if_neg c1]
      by_cases c2 : j < i
      · rw [if_neg (by omega), if_pos c2, if_pos (by omega)]
      · rw [if_neg c2, if_neg (show ¬ j < i + 1 by omega)]
        by_cases c3 : j < n
        · rw [if_neg (by omega), if_pos c3, if_pos c3]
        · rw [if_neg c3, if_neg c3]
          by_cases c4 : j = 500 + i
          · rw [if_pos c4, if_pos (by omega)]
          · rw [if_neg c4]
            by_cases c5 : 500 ≤ j ∧ j < 500 + i
            · rw [if_pos c5, if_pos (by omega)]
            · rw [if_neg c5, if_neg (by omega)]
theorem CLst.get {n i j : Nat} {xs : List It} (h : CLst n i xs) (hj : j < n) (hn : n ≤ 60) : (decide (j % 2 = 0) && decide (j / 2 < i)) = true ∧ valueOf (keyOf j) xs = none ∨ (decide (j % 2 = 0) && decide (j / 2 < i)) = false ∧ valueOf (keyOf j) xs = some ⟨#[118]⟩ := by
  rw [h.val j (by omega)]
  by_cases c : j % 2 = 0 ∧ j / 2 < i
  · exact .inl ⟨by simp [c], by rw [if_neg (by omega)]⟩
  · refine .inr ⟨?_, by rw [if_pos ⟨hj, c⟩]⟩
    rw [Bool.and_eq_false_iff]
    by_cases c1 : j % 2 = 0
    · right; simpa using fun h' => c ⟨c1, h'⟩
    · left; simpa using c1
end Go.Proofs.Ythknenhcnpgkcaa
