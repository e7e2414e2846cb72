/- ShelfFull: what the lists are. Plain lists. -/
import Derived.Test.YthknenhcnpgkcaaMf
namespace Go.Proofs.Ythknenhcnpgkcaa
set_option linter.unusedVariables false
open Go.RowKit
theorem Has.keys {n : Nat} {xs : List It} (h : Has 1 0 n xs) (hn : n ≤ 150) {j : Nat} (hj : j < n) : keyOf j ∈ keysOf xs := by
  refine List.mem_map.2 ⟨it 1 j, (h.mem _).2 ⟨j, Nat.zero_le _, hj, rfl⟩, ?_⟩
  unfold it
  rw [Nat.mul_one, Nat.mod_eq_of_lt (by omega)]
theorem it_one {j : Nat} (hj : j < 997) : it 1 j = (keyOf j, ⟨#[118]⟩) := by
  unfold it
  rw [Nat.mul_one, Nat.mod_eq_of_lt hj]
theorem Has.upm {most : Int} {q : Nat} {xs : List It} (h : Has 1 0 q xs) (hq : q < 150) (hm : (q : Int) < most) : ∃ xs', putL most (keyOf q) ⟨#[118]⟩ xs = (0, xs') ∧ Has 1 0 (q + 1) xs' := by
  obtain ⟨xs', hp, hh⟩ := h.up (by omega) (by omega) (Nat.zero_le _) hq
  refine ⟨xs', ?_, hh⟩
  have hn : ∀ x ∈ xs, x.1 ≠ keyOf q := fun x hx e => by
    obtain ⟨j, _, b, rfl⟩ := (h.mem x).1 hx
    rw [it_one (by omega)] at e
    have := keyOf_inj (by omega) (by omega) e
    omega
  have s1 : (keyOf q).size = 3 := rfl
  rw [it_one (by omega), putL_new (by omega) (by omega) (by decide) hn (by have := h.len; omega)] at hp
  rw [putL_new (by omega) (by omega) (by decide) hn (by have := h.len; omega)]
  exact hp
/-- All that ShelfFull meets. -/
structure Full (n : Nat) (k : ByteArray) (xs ys : List It) : Prop where
  rises : Rises ys
  len : ys.length = n
  keys : keysOf ys = keysOf xs
theorem full_first {n : Nat} {k : ByteArray} {xs : List It} (h : Has 1 0 n xs) (h1 : 1 ≤ k.size) (h2 : k.size ≤ 16) : ∃ ys, putL n k ⟨#[119]⟩ xs = (if (valueOf k xs).isSome then 0 else 5, ys) ∧ Full n k xs ys := by
  have hr := putL_rises (most := n) (k := k) (v := ⟨#[119]⟩) h.rises
  have hl := h.len
  rw [putL_ok h1 h2 (by decide)] at hr ⊢
  cases hv : (valueOf k xs).isSome
  · rw [if_neg (by simp), if_pos (by rw [hl]; omega)]
    exact ⟨xs, rfl, h.rises, by omega, rfl⟩
  · rw [hv, if_pos rfl] at hr
    rw [if_pos rfl]
    exact ⟨_, rfl, hr, by rw [repL_length]; omega, keys_repL _ _ _⟩
theorem full_second {n : Nat} {k : ByteArray} {xs ys : List It} (h : Has 1 0 n xs) (hn : 1 ≤ n) (hn2 : n ≤ 150) (hf : Full n k xs ys) : ∃ zs, putL n (keyOf 0) ⟨#[110, 101, 119]⟩ ys = (0, zs) ∧ Full n k xs zs ∧ valueOf (keyOf 0) zs = some ⟨#[110, 101, 119]⟩ := by
  have hk : keyOf 0 ∈ keysOf ys := by rw [hf.keys]; exact h.keys hn2 (by omega)
  have hr := putL_rises (most := n) (k := keyOf 0) (v := ⟨#[110, 101, 119]⟩) hf.rises
  have hp : putL n (keyOf 0) ⟨#[110, 101, 119]⟩ ys = (0, repL (keyOf 0) ⟨#[110, 101, 119]⟩ ys) := putL_old (by decide) (by decide) (by decide) hk
  rw [hp] at hr ⊢
  exact ⟨_, rfl, ⟨hr, by rw [repL_length]; exact hf.len, by rw [keys_repL]; exact hf.keys⟩, valueOf_repL_self hk⟩
theorem full_third {n : Nat} {k : ByteArray} {xs zs : List It} (h : Has 1 0 n xs) (hn : 1 ≤ n) (hn2 : n ≤ 150) (hf : Full n k xs zs) (h0 : valueOf (keyOf 0) zs = some ⟨#[110, 101, 119]⟩) (h1 : 1 ≤ k.size) (h2 : k.size ≤ 16) :
    (valueOf (keyOf (n - 1)) zs).isSome = true ∧ ((n = 1 ∧ (valueOf (keyOf 0) (delL (keyOf (n - 1)) zs)).getD ⟨#[]⟩ = ⟨#[]⟩) ∨ (n ≠ 1 ∧ (valueOf (keyOf 0) (delL (keyOf (n - 1)) zs)).getD ⟨#[]⟩ = ⟨#[110, 101, 119]⟩)) ∧ (delL (keyOf (n - 1)) zs).length ≤ n ∧
      ∃ vs, putL n k ⟨#[119]⟩ (delL (keyOf (n - 1)) zs) = (0, vs) ∧ (((valueOf k (delL (keyOf (n - 1)) zs)).isSome = true ∧ vs.length = n - 1) ∨ ((valueOf k (delL (keyOf (n - 1)) zs)).isSome = false ∧ vs.length = n)) := by
  have hk : keyOf (n - 1) ∈ keysOf zs := by rw [hf.keys]; exact h.keys hn2 (by omega)
  have hl := delL_length hf.rises hk
  rw [hf.len] at hl
  refine ⟨isSome_iff.2 hk, ?_, by omega, ?_⟩
  · by_cases e : n = 1
    · subst e
      exact .inl ⟨rfl, by rw [show 1 - 1 = 0 from rfl, valueOf_delL_self]; rfl⟩
    · refine .inr ⟨e, ?_⟩
      rw [valueOf_delL_ne (fun e' => by have := keyOf_inj (by omega) (by omega) e'; omega), h0]
      rfl
  · rw [putL_ok h1 h2 (by decide)]
    cases hv : (valueOf k (delL (keyOf (n - 1)) zs)).isSome
    · rw [if_neg (by simp), if_neg (by omega)]
      exact ⟨_, rfl, .inr ⟨rfl, by rw [insL_length]; omega⟩⟩
    · rw [if_pos rfl]
      exact ⟨_, rfl, .inl ⟨rfl, by rw [repL_length]; omega⟩⟩
end Go.Proofs.Ythknenhcnpgkcaa
