import Derived.Test.YthknenhcnpgkcaaShO2
import Derived.Test.YthknenhcnpgkcaaShP
/- The items of ShelfOrders: 150 keys at most, no two alike; put in whatever order, the same list. Plain lists. -/
namespace Go.Proofs.Ythknenhcnpgkcaa
open Go.RowKit
set_option linter.unusedVariables false
set_option linter.unusedSimpArgs false
set_option maxRecDepth 100000 in
theorem gcd997 : ∀ s, s < 997 → (0 < s → Nat.gcd 997 s = 1) := by decide +kernel
theorem step_le {step i j : Nat} (h1 : 1 ≤ step) (h2 : step ≤ 996) (hij : i ≤ j) (hj : j < 150) (e : i * step % 997 = j * step % 997) : i = j := by
  have hm : i * step ≤ j * step := Nat.mul_le_mul_right _ hij
  have hd : 997 ∣ (j - i) * step := by
    rw [Nat.sub_mul]
    exact Nat.dvd_of_mod_eq_zero (by omega)
  have hc : Nat.Coprime 997 step := gcd997 step (by omega) (by omega)
  have h3 := hc.dvd_of_dvd_mul_right hd
  have := Nat.eq_zero_of_dvd_of_lt h3 (by omega)
  omega
theorem step_inj {step i j : Nat} (h1 : 1 ≤ step) (h2 : step ≤ 996) (hi : i < 150) (hj : j < 150) (e : i * step % 997 = j * step % 997) : i = j := by
  rcases Nat.le_total i j with c | c
  · exact step_le h1 h2 c hj e
  · exact (step_le h1 h2 c hi e.symm).symm
theorem keyOf_inj {a b : Nat} (ha : a ≤ 996) (hb : b ≤ 996) (e : keyOf a = keyOf b) : a = b := by
  unfold keyOf strOfNums at e
  simp only [List.map_cons, List.map_nil, ByteArray.mk.injEq] at e
  have e := Array.toList_inj.2 e
  simp only [List.cons.injEq, and_true, true_and] at e
  obtain ⟨e1, e2⟩ := e
  have e1 := congrArg UInt8.toNat e1
  have e2 := congrArg UInt8.toNat e2
  simp only [UInt8.toNat_ofNat'] at e1 e2
  omega
theorem keyOf_size (a : Nat) : (keyOf a).size = 3 := rfl
def it (step j : Nat) : It := (keyOf (j * step % 997), ⟨#[118]⟩)
theorem it_inj {step i j : Nat} (h1 : 1 ≤ step) (h2 : step ≤ 996) (hi : i < 150) (hj : j < 150) (e : (it step i).1 = (it step j).1) : i = j :=
  step_inj h1 h2 hi hj (keyOf_inj (by have := Nat.mod_lt (i * step) (show 997 > 0 by omega); omega) (by have := Nat.mod_lt (j * step) (show 997 > 0 by omega); omega) e)
theorem mem_insL {x y : It} {xs : List It} : y ∈ insL x xs ↔ y = x ∨ y ∈ xs := by
  induction xs with
  | nil => simp [insL]
  | cons z zs ih =>
    rw [insL]
    split
    · simp only [List.mem_cons, ih]
      constructor
      · rintro (h | h | h) <;> simp [h]
      · rintro (h | h | h) <;> simp [h]
    · simp only [List.mem_cons]
theorem putL_new {most : Int} {k v : ByteArray} {xs : List It} (h1 : 1 ≤ k.size) (h2 : k.size ≤ 16) (hv : v.size ≤ 16) (hn : ∀ x ∈ xs, x.1 ≠ k) (hm : (xs.length : Int) < most) : putL most k v xs = (0, insL (k, v) xs) := by
  unfold putL
  rw [if_neg (by omega), if_neg (by omega), valueOf_none_iff.2 hn, if_neg (by simp), if_neg (by omega)]
/-- xs holds the items lo up to hi, each once, by key. -/
structure Has (step lo hi : Nat) (xs : List It) : Prop where
  len : xs.length = hi - lo
  rises : Rises xs
  mem : ∀ x, x ∈ xs ↔ ∃ j, lo ≤ j ∧ j < hi ∧ x = it step j
theorem Has.none (step n : Nat) : Has step n n [] := ⟨by simp, List.Pairwise.nil, fun x => ⟨by simp, by rintro ⟨j, h1, h2, _⟩; omega⟩⟩
theorem Has.up {step lo hi : Nat} {xs : List It} (h : Has step lo hi xs) (h1 : 1 ≤ step) (h2 : step ≤ 996) (hl : lo ≤ hi) (hh : hi < 150) : ∃ xs', putL 200 (it step hi).1 ⟨#[118]⟩ xs = (0, xs') ∧ Has step lo (hi + 1) xs' := by
  have hp : putL 200 (it step hi).1 ⟨#[118]⟩ xs = (0, insL (it step hi) xs) := by
    refine putL_new (by simp [it, keyOf_size]) (by simp [it, keyOf_size]) (by decide) (fun x hx e => ?_) (by have := h.len; omega)
    obtain ⟨j, a, b, rfl⟩ := (h.mem x).1 hx
    have := it_inj h1 h2 (by omega) hh e
    omega
  refine ⟨_, hp, by rw [insL_length, h.len]; omega, ?_, fun x => ?_⟩
  · have := putL_rises (most := 200) (k := (it step hi).1) (v := ⟨#[118]⟩) h.rises
    rw [hp] at this; exact this
  · rw [mem_insL, h.mem]
    constructor
    · rintro (rfl | ⟨j, a, b, rfl⟩)
      · exact ⟨hi, hl, by omega, rfl⟩
      · exact ⟨j, a, by omega, rfl⟩
    · rintro ⟨j, a, b, rfl⟩
      by_cases e : j = hi
      · left; rw [e]
      · right; exact ⟨j, a, by omega, rfl⟩
theorem Has.down {step lo hi : Nat} {xs : List It} (h : Has step (lo + 1) hi xs) (h1 : 1 ≤ step) (h2 : step ≤ 996) (hl : lo < hi) (hh : hi ≤ 150) : ∃ xs', putL 200 (it step lo).1 ⟨#[118]⟩ xs = (0, xs') ∧ Has step lo hi xs' := by
  have hp : putL 200 (it step lo).1 ⟨#[118]⟩ xs = (0, insL (it step lo) xs) := by
    refine putL_new (by simp [it, keyOf_size]) (by simp [it, keyOf_size]) (by decide) (fun x hx e => ?_) (by have := h.len; omega)
    obtain ⟨j, a, b, rfl⟩ := (h.mem x).1 hx
    have := it_inj h1 h2 (by omega) (by omega) e
    omega
  refine ⟨_, hp, by rw [insL_length, h.len]; omega, ?_, fun x => ?_⟩
  · have := putL_rises (most := 200) (k := (it step lo).1) (v := ⟨#[118]⟩) h.rises
    rw [hp] at this; exact this
  · rw [mem_insL, h.mem]
    constructor
    · rintro (rfl | ⟨j, a, b, rfl⟩)
      · exact ⟨lo, Nat.le_refl _, hl, rfl⟩
      · exact ⟨j, by omega, b, rfl⟩
    · rintro ⟨j, a, b, rfl⟩
      by_cases e : j = lo
      · left; rw [e]
      · right; exact ⟨j, by omega, b, rfl⟩
theorem Has.eq {step lo hi : Nat} {xs ys : List It} (h : Has step lo hi xs) (k : Has step lo hi ys) : xs = ys :=
  Rises.ext h.rises k.rises fun x => by rw [h.mem, k.mem]
theorem Has.next {step lo hi : Nat} {xs : List It} (h : Has step lo hi xs) {i : Nat} {a b : It} (ha : xs[i]? = some a) (hb : xs[i + 1]? = some b) : lt a.1 b.1 = true := by
  obtain ⟨h1, rfl⟩ := List.getElem?_eq_some_iff.1 ha
  obtain ⟨h2, rfl⟩ := List.getElem?_eq_some_iff.1 hb
  exact List.pairwise_iff_getElem.1 h.rises i (i + 1) h1 h2 (by omega)
end Go.Proofs.Ythknenhcnpgkcaa
