import Derived.Test.YthknenhcnpgkcaaWkL
import Derived.Test.YthknenhcnpgkcaaKeyb
/- Where keys lie, in their order; the items of an arc, and its middle: plain lists. -/
namespace Go.Proofs.Ythknenhcnpgkcaa
open Go.RowKit
set_option linter.unusedVariables false
set_option linter.unusedSimpArgs false
/-- The number of the first k bytes, from the front. -/
def addrF : Nat → List UInt8 → Nat
  | 0, _ => 0
  | k + 1, l => byteAt l 0 * 256 ^ k + addrF k l.tail
theorem byteAt_tail (l : List UInt8) (i : Nat) : byteAt l.tail i = byteAt l (i + 1) := by
  unfold byteAt; cases l <;> simp
theorem addrUp_front (l : List UInt8) : ∀ k, addrUp l (k + 1) = byteAt l 0 * 256 ^ k + addrUp l.tail k
  | 0 => by simp [addrUp]
  | k + 1 => by
    rw [addrUp, addrUp_front l k, addrUp, byteAt_tail, Nat.pow_succ]
    rw [Nat.add_mul, Nat.mul_assoc, Nat.add_assoc]
theorem addrUp_tail_lt (l : List UInt8) (k : Nat) : addrUp l k < 256 ^ k := addrUp_lt l k
theorem addr_mono : ∀ (k : Nat) (a b : List UInt8), Op.bytesLess a b = true → addrUp a k ≤ addrUp b k
  | 0, _, _, _ => Nat.le_refl _
  | k + 1, a, b, h => by
    rw [addrUp_front, addrUp_front]
    cases b with
    | nil => rw [less_nil_right] at h; cases h
    | cons y b =>
      cases a with
      | nil =>
        have e : ∀ j, addrUp ([] : List UInt8) j = 0 := by
          intro j; induction j with
          | zero => rfl
          | succ j ih => simp [addrUp, ih, byteAt]
        rw [List.tail_nil, e]; simp [byteAt]
      | cons x a =>
        rw [less_cons] at h
        simp only [Bool.or_eq_true, Bool.and_eq_true, decide_eq_true_eq] at h
        have e1 : byteAt (x :: a) 0 = x.toNat := rfl
        have e2 : byteAt (y :: b) 0 = y.toNat := rfl
        rw [e1, e2, List.tail_cons, List.tail_cons]
        have := addrUp_lt a k
        rcases h with h | ⟨h, h'⟩
        · have hm : (x.toNat + 1) * 256 ^ k ≤ y.toNat * 256 ^ k := Nat.mul_le_mul_right _ h
          rw [Nat.add_mul] at hm; omega
        · have := addr_mono k a b h'
          rw [h]; omega
theorem addr_le {a b : List UInt8} (h : Op.bytesLess b a = false) : addrN a ≤ addrN b := by
  by_cases e : a = b
  · rw [e]; exact Nat.le_refl _
  · have := less_total b a (fun h' => e h'.symm)
    rw [h] at this
    exact addr_mono 8 a b (by simpa using this)
theorem addr_lt {a b : List UInt8} (h : addrN a < addrN b) : Op.bytesLess a b = true := by
  cases hb : Op.bytesLess a b with
  | true => rfl
  | false => have := addr_le hb; omega
/-- Where an item lies. -/
def adr (x : It) : Int := (addrN x.1.data.toList : Nat)
theorem adr_ge (x : It) : 0 ≤ adr x := by unfold adr; omega
theorem adr_lt (x : It) : adr x < 18446744073709551616 := by
  have := addrUp_lt x.1.data.toList 8
  unfold adr addrN
  omega
theorem adr_le {x y : It} (h : lt x.1 y.1 = true) : adr x ≤ adr y := by
  have := addr_mono 8 x.1.data.toList y.1.data.toList h
  unfold adr addrN
  omega
/-- Does an item lie in a piece? -/
def inP (p : Int × Int) (x : It) : Bool := decide (p.1 ≤ adr x) && (decide (p.2 = 0) || decide (adr x < p.2))
/-- The items of an arc, in its order. -/
def arcL (a b : Int) (xs : List It) : List It := (piecesA a b).flatMap fun p => xs.filter (inP p)
/-- Does a point lie in an arc? -/
def inArc (a b x : Int) : Bool := decide (a = b) || decide ((x - a) % 18446744073709551616 < (b - a) % 18446744073709551616)
/-- How far behind a's beginning an item lies. -/
def off (a : Int) (x : It) : Int := (adr x - a) % 18446744073709551616
theorem pieces_cases (a b : Int) : (b = 0 ∧ piecesA a b = [(a, 0)]) ∨ (b ≠ 0 ∧ a < b ∧ piecesA a b = [(a, b)]) ∨ (b ≠ 0 ∧ b ≤ a ∧ piecesA a b = [(a, 0), (0, b)]) := by
  unfold piecesA
  by_cases h : b = 0
  · subst h; simp
  · by_cases h2 : a < b
    · right; left; simp [h, h2]
    · right; right; simp [h, h2]; omega
theorem inArc_iff (a b x : Int) : inArc a b x = true ↔ a = b ∨ (x - a) % 18446744073709551616 < (b - a) % 18446744073709551616 := by simp [inArc]
theorem inP_iff (p : Int × Int) (x : It) : inP p x = true ↔ p.1 ≤ adr x ∧ (p.2 = 0 ∨ adr x < p.2) := by simp [inP]
theorem inP_iff2 (u v : Int) (x : It) : inP (u, v) x = true ↔ u ≤ adr x ∧ (v = 0 ∨ adr x < v) := inP_iff _ _
/-- The document's: those from the arc's beginning on, then those ahead of it. -/
theorem arcL_ref {a b : Int} (ha : 0 ≤ a) (ha2 : a < 18446744073709551616) (hb : 0 ≤ b) (hb2 : b < 18446744073709551616) (xs : List It) :
    arcL a b xs = (xs.filter fun x => inArc a b (adr x) && decide (a ≤ adr x)) ++ xs.filter fun x => inArc a b (adr x) && !decide (a ≤ adr x) := by
  unfold arcL
  have key : ∀ (p q : It → Bool), (∀ x ∈ xs, p x = q x) → xs.filter p = xs.filter q := fun p q h => List.filter_congr h
  have none : ∀ (p : It → Bool), (∀ x ∈ xs, p x = false) → xs.filter p = [] := fun p h => List.filter_eq_nil_iff.2 fun x hx e => by rw [h x hx] at e; cases e
  have bo : ∀ {p q : Bool}, (p = true ↔ q = true) → p = q := fun {p q} h => by cases p <;> cases q <;> simp_all
  rcases pieces_cases a b with ⟨rfl, e⟩ | ⟨h0, h1, e⟩ | ⟨h0, h1, e⟩
  · rw [e, List.flatMap_cons, List.flatMap_nil, List.append_nil]
    conv => rhs; rw [none (fun x => inArc a 0 (adr x) && !decide (a ≤ adr x)) fun x _ => by
      have := adr_ge x; have := adr_lt x
      rw [Bool.eq_false_iff]; simp only [ne_eq, Bool.and_eq_true, inArc_iff, Bool.not_eq_true', decide_eq_false_iff_not]; omega]
    rw [List.append_nil]
    refine key _ _ fun x _ => bo ?_
    have := adr_ge x; have := adr_lt x
    simp only [Bool.and_eq_true, inArc_iff, inP_iff2, true_or, and_true, decide_eq_true_eq]
    omega
  · rw [e, List.flatMap_cons, List.flatMap_nil, List.append_nil]
    conv => rhs; rw [none (fun x => inArc a b (adr x) && !decide (a ≤ adr x)) fun x _ => by
      have := adr_ge x; have := adr_lt x
      rw [Bool.eq_false_iff]; simp only [ne_eq, Bool.and_eq_true, inArc_iff, Bool.not_eq_true', decide_eq_false_iff_not]; omega]
    rw [List.append_nil]
    refine key _ _ fun x _ => bo ?_
    have := adr_ge x; have := adr_lt x
    simp only [Bool.and_eq_true, inArc_iff, inP_iff2, true_or, and_true, decide_eq_true_eq]
    omega
  · rw [e, List.flatMap_cons, List.flatMap_cons, List.flatMap_nil, List.append_nil]
    congr 1
    · refine key _ _ fun x _ => bo ?_
      have := adr_ge x; have := adr_lt x
      simp only [Bool.and_eq_true, inArc_iff, inP_iff2, true_or, and_true, decide_eq_true_eq]
      omega
    · refine key _ _ fun x _ => bo ?_
      have := adr_ge x; have := adr_lt x
      simp only [Bool.and_eq_true, inArc_iff, inP_iff2, true_or, and_true, Bool.not_eq_true', decide_eq_false_iff_not]
      omega
theorem arcL_countP {a b : Int} (ha : 0 ≤ a) (ha2 : a < 18446744073709551616) (hb : 0 ≤ b) (hb2 : b < 18446744073709551616) (q : It → Bool) (xs : List It) :
    (arcL a b xs).countP q = xs.countP fun x => inArc a b (adr x) && q x := by
  rw [arcL_ref ha ha2 hb hb2, List.countP_append, List.countP_filter, List.countP_filter]
  induction xs with
  | nil => rfl
  | cons x xs ih =>
    simp only [List.countP_cons]
    rw [← ih]
    cases q x <;> cases inArc a b (adr x) <;> cases decide (a ≤ adr x) <;> simp <;> omega
theorem arcL_len {a b : Int} (ha : 0 ≤ a) (ha2 : a < 18446744073709551616) (hb : 0 ≤ b) (hb2 : b < 18446744073709551616) (xs : List It) :
    (arcL a b xs).length = xs.countP fun x => inArc a b (adr x) := by
  have := arcL_countP ha ha2 hb hb2 (fun _ => true) xs
  simpa using this
theorem arcL_len_le {a b : Int} (ha : 0 ≤ a) (ha2 : a < 18446744073709551616) (hb : 0 ≤ b) (hb2 : b < 18446744073709551616) (xs : List It) : (arcL a b xs).length ≤ xs.length := by
  rw [arcL_len ha ha2 hb hb2]; exact List.countP_le_length
theorem arcL_mem {a b : Int} (ha : 0 ≤ a) (ha2 : a < 18446744073709551616) (hb : 0 ≤ b) (hb2 : b < 18446744073709551616) {xs : List It} {x : It} : x ∈ arcL a b xs ↔ x ∈ xs ∧ inArc a b (adr x) = true := by
  rw [arcL_ref ha ha2 hb hb2, List.mem_append, List.mem_filter, List.mem_filter]
  cases inArc a b (adr x) <;> cases decide (a ≤ adr x) <;> simp
/-- An arc's items come in the order in which they lie behind its beginning. -/
theorem arcL_off {a b : Int} (ha : 0 ≤ a) (ha2 : a < 18446744073709551616) (hb : 0 ≤ b) (hb2 : b < 18446744073709551616) {xs : List It} (hr : Rises xs) : (arcL a b xs).Pairwise fun x y => off a x ≤ off a y := by
  have hp : ∀ q : It → Bool, (xs.filter q).Pairwise fun x y => adr x ≤ adr y := fun q => (List.Pairwise.sublist List.filter_sublist hr).imp fun h => adr_le h
  rw [arcL_ref ha ha2 hb hb2, List.pairwise_append]
  refine ⟨List.Pairwise.imp_of_mem ?_ (hp _), List.Pairwise.imp_of_mem ?_ (hp _), ?_⟩
  · intro x y hx hy h
    have h1 := (List.mem_filter.1 hx).2
    have h2 := (List.mem_filter.1 hy).2
    simp only [Bool.and_eq_true, decide_eq_true_eq] at h1 h2
    have := adr_lt x; have := adr_lt y
    unfold off; omega
  · intro x y hx hy h
    have h1 := (List.mem_filter.1 hx).2
    have h2 := (List.mem_filter.1 hy).2
    simp only [Bool.and_eq_true, Bool.not_eq_true', decide_eq_false_iff_not] at h1 h2
    have := adr_ge x; have := adr_ge y
    unfold off; omega
  · intro x hx y hy
    have h1 := (List.mem_filter.1 hx).2
    have h2 := (List.mem_filter.1 hy).2
    simp only [Bool.and_eq_true, Bool.not_eq_true', decide_eq_false_iff_not, decide_eq_true_eq] at h1 h2
    have := adr_lt x; have := adr_ge y
    unfold off; omega
/-- Where a list of addresses is cut. -/
def midL (D : List Int) : Option Int := (D.drop ((D.length + 1) / 2)).find? fun x => x != D.getD ((D.length + 1) / 2 - 1) 0
end Go.Proofs.Ythknenhcnpgkcaa
