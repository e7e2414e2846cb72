import Derived.Test.YtfjefhmlomdapaaDoorKeyf
/- Keys: plain laws on lists of bytes. -/
namespace Go.Proofs.YtfjefhmlomdapaaDoor
open Go.RowKit
theorem less_irrefl : ∀ a : List UInt8, Op.bytesLess a a = false
  | [] => rfl
  | x :: a => by rw [less_cons, less_irrefl a]; simp
theorem less_total : ∀ a b : List UInt8, a ≠ b → Op.bytesLess b a = !Op.bytesLess a b
  | [], [], h => (h rfl).elim
  | [], _ :: _, _ => rfl
  | _ :: _, [], _ => rfl
  | x :: a, y :: b, h => by
    rw [less_cons, less_cons]
    rcases Nat.lt_trichotomy x.toNat y.toNat with c | c | c
    · have e1 : ¬ y.toNat < x.toNat := by omega
      have e2 : ¬ y.toNat = x.toNat := by omega
      simp [c, e1, e2]
    · have hxy : x = y := UInt8.toNat_inj.1 c
      subst hxy
      have := less_total a b (fun e => h (by rw [e]))
      simp [this]
    · have e1 : ¬ x.toNat < y.toNat := by omega
      have e2 : ¬ x.toNat = y.toNat := by omega
      simp [c, e1, e2]
theorem less_asymm (a b : List UInt8) (h : Op.bytesLess a b = true) : Op.bytesLess b a = false := by
  by_cases e : a = b
  · subst e; rw [less_irrefl] at h; cases h
  · rw [less_total a b e, h]; rfl
theorem less_trans : ∀ a b c : List UInt8, Op.bytesLess a b = true → Op.bytesLess b c = true → Op.bytesLess a c = true
  | _, [], _, h, _ => by rw [less_nil_right] at h; cases h
  | _, _ :: _, [], _, h => by rw [less_nil_right] at h; cases h
  | [], _ :: _, _ :: _, _, _ => rfl
  | x :: a, y :: b, z :: c, h1, h2 => by
    rw [less_cons] at *
    simp only [Bool.or_eq_true, Bool.and_eq_true, decide_eq_true_eq] at *
    rcases h1 with h1 | ⟨h1, h1'⟩ <;> rcases h2 with h2 | ⟨h2, h2'⟩
    · left; omega
    · left; omega
    · left; omega
    · right; exact ⟨by omega, less_trans a b c h1' h2'⟩
theorem less_append : ∀ a b : List UInt8, b ≠ [] → Op.bytesLess a (a ++ b) = true
  | [], [], h => (h rfl).elim
  | [], _ :: _, _ => rfl
  | x :: a, b, h => by rw [List.cons_append, less_cons, less_append a b h]; simp
theorem less_prefix : ∀ a t : List UInt8, Op.bytesLess (a ++ t) a = false
  | [], t => by rw [less_nil_right]
  | x :: a, t => by rw [List.cons_append, less_cons, less_prefix a t]; simp
theorem less_past : ∀ o k : List UInt8, Op.bytesLess o (k ++ [0]) = (decide (o = k) || Op.bytesLess o k)
  | [], [] => rfl
  | [], _ :: _ => rfl
  | x :: o, [] => by
    rw [List.nil_append, less_cons, less_nil_right, less_nil_right]; simp
  | x :: o, y :: k => by
    rw [List.cons_append, less_cons, less_cons, less_past o k]
    rcases Nat.lt_trichotomy x.toNat y.toNat with c | c | c
    · simp [c]
    · have hxy : x = y := UInt8.toNat_inj.1 c
      subst hxy
      simp
    · have e1 : ¬ x.toNat < y.toNat := by omega
      have e2 : ¬ x.toNat = y.toNat := by omega
      have e3 : ¬ x = y := fun e => e2 (by rw [e])
      simp [e1, e2, e3]
/-- The number of the first k bytes, from the front. -/
def addrF : Nat → List UInt8 → Nat
  | 0, _ => 0
  | k + 1, l => byteAt l 0 * 256 ^ k + addrF k l.tail
theorem byteAt_tail (l : List UInt8) (i : Nat) : byteAt l.tail i = byteAt l (i + 1) := by
  unfold byteAt; cases l <;> simp
theorem addrUp_front (l : List UInt8) : ∀ k, addrUp l (k + 1) = byteAt l 0 * 256 ^ k + addrUp l.tail k
  | 0 => by simp [addrUp]
  | k + 1 => by
    rw [addrUp, addrUp_front l k, addrUp, byteAt_tail, Nat.pow_succ]
    rw [Nat.add_mul, Nat.mul_assoc, Nat.add_assoc]
theorem addrUp_tail_lt (l : List UInt8) (k : Nat) : addrUp l k < 256 ^ k := addrUp_lt l k
theorem addr_mono : ∀ (k : Nat) (a b : List UInt8), Op.bytesLess a b = true → addrUp a k ≤ addrUp b k
  | 0, _, _, _ => Nat.le_refl _
  | k + 1, a, b, h => by
    rw [addrUp_front, addrUp_front]
    cases b with
    | nil => rw [less_nil_right] at h; cases h
    | cons y b =>
      cases a with
      | nil =>
        have e : ∀ j, addrUp ([] : List UInt8) j = 0 := by
          intro j; induction j with
          | zero => rfl
          | succ j ih => simp [addrUp, ih, byteAt]
        rw [List.tail_nil, e]; simp [byteAt]
      | cons x a =>
        rw [less_cons] at h
        simp only [Bool.or_eq_true, Bool.and_eq_true, decide_eq_true_eq] at h
        have e1 : byteAt (x :: a) 0 = x.toNat := rfl
        have e2 : byteAt (y :: b) 0 = y.toNat := rfl
        rw [e1, e2, List.tail_cons, List.tail_cons]
        have := addrUp_lt a k
        rcases h with h | ⟨h, h'⟩
        · have hm : (x.toNat + 1) * 256 ^ k ≤ y.toNat * 256 ^ k := Nat.mul_le_mul_right _ h
          rw [Nat.add_mul] at hm; omega
        · have := addr_mono k a b h'
          rw [h]; omega
theorem addr_le {a b : List UInt8} (h : Op.bytesLess b a = false) : addrN a ≤ addrN b := by
  by_cases e : a = b
  · rw [e]; exact Nat.le_refl _
  · have := less_total b a (fun h' => e h'.symm)
    rw [h] at this
    exact addr_mono 8 a b (by simpa using this)
theorem addr_lt {a b : List UInt8} (h : addrN a < addrN b) : Op.bytesLess a b = true := by
  cases hb : Op.bytesLess a b with
  | true => rfl
  | false => have := addr_le hb; omega
theorem addrUp_congr {a b : List UInt8} : ∀ k, (∀ i, i < k → byteAt a i = byteAt b i) → addrUp a k = addrUp b k
  | 0, _ => rfl
  | k + 1, h => by rw [addrUp, addrUp, addrUp_congr k (fun i hi => h i (by omega)), h k (by omega)]
theorem addrUp_inj {a b : List UInt8} : ∀ k, addrUp a k = addrUp b k → ∀ i, i < k → byteAt a i = byteAt b i
  | 0, _, i, hi => by omega
  | k + 1, h, i, hi => by
    rw [addrUp, addrUp] at h
    have h1 := byteAt_lt a k
    have h2 := byteAt_lt b k
    by_cases e : i = k
    · subst e; omega
    · exact addrUp_inj k (by omega) i (by omega)
theorem byteAt_append_zeros (a : List UInt8) (n i : Nat) : byteAt (a ++ List.replicate n 0) i = byteAt a i := by
  unfold byteAt
  rw [List.getD, List.getD, List.getElem?_append]
  split
  · rfl
  · rename_i h
    rw [List.getElem?_eq_none (l := a) (by omega), List.getElem?_replicate]
    split <;> rfl
theorem addr_zeros (a : List UInt8) (n : Nat) : addrN (a ++ List.replicate n 0) = addrN a := addrUp_congr 8 (fun i _ => byteAt_append_zeros a n i)
theorem byteAt_append_lt (a b : List UInt8) (i : Nat) (h : i < a.length) : byteAt (a ++ b) i = byteAt a i := by
  unfold byteAt
  rw [List.getD, List.getD, List.getElem?_append_left h]
theorem addr_full (a b : List UInt8) (h : 8 ≤ a.length) : addrN (a ++ b) = addrN a := addrUp_congr 8 (fun i hi => byteAt_append_lt a b i (by omega))
theorem trim_split (l : List UInt8) : ∃ m, l = trimL 0 l ++ List.replicate m 0 := by
  unfold trimL
  have h : ∀ r : List UInt8, ∃ m, r = List.replicate m 0 ++ r.dropWhile (fun x => x.toNat == 0) := by
    intro r
    induction r with
    | nil => exact ⟨0, rfl⟩
    | cons x r ih =>
      by_cases e : x.toNat = 0
      · obtain ⟨m, hm⟩ := ih
        have e0 : x = 0 := UInt8.toNat_inj.1 e
        subst e0
        refine ⟨m + 1, ?_⟩
        rw [List.replicate_succ, List.cons_append]
        simp only [List.dropWhile_cons]
        rw [if_pos (by rfl)]
        rw [← hm]
      · refine ⟨0, ?_⟩
        rw [List.dropWhile_cons, if_neg (by simpa using e)]; rfl
  obtain ⟨m, hm⟩ := h l.reverse
  refine ⟨m, ?_⟩
  have := congrArg List.reverse hm
  rw [List.reverse_reverse, List.reverse_append, List.reverse_replicate] at this
  exact this
theorem addr_trim (l : List UInt8) : addrN (trimL 0 l) = addrN l := by
  obtain ⟨m, hm⟩ := trim_split l
  conv => rhs; rw [hm]
  rw [addr_zeros]
theorem div_step (x m : Nat) : x / (m * 256) * 256 + x / m % 256 = x / m := by
  rw [← Nat.div_div_eq_div_mul]
  have := Nat.div_add_mod (x / m) 256
  omega
theorem div_step0 (x : Nat) : x / 256 * 256 + x % 256 = x := by omega
theorem addr_wide (x : Nat) (hx : x < 18446744073709551616) : addrN (wideL x) = x := by
  have e : ∀ n, (UInt8.ofNat n).toNat = n % 256 := fun n => by simp
  have s7 : x / 72057594037927936 % 256 = x / 72057594037927936 := by
    have h : x < 72057594037927936 * 256 := hx
    exact Nat.mod_eq_of_lt (Nat.div_lt_of_lt_mul h)
  have s6 : x / 72057594037927936 * 256 + x / 281474976710656 % 256 = x / 281474976710656 := div_step x 281474976710656
  have s5 : x / 281474976710656 * 256 + x / 1099511627776 % 256 = x / 1099511627776 := div_step x 1099511627776
  have s4 : x / 1099511627776 * 256 + x / 4294967296 % 256 = x / 4294967296 := div_step x 4294967296
  have s3 : x / 4294967296 * 256 + x / 16777216 % 256 = x / 16777216 := div_step x 16777216
  have s2 : x / 16777216 * 256 + x / 65536 % 256 = x / 65536 := div_step x 65536
  have s1 : x / 65536 * 256 + x / 256 % 256 = x / 256 := div_step x 256
  have s0 : x / 256 * 256 + x % 256 = x := div_step0 x
  simp only [addrN, addrUp, byteAt, wideL, List.getD_cons_zero, List.getD_cons_succ, e, Nat.mod_mod, Nat.zero_mul, Nat.zero_add]
  rw [s7, s6, s5, s4, s3, s2, s1, s0]
theorem addr_first (x : Nat) (hx : x < 18446744073709551616) : addrN (firstL x) = x := by
  unfold firstL; rw [addr_trim, addr_wide x hx]
theorem trim_last (l : List UInt8) (h : 0 < (trimL 0 l).length) : byteAt (trimL 0 l) ((trimL 0 l).length - 1) ≠ 0 := by
  have hr : ∀ r : List UInt8, ∀ x t, r.dropWhile (fun x => x.toNat == 0) = x :: t → x.toNat ≠ 0 := by
    intro r
    induction r with
    | nil => intro x t h; cases h
    | cons y r ih =>
      intro x t h
      rw [List.dropWhile_cons] at h
      split at h
      · exact ih x t h
      · rename_i hy
        cases h
        simpa using hy
  unfold trimL at *
  cases hd : l.reverse.dropWhile (fun x => x.toNat == 0) with
  | nil => rw [hd] at h; simp at h
  | cons x t =>
    have := hr _ _ _ hd
    simp only [List.reverse_cons, List.length_append, List.length_reverse, List.length_cons, List.length_nil]
    unfold byteAt
    rw [List.getD, List.getElem?_append_right (by simp)]
    simpa using this
theorem first_len (x : Nat) : (firstL x).length ≤ 8 := by
  obtain ⟨m, hm⟩ := trim_split (wideL x)
  have := congrArg List.length hm
  rw [List.length_append] at this
  have h8 : (wideL x).length = 8 := rfl
  unfold firstL; omega
theorem first_least (a : List UInt8) (x : Nat) (hx : x < 18446744073709551616) (h : x ≤ addrN a) : Op.bytesLess a (firstL x) = false := by
  cases hb : Op.bytesLess a (firstL x) with
  | false => rfl
  | true =>
    exfalso
    have h1 := addr_mono 8 _ _ hb
    have h2 := addr_first x hx
    have he : addrUp a 8 = addrUp (firstL x) 8 := by unfold addrN at *; omega
    have hi := addrUp_inj 8 he
    have hl := first_len x
    have hle : (firstL x).length ≤ a.length := by
      rcases Nat.lt_or_ge a.length (firstL x).length with c | c
      · exfalso
        have hlast := trim_last (wideL x) (by show 0 < (firstL x).length; omega)
        have e := hi ((firstL x).length - 1) (by omega)
        have hz : byteAt a ((firstL x).length - 1) = 0 := by
          unfold byteAt; rw [List.getD, List.getElem?_eq_none (by omega)]; rfl
        exact hlast (e.symm.trans hz)
      · exact c
    have hp : a = firstL x ++ a.drop (firstL x).length := by
      apply List.ext_getElem?
      intro i
      rw [List.getElem?_append]
      split
      · rename_i hlt
        have e := hi i (by omega)
        unfold byteAt at e
        rw [List.getD, List.getD, List.getElem?_eq_getElem hlt, List.getElem?_eq_getElem (show i < a.length by omega)] at e
        rw [List.getElem?_eq_getElem hlt, List.getElem?_eq_getElem (show i < a.length by omega)]
        exact congrArg some (UInt8.toNat_inj.1 e)
      · rw [List.getElem?_drop]
        congr 1; omega
    rw [hp, less_prefix] at hb
    cases hb
theorem first_over (a : List UInt8) (x : Nat) (hx : x < 18446744073709551616) (h : addrN a < x) : Op.bytesLess a (firstL x) = true :=
  addr_lt (by rw [addr_first x hx]; exact h)
end Go.Proofs.YtfjefhmlomdapaaDoor
