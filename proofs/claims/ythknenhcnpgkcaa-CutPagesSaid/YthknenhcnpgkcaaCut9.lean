/- What was cut out, put in again. Plain lists. -/
import Derived.Test.YthknenhcnpgkcaaCut8
namespace Go.Proofs.Ythknenhcnpgkcaa
open Go.RowKit
set_option linter.unusedVariables false
/-- An item that may be. -/
def okIt (x : It) : Prop := 1 ≤ x.1.size ∧ x.1.size ≤ 16 ∧ x.2.size ≤ 16
theorem okIt_putL {most : Int} {k v : ByteArray} {xs : List It} (h : ∀ x ∈ xs, okIt x) : ∀ x ∈ (putL most k v xs).2, okIt x := by
  unfold putL
  split
  · exact h
  · rename_i h1
    split
    · exact h
    · rename_i h2
      have hkv : okIt (k, v) := ⟨by show 1 ≤ k.size; omega, by show k.size ≤ 16; omega, by show v.size ≤ 16; omega⟩
      split
      · intro x hx
        obtain ⟨y, hy, rfl⟩ := List.mem_map.1 hx
        split
        · exact hkv
        · exact h y hy
      · split
        · exact h
        · intro x hx
          rcases mem_insL.1 hx with rfl | hx
          · exact hkv
          · exact h x hx
theorem okIt_fold : ∀ (l acc : List It), (∀ x ∈ acc, okIt x) → ∀ x ∈ l.foldl (fun xs i => (putL 200 i.1 i.2 xs).2) acc, okIt x
  | [], _, h => h
  | _ :: l, _, h => okIt_fold l _ (okIt_putL h)
theorem okIt_fill (l : List It) : ∀ x ∈ fillL l, okIt x := okIt_fold l [] (by simp)
theorem keys_apart {l : List It} (h : ∀ k, (l.countP fun x => decide (x.1 = k)) ≤ 1) : l.Pairwise fun x y => x.1 ≠ y.1 := by
  induction l with
  | nil => exact List.Pairwise.nil
  | cons x l ih =>
    refine List.pairwise_cons.2 ⟨fun y hy e => ?_, ih fun k => ?_⟩
    · have := h x.1
      rw [List.countP_cons_of_pos (by simp)] at this
      have h2 : 0 < l.countP fun z => decide (z.1 = x.1) := List.countP_pos_iff.2 ⟨y, hy, by simp [e]⟩
      omega
    · have := h k
      rw [List.countP_cons] at this
      omega
theorem rises_count {l : List It} (h : Rises l) (k : ByteArray) : (l.countP fun x => decide (x.1 = k)) ≤ 1 := by
  induction l with
  | nil => simp
  | cons x l ih =>
    obtain ⟨h1, h2⟩ := Rises.cons.1 h
    rw [List.countP_cons]
    by_cases c : x.1 = k
    · have : (l.countP fun x => decide (x.1 = k)) = 0 := List.countP_eq_zero.2 fun y hy => by
        have := h1 y hy
        rw [c] at this
        simp only [decide_eq_true_eq]
        exact fun e => lt_ne this e.symm
      simp [c, this]
    · simp [c]
      exact ih h2
theorem insAll_new {most : Int} : ∀ (ks zs : List It), (∀ x ∈ ks, okIt x) → (ks.Pairwise fun x y => x.1 ≠ y.1) → (∀ x ∈ ks, ∀ z ∈ zs, z.1 ≠ x.1) → Rises zs → ((ks.length + zs.length : Nat) : Int) ≤ most → ∃ us, insAll most ks zs = (0, us) ∧ Rises us ∧ ∀ y, y ∈ us ↔ y ∈ ks ∨ y ∈ zs
  | [], zs, _, _, _, hr, _ => ⟨zs, rfl, hr, fun y => by simp⟩
  | x :: ks, zs, h1, h2, h3, hr, hm => by
    obtain ⟨p1, p2⟩ := List.pairwise_cons.1 h2
    obtain ⟨o1, o2, o3⟩ := h1 x (by simp)
    have hp : putL most x.1 x.2 zs = (0, insL (x.1, x.2) zs) := putL_new o1 o2 o3 (fun z hz => h3 x (by simp) z hz) (by simp at hm; omega)
    have hr2 := putL_rises (most := most) (k := x.1) (v := x.2) hr
    rw [hp] at hr2
    obtain ⟨us, q1, q2, q3⟩ := insAll_new (most := most) ks (insL (x.1, x.2) zs) (fun y hy => h1 y (by simp [hy])) p2 (fun y hy z hz => by
      rcases mem_insL.1 hz with rfl | hz
      · exact p1 y hy
      · exact h3 y (by simp [hy]) z hz) hr2 (by rw [insL_length]; simp at hm ⊢; omega)
    refine ⟨us, by rw [insAll, hp, if_pos rfl]; exact q1, q2, fun y => ?_⟩
    rw [q3, mem_insL]
    constructor
    · rintro (h | rfl | h)
      · simp [h]
      · simp
      · simp [h]
    · rintro (h | h)
      · rcases List.mem_cons.1 h with rfl | h
        · exact .inr (.inl rfl)
        · exact .inl h
      · exact .inr (.inr h)
theorem insAll_full {most : Int} : ∀ (ks zs : List It), (∀ x ∈ ks, okIt x) → (ks.Pairwise fun x y => x.1 ≠ y.1) → (∀ x ∈ ks, ∀ z ∈ zs, z.1 ≠ x.1) → (zs.length : Int) ≤ most → most < ((ks.length + zs.length : Nat) : Int) → (insAll most ks zs).1 = 5
  | [], zs, _, _, _, h4, hm => by simp at hm; omega
  | x :: ks, zs, h1, h2, h3, h4, hm => by
    obtain ⟨p1, p2⟩ := List.pairwise_cons.1 h2
    obtain ⟨o1, o2, o3⟩ := h1 x (by simp)
    have hv : valueOf x.1 zs = none := valueOf_none fun z hz => h3 x (by simp) z hz
    rw [insAll]
    rcases Int.lt_or_le (zs.length : Int) most with c | c
    · have hp : putL most x.1 x.2 zs = (0, insL (x.1, x.2) zs) := putL_new o1 o2 o3 (fun z hz => h3 x (by simp) z hz) c
      rw [hp, if_pos rfl]
      refine insAll_full ks (insL (x.1, x.2) zs) (fun y hy => h1 y (by simp [hy])) p2 (fun y hy z hz => ?_) (by rw [insL_length]; omega) (by rw [insL_length]; simp at hm ⊢; omega)
      rcases mem_insL.1 hz with rfl | hz
      · exact p1 y hy
      · exact h3 y (by simp [hy]) z hz
    · have hp : putL most x.1 x.2 zs = (5, zs) := by rw [putL_ok o1 o2 o3, hv, if_neg (by simp), if_pos c]
      rw [hp, if_neg (by show ¬ ((5 : Int) = 0); decide)]
section
variable {a b : Int} (ha : 0 ≤ a) (ha2 : a < 18446744073709551616) (hb : 0 ≤ b) (hb2 : b < 18446744073709551616)
include ha ha2 hb hb2
theorem arcL_apart {xs : List It} (hr : Rises xs) : (arcL a b xs).Pairwise fun x y => x.1 ≠ y.1 := by
  refine keys_apart fun k => ?_
  rw [arcL_countP ha ha2 hb hb2 (fun x => decide (x.1 = k)) xs]
  refine Nat.le_trans (List.countP_mono_left fun x _ h => ?_) (rises_count hr k)
  simp only [Bool.and_eq_true] at h
  first | exact h.1 | exact h.2
theorem back_is {xs : List It} (hr : Rises xs) (hok : ∀ x ∈ xs, okIt x) (hl : xs.length ≤ 200) : insAll 200 (arcL a b xs) (outL a b xs) = (0, xs) := by
  have hlen : (arcL a b xs).length + (outL a b xs).length ≤ xs.length := by
    rw [arcL_len2 ha ha2 hb hb2]
    unfold outL
    clear hr hok hl
    induction xs with
    | nil => simp
    | cons y ys ih =>
      cases c : inArc a b (adr y) <;> simp [List.filter_cons, c] <;> omega
  obtain ⟨us, q1, q2, q3⟩ := insAll_new (most := 200) (arcL a b xs) (outL a b xs) (fun x hx => hok x ((arcL_mem ha ha2 hb hb2).1 hx).1) (arcL_apart ha ha2 hb hb2 hr) (fun x hx z hz e => by
    obtain ⟨m1, m2⟩ := (arcL_mem ha ha2 hb hb2).1 hx
    obtain ⟨n1, n2⟩ := List.mem_filter.1 hz
    have := hr.key_inj n1 m1 e
    subst this
    rw [m2] at n2; cases n2) (hr.sub List.filter_sublist) (by omega)
  rw [q1]
  congr 1
  refine q2.ext hr fun y => ?_
  rw [q3, arcL_mem ha ha2 hb hb2]
  constructor
  · rintro (h | h)
    · exact h.1
    · exact (List.mem_filter.1 h).1
  · intro h
    cases c : inArc a b (adr y)
    · exact .inr (List.mem_filter.2 ⟨h, by simp [c]⟩)
    · exact .inl ⟨h, rfl⟩
end
end Go.Proofs.Ythknenhcnpgkcaa
