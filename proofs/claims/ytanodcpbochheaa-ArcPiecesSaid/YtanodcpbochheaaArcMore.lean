import Derived.Test.YtanodcpbochheaaArcPure
/- Arcs: more plain laws, in numbers. -/
namespace Go.Proofs.Ytanodcpbochheaa
open Go.RowKit
set_option linter.unusedSimpArgs false
variable {a b c d x y p : Int}
theorem in_first (a b : Int) (ha : U64 a) (hb : U64 b) : inB a b a = true := by
  rw [inB_iff]; have := ha.bd; have := hb.bd; omega
theorem in_end (ha : U64 a) (hb : U64 b) (h : (a == b) = false) : inB a b b = false := by
  rw [inB_false]; have := ha.bd; have := hb.bd; have h : a ≠ b := by simpa using h
  omega
theorem in_last (ha : U64 a) (hb : U64 b) (h : (a == b) = false) : inB a b (IntKind.u64.wrap (b - 1)) = true := by
  rw [inB_iff, w64]; have := ha.bd; have := hb.bd; have h : a ≠ b := by simpa using h
  omega
theorem in_whole (x : Int) (h : (a == b) = true) : inB a b x = true := by simp [inB, h]
theorem in_rest (ha : U64 a) (hb : U64 b) (hx : U64 x) (h : (a == b) = false) : inB b a x = !inB a b x := by
  have := ha.bd; have := hb.bd; have := hx.bd; have h : a ≠ b := by simpa using h
  cases h1 : inB a b x
  · rw [Bool.not_false, inB_iff]; rw [inB_false] at h1; omega
  · rw [Bool.not_true, inB_false]; rw [inB_iff] at h1; omega
theorem apart_rest (ha : U64 a) (hb : U64 b) (h : (a == b) = false) : apartB a b b a = true := by
  rw [apartB_iff, in_end ha hb h]
  have h' : (b == a) = false := by rw [beq_eq_false_iff_ne] at h ⊢; exact fun e => h e.symm
  rw [in_end hb ha h']; simp
theorem size_rest (ha : U64 a) (hb : U64 b) : IntKind.u64.wrap (IntKind.u64.wrap (b - a) + IntKind.u64.wrap (a - b)) = 0 := by
  simp only [w64]; have := ha.bd; have := hb.bd; omega
theorem joinB_iff (a b c d : Int) : joinB a b c d = true ↔ b = c ∧ a ≠ b ∧ c ≠ d ∧ apartB a b c d = true := by
  simp [joinB, bne, and_assoc]
theorem join_in (ha : U64 a) (hb : U64 b) (hd : U64 d) (hx : U64 x) (h : joinB a b b d = true) : inB a d x = (inB a b x || inB b d x) := by
  rw [joinB_iff, apartB_iff] at h
  simp only [inB_iff] at h
  have := ha.bd; have := hb.bd; have := hd.bd; have := hx.bd
  rw [Bool.eq_iff_iff]; simp only [Bool.or_eq_true, inB_iff]
  omega
theorem join_size (ha : U64 a) (hb : U64 b) (hd : U64 d) : IntKind.u64.wrap (IntKind.u64.wrap (b - a) + IntKind.u64.wrap (d - b)) = IntKind.u64.wrap (d - a) := by
  simp only [w64]; have := ha.bd; have := hb.bd; have := hd.bd; omega
theorem u64_wrap (n : Int) : U64 (IntKind.u64.wrap n) := by
  rw [w64]; unfold U64; simp [Lit.wf, IntKind.min, IntKind.max, IntKind.signed, IntKind.bits]; omega
theorem in_turn (ha : U64 a) (hb : U64 b) (hx : U64 x) (y : Int) : inB (IntKind.u64.wrap (a + y)) (IntKind.u64.wrap (b + y)) (IntKind.u64.wrap (x + y)) = inB a b x := by
  have := ha.bd; have := hb.bd; have := hx.bd
  rw [Bool.eq_iff_iff]; simp only [inB_iff, w64]; omega
theorem eq_turn (ha : U64 a) (hb : U64 b) (y : Int) : (IntKind.u64.wrap (a + y) == IntKind.u64.wrap (b + y)) = (a == b) := by
  have := ha.bd; have := hb.bd
  rw [Bool.eq_iff_iff]; simp only [beq_iff_eq, w64]; omega
theorem size_turn (a b y : Int) : IntKind.u64.wrap (IntKind.u64.wrap (b + y) - IntKind.u64.wrap (a + y)) = IntKind.u64.wrap (b - a) := by
  simp only [w64]; omega
theorem within_turn (ha : U64 a) (hb : U64 b) (hc : U64 c) (hd : U64 d) (y : Int) :
    withinB (IntKind.u64.wrap (a + y)) (IntKind.u64.wrap (b + y)) (IntKind.u64.wrap (c + y)) (IntKind.u64.wrap (d + y)) = withinB a b c d := by
  unfold withinB; rw [eq_turn ha hb, eq_turn hc hd, size_turn a c, size_turn a b, size_turn c d]
theorem apart_turn (ha : U64 a) (hb : U64 b) (hc : U64 c) (hd : U64 d) (y : Int) :
    apartB (IntKind.u64.wrap (a + y)) (IntKind.u64.wrap (b + y)) (IntKind.u64.wrap (c + y)) (IntKind.u64.wrap (d + y)) = apartB a b c d := by
  unfold apartB; rw [in_turn ha hb hc, in_turn hc hd ha]
theorem splitB_iff (a b x : Int) : splitB a b x = true ↔ x ≠ a ∧ inB a b x = true := by simp [splitB]
theorem split_part (ha : U64 a) (hb : U64 b) (hx : U64 x) (h : splitB a b x = true) : withinB a b a x = true ∧ withinB a b x b = true ∧ apartB a x x b = true ∧ joinB a x x b = true := by
  rw [splitB_iff, inB_iff] at h
  have := ha.bd; have := hb.bd; have := hx.bd
  have h3 : apartB a x x b = true := by rw [apartB_iff]; simp only [inB_iff]; omega
  refine ⟨?_, ?_, h3, ?_⟩
  · rw [withinB_iff]; omega
  · rw [withinB_iff]; omega
  · rw [joinB_iff]; refine ⟨rfl, fun e => h.1 e.symm, ?_, h3⟩; omega
theorem split_in (ha : U64 a) (hb : U64 b) (hx : U64 x) (hy : U64 y) (h : splitB a b x = true) : (inB a x y || inB x b y) = inB a b y ∧ (inB a x y && inB x b y) = false := by
  rw [splitB_iff, inB_iff] at h
  have := ha.bd; have := hb.bd; have := hx.bd; have := hy.bd
  constructor
  · rw [Bool.eq_iff_iff]; simp only [Bool.or_eq_true, inB_iff]; omega
  · rw [Bool.eq_false_iff]; simp only [ne_eq, Bool.and_eq_true, inB_iff]; omega
theorem split_size (ha : U64 a) (hb : U64 b) (hx : U64 x) : IntKind.u64.wrap (IntKind.u64.wrap (x - a) + IntKind.u64.wrap (b - x)) = IntKind.u64.wrap (b - a) := by
  simp only [w64]; have := ha.bd; have := hb.bd; have := hx.bd; omega
theorem split3 (ha : U64 a) (hb : U64 b) (hx : U64 x) (hy : U64 y) (h : splitB a b x = true) (h' : splitB x b y = true) :
    withinB a b a x = true ∧ withinB a b x y = true ∧ withinB a b y b = true ∧ apartB a x x y = true ∧ apartB x y y b = true ∧ apartB a x y b = true := by
  have h1 := split_part ha hb hx h
  have h2 := split_part hx hb hy h'
  rw [splitB_iff, inB_iff] at h h'
  have := ha.bd; have := hb.bd; have := hx.bd; have := hy.bd
  refine ⟨h1.1, ?_, ?_, ?_, h2.2.2.1, ?_⟩
  · rw [withinB_iff]; omega
  · rw [withinB_iff]; omega
  · rw [apartB_iff]; simp only [inB_iff]; omega
  · rw [apartB_iff]; simp only [inB_iff]; omega
theorem split3_in (ha : U64 a) (hb : U64 b) (hx : U64 x) (hy : U64 y) (hp : U64 p) (h : splitB a b x = true) (h' : splitB x b y = true) :
    inB a b p = (inB a x p || inB x y p || inB y b p) ∧ (inB a x p && inB x y p) = false ∧ (inB a x p && inB y b p) = false ∧ (inB x y p && inB y b p) = false := by
  have h1 := split_in ha hb hx hp h
  have h2 := split_in hx hb hy hp h'
  revert h1 h2
  cases inB a b p <;> cases inB a x p <;> cases inB x b p <;> cases inB x y p <;> cases inB y b p <;> simp
theorem refwithin_eq (ha : U64 a) (hb : U64 b) (hc : U64 c) (hd : U64 d) :
    (a == b || (!(c == d) && inB a b c && decide (IntKind.u64.wrap (d - c) ≤ IntKind.u64.wrap (b - c)))) = withinB a b c d := by
  rw [Bool.eq_iff_iff, withinB_iff]
  simp only [Bool.or_eq_true, Bool.and_eq_true, beq_iff_eq, Bool.not_eq_true', inB_iff, decide_eq_true_eq, w64, beq_eq_false_iff_ne]
  have := ha.bd; have := hb.bd; have := hc.bd; have := hd.bd
  omega
end Go.Proofs.Ytanodcpbochheaa
