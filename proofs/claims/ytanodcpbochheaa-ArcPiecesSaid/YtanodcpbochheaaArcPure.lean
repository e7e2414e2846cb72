import Derived.Test.YtanodcpbochheaaArc3
import Derived.Test.YtanodcpbochheaaFrame
/- Arcs: plain laws of the tests, in numbers. -/
namespace Go.Proofs.Ytanodcpbochheaa
open Go.RowKit
theorem w64 (n : Int) : IntKind.u64.wrap n = n % 18446744073709551616 := by
  simp [IntKind.wrap, IntKind.bits, IntKind.signed]
theorem inB_iff (a b x : Int) : inB a b x = true ↔ a = b ∨ (x - a) % 18446744073709551616 < (b - a) % 18446744073709551616 := by
  simp [inB, w64]
theorem inB_false (a b x : Int) : inB a b x = false ↔ ¬ (a = b ∨ (x - a) % 18446744073709551616 < (b - a) % 18446744073709551616) := by
  rw [← inB_iff]; simp
theorem withinB_iff (a b c d : Int) : withinB a b c d = true ↔ a = b ∨ (¬ c = d ∧ (c - a) % 18446744073709551616 < (b - a) % 18446744073709551616 ∧ (d - c) % 18446744073709551616 ≤ ((b - a) % 18446744073709551616 - (c - a) % 18446744073709551616) % 18446744073709551616) := by
  simp [withinB, w64, and_assoc]
theorem apartB_iff (a b c d : Int) : apartB a b c d = true ↔ ¬ inB a b c = true ∧ ¬ inB c d a = true := by
  simp [apartB]
variable {a b c d x : Int}
theorem within_in (ha : U64 a) (hb : U64 b) (hc : U64 c) (hd : U64 d) (hx : U64 x) (h : withinB a b c d = true) (h2 : inB c d x = true) : inB a b x = true := by
  rw [withinB_iff] at h; rw [inB_iff] at *
  have := ha.bd; have := hb.bd; have := hc.bd; have := hd.bd; have := hx.bd
  omega
theorem apart_in (ha : U64 a) (hb : U64 b) (hc : U64 c) (hd : U64 d) (hx : U64 x) (h : apartB a b c d = true) (h1 : inB a b x = true) (h2 : inB c d x = true) : False := by
  rw [apartB_iff] at h; simp only [inB_iff] at *
  have := ha.bd; have := hb.bd; have := hc.bd; have := hd.bd; have := hx.bd
  omega
theorem within_self (ha : U64 a) (hb : U64 b) : withinB a b a b = true := by
  rw [withinB_iff]; have := ha.bd; have := hb.bd; omega
theorem apart_self (ha : U64 a) (hb : U64 b) : apartB a b a b = false := by
  rw [Bool.eq_false_iff]; intro h; rw [apartB_iff, inB_iff] at h; have := ha.bd; have := hb.bd; omega
theorem apart_comm (a b c d : Int) : apartB a b c d = apartB c d a b := by unfold apartB; rw [Bool.and_comm]
theorem whole_within (c d : Int) : withinB 0 0 c d = true := by simp [withinB]
theorem apart_within (ha : U64 a) (hb : U64 b) (hc : U64 c) (hd : U64 d) (h : apartB a b c d = true) (h1 : withinB a b c d = true) : False := by
  rw [apartB_iff] at h; rw [withinB_iff] at h1; simp only [inB_iff] at *
  have := ha.bd; have := hb.bd; have := hc.bd; have := hd.bd
  omega
end Go.Proofs.Ytanodcpbochheaa
