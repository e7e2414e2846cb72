import Derived.Test.YthknenhcnpgkcaaShA
/- Two shelves at once. -/
namespace Go.Proofs.Ythknenhcnpgkcaa
open Go.RowKit
set_option linter.unusedVariables false
set_option linter.unusedSimpArgs false
/-- Blocks ga, gb are shelves that hold xs, ys and share nothing; all that has changed since w0 lies behind B. -/
def Two (B : Nat) (w0 : World) (most : Int) (xs ys : List It) (ga gb : Nat) (W : World) : Prop :=
  Below B w0 W ∧ ∃ ca ta cb tb, Shf most xs W ga ca ta ∧ Shf most ys W gb cb tb ∧ (∀ k, ca k + cb k ≤ 1) ∧ ∀ k, ca k + cb k ≠ 0 → B ≤ k
theorem Two.swap {B : Nat} {w0 : World} {most : Int} {xs ys : List It} {ga gb : Nat} {W : World} (h : Two B w0 most xs ys ga gb W) : Two B w0 most ys xs gb ga W := by
  obtain ⟨h1, ca, ta, cb, tb, ha, hb, hd, hg⟩ := h
  exact ⟨h1, cb, tb, ca, ta, hb, ha, fun k => by have := hd k; omega, fun k hk => hg k (by omega)⟩
theorem Two.left {B : Nat} {w0 : World} {most : Int} {xs ys : List It} {ga gb : Nat} {W : World} (h : Two B w0 most xs ys ga gb W) : Sh B w0 most xs ga W := by
  obtain ⟨h1, ca, ta, cb, tb, ha, hb, hd, hg⟩ := h
  exact ⟨h1, ca, ta, ha, fun k hk => hg k (by omega)⟩
theorem Two.on {B : Nat} {w0 : World} {most : Int} {xs ys : List It} {ga gb : Nat} {W W' : World} (h : Two B w0 most xs ys ga gb W) (hb' : Below W.heap.size W W') : Two B w0 most xs ys ga gb W' := by
  have hB := h.left.ge
  obtain ⟨h1, ca, ta, cb, tb, ha, hb, hd, hg⟩ := h
  exact ⟨h1.trans (hb'.mono hB), ca, ta, cb, tb, ha.on hb', hb.on hb', hd, hg⟩
theorem two_new {B : Nat} {w0 : World} {m : Int} {xs : List It} {ga : Nat} {W : World} (h : Sh B w0 m xs ga W) (most : Int) (hm : min (max most 0) 200 = m) :
    Calls Try.prog 25 #[.int .i64 most] W fun e W' => e = .returned (.pointer (some ⟨W.heap.size, 0, none⟩)) ∧ Two B w0 m xs [] ga W.heap.size W' := by
  have hB := h.ge
  obtain ⟨h1, c, top, h2, h3⟩ := h
  refine (new_is W most m hm).mono ?_
  rintro _ _ ⟨rfl, rfl⟩
  have hb : Below W.heap.size W (W.alloc (shfObj m 0 (.pointer none))) := (Below.refl _ _).alloc (Nat.le_refl _) _
  refine ⟨rfl, h1.trans (hb.mono hB), c, top, _, _, h2.on hb, shf_new m (heap_alloc_at _ _ _ rfl), fun k => ?_, fun k hk => ?_⟩
  · by_cases e : one W.heap.size k = 0
    · have := h2.le k; omega
    · have hk := one_ne e
      have h0 : c k = 0 := by
        rcases Nat.eq_zero_or_pos (c k) with z | z
        · exact z
        · have := h2.lt k (by omega); omega
      have := one_le W.heap.size k
      omega
  · by_cases e : c k = 0
    · have hk' := one_ne (show one W.heap.size k ≠ 0 by omega); omega
    · exact h3 k e
theorem two_put {B : Nat} {w0 : World} {most : Int} {xs ys : List It} {ga gb : Nat} {W : World} (h : Two B w0 most xs ys ga gb W) (hn : xs.length ≤ 1000) (k v : ByteArray) (r : Int) (xs' : List It) (he : putL most k v xs = (r, xs')) :
    Calls Try.prog 26 #[.pointer (some ⟨ga, 0, none⟩), .string k, .string v] W fun e W' => e = .returned (.int .i64 r) ∧ Two B w0 most xs' ys ga gb W' := by
  have hB := h.left.ge
  obtain ⟨h1, ca, ta, cb, tb, ha, hb, hd, hg⟩ := h
  refine (put_shf ha k v hn).mono ?_
  rintro _ W' ⟨c', t', rfl, h4, h5⟩
  rw [he] at h4 ⊢
  refine ⟨rfl, h1.trans (h5.chg.below hB fun k hk => hg k (by omega)), c', t', cb, tb, h4, hb.keep fun k hk => h5.chg.block k (hb.lt k hk) (fun e => by have := hd k; omega), fun k => ?_, fun k hk => ?_⟩
  · rcases Nat.lt_or_ge k W.heap.size with e | e
    · have := h5.old k e; have := hd k; omega
    · have h0 : cb k = 0 := by
        rcases Nat.eq_zero_or_pos (cb k) with z | z
        · exact z
        · have := hb.lt k (by omega); omega
      have := h5.le k
      omega
  · rcases Nat.lt_or_ge k W.heap.size with e | e
    · have := h5.old k e; exact hg k (by omega)
    · omega
end Go.Proofs.Ythknenhcnpgkcaa
