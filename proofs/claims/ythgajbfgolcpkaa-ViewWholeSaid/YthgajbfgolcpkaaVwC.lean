import Derived.Test.YthgajbfgolcpkaaVwB
/- What was told, one by one. -/
namespace Go.Proofs.Ythgajbfgolcpkaa
open Go.RowKit
set_option linter.unusedVariables false
set_option linter.unusedSimpArgs false
/-- What a view knows that was told these, one by one. -/
def told (l0 : List Pt) (zs : List Ow) : List Pt := zs.foldl (fun l o => (learnAll l o).1) l0
theorem told_snoc (l0 : List Pt) (zs : List Ow) (o : Ow) : told l0 (zs ++ [o]) = (learnAll (told l0 zs) o).1 := by simp [told]
theorem told_take {l0 : List Pt} {zs : List Ow} {k : Nat} {o : Ow} (h : zs[k]? = some o) : told l0 (zs.take (k + 1)) = (learnAll (told l0 (zs.take k)) o).1 := by
  rw [take_snoc h, told_snoc]
theorem told_good {l0 : List Pt} (h : GoodL l0) : ∀ zs : List Ow, (∀ o ∈ zs, OkA o.1 o.2.1) → GoodL (told l0 zs)
  | [], _ => h
  | o :: zs, hz => told_good (l0 := (learnAll l0 o).1) (good_learn h (hz o (by simp))).1 zs fun p hp => hz p (by simp [hp])
theorem told_len (l0 : List Pt) : ∀ zs : List Ow, (told l0 zs).length ≤ l0.length + 8 * zs.length
  | [] => by simp [told]
  | o :: zs => by
    have h1 := told_len (learnAll l0 o).1 zs
    have h2 := learnAll_len l0 o
    show (told (learnAll l0 o).1 zs).length ≤ _
    rw [List.length_cons]
    omega
theorem told_len_take {l0 : List Pt} {zs : List Ow} (k n : Nat) (h0 : l0.length ≤ 100) (hn : zs.length = n) (h : n ≤ 40) : (told l0 (zs.take k)).length ≤ 420 := by
  have := told_len l0 (zs.take k)
  rw [List.length_take] at this
  omega
/-- Who has a point. -/
theorem owner_law {l : List Pt} (h : GoodL l) {x : Int} (hx : 0 ≤ x) (hx2 : x < 18446744073709551616) :
    (0 ≤ (semF l x).1 ∧ ∃ o, ownerL x (arcsL l) = some o ∧ o.2.2 = semF l x ∧ inB o.1 o.2.1 x = true ∧ atL (arcsL l) x = [o]) ∨ ((semF l x).1 < 0 ∧ ownerL x (arcsL l) = none ∧ atL (arcsL l) x = []) := by
  obtain ⟨h1, h2⟩ := arcs_at h hx hx2
  rw [ownerL_at]
  by_cases e : l = []
  · subst e
    exact .inr ⟨by simp [semF], by rw [h1 rfl]; rfl, by rw [h1 rfl]; rfl⟩
  · have h3 := h2 e
    by_cases c : 0 ≤ (semF l x).1
    · rw [if_pos c] at h3
      obtain ⟨o, ho, hs⟩ := h3
      obtain ⟨_, _, hi, _⟩ := atL_uniq ho
      exact .inl ⟨c, o, by rw [ho]; rfl, hs, hi, ho⟩
    · rw [if_neg c] at h3
      exact .inr ⟨by omega, by rw [h3]; rfl, h3⟩
/-- What is newer counts; what is elder, or as old, changes nothing. -/
theorem newer_law {l : List Pt} (h : GoodL l) {x : Int} (hx : 0 ≤ x) (hx2 : x < 18446744073709551616) {o : Ow} (ho : OkA o.1 o.2.1) (h1 : 0 ≤ o.2.2.1) (h2 : o.2.2.1 ≤ 255) (h3 : 0 ≤ o.2.2.2) :
    (ownerL x (arcsL l) = none ∧ inB o.1 o.2.1 x = false ∧ ownerL x (arcsL (learnAll l o).1) = none) ∨
    (∃ y z : Ow, ownerL x (arcsL l) = some y ∧ (inB o.1 o.2.1 x = false ∨ (inB o.1 o.2.1 x = true ∧ o.2.2.2 ≤ y.2.2.2)) ∧ ownerL x (arcsL (learnAll l o).1) = some z ∧ z.2.2 = y.2.2) ∨
    (∃ z : Ow, inB o.1 o.2.1 x = true ∧ (ownerL x (arcsL l) = none ∨ ∃ y, ownerL x (arcsL l) = some y ∧ y.2.2.2 < o.2.2.2) ∧ ownerL x (arcsL (learnAll l o).1) = some z ∧ z.2.2 = o.2.2 ∧ (learnAll (learnAll l o).1 o).2 = false) := by
  obtain ⟨g1, _, g2, _⟩ := good_learn h ho
  have hv : valid o = true := by simp [valid]; omega
  have hs := g2 x hx hx2
  rw [hv, Bool.true_and] at hs
  have hnew : (learnAll (learnAll l o).1 o).2 = false := by
    refine (good_learn g1 ho).2.2.2 fun y hy hy2 hin => ?_
    rw [g2 y hy hy2, hv, hin]
    unfold newer kept
    by_cases c : (decide (0 ≤ (semF l y).1) && decide (o.2.2.2 ≤ (semF l y).2)) = true
    · rw [if_neg (by rw [c]; simp)]; exact c
    · rw [if_pos ⟨rfl, by simpa using c⟩]; simp [h1]
  cases hin : inB o.1 o.2.1 x with
  | false =>
    rw [hin] at hs
    have hs2 : semF (learnAll l o).1 x = semF l x := by rw [hs]; simp [newer]
    rcases owner_law h hx hx2 with ⟨c, y, hy, hys, _⟩ | ⟨c, hy, _⟩
    · rcases owner_law g1 hx hx2 with ⟨_, z, hz, hzs, _⟩ | ⟨d, _, _⟩
      · exact .inr (.inl ⟨y, z, hy, .inl rfl, hz, by rw [hzs, hs2, hys]⟩)
      · rw [hs2] at d; omega
    · rcases owner_law g1 hx hx2 with ⟨d, _⟩ | ⟨_, hz, _⟩
      · rw [hs2] at d; omega
      · exact .inl ⟨hy, rfl, hz⟩
  | true =>
    rw [hin] at hs
    rcases owner_law h hx hx2 with ⟨c, y, hy, hys, _⟩ | ⟨c, hy, _⟩
    · by_cases d : o.2.2.2 ≤ y.2.2.2
      · have hk : kept o.2.2.2 (semF l x) = true := by rw [← hys]; simp [kept, d]; rw [hys]; exact c
        have hs2 : semF (learnAll l o).1 x = semF l x := by rw [hs]; simp [newer, hk]
        rcases owner_law g1 hx hx2 with ⟨_, z, hz, hzs, _⟩ | ⟨e, _, _⟩
        · exact .inr (.inl ⟨y, z, hy, .inr ⟨rfl, d⟩, hz, by rw [hzs, hs2, hys]⟩)
        · rw [hs2] at e; omega
      · have hk : kept o.2.2.2 (semF l x) = false := by rw [← hys]; simp [kept]; intro _; omega
        have hs2 : semF (learnAll l o).1 x = o.2.2 := by rw [hs]; simp [newer, hk]
        rcases owner_law g1 hx hx2 with ⟨_, z, hz, hzs, _⟩ | ⟨e, _, _⟩
        · exact .inr (.inr ⟨z, rfl, .inr ⟨y, hy, by omega⟩, hz, by rw [hzs, hs2], hnew⟩)
        · rw [hs2] at e; omega
    · have hk : kept o.2.2.2 (semF l x) = false := by simp [kept]; intro _; omega
      have hs2 : semF (learnAll l o).1 x = o.2.2 := by rw [hs]; simp [newer, hk]
      rcases owner_law g1 hx hx2 with ⟨_, z, hz, hzs, _⟩ | ⟨e, _, _⟩
      · exact .inr (.inr ⟨z, rfl, .inl hy, hz, by rw [hzs, hs2], hnew⟩)
      · rw [hs2] at e; omega
/-- Where nothing is known at some point the ring is not whole. -/
theorem ring_not {l : List Pt} (h : GoodL l) {x : Int} (hx : 0 ≤ x) (hs : (semF l x).1 < 0) : ringB l = false := by
  unfold ringB
  by_cases e : l = []
  · subst e; rfl
  · obtain ⟨p, hp, _, _, h2, _⟩ := h.at_ e hx
    have : gapL l = true := by
      unfold gapL
      rw [List.any_eq_true]
      exact ⟨p, hp, by rw [h2] at hs; simpa using hs⟩
    rw [this]; simp
end Go.Proofs.Ythgajbfgolcpkaa
