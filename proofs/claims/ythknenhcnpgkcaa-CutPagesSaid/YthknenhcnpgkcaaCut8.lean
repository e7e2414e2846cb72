/- Package cut: In. -/
import Derived.Test.YthknenhcnpgkcaaCut7
import Derived.Test.YthknenhcnpgkcaaMc
namespace Go.Proofs.Ythknenhcnpgkcaa
open Go.RowKit Go.Shelf
set_option linter.unusedVariables false
set_option linter.unusedSimpArgs false
/-- As Held, for so many items. -/
def HeldM (most : Int) (w X : World) (F : Nat → Prop) (ys : List It) (gs : Nat) : Prop := Below w.heap.size w X ∧ w.heap.size ≤ X.heap.size ∧ ys.length ≤ 200 ∧ ∃ c top, Shf most ys X gs c top ∧ (∀ k, F k → c k = 0 ∧ k < X.heap.size) ∧ ∀ k, c k ≠ 0 → w.heap.size ≤ k
theorem HeldM.on {most : Int} {w X Y : World} {F : Nat → Prop} {ys : List It} {gs : Nat} (h : HeldM most w X F ys gs) (hb : Below X.heap.size X Y) : HeldM most w Y F ys gs := by
  obtain ⟨h1, h2, h3, c, top, h4, h5, h6⟩ := h
  exact ⟨h1.trans (hb.mono h2), Nat.le_trans h2 hb.size, h3, c, top, h4.on hb, fun k hk => ⟨(h5 k hk).1, Nat.lt_of_lt_of_le (h5 k hk).2 hb.size⟩, h6⟩
theorem HeldM.lt {most : Int} {w X : World} {F : Nat → Prop} {ys : List It} {gs : Nat} (h : HeldM most w X F ys gs) : ∀ k, F k → k < X.heap.size := by
  obtain ⟨h1, h2, h3, c, top, h4, h5, h6⟩ := h
  exact fun k hk => (h5 k hk).2
theorem HeldM.sh {most : Int} {w X : World} {F : Nat → Prop} {ys : List It} {gs : Nat} (h : HeldM most w X F ys gs) : Sh w.heap.size w most ys gs X := by
  obtain ⟨h1, h2, h3, c, top, h4, h5, h6⟩ := h
  exact ⟨h1, c, top, h4, h6⟩
theorem heldM_put {most : Int} (hm : most ≤ 200) {w X : World} {F : Nat → Prop} {ys : List It} {gs : Nat} (h : HeldM most w X F ys gs) (k v : ByteArray) (r : Int) (zs : List It) (he : putL most k v ys = (r, zs)) :
    Calls Try.prog 26 #[.pointer (some ⟨gs, 0, none⟩), .string k, .string v] X fun e Y => e = .returned (.int .i64 r) ∧ HeldM most w Y F zs gs ∧ ∀ k, F k → Y.heap[k]? = X.heap[k]? := by
  obtain ⟨h1, h2, h3, c, top, h4, h5, h6⟩ := h
  refine (put_shf h4 k v (by omega)).mono ?_
  rintro _ Y ⟨c', top', rfl, q1, q2⟩
  have hl := putL_le (most := most) (k := k) (v := v) hm h3
  rw [he] at q1 hl ⊢
  refine ⟨rfl, ⟨h1.trans (q2.chg.below h2 h6), Nat.le_trans h2 q2.chg.size, hl, c', top', q1, fun k hk => ⟨?_, Nat.lt_of_lt_of_le (h5 k hk).2 q2.chg.size⟩, fun k hk => ?_⟩, fun k hk => q2.chg.block k (h5 k hk).2 (by rw [(h5 k hk).1]; simp)⟩
  · have := q2.old k (h5 k hk).2; have := (h5 k hk).1; omega
  · rcases Nat.lt_or_ge k X.heap.size with e | e
    · exact h6 k (by have := q2.old k e; omega)
    · omega
/-- Items put in one after the other, till one may not be. -/
def insAll (most : Int) : List It → List It → Int × List It
  | [], ys => (0, ys)
  | it :: r, ys => if (putL most it.1 it.2 ys).1 = 0 then insAll most r (putL most it.1 it.2 ys).2 else ((putL most it.1 it.2 ys).1, ys)
theorem insAll_snoc {most : Int} {x : It} : ∀ {l ys zs : List It}, insAll most l ys = (0, zs) → ∀ r, insAll most (l ++ x :: r) ys = if (putL most x.1 x.2 zs).1 = 0 then insAll most r (putL most x.1 x.2 zs).2 else ((putL most x.1 x.2 zs).1, zs)
  | [], ys, zs, h, r => by
    obtain rfl : ys = zs := by injection h
    rfl
  | it :: l, ys, zs, h, r => by
    rw [insAll] at h
    show insAll most (it :: (l ++ x :: r)) ys = _
    rw [insAll]
    by_cases c : (putL most it.1 it.2 ys).1 = 0
    · rw [if_pos c] at h ⊢
      exact insAll_snoc h r
    · rw [if_neg c] at h
      injection h with h _
      exact absurd h c
theorem take_split {l : List It} {i : Nat} {x : It} (h : l[i]? = some x) : l = l.take i ++ x :: l.drop (i + 1) := by
  obtain ⟨hl, rfl⟩ := List.getElem?_eq_some_iff.1 h
  conv => lhs; rw [← List.take_append_drop i l, List.drop_eq_getElem_cons hl]
theorem insAll_step {most : Int} {its ys zs : List It} {i : Nat} {x : It} (hx : its[i]? = some x) (h : insAll most (its.take i) ys = (0, zs)) : ((putL most x.1 x.2 zs).1 = 0 → insAll most (its.take (i + 1)) ys = (0, (putL most x.1 x.2 zs).2)) ∧ ((putL most x.1 x.2 zs).1 ≠ 0 → (insAll most its ys).1 = (putL most x.1 x.2 zs).1) := by
  constructor
  · intro c
    rw [take_snoc' hx, insAll_snoc h [], if_pos c]
    rfl
  · intro c
    conv => lhs; rw [take_split hx]
    rw [insAll_snoc h, if_neg c]
theorem insAll_pre {most : Int} : ∀ {its ys zs : List It} (i : Nat), insAll most its ys = (0, zs) → ∃ us, insAll most (its.take i) ys = (0, us)
  | its, ys, zs, 0, h => ⟨ys, by simp [insAll]⟩
  | [], ys, zs, i + 1, h => ⟨ys, by simp [insAll]⟩
  | it :: its, ys, zs, i + 1, h => by
    rw [insAll] at h
    by_cases c : (putL most it.1 it.2 ys).1 = 0
    · rw [if_pos c] at h
      obtain ⟨us, hus⟩ := insAll_pre i h
      refine ⟨us, ?_⟩
      rw [List.take_succ_cons, insAll, if_pos c]
      exact hus
    · rw [if_neg c] at h
      injection h with h _
      exact absurd h c
/-- What In does: all, or none. -/
def inL (most : Int) (its ys : List It) : List It := if (insAll most its ys).1 = 0 then (insAll most its ys).2 else ys
set_option maxRecDepth 100000 in
set_option maxHeartbeats 4000000 in
theorem cutIn_is {most : Int} (hmost : most ≤ 200) {w W : World} {F : Nat → Prop} {ys : List It} {gs : Nat} (hH : HeldM most w W F ys gs) (sl : Value) (its : List It) (n : Nat) (hl : its.length = n) (hn : n ≤ 400)
    (hread : ∀ Y : World, (∀ k, F k → Y.heap[k]? = W.heap[k]?) → Src Y 2 sl n (flat its)) (r : Int) (hr : (insAll most its ys).1 = r) :
    Calls Try.prog 66 #[.pointer (some ⟨gs, 0, none⟩), sl] W fun e W' => e = .returned (.int .i64 r) ∧ HeldM most w W' F (inL most its ys) gs ∧ ∀ k, F k → W'.heap[k]? = W.heap[k]? := by
  obtain ⟨ao, cap, rfl⟩ := (hread W fun _ _ => rfl).slice_of
  have HRD := hid hread
  have HL := hid hl
  have HH := hid hH
  have HR := hid hr
  obtain ⟨h1, h2, h3, c, top, h4, h5, h6⟩ := hH
  have HS := hid (And.intro h1 (And.intro h2 (And.intro h3 (And.intro h4 (And.intro h5 h6)))))
  have HCP := hid (copy_shf h4)
  have hgl := lt_of_heap h4.heap
  clear h1 h2 h3 h4 h5 h6 hl hread hr
  go_enter Try.func66, Try.ntmps66
  go_wp2_with fail
  refine HCP.out.mono ?_
  rintro _ W1 ⟨gx, cx, tx, rfl, k1, k2, k3⟩
  have HX := hid (show HeldM most w W1 (fun k => F k ∨ c k ≠ 0) ys gx from by
    obtain ⟨h1, h2, h3, h4, h5, h6⟩ := HS.out
    refine ⟨h1.trans (k3.mono h2), Nat.le_trans h2 k3.size, h3, cx, tx, k1, fun k hk => ?_, fun k hk => ?_⟩
    · have hkl : k < W.heap.size := by
        rcases hk with hk | hk
        · exact (h5 k hk).2
        · exact h4.lt k hk
      exact ⟨k2 k hkl, Nat.lt_of_lt_of_le hkl k3.size⟩
    · rcases Nat.lt_or_ge k W.heap.size with e | e
      · exact absurd (k2 k e) hk
      · omega)
  have HB1 := hid (show ∀ k, (F k ∨ c k ≠ 0) → W1.heap[k]? = W.heap[k]? from fun k hk => k3.block k (by
    obtain ⟨h1, h2, h3, h4, h5, h6⟩ := HS.out
    rcases hk with hk | hk
    · exact (h5 k hk).2
    · exact h4.lt k hk))
  clear k1 k2 k3 HCP
  go_wp2_with fail
  go_loopw [17] (fun x wr => ∃ i : Nat, i ≤ n ∧ x = .int .i64 i ∧ ∃ zs, Hid (insAll most (its.take i) ys = (0, zs) ∧ HeldM most w wr (fun k => F k ∨ c k ≠ 0) zs gx ∧ ∀ k, (F k ∨ c k ≠ 0) → wr.heap[k]? = W.heap[k]?)) (fun x _ => n - (intOf x).toNat)
  case atStart => exact ⟨0, Nat.zero_le _, rfl, ys, hid ⟨by simp [insAll], HX.out, HB1.out⟩⟩
  case round =>
    clear HX HB1
    obtain ⟨i, hi, rfl, zs, HZ⟩ := hrel
    by_cases hlt : i < n
    · obtain ⟨x, hx⟩ : ∃ x, its[i]? = some x := ⟨_, List.getElem?_eq_getElem (by rw [HL.out]; exact hlt)⟩
      obtain ⟨rb, ro, rfl, c1, c2, c3⟩ := (show Src wr 2 (.slice ao its.length cap) its.length (flat its) by rw [HL.out]; exact HRD.out wr fun k hk => HZ.out.2.2 k (.inl hk)).at_ i x hx
      have lr : rb < wr.heap.size := World.block_lt_of_cell? _ _ c1
      obtain ⟨e, us, hp⟩ : ∃ e us, putL most x.1 x.2 zs = (e, us) := ⟨_, _, rfl⟩
      have hst := insAll_step hx HZ.out.1
      rw [hp] at hst
      have HP := hid hp
      have HST := hid hst
      clear hx hp hst
      obtain ⟨s1, t1⟩ := x
      simp only at c1 c2 c3 HP
      go_wp2_with fail
      have hbl : Below wr.heap.size wr (wr.alloc (.cells #[.string s1, .string t1] 34)) := (by repeat' (first | exact Below.refl _ _ | with_reducible assumption | omega | with_reducible refine below_put_fut ?_ ?_ _ | with_reducible refine below_to_put ?_ | with_reducible refine Below.alloc ?_ ?_ _ | with_reducible refine Below.fut ?_ ?_ _ | with_reducible refine Below.drew ?_ | with_reducible refine Below.setCell ?_ ?_ _ | with_reducible refine Below.atPut ?_ ?_ _ | (simp [go_sem]; done) | (simp [go_sem]; omega)))
      have HZ1 := hid (And.intro (HZ.out.2.1.on hbl) (fun k (hk : F k ∨ c k ≠ 0) => (hbl.block k (HZ.out.2.1.lt k hk)).trans (HZ.out.2.2 k hk)))
      clear hbl
      refine (heldM_put hmost HZ1.out.1 s1 t1 e us HP.out).mono ?_
      rintro _ W3 ⟨rfl, p3, p4⟩
      have HZ3 := hid (And.intro p3 (fun k (hk : F k ∨ c k ≠ 0) => (p4 k hk).trans (HZ1.out.2 k hk)))
      clear p3 p4
      by_cases ce : e = 0
      · subst ce
        go_wp2_with fail
        go_roundw
        case rel => exact ⟨i + 1, by omega, by go_num, us, hid ⟨HST.out.1 (by simp), HZ3.out⟩⟩
        case measure => simp [intOf]; omega
      · have hce : (e == 0) = false := by simp [ce]
        have hre : r = e := by rw [← HR.out]; exact HST.out.2 ce
        subst hre
        go_wp2_with fail
        go_ret
        refine ⟨rfl, ?_, fun k hk => HZ3.out.2 k (.inl hk)⟩
        unfold inL
        rw [HR.out, if_neg ce]
        obtain ⟨h1, h2, h3, h4, h5, h6⟩ := HS.out
        obtain ⟨g1, g2, _, _, _, _, g5, _⟩ := HZ3.out.1
        exact ⟨g1, g2, h3, c, top, h4.keep fun k hk => HZ3.out.2 k (.inr hk), fun k hk => ⟨(h5 k hk).1, (g5 k (.inl hk)).2⟩, h6⟩
    · obtain rfl : n = i := by omega
      have hz := HZ.out.1
      rw [List.take_of_length_le (by rw [HL.out]; exact Nat.le_refl _)] at hz
      have hr0 : r = 0 := by rw [← HR.out, hz]
      subst hr0
      have HFULL := hid hz
      have HS2 := hid (show HeldM most w wr F ys gs from by
        obtain ⟨h1, h2, h3, h4, h5, h6⟩ := HS.out
        obtain ⟨g1, g2, _, _, _, _, g5, _⟩ := HZ.out.2.1
        exact ⟨g1, g2, h3, c, top, h4.keep fun k hk => HZ.out.2.2 k (.inr hk), fun k hk => ⟨(h5 k hk).1, (g5 k (.inl hk)).2⟩, h6⟩)
      have HB2 := hid (show ∀ k, F k → wr.heap[k]? = W.heap[k]? from fun k hk => HZ.out.2.2 k (.inl hk))
      clear hz hlt hi HZ
      go_wp2_with fail
      go_loopw [33] (fun x wr => ∃ i : Nat, i ≤ n ∧ x = .int .i64 i ∧ ∃ zs, Hid (insAll most (its.take i) ys = (0, zs) ∧ HeldM most w wr F zs gs ∧ ∀ k, F k → wr.heap[k]? = W.heap[k]?)) (fun x _ => n - (intOf x).toNat)
      case atStart => exact ⟨0, Nat.zero_le _, rfl, ys, hid ⟨by simp [insAll], HS2.out, HB2.out⟩⟩
      case round =>
        clear HS2 HB2
        obtain ⟨i, hi, rfl, us, HZ⟩ := hrel
        by_cases hlt : i < n
        · obtain ⟨x, hx⟩ : ∃ x, its[i]? = some x := ⟨_, List.getElem?_eq_getElem (by rw [HL.out]; exact hlt)⟩
          obtain ⟨rb, ro, rfl, c1, c2, c3⟩ := (show Src wr 2 (.slice ao its.length cap) its.length (flat its) by rw [HL.out]; exact HRD.out wr fun k hk => HZ.out.2.2 k hk).at_ i x hx
          have lr : rb < wr.heap.size := World.block_lt_of_cell? _ _ c1
          obtain ⟨e, vs, hp⟩ : ∃ e vs, putL most x.1 x.2 us = (e, vs) := ⟨_, _, rfl⟩
          have hst := insAll_step hx HZ.out.1
          rw [hp] at hst
          have he0 : e = 0 := by
            by_cases ce : e = 0
            · exact ce
            · have := hst.2 ce; rw [HFULL.out] at this; exact absurd this.symm ce
          have HP := hid hp
          have HST := hid hst
          clear hx hp hst
          obtain ⟨s1, t1⟩ := x
          simp only at c1 c2 c3 HP
          go_wp2_with fail
          have hbl : Below wr.heap.size wr (wr.alloc (.cells #[.string s1, .string t1] 34)) := (by repeat' (first | exact Below.refl _ _ | with_reducible assumption | omega | with_reducible refine below_put_fut ?_ ?_ _ | with_reducible refine below_to_put ?_ | with_reducible refine Below.alloc ?_ ?_ _ | with_reducible refine Below.fut ?_ ?_ _ | with_reducible refine Below.drew ?_ | with_reducible refine Below.setCell ?_ ?_ _ | with_reducible refine Below.atPut ?_ ?_ _ | (simp [go_sem]; done) | (simp [go_sem]; omega)))
          have HZ1 := hid (And.intro (HZ.out.2.1.on hbl) (fun k (hk : F k) => (hbl.block k (HZ.out.2.1.lt k hk)).trans (HZ.out.2.2 k hk)))
          clear hbl
          refine (heldM_put hmost HZ1.out.1 s1 t1 e vs HP.out).mono ?_
          rintro _ W3 ⟨rfl, p3, p4⟩
          have HZ3 := hid (And.intro p3 (fun k (hk : F k) => (p4 k hk).trans (HZ1.out.2 k hk)))
          clear p3 p4
          go_wp2_with fail
          go_roundw
          case rel => exact ⟨i + 1, by omega, by go_num, vs, hid ⟨HST.out.1 he0, HZ3.out⟩⟩
          case measure => simp [intOf]; omega
        · obtain rfl : i = n := by omega
          have hu : us = zs := by
            have h1 := HZ.out.1
            rw [List.take_of_length_le (by rw [HL.out]; exact Nat.le_refl _), HFULL.out] at h1
            injection h1 with _ h1; exact h1.symm
          go_wp2_with fail
          go_ret
          refine ⟨rfl, ?_, HZ.out.2.2⟩
          unfold inL
          rw [HFULL.out, if_pos rfl, ← hu]
          exact HZ.out.2.1
end Go.Proofs.Ythknenhcnpgkcaa
