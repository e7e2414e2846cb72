/- The document's own shelf: Del, walked. -/
import Derived.Test.YthknenhcnpgkcaaMr
import Derived.Test.YthknenhcnpgkcaaMf
import Derived.Test.YthknenhcnpgkcaaMc
namespace Go.Proofs.Ythknenhcnpgkcaa
open Go.RowKit
set_option linter.unusedVariables false
set_option linter.unusedSimpArgs false
theorem delL_place {k : ByteArray} {xs : List It} (hr : Rises xs) {at_ : Nat} {is : Bool} (hp : placeOf k xs = (at_, is)) :
    (valueOf k xs).isSome = is ∧ (is = true → at_ < xs.length ∧ delL k xs = xs.take at_ ++ xs.drop (at_ + 1) ∧ ∃ v, xs[at_]? = some (k, v) ∧ valueOf k xs = some v) ∧ (is = false → delL k xs = xs) := by
  obtain ⟨A, B, rfl, hA, h1, h2⟩ := placeOf_split k xs hr
  rw [hp] at hA h2
  simp only at hA h2
  have hA' : ∀ x ∈ A, x.1 ≠ k := fun x hx => lt_ne (h1 x hx)
  rcases h2 with ⟨rfl, v, R, rfl⟩ | ⟨rfl, h2⟩
  · have hv : valueOf k (A ++ (k, v) :: R) = some v := by rw [valueOf_skip hA', valueOf_head]
    refine ⟨by rw [hv]; rfl, fun _ => ⟨by simp; omega, ?_, v, ?_, hv⟩, fun h => by cases h⟩
    · rw [del_mid hr, ← hA]
      simp
    · rw [← hA, List.getElem?_append_right (Nat.le_refl _), Nat.sub_self]; rfl
  · have hB : ∀ x ∈ A ++ B, x.1 ≠ k := fun x hx => by
      rcases List.mem_append.1 hx with hx | hx
      · exact hA' x hx
      · exact fun e => lt_ne (h2 x hx) e.symm
    exact ⟨by rw [valueOf_none hB]; rfl, (fun h => by cases h), fun _ => delL_id hB⟩
theorem append_first {X W2 : World} (hb : Below X.heap.size X W2) {sv : Value} {m : Nat} {zs : List It} (hs : Src W2 2 sv m (flat zs)) (hm : m ≤ 2000) :
    ∃ v' W', (Builtin.append_ #[28, 28] 28 #[.slice none 0 0, sv]).run Try.prog W2 = .ok v' W' ∧ (∃ ao c, v' = .slice ao m c) ∧ Row W' 34 2 v' m (flat zs) ∧ Below X.heap.size X W' ∧ ∀ k, k < X.heap.size → blk v' k = 0 := by
  obtain ⟨v', W', h1, ⟨ao, c, h2⟩, h3, h4, h5⟩ := append_to (W := X) (ys := []) (n := 0) (World.ownsRow_nil _ _ _ _) hb hs (by omega)
  rw [Nat.zero_add] at h2 h3
  exact ⟨v', W', h1, ⟨ao, c, h2⟩, h3, h4.below (Nat.le_refl _) (fun k hk => absurd (blk_nil 0 0 k) hk), fun k hk => by have := h5 k hk; rw [blk_nil] at this; omega⟩
set_option maxRecDepth 100000 in
set_option maxHeartbeats 4000000 in
theorem refDel_is (W : World) (g : Nat) (most : Int) (v : Value) (xs : List It) (n : Nat) (hl : xs.length = n) (hn : n ≤ 900) (hg : W.heap[g]? = some (refObj most v)) (hv : Row W 34 2 v n (flat xs)) (hgv : blk v g = 0) (hr : Rises xs) (k : ByteArray) (b : Bool) (hb : (valueOf k xs).isSome = b) :
    Calls Try.prog 55 #[.pointer (some ⟨g, 0, none⟩), .string k] W fun e W' => e = .returned (.bool b) ∧ RefP most g v W (delL k xs) W' := by
  have hfin := hid (fun (W' : World) (hb : Below W.heap.size W W') => RefP.same (most := most) hg (by rw [hl]; exact hv) hb)
  obtain ⟨at_, is, hp⟩ : ∃ a b, placeOf k xs = (a, b) := ⟨_, _, rfl⟩
  obtain ⟨q0, q1, q2⟩ := delL_place hr hp
  rw [q0] at hb
  subst hb
  have hat : at_ ≤ n := by have := placeOf_le k xs; rw [hp, hl] at this; exact this
  have hgl := lt_of_heap hg
  have hA := hid (fun (X : World) (hb : Below W.heap.size W X) => refAt_is X g most v xs n hl (by omega) ((hb.block g hgl).trans hg) ((hv.src (flat_one _)).heap hb) hr k at_ is hp)
  have HS := hid (fun (X : World) (hb : Below W.heap.size W X) => (hv.src (flat_one _)).heap hb)
  have HG := hid (fun (X : World) (hb : Below W.heap.size W X) => (hb.block g hgl).trans hg)
  have HV := hid hv
  have HGV := hid hgv
  have HL := hid hl
  obtain ⟨ao, cap, rfl⟩ := owns_slice hv
  have hnc : n ≤ cap := by
    rcases hv.2 with ⟨h, h0⟩ | ⟨g', c, cur, hv', _, _, hnc, _⟩
    · omega
    · injection hv' with _ _ h3; omega
  obtain ⟨ys, hys⟩ : ∃ ys, delL k xs = ys := ⟨_, rfl⟩
  rw [hys] at q1 q2 ⊢
  clear hg hv hgv hr hp hl q0
  go_enter Try.func55, Try.ntmps55
  go_wp2_with fail
  (((with_reducible refine (hA.out _ (by repeat' (first | exact Below.refl _ _ | with_reducible assumption | omega | with_reducible refine below_put_fut ?_ ?_ _ | with_reducible refine below_to_put ?_ | with_reducible refine Below.alloc ?_ ?_ _ | with_reducible refine Below.fut ?_ ?_ _ | with_reducible refine Below.drew ?_ | with_reducible refine Below.setCell ?_ ?_ _ | with_reducible refine Below.atPut ?_ ?_ _ | (simp [go_sem]; done) | (simp [go_sem]; omega)))).mono ?_)); rintro _ _ ⟨rfl, u3, rfl⟩)
  have hbX : Below W.heap.size W u3.val := (by repeat' (first | exact Below.refl _ _ | with_reducible assumption | omega | with_reducible refine below_put_fut ?_ ?_ _ | with_reducible refine below_to_put ?_ | with_reducible refine Below.alloc ?_ ?_ _ | with_reducible refine Below.fut ?_ ?_ _ | with_reducible refine Below.drew ?_ | with_reducible refine Below.setCell ?_ ?_ _ | with_reducible refine Below.atPut ?_ ?_ _ | (simp [go_sem]; done) | (simp [go_sem]; omega)))
  generalize u3.val = X at hbX ⊢
  have hgX := HG.out X hbX
  have hgl2 := lt_of_heap hgX
  have hc := fun i => cell_of_row X g i _ _ (0, 0) hgX
  have HGX := hid hgX
  have SX := hid (HS.out X hbX)
  have HBX := hid hbX
  cases is with
  | false =>
    have HE := hid (q2 rfl)
    clear hA q1 q2 HG hgX hys
    go_wp2_with fail
    go_ret
    exact ⟨rfl, by rw [HE.out]; exact hfin.out _ HBX.out⟩
  | true =>
    obtain ⟨hlt, hdl, _⟩ := q1 rfl
    rw [HL.out] at hlt
    have HE := hid hdl
    obtain ⟨A2, hA2⟩ : ∃ A, A = (if cap = at_ + 1 then ao else ao.map (·.add ((at_ + 1) * 2))) := ⟨_, rfl⟩
    have s3 := fun W => slice_to ao n cap at_ (by omega) W
    have e1 : IntKind.i64.wrap ((at_ : Int) + 1) = (at_ : Int) + 1 := IntWalk.i64_in _ (by omega)
    have s2 : ∀ W, (Instr.slice 28 (.slice ao n cap) (some (.int .i64 ((at_ : Int) + 1))) none none).run Try.prog W = .ok (.slice A2 (n - (at_ + 1)) (cap - (at_ + 1))) W := fun W => by
      rw [hA2, show (at_ : Int) + 1 = ((at_ + 1 : Nat) : Int) by omega]; exact slice_from ao n cap (at_ + 1) (by omega) hnc W
    have SP := hid (slice_pre SX.out hat HL.out)
    have SR := hid (show Src X 2 (.slice A2 (n - (at_ + 1)) (cap - (at_ + 1))) (n - (at_ + 1)) (flat (xs.drop (at_ + 1))) from by
      have h := slice_src (i := at_ + 1) (j := n - (at_ + 1)) HL.out SX.out hnc (by omega)
      rw [List.take_of_length_le (by rw [List.length_drop, HL.out]; exact Nat.le_refl _), ← hA2] at h
      exact h)
    have hna : at_ + (n - (at_ + 1)) ≤ 2000 := by omega
    have hat0 : at_ ≤ 2000 := by omega
    clear hA q1 q2 HG hgX hA2 hdl hfin hys
    go_upto_region 3 with fail
    go_region_law (first | (have h1' := H1.out; refine step_app (by rfl) _ _ _ (by rfl) _ _ (by rfl) (by rfl) (append_to H1.out (Below.refl _ _) (zs := xs.drop (at_ + 1)) (SR.out.heap HB1.out) hna) ?_; rintro _ W2 ⟨⟨ao2, c2, rfl⟩, h2, ch2, b2⟩; have hB2 := hid (HB1.out.trans (ch2.below HB1.out.size (fun k hk => Nat.le_of_not_lt fun h => hk (B1.out k h)))); have hg2 := (hB2.out.block g hgl2).trans HGX.out; unfold refObj at hg2; have hl2 := lt_of_heap hg2; have H2 := hid h2; have B2 := hid b2; clear h2 ch2 b2; rw [← put_self hg2]) | (refine step_app (by rfl) _ _ _ (by rfl) _ _ (by rfl) (by rfl) (append_first (X := X) (by repeat' (first | exact Below.refl _ _ | with_reducible assumption | omega | with_reducible refine below_put_fut ?_ ?_ _ | with_reducible refine below_to_put ?_ | with_reducible refine Below.alloc ?_ ?_ _ | with_reducible refine Below.fut ?_ ?_ _ | with_reducible refine Below.drew ?_ | with_reducible refine Below.setCell ?_ ?_ _ | with_reducible refine Below.atPut ?_ ?_ _ | (simp [go_sem]; done) | (simp [go_sem]; omega))) (zs := xs.take at_) (SP.out.heap (by repeat' (first | exact Below.refl _ _ | with_reducible assumption | omega | with_reducible refine below_put_fut ?_ ?_ _ | with_reducible refine below_to_put ?_ | with_reducible refine Below.alloc ?_ ?_ _ | with_reducible refine Below.fut ?_ ?_ _ | with_reducible refine Below.drew ?_ | with_reducible refine Below.setCell ?_ ?_ _ | with_reducible refine Below.atPut ?_ ?_ _ | (simp [go_sem]; done) | (simp [go_sem]; omega)))) hat0) ?_; rintro _ W1 ⟨⟨ao1, c1, rfl⟩, h1, hb1, b1⟩; have HB1 := hid hb1; have hc1 := fun i => cell_of_row W1 g i _ _ (0, 0) ((HB1.out.block g hgl2).trans HGX.out); have hgl1 := Nat.lt_of_lt_of_le hgl2 HB1.out.size; have H1 := hid h1; have B1 := hid b1; clear h1 hb1 b1))
    all_goals
      have hf := hid (show ∀ k, k < X.heap.size → blk (.slice ao2 (at_ + (n - (at_ + 1))) c2) k = 0 from fun k hk => by have := B2.out k (Nat.lt_of_lt_of_le hk HB1.out.size); have := B1.out k hk; omega)
      go_wp2_with fail
      go_ret
      have hlen : (xs.take at_ ++ xs.drop (at_ + 1)).length = at_ + (n - (at_ + 1)) := by simp [HL.out]; omega
      refine ⟨rfl, _, heap_put_at _ _ _ hl2, ?_, (Chg.of_below (S := fun k => k = g) (HBX.out.trans (hB2.out.mono HBX.out.size))).put (fun _ => rfl) _, fun k hk => by rw [hf.out k (Nat.lt_of_lt_of_le hk HBX.out.size)]; exact Nat.zero_le _⟩
      rw [HE.out, hlen]
      exact H2.out.keep fun k hk => heap_put_other _ _ _ _ (fun e => by subst e; exact hk (hf.out k hgl2))
end Go.Proofs.Ythknenhcnpgkcaa
