/- Texts of this proof, merged: Sh6, Sh7. -/
import Derived.Test.YthknenhcnpgkcaaGreatSh2
import Derived.Test.YthknenhcnpgkcaaGreatMh
import Derived.Deep.DeepCutAuto
import Derived.BigRegion
/- Contracts of package shelf: Put. -/
namespace Go.Proofs.YthknenhcnpgkcaaGreat
open Go.RowKit
set_option linter.unusedVariables false
set_option linter.unusedSimpArgs false
set_option maxRecDepth 100000 in
set_option maxHeartbeats 4000000 in
theorem find_any {most : Int} {xs : List It} {W : World} {g : Nat} {c : Cnt} {top : Value} (h : Shf most xs W g c top) (k : ByteArray) (hk : k.size ≤ maxLen) :
    Calls Tryz.prog 68 #[.pointer (some ⟨g, 0, none⟩), .string k] W fun en W' => ((en = .returned (.tuple #[.pointer none, .int .i64 0]) ∧ valueOf k xs = none) ∨ ∃ v p at_ d q, en = .returned (.tuple #[.pointer (some ⟨p, 0, none⟩), .int .i64 (at_ : Nat)]) ∧ top = .pointer (some ⟨q.p, 0, none⟩) ∧ At d 1 W q ∧ q.xs = xs ∧ q.c g = 0 ∧ (∀ k, c k = one g k + q.c k) ∧ Spot d 1 W q k v p at_) ∧ ∃ u : Fut W, W' = u.val := by
  have hg := h.heap
  cases h.top with
  | none hx hc =>
    have hcc := fun i => cell_of_row W g i _ _ (0, 0) hg
    have hl := lt_of_heap hg
    have HR := hid (show valueOf k xs = none by rw [hx]; rfl)
    clear h
    generalize xs.length = n at hg hcc
    clear hg
    go_enter Tryz.func68, Tryz.ntmps68
    go_wp2_with fail
    go_step3
    go_wp2_with fail
    go_step3
    go_wp2_with fail
    refine wp_loop_rounds 1 ?_
    rw [rounds_succ]
    go_wp2_with fail
    (try (rw [Exit.noGoto_ret]))
    go_ret2
    exact ⟨.inl ⟨rfl, HR.out⟩, ⟨⟨_, (by repeat' (first | exact Below.refl _ _ | with_reducible assumption | omega | with_reducible refine below_put_fut ?_ ?_ _ | with_reducible refine below_to_put ?_ | with_reducible refine Below.alloc ?_ ?_ _ | with_reducible refine Below.fut ?_ ?_ _ | with_reducible refine Below.drew ?_ | with_reducible refine Below.setCell ?_ ?_ _ | with_reducible refine Below.atPut ?_ ?_ _ | (simp [go_sem]; done) | (simp [go_sem]; omega)))⟩, rfl⟩⟩
  | some d q ha hx hgc hc =>
    refine (find_is ha (by rw [hx]; exact h.rises) (by rw [hx]; exact h.small) k hk g _ _ hg).mono ?_
    rintro en W' ⟨⟨rfl, hv⟩ | ⟨v, p, at_, rfl, hs⟩, hu⟩
    · exact ⟨.inl ⟨rfl, by rw [← hx]; exact hv⟩, hu⟩
    · exact ⟨.inr ⟨v, p, at_, d, q, rfl, rfl, ha, hx, hgc, hc, hs⟩, hu⟩
theorem setCell_row {w : World} {r i : Nat} {cs : Array Value} {t : TypeId} {fr : Nat × Nat} (h : w.heap[r]? = some (.cells cs t fr)) (v : Value) : w.setCell ⟨r, i, none⟩ v = put w r (.cells (cs.setIfInBounds i v) t fr) := by
  have e := setCell_put w r i cs t fr v
  rw [put_self h] at e
  exact e
/-- The value of an item in a row is stored. -/
theorem store_item {W W2 : World} {its : List It} {rb n cc at_ : Nat} {k v v' : ByteArray} (h : Row W 59 2 (.slice (some ⟨rb, 0, none⟩) n cc) n (flat its)) (hn : its.length = n) (hat : its[at_]? = some (k, v)) (hb : Below W.heap.size W W2) :
    Row (W2.setCell ⟨rb, at_ * 2 + 1, none⟩ (.string v')) 59 2 (.slice (some ⟨rb, 0, none⟩) n cc) n (flat (its.set at_ (k, v'))) ∧ Chg (fun j => blk (.slice (some ⟨rb, 0, none⟩) n cc) j ≠ 0) W (W2.setCell ⟨rb, at_ * 2 + 1, none⟩ (.string v')) := by
  obtain ⟨cur, hm, hnc, hh, hcs, htk⟩ := row_open (owns_below h hb)
  have hrl := lt_of_heap hh
  have hal := (List.getElem?_eq_some_iff.1 hat).1
  rw [setCell_row hh]
  have hfs : ∀ (l : List It) (i : Nat), l[i]? = some (k, v) → flat (l.set i (k, v')) = (flat l).set (i * 2 + 1) (.string v') := by
    intro l
    induction l with
    | nil => intro i h; cases h
    | cons x l ih =>
      intro i h
      cases i with
      | zero => cases h; simp [flat]
      | succ i =>
        have := ih i (by simpa using h)
        rw [List.set_cons_succ, show (i + 1) * 2 + 1 = i * 2 + 1 + 1 + 1 from by omega]
        simp only [flat, List.set_cons_succ, this]
  refine ⟨⟨by rw [flat_length, List.length_set, hn, Nat.mul_comm], .inr ⟨rb, cc, cur.setIfInBounds (at_ * 2 + 1) (.string v'), rfl, Nat.zero_le _, heap_put_at _ _ _ hrl, hnc, hm, by simp [hcs], ?_⟩⟩, (Chg.of_below (S := fun j => blk (.slice (some ⟨rb, 0, none⟩) n cc) j ≠ 0) hb).put (fun _ => by rw [blk_at rb 0 n cc rb none, one_self]; omega) _⟩
  rw [hfs its at_ hat, Array.toList_setIfInBounds, List.take_set, htk]
/-- What Put comes to. -/
def PutTo (most : Int) (k v : ByteArray) (xs : List It) (g : Nat) (c : Cnt) (W : World) (en : Ending) (W' : World) : Prop :=
  ∃ c' top', en = .returned (.int .i64 (putL most k v xs).1) ∧ Shf most (putL most k v xs).2 W' g c' top' ∧ Upd W W' c c'
theorem Upd.rfl' {W W' : World} {c : Cnt} (hc : ∀ k, c k ≤ 1) (hb : Below W.heap.size W W') : Upd W W' c c := ⟨Chg.of_below hb, hc, fun _ _ => Nat.le_refl _⟩
theorem right_is (a : ByteArray) (r : Int) (hr : rightN a.size = r) (w : World) : Calls Tryz.prog 65 #[.string a] w (Makes (.int .i64 r) w) := by subst hr; exact right_any a w
theorem value_is (a : ByteArray) (r : Int) (hr : valueN a.size = r) (w : World) : Calls Tryz.prog 66 #[.string a] w (Makes (.int .i64 r) w) := by subst hr; exact value_any a w
set_option maxRecDepth 100000 in
set_option maxHeartbeats 4000000 in
theorem put_bad {most : Int} {xs : List It} {W : World} {g : Nat} {c : Cnt} {top : Value} (h : Shf most xs W g c top) (k v : ByteArray) (hb : k.size < 1 ∨ 16 < k.size ∨ 16 < v.size) :
    Calls Tryz.prog 22 #[.pointer (some ⟨g, 0, none⟩), .string k, .string v] W (PutTo most k v xs g c W) := by
  have H := hid h
  have hgl := lt_of_heap h.heap
  clear h
  by_cases hk : k.size < 1 ∨ 16 < k.size
  · have e : rightN k.size = 3 := by unfold rightN; rw [if_pos hk]
    have HP := hid (show putL most k v xs = (3, xs) by unfold putL; rw [if_pos hk])
    clear hb hk
    go_enter Tryz.func22, Tryz.ntmps22
    go_wp2_with fail
    (((with_reducible refine (right_is _ 3 e _).mono ?_)); rintro _ _ ⟨rfl, u1, rfl⟩)
    go_wp2_with fail
    go_ret
    exact ⟨c, top, by rw [HP.out]; rfl, by rw [HP.out]; exact H.out.on (by repeat' (first | exact Below.refl _ _ | with_reducible assumption | omega | with_reducible refine below_put_fut ?_ ?_ _ | with_reducible refine below_to_put ?_ | with_reducible refine Below.alloc ?_ ?_ _ | with_reducible refine Below.fut ?_ ?_ _ | with_reducible refine Below.drew ?_ | with_reducible refine Below.setCell ?_ ?_ _ | with_reducible refine Below.atPut ?_ ?_ _ | (simp [go_sem]; done) | (simp [go_sem]; omega))), Upd.rfl' H.out.le (by repeat' (first | exact Below.refl _ _ | with_reducible assumption | omega | with_reducible refine below_put_fut ?_ ?_ _ | with_reducible refine below_to_put ?_ | with_reducible refine Below.alloc ?_ ?_ _ | with_reducible refine Below.fut ?_ ?_ _ | with_reducible refine Below.drew ?_ | with_reducible refine Below.setCell ?_ ?_ _ | with_reducible refine Below.atPut ?_ ?_ _ | (simp [go_sem]; done) | (simp [go_sem]; omega)))⟩
  · have hv : 16 < v.size := by omega
    have e : rightN k.size = 0 := by unfold rightN; rw [if_neg hk]
    have e2 : valueN v.size = 4 := by unfold valueN; rw [if_pos hv]
    have HP := hid (show putL most k v xs = (4, xs) by unfold putL; rw [if_neg hk, if_pos hv])
    clear hb hk hv
    go_enter Tryz.func22, Tryz.ntmps22
    go_wp2_with fail
    (((with_reducible refine (right_is _ 0 e _).mono ?_)); rintro _ _ ⟨rfl, u1, rfl⟩)
    go_wp2_with fail
    (((with_reducible refine (value_is _ 4 e2 _).mono ?_)); rintro _ _ ⟨rfl, u2, rfl⟩)
    go_wp2_with fail
    go_ret
    exact ⟨c, top, by rw [HP.out]; rfl, by rw [HP.out]; exact H.out.on (by repeat' (first | exact Below.refl _ _ | with_reducible assumption | omega | with_reducible refine below_put_fut ?_ ?_ _ | with_reducible refine below_to_put ?_ | with_reducible refine Below.alloc ?_ ?_ _ | with_reducible refine Below.fut ?_ ?_ _ | with_reducible refine Below.drew ?_ | with_reducible refine Below.setCell ?_ ?_ _ | with_reducible refine Below.atPut ?_ ?_ _ | (simp [go_sem]; done) | (simp [go_sem]; omega))), Upd.rfl' H.out.le (by repeat' (first | exact Below.refl _ _ | with_reducible assumption | omega | with_reducible refine below_put_fut ?_ ?_ _ | with_reducible refine below_to_put ?_ | with_reducible refine Below.alloc ?_ ?_ _ | with_reducible refine Below.fut ?_ ?_ _ | with_reducible refine Below.drew ?_ | with_reducible refine Below.setCell ?_ ?_ _ | with_reducible refine Below.atPut ?_ ?_ _ | (simp [go_sem]; done) | (simp [go_sem]; omega)))⟩
theorem small_of {v : ByteArray} (h : v.size ≤ 16) : v.size ≤ maxLen := by unfold maxLen; omega
set_option maxRecDepth 100000 in
set_option maxHeartbeats 4000000 in
theorem put_rep {most : Int} {xs : List It} {W : World} {g : Nat} {c : Cnt} {top : Value} (h : Shf most xs W g c top) (k v : ByteArray) (hk : ¬ (k.size < 1 ∨ 16 < k.size)) (hv : ¬ 16 < v.size) (hs : valueOf k xs ≠ none) :
    Calls Tryz.prog 22 #[.pointer (some ⟨g, 0, none⟩), .string k, .string v] W (PutTo most k v xs g c W) := by
  have H := hid h
  have hgl := lt_of_heap h.heap
  clear h
  have e : rightN k.size = 0 := by unfold rightN; rw [if_neg hk]
  have e2 : valueN v.size = 0 := by unfold valueN; rw [if_neg hv]
  have HP := hid (show putL most k v xs = (0, repL k v xs) by
    unfold putL
    rw [if_neg hk, if_neg hv, if_pos]
    cases hx : valueOf k xs with
    | none => exact absurd hx hs
    | some y => rfl)
  have hv1 : v.size ≤ 1000 := by omega
  have HV := hid (small_of (v := v) (by omega))
  have HK := hid (small_of (v := k) (by omega))
  have HS := hid hs
  clear hk hv hs
  go_enter Tryz.func22, Tryz.ntmps22
  go_wp2_with fail
  (((with_reducible refine (right_is _ 0 e _).mono ?_)); rintro _ _ ⟨rfl, u1, rfl⟩)
  go_wp2_with fail
  (((with_reducible refine (value_is _ 0 e2 _).mono ?_)); rintro _ _ ⟨rfl, u2, rfl⟩)
  go_wp2_with fail
  (((with_reducible refine (clone_is _ _ hv1).mono ?_)); rintro _ _ ⟨rfl, u3, rfl⟩)
  have hb3 : Below W.heap.size W u3.val := (by repeat' (first | exact Below.refl _ _ | with_reducible assumption | omega | with_reducible refine below_put_fut ?_ ?_ _ | with_reducible refine below_to_put ?_ | with_reducible refine Below.alloc ?_ ?_ _ | with_reducible refine Below.fut ?_ ?_ _ | with_reducible refine Below.drew ?_ | with_reducible refine Below.setCell ?_ ?_ _ | with_reducible refine Below.atPut ?_ ?_ _ | (simp [go_sem]; done) | (simp [go_sem]; omega)))
  have H3 := hid (H.out.on hb3)
  have HB3 := hid hb3
  clear hb3
  generalize u3.val = W3 at H3 HB3 ⊢
  go_wp2_with fail
  refine (find_any H3.out k HK.out).mono ?_
  rintro _ _ ⟨⟨rfl, hno⟩ | ⟨w0, p, at_, d, q, rfl, rfl, ha, hx, hgc, hc, iv, bv, its, s1, s2, s3, s4, s5, s6⟩, u4, rfl⟩
  · exact absurd hno HS.out
  · have hat := (List.getElem?_eq_some_iff.1 s3).1
    obtain ⟨n, hn⟩ : ∃ n, its.length = n := ⟨_, rfl⟩
    rw [hn] at s2 hat s4
    obtain ⟨rb, cc, rfl, _, hrb⟩ := World.ownsRow.form s2 (by omega)
    have hst := store_item (W2 := u4.val) (v' := v) s2 hn s3 u4.below
    have hfin : PutTo most k v xs g c W (.returned (.int .i64 0)) (u4.val.setCell ⟨rb, at_ * 2 + 1, none⟩ (.string v)) := by
      obtain ⟨ys, y1, y2, y3⟩ := s6 _ v hst.2 (by rw [hn]; exact hst.1)
      have hry : Rises q.xs := by rw [hx]; exact H3.out.rises
      have hye : ys = repL k v xs := by rw [← hx]; exact y3.eq hry
      have hu : Upd W3 (u4.val.setCell ⟨rb, at_ * 2 + 1, none⟩ (.string v)) c c := ⟨y2.chg.mono fun i _ hi => by rw [hc]; omega, H3.out.le, fun _ _ => Nat.le_refl _⟩
      refine ⟨c, .pointer (some ⟨q.p, 0, none⟩), by rw [HP.out], ?_, Upd.of_below HB3.out hu⟩
      rw [HP.out]
      refine ⟨?_, ?_, ?_, .some d ⟨q.p, ys, q.c⟩ y1 hye hgc hc⟩
      · rw [repL_length, y2.chg.block g (lt_of_heap H3.out.heap) (by rw [hgc]; simp)]
        exact H3.out.heap
      · show Rises (repL k v xs)
        rw [← hye]; exact y3.rises hry
      · show Small (repL k v xs)
        rw [← hye]; exact y3.small (by rw [hx]; exact H3.out.small) HV.out
    have HF := hid hfin
    obtain ⟨cur, _, _, hcr, _, _⟩ := row_open s2
    have hfr := fun i => frozen_of hcr i
    have hpl := lt_of_heap s1
    have hcp := fun i => cell_of_row W3 p i _ _ (0, 0) s1
    have hfl := flat_at its at_ (k, w0) s3
    have q1 : W3.cell? ⟨rb, at_ * 2 + 1, none⟩ = some (.string w0) := by
      rw [s2.cellAt _ (by omega), ← hfl.2]; congr 1; omega
    have hat2 : (at_ : Int) < n := by omega
    clear s1 s2 s3 s5 s6 hst hfin hcr hfl ha hx hgc hc hn
    go_wp2_with fail
    go_ret
    exact HF.out
set_option maxRecDepth 100000 in
set_option maxHeartbeats 4000000 in
theorem put_full {most : Int} {xs : List It} {W : World} {g : Nat} {c : Cnt} {top : Value} (h : Shf most xs W g c top) (k v : ByteArray) (hk : ¬ (k.size < 1 ∨ 16 < k.size)) (hv : ¬ 16 < v.size) (hs : valueOf k xs = none) (hm : most ≤ xs.length) :
    Calls Tryz.prog 22 #[.pointer (some ⟨g, 0, none⟩), .string k, .string v] W (PutTo most k v xs g c W) := by
  have H := hid h
  have hgl := lt_of_heap h.heap
  clear h
  have e : rightN k.size = 0 := by unfold rightN; rw [if_neg hk]
  have e2 : valueN v.size = 0 := by unfold valueN; rw [if_neg hv]
  have HP := hid (show putL most k v xs = (5, xs) by
    unfold putL
    rw [if_neg hk, if_neg hv, hs, if_neg (by simp), if_pos hm])
  have hv1 : v.size ≤ 1000 := by omega
  have HK := hid (small_of (v := k) (by omega))
  have HS := hid hs
  have hmd : decide (most ≤ (xs.length : Int)) = true := by simpa using hm
  clear hk hv hs
  go_enter Tryz.func22, Tryz.ntmps22
  go_wp2_with fail
  (((with_reducible refine (right_is _ 0 e _).mono ?_)); rintro _ _ ⟨rfl, u1, rfl⟩)
  go_wp2_with fail
  (((with_reducible refine (value_is _ 0 e2 _).mono ?_)); rintro _ _ ⟨rfl, u2, rfl⟩)
  go_wp2_with fail
  (((with_reducible refine (clone_is _ _ hv1).mono ?_)); rintro _ _ ⟨rfl, u3, rfl⟩)
  have hb3 : Below W.heap.size W u3.val := (by repeat' (first | exact Below.refl _ _ | with_reducible assumption | omega | with_reducible refine below_put_fut ?_ ?_ _ | with_reducible refine below_to_put ?_ | with_reducible refine Below.alloc ?_ ?_ _ | with_reducible refine Below.fut ?_ ?_ _ | with_reducible refine Below.drew ?_ | with_reducible refine Below.setCell ?_ ?_ _ | with_reducible refine Below.atPut ?_ ?_ _ | (simp [go_sem]; done) | (simp [go_sem]; omega)))
  have H3 := hid (H.out.on hb3)
  have HB3 := hid hb3
  clear hb3
  generalize u3.val = W3 at H3 HB3 ⊢
  go_wp2_with fail
  refine (find_any H3.out k HK.out).mono ?_
  rintro _ _ ⟨⟨rfl, -⟩ | ⟨w0, p, at_, d, q, rfl, rfl, ha, hx, hgc, hc, iv, bv, its, s1, s2, s3, s4, s5, s6⟩, u4, rfl⟩
  rotate_left
  · rw [hx, HS.out] at s5; cases s5
  have hc3 := fun i => cell_of_row W3 g i _ _ (0, 0) H3.out.heap
  have hl3 := lt_of_heap H3.out.heap
  have HFIN := hid (fun (W' : World) (hb : Below W3.heap.size W3 W') => (show PutTo most k v xs g c W (.returned (.int .i64 5)) W' from ⟨c, top, by rw [HP.out], by rw [HP.out]; exact H3.out.on hb, Upd.of_below HB3.out (Upd.rfl' H3.out.le hb)⟩))
  clear hm
  generalize xs.length = n at hc3 hmd
  go_wp2_with (first | (((with_reducible refine wp_region_fut_lit (by kernel_rfl) (by kernel_rfl) ?_)); (repeat (go_big_quiet_step ((first | fail)))); ((with_reducible refine wpQuiet_nil ?_)); rintro _ ⟨u, rfl⟩; (try (rw [Fut.put_self u (by first | assumption | (simp [go_sem]; done) | (simp [go_sem]; omega))]))))
  go_ret
  exact HFIN.out _ (by repeat' (first | exact Below.refl _ _ | with_reducible assumption | omega | with_reducible refine below_put_fut ?_ ?_ _ | with_reducible refine below_to_put ?_ | with_reducible refine Below.alloc ?_ ?_ _ | with_reducible refine Below.fut ?_ ?_ _ | with_reducible refine Below.drew ?_ | with_reducible refine Below.setCell ?_ ?_ _ | with_reducible refine Below.atPut ?_ ?_ _ | (simp [go_sem]; done) | (simp [go_sem]; omega)))
/-- What put came to, laid down in the block of 'up'. -/
def GotP (d lo : Nat) (W : World) (r : Kid) (it : It) (wc : World) (s11 s12 : Value) : Prop :=
  ∃ B s1 s2 c5, s11 = .pointer (some ⟨B, 0, none⟩) ∧ wc.heap[B]? = some (.cells #[.string s1, .string s2] 59) ∧ W.heap.size ≤ B ∧ c5 B = 0 ∧ Upd W wc r.c c5 ∧ (∀ k, c5 k ≠ 0 → k < wc.heap.size) ∧
    ∃ xs', Ins it r.xs xs' ∧ ((s12 = .pointer none ∧ At d lo wc ⟨r.p, xs', c5⟩) ∨
      (∃ (rr : Kid) (xs1 : List It) (c1 : Cnt), s12 = .pointer (some ⟨rr.p, 0, none⟩) ∧ xs' = xs1 ++ (s1, s2) :: rr.xs ∧ At d 3 wc ⟨r.p, xs1, c1⟩ ∧ At d 3 wc rr ∧ ∀ k, c5 k = c1 k + rr.c k))
/-- What put says, its answer in one form. -/
def PutFormL (d lo : Nat) (Wc : World) (r : Kid) (it : It) (s1 s2 : ByteArray) (pr : Value) (W5 : World) : Prop :=
  ∃ xs' c5, Ins it r.xs xs' ∧ Upd Wc W5 r.c c5 ∧ (∀ k, c5 k ≠ 0 → k < W5.heap.size) ∧ ((pr = .pointer none ∧ At d lo W5 ⟨r.p, xs', c5⟩) ∨
    (∃ (rr : Kid) (xs1 : List It) (c1 : Cnt), pr = .pointer (some ⟨rr.p, 0, none⟩) ∧ xs' = xs1 ++ (s1, s2) :: rr.xs ∧ At d 3 W5 ⟨r.p, xs1, c1⟩ ∧ At d 3 W5 rr ∧ ∀ k, c5 k = c1 k + rr.c k))
theorem PutPost.formL {d lo : Nat} {Wc W5 : World} {r : Kid} {it : It} {en : Ending} (h : PutPost d lo Wc r it en W5) : ∃ s1 s2 pr, en = .returned (.tuple #[.agg #[.string s1, .string s2], pr]) ∧ Hid (PutFormL d lo Wc r it s1 s2 pr W5) := by
  obtain ⟨xs', hi, ⟨c', rfl, h1, h2⟩ | ⟨rr, xs1, c1, up, rfl, h1, h2, h3, h4⟩⟩ := h
  · exact ⟨_, _, _, rfl, xs', c', hi, h2, h1.lt, .inl ⟨rfl, h1⟩⟩
  · refine ⟨_, _, _, rfl, xs', _, hi, h4, fun k hk => ?_, .inr ⟨rr, xs1, c1, rfl, h1, h2, h3, fun k => rfl⟩⟩
    by_cases e : c1 k = 0
    · exact h3.lt k (by omega)
    · exact h2.lt k e
theorem GotP.mk {d lo : Nat} {W Wc W5 W6 : World} {r : Kid} {it : It} {s1 s2 : ByteArray} {pr : Value} {B : Nat} (hf : PutFormL d lo Wc r it s1 s2 pr W5) (hb : Below W.heap.size W Wc) (hrl : ∀ k, r.c k ≠ 0 → k < W.heap.size)
    (hos : W6.os = W5.os) (htp : W6.tape = W5.tape) (hout : W6.output = W5.output) (hsz : W5.heap.size ≤ W6.heap.size) (hk : ∀ k, k < W5.heap.size → k ≠ B → W6.heap[k]? = W5.heap[k]?) (hB : W.heap.size ≤ B) (hB2 : B < Wc.heap.size ∨ W5.heap.size ≤ B)
    (h8 : W6.heap[B]? = some (.cells #[.string s1, .string s2] 59)) : GotP d lo W r it W6 (.pointer (some ⟨B, 0, none⟩)) pr := by
  obtain ⟨xs', c5, hi, hu, hl, hcase⟩ := hf
  have hz : ∀ k, W.heap.size ≤ k → r.c k = 0 := fun k hk => by
    rcases Nat.eq_zero_or_pos (r.c k) with e | e
    · exact e
    · exact absurd (hrl k (by omega)) (by omega)
  have h5B : c5 B = 0 := by
    rcases hB2 with h | h
    · have := hu.old B h; have := hz B hB; omega
    · rcases Nat.eq_zero_or_pos (c5 B) with e | e
      · exact e
      · exact absurd (hl B (by omega)) (by omega)
  have hu' := Upd.of_below hb hu
  have hkeep : ∀ k, c5 k ≠ 0 → W6.heap[k]? = W5.heap[k]? := fun k hk' => hk k (hl k hk') (fun e => by subst e; omega)
  refine ⟨B, s1, s2, c5, rfl, h8, hB, h5B, ⟨⟨hos.trans hu'.chg.os, htp.trans hu'.chg.tape, hout.trans hu'.chg.output, Nat.le_trans hu'.chg.size hsz, fun k hk' hn => ?_⟩, hu.le, hu'.old⟩, fun k hk' => Nat.lt_of_lt_of_le (hl k hk') hsz, xs', hi, ?_⟩
  · rw [hk k (Nat.lt_of_lt_of_le hk' hu'.chg.size) (by omega)]; exact hu'.chg.block k hk' hn
  · rcases hcase with ⟨rfl, hA⟩ | ⟨rr, xs1, c1, rfl, hx, hA, hA2, hc⟩
    · exact .inl ⟨rfl, hA.keep hkeep⟩
    · exact .inr ⟨rr, xs1, c1, rfl, hx, hA.keep (fun k hk' => hkeep k (by rw [hc]; have : c1 k ≠ 0 := hk'; omega)), hA2.keep (fun k hk' => hkeep k (by rw [hc]; omega)), hc⟩
end Go.Proofs.YthknenhcnpgkcaaGreat

/- Contracts of package shelf: Put of a new key. -/
namespace Go.Proofs.YthknenhcnpgkcaaGreat
open Go.RowKit
set_option linter.unusedVariables false
set_option linter.unusedSimpArgs false
theorem Upd.pre {W X W' : World} {c cb c' : Cnt} (h : Upd X W' cb c') (hc : Chg (fun k => c k ≠ 0) W X) (hb : ∀ k, k < W.heap.size → cb k ≤ c k) : Upd W W' c c' :=
  ⟨hc.trans h.chg (fun i hi hn => by have := hb i hi; omega), h.le, fun i hi => Nat.le_trans (h.old i (Nat.lt_of_lt_of_le hi hc.size)) (hb i hi)⟩
/-- The shelf's own block, new blocks, and a tree that has changed. -/
theorem Upd.top {X wc W' : World} {g : Nat} {q c5 cn : Cnt} (hu : Upd X wc q c5) (hg : g < X.heap.size) (hqg : q g = 0) (hl5 : ∀ k, c5 k ≠ 0 → k < wc.heap.size) (hcn : ∀ k, k < wc.heap.size → cn k = 0) (hcn1 : ∀ k, cn k ≤ 1)
    (hos : W'.os = wc.os) (htp : W'.tape = wc.tape) (hout : W'.output = wc.output) (hsz : wc.heap.size ≤ W'.heap.size) (hk : ∀ k, k < wc.heap.size → k ≠ g → W'.heap[k]? = wc.heap[k]?) :
    Upd X W' (fun k => one g k + q k) (fun k => one g k + (cn k + c5 k)) := by
  have hg5 : c5 g = 0 := by have := hu.old g hg; omega
  have hXw := hu.chg.size
  refine ⟨⟨hos.trans hu.chg.os, htp.trans hu.chg.tape, hout.trans hu.chg.output, Nat.le_trans hu.chg.size hsz, fun k hk' hn => ?_⟩, fun k => ?_, fun k hk' => ?_⟩
  · have h1 : k ≠ g := fun e => by subst e; rw [one_self] at hn; omega
    rw [hk k (by omega) h1]
    exact hu.chg.block k hk' (by omega)
  · have h1 := hu.le k
    rcases Nat.lt_or_ge k wc.heap.size with c | c
    · rw [hcn k c]
      by_cases e : k = g
      · subst e; rw [hg5, one_self]; omega
      · have : one g k = 0 := by unfold one; rw [if_neg e]
        omega
    · have h2 := hcn1 k
      have h3 : c5 k = 0 := by
        rcases Nat.eq_zero_or_pos (c5 k) with e | e
        · exact e
        · exact absurd (hl5 k (by omega)) (by omega)
      have h4 : one g k = 0 := by unfold one; rw [if_neg (by omega)]
      omega
  · have h1 := hu.old k hk'
    rw [hcn k (by omega)]
    omega
theorem Ins.small {it : It} {xs xs' : List It} (h : Ins it xs xs') (hs : Small xs) (h1 : it.1.size ≤ maxLen) (h2 : it.2.size ≤ maxLen) : Small xs' := by
  intro i hi
  rcases (h.mem i).1 hi with rfl | hi
  · exact ⟨h1, h2⟩
  · exact hs i hi
theorem one_if {p k : Nat} (h : k ≠ p) : one p k = 0 := by unfold one; rw [if_neg h]
/-- The tree as it is, its shelf counts one more. -/
theorem fin_none {most : Int} {d : Nat} {X wc : World} {g : Nat} {q : Kid} {it : It} {c5 : Cnt} {xs' : List It} (hu : Upd X wc q.c c5) (hg : g < X.heap.size) (hqg : q.c g = 0) (hA : At d 1 wc ⟨q.p, xs', c5⟩) (hi : Ins it q.xs xs') (hr : Rises q.xs) (hs : Small q.xs) (h1 : it.1.size ≤ maxLen) (h2 : it.2.size ≤ maxLen) :
    Shf most xs' (put wc g (shfObj most xs'.length (.pointer (some ⟨q.p, 0, none⟩)))) g (fun k => one g k + (0 + c5 k)) (.pointer (some ⟨q.p, 0, none⟩)) ∧ Upd X (put wc g (shfObj most xs'.length (.pointer (some ⟨q.p, 0, none⟩)))) (fun k => one g k + q.c k) (fun k => one g k + (0 + c5 k)) := by
  have hg5 : c5 g = 0 := by have := hu.old g hg; omega
  have hgw : g < wc.heap.size := Nat.lt_of_lt_of_le hg hu.chg.size
  refine ⟨⟨heap_put_at _ _ _ hgw, hi.rises hr, hi.small hs h1 h2, .some d ⟨q.p, xs', c5⟩ (hA.keep fun k hk => heap_put_other _ _ _ _ fun e => ?_) rfl hg5 fun k => by simp⟩, ?_⟩
  · subst e
    exact hk hg5
  · exact Upd.top (cn := fun _ => 0) hu hg hqg hA.lt (fun _ _ => rfl) (fun _ => Nat.zero_le _) rfl rfl rfl (by rw [size_put]; exact Nat.le_refl _) (fun k _ hne => heap_put_other _ _ _ _ hne)
/-- A new first node over the two. -/
theorem fin_split {most : Int} {d : Nat} {X wc W' : World} {g : Nat} {q rr : Kid} {it up : It} {c1 c5 : Cnt} {xs1 : List It} {N R1 R2 : Nat} (hu : Upd X wc q.c c5) (hg : g < X.heap.size) (hqg : q.c g = 0) (hl5 : ∀ k, c5 k ≠ 0 → k < wc.heap.size)
    (hA : At d 3 wc ⟨q.p, xs1, c1⟩) (hA2 : At d 3 wc rr) (hc5 : ∀ k, c5 k = c1 k + rr.c k) (hi : Ins it q.xs (xs1 ++ up :: rr.xs)) (hr : Rises q.xs) (hs : Small q.xs) (h1 : it.1.size ≤ maxLen) (h2 : it.2.size ≤ maxLen)
    (hos : W'.os = wc.os) (htp : W'.tape = wc.tape) (hout : W'.output = wc.output) (hsz : wc.heap.size ≤ W'.heap.size) (hk : ∀ k, k < wc.heap.size → k ≠ g → W'.heap[k]? = wc.heap[k]?)
    (hN : wc.heap.size ≤ N) (hR1 : wc.heap.size ≤ R1) (hR2 : wc.heap.size ≤ R2) (n1 : N ≠ R1) (n2 : N ≠ R2) (n3 : R1 ≠ R2)
    (hhg : W'.heap[g]? = some (shfObj most (xs1 ++ up :: rr.xs).length (.pointer (some ⟨N, 0, none⟩))))
    (hhN : W'.heap[N]? = some (.cells #[.slice (some ⟨R1, 0, none⟩) 1 1, .slice (some ⟨R2, 0, none⟩) 2 2] 101))
    (hhR1 : W'.heap[R1]? = some (.cells #[.string up.1, .string up.2] 59)) (hhR2 : W'.heap[R2]? = some (.cells #[.pointer (some ⟨q.p, 0, none⟩), .pointer (some ⟨rr.p, 0, none⟩)] 92)) :
    Shf most (xs1 ++ up :: rr.xs) W' g (fun k => one g k + ((one N k + (one R1 k + one R2 k)) + c5 k)) (.pointer (some ⟨N, 0, none⟩)) ∧ Upd X W' (fun k => one g k + q.c k) (fun k => one g k + ((one N k + (one R1 k + one R2 k)) + c5 k)) := by
  have hg5 : c5 g = 0 := by have := hu.old g hg; omega
  have hgw : g < wc.heap.size := Nat.lt_of_lt_of_le hg hu.chg.size
  have hc5k : ∀ k, c5 k ≠ 0 → W'.heap[k]? = wc.heap[k]? := fun k hk' => hk k (hl5 k hk') fun e => by subst e; exact hk' hg5
  have hnew : ∀ k, one N k + (one R1 k + one R2 k) ≤ 1 := by
    intro k
    by_cases a : k = N
    · subst a; rw [one_self, one_if n1, one_if n2]; omega
    · by_cases b : k = R1
      · subst b; rw [one_self, one_if a, one_if n3]; omega
      · have := one_le R2 k
        rw [one_if a, one_if b]; omega
  have hnz : ∀ k, k < wc.heap.size → one N k + (one R1 k + one R2 k) = 0 := by
    intro k hk'
    rw [one_if (show k ≠ N by omega), one_if (show k ≠ R1 by omega), one_if (show k ≠ R2 by omega)]
  have hu2 := Upd.top (cn := fun k => one N k + (one R1 k + one R2 k)) hu hg hqg hl5 hnz hnew hos htp hout hsz hk
  refine ⟨⟨hhg, hi.rises hr, hi.small hs h1 h2, .some (d + 1) ⟨N, xs1 ++ up :: rr.xs, fun k => (one N k + (one R1 k + one R2 k)) + c5 k⟩ ?_ rfl ?_ fun k => rfl⟩, hu2⟩
  · refine ⟨.slice (some ⟨R1, 0, none⟩) 1 1, .slice (some ⟨R2, 0, none⟩) 2 2, [up], [⟨q.p, xs1, c1⟩, rr], ⟨hhN, ?_, ?_, fun k => ?_, fun k => ?_⟩, rfl, by simp, by simp, by simp [weave], fun s hs => ?_⟩
    · exact ⟨by simp [flat], .inr ⟨R1, 1, _, rfl, Nat.zero_le _, hhR1, Nat.le_refl _, by unfold maxLen; omega, rfl, by simp [flat]⟩⟩
    · exact ⟨by simp [ptrs], .inr ⟨R2, 2, _, rfl, Nat.zero_le _, hhR2, Nat.le_refl _, by unfold maxLen; omega, rfl, by simp [ptrs, Kid.v]⟩⟩
    · rw [blk_at R1 0 1 1 k none, blk_at R2 0 2 2 k none]
      simp only [sumC]
      have := hc5 k
      omega
    · have h := hu2.le k
      dsimp only at h ⊢
      omega
    · rcases List.mem_cons.1 hs with rfl | hs
      · exact hA.keep fun k hk' => hc5k k (by rw [hc5]; have : c1 k ≠ 0 := hk'; omega)
      · rw [List.mem_singleton] at hs
        subst hs
        exact hA2.keep fun k hk' => hc5k k (by rw [hc5]; omega)
  · show one N g + (one R1 g + one R2 g) + c5 g = 0
    rw [hnz g hgw, hg5]
theorem PutFormL.size {d lo : Nat} {Wc : World} {r : Kid} {it : It} {s1 s2 : ByteArray} {pr : Value} {W5 : World} (h : PutFormL d lo Wc r it s1 s2 pr W5) : Wc.heap.size ≤ W5.heap.size := by
  obtain ⟨_, _, _, h, _⟩ := h
  exact h.chg.size
theorem PutFormL.bel {d lo : Nat} {W Wc : World} {r : Kid} {it : It} {s1 s2 : ByteArray} {pr : Value} {W5 : World} (h : PutFormL d lo Wc r it s1 s2 pr W5) (hb : Below W.heap.size W Wc) : Below W.heap.size W Wc := hb
theorem PutFormL.block {d lo : Nat} {Wc : World} {r : Kid} {it : It} {s1 s2 : ByteArray} {pr : Value} {W5 : World} (h : PutFormL d lo Wc r it s1 s2 pr W5) {k : Nat} (hk : k < Wc.heap.size) (h0 : r.c k = 0) : W5.heap[k]? = Wc.heap[k]? := by
  obtain ⟨_, _, _, h, _⟩ := h
  exact h.chg.block k hk (by omega)
end Go.Proofs.YthknenhcnpgkcaaGreat
