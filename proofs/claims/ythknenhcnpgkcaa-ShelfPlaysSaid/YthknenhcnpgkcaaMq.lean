/- Texts of this proof, merged: Sh9, ShA, ShB. -/
import Derived.Test.YthknenhcnpgkcaaSh8
/- Contracts of package shelf: Put into a shelf that holds nothing; Put. -/
namespace Go.Proofs.Ythknenhcnpgkcaa
open Go.RowKit
set_option linter.unusedVariables false
set_option linter.unusedSimpArgs false
set_option maxRecDepth 100000 in
set_option maxHeartbeats 8000000 in
theorem put_nil {most : Int} {W : World} {g : Nat} {c : Cnt} (h : Shf most [] W g c (.pointer none)) (hc : ∀ k, c k = one g k)
    (k v : ByteArray) (hk : ¬ (k.size < 1 ∨ 16 < k.size)) (hv : ¬ 16 < v.size) (hm : (0 : Int) < most) :
    Calls Try.prog 26 #[.pointer (some ⟨g, 0, none⟩), .string k, .string v] W (PutTo most k v [] g c W) := by
  have H := hid h
  have hgl := lt_of_heap h.heap
  have HC := hid hc
  clear h hc
  have e : rightN k.size = 0 := by unfold rightN; rw [if_neg hk]
  have e2 : valueN v.size = 0 := by unfold valueN; rw [if_neg hv]
  have HP := hid (show putL most k v [] = (0, insL (k, v) []) by
    unfold putL
    rw [if_neg hk, if_neg hv, show valueOf k [] = none from rfl, if_neg (by simp), if_neg (by simp; omega)])
  have hv1 : v.size ≤ 1000 := by omega
  have hk1 : k.size ≤ 1000 := by omega
  have HK := hid (small_of (v := k) (by omega))
  have HV := hid (small_of (v := v) (by omega))
  have hmd : decide (most ≤ 0) = false := by simp; omega
  clear hk hv
  go_enter Try.func26, Try.ntmps26
  go_wp2_with fail
  (((with_reducible refine (right_is _ 0 e _).mono ?_)); rintro _ _ ⟨rfl, u1, rfl⟩)
  go_wp2_with fail
  (((with_reducible refine (value_is _ 0 e2 _).mono ?_)); rintro _ _ ⟨rfl, u2, rfl⟩)
  go_wp2_with fail
  (((with_reducible refine (clone_is _ _ hv1).mono ?_)); rintro _ _ ⟨rfl, u3, rfl⟩)
  have hb3 : Below W.heap.size W u3.val := (by repeat' (first | exact Below.refl _ _ | with_reducible assumption | omega | with_reducible refine below_put_fut ?_ ?_ _ | with_reducible refine below_to_put ?_ | with_reducible refine Below.alloc ?_ ?_ _ | with_reducible refine Below.fut ?_ ?_ _ | with_reducible refine Below.drew ?_ | with_reducible refine Below.setCell ?_ ?_ _ | with_reducible refine Below.atPut ?_ ?_ _ | (simp [go_sem]; done) | (simp [go_sem]; omega)))
  have H3 := hid (H.out.on hb3)
  have HB3 := hid hb3
  clear hb3
  generalize u3.val = W3 at H3 HB3 ⊢
  go_wp2_with fail
  refine (find_any H3.out k HK.out).mono ?_
  rintro _ _ ⟨⟨rfl, -⟩ | ⟨w0, p, at_, d', q', -, ht, _⟩, u4, rfl⟩
  rotate_left
  · cases ht
  have hb4 := HB3.out.trans (u4.below.mono HB3.out.size)
  have hg4 : u4.val.heap[g]? = some (shfObj most 0 (.pointer none)) := (u4.below.block g (lt_of_heap H3.out.heap)).trans H3.out.heap
  have HB4 := hid hb4
  have HG4 := hid hg4
  have hl4 := lt_of_heap hg4
  clear hm hb4 hg4
  generalize u4.val = W4 at HB4 HG4 hl4 ⊢
  have hz4 := HB4.out.size
  rw [← put_self HG4.out]
  go_wp2_with (first | (((with_reducible refine wp_region_fut_lit (by kernel_rfl) (by kernel_rfl) ?_)); (repeat (go_big_quiet_step ((first | fail)))); ((with_reducible refine wpQuiet_nil ?_)); rintro _ ⟨u, rfl⟩; (try (rw [Fut.put_self u (by first | assumption | (simp [go_sem]; done) | (simp [go_sem]; omega))]))))
  obtain ⟨P0, hP0⟩ : ∃ P0, W4.heap.size + u.n = P0 := ⟨_, rfl⟩
  obtain ⟨U, hU⟩ : ∃ U, u.val = U := ⟨_, rfl⟩
  have hub := u.below
  have hus := Fut.size u
  rw [hU] at hub hus ⊢
  rw [hP0] at ⊢
  rw [size_put, hP0] at hus
  rw [put_self HG4.out] at hub
  have hgU : g < U.heap.size := Nat.lt_of_lt_of_le hl4 hub.size
  have hX1g : (put (U.alloc (.cells #[.slice none 0 0, .slice none 0 0] 118)) g (.cells #[.int .i64 most, .int .i64 0, .pointer (some ⟨P0, 0, none⟩)] 112)).heap[g]? = some (.cells #[.int .i64 most, .int .i64 0, .pointer (some ⟨P0, 0, none⟩)] 112) := heap_put_at _ _ _ (by simp; omega)
  have hX1p : (put (U.alloc (.cells #[.slice none 0 0, .slice none 0 0] 118)) g (.cells #[.int .i64 most, .int .i64 0, .pointer (some ⟨P0, 0, none⟩)] 112)).heap[P0]? = some (.cells #[.slice none 0 0, .slice none 0 0] 118) := by
    rw [heap_put_other _ _ _ _ (by omega)]; exact heap_alloc_at _ _ _ hus.symm
  have HCX := hid (show Chg (fun j => j = g) W4 (put (U.alloc (.cells #[.slice none 0 0, .slice none 0 0] 118)) g (.cells #[.int .i64 most, .int .i64 0, .pointer (some ⟨P0, 0, none⟩)] 112)) from ((Chg.of_below (S := fun j => j = g) hub).alloc _).put (fun _ => rfl) _)
  have hP1 : W4.heap.size ≤ P0 := by have := hub.size; omega
  clear hub hus hP0 hU hgU
  generalize (put (U.alloc (.cells #[.slice none 0 0, .slice none 0 0] 118)) g (.cells #[.int .i64 most, .int .i64 0, .pointer (some ⟨P0, 0, none⟩)] 112)) = X1 at hX1g hX1p HCX ⊢
  clear HG4
  have hcX := fun i => cell_of_row X1 g i _ _ (0, 0) hX1g
  have hlX := lt_of_heap hX1g
  have hPl := lt_of_heap hX1p
  have hPg : P0 ≠ g := by omega
  obtain ⟨q, hq⟩ : ∃ q : Kid, q = ⟨P0, [], one P0⟩ := ⟨_, rfl⟩
  have HA0 : At 0 0 X1 q := by
    subst hq
    exact ⟨.slice none 0 0, .slice none 0 0, ⟨hX1p, World.ownsRow_nil _ _ _ _, World.ownsRow_nil _ _ _ _, fun k => by rw [blk_nil]; simp [sumC], one_le P0⟩, Nat.zero_le _, by simp⟩
  have hqp : P0 = q.p := by rw [hq]
  have HQX := hid (show q.xs = [] by rw [hq])
  have HGC := hid (show q.c g = 0 by rw [hq]; exact one_if (Ne.symm hPg))
  have HQ1 := hid (show ∀ j, j < W4.heap.size → q.c j = 0 from fun j hj => by rw [hq]; exact one_if (by omega))
  have HA := hid HA0
  have HX1G := hid hX1g
  rw [hqp] at hcX ⊢
  have HX1P := hid hqp
  clear HA0 hX1g hX1p hq
  have HPUT := hid (fun (X : World) (hb : Below X1.heap.size X1 X) => put_is 0 0 X q (k, v) (HA.out.keep fun j hj => hb.block j (HA.out.lt j hj)) (by rw [HQX.out]; exact List.Pairwise.nil) (by rw [HQX.out]; exact fun i hi => by cases hi) HK.out HV.out (by rw [HQX.out]; exact fun y hy => by cases hy) (by omega))
  have HQL := hid (show ∀ j, q.c j ≠ 0 → j < X1.heap.size from fun j hj => HA.out.lt j hj)
  have HQZ := hid (show ∀ j, X1.heap.size ≤ j → q.c j = 0 from fun j hj => by
    rcases Nat.eq_zero_or_pos (q.c j) with e | e
    · exact e
    · exact absurd (HQL.out j (by omega)) (by omega))
  go_cut [11, 12] (fun s11 s12 wc => GotP 0 0 X1 q (k, v) wc s11 s12)
  case first =>
    go_region_with (first | (go_at_call 71; ((with_reducible refine (clone_is _ _ hk1).mono ?_)); rintro _ _ ⟨rfl, u9, rfl⟩; have hq9 := fun i => ((show Below X1.heap.size X1 u9.val from (by repeat' (first | exact Below.refl _ _ | with_reducible assumption | omega | with_reducible refine below_put_fut ?_ ?_ _ | with_reducible refine below_to_put ?_ | with_reducible refine Below.alloc ?_ ?_ _ | with_reducible refine Below.fut ?_ ?_ _ | with_reducible refine Below.drew ?_ | with_reducible refine Below.setCell ?_ ?_ _ | with_reducible refine Below.atPut ?_ ?_ _ | (simp [go_sem]; done) | (simp [go_sem]; omega)))).cell (p := ⟨g, i, none⟩) hlX).trans (hcX i)) | (go_at_call 73; ((with_reducible refine (HPUT.out _ (by repeat' (first | exact Below.refl _ _ | with_reducible assumption | omega | with_reducible refine below_put_fut ?_ ?_ _ | with_reducible refine below_to_put ?_ | with_reducible refine Below.alloc ?_ ?_ _ | with_reducible refine Below.fut ?_ ?_ _ | with_reducible refine Below.drew ?_ | with_reducible refine Below.setCell ?_ ?_ _ | with_reducible refine Below.atPut ?_ ?_ _ | (simp [go_sem]; done) | (simp [go_sem]; omega)))).mono ?_)); rintro en W5 hpost; obtain ⟨s1, s2, pr, rfl, hform⟩ := hpost.formL; clear hpost; have hs5 := hid (hform.out.size); have hbw := hid (PutFormL.bel (W := X1) hform.out (by repeat' (first | exact Below.refl _ _ | with_reducible assumption | omega | with_reducible refine below_put_fut ?_ ?_ _ | with_reducible refine below_to_put ?_ | with_reducible refine Below.alloc ?_ ?_ _ | with_reducible refine Below.fut ?_ ?_ _ | with_reducible refine Below.drew ?_ | with_reducible refine Below.setCell ?_ ?_ _ | with_reducible refine Below.atPut ?_ ?_ _ | (simp [go_sem]; done) | (simp [go_sem]; omega)))); first | ((refine (fun (hA0 : W5.heap[X1.heap.size]? = some (.cells #[.string ⟨#[]⟩, .string ⟨#[]⟩] 34)) => ?_) ?_); rotate_left; (focus (refine (hform.out.block ?_ (HQZ.out _ ?_)).trans ?_; (focus (first | assumption | (simp [go_sem]; done) | (simp [go_sem]; omega))); (focus omega); (focus (repeat' (first | rfl | assumption | (with_reducible refine (heap_drew_eq _ _).trans ?_) | (refine (Fut.heap _ _ ?_).trans ?_ ; focus (first | assumption | omega | (simp [go_sem]; done) | (simp [go_sem]; omega))) | (refine (heap_put_at _ _ _ ?_).trans ?_ ; focus (first | assumption | omega | (simp [go_sem]; done) | (simp [go_sem]; omega))) | (refine (heap_put_other _ _ _ _ ?_).trans ?_ ; focus (first | assumption | omega | (simp [go_sem]; done) | (simp [go_sem]; omega))) | (refine (heap_alloc_other _ _ _ ?_).trans ?_ ; focus (first | assumption | omega | (simp [go_sem]; done) | (simp [go_sem]; omega))) | (refine (heap_alloc_at _ _ _ ?_).trans ?_ ; focus (first | assumption | omega | (simp [go_sem]; done) | (simp [go_sem]; omega))) | (simp [go_sem]; done) | (simp [go_sem]; omega)))); done)); have hl0 := lt_of_heap hA0; rw [← put_self hA0]) | ((refine (fun (hA0 : W5.heap[X1.heap.size + u9.n]? = some (.cells #[.string ⟨#[]⟩, .string ⟨#[]⟩] 34)) => ?_) ?_); rotate_left; (focus (refine (hform.out.block ?_ (HQZ.out _ ?_)).trans ?_; (focus (first | assumption | (simp [go_sem]; done) | (simp [go_sem]; omega))); (focus omega); (focus (repeat' (first | rfl | assumption | (with_reducible refine (heap_drew_eq _ _).trans ?_) | (refine (Fut.heap _ _ ?_).trans ?_ ; focus (first | assumption | omega | (simp [go_sem]; done) | (simp [go_sem]; omega))) | (refine (heap_put_at _ _ _ ?_).trans ?_ ; focus (first | assumption | omega | (simp [go_sem]; done) | (simp [go_sem]; omega))) | (refine (heap_put_other _ _ _ _ ?_).trans ?_ ; focus (first | assumption | omega | (simp [go_sem]; done) | (simp [go_sem]; omega))) | (refine (heap_alloc_other _ _ _ ?_).trans ?_ ; focus (first | assumption | omega | (simp [go_sem]; done) | (simp [go_sem]; omega))) | (refine (heap_alloc_at _ _ _ ?_).trans ?_ ; focus (first | assumption | omega | (simp [go_sem]; done) | (simp [go_sem]; omega))) | (simp [go_sem]; done) | (simp [go_sem]; omega)))); done)); have hl0 := lt_of_heap hA0; rw [← put_self hA0]) | skip))
    all_goals
      go_wp2_with fail
      go_meet
      first
        | exact GotP.mk (B := X1.heap.size) hform.out hbw.out HQL.out rfl rfl rfl (by rw [size_put]; exact Nat.le_refl _) (fun k _ hne => heap_put_other _ _ _ _ hne) (Nat.le_refl _) (.inl (by first | assumption | (simp [go_sem]; done) | (simp [go_sem]; omega))) (heap_put_at _ _ _ hl0)
        | exact GotP.mk (B := X1.heap.size + u9.n) hform.out hbw.out HQL.out rfl rfl rfl (by rw [size_put]; exact Nat.le_refl _) (fun k _ hne => heap_put_other _ _ _ _ hne) (Nat.le_add_right _ _) (.inl (by first | assumption | (simp [go_sem]; done) | (simp [go_sem]; omega))) (heap_put_at _ _ _ hl0)
        | exact GotP.mk (B := W5.heap.size) hform.out hbw.out HQL.out rfl rfl rfl (by simp) (fun k hk _ => heap_alloc_other _ _ _ hk) (by have := hbw.out.size; have := hs5.out; omega) (.inr (Nat.le_refl _)) (heap_alloc_at _ _ _ rfl)
  case rest =>
    obtain ⟨B, s1, s2, c5, rfl, h8, hB, h5B, hu, hl5, xs', hins, hcase⟩ := hcut
    have hgw : wc.heap[g]? = some (shfObj most 0 (.pointer (some ⟨q.p, 0, none⟩))) := by
      rw [hu.chg.block g hlX (by rw [HGC.out]; simp), HX1G.out, HX1P.out]; rfl
    have hgl2 := lt_of_heap hgw
    have hlen : xs'.length = 1 := by rw [hins.length, HQX.out]; rfl
    have hxe : xs' = insL (k, v) [] := by rw [hins.eq, HQX.out]
    rcases hcase with ⟨rfl, hA⟩ | ⟨rr, xs1, c1, rfl, hxs, hA, hA2, hc5⟩
    · have hA1 : At 0 1 wc ⟨q.p, xs', c5⟩ := by
        obtain ⟨iv, bv, h1, h2, h3⟩ := hA
        exact ⟨iv, bv, h1, by show 1 ≤ xs'.length; omega, h3⟩
      obtain ⟨f1, f2⟩ := fin_none (most := most) hu hlX HGC.out hA1 hins (by rw [HQX.out]; exact List.Pairwise.nil) (by rw [HQX.out]; exact fun i hi => by cases hi) HK.out HV.out
      have hobj : shfObj most xs'.length (.pointer (some ⟨q.p, 0, none⟩)) = .cells #[.int .i64 most, .int .i64 1, .pointer (some ⟨q.p, 0, none⟩)] 112 := by
        rw [hlen]; rfl
      rw [hobj] at f1 f2
      have HF := hid (show PutTo most k v [] g c W (.returned (.int .i64 0)) (put wc g (.cells #[.int .i64 most, .int .i64 1, .pointer (some ⟨q.p, 0, none⟩)] 112)) from
        ⟨_, _, by rw [HP.out], by rw [HP.out, ← hxe]; exact f1, Upd.of_below HB4.out (Upd.pre f2 (HCX.out.mono fun j _ hj => by subst hj; rw [HC.out, one_self]; omega) (fun j hj => by rw [HC.out, HQ1.out j hj]; omega))⟩)
      clear hu hl5 hins hA hA1 f1 f2 hobj h8 hxe hlen
      rw [← put_self hgw]
      clear hgw
      go_wp2_with fail
      go_ret
      exact HF.out
    · exfalso
      have h1 := hA2.count3 (Nat.le_refl _)
      rw [hxs, List.length_append, List.length_cons] at hlen
      omega
/-- Put, whatever is put. -/
theorem put_shf {most : Int} {xs : List It} {W : World} {g : Nat} {c : Cnt} {top : Value} (h : Shf most xs W g c top) (k v : ByteArray) (hn : xs.length ≤ 1000) :
    Calls Try.prog 26 #[.pointer (some ⟨g, 0, none⟩), .string k, .string v] W (PutTo most k v xs g c W) := by
  by_cases hk : k.size < 1 ∨ 16 < k.size
  · exact put_bad h k v (by omega)
  by_cases hv : 16 < v.size
  · exact put_bad h k v (by omega)
  by_cases hs : valueOf k xs = none
  · rcases Int.lt_or_le (xs.length : Int) most with hm | hm
    · have h' := h
      cases h.top with
      | none hx hc =>
        subst hx
        exact put_nil h' hc k v hk hv hm
      | some d q ha hx hg hc => exact put_some h' ha hx hg hc k v hk hv hs hm hn
    · exact put_full h k v hk hv hs hm
  · exact put_rep h k v hk hv hs
end Go.Proofs.Ythknenhcnpgkcaa

/- A shelf as the statements meet it. -/
namespace Go.Proofs.Ythknenhcnpgkcaa
open Go.RowKit
set_option linter.unusedVariables false
set_option linter.unusedSimpArgs false
/-- Block g is a shelf that holds xs; its blocks, and all that has changed since w0, lie behind B. -/
def Sh (B : Nat) (w0 : World) (most : Int) (xs : List It) (g : Nat) (W : World) : Prop := Below B w0 W ∧ ∃ c top, Shf most xs W g c top ∧ ∀ k, c k ≠ 0 → B ≤ k
theorem Sh.on {B : Nat} {w0 : World} {most : Int} {xs : List It} {g : Nat} {W W' : World} (h : Sh B w0 most xs g W) (hb : Below W.heap.size W W') (hB : B ≤ W.heap.size) : Sh B w0 most xs g W' := by
  obtain ⟨h1, c, top, h2, h3⟩ := h
  exact ⟨h1.trans (hb.mono hB), c, top, h2.on hb, h3⟩
theorem Sh.lt {B : Nat} {w0 : World} {most : Int} {xs : List It} {g : Nat} {W : World} (h : Sh B w0 most xs g W) : g < W.heap.size := by
  obtain ⟨h1, c, top, h2, h3⟩ := h
  exact lt_of_heap h2.heap
theorem Shf.g_ne {most : Int} {xs : List It} {W : World} {g : Nat} {c : Cnt} {top : Value} (h : Shf most xs W g c top) : c g = 1 := by
  cases h.top with
  | none hx hc => rw [hc, one_self]
  | some d q ha hx hg hc => rw [hc, one_self, hg]
theorem Sh.ge {B : Nat} {w0 : World} {most : Int} {xs : List It} {g : Nat} {W : World} (h : Sh B w0 most xs g W) : B ≤ W.heap.size := by
  obtain ⟨h1, c, top, h2, h3⟩ := h
  have := h3 g (by rw [h2.g_ne]; omega)
  have := lt_of_heap h2.heap
  omega
theorem Sh.upd {B : Nat} {w0 : World} {most : Int} {xs xs' : List It} {g : Nat} {W W' : World} {c c' : Cnt} {top' : Value} (h1 : Below B w0 W) (h3 : ∀ k, c k ≠ 0 → B ≤ k) (hB : B ≤ W.heap.size) (h : Shf most xs' W' g c' top') (hu : Upd W W' c c') : Sh B w0 most xs' g W' := by
  refine ⟨h1.trans (hu.chg.below hB h3), c', top', h, fun k hk => ?_⟩
  rcases Nat.lt_or_ge k W.heap.size with e | e
  · exact h3 k (by have := hu.old k e; omega)
  · omega
theorem sh_new (B : Nat) (w0 : World) (most m : Int) (hm : min (max most 0) 200 = m) (W : World) (hb : Below B w0 W) (hB : B ≤ W.heap.size) :
    Calls Try.prog 25 #[.int .i64 most] W fun e W' => e = .returned (.pointer (some ⟨W.heap.size, 0, none⟩)) ∧ Sh B w0 m [] W.heap.size W' := by
  refine (new_is W most m hm).mono ?_
  rintro _ _ ⟨rfl, rfl⟩
  exact ⟨rfl, hb.trans (Below.mono ((Below.refl _ _).alloc (Nat.le_refl _) _) hB), _, _, shf_new m (heap_alloc_at _ _ _ rfl), fun k hk => by rw [one_ne hk]; exact hB⟩
theorem sh_put {B : Nat} {w0 : World} {most : Int} {xs : List It} {g : Nat} {W : World} (h : Sh B w0 most xs g W) (hn : xs.length ≤ 1000) (k v : ByteArray) (r : Int) (xs' : List It) (he : putL most k v xs = (r, xs')) :
    Calls Try.prog 26 #[.pointer (some ⟨g, 0, none⟩), .string k, .string v] W fun e W' => e = .returned (.int .i64 r) ∧ Sh B w0 most xs' g W' := by
  have hB := h.ge
  obtain ⟨h1, c, top, h2, h3⟩ := h
  refine (put_shf h2 k v hn).mono ?_
  rintro _ W' ⟨c', top', rfl, h4, h5⟩
  rw [he] at h4 ⊢
  exact ⟨rfl, Sh.upd (xs := xs) h1 h3 hB h4 h5⟩
theorem sh_get {B : Nat} {w0 : World} {most : Int} {xs : List It} {g : Nat} {W : World} (h : Sh B w0 most xs g W) (k : ByteArray) (hk : k.size ≤ maxLen) (v : ByteArray) (b : Bool) (h1 : (valueOf k xs).getD ⟨#[]⟩ = v) (h2 : (valueOf k xs).isSome = b) :
    Calls Try.prog 52 #[.pointer (some ⟨g, 0, none⟩), .string k] W (Makes (.tuple #[.string v, .bool b]) W) := by
  obtain ⟨_, c, top, h3, _⟩ := h
  subst h1 h2
  exact get_is h3 k hk _ rfl
theorem sh_len {B : Nat} {w0 : World} {most : Int} {xs : List It} {g : Nat} {W : World} (h : Sh B w0 most xs g W) (n : Nat) (hn : xs.length = n) :
    Calls Try.prog 32 #[.pointer (some ⟨g, 0, none⟩)] W (Makes (.int .i64 n) W) := by
  obtain ⟨_, c, top, h3, _⟩ := h
  exact len_is h3 n hn
theorem sh_depth {B : Nat} {w0 : World} {most : Int} {xs : List It} {g : Nat} {W : World} (h : Sh B w0 most xs g W) (hn : xs.length ≤ 1000) :
    Calls Try.prog 30 #[.pointer (some ⟨g, 0, none⟩)] W fun en W' => (∃ D : Nat, en = .returned (.int .i64 D) ∧ D ≤ deepN xs.length ∧ (D = 0 ↔ xs = []) ∧ D ≤ 1000 ∧ (xs.length = 1 → D = 1)) ∧ ∃ u : Fut W, W' = u.val := by
  obtain ⟨_, c, top, h3, _⟩ := h
  exact depth_is h3 hn
theorem sh_items {B : Nat} {w0 : World} {most : Int} {xs : List It} {g : Nat} {W : World} (h : Sh B w0 most xs g W) (hn : xs.length ≤ 1000) :
    Calls Try.prog 28 #[.pointer (some ⟨g, 0, none⟩)] W fun en W' => ∃ ao cc, en = .returned (.slice ao xs.length cc) ∧ Row W' 34 2 (.slice ao xs.length cc) xs.length (flat xs) ∧ Below W.heap.size W W' ∧ ∀ k, k < W.heap.size → blk (.slice ao xs.length cc) k = 0 := by
  obtain ⟨_, c, top, h3, _⟩ := h
  exact items_is h3 hn
set_option maxRecDepth 100000 in
set_option maxHeartbeats 4000000 in
theorem shAlive_any (w : World) : Calls Try.prog 24 #[] w (Makes (.bool true) w) := by
  go_enter Try.func24, Try.ntmps24
  go_wp2_with fail
  (((with_reducible refine (sh_new w.heap.size w 2 2 (by decide) _ (Below.refl _ _) (Nat.le_refl _)).mono ?_)); rintro _ W1 ⟨rfl, h1⟩)
  go_wp2_with fail
  (((with_reducible refine (sh_put h1 (by decide) ⟨#[98]⟩ ⟨#[49]⟩ 0 [(⟨#[98]⟩, ⟨#[49]⟩)] (by decide)).mono ?_)); rintro _ W2 ⟨rfl, h2⟩)
  go_wp2_with fail
  (((with_reducible refine (sh_put h2 (by decide) ⟨#[97]⟩ ⟨#[50]⟩ 0 [(⟨#[97]⟩, ⟨#[50]⟩), (⟨#[98]⟩, ⟨#[49]⟩)] (by decide)).mono ?_)); rintro _ W3 ⟨rfl, h3⟩)
  go_wp2_with fail
  (((with_reducible refine (sh_put h3 (by decide) ⟨#[99]⟩ ⟨#[]⟩ 5 [(⟨#[97]⟩, ⟨#[50]⟩), (⟨#[98]⟩, ⟨#[49]⟩)] (by decide)).mono ?_)); rintro _ W4 ⟨rfl, h4⟩)
  go_wp2_with fail
  (((with_reducible refine (sh_put h4 (by decide) ⟨#[]⟩ ⟨#[]⟩ 3 [(⟨#[97]⟩, ⟨#[50]⟩), (⟨#[98]⟩, ⟨#[49]⟩)] (by decide)).mono ?_)); rintro _ W5 ⟨rfl, h5⟩)
  go_wp2_with fail
  refine (sh_items h5 (by decide)).mono ?_
  rintro _ W6 ⟨ao, cc, rfl, hr, hb6, -⟩
  have h6 := h5.on hb6 h5.ge
  have hr2 : Row W6 34 2 (.slice ao 2 cc) 2 (flat [(⟨#[97]⟩, ⟨#[50]⟩), (⟨#[98]⟩, ⟨#[49]⟩)]) := hr
  obtain ⟨rb, cb, hv, _, hrl⟩ := World.ownsRow.form hr2 (by omega)
  obtain rfl : ao = some ⟨rb, 0, none⟩ := by injection hv
  have q0 : W6.cell? ⟨rb, 0, none⟩ = some (.string ⟨#[97]⟩) := by rw [hr2.cellAt _ (by omega)]; rfl
  have q3 : W6.cell? ⟨rb, 3, none⟩ = some (.string ⟨#[49]⟩) := by rw [hr2.cellAt _ (by omega)]; rfl
  have H6 := hid h6
  clear h1 h2 h3 h4 h5 h6 hr hr2 hb6 hv
  go_wp2_with fail
  refine (sh_depth H6.out (by decide)).mono ?_
  rintro _ _ ⟨⟨D, rfl, hD, hD0, _, _⟩, u7, rfl⟩
  have hD1 : D = 1 := by
    have e1 : deepN 2 = 1 := by decide
    have h1 : D ≤ deepN 2 := hD
    have h2 : ¬ D = 0 := fun e => by have := hD0.1 e; cases this
    omega
  subst hD1
  have hbw := H6.out.1
  have hz := hbw.size
  clear hD hD0
  go_wp2_with fail
  go_ret
  exact .mk rfl (by repeat' (first | exact Below.refl _ _ | with_reducible assumption | omega | with_reducible refine below_put_fut ?_ ?_ _ | with_reducible refine below_to_put ?_ | with_reducible refine Below.alloc ?_ ?_ _ | with_reducible refine Below.fut ?_ ?_ _ | with_reducible refine Below.drew ?_ | with_reducible refine Below.setCell ?_ ?_ _ | with_reducible refine Below.atPut ?_ ?_ _ | (simp [go_sem]; done) | (simp [go_sem]; omega)))
end Go.Proofs.Ythknenhcnpgkcaa

/- Contracts of package shelf: Del of the only item there is. -/
namespace Go.Proofs.Ythknenhcnpgkcaa
open Go.RowKit
set_option linter.unusedVariables false
set_option linter.unusedSimpArgs false
theorem delete_one (W : World) (r cap : Nat) (xs : List Value) (hi : Row W 34 2 (.slice (some ⟨r, 0, none⟩) 1 cap) 1 xs) (h1 : ∀ u ∈ xs, u.oneCell' = true) :
    Calls Try.prog 122 #[.slice (some ⟨r, 0, none⟩) 1 cap, .int .i64 0, .int .i64 1] W fun en W' => en = .returned (.slice (some ⟨r, 0, none⟩) 0 cap) ∧ Row W' 34 2 (.slice (some ⟨r, 0, none⟩) 0 cap) 0 [] ∧ Chg (fun k => k = r) W W' := by
  refine (delete_item W r cap 0 xs hi (by omega) h1 0 (Nat.le_refl _)).mono ?_
  rintro en W' ⟨rfl, h2, h3⟩
  refine ⟨rfl, ?_, h3⟩
  have : xs.take (0 * 2) ++ xs.drop ((0 + 1) * 2) = [] := by
    have := hi.1
    simp
    omega
  rw [this] at h2
  exact h2
set_option maxRecDepth 100000 in
set_option maxHeartbeats 4000000 in
theorem ndel_one {W : World} {q : Kid} {k v : ByteArray} (h : At 0 1 W q) (hx : q.xs = [(k, v)]) (hk : k.size ≤ maxLen) :
    Calls Try.prog 83 #[.pointer (some ⟨q.p, 0, none⟩), .string k] W fun en W' => en = .returned (.bool true) ∧ ∃ ri ci bo bc, W'.heap[q.p]? = some (.cells #[.slice ri 0 ci, .slice bo 0 bc] 118) ∧ Chg (fun j => q.c j ≠ 0) W W' := by
  have hlt := h.lt
  obtain ⟨iv, bv, hN, _, _⟩ := h
  rw [hx] at hN
  obtain ⟨bo, bc, rfl⟩ := owns_slice hN.below
  obtain ⟨ri, ci, rfl, _, hri⟩ := World.ownsRow.form hN.items (by simp)
  have hon := hid (fun W' (hB : Below W.heap.size W W') => hN.on hlt hB)
  have hpl := hN.lt
  have hcnt := hN.cnt q.p
  have hle := hN.le q.p
  rw [one_self] at hcnt
  have hpr : q.p ≠ ri := fun e => by rw [blk_at ri 0 _ ci q.p none, e, one_self] at hcnt; rw [e] at hle; omega
  have hqc : ∀ j, one q.p j ≠ 0 ∨ j = ri → q.c j ≠ 0 := fun j hj => by
    have e1 := hN.cnt j
    rcases hj with hj | rfl
    · omega
    · rw [blk_at j 0 _ ci j none, one_self] at e1; omega
  have HQC := hid hqc
  have HN := hid hN
  have HP := hid (show placeOf k [(k, v)] = (0, true) by simp [placeOf])
  have HS := hid (show ∀ i ∈ [(k, v)], i.1.size ≤ maxLen from fun i hi => by rw [List.mem_singleton] at hi; subst hi; exact hk)
  have hc := fun i => cell_of_row W q.p i _ _ (0, 0) hN.heap
  clear hN hcnt hle hlt hqc hx
  go_enter Try.func83, Try.ntmps83
  go_wp2_with fail
  (((with_reducible refine (place_is _ q.p _ _ [(k, v)] k (hon.out _ (by repeat' (first | exact Below.refl _ _ | with_reducible assumption | omega | with_reducible refine below_put_fut ?_ ?_ _ | with_reducible refine below_to_put ?_ | with_reducible refine Below.alloc ?_ ?_ _ | with_reducible refine Below.fut ?_ ?_ _ | with_reducible refine Below.drew ?_ | with_reducible refine Below.setCell ?_ ?_ _ | with_reducible refine Below.atPut ?_ ?_ _ | (simp [go_sem]; done) | (simp [go_sem]; omega)))).heap (hon.out _ (by repeat' (first | exact Below.refl _ _ | with_reducible assumption | omega | with_reducible refine below_put_fut ?_ ?_ _ | with_reducible refine below_to_put ?_ | with_reducible refine Below.alloc ?_ ?_ _ | with_reducible refine Below.fut ?_ ?_ _ | with_reducible refine Below.drew ?_ | with_reducible refine Below.setCell ?_ ?_ _ | with_reducible refine Below.atPut ?_ ?_ _ | (simp [go_sem]; done) | (simp [go_sem]; omega)))).items (by simp) hk HS.out 0 true HP.out).mono ?_)); rintro _ _ ⟨rfl, u1, rfl⟩)
  go_wp2_with fail
  (((with_reducible refine (leaf_is _ q.p _ _ _ _ (hon.out _ (by repeat' (first | exact Below.refl _ _ | with_reducible assumption | omega | with_reducible refine below_put_fut ?_ ?_ _ | with_reducible refine below_to_put ?_ | with_reducible refine Below.alloc ?_ ?_ _ | with_reducible refine Below.fut ?_ ?_ _ | with_reducible refine Below.drew ?_ | with_reducible refine Below.setCell ?_ ?_ _ | with_reducible refine Below.atPut ?_ ?_ _ | (simp [go_sem]; done) | (simp [go_sem]; omega)))).heap true rfl).mono ?_)); rintro _ _ ⟨rfl, u2, rfl⟩)
  go_wp2_with fail
  (((with_reducible refine (delete_one _ ri ci _ (hon.out _ (by repeat' (first | exact Below.refl _ _ | with_reducible assumption | omega | with_reducible refine below_put_fut ?_ ?_ _ | with_reducible refine below_to_put ?_ | with_reducible refine Below.alloc ?_ ?_ _ | with_reducible refine Below.fut ?_ ?_ _ | with_reducible refine Below.drew ?_ | with_reducible refine Below.setCell ?_ ?_ _ | with_reducible refine Below.atPut ?_ ?_ _ | (simp [go_sem]; done) | (simp [go_sem]; omega)))).items (flat_one _)).mono ?_)); rintro _ W5 ⟨rfl, hr5, hc5⟩)
  have hb2 : Below W.heap.size W u2.val := (by repeat' (first | exact Below.refl _ _ | with_reducible assumption | omega | with_reducible refine below_put_fut ?_ ?_ _ | with_reducible refine below_to_put ?_ | with_reducible refine Below.alloc ?_ ?_ _ | with_reducible refine Below.fut ?_ ?_ _ | with_reducible refine Below.drew ?_ | with_reducible refine Below.setCell ?_ ?_ _ | with_reducible refine Below.atPut ?_ ?_ _ | (simp [go_sem]; done) | (simp [go_sem]; omega)))
  have hp5 : W5.heap[q.p]? = some (.cells #[.slice (some ⟨ri, 0, none⟩) 1 ci, .slice bo 0 bc] 118) := (hc5.block q.p (Nat.lt_of_lt_of_le hpl hb2.size) hpr).trans (hon.out _ hb2).heap
  have HC5 := hid ((Chg.of_below (S := fun j => q.c j ≠ 0) hb2).trans hc5 (fun j _ hj => HQC.out j (.inr hj)))
  have hl5 := lt_of_heap hp5
  clear hr5 hc5 hb2
  rw [← put_self hp5]
  clear hp5
  go_wp2_with fail
  go_ret
  exact ⟨rfl, _, _, _, _, heap_put_at _ _ _ hl5, HC5.out.put (fun _ => HQC.out _ (.inl (by rw [one_self]; omega))) _⟩
set_option maxRecDepth 100000 in
set_option maxHeartbeats 4000000 in
theorem del_one {B : Nat} {w0 : World} {most : Int} {k v : ByteArray} {g : Nat} {W : World} (h : Sh B w0 most [(k, v)] g W) (hk : k.size ≤ maxLen) :
    Calls Try.prog 51 #[.pointer (some ⟨g, 0, none⟩), .string k] W fun e W' => e = .returned (.bool true) ∧ Sh B w0 most [] g W' := by
  have hB := h.ge
  obtain ⟨h1, c, top, h2, h3⟩ := h
  have hgh := h2.heap
  have hgl := lt_of_heap hgh
  have hg1 := h2.g_ne
  cases h2.top with
  | none hx hc => cases hx
  | some d q ha hx hgc hc =>
    have hcount := ha.count (Nat.le_refl _)
    rw [hx] at hcount
    have hd : d = 0 := by
      rcases Nat.eq_zero_or_pos d with e | e
      · exact e
      · have : 4 ^ 1 ≤ 4 ^ d := Nat.pow_le_pow_right (by omega) e
        simp at hcount
        omega
    subst hd
    have hdel := fun (X : World) (hb : Below W.heap.size W X) => ndel_one (v := v) (ha.keep fun j hj => hb.block j (ha.lt j hj)) hx hk (W := X)
    have HDEL := hid hdel
    have H1 := hid h1
    have H3 := hid h3
    have HC := hid hc
    have HGC := hid hgc
    have hcg := fun i => cell_of_row W g i _ _ (0, 0) hgh
    have HGH := hid hgh
    have hqg : q.p ≠ g := fun e => by
      obtain ⟨iv, bv, hN, _⟩ := ha
      have e1 := hN.cnt q.p
      rw [one_self, e, hgc] at e1; omega
    have hpl : q.p < W.heap.size := by obtain ⟨iv, bv, hN, _⟩ := ha; exact hN.lt
    clear h1 h2 h3 hc hgc hdel hgh hx ha hcount hg1
    go_enter Try.func51, Try.ntmps51
    go_wp2_with fail
    refine (HDEL.out _ (Below.refl _ _)).mono ?_
    rintro _ W5 ⟨rfl, ri, ci, bo, bc, hp5, hc5⟩
    have hg5 : W5.heap[g]? = some (shfObj most 1 (.pointer (some ⟨q.p, 0, none⟩))) := (hc5.block g hgl (by rw [HGC.out]; simp)).trans HGH.out
    have hl5 := lt_of_heap hg5
    have hlp5 := lt_of_heap hp5
    have hcp := fun i => cell_of_row W5 q.p i _ _ (0, 0) hp5
    have hne : ((⟨q.p, 0, none⟩ : Addr) = ⟨g, 0, none⟩) = False := by simp only [Addr.mk.injEq, eq_iff_iff, iff_false]; omega
    have HC5 := hid hc5
    have HP5 := hid hp5
    clear hc5 hp5
    rw [← put_self hg5]
    clear hg5
    go_wp2_with fail
    (((with_reducible refine (leaf_is _ q.p _ _ _ _ ((heap_put_other _ _ _ _ hqg).trans HP5.out) true rfl).mono ?_)); rintro _ _ ⟨rfl, u6, rfl⟩)
    have hg6 : u6.val.heap[g]? = some (shfObj most 0 (.pointer (some ⟨q.p, 0, none⟩))) := (u6.below.block g (by rw [size_put]; exact hl5)).trans (heap_put_at _ _ _ hl5)
    have hl6 := lt_of_heap hg6
    have HC6 := hid (show Chg (fun j => c j ≠ 0) W u6.val from ((HC5.out.mono fun j _ hj => by rw [HC.out]; omega).put (fun _ => by rw [HC.out, one_self]; omega) _).trans (Chg.of_below (S := fun j => c j ≠ 0) u6.below) (fun _ _ h => h))
    generalize u6.val = W6 at hg6 hl6 HC6 ⊢
    rw [← put_self hg6]
    clear hg6 hcp
    go_wp2_with fail
    go_ret
    refine ⟨rfl, Sh.upd (xs := [(k, v)]) (c := c) H1.out H3.out hB (shf_new most (heap_put_at _ _ _ hl6)) ⟨HC6.out.put (fun _ => by rw [HC.out, one_self]; omega) _, one_le g, fun j _ => by rw [HC.out]; omega⟩⟩
set_option maxRecDepth 100000 in
set_option maxHeartbeats 4000000 in
theorem del_nil {B : Nat} {w0 : World} {most : Int} {g : Nat} {W : World} (h : Sh B w0 most [] g W) (k : ByteArray) :
    Calls Try.prog 51 #[.pointer (some ⟨g, 0, none⟩), .string k] W (Makes (.bool false) W) := by
  obtain ⟨h1, c, top, h2, h3⟩ := h
  have hgh := h2.heap
  have hgl := lt_of_heap hgh
  cases h2.top with
  | none hx hc =>
    have hcg := fun i => cell_of_row W g i _ _ (0, 0) hgh
    clear h2 hgh
    go_enter Try.func51, Try.ntmps51
    go_wp2_with (first | (((with_reducible refine wp_region_fut_lit (by kernel_rfl) (by kernel_rfl) ?_)); (repeat (go_big_quiet_step ((first | fail)))); ((with_reducible refine wpQuiet_nil ?_)); rintro _ ⟨u, rfl⟩; (try (rw [Fut.put_self u (by first | assumption | (simp [go_sem]; done) | (simp [go_sem]; omega))]))))
    go_ret; exact .mk (by first | rfl | (simp; done) | (simp; omega)) (by repeat' (first | exact Below.refl _ _ | with_reducible assumption | omega | with_reducible refine below_put_fut ?_ ?_ _ | with_reducible refine below_to_put ?_ | with_reducible refine Below.alloc ?_ ?_ _ | with_reducible refine Below.fut ?_ ?_ _ | with_reducible refine Below.drew ?_ | with_reducible refine Below.setCell ?_ ?_ _ | with_reducible refine Below.atPut ?_ ?_ _ | (simp [go_sem]; done) | (simp [go_sem]; omega)))
  | some d q ha hx hgc hc =>
    have := ha.count (Nat.le_refl _)
    have hp : 1 ≤ 4 ^ d := Nat.pow_pos (by omega)
    rw [hx] at this
    simp at this
end Go.Proofs.Ythknenhcnpgkcaa
