/- Texts of this proof, merged: Sh9, ShA. -/
import Derived.Test.YthknenhcnpgkcaaGreatSh8
/- Contracts of package shelf: Put into a shelf that holds nothing; Put. -/
namespace Go.Proofs.YthknenhcnpgkcaaGreat
open Go.RowKit
set_option linter.unusedVariables false
set_option linter.unusedSimpArgs false
set_option maxRecDepth 100000 in
set_option maxHeartbeats 8000000 in
theorem put_nil {most : Int} {W : World} {g : Nat} {c : Cnt} (h : Shf most [] W g c (.pointer none)) (hc : ∀ k, c k = one g k)
    (k v : ByteArray) (hk : ¬ (k.size < 1 ∨ 16 < k.size)) (hv : ¬ 16 < v.size) (hm : (0 : Int) < most) :
    Calls Tryz.prog 22 #[.pointer (some ⟨g, 0, none⟩), .string k, .string v] W (PutTo most k v [] g c W) := by
  have H := hid h
  have hgl := lt_of_heap h.heap
  have HC := hid hc
  clear h hc
  have e : rightN k.size = 0 := by unfold rightN; rw [if_neg hk]
  have e2 : valueN v.size = 0 := by unfold valueN; rw [if_neg hv]
  have HP := hid (show putL most k v [] = (0, insL (k, v) []) by
    unfold putL
    rw [if_neg hk, if_neg hv, show valueOf k [] = none from rfl, if_neg (by simp), if_neg (by simp; omega)])
  have hv1 : v.size ≤ 1000 := by omega
  have hk1 : k.size ≤ 1000 := by omega
  have HK := hid (small_of (v := k) (by omega))
  have HV := hid (small_of (v := v) (by omega))
  have hmd : decide (most ≤ 0) = false := by simp; omega
  clear hk hv
  go_enter Tryz.func22, Tryz.ntmps22
  go_wp2_with fail
  (((with_reducible refine (right_is _ 0 e _).mono ?_)); rintro _ _ ⟨rfl, u1, rfl⟩)
  go_wp2_with fail
  (((with_reducible refine (value_is _ 0 e2 _).mono ?_)); rintro _ _ ⟨rfl, u2, rfl⟩)
  go_wp2_with fail
  (((with_reducible refine (clone_is _ _ hv1).mono ?_)); rintro _ _ ⟨rfl, u3, rfl⟩)
  have hb3 : Below W.heap.size W u3.val := (by repeat' (first | exact Below.refl _ _ | with_reducible assumption | omega | with_reducible refine below_put_fut ?_ ?_ _ | with_reducible refine below_to_put ?_ | with_reducible refine Below.alloc ?_ ?_ _ | with_reducible refine Below.fut ?_ ?_ _ | with_reducible refine Below.drew ?_ | with_reducible refine Below.setCell ?_ ?_ _ | with_reducible refine Below.atPut ?_ ?_ _ | (simp [go_sem]; done) | (simp [go_sem]; omega)))
  have H3 := hid (H.out.on hb3)
  have HB3 := hid hb3
  clear hb3
  generalize u3.val = W3 at H3 HB3 ⊢
  go_wp2_with fail
  refine (find_any H3.out k HK.out).mono ?_
  rintro _ _ ⟨⟨rfl, -⟩ | ⟨w0, p, at_, d', q', -, ht, _⟩, u4, rfl⟩
  rotate_left
  · cases ht
  have hb4 := HB3.out.trans (u4.below.mono HB3.out.size)
  have hg4 : u4.val.heap[g]? = some (shfObj most 0 (.pointer none)) := (u4.below.block g (lt_of_heap H3.out.heap)).trans H3.out.heap
  have HB4 := hid hb4
  have HG4 := hid hg4
  have hl4 := lt_of_heap hg4
  clear hm hb4 hg4
  generalize u4.val = W4 at HB4 HG4 hl4 ⊢
  have hz4 := HB4.out.size
  rw [← put_self HG4.out]
  go_wp2_with (first | (((with_reducible refine wp_region_fut_lit (by kernel_rfl) (by kernel_rfl) ?_)); (repeat (go_big_quiet_step ((first | fail)))); ((with_reducible refine wpQuiet_nil ?_)); rintro _ ⟨u, rfl⟩; (try (rw [Fut.put_self u (by first | assumption | (simp [go_sem]; done) | (simp [go_sem]; omega))]))))
  obtain ⟨P0, hP0⟩ : ∃ P0, W4.heap.size + u.n = P0 := ⟨_, rfl⟩
  obtain ⟨U, hU⟩ : ∃ U, u.val = U := ⟨_, rfl⟩
  have hub := u.below
  have hus := Fut.size u
  rw [hU] at hub hus ⊢
  rw [hP0] at ⊢
  rw [size_put, hP0] at hus
  rw [put_self HG4.out] at hub
  have hgU : g < U.heap.size := Nat.lt_of_lt_of_le hl4 hub.size
  have hX1g : (put (U.alloc (.cells #[.slice none 0 0, .slice none 0 0] 101)) g (.cells #[.int .i64 most, .int .i64 0, .pointer (some ⟨P0, 0, none⟩)] 94)).heap[g]? = some (.cells #[.int .i64 most, .int .i64 0, .pointer (some ⟨P0, 0, none⟩)] 94) := heap_put_at _ _ _ (by simp; omega)
  have hX1p : (put (U.alloc (.cells #[.slice none 0 0, .slice none 0 0] 101)) g (.cells #[.int .i64 most, .int .i64 0, .pointer (some ⟨P0, 0, none⟩)] 94)).heap[P0]? = some (.cells #[.slice none 0 0, .slice none 0 0] 101) := by
    rw [heap_put_other _ _ _ _ (by omega)]; exact heap_alloc_at _ _ _ hus.symm
  have HCX := hid (show Chg (fun j => j = g) W4 (put (U.alloc (.cells #[.slice none 0 0, .slice none 0 0] 101)) g (.cells #[.int .i64 most, .int .i64 0, .pointer (some ⟨P0, 0, none⟩)] 94)) from ((Chg.of_below (S := fun j => j = g) hub).alloc _).put (fun _ => rfl) _)
  have hP1 : W4.heap.size ≤ P0 := by have := hub.size; omega
  clear hub hus hP0 hU hgU
  generalize (put (U.alloc (.cells #[.slice none 0 0, .slice none 0 0] 101)) g (.cells #[.int .i64 most, .int .i64 0, .pointer (some ⟨P0, 0, none⟩)] 94)) = X1 at hX1g hX1p HCX ⊢
  clear HG4
  have hcX := fun i => cell_of_row X1 g i _ _ (0, 0) hX1g
  have hlX := lt_of_heap hX1g
  have hPl := lt_of_heap hX1p
  have hPg : P0 ≠ g := by omega
  obtain ⟨q, hq⟩ : ∃ q : Kid, q = ⟨P0, [], one P0⟩ := ⟨_, rfl⟩
  have HA0 : At 0 0 X1 q := by
    subst hq
    exact ⟨.slice none 0 0, .slice none 0 0, ⟨hX1p, World.ownsRow_nil _ _ _ _, World.ownsRow_nil _ _ _ _, fun k => by rw [blk_nil]; simp [sumC], one_le P0⟩, Nat.zero_le _, by simp⟩
  have hqp : P0 = q.p := by rw [hq]
  have HQX := hid (show q.xs = [] by rw [hq])
  have HGC := hid (show q.c g = 0 by rw [hq]; exact one_if (Ne.symm hPg))
  have HQ1 := hid (show ∀ j, j < W4.heap.size → q.c j = 0 from fun j hj => by rw [hq]; exact one_if (by omega))
  have HA := hid HA0
  have HX1G := hid hX1g
  rw [hqp] at hcX ⊢
  have HX1P := hid hqp
  clear HA0 hX1g hX1p hq
  have HPUT := hid (fun (X : World) (hb : Below X1.heap.size X1 X) => put_is 0 0 X q (k, v) (HA.out.keep fun j hj => hb.block j (HA.out.lt j hj)) (by rw [HQX.out]; exact List.Pairwise.nil) (by rw [HQX.out]; exact fun i hi => by cases hi) HK.out HV.out (by rw [HQX.out]; exact fun y hy => by cases hy) (by omega))
  have HQL := hid (show ∀ j, q.c j ≠ 0 → j < X1.heap.size from fun j hj => HA.out.lt j hj)
  have HQZ := hid (show ∀ j, X1.heap.size ≤ j → q.c j = 0 from fun j hj => by
    rcases Nat.eq_zero_or_pos (q.c j) with e | e
    · exact e
    · exact absurd (HQL.out j (by omega)) (by omega))
  go_cut [11, 12] (fun s11 s12 wc => GotP 0 0 X1 q (k, v) wc s11 s12)
  case first =>
    go_region_with (first | (go_at_call 67; ((with_reducible refine (clone_is _ _ hk1).mono ?_)); rintro _ _ ⟨rfl, u9, rfl⟩; have hq9 := fun i => ((show Below X1.heap.size X1 u9.val from (by repeat' (first | exact Below.refl _ _ | with_reducible assumption | omega | with_reducible refine below_put_fut ?_ ?_ _ | with_reducible refine below_to_put ?_ | with_reducible refine Below.alloc ?_ ?_ _ | with_reducible refine Below.fut ?_ ?_ _ | with_reducible refine Below.drew ?_ | with_reducible refine Below.setCell ?_ ?_ _ | with_reducible refine Below.atPut ?_ ?_ _ | (simp [go_sem]; done) | (simp [go_sem]; omega)))).cell (p := ⟨g, i, none⟩) hlX).trans (hcX i)) | (go_at_call 69; ((with_reducible refine (HPUT.out _ (by repeat' (first | exact Below.refl _ _ | with_reducible assumption | omega | with_reducible refine below_put_fut ?_ ?_ _ | with_reducible refine below_to_put ?_ | with_reducible refine Below.alloc ?_ ?_ _ | with_reducible refine Below.fut ?_ ?_ _ | with_reducible refine Below.drew ?_ | with_reducible refine Below.setCell ?_ ?_ _ | with_reducible refine Below.atPut ?_ ?_ _ | (simp [go_sem]; done) | (simp [go_sem]; omega)))).mono ?_)); rintro en W5 hpost; obtain ⟨s1, s2, pr, rfl, hform⟩ := hpost.formL; clear hpost; have hs5 := hid (hform.out.size); have hbw := hid (PutFormL.bel (W := X1) hform.out (by repeat' (first | exact Below.refl _ _ | with_reducible assumption | omega | with_reducible refine below_put_fut ?_ ?_ _ | with_reducible refine below_to_put ?_ | with_reducible refine Below.alloc ?_ ?_ _ | with_reducible refine Below.fut ?_ ?_ _ | with_reducible refine Below.drew ?_ | with_reducible refine Below.setCell ?_ ?_ _ | with_reducible refine Below.atPut ?_ ?_ _ | (simp [go_sem]; done) | (simp [go_sem]; omega)))); first | ((refine (fun (hA0 : W5.heap[X1.heap.size]? = some (.cells #[.string ⟨#[]⟩, .string ⟨#[]⟩] 59)) => ?_) ?_); rotate_left; (focus (refine (hform.out.block ?_ (HQZ.out _ ?_)).trans ?_; (focus (first | assumption | (simp [go_sem]; done) | (simp [go_sem]; omega))); (focus omega); (focus (repeat' (first | rfl | assumption | (with_reducible refine (heap_drew_eq _ _).trans ?_) | (refine (Fut.heap _ _ ?_).trans ?_ ; focus (first | assumption | omega | (simp [go_sem]; done) | (simp [go_sem]; omega))) | (refine (heap_put_at _ _ _ ?_).trans ?_ ; focus (first | assumption | omega | (simp [go_sem]; done) | (simp [go_sem]; omega))) | (refine (heap_put_other _ _ _ _ ?_).trans ?_ ; focus (first | assumption | omega | (simp [go_sem]; done) | (simp [go_sem]; omega))) | (refine (heap_alloc_other _ _ _ ?_).trans ?_ ; focus (first | assumption | omega | (simp [go_sem]; done) | (simp [go_sem]; omega))) | (refine (heap_alloc_at _ _ _ ?_).trans ?_ ; focus (first | assumption | omega | (simp [go_sem]; done) | (simp [go_sem]; omega))) | (simp [go_sem]; done) | (simp [go_sem]; omega)))); done)); have hl0 := lt_of_heap hA0; rw [← put_self hA0]) | ((refine (fun (hA0 : W5.heap[X1.heap.size + u9.n]? = some (.cells #[.string ⟨#[]⟩, .string ⟨#[]⟩] 59)) => ?_) ?_); rotate_left; (focus (refine (hform.out.block ?_ (HQZ.out _ ?_)).trans ?_; (focus (first | assumption | (simp [go_sem]; done) | (simp [go_sem]; omega))); (focus omega); (focus (repeat' (first | rfl | assumption | (with_reducible refine (heap_drew_eq _ _).trans ?_) | (refine (Fut.heap _ _ ?_).trans ?_ ; focus (first | assumption | omega | (simp [go_sem]; done) | (simp [go_sem]; omega))) | (refine (heap_put_at _ _ _ ?_).trans ?_ ; focus (first | assumption | omega | (simp [go_sem]; done) | (simp [go_sem]; omega))) | (refine (heap_put_other _ _ _ _ ?_).trans ?_ ; focus (first | assumption | omega | (simp [go_sem]; done) | (simp [go_sem]; omega))) | (refine (heap_alloc_other _ _ _ ?_).trans ?_ ; focus (first | assumption | omega | (simp [go_sem]; done) | (simp [go_sem]; omega))) | (refine (heap_alloc_at _ _ _ ?_).trans ?_ ; focus (first | assumption | omega | (simp [go_sem]; done) | (simp [go_sem]; omega))) | (simp [go_sem]; done) | (simp [go_sem]; omega)))); done)); have hl0 := lt_of_heap hA0; rw [← put_self hA0]) | skip))
    all_goals
      go_wp2_with fail
      go_meet
      first
        | exact GotP.mk (B := X1.heap.size) hform.out hbw.out HQL.out rfl rfl rfl (by rw [size_put]; exact Nat.le_refl _) (fun k _ hne => heap_put_other _ _ _ _ hne) (Nat.le_refl _) (.inl (by first | assumption | (simp [go_sem]; done) | (simp [go_sem]; omega))) (heap_put_at _ _ _ hl0)
        | exact GotP.mk (B := X1.heap.size + u9.n) hform.out hbw.out HQL.out rfl rfl rfl (by rw [size_put]; exact Nat.le_refl _) (fun k _ hne => heap_put_other _ _ _ _ hne) (Nat.le_add_right _ _) (.inl (by first | assumption | (simp [go_sem]; done) | (simp [go_sem]; omega))) (heap_put_at _ _ _ hl0)
        | exact GotP.mk (B := W5.heap.size) hform.out hbw.out HQL.out rfl rfl rfl (by simp) (fun k hk _ => heap_alloc_other _ _ _ hk) (by have := hbw.out.size; have := hs5.out; omega) (.inr (Nat.le_refl _)) (heap_alloc_at _ _ _ rfl)
  case rest =>
    obtain ⟨B, s1, s2, c5, rfl, h8, hB, h5B, hu, hl5, xs', hins, hcase⟩ := hcut
    have hgw : wc.heap[g]? = some (shfObj most 0 (.pointer (some ⟨q.p, 0, none⟩))) := by
      rw [hu.chg.block g hlX (by rw [HGC.out]; simp), HX1G.out, HX1P.out]; rfl
    have hgl2 := lt_of_heap hgw
    have hlen : xs'.length = 1 := by rw [hins.length, HQX.out]; rfl
    have hxe : xs' = insL (k, v) [] := by rw [hins.eq, HQX.out]
    rcases hcase with ⟨rfl, hA⟩ | ⟨rr, xs1, c1, rfl, hxs, hA, hA2, hc5⟩
    · have hA1 : At 0 1 wc ⟨q.p, xs', c5⟩ := by
        obtain ⟨iv, bv, h1, h2, h3⟩ := hA
        exact ⟨iv, bv, h1, by show 1 ≤ xs'.length; omega, h3⟩
      obtain ⟨f1, f2⟩ := fin_none (most := most) hu hlX HGC.out hA1 hins (by rw [HQX.out]; exact List.Pairwise.nil) (by rw [HQX.out]; exact fun i hi => by cases hi) HK.out HV.out
      have hobj : shfObj most xs'.length (.pointer (some ⟨q.p, 0, none⟩)) = .cells #[.int .i64 most, .int .i64 1, .pointer (some ⟨q.p, 0, none⟩)] 94 := by
        rw [hlen]; rfl
      rw [hobj] at f1 f2
      have HF := hid (show PutTo most k v [] g c W (.returned (.int .i64 0)) (put wc g (.cells #[.int .i64 most, .int .i64 1, .pointer (some ⟨q.p, 0, none⟩)] 94)) from
        ⟨_, _, by rw [HP.out], by rw [HP.out, ← hxe]; exact f1, Upd.of_below HB4.out (Upd.pre f2 (HCX.out.mono fun j _ hj => by subst hj; rw [HC.out, one_self]; omega) (fun j hj => by rw [HC.out, HQ1.out j hj]; omega))⟩)
      clear hu hl5 hins hA hA1 f1 f2 hobj h8 hxe hlen
      rw [← put_self hgw]
      clear hgw
      go_wp2_with fail
      go_ret
      exact HF.out
    · exfalso
      have h1 := hA2.count3 (Nat.le_refl _)
      rw [hxs, List.length_append, List.length_cons] at hlen
      omega
/-- Put, whatever is put. -/
theorem put_shf {most : Int} {xs : List It} {W : World} {g : Nat} {c : Cnt} {top : Value} (h : Shf most xs W g c top) (k v : ByteArray) (hn : xs.length ≤ 1000) :
    Calls Tryz.prog 22 #[.pointer (some ⟨g, 0, none⟩), .string k, .string v] W (PutTo most k v xs g c W) := by
  by_cases hk : k.size < 1 ∨ 16 < k.size
  · exact put_bad h k v (by omega)
  by_cases hv : 16 < v.size
  · exact put_bad h k v (by omega)
  by_cases hs : valueOf k xs = none
  · rcases Int.lt_or_le (xs.length : Int) most with hm | hm
    · have h' := h
      cases h.top with
      | none hx hc =>
        subst hx
        exact put_nil h' hc k v hk hv hm
      | some d q ha hx hg hc => exact put_some h' ha hx hg hc k v hk hv hs hm hn
    · exact put_full h k v hk hv hs hm
  · exact put_rep h k v hk hv hs
end Go.Proofs.YthknenhcnpgkcaaGreat

/- A shelf as the statements meet it. -/
namespace Go.Proofs.YthknenhcnpgkcaaGreat
open Go.RowKit
set_option linter.unusedVariables false
set_option linter.unusedSimpArgs false
/-- Block g is a shelf that holds xs; its blocks, and all that has changed since w0, lie behind B. -/
def Sh (B : Nat) (w0 : World) (most : Int) (xs : List It) (g : Nat) (W : World) : Prop := Below B w0 W ∧ ∃ c top, Shf most xs W g c top ∧ ∀ k, c k ≠ 0 → B ≤ k
theorem Sh.on {B : Nat} {w0 : World} {most : Int} {xs : List It} {g : Nat} {W W' : World} (h : Sh B w0 most xs g W) (hb : Below W.heap.size W W') (hB : B ≤ W.heap.size) : Sh B w0 most xs g W' := by
  obtain ⟨h1, c, top, h2, h3⟩ := h
  exact ⟨h1.trans (hb.mono hB), c, top, h2.on hb, h3⟩
theorem Sh.lt {B : Nat} {w0 : World} {most : Int} {xs : List It} {g : Nat} {W : World} (h : Sh B w0 most xs g W) : g < W.heap.size := by
  obtain ⟨h1, c, top, h2, h3⟩ := h
  exact lt_of_heap h2.heap
theorem Shf.g_ne {most : Int} {xs : List It} {W : World} {g : Nat} {c : Cnt} {top : Value} (h : Shf most xs W g c top) : c g = 1 := by
  cases h.top with
  | none hx hc => rw [hc, one_self]
  | some d q ha hx hg hc => rw [hc, one_self, hg]
theorem Sh.ge {B : Nat} {w0 : World} {most : Int} {xs : List It} {g : Nat} {W : World} (h : Sh B w0 most xs g W) : B ≤ W.heap.size := by
  obtain ⟨h1, c, top, h2, h3⟩ := h
  have := h3 g (by rw [h2.g_ne]; omega)
  have := lt_of_heap h2.heap
  omega
theorem Sh.upd {B : Nat} {w0 : World} {most : Int} {xs xs' : List It} {g : Nat} {W W' : World} {c c' : Cnt} {top' : Value} (h1 : Below B w0 W) (h3 : ∀ k, c k ≠ 0 → B ≤ k) (hB : B ≤ W.heap.size) (h : Shf most xs' W' g c' top') (hu : Upd W W' c c') : Sh B w0 most xs' g W' := by
  refine ⟨h1.trans (hu.chg.below hB h3), c', top', h, fun k hk => ?_⟩
  rcases Nat.lt_or_ge k W.heap.size with e | e
  · exact h3 k (by have := hu.old k e; omega)
  · omega
theorem sh_new (B : Nat) (w0 : World) (most m : Int) (hm : min (max most 0) 200 = m) (W : World) (hb : Below B w0 W) (hB : B ≤ W.heap.size) :
    Calls Tryz.prog 20 #[.int .i64 most] W fun e W' => e = .returned (.pointer (some ⟨W.heap.size, 0, none⟩)) ∧ Sh B w0 m [] W.heap.size W' := by
  refine (new_is W most m hm).mono ?_
  rintro _ _ ⟨rfl, rfl⟩
  exact ⟨rfl, hb.trans (Below.mono ((Below.refl _ _).alloc (Nat.le_refl _) _) hB), _, _, shf_new m (heap_alloc_at _ _ _ rfl), fun k hk => by rw [one_ne hk]; exact hB⟩
theorem sh_put {B : Nat} {w0 : World} {most : Int} {xs : List It} {g : Nat} {W : World} (h : Sh B w0 most xs g W) (hn : xs.length ≤ 1000) (k v : ByteArray) (r : Int) (xs' : List It) (he : putL most k v xs = (r, xs')) :
    Calls Tryz.prog 22 #[.pointer (some ⟨g, 0, none⟩), .string k, .string v] W fun e W' => e = .returned (.int .i64 r) ∧ Sh B w0 most xs' g W' := by
  have hB := h.ge
  obtain ⟨h1, c, top, h2, h3⟩ := h
  refine (put_shf h2 k v hn).mono ?_
  rintro _ W' ⟨c', top', rfl, h4, h5⟩
  rw [he] at h4 ⊢
  exact ⟨rfl, Sh.upd (xs := xs) h1 h3 hB h4 h5⟩
theorem sh_len {B : Nat} {w0 : World} {most : Int} {xs : List It} {g : Nat} {W : World} (h : Sh B w0 most xs g W) (n : Nat) (hn : xs.length = n) :
    Calls Tryz.prog 64 #[.pointer (some ⟨g, 0, none⟩)] W (Makes (.int .i64 n) W) := by
  obtain ⟨_, c, top, h3, _⟩ := h
  exact len_is h3 n hn
theorem sh_items {B : Nat} {w0 : World} {most : Int} {xs : List It} {g : Nat} {W : World} (h : Sh B w0 most xs g W) (hn : xs.length ≤ 1000) :
    Calls Tryz.prog 25 #[.pointer (some ⟨g, 0, none⟩)] W fun en W' => ∃ ao cc, en = .returned (.slice ao xs.length cc) ∧ Row W' 59 2 (.slice ao xs.length cc) xs.length (flat xs) ∧ Below W.heap.size W W' ∧ ∀ k, k < W.heap.size → blk (.slice ao xs.length cc) k = 0 := by
  obtain ⟨_, c, top, h3, _⟩ := h
  exact items_is h3 hn
end Go.Proofs.YthknenhcnpgkcaaGreat
