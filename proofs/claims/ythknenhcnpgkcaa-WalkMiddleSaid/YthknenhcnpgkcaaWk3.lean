import Derived.Test.YthknenhcnpgkcaaWk2
/- Package walk: Rank. -/
namespace Go.Proofs.Ythknenhcnpgkcaa
open Go.RowKit Go.Shelf
attribute [local go_sem] Oper.semAt_some
set_option linter.unusedVariables false
set_option linter.unusedSimpArgs false
/-- How many items are ahead of a key. -/
def rankL (k : ByteArray) (xs : List It) : Nat := (xs.filter fun x => lt x.1 k).length
theorem rankL_cut {A B : List It} {y : It} {k : ByteArray} (hr : Rises (A ++ y :: B)) (h1 : ∀ x ∈ A, lt x.1 k = true) (h2 : lt y.1 k = false) : rankL k (A ++ y :: B) = A.length := by
  obtain ⟨_, h3, _, _⟩ := hr.mid
  unfold rankL
  rw [List.filter_append, List.filter_eq_self.2 h1, List.filter_eq_nil_iff.2, List.append_nil]
  intro z hz e
  rcases List.mem_cons.1 hz with rfl | hz
  · rw [h2] at e; cases e
  · rw [lt_trans (h3 z hz) e] at h2; cases h2
set_option maxRecDepth 100000 in
set_option maxHeartbeats 4000000 in
theorem rank_gen {xs : List It} {g : Option Addr} {W : World} (h : Gives g xs W) (hn : xs.length ≤ 900) (hrises : Rises xs) (hsmall : ∀ x ∈ xs, x.1.size ≤ maxLen) (k : ByteArray) (hk : k.size ≤ maxLen) :
    Calls Try.prog 39 #[.pointer g, .string k] W (Makes (.int .i64 (rankL k xs : Nat)) W) := by
  refine callsIn_wide.1 (callsIn_of_wp_marks (n := 9) Try.func39 rfl trivial ?_ rfl)
  rw [wpIn_wide]
  simp only [Try.ntmps39, List.size_toArray, List.length_cons, List.length_nil, Nat.reduceAdd, Nat.reduceSub, Array.replicate_succ, Array.replicate_zero, List.push_toArray, List.append_toArray, List.nil_append, List.cons_append]
  go_wp2_with fail
  go_step3
  go_wp2_with fail
  go_step3
  go_wp2_with fail
  (((with_reducible refine (walkAll_is (.pointer g) _ rfl).mono ?_)); rintro _ _ ⟨rfl, rfl⟩)
  go_wp2_with fail
  have h4 : ((((W.alloc (.cells #[.string k] 9)).alloc (.cells #[.int .i64 0] 3)).alloc (.cells #[.pointer g] 23))).heap[W.heap.size]? = some (.cells #[.string k] 9) := (by repeat' (first | rfl | assumption | (with_reducible refine (heap_drew_eq _ _).trans ?_) | (refine (Fut.heap _ _ ?_).trans ?_ ; focus (first | assumption | omega | (simp [go_sem]; done) | (simp [go_sem]; omega))) | (refine (heap_put_at _ _ _ ?_).trans ?_ ; focus (first | assumption | omega | (simp [go_sem]; done) | (simp [go_sem]; omega))) | (refine (heap_put_other _ _ _ _ ?_).trans ?_ ; focus (first | assumption | omega | (simp [go_sem]; done) | (simp [go_sem]; omega))) | (refine (heap_alloc_other _ _ _ ?_).trans ?_ ; focus (first | assumption | omega | (simp [go_sem]; done) | (simp [go_sem]; omega))) | (refine (heap_alloc_at _ _ _ ?_).trans ?_ ; focus (first | assumption | omega | (simp [go_sem]; done) | (simp [go_sem]; omega))) | (simp [go_sem]; done) | (simp [go_sem]; omega)))
  have h5 : ((((W.alloc (.cells #[.string k] 9)).alloc (.cells #[.int .i64 0] 3)).alloc (.cells #[.pointer g] 23))).heap[W.heap.size + 1]? = some (.cells #[.int .i64 0] 3) := (by repeat' (first | rfl | assumption | (with_reducible refine (heap_drew_eq _ _).trans ?_) | (refine (Fut.heap _ _ ?_).trans ?_ ; focus (first | assumption | omega | (simp [go_sem]; done) | (simp [go_sem]; omega))) | (refine (heap_put_at _ _ _ ?_).trans ?_ ; focus (first | assumption | omega | (simp [go_sem]; done) | (simp [go_sem]; omega))) | (refine (heap_put_other _ _ _ _ ?_).trans ?_ ; focus (first | assumption | omega | (simp [go_sem]; done) | (simp [go_sem]; omega))) | (refine (heap_alloc_other _ _ _ ?_).trans ?_ ; focus (first | assumption | omega | (simp [go_sem]; done) | (simp [go_sem]; omega))) | (refine (heap_alloc_at _ _ _ ?_).trans ?_ ; focus (first | assumption | omega | (simp [go_sem]; done) | (simp [go_sem]; omega))) | (simp [go_sem]; done) | (simp [go_sem]; omega)))
  have hBx : ((((W.alloc (.cells #[.string k] 9)).alloc (.cells #[.int .i64 0] 3)).alloc (.cells #[.pointer g] 23))).heap[W.heap.size + 1 + 1]? = some (.cells #[.pointer g] 23) := (by repeat' (first | rfl | assumption | (with_reducible refine (heap_drew_eq _ _).trans ?_) | (refine (Fut.heap _ _ ?_).trans ?_ ; focus (first | assumption | omega | (simp [go_sem]; done) | (simp [go_sem]; omega))) | (refine (heap_put_at _ _ _ ?_).trans ?_ ; focus (first | assumption | omega | (simp [go_sem]; done) | (simp [go_sem]; omega))) | (refine (heap_put_other _ _ _ _ ?_).trans ?_ ; focus (first | assumption | omega | (simp [go_sem]; done) | (simp [go_sem]; omega))) | (refine (heap_alloc_other _ _ _ ?_).trans ?_ ; focus (first | assumption | omega | (simp [go_sem]; done) | (simp [go_sem]; omega))) | (refine (heap_alloc_at _ _ _ ?_).trans ?_ ; focus (first | assumption | omega | (simp [go_sem]; done) | (simp [go_sem]; omega))) | (simp [go_sem]; done) | (simp [go_sem]; omega)))
  have hbV : Below W.heap.size W ((((W.alloc (.cells #[.string k] 9)).alloc (.cells #[.int .i64 0] 3)).alloc (.cells #[.pointer g] 23))) := (by repeat' (first | exact Below.refl _ _ | with_reducible assumption | omega | with_reducible refine below_put_fut ?_ ?_ _ | with_reducible refine below_to_put ?_ | with_reducible refine Below.alloc ?_ ?_ _ | with_reducible refine Below.fut ?_ ?_ _ | with_reducible refine Below.drew ?_ | with_reducible refine Below.setCell ?_ ?_ _ | with_reducible refine Below.atPut ?_ ?_ _ | (simp [go_sem]; done) | (simp [go_sem]; omega)))
  generalize (((W.alloc (.cells #[.string k] 9)).alloc (.cells #[.int .i64 0] 3)).alloc (.cells #[.pointer g] 23)) = V at h4 h5 hBx hbV ⊢
  have hV4 := lt_of_heap hBx
  have hVs := hbV.size
  refine wpIn_wide.1 (wpIn_rangeFunc_ownH (F := Fence.wide) (n := 9) rfl (by omega) (gf := 78) (lb := #[.pointer (some ⟨W.heap.size + 1 + 1, 0, none⟩)]) rfl trivial (enters_of Try.func78 (by kernel_rfl) rfl)
    (walkAll1_gen 8 (h.on hbV) hn (W.heap.size + 1 + 1) (cell_of_row _ _ 0 _ _ (0, 0) hBx) xs.attach Subtype.val (List.attach_map_subtype_val xs) (fen_S (fun r => r = W.heap.size + 1)) (fun W' r hb hr e => by have := hb.size; omega)) (fun h k => h.trans k) (fun X q o o' hq hX hc _ => KpS.putObj _ X q o o' hX hc) (Below.refl _ _) (fun _ => rfl)
    (fun pre X => ((X.heap[W.heap.size]? = some (.cells #[.string k] 9) ∧ X.heap[W.heap.size + 1]? = some (.cells #[.int .i64 (pre.length : Nat)] 3)) ∧ Below W.heap.size W X) ∧ pre.length ≤ 1000 ∧ ∀ y ∈ pre, lt y.1.1 k = true)
    (fun c pre X => (c = .exit 0 ∧ ∃ p y, pre = p ++ [y] ∧ (∀ y ∈ p, lt y.1.1 k = true) ∧ lt y.1.1 k = false ∧ X.heap[W.heap.size + 1]? = some (.cells #[.int .i64 (p.length : Nat)] 3)) ∧ Below W.heap.size W X)
    ?hI ?hIx ⟨⟨⟨h4, h5⟩, hbV⟩, by simp, by simp⟩
    (fun y a' X => a' = { tmps := #[.pointer g, .string k, undef, .pointer (some ⟨W.heap.size, 0, none⟩), .int .i64 0, .pointer (some ⟨W.heap.size + 1, 0, none⟩), .string y.1.1, .pointer g, .func (.func 78) #[] #[.pointer (some ⟨W.heap.size + 1 + 1, 0, none⟩)], .string y.1.1, .string y.1.2, undef, undef, undef, undef, undef, undef, undef], defers := [] })
    (fun x a' s X Y row hs hg hr => hs) ?assign ?body ?done ?stop)
  case hI => exact OwnFrom.and (OwnFrom.and (OwnFrom.and (ownFrom_heap _ _ (fun _ => #[.string k]) _ _) (ownFrom_heap _ _ (fun pre : List {x // x ∈ xs} => #[.int .i64 (pre.length : Nat)]) _ _)) (ownFrom_below (Nat.le_refl _) hVs)) (fun _ _ _ _ hs _ _ => hs)
  case hIx =>
    exact fun c => OwnFrom.and (fun s X Y row hs hg hr => by
      obtain ⟨h1, p, y, h2, h3, h6, h7⟩ := hs
      exact ⟨h1, p, y, h2, h3, h6, (grownBy_keeps_cells hg (fun r e => (hr r e).2) h7 rfl).trans h7⟩) (ownFrom_below (Nat.le_refl _) hVs)
  case assign =>
    rintro ll pre y X K ⟨⟨⟨i4, i5⟩, iB⟩, iL, iO⟩ hK
    refine wpIn_region_lit ?_
    refine wpListIn_runTo (fun _ => trivial) rfl (fun _ h => by cases h) (some 6) rfl (.string y.1.1) X (by simp [execOp, Act.eval]) ?_
    refine wpListIn_nil ?_
    exact hK _ _ (KeepsFrom.chg (S := fun _ => False) (Chg.refl _ _) (fun k hk => hk.elim)) (KpS.refl _ _) ⟨⟨⟨i4, i5⟩, iB⟩, iL, iO⟩ (by simp [Act.put])
  case body =>
    rintro ll pre y a' X hll hr ⟨⟨⟨i4, i5⟩, iB⟩, iL, iO⟩ rfl hlen
    have hx4 := lt_of_heap i4
    have hx5 := lt_of_heap i5
    have hXs := iB.size
    have e4 := fun i => cell_of_row X W.heap.size i _ _ (0, 0) i4
    have hys := hsmall y.1 y.2
    have I4 := hid i4
    have I5 := hid i5
    have IB := hid iB
    have IO := hid iO
    rw [List.length_attach] at hlen
    obtain ⟨r, hr2⟩ : ∃ r, Op.bytesLess y.1.1.data.toList k.data.toList = r := ⟨_, rfl⟩
    have HR := hid (show lt y.1.1 k = r from hr2)
    clear hr i4 i5 iB iO
    gi_wp2_with fail
    refine ⟨trivial, CallsIn.inRound _ (callsIn_wide.2 ((less_is _ _ hys hk _ hr2 _).mono ?_))⟩
    rintro _ _ ⟨rfl, u, rfl⟩
    have HU := hid u.below
    have hu := u.below.size
    have j5 : u.val.heap[W.heap.size + 1]? = some (.cells #[.int .i64 (pre.length : Nat)] 3) := (HU.out.block _ hx5).trans I5.out
    clear hr2
    cases r
    · gi_wp2_with fail
      exact ⟨KeepsFrom.chg (S := fun _ => False) (Chg.of_below u.below) (fun k hk => hk.elim), ⟨rfl, pre, y, rfl, IO.out, HR.out, j5⟩, IB.out.trans (HU.out.mono hXs)⟩
    · have HO := hid (show ∀ z ∈ pre ++ [y], lt z.1.1 k = true from fun z hz => by
        rcases List.mem_append.1 hz with hz | hz
        · exact IO.out z hz
        · obtain rfl := List.mem_singleton.1 hz; exact HR.out)
      have e1 : IntKind.i64.wrap ((pre.length : Int) + 1) = (pre.length : Int) + 1 := IntWalk.i64_in _ (by omega)
      have hbl : Below W.heap.size W (put u.val (W.heap.size + 1) (.cells #[.int .i64 ((pre.length : Int) + 1)] 3)) := Below.atPut (IB.out.trans (HU.out.mono hXs)) (by omega) _
      have HCH := hid ((Chg.of_below (S := fun k => k = W.heap.size + 1) u.below).put (fun _ => rfl) (.cells #[.int .i64 ((pre.length : Int) + 1)] 3))
      have HBL := hid hbl
      have h5u := lt_of_heap j5
      have HJ5 := hid j5
      clear hbl
      rw [← put_self j5]
      clear j5
      gi_wp2_with fail
      exact ⟨KeepsFrom.chg HCH.out (fun k hk => by subst hk; omega), KpS.chg HCH.out, ⟨⟨(heap_put_other _ _ _ _ (by omega)).trans ((HU.out.block _ hx4).trans I4.out), by rw [List.length_append]; exact heap_put_at _ _ _ h5u⟩, HBL.out⟩, by rw [List.length_append]; simp; omega, HO.out⟩
  case done =>
    rintro D ys X hD rfl ⟨⟨⟨i4, i5⟩, iB⟩, iL, iO⟩ hK
    have hx5 := lt_of_heap i5
    have e5 := fun i => cell_of_row X (W.heap.size + 1) i _ _ (0, 0) i5
    have IB := hid iB
    have HK := hid hK
    have HO := hid (show rankL k xs = xs.attach.length from by
      unfold rankL
      rw [List.filter_eq_self.2 fun x hx => iO ⟨x, hx⟩ (List.mem_attach _ _), List.length_attach])
    clear i4 iB hK iO i5
    go_wp2_with fail
    rw [Exit.noGoto_ret]
    refine ⟨by simp, .inl ⟨_, _, rfl, run_takeDeferred HK.out, ?_⟩⟩
    exact ⟨.int .i64 (rankL k xs : Nat), by rw [HO.out]; simp [results, Try.results39, go_sem], .mk rfl (IB.out.trans (belowK_b (w := W) (Nat.le_refl _) X D _ _ (by omega) HK.out rfl rfl))⟩
  case stop =>
    rintro D c pre X hD ⟨q, hq, rfl⟩ ⟨⟨rfl, p, y, hp, h3, h6, i5⟩, iB⟩ hK
    have hx5 := lt_of_heap i5
    have e5 := fun i => cell_of_row X (W.heap.size + 1) i _ _ (0, 0) i5
    have IB := hid iB
    have HK := hid hK
    have HO := hid (show rankL k xs = p.length from by
      have hx : xs = p.map Subtype.val ++ y.1 :: (xs.attach.drop q).map Subtype.val := by
        rw [← List.map_cons, ← List.map_append, List.append_cons, ← hp, List.take_append_drop, List.attach_map_subtype_val]
      have := rankL_cut (k := k) (hx ▸ hrises) (fun x hx => by obtain ⟨z, hz, rfl⟩ := List.mem_map.1 hx; exact h3 z hz) h6
      rw [← hx, List.length_map] at this
      exact this)
    clear iB hK i5 h3 h6 hp
    rw [wpIn_wide]
    go_wp2_with fail
    rw [Exit.noGoto_ret]
    refine ⟨by simp, .inl ⟨_, _, rfl, run_takeDeferred HK.out, ?_⟩⟩
    exact ⟨.int .i64 (rankL k xs : Nat), by rw [HO.out]; simp [results, Try.results39, go_sem], .mk rfl (IB.out.trans (belowK_b (w := W) (Nat.le_refl _) X D _ _ (by omega) HK.out rfl rfl))⟩
theorem rank_is {B0 : Nat} {w0 : World} {most : Int} {xs : List It} {g : Nat} {W : World} (h : Sh B0 w0 most xs g W) (hn : xs.length ≤ 900) (k : ByteArray) (hk : k.size ≤ maxLen) :
    Calls Try.prog 39 #[.pointer (some ⟨g, 0, none⟩), .string k] W (Makes (.int .i64 (rankL k xs : Nat)) W) :=
  rank_gen (h.gives hn) hn (by obtain ⟨_, c, top, h3, _⟩ := h; exact h3.rises) (fun x hx => by obtain ⟨_, c, top, h3, _⟩ := h; exact (h3.small x hx).1) k hk
theorem rank_nil (W : World) (k : ByteArray) (hk : k.size ≤ maxLen) : Calls Try.prog 39 #[.pointer none, .string k] W (Makes (.int .i64 0) W) :=
  rank_gen (gives_nil W) (by simp) List.Pairwise.nil (fun x hx => by cases hx) k hk
end Go.Proofs.Ythknenhcnpgkcaa
