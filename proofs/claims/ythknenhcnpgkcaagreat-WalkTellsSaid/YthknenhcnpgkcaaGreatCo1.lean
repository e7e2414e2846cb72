/- Collect: as many as there are. -/
import Derived.Test.YthknenhcnpgkcaaGreatMv
namespace Go.Proofs.YthknenhcnpgkcaaGreat
open Go.RowKit Go.Shelf
attribute [local go_sem] Oper.semAt_some
set_option linter.unusedVariables false
set_option linter.unusedSimpArgs false
set_option maxRecDepth 100000 in
set_option maxHeartbeats 4000000 in
theorem collect_any {α : Type} (L : List α) (f : α → It) (N : Nat) (hN : N ≤ 900) (gf : Nat) (lb : Array Value) (W : World) (heg : ∀ args w, (callFunc gf args).run Tryz.prog w = .ok (.enter gf args) w)
    (hseq : ∀ (V : World) (A : Nat), Below W.heap.size W V → A < V.heap.size → W.heap.size ≤ A → ownOf A V = none → SeqOwn Fence.wide 8 Tryz.prog gf lb (fun x : α => #[.string (f x).1, .string (f x).2]) (KpO A) (fun ys => ys = L) (fun pre => ∃ k, k ≤ L.length ∧ pre = L.take k) N V)
    (most : Nat) (hm : 1 ≤ most) :
    Calls Tryz.prog 14 #[.func (.func gf) #[] lb, .int .i64 most] W fun e W' => ∃ ao n c, e = .returned (.slice ao n c) ∧ Row W' 59 2 (.slice ao n c) n (flat ((L.map f).take most)) ∧ n = min L.length most ∧ Below W.heap.size W W' ∧ ∀ k, k < W.heap.size → blk (.slice ao n c) k = 0 := by
  have d1 : decide ((most : Int) ≤ 0) = false := decide_eq_false (by omega)
  refine callsIn_wide.1 (callsIn_of_wp_marks (n := 9) Tryz.func14 rfl trivial ?_ rfl)
  rw [wpIn_wide]
  simp only [Tryz.ntmps14, List.size_toArray, List.length_cons, List.length_nil, Nat.reduceAdd, Nat.reduceSub, Array.replicate_succ, Array.replicate_zero, List.push_toArray, List.append_toArray, List.nil_append, List.cons_append]
  have d0 : decide (most = 0) = false := decide_eq_false (by omega)
  have hnf := fun w => eql_func_nil gf lb w
  go_wp2_with fail
  have h3 : (((W.alloc (.cells #[.int .i64 (most : Nat)] 3)).alloc (.cells #[.slice none 0 0] 22))).heap[W.heap.size]? = some (.cells #[.int .i64 (most : Nat)] 3) := (by repeat' (first | rfl | assumption | (with_reducible refine (heap_drew_eq _ _).trans ?_) | (refine (Fut.heap _ _ ?_).trans ?_ ; focus (first | assumption | omega | (simp [go_sem]; done) | (simp [go_sem]; omega))) | (refine (heap_put_at _ _ _ ?_).trans ?_ ; focus (first | assumption | omega | (simp [go_sem]; done) | (simp [go_sem]; omega))) | (refine (heap_put_other _ _ _ _ ?_).trans ?_ ; focus (first | assumption | omega | (simp [go_sem]; done) | (simp [go_sem]; omega))) | (refine (heap_alloc_other _ _ _ ?_).trans ?_ ; focus (first | assumption | omega | (simp [go_sem]; done) | (simp [go_sem]; omega))) | (refine (heap_alloc_at _ _ _ ?_).trans ?_ ; focus (first | assumption | omega | (simp [go_sem]; done) | (simp [go_sem]; omega))) | (simp [go_sem]; done) | (simp [go_sem]; omega)))
  have hA : (((W.alloc (.cells #[.int .i64 (most : Nat)] 3)).alloc (.cells #[.slice none 0 0] 22))).heap[W.heap.size + 1]? = some (.cells #[.slice none 0 0] 22) := (by repeat' (first | rfl | assumption | (with_reducible refine (heap_drew_eq _ _).trans ?_) | (refine (Fut.heap _ _ ?_).trans ?_ ; focus (first | assumption | omega | (simp [go_sem]; done) | (simp [go_sem]; omega))) | (refine (heap_put_at _ _ _ ?_).trans ?_ ; focus (first | assumption | omega | (simp [go_sem]; done) | (simp [go_sem]; omega))) | (refine (heap_put_other _ _ _ _ ?_).trans ?_ ; focus (first | assumption | omega | (simp [go_sem]; done) | (simp [go_sem]; omega))) | (refine (heap_alloc_other _ _ _ ?_).trans ?_ ; focus (first | assumption | omega | (simp [go_sem]; done) | (simp [go_sem]; omega))) | (refine (heap_alloc_at _ _ _ ?_).trans ?_ ; focus (first | assumption | omega | (simp [go_sem]; done) | (simp [go_sem]; omega))) | (simp [go_sem]; done) | (simp [go_sem]; omega)))
  have hbV : Below W.heap.size W (((W.alloc (.cells #[.int .i64 (most : Nat)] 3)).alloc (.cells #[.slice none 0 0] 22))) := (by repeat' (first | exact Below.refl _ _ | with_reducible assumption | omega | with_reducible refine below_put_fut ?_ ?_ _ | with_reducible refine below_to_put ?_ | with_reducible refine Below.alloc ?_ ?_ _ | with_reducible refine Below.fut ?_ ?_ _ | with_reducible refine Below.drew ?_ | with_reducible refine Below.setCell ?_ ?_ _ | with_reducible refine Below.atPut ?_ ?_ _ | (simp [go_sem]; done) | (simp [go_sem]; omega)))
  generalize ((W.alloc (.cells #[.int .i64 (most : Nat)] 3)).alloc (.cells #[.slice none 0 0] 22)) = V at h3 hA hbV ⊢
  have hV3 := lt_of_heap hA
  have hVs := hbV.size
  refine wpIn_wide.1 (wpIn_range_own (F := Fence.wide) (n := 9) rfl (by omega) (gf := gf) (lb := lb) rfl trivial heg
    (hseq V (W.heap.size + 1) hbV hV3 (by omega) (by unfold ownOf; rw [hA]; rfl)) (fun h k => h.trans k) (fun X q o o' hq hX hc => KpO.putObj _ hX hc (by omega)) (Below.refl _ _) (fun _ => rfl)
    (fun pre X => ((∃ v, ItemsIn (W.heap.size + 1) (pre.map f) X v) ∧ X.heap[W.heap.size]? = some (.cells #[.int .i64 (most : Nat)] 3) ∧ Below W.heap.size W X) ∧ pre.length < most)
    (fun c pre X => ((∃ v, ItemsIn (W.heap.size + 1) (pre.map f) X v) ∧ Below W.heap.size W X) ∧ c = .exit 0 ∧ pre.length = most)
    ?hI ?hIx ⟨⟨⟨_, ⟨hA, World.ownsRow_nil _ _ _ _⟩⟩, h3, hbV⟩, by simp; omega⟩
    (fun y a' => a' = { tmps := #[.func (.func gf) #[] lb, .int .i64 (most : Nat), undef, .pointer (some ⟨W.heap.size, 0, none⟩), .slice none 0 0, .pointer (some ⟨W.heap.size + 1, 0, none⟩), .string (f y).1, .string (f y).2, .func (.func gf) #[] lb, .bool false, .bool false, .int .i64 (most : Nat), .bool false, .bool false, .func (.func gf) #[] lb, .string (f y).1, .string (f y).2, undef, undef, undef, undef, undef, undef, undef, undef, undef, undef, undef], defers := [] })
    ?assign ?body ?done ?stop)
  case hI => exact OwnFrom.and (OwnFrom.and (ItemsIn.from f _ _) (OwnFrom.and (ownFrom_heap _ _ (fun _ => #[.int .i64 (most : Nat)]) _ _) (ownFrom_below (Nat.le_refl _) hVs))) (fun _ _ _ _ hs _ _ => hs)
  case hIx => exact fun c => OwnFrom.and (OwnFrom.and (ItemsIn.from f _ _) (ownFrom_below (Nat.le_refl _) hVs)) (fun _ _ _ _ hs _ _ => hs)
  case assign =>
    rintro ll pre y X K ⟨⟨iv, i3, iB⟩, iL⟩ hK
    have hA3 : W.heap.size + 1 < X.heap.size := by obtain ⟨v, hv⟩ := iv; exact lt_of_heap hv.heap
    have HK := hid hK
    have HIV := hid iv
    have HI3 := hid i3
    have HIB := hid iB
    clear hK iv i3 iB
    gi_wp2_with fail
    exact HK.out _ (by simp)
  case body =>
    rintro ll pre y a' X ⟨⟨⟨vi, iv⟩, i3, iB⟩, iL⟩ rfl hlen
    have hx3 := lt_of_heap i3
    have hxA := lt_of_heap iv.heap
    have hXs := iB.size
    have eA := fun i => cell_of_row X (W.heap.size + 1) i _ _ (0, 0) iv.heap
    have HI := hid iv
    have HB := hid iB
    have H3 := hid i3
    obtain ⟨b, he⟩ : ∃ b, ((((pre.map f ++ [f y]).length : Nat) : Int) == (most : Int)) = b := ⟨_, rfl⟩
    have hb : (b = true ↔ pre.length + 1 = most) := by rw [← he]; simp; omega
    have HPL := hid (show (pre.map f).length ≤ 900 by rw [List.length_map]; omega)
    have HBB := hid hb
    clear iv iB i3 hb
    obtain ⟨ao, cc, rfl⟩ := owns_slice HI.out.row
    have hpl := HPL.out
    generalize hnl : (pre.map f).length = n at HI hpl eA ⊢
    clear hnl
    cases b
    · gi_wp2_with (first | (gi_at_builtin; refine wpListIn_append_ex (by rfl) _ _ _ (by rfl) _ _ (by rfl) (by rfl) (HI.out.app (by repeat' (first | exact Below.refl _ _ | with_reducible assumption | omega | with_reducible refine below_put_fut ?_ ?_ _ | with_reducible refine below_to_put ?_ | with_reducible refine Below.alloc ?_ ?_ _ | with_reducible refine Below.fut ?_ ?_ _ | with_reducible refine Below.drew ?_ | with_reducible refine Below.setCell ?_ ?_ _ | with_reducible refine Below.atPut ?_ ?_ _ | (simp [go_sem]; done) | (simp [go_sem]; omega))) HPL.out (f y) (by repeat' (first | rfl | assumption | (with_reducible refine (heap_drew_eq _ _).trans ?_) | (refine (Fut.heap _ _ ?_).trans ?_ ; focus (first | assumption | omega | (simp [go_sem]; done) | (simp [go_sem]; omega))) | (refine (heap_put_at _ _ _ ?_).trans ?_ ; focus (first | assumption | omega | (simp [go_sem]; done) | (simp [go_sem]; omega))) | (refine (heap_put_other _ _ _ _ ?_).trans ?_ ; focus (first | assumption | omega | (simp [go_sem]; done) | (simp [go_sem]; omega))) | (refine (heap_alloc_other _ _ _ ?_).trans ?_ ; focus (first | assumption | omega | (simp [go_sem]; done) | (simp [go_sem]; omega))) | (refine (heap_alloc_at _ _ _ ?_).trans ?_ ; focus (first | assumption | omega | (simp [go_sem]; done) | (simp [go_sem]; omega))) | (simp [go_sem]; done) | (simp [go_sem]; omega)))) ?_; rintro v4 w4 ⟨hAb, hAl, hin, hkp, hbl, hkf⟩; obtain ⟨ao4, cc4, rfl⟩ := owns_slice hin.row; generalize (List.map f pre ++ [f y]).length = n4 at he hin hkp hbl hkf ⊢; have HIN := hid hin; have HKP := hid hkp; have HBL := hid hbl; have HKF := hid hkf; have j3 := cell_of_row w4 W.heap.size 0 _ _ (0, 0) ((heap_put_other _ _ _ _ (by omega)).symm.trans ((hbl.block _ (by omega)).trans H3.out)); clear hin hkp hbl hkf; rw [← put_self hAb]; clear hAb))
      exact ⟨HKF.out _, HKP.out, ⟨⟨⟨_, by rw [List.map_append]; exact HIN.out⟩, (HBL.out.block _ (by omega)).trans H3.out, HB.out.trans (HBL.out.mono (by omega))⟩, by have := HBB.out; rw [List.length_append]; simp at this ⊢; omega⟩⟩
    · gi_wp2_with (first | (gi_at_builtin; refine wpListIn_append_ex (by rfl) _ _ _ (by rfl) _ _ (by rfl) (by rfl) (HI.out.app (by repeat' (first | exact Below.refl _ _ | with_reducible assumption | omega | with_reducible refine below_put_fut ?_ ?_ _ | with_reducible refine below_to_put ?_ | with_reducible refine Below.alloc ?_ ?_ _ | with_reducible refine Below.fut ?_ ?_ _ | with_reducible refine Below.drew ?_ | with_reducible refine Below.setCell ?_ ?_ _ | with_reducible refine Below.atPut ?_ ?_ _ | (simp [go_sem]; done) | (simp [go_sem]; omega))) HPL.out (f y) (by repeat' (first | rfl | assumption | (with_reducible refine (heap_drew_eq _ _).trans ?_) | (refine (Fut.heap _ _ ?_).trans ?_ ; focus (first | assumption | omega | (simp [go_sem]; done) | (simp [go_sem]; omega))) | (refine (heap_put_at _ _ _ ?_).trans ?_ ; focus (first | assumption | omega | (simp [go_sem]; done) | (simp [go_sem]; omega))) | (refine (heap_put_other _ _ _ _ ?_).trans ?_ ; focus (first | assumption | omega | (simp [go_sem]; done) | (simp [go_sem]; omega))) | (refine (heap_alloc_other _ _ _ ?_).trans ?_ ; focus (first | assumption | omega | (simp [go_sem]; done) | (simp [go_sem]; omega))) | (refine (heap_alloc_at _ _ _ ?_).trans ?_ ; focus (first | assumption | omega | (simp [go_sem]; done) | (simp [go_sem]; omega))) | (simp [go_sem]; done) | (simp [go_sem]; omega)))) ?_; rintro v4 w4 ⟨hAb, hAl, hin, hkp, hbl, hkf⟩; obtain ⟨ao4, cc4, rfl⟩ := owns_slice hin.row; generalize (List.map f pre ++ [f y]).length = n4 at he hin hkp hbl hkf ⊢; have HIN := hid hin; have HKP := hid hkp; have HBL := hid hbl; have HKF := hid hkf; have j3 := cell_of_row w4 W.heap.size 0 _ _ (0, 0) ((heap_put_other _ _ _ _ (by omega)).symm.trans ((hbl.block _ (by omega)).trans H3.out)); clear hin hkp hbl hkf; rw [← put_self hAb]; clear hAb))
      exact ⟨HKF.out _, ⟨⟨_, by rw [List.map_append]; exact HIN.out⟩, HB.out.trans (HBL.out.mono (by omega))⟩, rfl, by have := HBB.out; rw [List.length_append]; simp at this ⊢; omega⟩
  case done =>
    rintro D ys X hD hys ⟨⟨⟨vi, iv⟩, i3, iB⟩, iL⟩ hK
    have hys : L = ys := hys.symm
    subst hys
    clear i3
    obtain ⟨ao, cc, rfl⟩ := owns_slice iv.row
    have hxA := lt_of_heap iv.heap
    have eA := fun i => cell_of_row X (W.heap.size + 1) i _ _ (0, 0) iv.heap
    have hfin := hid (fun o' => iv.fin hK o')
    have hfrs : ∀ k, k < W.heap.size → blk (.slice ao (L.map f).length cc) k = 0 := fun k hk => by
      rcases Nat.eq_zero_or_pos (blk (.slice ao (L.map f).length cc) k) with e | e
      · exact e
      · have := (iv.row.lt k (blk_ne (by omega))).1
        omega
    have HB := hid iB
    have HK := hid hK
    have HT := hid (show (L.map f).take most = L.map f by exact List.take_of_length_le (by rw [List.length_map]; omega))
    obtain ⟨n, hnl⟩ : ∃ n, (L.map f).length = n := ⟨_, rfl⟩
    have HN := hid (show n = min L.length most by rw [← hnl, List.length_map]; omega)
    rw [hnl] at hfin eA hfrs
    have HFRS := hid hfrs
    clear iv iB hK hnl hfrs
    go_wp2_with fail
    refine ⟨by simp, .inl ⟨_, _, rfl, run_takeDeferred HK.out, ?_⟩⟩
    exact ⟨.slice ao n cc, by simp [results, Tryz.results14, go_sem], ao, n, cc, rfl, by rw [HT.out]; exact hfin.out _, HN.out, HB.out.trans (belowK_b (w := W) (Nat.le_refl _) X D _ _ (by omega) HK.out rfl rfl), HFRS.out⟩
  case stop =>
    rintro D c pre X hD ⟨q, hq, rfl⟩ ⟨⟨⟨vi, iv⟩, iB⟩, rfl, iL⟩ hK
    rw [List.length_take] at iL
    obtain ⟨ao, cc, rfl⟩ := owns_slice iv.row
    have hxA := lt_of_heap iv.heap
    have eA := fun i => cell_of_row X (W.heap.size + 1) i _ _ (0, 0) iv.heap
    have hfin := hid (fun o' => iv.fin hK o')
    have hfrs : ∀ k, k < W.heap.size → blk (.slice ao ((L.take q).map f).length cc) k = 0 := fun k hk => by
      rcases Nat.eq_zero_or_pos (blk (.slice ao ((L.take q).map f).length cc) k) with e | e
      · exact e
      · have := (iv.row.lt k (blk_ne (by omega))).1
        omega
    have HB := hid iB
    have HK := hid hK
    have HT := hid (show (L.map f).take most = (L.take q).map f by rw [← List.map_take, show most = q by omega])
    obtain ⟨n, hnl⟩ : ∃ n, ((L.take q).map f).length = n := ⟨_, rfl⟩
    have HN := hid (show n = min L.length most by rw [← hnl, List.length_map]; rw [List.length_take]; omega)
    rw [hnl] at hfin eA hfrs
    have HFRS := hid hfrs
    clear iv iB hK hnl hfrs
    rw [wpIn_wide]
    go_wp2_with fail
    refine ⟨by simp, .inl ⟨_, _, rfl, run_takeDeferred HK.out, ?_⟩⟩
    exact ⟨.slice ao n cc, by simp [results, Tryz.results14, go_sem], ao, n, cc, rfl, by rw [HT.out]; exact hfin.out _, HN.out, HB.out.trans (belowK_b (w := W) (Nat.le_refl _) X D _ _ (by omega) HK.out rfl rfl), HFRS.out⟩
theorem attach_filter2 {xs : List It} (p : It → Bool) : (xs.attach.filter fun y => p y.1).map Subtype.val = xs.filter p := by
  have h2 := List.filter_map (f := Subtype.val) (p := p) (l := xs.attach)
  rw [List.attach_map_subtype_val] at h2
  rw [h2]
  rfl
/-- What Collect says of a list. -/
def Col (L : List It) (most : Nat) (W : World) (e : Ending) (W' : World) : Prop := ∃ ao n c, e = .returned (.slice ao n c) ∧ Row W' 59 2 (.slice ao n c) n (flat (L.take most)) ∧ n = min L.length most ∧ Below W.heap.size W W' ∧ ∀ k, k < W.heap.size → blk (.slice ao n c) k = 0
section
variable {xs : List It} {g : Option Addr} {W : World}
theorem colAll (h : Gives g xs W) (hn : xs.length ≤ 900) (s : Nat) (hS : W.heap[s]? = some (.cells #[.pointer g] 27)) (m : Nat) (hm : 1 ≤ m) :
    Calls Tryz.prog 14 #[.func (.func 24) #[] #[.pointer (some ⟨s, 0, none⟩)], .int .i64 m] W (Col xs m W) := by
  have := collect_any xs.attach Subtype.val xs.attach.length (by rw [List.length_attach]; omega) 24 #[.pointer (some ⟨s, 0, none⟩)] W (enters_of Tryz.func24 (by kernel_rfl) rfl)
    (fun V A hbV hA _ hA0 => SeqOwn.of_stops (walkAll1_gen 8 (h.on hbV) hn s (cell_of_row _ _ 0 _ _ (0, 0) ((hbV.block _ (lt_of_heap hS)).trans hS)) xs.attach Subtype.val (List.attach_map_subtype_val xs) (fen_O A) (fun W' r hb hr => fresh_O hA (fun r e => by rw [hA0] at e; cases e) W' r hb hr)))
    m hm
  rwa [List.attach_map_subtype_val, List.length_attach] at this
theorem colArc (h : Gives g xs W) (hn : xs.length ≤ 900) (hsm : ∀ x ∈ xs, x.1.size ≤ maxLen) {a b : Int} (ha : 0 ≤ a) (ha2 : a < 18446744073709551616) (hb : 0 ≤ b) (hb2 : b < 18446744073709551616) (s : Nat) (hS : W.heap[s]? = some (.cells #[.pointer g] 27)) (hab : W.heap[s + 1]? = some (.cells #[.int .u64 a, .int .u64 b] 25)) (m : Nat) (hm : 1 ≤ m) :
    Calls Tryz.prog 14 #[.func (.func 28) #[] #[.pointer (some ⟨s, 0, none⟩), .pointer (some ⟨s + 1, 0, none⟩)], .int .i64 m] W (Col (arcL a b xs) m W) := by
  have hle := arcL_len_le ha ha2 hb hb2 xs
  have := collect_any ((piecesA a b).flatMap fun p => xs.attach.filter fun y => inP p y.1) Subtype.val _ (by rw [arcL_attach_len]; omega) 28 #[.pointer (some ⟨s, 0, none⟩), .pointer (some ⟨s + 1, 0, none⟩)] W (enters_of Tryz.func28 (by kernel_rfl) rfl)
    (fun V A hbV hA _ hA0 => SeqOwn.of_stops (walkArc1_gen 8 (h.on hbV) hn hsm s ((hbV.block _ (lt_of_heap hS)).trans hS) a b hb ((hbV.block _ (lt_of_heap hab)).trans hab) xs.attach Subtype.val (List.attach_map_subtype_val xs) (fenA_OS (S := fun _ => False) hA (fun _ h => h.elim)) (fun W' r hb hr => fresh_O hA (fun r e => by rw [hA0] at e; cases e) W' r hb hr)))
    m hm
  rwa [arcL_attach, arcL_attach_len] at this
theorem colRange (h : Gives g xs W) (hn : xs.length ≤ 900) (hr : Rises xs) (hsm : ∀ x ∈ xs, x.1.size ≤ maxLen) (u v : ByteArray) (hu : u.size ≤ maxLen) (hv : v.size ≤ maxLen) (s t r : Nat) (hS : W.heap[s]? = some (.cells #[.pointer g] 27)) (hU : W.heap[t]? = some (.cells #[.string u] 9)) (hV : W.heap[r]? = some (.cells #[.string v] 9)) (m : Nat) (hm : 1 ≤ m) :
    Calls Tryz.prog 14 #[.func (.func 26) #[] #[.pointer (some ⟨s, 0, none⟩), .pointer (some ⟨t, 0, none⟩), .pointer (some ⟨r, 0, none⟩)], .int .i64 m] W (Col (rangeL u v xs) m W) := by
  have hal : (xs.attach.filter fun y => inR u v y.1).length = (rangeL u v xs).length := by rw [rangeL_inR, ← attach_filter2, List.length_map]
  have := collect_any (xs.attach.filter fun y => inR u v y.1) Subtype.val xs.attach.length (by rw [List.length_attach]; omega) 26 #[.pointer (some ⟨s, 0, none⟩), .pointer (some ⟨t, 0, none⟩), .pointer (some ⟨r, 0, none⟩)] W (enters_of Tryz.func26 (by kernel_rfl) rfl)
    (fun V A hbV hA hWA hA0 => by
      have hF : FenZ V.heap.size (fun k => k = t ∨ k = r) (KpOS A (fun _ => False)) (fun r X => A < X.heap.size ∧ r ≠ A ∧ ¬ False ∧ ownOf A X ≠ some r) := fenZ_OS (S := fun _ => False) hA (fun _ h => h.elim) (fun k hk => ⟨by
        have h1 := lt_of_heap hU; have h2 := lt_of_heap hV; omega, fun h => h⟩)
      have hfr : ∀ (W' : World) (r : Nat), Below V.heap.size V W' → W'.heap.size ≤ r → (A < W'.heap.size ∧ r ≠ A ∧ ¬ False ∧ ownOf A W' ≠ some r) := fun W' r hb hr => fresh_O hA (fun r e => by rw [hA0] at e; cases e) W' r hb hr
      exact walkRange1_own 8 (by omega) (h.on hbV) hn hr s t r ((hbV.block _ (lt_of_heap hS)).trans hS) u v hu hv ((hbV.block _ (lt_of_heap hU)).trans hU) ((hbV.block _ (lt_of_heap hV)).trans hV) xs.attach Subtype.val (fun y => hsm y.1 y.2) (List.attach_map_subtype_val xs) hF hfr)
    m hm
  rwa [attach_filter2, ← rangeL_inR, hal] at this
end
set_option maxRecDepth 100000 in
theorem colNone (f : Value) (W : World) (m : Int) (hm : m ≤ 0) (gf : Nat) (lb : Array Value) (hf : f = .func (.func gf) #[] lb) : Calls Tryz.prog 14 #[f, .int .i64 m] W (Makes (.slice none 0 0) W) := by
  subst hf
  have d1 : decide (m ≤ 0) = true := decide_eq_true hm
  have hnf := fun w => eql_func_nil gf lb w
  go_enter Tryz.func14, Tryz.ntmps14
  go_wp2_with fail
  go_ret; exact .mk (by first | rfl | (simp; done) | (simp; omega)) (by repeat' (first | exact Below.refl _ _ | with_reducible assumption | omega | with_reducible refine below_put_fut ?_ ?_ _ | with_reducible refine below_to_put ?_ | with_reducible refine Below.alloc ?_ ?_ _ | with_reducible refine Below.fut ?_ ?_ _ | with_reducible refine Below.drew ?_ | with_reducible refine Below.setCell ?_ ?_ _ | with_reducible refine Below.atPut ?_ ?_ _ | (simp [go_sem]; done) | (simp [go_sem]; omega)))
end Go.Proofs.YthknenhcnpgkcaaGreat
