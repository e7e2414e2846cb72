import Derived.Test.YthknenhcnpgkcaaWk3
import Derived.Test.YthknenhcnpgkcaaItIn
/- Package walk: Collect. -/
namespace Go.Proofs.Ythknenhcnpgkcaa
open Go.RowKit Go.Shelf
attribute [local go_sem] Oper.semAt_some
set_option linter.unusedVariables false
set_option linter.unusedSimpArgs false
theorem owns_zero {W : World} {base : Nat} {e : TypeId} {size n : Nat} {v : Value} {xs : List Value} (h : W.ownsRow base e size v n xs) : Row W e size v n xs := by
  refine ⟨h.1, h.2.imp id ?_⟩
  rintro ⟨g, cap, cur, h1, _, h3⟩
  exact ⟨g, cap, cur, h1, Nat.zero_le _, h3⟩
/-- The list as it is when the range is over. -/
theorem ItemsIn.fin {A D : Nat} {xs : List It} {X : World} {v : Value} {q : Option (List Deferred)} (h : ItemsIn A xs X v) (hD : X.heap[D]? = some (.deferred q)) (o' : Obj) : Row (X.putObj D o') 34 2 v xs.length (flat xs) :=
  Row.keep (owns_zero h.row) fun k hk => World.putObj_heap_other fun e => by
    rcases h.row.2 with ⟨rfl, _⟩ | ⟨r, cap, cur, rfl, _, hh, _⟩
    · rw [blk_nil] at hk; exact hk rfl
    · rw [blk_at _ _ _ _ _ none] at hk
      have := one_ne hk
      subst this
      subst e
      rw [hh] at hD; cases hD
/-- A function that is there is not nil. -/
theorem eql_func_nil (gf : Nat) (lb : Array Value) (w : World) : (binOp .eql 57 (.func (.func gf) #[] lb) .nilFunc).run Try.prog w = .ok (.bool false) w := by
  have ht : (Try.prog.underlying 57).map (fun d => match d with | .func _ _ _ => true | _ => false) = some true := by kernel_rfl
  obtain ⟨ps, rs, v, hu⟩ : ∃ ps rs v, Try.prog.underlying 57 = some (.func ps rs v) := by
    cases hq : Try.prog.underlying 57 with
    | none => rw [hq] at ht; cases ht
    | some d => rw [hq] at ht; cases d <;> first | exact ⟨_, _, _, rfl⟩ | (simp at ht)
  have h : ∀ d : Nat, (Op.equalIn (d + 1) 57 (.func (.func gf) #[] lb) .nilFunc).run Try.prog w = .ok false w := fun d => by
    simp [Op.equalIn, run_underlying hu]
  simp only [binOp]
  simp [Op.equal, Op.maxDepth, h 9999]
set_option maxRecDepth 100000 in
set_option maxHeartbeats 4000000 in
theorem collect_is {α : Type} (L : List α) (f : α → It) (hL : L.length ≤ 900) (gf : Nat) (lb : Array Value) (W : World) (heg : ∀ args w, (callFunc gf args).run Try.prog w = .ok (.enter gf args) w)
    (hseq : ∀ (V : World) (A : Nat), Below W.heap.size W V → A < V.heap.size → ownOf A V = none → SeqStopsK Fence.wide 8 Try.prog gf lb (fun x : α => #[.string (f x).1, .string (f x).2]) (KpO A) (fun ys => ys = L) (fun pre => ∃ k, k ≤ L.length ∧ pre = L.take k) L.length V)
    (most : Nat) (hm : 1 ≤ most) (hm2 : most ≤ 2000) :
    Calls Try.prog 46 #[.func (.func gf) #[] lb, .int .i64 most] W fun e W' => ∃ ao n c, e = .returned (.slice ao n c) ∧ Row W' 34 2 (.slice ao n c) n (flat ((L.map f).take most)) ∧ n = min L.length most ∧ Below W.heap.size W W' := by
  have d1 : decide ((most : Int) ≤ 0) = false := decide_eq_false (by omega)
  refine callsIn_wide.1 (callsIn_of_wp_marks (n := 9) Try.func46 rfl trivial ?_ rfl)
  rw [wpIn_wide]
  simp only [Try.ntmps46, List.size_toArray, List.length_cons, List.length_nil, Nat.reduceAdd, Nat.reduceSub, Array.replicate_succ, Array.replicate_zero, List.push_toArray, List.append_toArray, List.nil_append, List.cons_append]
  have d0 : decide (most = 0) = false := decide_eq_false (by omega)
  have hnf := fun w => eql_func_nil gf lb w
  go_wp2_with fail
  have h3 : (((W.alloc (.cells #[.int .i64 (most : Nat)] 3)).alloc (.cells #[.slice none 0 0] 28))).heap[W.heap.size]? = some (.cells #[.int .i64 (most : Nat)] 3) := (by repeat' (first | rfl | assumption | (with_reducible refine (heap_drew_eq _ _).trans ?_) | (refine (Fut.heap _ _ ?_).trans ?_ ; focus (first | assumption | omega | (simp [go_sem]; done) | (simp [go_sem]; omega))) | (refine (heap_put_at _ _ _ ?_).trans ?_ ; focus (first | assumption | omega | (simp [go_sem]; done) | (simp [go_sem]; omega))) | (refine (heap_put_other _ _ _ _ ?_).trans ?_ ; focus (first | assumption | omega | (simp [go_sem]; done) | (simp [go_sem]; omega))) | (refine (heap_alloc_other _ _ _ ?_).trans ?_ ; focus (first | assumption | omega | (simp [go_sem]; done) | (simp [go_sem]; omega))) | (refine (heap_alloc_at _ _ _ ?_).trans ?_ ; focus (first | assumption | omega | (simp [go_sem]; done) | (simp [go_sem]; omega))) | (simp [go_sem]; done) | (simp [go_sem]; omega)))
  have hA : (((W.alloc (.cells #[.int .i64 (most : Nat)] 3)).alloc (.cells #[.slice none 0 0] 28))).heap[W.heap.size + 1]? = some (.cells #[.slice none 0 0] 28) := (by repeat' (first | rfl | assumption | (with_reducible refine (heap_drew_eq _ _).trans ?_) | (refine (Fut.heap _ _ ?_).trans ?_ ; focus (first | assumption | omega | (simp [go_sem]; done) | (simp [go_sem]; omega))) | (refine (heap_put_at _ _ _ ?_).trans ?_ ; focus (first | assumption | omega | (simp [go_sem]; done) | (simp [go_sem]; omega))) | (refine (heap_put_other _ _ _ _ ?_).trans ?_ ; focus (first | assumption | omega | (simp [go_sem]; done) | (simp [go_sem]; omega))) | (refine (heap_alloc_other _ _ _ ?_).trans ?_ ; focus (first | assumption | omega | (simp [go_sem]; done) | (simp [go_sem]; omega))) | (refine (heap_alloc_at _ _ _ ?_).trans ?_ ; focus (first | assumption | omega | (simp [go_sem]; done) | (simp [go_sem]; omega))) | (simp [go_sem]; done) | (simp [go_sem]; omega)))
  have hbV : Below W.heap.size W (((W.alloc (.cells #[.int .i64 (most : Nat)] 3)).alloc (.cells #[.slice none 0 0] 28))) := (by repeat' (first | exact Below.refl _ _ | with_reducible assumption | omega | with_reducible refine below_put_fut ?_ ?_ _ | with_reducible refine below_to_put ?_ | with_reducible refine Below.alloc ?_ ?_ _ | with_reducible refine Below.fut ?_ ?_ _ | with_reducible refine Below.drew ?_ | with_reducible refine Below.setCell ?_ ?_ _ | with_reducible refine Below.atPut ?_ ?_ _ | (simp [go_sem]; done) | (simp [go_sem]; omega)))
  generalize ((W.alloc (.cells #[.int .i64 (most : Nat)] 3)).alloc (.cells #[.slice none 0 0] 28)) = V at h3 hA hbV ⊢
  have hV3 := lt_of_heap hA
  have hVs := hbV.size
  refine wpIn_wide.1 (wpIn_rangeFunc_ownH (F := Fence.wide) (n := 9) rfl (by omega) (gf := gf) (lb := lb) rfl trivial heg
    (hseq V (W.heap.size + 1) hbV hV3 (by unfold ownOf; rw [hA]; rfl)) (fun h k => h.trans k) (fun X q o o' hq hX hc _ => KpO.putObj _ hX hc (by omega)) (Below.refl _ _) (fun _ => rfl)
    (fun pre X => ((∃ v, ItemsIn (W.heap.size + 1) (pre.map f) X v) ∧ X.heap[W.heap.size]? = some (.cells #[.int .i64 (most : Nat)] 3) ∧ Below W.heap.size W X) ∧ pre.length < most)
    (fun c pre X => ((∃ v, ItemsIn (W.heap.size + 1) (pre.map f) X v) ∧ Below W.heap.size W X) ∧ c = .exit 0 ∧ pre.length = most)
    ?hI ?hIx ⟨⟨⟨_, ⟨hA, World.ownsRow_nil _ _ _ _⟩⟩, h3, hbV⟩, by simp; omega⟩
    (fun y a' X => a' = { tmps := #[.func (.func gf) #[] lb, .int .i64 (most : Nat), undef, .pointer (some ⟨W.heap.size, 0, none⟩), .slice none 0 0, .pointer (some ⟨W.heap.size + 1, 0, none⟩), .string (f y).1, .string (f y).2, .func (.func gf) #[] lb, .bool false, .bool false, .int .i64 (most : Nat), .bool false, .bool false, .func (.func gf) #[] lb, .string (f y).1, .string (f y).2, undef, undef, undef, undef, undef, undef, undef, undef, undef, undef, undef], defers := [] })
    (fun x a' s X Y row hs hg hr => hs) ?assign ?body ?done ?stop)
  case hI => exact OwnFrom.and (OwnFrom.and (ItemsIn.from f _ _) (OwnFrom.and (ownFrom_heap _ _ (fun _ => #[.int .i64 (most : Nat)]) _ _) (ownFrom_below (Nat.le_refl _) hVs))) (fun _ _ _ _ hs _ _ => hs)
  case hIx => exact fun c => OwnFrom.and (OwnFrom.and (ItemsIn.from f _ _) (ownFrom_below (Nat.le_refl _) hVs)) (fun _ _ _ _ hs _ _ => hs)
  case assign =>
    rintro ll pre y X K ⟨⟨iv, i3, iB⟩, iL⟩ hK
    have hA3 : W.heap.size + 1 < X.heap.size := by obtain ⟨v, hv⟩ := iv; exact lt_of_heap hv.heap
    have HK := hid hK
    have HIV := hid iv
    have HI3 := hid i3
    have HIB := hid iB
    clear hK iv i3 iB
    gi_wp2_with fail
    exact HK.out _ _ (KeepsFrom.chg (S := fun _ => False) (Chg.refl _ _) (fun k hk => hk.elim)) (KpO.refl _ _) ⟨⟨HIV.out, HI3.out, HIB.out⟩, iL⟩ (by simp)
  case body =>
    rintro ll pre y a' X hll hr ⟨⟨⟨vi, iv⟩, i3, iB⟩, iL⟩ rfl hlen
    have hx3 := lt_of_heap i3
    have hxA := lt_of_heap iv.heap
    have hXs := iB.size
    have eA := fun i => cell_of_row X (W.heap.size + 1) i _ _ (0, 0) iv.heap
    have HI := hid iv
    have HB := hid iB
    have H3 := hid i3
    obtain ⟨b, he⟩ : ∃ b, ((((pre.map f ++ [f y]).length : Nat) : Int) == (most : Int)) = b := ⟨_, rfl⟩
    have hb : (b = true ↔ pre.length + 1 = most) := by rw [← he]; simp; omega
    have HPL := hid (show (pre.map f).length ≤ 900 by rw [List.length_map]; omega)
    have HBB := hid hb
    clear hr iv iB i3 hb
    obtain ⟨ao, cc, rfl⟩ := owns_slice HI.out.row
    have hpl := HPL.out
    generalize hnl : (pre.map f).length = n at HI hpl eA ⊢
    clear hnl
    cases b
    · gi_wp2_with (first | (gi_at_builtin; refine wpListIn_append_ex (by rfl) _ _ _ (by rfl) _ _ (by rfl) (by rfl) (HI.out.app (by repeat' (first | exact Below.refl _ _ | with_reducible assumption | omega | with_reducible refine below_put_fut ?_ ?_ _ | with_reducible refine below_to_put ?_ | with_reducible refine Below.alloc ?_ ?_ _ | with_reducible refine Below.fut ?_ ?_ _ | with_reducible refine Below.drew ?_ | with_reducible refine Below.setCell ?_ ?_ _ | with_reducible refine Below.atPut ?_ ?_ _ | (simp [go_sem]; done) | (simp [go_sem]; omega))) HPL.out (f y) (by repeat' (first | rfl | assumption | (with_reducible refine (heap_drew_eq _ _).trans ?_) | (refine (Fut.heap _ _ ?_).trans ?_ ; focus (first | assumption | omega | (simp [go_sem]; done) | (simp [go_sem]; omega))) | (refine (heap_put_at _ _ _ ?_).trans ?_ ; focus (first | assumption | omega | (simp [go_sem]; done) | (simp [go_sem]; omega))) | (refine (heap_put_other _ _ _ _ ?_).trans ?_ ; focus (first | assumption | omega | (simp [go_sem]; done) | (simp [go_sem]; omega))) | (refine (heap_alloc_other _ _ _ ?_).trans ?_ ; focus (first | assumption | omega | (simp [go_sem]; done) | (simp [go_sem]; omega))) | (refine (heap_alloc_at _ _ _ ?_).trans ?_ ; focus (first | assumption | omega | (simp [go_sem]; done) | (simp [go_sem]; omega))) | (simp [go_sem]; done) | (simp [go_sem]; omega)))) ?_; rintro v4 w4 ⟨hAb, hAl, hin, hkp, hbl, hkf⟩; obtain ⟨ao4, cc4, rfl⟩ := owns_slice hin.row; generalize (List.map f pre ++ [f y]).length = n4 at he hin hkp hbl hkf ⊢; have HIN := hid hin; have HKP := hid hkp; have HBL := hid hbl; have HKF := hid hkf; have j3 := cell_of_row w4 W.heap.size 0 _ _ (0, 0) ((heap_put_other _ _ _ _ (by omega)).symm.trans ((hbl.block _ (by omega)).trans H3.out)); clear hin hkp hbl hkf; rw [← put_self hAb]; clear hAb))
      exact ⟨HKF.out _, HKP.out, ⟨⟨⟨_, by rw [List.map_append]; exact HIN.out⟩, (HBL.out.block _ (by omega)).trans H3.out, HB.out.trans (HBL.out.mono (by omega))⟩, by have := HBB.out; rw [List.length_append]; simp at this ⊢; omega⟩⟩
    · gi_wp2_with (first | (gi_at_builtin; refine wpListIn_append_ex (by rfl) _ _ _ (by rfl) _ _ (by rfl) (by rfl) (HI.out.app (by repeat' (first | exact Below.refl _ _ | with_reducible assumption | omega | with_reducible refine below_put_fut ?_ ?_ _ | with_reducible refine below_to_put ?_ | with_reducible refine Below.alloc ?_ ?_ _ | with_reducible refine Below.fut ?_ ?_ _ | with_reducible refine Below.drew ?_ | with_reducible refine Below.setCell ?_ ?_ _ | with_reducible refine Below.atPut ?_ ?_ _ | (simp [go_sem]; done) | (simp [go_sem]; omega))) HPL.out (f y) (by repeat' (first | rfl | assumption | (with_reducible refine (heap_drew_eq _ _).trans ?_) | (refine (Fut.heap _ _ ?_).trans ?_ ; focus (first | assumption | omega | (simp [go_sem]; done) | (simp [go_sem]; omega))) | (refine (heap_put_at _ _ _ ?_).trans ?_ ; focus (first | assumption | omega | (simp [go_sem]; done) | (simp [go_sem]; omega))) | (refine (heap_put_other _ _ _ _ ?_).trans ?_ ; focus (first | assumption | omega | (simp [go_sem]; done) | (simp [go_sem]; omega))) | (refine (heap_alloc_other _ _ _ ?_).trans ?_ ; focus (first | assumption | omega | (simp [go_sem]; done) | (simp [go_sem]; omega))) | (refine (heap_alloc_at _ _ _ ?_).trans ?_ ; focus (first | assumption | omega | (simp [go_sem]; done) | (simp [go_sem]; omega))) | (simp [go_sem]; done) | (simp [go_sem]; omega)))) ?_; rintro v4 w4 ⟨hAb, hAl, hin, hkp, hbl, hkf⟩; obtain ⟨ao4, cc4, rfl⟩ := owns_slice hin.row; generalize (List.map f pre ++ [f y]).length = n4 at he hin hkp hbl hkf ⊢; have HIN := hid hin; have HKP := hid hkp; have HBL := hid hbl; have HKF := hid hkf; have j3 := cell_of_row w4 W.heap.size 0 _ _ (0, 0) ((heap_put_other _ _ _ _ (by omega)).symm.trans ((hbl.block _ (by omega)).trans H3.out)); clear hin hkp hbl hkf; rw [← put_self hAb]; clear hAb))
      exact ⟨HKF.out _, ⟨⟨_, by rw [List.map_append]; exact HIN.out⟩, HB.out.trans (HBL.out.mono (by omega))⟩, rfl, by have := HBB.out; rw [List.length_append]; simp at this ⊢; omega⟩
  case done =>
    rintro D ys X hD hys ⟨⟨⟨vi, iv⟩, i3, iB⟩, iL⟩ hK
    have hys : L = ys := hys.symm
    subst hys
    clear i3
    obtain ⟨ao, cc, rfl⟩ := owns_slice iv.row
    have hxA := lt_of_heap iv.heap
    have eA := fun i => cell_of_row X (W.heap.size + 1) i _ _ (0, 0) iv.heap
    have hfin := hid (fun o' => iv.fin hK o')
    have HB := hid iB
    have HK := hid hK
    have HT := hid (show (L.map f).take most = L.map f by exact List.take_of_length_le (by rw [List.length_map]; omega))
    obtain ⟨n, hnl⟩ : ∃ n, (L.map f).length = n := ⟨_, rfl⟩
    have HN := hid (show n = min L.length most by rw [← hnl, List.length_map]; omega)
    rw [hnl] at hfin eA
    clear iv iB hK hnl
    go_wp2_with fail
    refine ⟨by simp, .inl ⟨_, _, rfl, run_takeDeferred HK.out, ?_⟩⟩
    exact ⟨.slice ao n cc, by simp [results, Try.results46, go_sem], ao, n, cc, rfl, by rw [HT.out]; exact hfin.out _, HN.out, HB.out.trans (belowK_b (w := W) (Nat.le_refl _) X D _ _ (by omega) HK.out rfl rfl)⟩
  case stop =>
    rintro D c pre X hD ⟨q, hq, rfl⟩ ⟨⟨⟨vi, iv⟩, iB⟩, rfl, iL⟩ hK
    rw [List.length_take] at iL
    obtain ⟨ao, cc, rfl⟩ := owns_slice iv.row
    have hxA := lt_of_heap iv.heap
    have eA := fun i => cell_of_row X (W.heap.size + 1) i _ _ (0, 0) iv.heap
    have hfin := hid (fun o' => iv.fin hK o')
    have HB := hid iB
    have HK := hid hK
    have HT := hid (show (L.map f).take most = (L.take q).map f by rw [← List.map_take, show most = q by omega])
    obtain ⟨n, hnl⟩ : ∃ n, ((L.take q).map f).length = n := ⟨_, rfl⟩
    have HN := hid (show n = min L.length most by rw [← hnl, List.length_map]; rw [List.length_take]; omega)
    rw [hnl] at hfin eA
    clear iv iB hK hnl
    rw [wpIn_wide]
    go_wp2_with fail
    refine ⟨by simp, .inl ⟨_, _, rfl, run_takeDeferred HK.out, ?_⟩⟩
    exact ⟨.slice ao n cc, by simp [results, Try.results46, go_sem], ao, n, cc, rfl, by rw [HT.out]; exact hfin.out _, HN.out, HB.out.trans (belowK_b (w := W) (Nat.le_refl _) X D _ _ (by omega) HK.out rfl rfl)⟩
end Go.Proofs.Ythknenhcnpgkcaa
