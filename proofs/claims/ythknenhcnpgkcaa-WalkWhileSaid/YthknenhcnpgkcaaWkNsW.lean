/- WalkNested answers true for every list of items: the walk. -/
import Derived.Test.YthknenhcnpgkcaaMv
import Derived.Test.YthknenhcnpgkcaaMt
import Derived.Test.YthknenhcnpgkcaaMi
import Derived.BigRegion
namespace Go.Proofs.Ythknenhcnpgkcaa
open Go.RowKit Go.Shelf
set_option linter.unusedVariables false
set_option linter.unusedSimpArgs false
@[go_sem] theorem run_store_func {P : Program} {w : World} {a : Addr} {m : Mode} (f : Fn) (x y : Array Value) : (store a (.func f x y) m).run P w = stored P w a (.func f x y) m := run_store P w a _ m rfl
theorem setCell_self {w : World} {b o : Nat} {v : Value} (h : w.cell? ⟨b, o, none⟩ = some v) : w.setCell ⟨b, o, none⟩ v = w := by
  have e : (w.setCell ⟨b, o, none⟩ v).heap = w.heap := by
    apply Array.ext_getElem?
    intro k
    simp only [World.setCell, Array.getElem?_modify]
    by_cases hk : b = k
    · subst hk
      rw [if_pos rfl]
      unfold World.cell? at h
      dsimp only at h
      cases hb : w.heap[b]? with
      | none => rfl
      | some x =>
        rw [hb] at h
        cases x with
        | cells cs t fr =>
          have h : cs[o]? = some v := h
          have : cs.setIfInBounds o v = cs := by
            apply Array.ext_getElem?
            intro j
            by_cases hj : o = j
            · subst hj; rw [Array.getElem?_setIfInBounds_self_of_lt (Array.getElem?_eq_some_iff.1 h).1, h]
            · rw [Array.getElem?_setIfInBounds_ne hj]
          simp [this]
        | _ => rfl
    · rw [if_neg hk]
  have e2 : w.setCell ⟨b, o, none⟩ v = { w with heap := (w.setCell ⟨b, o, none⟩ v).heap } := rfl
  rw [e2, e]
@[go_sem] theorem put_alloc (w : World) (o o' : Obj) : put (w.alloc o) w.heap.size o' = w.alloc o' := by
  unfold put World.alloc
  congr 1
  apply Array.ext_getElem?
  intro k
  rw [Array.getElem?_setIfInBounds]
  split
  · rename_i e; subst e; simp
  · rename_i e; simp only [Array.getElem?_push]; rw [if_neg (by omega), if_neg (by omega)]
set_option maxRecDepth 100000 in
set_option maxHeartbeats 4000000 in
set_option maxRecDepth 100000 in
set_option maxHeartbeats 4000000 in
theorem nested11_is (X : World) (Bok Bi Br gr : Nat) (v : Value) (i m : Nat) (xs : List It) (x : It) (t : ByteArray) (hx : xs[i]? = some x) (hm : xs.length = m) (hle : m ≤ 60) (hok : X.heap[Bok]? = some (.cells #[.bool true] 4)) (hi : X.heap[Bi]? = some (.cells #[.int .i64 i] 3))
    (hr : X.heap[Br]? = some (.cells #[.pointer (some ⟨gr, 0, none⟩)] 39)) (hgr : X.heap[gr]? = some (refObj 200 v)) (hs : Src X 2 v m (flat xs)) (hne : Bok ≠ Bi) :
    Calls Try.prog 44 #[.string x.1, .string t, .pointer (some ⟨Bok, 0, none⟩), .pointer (some ⟨Bi, 0, none⟩), .pointer (some ⟨Br, 0, none⟩)] X fun e X' => e = .returned (.bool true) ∧ Chg (fun k => k = Bok ∨ k = Bi) X X' ∧ X'.heap[Bok]? = some (.cells #[.bool true] 4) ∧ X'.heap[Bi]? = some (.cells #[.int .i64 (i + 1 : Nat)] 3) := by
  obtain ⟨ra, rc, rfl⟩ := hs.slice_of
  have hi' : i < m := by rw [← hm]; exact (List.getElem?_eq_some_iff.1 hx).1
  obtain ⟨b1, o1, rfl, p1, p2, p3⟩ := (show Src X 2 (.slice ra xs.length rc) xs.length (flat xs) by rw [hm]; exact hs).at_ i x hx
  have l1 : b1 < X.heap.size := World.block_lt_of_cell? _ _ p1
  have e1 := fun i => cell_of_row X Bok i _ _ (0, 0) hok
  have e2 := fun i => cell_of_row X Bi i _ _ (0, 0) hi
  have e3 := fun i => cell_of_row X Br i _ _ (0, 0) hr
  have e4 := fun i => cell_of_row X gr i _ _ (0, 0) hgr
  have k1 := lt_of_heap hok
  have k2 := lt_of_heap hi
  have k3 := lt_of_heap hr
  have k4 := lt_of_heap hgr
  have d1 : decide ((i : Int) < (m : Int)) = true := by simp; omega
  have ew : IntKind.i64.wrap ((i : Int) + 1) = (i : Int) + 1 := IntWalk.i64_in _ (by omega)
  have d2 : decide ((i : Int) + 1 < 500) = true := by simp; omega
  have f1 := fun i => frozen_of hok i
  have f2 := fun i => frozen_of hi i
  have hss := setCell_self (cell_of_row X Bok 0 _ _ (0, 0) hok)
  have HOK := hid hok
  have HI := hid hi
  clear hs hx hm hok hi hr hgr p2 p3
  obtain ⟨s1, t1⟩ := x
  simp only at p1
  go_enter Try.func44, Try.ntmps44
  go_wp2_with fail
  go_region
  go_wp2_with fail
  rw [show X.setCell ⟨Bok, 0, none⟩ (.bool true) = X from setCell_self (cell_of_row X Bok 0 _ _ (0, 0) HOK.out), setCell_row HI.out]
  go_ret
  refine ⟨rfl, ((Chg.refl _ X).put (fun _ => .inr rfl) _).drew, ?_, ?_⟩
  · exact (heap_put_other _ _ _ _ hne).trans HOK.out
  · exact heap_put_at _ _ _ (lt_of_heap HI.out)
theorem Both.refs {B : Nat} {w0 : World} {xs ys : List It} {gs gr : Nat} {W : World} (h : Both B w0 xs ys gs gr W) : ∃ v, W.heap[gr]? = some (refObj 200 v) ∧ Src W 2 v ys.length (flat ys) := by
  obtain ⟨h1, h2, h3, c, top, v, h4, h5, h6, h7, h8⟩ := h
  exact ⟨v, h5, h6.src (flat_one _)⟩
/-- The outer function's boxes at item n: block Bok holds true, Bn holds n, Br the document's shelf, Bw the way. -/
structure OutB (W1 : World) (gr s Bok Bn Br Bw n : Nat) (X : World) : Prop where
  below : Below W1.heap.size W1 X
  ok : X.heap[Bok]? = some (.cells #[.bool true] 4)
  num : X.heap[Bn]? = some (.cells #[.int .i64 n] 3)
  ref : X.heap[Br]? = some (.cells #[.pointer (some ⟨gr, 0, none⟩)] 39)
  way : X.heap[Bw]? = some (.cells #[.func (.func 78) #[] #[.pointer (some ⟨s, 0, none⟩)]] 57)
theorem OutB.on {W1 : World} {gr s Bok Bn Br Bw n : Nat} {X Y : World} (h : OutB W1 gr s Bok Bn Br Bw n X) (hb : Below X.heap.size X Y) : OutB W1 gr s Bok Bn Br Bw n Y :=
  ⟨h.below.trans (hb.mono h.below.size), (hb.block _ (lt_of_heap h.ok)).trans h.ok, (hb.block _ (lt_of_heap h.num)).trans h.num, (hb.block _ (lt_of_heap h.ref)).trans h.ref, (hb.block _ (lt_of_heap h.way)).trans h.way⟩
set_option maxRecDepth 100000 in
set_option maxHeartbeats 4000000 in
theorem nested1_is {B0 : Nat} {w0 : World} {xs : List It} {gs gr : Nat} {W1 : World} (hB : Both B0 w0 xs xs gs gr W1) (s Bok Bn Br Bw : Nat) (m : Nat) (hm : xs.length = m) (hle : m ≤ 60) (hb1 : W1.heap.size ≤ Bok) (hb2 : W1.heap.size ≤ Bn) (hd1 : Bok ≠ Bn) (hd2 : Bok ≠ Br) (hd3 : Bok ≠ Bw) (hd4 : Bn ≠ Br) (hd5 : Bn ≠ Bw) (hs1 : s ≠ Bok) (hs2 : s ≠ Bn)
    (X : World) (hsX : X.heap[s]? = some (.cells #[.pointer (some ⟨gs, 0, none⟩)] 23)) (n : Nat) (hX : OutB W1 gr s Bok Bn Br Bw n X) (x : It) (t : ByteArray) (hx : xs[n]? = some x) :
    Calls Try.prog 43 #[.string x.1, .string t, .pointer (some ⟨Bw, 0, none⟩), .pointer (some ⟨Bok, 0, none⟩), .pointer (some ⟨Br, 0, none⟩), .pointer (some ⟨Bn, 0, none⟩)] X fun e X' => e = .returned (.bool true) ∧ OutB W1 gr s Bok Bn Br Bw (n + 1) X' ∧ Chg (fun k => k = Bok ∨ k = Bn) X X' := by
  have e1 := fun i => cell_of_row X Bw i _ _ (0, 0) hX.way
  have k1 := lt_of_heap hX.way
  have HX := hid hX
  have HB := hid hB
  have HM := hid hm
  have HXX := hid hx
  clear hX hB hm hx
  go_enter Try.func43, Try.ntmps43
  go_wp2_with fail
  have hbA : Below X.heap.size X (X.alloc (.cells #[.int .i64 0] 3)) := (by repeat' (first | exact Below.refl _ _ | with_reducible assumption | omega | with_reducible refine below_put_fut ?_ ?_ _ | with_reducible refine below_to_put ?_ | with_reducible refine Below.alloc ?_ ?_ _ | with_reducible refine Below.fut ?_ ?_ _ | with_reducible refine Below.drew ?_ | with_reducible refine Below.setCell ?_ ?_ _ | with_reducible refine Below.atPut ?_ ?_ _ | (simp [go_sem]; done) | (simp [go_sem]; omega)))
  have hi0 : (X.alloc (.cells #[.int .i64 0] 3)).heap[X.heap.size]? = some (.cells #[.int .i64 (0 : Nat)] 3) := heap_alloc_at _ _ _ rfl
  have hzA : (X.alloc (.cells #[.int .i64 0] 3)).heap.size = X.heap.size + 1 := by simp
  generalize X.alloc (.cells _ 3) = V at hbA hi0 hzA ⊢
  have hXs : W1.heap.size ≤ X.heap.size := HX.out.below.size
  have hokl := lt_of_heap HX.out.ok
  have hsl := lt_of_heap hsX
  have hBY := hid (fun (Y : World) (hY : Below W1.heap.size W1 Y) => HB.out.on hY)
  have key := walkAll1_calls (xs := xs) (g := some ⟨gs, 0, none⟩) (w := V) ((hBY.out V (HX.out.on hbA).below).sh.gives (by rw [HM.out]; omega)) (by rw [HM.out]; omega) s (cell_of_row _ _ 0 _ _ (0, 0) ((hbA.block _ hsl).trans hsX))
    (fen_S (fun k => k = Bok ∨ k = X.heap.size)) 44 #[.pointer (some ⟨Bok, 0, none⟩), .pointer (some ⟨X.heap.size, 0, none⟩), .pointer (some ⟨Br, 0, none⟩)] (enters_of Try.func44 (by kernel_rfl) rfl)
    (fun i Y => OutB W1 gr s Bok Bn Br Bw n Y ∧ Y.heap[X.heap.size]? = some (.cells #[.int .i64 (i : Nat)] 3) ∧ Chg (fun k => k = Bok) X Y) (fun _ _ => False)
    (fun i Y Z h hb => ⟨h.1.on hb, (hb.block _ (lt_of_heap h.2.1)).trans h.2.1, h.2.2.trans (Chg.of_below (S := fun k => k = Bok) hb) (fun _ _ h => h)⟩) V (Below.refl _ _) (fun Y r hb hr e => by have := hb.size; omega)
    (fun i y Y hy hJ => by
      obtain ⟨v, h1, h2⟩ := (hBY.out Y hJ.1.below).refs
      rw [HM.out] at h2
      refine (nested11_is Y Bok X.heap.size Br gr v i m xs y y.2 hy HM.out hle hJ.1.ok hJ.2.1 hJ.1.ref h1 h2 (by omega)).mono ?_
      rintro _ Z ⟨rfl, q1, q2, q3⟩
      have hBr : Br < Y.heap.size := lt_of_heap hJ.1.ref
      refine .inl ⟨rfl, ⟨⟨hJ.1.below.trans (q1.below hJ.1.below.size fun k hk => by omega), q2, (q1.block _ (lt_of_heap hJ.1.num) (by have := lt_of_heap HX.out.num; omega)).trans hJ.1.num, (q1.block _ (lt_of_heap hJ.1.ref) (by have := lt_of_heap HX.out.ref; omega)).trans hJ.1.ref, (q1.block _ (lt_of_heap hJ.1.way) (by have := lt_of_heap HX.out.way; omega)).trans hJ.1.way⟩, q3, hJ.2.2.trans (q1.mono (T := fun k => k = Bok ∨ k = X.heap.size) fun _ _ h => h) (fun k hk h => by omega)⟩, KpS.chg q1⟩)
    ⟨HX.out.on hbA, hi0, Chg.of_below hbA⟩
  refine key.mono ?_
  rintro _ Y ⟨⟨v0, rfl⟩, hJ⟩
  obtain ⟨h1, h2, h3⟩ := hJ.resolve_right (fun ⟨_, _, h⟩ => h)
  clear hJ
  rw [HM.out] at h2
  obtain ⟨v, hgr, hsr⟩ := (hBY.out Y h1.below).refs
  rw [HM.out] at hsr
  obtain ⟨ra, rc, rfl⟩ := hsr.slice_of
  have hnm : n < m := by rw [← HM.out]; exact (List.getElem?_eq_some_iff.1 HXX.out).1
  obtain ⟨b1, o1, rfl, p1, p2, p3⟩ := (show Src Y 2 (.slice ra xs.length rc) xs.length (flat xs) by rw [HM.out]; exact hsr).at_ n x HXX.out
  have l1 : b1 < Y.heap.size := World.block_lt_of_cell? _ _ p1
  have g1 := fun i => cell_of_row Y Bok i _ _ (0, 0) h1.ok
  have g2 := fun i => cell_of_row Y Bn i _ _ (0, 0) h1.num
  have g3 := fun i => cell_of_row Y Br i _ _ (0, 0) h1.ref
  have g4 := fun i => cell_of_row Y gr i _ _ (0, 0) hgr
  have g5 := fun i => cell_of_row Y X.heap.size i _ _ (0, 0) h2
  have j1 := lt_of_heap h1.ok
  have j2 := lt_of_heap h1.num
  have j3 := lt_of_heap h1.ref
  have j4 := lt_of_heap hgr
  have j5 := lt_of_heap h2
  have f1 := fun i => frozen_of h1.ok i
  have f2 := fun i => frozen_of h1.num i
  have d1 : decide ((n : Int) < (m : Int)) = true := by simp; omega
  have ew : IntKind.i64.wrap ((n : Int) + 1) = (n : Int) + 1 := IntWalk.i64_in _ (by omega)
  have d2 : decide ((n : Int) + 1 < 500) = true := by simp; omega
  have H1 := hid h1
  have H3 := hid h3
  clear hsr hgr h1 h2 h3 p2 p3 key hi0 hbA hBY e1 k1
  obtain ⟨s1, t1⟩ := x
  simp only at p1
  generalize X.heap.size = Bi at *
  go_wp2_with fail
  go_region
  go_wp2_with fail
  rw [show Y.setCell ⟨Bok, 0, none⟩ (.bool true) = Y from setCell_self (cell_of_row Y Bok 0 _ _ (0, 0) H1.out.ok), setCell_row H1.out.num]
  go_ret
  refine ⟨rfl, ⟨(Below.atPut H1.out.below hb2 _).drew, ?_, ?_, ?_, ?_⟩, (H3.out.mono (fun _ _ h => .inl h)).put (fun _ => .inr rfl) _ |>.drew⟩
  · exact (heap_put_other _ _ _ _ hd1).trans H1.out.ok
  · exact heap_put_at _ _ _ j2
  · exact (heap_put_other _ _ _ _ (fun e => hd4 e.symm)).trans H1.out.ref
  · exact (heap_put_other _ _ _ _ (fun e => hd5 e.symm)).trans H1.out.way
theorem alloc5 (W : World) (o0 o1 o2 o3 o4 : Obj) : (((((W.alloc o0).alloc o1).alloc o2).alloc o3).alloc o4).heap[W.heap.size]? = some o0 ∧ (((((W.alloc o0).alloc o1).alloc o2).alloc o3).alloc o4).heap[W.heap.size + 1]? = some o1 ∧ (((((W.alloc o0).alloc o1).alloc o2).alloc o3).alloc o4).heap[W.heap.size + 1 + 1]? = some o2 ∧ (((((W.alloc o0).alloc o1).alloc o2).alloc o3).alloc o4).heap[W.heap.size + 1 + 1 + 1]? = some o3 ∧ (((((W.alloc o0).alloc o1).alloc o2).alloc o3).alloc o4).heap[W.heap.size + 1 + 1 + 1 + 1]? = some o4 :=
  ⟨(heap_alloc_other _ _ _ (by simp only [World.size_alloc]; omega)).trans ((heap_alloc_other _ _ _ (by simp only [World.size_alloc]; omega)).trans ((heap_alloc_other _ _ _ (by simp only [World.size_alloc]; omega)).trans ((heap_alloc_other _ _ _ (by simp only [World.size_alloc]; omega)).trans (heap_alloc_at _ _ _ (by simp))))), (heap_alloc_other _ _ _ (by simp only [World.size_alloc]; omega)).trans ((heap_alloc_other _ _ _ (by simp only [World.size_alloc]; omega)).trans ((heap_alloc_other _ _ _ (by simp only [World.size_alloc]; omega)).trans (heap_alloc_at _ _ _ (by simp)))), (heap_alloc_other _ _ _ (by simp only [World.size_alloc]; omega)).trans ((heap_alloc_other _ _ _ (by simp only [World.size_alloc]; omega)).trans (heap_alloc_at _ _ _ (by simp))), (heap_alloc_other _ _ _ (by simp only [World.size_alloc]; omega)).trans (heap_alloc_at _ _ _ (by simp)), heap_alloc_at _ _ _ (by simp)⟩
set_option maxRecDepth 100000 in
set_option maxHeartbeats 4000000 in
theorem walkNested_good (w : World) (sl : Value) (l : List It) (n : Nat) (hl : l.length = n) (hn : n ≤ 30) (hs : Src w 2 sl n (flat l)) :
    Calls Try.prog 7 #[sl] w (Makes (.bool true) w) := by
  obtain ⟨ao, cap, rfl⟩ := hs.slice_of
  have d1 : decide ((30 : Int) < n) = false := by simp; omega
  have HS := hid hs
  have HL := hid hl
  clear hs hl
  go_enter Try.func7, Try.ntmps7
  go_wp2_with (first | (go_at_call 33; ((with_reducible refine (wkAlive_any _).mono ?_)); rintro _ _ ⟨rfl, u, rfl⟩; (try (rw [Fut.put_self u (by first | assumption | (simp [go_sem]; done) | (simp [go_sem]; omega))]))) | (((with_reducible refine wp_region_fut_lit (by kernel_rfl) (by kernel_rfl) ?_)); (repeat (go_big_quiet_step ((first | (go_at_call 33; with_reducible exact Calls.fut_of (wkAlive_any _)))))); ((with_reducible refine wpQuiet_nil ?_)); rintro _ ⟨u, rfl⟩; (try (rw [Fut.put_self u (by first | assumption | (simp [go_sem]; done) | (simp [go_sem]; omega))]))))
  clear d1
  have hbX := u.below
  have hzX := hbX.size
  generalize u.val = X at hbX hzX ⊢
  refine (filled_is X _ l n HL.out (by omega) (HS.out.heap hbX)).mono ?_
  rintro _ W1 ⟨gs, gr, rfl, hb1⟩
  have H1 := hid (hb1.base hbX hzX)
  have hxl := fillL_len l
  generalize fillL l = xs at H1 hxl
  obtain ⟨m, hm⟩ : ∃ m, xs.length = m := ⟨_, rfl⟩
  have HM := hid hm
  rw [hm, HL.out] at hxl
  have hm60 : m ≤ 30 := by omega
  clear hb1 hbX hzX HS HL hxl hm
  go_wp2_with fail
  (((with_reducible refine (walkAll_is (.pointer (some ⟨gs, 0, none⟩)) _ rfl).mono ?_)); rintro _ _ ⟨rfl, rfl⟩)
  go_wp2_with fail
  try simp only [World.size_alloc]
  obtain ⟨k0, k1, k2, k3, k4⟩ := alloc5 W1 (.cells #[.pointer (some ⟨gr, 0, none⟩)] 39) (.cells #[.pointer (some ⟨gs, 0, none⟩)] 23) (.cells #[.func (.func 78) #[] #[.pointer (some ⟨W1.heap.size + 1, 0, none⟩)]] 57) (.cells #[.int .i64 0] 3) (.cells #[.bool true] 4)
  have hbV : Below W1.heap.size W1 (((((W1.alloc (.cells #[.pointer (some ⟨gr, 0, none⟩)] 39)).alloc (.cells #[.pointer (some ⟨gs, 0, none⟩)] 23)).alloc (.cells #[.func (.func 78) #[] #[.pointer (some ⟨W1.heap.size + 1, 0, none⟩)]] 57)).alloc (.cells #[.int .i64 0] 3)).alloc (.cells #[.bool true] 4)) := (by repeat' (first | exact Below.refl _ _ | with_reducible assumption | omega | with_reducible refine below_put_fut ?_ ?_ _ | with_reducible refine below_to_put ?_ | with_reducible refine Below.alloc ?_ ?_ _ | with_reducible refine Below.fut ?_ ?_ _ | with_reducible refine Below.drew ?_ | with_reducible refine Below.setCell ?_ ?_ _ | with_reducible refine Below.atPut ?_ ?_ _ | (simp [go_sem]; done) | (simp [go_sem]; omega)))
  generalize (((((W1.alloc (.cells #[.pointer (some ⟨gr, 0, none⟩)] 39)).alloc (.cells #[.pointer (some ⟨gs, 0, none⟩)] 23)).alloc (.cells #[.func (.func 78) #[] #[.pointer (some ⟨W1.heap.size + 1, 0, none⟩)]] 57)).alloc (.cells #[.int .i64 0] 3)).alloc (.cells #[.bool true] 4)) = V at k0 k1 k2 k3 k4 hbV ⊢
  have hBY := hid (fun (Y : World) (hY : Below W1.heap.size W1 Y) => H1.out.on hY)
  have hVl := lt_of_heap k4
  have key := walkAll1_calls (xs := xs) (g := some ⟨gs, 0, none⟩) (w := V) ((hBY.out V hbV).sh.gives (by rw [HM.out]; omega)) (by rw [HM.out]; omega) (W1.heap.size + 1) (cell_of_row _ _ 0 _ _ (0, 0) k1)
    (fen_S (fun k => k = W1.heap.size + 1 + 1 + 1 + 1 ∨ k = W1.heap.size + 1 + 1 + 1)) 43 #[.pointer (some ⟨W1.heap.size + 1 + 1, 0, none⟩), .pointer (some ⟨W1.heap.size + 1 + 1 + 1 + 1, 0, none⟩), .pointer (some ⟨W1.heap.size, 0, none⟩), .pointer (some ⟨W1.heap.size + 1 + 1 + 1, 0, none⟩)] (enters_of Try.func43 (by kernel_rfl) rfl)
    (fun i Y => OutB W1 gr (W1.heap.size + 1) (W1.heap.size + 1 + 1 + 1 + 1) (W1.heap.size + 1 + 1 + 1) W1.heap.size (W1.heap.size + 1 + 1) i Y ∧ Y.heap[W1.heap.size + 1]? = some (.cells #[.pointer (some ⟨gs, 0, none⟩)] 23)) (fun _ _ => False)
    (fun i Y Z h hb => ⟨h.1.on hb, (hb.block _ (lt_of_heap h.2)).trans h.2⟩) V (Below.refl _ _) (fun Y r hb hr e => by have := hb.size; omega)
    (fun i y Y hy hJ => by
      refine (nested1_is H1.out (W1.heap.size + 1) (W1.heap.size + 1 + 1 + 1 + 1) (W1.heap.size + 1 + 1 + 1) W1.heap.size (W1.heap.size + 1 + 1) m HM.out (by omega) (by omega) (by omega) (by omega) (by omega) (by omega) (by omega) (by omega) (by omega) (by omega) Y hJ.2 i hJ.1 y y.2 hy).mono ?_
      rintro _ Z ⟨rfl, q1, q2⟩
      exact .inl ⟨rfl, ⟨q1, (q2.block _ (lt_of_heap hJ.2) (by omega)).trans hJ.2⟩, KpS.chg q2⟩)
    ⟨⟨hbV, k4, k3, k0, k2⟩, k1⟩
  refine key.mono ?_
  rintro _ Y ⟨⟨v0, rfl⟩, hJ⟩
  obtain ⟨h1, h2⟩ := hJ.resolve_right (fun ⟨_, _, h⟩ => h)
  rw [HM.out] at h1
  obtain ⟨v, hgr, hsr⟩ := (hBY.out Y h1.below).refs
  rw [HM.out] at hsr
  obtain ⟨ra, rc, rfl⟩ := hsr.slice_of
  have g1 := fun i => cell_of_row Y _ i _ _ (0, 0) h1.ok
  have g2 := fun i => cell_of_row Y _ i _ _ (0, 0) h1.num
  have g3 := fun i => cell_of_row Y _ i _ _ (0, 0) h1.ref
  have g4 := fun i => cell_of_row Y gr i _ _ (0, 0) hgr
  have j1 := lt_of_heap h1.ok
  have j2 := lt_of_heap h1.num
  have j3 := lt_of_heap h1.ref
  have j4 := lt_of_heap hgr
  have hbY := H1.out.1.trans (h1.below.mono H1.out.sh.ge)
  have hzY := hbY.size
  clear hJ h1 h2 hgr hsr key k0 k1 k2 k3 k4 hbV hBY
  go_wp2_with (first | (((with_reducible refine wp_region_fut_lit (by kernel_rfl) (by kernel_rfl) ?_)); (repeat (go_big_quiet_step ((first | fail)))); ((with_reducible refine wpQuiet_nil ?_)); rintro _ ⟨u, rfl⟩; (try (rw [Fut.put_self u (by first | assumption | (simp [go_sem]; done) | (simp [go_sem]; omega))]))))
  go_ret
  exact .mk rfl (hbY.trans (u.below.mono hzY))
theorem walkNested_walk (W : World) (sl : Value) (l : List It) (hl : ItemsAt W sl l) : Calls Try.prog 7 #[sl] W (Makes (.bool true) W) := by
  have hs := hl.src
  obtain ⟨n, hn⟩ : ∃ n, l.length = n := ⟨_, rfl⟩
  rw [hn] at hs
  obtain ⟨ao, cap, rfl⟩ := hs.slice_of
  clear hl
  rcases Nat.lt_or_ge 30 n with c | c
  · have d1 : decide ((30 : Int) < n) = true := by simp; omega
    clear c hn hs
    go_enter Try.func7, Try.ntmps7
    go_wp2_with (first | (go_at_call 33; ((with_reducible refine (wkAlive_any _).mono ?_)); rintro _ _ ⟨rfl, u, rfl⟩; (try (rw [Fut.put_self u (by first | assumption | (simp [go_sem]; done) | (simp [go_sem]; omega))]))) | (((with_reducible refine wp_region_fut_lit (by kernel_rfl) (by kernel_rfl) ?_)); (repeat (go_big_quiet_step ((first | (go_at_call 33; with_reducible exact Calls.fut_of (wkAlive_any _)))))); ((with_reducible refine wpQuiet_nil ?_)); rintro _ ⟨u, rfl⟩; (try (rw [Fut.put_self u (by first | assumption | (simp [go_sem]; done) | (simp [go_sem]; omega))]))))
    go_ret; exact .mk (by first | rfl | (simp; done) | (simp; omega)) (by repeat' (first | exact Below.refl _ _ | with_reducible assumption | omega | with_reducible refine below_put_fut ?_ ?_ _ | with_reducible refine below_to_put ?_ | with_reducible refine Below.alloc ?_ ?_ _ | with_reducible refine Below.fut ?_ ?_ _ | with_reducible refine Below.drew ?_ | with_reducible refine Below.setCell ?_ ?_ _ | with_reducible refine Below.atPut ?_ ?_ _ | (simp [go_sem]; done) | (simp [go_sem]; omega)))
  exact walkNested_good W _ l n hn c hs
end Go.Proofs.Ythknenhcnpgkcaa
