/- ScanGives answers true for every list of items and every two answers, and leaves its arguments as they were. No condition. -/
import Derived.Test.YthgajbfgolcpkaaScanFails
import Derived.Test.YthgajbfgolcpkaaRun
import Derived.Deep.WholeRow
import Derived.Deep.Cut
import Derived.Deep.DeepCutAuto
import Derived.Great.Walk
namespace Go.Proofs.Ythgajbfgolcpkaa
open Go.ChangeShapes Go.WideShapes Go.ChangeAt Go.RowKit Go.Joins
open Go.ChangeMaps (open_string shut_string)
set_option linter.unusedVariables false
set_option linter.unusedSimpArgs false
theorem ObjAt.rekeep {o : Obj} {e : TypeId} {size : Nat} {w0 : Base} {g n : Nat} {xs : List Value} {W W' : World} {v : Value} {M : Nat} {q q' : Obj} (h : ObjAt o e size (w0.with M q) g n xs W v) (hM : w0.heap.size ≤ M) (hb : Below W.heap.size (put W M q') W') : ObjAt o e size (w0.with M q') g n xs W' v := by
  obtain ⟨hk, hg, hv⟩ := h.kept M q (Base.with_self _ _ _)
  have hl := lt_of_heap hk
  have hp : ObjAt o e size (w0.with M q') g n xs (put W M q') v := by
    refine ⟨Below.atPut h.below hM _, ?_, owns_put h.owns hv _, h.base, h.ne, fun k r hr => ?_⟩
    · rw [heap_put_other _ _ _ _ (fun e => hg e.symm)]; exact h.heap
    · by_cases e : k = M
      · subst e
        rw [Base.with_self] at hr
        cases hr
        exact ⟨heap_put_at _ _ _ hl, hg, hv⟩
      · have hr' : w0.keep k = some r := by simpa [Base.with, e] using hr
        have := h.kept k r (Base.with_other hr' e)
        exact ⟨by rw [heap_put_other _ _ _ _ e]; exact this.1, this.2⟩
  exact hp.on (by rw [size_put]; exact hb)
/-- The scan goes on, M has the letter that asked last. -/
structure Goes (w0 : Base) (g M : Nat) (s : Sc) (W : World) : Prop where
  ex : ∃ n xs v, ScanAt s (w0.with M s.letter) g n xs W v
  base : w0.heap.size ≤ M
/-- It is over, with no items, and has told so. -/
def Ends (w : World) (g : Nat) (W : World) : Prop := ∃ (s : Sc) (w1 : Base), w1.toWorld = w ∧ ScanAt s w1 g 0 [] W (.slice none 0 0) ∧ s.over = true ∧ s.more = false ∧ s.e = 9
theorem Ends.mk {w : World} {g : Nat} {W : World} {s : Sc} {w1 : Base} (h : ScanAt s w1 g 0 [] W (.slice none 0 0)) (e : w1.toWorld = w) (h1 : s.over = true) (h2 : s.more = false) (h3 : s.e = 9) : Ends w g W := ⟨s, w1, e, h, h1, h2, h3⟩
/-- What holds of the scan in the loop. -/
structure Inv (busy : Bool) (s : Sc) (i : Nat) : Prop where
  on : s.on = true
  old : s.old = i
  nodes : s.nodes = 3
  at0 : 0 ≤ s.at_
  at3 : s.at_ < 3
  id0 : 0 ≤ s.id
  id1 : s.id ≤ 30002 + i
  tried : 0 ≤ s.tried
  waits : s.waits = 0 ∨ (busy = true ∧ s.waits = 1)
theorem Inv.tick {busy : Bool} {s : Sc} {i : Nat} (h : Inv busy s i) (hw : s.waits = 0 ∨ (busy = true ∧ s.waits = 1)) : Inv busy { s with old := s.old + 1 } (i + 1) :=
  ⟨h.on, by show s.old + 1 = _; rw [h.old]; simp, h.nodes, h.at0, h.at3, h.id0, by have := h.id1; show s.id ≤ _; omega, h.tried, hw⟩
def Lp (busy : Bool) (B : Base) (w : World) (g M i : Nat) (ov : Bool) (wr : World) : Prop :=
  (ov = true ∧ Ends w g wr) ∨ (ov = false ∧ i ≤ 29 ∧ ∃ s, Goes B g M s wr ∧ Inv busy s i)
theorem below_alloc_put (W : World) (o o' : Obj) : Below W.heap.size W (put (W.alloc o) W.heap.size o') := (by repeat' (first | exact Below.refl _ _ | with_reducible assumption | omega | with_reducible refine below_put_fut ?_ ?_ _ | with_reducible refine below_to_put ?_ | with_reducible refine Below.alloc ?_ ?_ _ | with_reducible refine Below.fut ?_ ?_ _ | with_reducible refine Below.drew ?_ | with_reducible refine Below.setCell ?_ ?_ _ | with_reducible refine Below.atPut ?_ ?_ _ | (simp [go_sem]; done) | (simp [go_sem]; omega)))
theorem heap_alloc_put (W : World) (o o' : Obj) : (put (W.alloc o) W.heap.size o').heap[W.heap.size]? = some o' := heap_put_at _ _ _ (by simp)
set_option maxRecDepth 100000 in
set_option maxHeartbeats 4000000 in
theorem scanGives_silent_false (w : World) (v : Value) (its : List It) (hi : ItemsAt w v its) (c : its.length ≤ 20) :
    Calls Try.prog 12 #[v, .bool false, .bool true] w (Makes (.bool true) w) := by
  have hs := hi.src
  obtain ⟨ao, cap, rfl⟩ := hi.slice
  clear hi
  generalize hn : its.length = n at hs c ⊢
  generalize flat its = news at hs
  clear hn
  have HS := hid hs
  clear hs
  go_enter Try.func12, Try.ntmps12
  go_wp2_with (first | (go_at_call 27; ((with_reducible refine (scanAlive_any _).mono ?_)); rintro _ _ ⟨rfl, u, rfl⟩; (try (rw [Fut.put_self u (by first | assumption | (simp [go_sem]; done) | (simp [go_sem]; omega))]))) | (((with_reducible refine wp_region_fut_lit (by kernel_rfl) (by kernel_rfl) ?_)); (repeat (go_big_quiet_step ((first | (go_at_call 27; with_reducible exact Calls.fut_of (scanAlive_any _)))))); ((with_reducible refine wpQuiet_nil ?_)); rintro _ ⟨u, rfl⟩; (try (rw [Fut.put_self u (by first | assumption | (simp [go_sem]; done) | (simp [go_sem]; omega))]))))
  (((with_reducible refine (new_is 100 3 (by omega) (by omega) ⟨w, fun _ => none⟩ (hid fun _ => rfl) _ (by repeat' (first | exact Below.refl _ _ | with_reducible assumption | omega | with_reducible refine below_put_fut ?_ ?_ _ | with_reducible refine below_to_put ?_ | with_reducible refine Below.alloc ?_ ?_ _ | with_reducible refine Below.fut ?_ ?_ _ | with_reducible refine Below.drew ?_ | with_reducible refine Below.setCell ?_ ?_ _ | with_reducible refine Below.atPut ?_ ?_ _ | (simp [go_sem]; done) | (simp [go_sem]; omega)))).mono ?_)); rintro _ W1 ⟨g, rfl, h1⟩)
  go_wp2_with fail
  (((with_reducible refine (start_is _ _ _ _ _ _ _ h1 rfl _ _ 40 0 (by decide) (by decide) (by omega) (by omega) (by omega) (show (0 : Int) < 3 by decide) (show (0 : Int) ≤ 30000 by decide) (show (30000 : Int) < 1000000 by decide)).mono ?_)); rintro _ W2 ⟨L, rfl, hL, h2⟩)
  simp only [show (30000 : Int) + 1 = 30001 from rfl] at hL h2
  have HS2 := hid (HS.out.heap h2.below)
  clear h1 HS
  go_wp2_with fail
  (((with_reducible refine (got_more _ _ _ _ _ _ _ h2 rfl rfl ⟨100, 0, ⟨#[]⟩, ⟨#[]⟩, ⟨#[]⟩, 0, 0, ⟨#[]⟩, .slice ao n cap, true, ⟨#[109]⟩, 0, 0, 0, 0, .slice none 0 0, 0, 0⟩ rfl rfl n news HS2.out (by omega) (by omega) (show ((0 : Nat) : Int) + (n : Int) < 40 by omega) (show (40 : Int) ≤ 100 by decide) (show Op.bytesLess [] [109] = true by decide) (by decide) (show (⟨#[109]⟩ : ByteArray).size ≤ maxLen by decide) (show (0 : Int) ≤ 30001 by decide) (show (30001 : Int) < 1000000 by decide)).mono ?_)); rintro _ W3 ⟨v3, L3, rfl, hL3, h4⟩)
  simp only [show (30001 : Int) + 1 = 30002 from rfl] at hL3 h4
  clear h2 hL HS2
  obtain ⟨am, ham⟩ : ∃ am : Int, (40 : Int) - (((0 : Nat) : Int) + (n : Int)) = am := ⟨_, rfl⟩
  rw [ham] at hL3 h4
  clear ham
  have c3 := hL3.cell
  have hb3 := hL3.base
  have l3 := lt_of_heap hL3.heap
  have hL3h := hL3.heap
  unfold Sc.letter at hL3h
  go_upto_region 15 with fail
  have hz := h4.size
  have G0 : ∀ W', W'.heap[W3.heap.size]? = some (Sc.letter ⟨100, 3, 30002, 1, 4, ⟨#[109]⟩, ⟨#[]⟩, ⟨#[]⟩, am, 40, 0, 0, 0, true, false, false, 0⟩) → Below W3.heap.size W3 W' → Goes ⟨w, fun _ => none⟩ g W3.heap.size ⟨100, 3, 30002, 1, 4, ⟨#[109]⟩, ⟨#[]⟩, ⟨#[]⟩, am, 40, 0, 0, 0, true, false, false, 0⟩ W' := fun W' hM hB => ⟨⟨_, _, _, ScanAt.learn (h4.on hB) ⟨hM, hz⟩⟩, hz⟩
  clear hL3 h4 c3 l3
  obtain ⟨B, hB⟩ : ∃ B : Base, B = ⟨w, fun _ => none⟩ := ⟨_, rfl⟩
  go_cut [12] (fun a wc => a = .pointer (some ⟨W3.heap.size, 0, none⟩) ∧ Goes B g W3.heap.size ⟨100, 3, 30002, 1, 4, ⟨#[109]⟩, ⟨#[]⟩, ⟨#[]⟩, am, 40, 0, 0, 0, true, false, false, 0⟩ wc)
  case first =>
    refine wp_region_lit ?_
    refine Go.Great.wpList_runTo rfl (some 56) rfl (.slice (some ⟨L3, 0, none⟩) 1 1) W3 (by simp [execOp, Act.eval]) ?_
    refine Go.Great.wpList_runTo rfl (some 57) rfl (.pointer (some ⟨L3, 0, none⟩)) W3 (by simp [execOp, Act.eval, Act.put, go_sem]) ?_
    refine wpList_load_row rfl 36 (.tmp 57) rfl L3 (by simp [Act.eval, Act.put]) 36 _ _ _ hL3h rfl rfl rfl ?_
    refine Go.Great.wpList_runTo rfl (some 12) rfl (.pointer (some ⟨W3.heap.size, 0, none⟩)) (W3.alloc (.cells #[.int .i64 0, .int .i64 0, .int .i64 0, .int .i64 0, .int .i64 0, .string ⟨#[]⟩, .string ⟨#[]⟩, .string ⟨#[]⟩, .int .i64 0, .int .i64 0, .string ⟨#[]⟩, .slice none 0 0, .bool false, .string ⟨#[]⟩, .int .i64 0, .int .u64 0, .int .u64 0, .int .i64 0, .slice none 0 0, .int .i64 0, .int .i64 0] 36)) (by kernel_rfl) ?_
    refine wpList_store_row rfl 36 (.tmp 12) (.tmp 58) rfl W3.heap.size (#[.int .i64 1, .int .i64 100, .int .i64 0, .int .i64 30002, .int .i64 4, .string ⟨#[109]⟩, .string ⟨#[]⟩, .string ⟨#[]⟩, .int .i64 am, .int .i64 0, .string ⟨#[]⟩, .slice none 0 0, .bool false, .string ⟨#[]⟩, .int .i64 0, .int .u64 0, .int .u64 0, .int .i64 0, .slice none 0 0, .int .i64 0, .int .i64 0]) (#[.int .i64 0, .int .i64 0, .int .i64 0, .int .i64 0, .int .i64 0, .string ⟨#[]⟩, .string ⟨#[]⟩, .string ⟨#[]⟩, .int .i64 0, .int .i64 0, .string ⟨#[]⟩, .slice none 0 0, .bool false, .string ⟨#[]⟩, .int .i64 0, .int .u64 0, .int .u64 0, .int .i64 0, .slice none 0 0, .int .i64 0, .int .i64 0]) (by simp [Act.eval, Act.put]) (by simp [Act.eval, Act.put]) (heap_alloc_at _ _ _ rfl) (by kernel_rfl) rfl (by simp [Value.oneCell']) ?_
    refine wpList_nil ?_
    simp [Act.put]
    go_wp2_with fail
    go_meet
    exact ⟨rfl, by rw [hB]; exact G0 _ (heap_alloc_put _ _ _) (below_alloc_put _ _ _)⟩
  case rest =>
  obtain ⟨rfl, hG⟩ := hcut
  clear G0 hL3h
  generalize W3.heap.size = M at hG ⊢
  have hBw : B.toWorld = w := by rw [hB]
  clear hB hz hb3
  rename_i W4
  have HG := hid hG
  clear hG
  go_wp2_with fail
  go_loopw [8, 10, 13] (fun x o k wr => ∃ i : Nat, i ≤ 30 ∧ k = .int .i64 i ∧ ∃ ov : Bool, o = .bool ov ∧ Hid (Lp false B w g M i ov wr)) (fun _ _ k _ => 200 - (intOf k).toNat)
  case atStart => exact ⟨0, by omega, rfl, false, rfl, hid (.inr ⟨rfl, by omega, _, HG.out, ⟨rfl, rfl, rfl, Int.le_refl 0, (by show (0 : Int) < 3; decide), (by show (0 : Int) ≤ 30002; decide), (by show (30002 : Int) ≤ 30002 + ((0 : Nat) : Int); decide), (by show (0 : Int) ≤ 1; decide), .inl rfl⟩⟩)⟩
  case round =>
    obtain ⟨i, hi, rfl, ov, rfl, hL⟩ := hrel
    clear HG
    rcases hL.out with ⟨rfl, hE⟩ | ⟨rfl, hi2, s, hG, hI⟩
    · clear hL
      go_wp2_with fail
      obtain ⟨s, w1, hw1, h6, e1, e2, e3⟩ := hE
      (((with_reducible refine (result_is _ _ _ _ _ _ _ h6 e1 (by omega) (by simp)).mono ?_)); rintro _ W5 ⟨ao5, cc5, rfl, hO, h7⟩)
      rw [e2, e3]
      have hB := h7.below
      rw [hw1] at hB
      clear h7 h6 hO e1 e2 e3 hw1
      go_wp2_with fail
      go_ret
      exact .mk (by first | rfl | simp) hB
    · clear hL
      obtain ⟨⟨n4, xs4, v4, h5⟩, hM⟩ := hG
      have hw : s.waits = 0 := hI.waits.elim id (fun h => absurd h.1 (by decide))
      rcases Nat.lt_or_ge i 29 with c9 | c9
      · go_wp2_with fail
        (((with_reducible refine (tick_idle _ _ _ _ _ _ _ h5 hI.on hw (by have := hI.old; omega) (by have := hI.old; omega)).mono ?_)); rintro _ W5 ⟨rfl, h6⟩)
        go_wp2_with fail
        go_roundw
        case rel => exact ⟨i + 1, by omega, by go_num, false, rfl, hid (.inr ⟨rfl, by omega, _, ⟨⟨_, _, _, h6⟩, hM⟩, hI.tick (.inl hw)⟩)⟩
        case measure => simp [intOf]; omega
      · go_wp2_with fail
        (((with_reducible refine (tick_late _ _ _ _ _ _ _ h5 hI.on (by have := hI.old; omega) (by have := hI.old; omega)).mono ?_)); rintro _ W5 ⟨rfl, h6⟩)
        go_wp2_with fail
        go_roundw
        case rel => exact ⟨i + 1, by omega, by go_num, true, rfl, hid (.inl ⟨rfl, .mk h6 hBw rfl rfl rfl⟩)⟩
        case measure => simp [intOf]; omega
set_option maxRecDepth 100000 in
set_option maxHeartbeats 4000000 in
theorem scanGives_silent_true (w : World) (v : Value) (its : List It) (hi : ItemsAt w v its) (c : its.length ≤ 20) :
    Calls Try.prog 12 #[v, .bool true, .bool true] w (Makes (.bool true) w) := by
  have hs := hi.src
  obtain ⟨ao, cap, rfl⟩ := hi.slice
  clear hi
  generalize hn : its.length = n at hs c ⊢
  generalize flat its = news at hs
  clear hn
  have HS := hid hs
  clear hs
  go_enter Try.func12, Try.ntmps12
  go_wp2_with (first | (go_at_call 27; ((with_reducible refine (scanAlive_any _).mono ?_)); rintro _ _ ⟨rfl, u, rfl⟩; (try (rw [Fut.put_self u (by first | assumption | (simp [go_sem]; done) | (simp [go_sem]; omega))]))) | (((with_reducible refine wp_region_fut_lit (by kernel_rfl) (by kernel_rfl) ?_)); (repeat (go_big_quiet_step ((first | (go_at_call 27; with_reducible exact Calls.fut_of (scanAlive_any _)))))); ((with_reducible refine wpQuiet_nil ?_)); rintro _ ⟨u, rfl⟩; (try (rw [Fut.put_self u (by first | assumption | (simp [go_sem]; done) | (simp [go_sem]; omega))]))))
  (((with_reducible refine (new_is 100 3 (by omega) (by omega) ⟨w, fun _ => none⟩ (hid fun _ => rfl) _ (by repeat' (first | exact Below.refl _ _ | with_reducible assumption | omega | with_reducible refine below_put_fut ?_ ?_ _ | with_reducible refine below_to_put ?_ | with_reducible refine Below.alloc ?_ ?_ _ | with_reducible refine Below.fut ?_ ?_ _ | with_reducible refine Below.drew ?_ | with_reducible refine Below.setCell ?_ ?_ _ | with_reducible refine Below.atPut ?_ ?_ _ | (simp [go_sem]; done) | (simp [go_sem]; omega)))).mono ?_)); rintro _ W1 ⟨g, rfl, h1⟩)
  go_wp2_with fail
  (((with_reducible refine (start_is _ _ _ _ _ _ _ h1 rfl _ _ 40 0 (by decide) (by decide) (by omega) (by omega) (by omega) (show (0 : Int) < 3 by decide) (show (0 : Int) ≤ 30000 by decide) (show (30000 : Int) < 1000000 by decide)).mono ?_)); rintro _ W2 ⟨L, rfl, hL, h2⟩)
  simp only [show (30000 : Int) + 1 = 30001 from rfl] at hL h2
  have HS2 := hid (HS.out.heap h2.below)
  clear h1 HS
  go_wp2_with fail
  (((with_reducible refine (got_more _ _ _ _ _ _ _ h2 rfl rfl ⟨100, 0, ⟨#[]⟩, ⟨#[]⟩, ⟨#[]⟩, 0, 0, ⟨#[]⟩, .slice ao n cap, true, ⟨#[109]⟩, 0, 0, 0, 0, .slice none 0 0, 0, 0⟩ rfl rfl n news HS2.out (by omega) (by omega) (show ((0 : Nat) : Int) + (n : Int) < 40 by omega) (show (40 : Int) ≤ 100 by decide) (show Op.bytesLess [] [109] = true by decide) (by decide) (show (⟨#[109]⟩ : ByteArray).size ≤ maxLen by decide) (show (0 : Int) ≤ 30001 by decide) (show (30001 : Int) < 1000000 by decide)).mono ?_)); rintro _ W3 ⟨v3, L3, rfl, hL3, h4⟩)
  simp only [show (30001 : Int) + 1 = 30002 from rfl] at hL3 h4
  clear h2 hL HS2
  obtain ⟨am, ham⟩ : ∃ am : Int, (40 : Int) - (((0 : Nat) : Int) + (n : Int)) = am := ⟨_, rfl⟩
  rw [ham] at hL3 h4
  clear ham
  have c3 := hL3.cell
  have hb3 := hL3.base
  have l3 := lt_of_heap hL3.heap
  have hL3h := hL3.heap
  unfold Sc.letter at hL3h
  go_upto_region 15 with fail
  have hz := h4.size
  have G0 : ∀ W', W'.heap[W3.heap.size]? = some (Sc.letter ⟨100, 3, 30002, 1, 4, ⟨#[109]⟩, ⟨#[]⟩, ⟨#[]⟩, am, 40, 0, 0, 0, true, false, false, 0⟩) → Below W3.heap.size W3 W' → Goes ⟨w, fun _ => none⟩ g W3.heap.size ⟨100, 3, 30002, 1, 4, ⟨#[109]⟩, ⟨#[]⟩, ⟨#[]⟩, am, 40, 0, 0, 0, true, false, false, 0⟩ W' := fun W' hM hB => ⟨⟨_, _, _, ScanAt.learn (h4.on hB) ⟨hM, hz⟩⟩, hz⟩
  clear hL3 h4 c3 l3
  obtain ⟨B, hB⟩ : ∃ B : Base, B = ⟨w, fun _ => none⟩ := ⟨_, rfl⟩
  go_cut [12] (fun a wc => a = .pointer (some ⟨W3.heap.size, 0, none⟩) ∧ Goes B g W3.heap.size ⟨100, 3, 30002, 1, 4, ⟨#[109]⟩, ⟨#[]⟩, ⟨#[]⟩, am, 40, 0, 0, 0, true, false, false, 0⟩ wc)
  case first =>
    refine wp_region_lit ?_
    refine Go.Great.wpList_runTo rfl (some 56) rfl (.slice (some ⟨L3, 0, none⟩) 1 1) W3 (by simp [execOp, Act.eval]) ?_
    refine Go.Great.wpList_runTo rfl (some 57) rfl (.pointer (some ⟨L3, 0, none⟩)) W3 (by simp [execOp, Act.eval, Act.put, go_sem]) ?_
    refine wpList_load_row rfl 36 (.tmp 57) rfl L3 (by simp [Act.eval, Act.put]) 36 _ _ _ hL3h rfl rfl rfl ?_
    refine Go.Great.wpList_runTo rfl (some 12) rfl (.pointer (some ⟨W3.heap.size, 0, none⟩)) (W3.alloc (.cells #[.int .i64 0, .int .i64 0, .int .i64 0, .int .i64 0, .int .i64 0, .string ⟨#[]⟩, .string ⟨#[]⟩, .string ⟨#[]⟩, .int .i64 0, .int .i64 0, .string ⟨#[]⟩, .slice none 0 0, .bool false, .string ⟨#[]⟩, .int .i64 0, .int .u64 0, .int .u64 0, .int .i64 0, .slice none 0 0, .int .i64 0, .int .i64 0] 36)) (by kernel_rfl) ?_
    refine wpList_store_row rfl 36 (.tmp 12) (.tmp 58) rfl W3.heap.size (#[.int .i64 1, .int .i64 100, .int .i64 0, .int .i64 30002, .int .i64 4, .string ⟨#[109]⟩, .string ⟨#[]⟩, .string ⟨#[]⟩, .int .i64 am, .int .i64 0, .string ⟨#[]⟩, .slice none 0 0, .bool false, .string ⟨#[]⟩, .int .i64 0, .int .u64 0, .int .u64 0, .int .i64 0, .slice none 0 0, .int .i64 0, .int .i64 0]) (#[.int .i64 0, .int .i64 0, .int .i64 0, .int .i64 0, .int .i64 0, .string ⟨#[]⟩, .string ⟨#[]⟩, .string ⟨#[]⟩, .int .i64 0, .int .i64 0, .string ⟨#[]⟩, .slice none 0 0, .bool false, .string ⟨#[]⟩, .int .i64 0, .int .u64 0, .int .u64 0, .int .i64 0, .slice none 0 0, .int .i64 0, .int .i64 0]) (by simp [Act.eval, Act.put]) (by simp [Act.eval, Act.put]) (heap_alloc_at _ _ _ rfl) (by kernel_rfl) rfl (by simp [Value.oneCell']) ?_
    refine wpList_nil ?_
    simp [Act.put]
    go_wp2_with fail
    go_meet
    exact ⟨rfl, by rw [hB]; exact G0 _ (heap_alloc_put _ _ _) (below_alloc_put _ _ _)⟩
  case rest =>
  obtain ⟨rfl, hG⟩ := hcut
  clear G0 hL3h
  generalize W3.heap.size = M at hG ⊢
  have hBw : B.toWorld = w := by rw [hB]
  clear hB hz hb3
  rename_i W4
  have HG := hid hG
  clear hG
  go_wp2_with fail
  go_loopw [8, 10, 13] (fun x o k wr => ∃ i : Nat, i ≤ 30 ∧ k = .int .i64 i ∧ ∃ ov : Bool, o = .bool ov ∧ Hid (Lp false B w g M i ov wr)) (fun _ _ k _ => 200 - (intOf k).toNat)
  case atStart => exact ⟨0, by omega, rfl, false, rfl, hid (.inr ⟨rfl, by omega, _, HG.out, ⟨rfl, rfl, rfl, Int.le_refl 0, (by show (0 : Int) < 3; decide), (by show (0 : Int) ≤ 30002; decide), (by show (30002 : Int) ≤ 30002 + ((0 : Nat) : Int); decide), (by show (0 : Int) ≤ 1; decide), .inl rfl⟩⟩)⟩
  case round =>
    obtain ⟨i, hi, rfl, ov, rfl, hL⟩ := hrel
    clear HG
    rcases hL.out with ⟨rfl, hE⟩ | ⟨rfl, hi2, s, hG, hI⟩
    · clear hL
      go_wp2_with fail
      obtain ⟨s, w1, hw1, h6, e1, e2, e3⟩ := hE
      (((with_reducible refine (result_is _ _ _ _ _ _ _ h6 e1 (by omega) (by simp)).mono ?_)); rintro _ W5 ⟨ao5, cc5, rfl, hO, h7⟩)
      rw [e2, e3]
      have hB := h7.below
      rw [hw1] at hB
      clear h7 h6 hO e1 e2 e3 hw1
      go_wp2_with fail
      go_ret
      exact .mk (by first | rfl | simp) hB
    · clear hL
      obtain ⟨⟨n4, xs4, v4, h5⟩, hM⟩ := hG
      have hw : s.waits = 0 := hI.waits.elim id (fun h => absurd h.1 (by decide))
      rcases Nat.lt_or_ge i 29 with c9 | c9
      · go_wp2_with fail
        (((with_reducible refine (tick_idle _ _ _ _ _ _ _ h5 hI.on hw (by have := hI.old; omega) (by have := hI.old; omega)).mono ?_)); rintro _ W5 ⟨rfl, h6⟩)
        go_wp2_with fail
        go_roundw
        case rel => exact ⟨i + 1, by omega, by go_num, false, rfl, hid (.inr ⟨rfl, by omega, _, ⟨⟨_, _, _, h6⟩, hM⟩, hI.tick (.inl hw)⟩)⟩
        case measure => simp [intOf]; omega
      · go_wp2_with fail
        (((with_reducible refine (tick_late _ _ _ _ _ _ _ h5 hI.on (by have := hI.old; omega) (by have := hI.old; omega)).mono ?_)); rintro _ W5 ⟨rfl, h6⟩)
        go_wp2_with fail
        go_roundw
        case rel => exact ⟨i + 1, by omega, by go_num, true, rfl, hid (.inl ⟨rfl, .mk h6 hBw rfl rfl rfl⟩)⟩
        case measure => simp [intOf]; omega
set_option maxRecDepth 100000 in
set_option maxHeartbeats 4000000 in
theorem scanGives_busy (w : World) (v : Value) (its : List It) (hi : ItemsAt w v its) (c : its.length ≤ 20) :
    Calls Try.prog 12 #[v, .bool true, .bool false] w (Makes (.bool true) w) := by
  have hs := hi.src
  obtain ⟨ao, cap, rfl⟩ := hi.slice
  clear hi
  generalize hn : its.length = n at hs c ⊢
  generalize flat its = news at hs
  clear hn
  have HS := hid hs
  clear hs
  go_enter Try.func12, Try.ntmps12
  go_wp2_with (first | (go_at_call 27; ((with_reducible refine (scanAlive_any _).mono ?_)); rintro _ _ ⟨rfl, u, rfl⟩; (try (rw [Fut.put_self u (by first | assumption | (simp [go_sem]; done) | (simp [go_sem]; omega))]))) | (((with_reducible refine wp_region_fut_lit (by kernel_rfl) (by kernel_rfl) ?_)); (repeat (go_big_quiet_step ((first | (go_at_call 27; with_reducible exact Calls.fut_of (scanAlive_any _)))))); ((with_reducible refine wpQuiet_nil ?_)); rintro _ ⟨u, rfl⟩; (try (rw [Fut.put_self u (by first | assumption | (simp [go_sem]; done) | (simp [go_sem]; omega))]))))
  (((with_reducible refine (new_is 100 3 (by omega) (by omega) ⟨w, fun _ => none⟩ (hid fun _ => rfl) _ (by repeat' (first | exact Below.refl _ _ | with_reducible assumption | omega | with_reducible refine below_put_fut ?_ ?_ _ | with_reducible refine below_to_put ?_ | with_reducible refine Below.alloc ?_ ?_ _ | with_reducible refine Below.fut ?_ ?_ _ | with_reducible refine Below.drew ?_ | with_reducible refine Below.setCell ?_ ?_ _ | with_reducible refine Below.atPut ?_ ?_ _ | (simp [go_sem]; done) | (simp [go_sem]; omega)))).mono ?_)); rintro _ W1 ⟨g, rfl, h1⟩)
  go_wp2_with fail
  (((with_reducible refine (start_is _ _ _ _ _ _ _ h1 rfl _ _ 40 0 (by decide) (by decide) (by omega) (by omega) (by omega) (show (0 : Int) < 3 by decide) (show (0 : Int) ≤ 30000 by decide) (show (30000 : Int) < 1000000 by decide)).mono ?_)); rintro _ W2 ⟨L, rfl, hL, h2⟩)
  simp only [show (30000 : Int) + 1 = 30001 from rfl] at hL h2
  have HS2 := hid (HS.out.heap h2.below)
  clear h1 HS
  go_wp2_with fail
  (((with_reducible refine (got_more _ _ _ _ _ _ _ h2 rfl rfl ⟨100, 0, ⟨#[]⟩, ⟨#[]⟩, ⟨#[]⟩, 0, 0, ⟨#[]⟩, .slice ao n cap, true, ⟨#[109]⟩, 0, 0, 0, 0, .slice none 0 0, 0, 0⟩ rfl rfl n news HS2.out (by omega) (by omega) (show ((0 : Nat) : Int) + (n : Int) < 40 by omega) (show (40 : Int) ≤ 100 by decide) (show Op.bytesLess [] [109] = true by decide) (by decide) (show (⟨#[109]⟩ : ByteArray).size ≤ maxLen by decide) (show (0 : Int) ≤ 30001 by decide) (show (30001 : Int) < 1000000 by decide)).mono ?_)); rintro _ W3 ⟨v3, L3, rfl, hL3, h4⟩)
  simp only [show (30001 : Int) + 1 = 30002 from rfl] at hL3 h4
  clear h2 hL HS2
  obtain ⟨am, ham⟩ : ∃ am : Int, (40 : Int) - (((0 : Nat) : Int) + (n : Int)) = am := ⟨_, rfl⟩
  rw [ham] at hL3 h4
  clear ham
  have c3 := hL3.cell
  have hb3 := hL3.base
  have l3 := lt_of_heap hL3.heap
  have hL3h := hL3.heap
  unfold Sc.letter at hL3h
  go_upto_region 15 with fail
  have hz := h4.size
  have G0 : ∀ W', W'.heap[W3.heap.size]? = some (Sc.letter ⟨100, 3, 30002, 1, 4, ⟨#[109]⟩, ⟨#[]⟩, ⟨#[]⟩, am, 40, 0, 0, 0, true, false, false, 0⟩) → Below W3.heap.size W3 W' → Goes ⟨w, fun _ => none⟩ g W3.heap.size ⟨100, 3, 30002, 1, 4, ⟨#[109]⟩, ⟨#[]⟩, ⟨#[]⟩, am, 40, 0, 0, 0, true, false, false, 0⟩ W' := fun W' hM hB => ⟨⟨_, _, _, ScanAt.learn (h4.on hB) ⟨hM, hz⟩⟩, hz⟩
  clear hL3 h4 c3 l3
  obtain ⟨B, hB⟩ : ∃ B : Base, B = ⟨w, fun _ => none⟩ := ⟨_, rfl⟩
  go_cut [12] (fun a wc => a = .pointer (some ⟨W3.heap.size, 0, none⟩) ∧ Goes B g W3.heap.size ⟨100, 3, 30002, 1, 4, ⟨#[109]⟩, ⟨#[]⟩, ⟨#[]⟩, am, 40, 0, 0, 0, true, false, false, 0⟩ wc)
  case first =>
    refine wp_region_lit ?_
    refine Go.Great.wpList_runTo rfl (some 56) rfl (.slice (some ⟨L3, 0, none⟩) 1 1) W3 (by simp [execOp, Act.eval]) ?_
    refine Go.Great.wpList_runTo rfl (some 57) rfl (.pointer (some ⟨L3, 0, none⟩)) W3 (by simp [execOp, Act.eval, Act.put, go_sem]) ?_
    refine wpList_load_row rfl 36 (.tmp 57) rfl L3 (by simp [Act.eval, Act.put]) 36 _ _ _ hL3h rfl rfl rfl ?_
    refine Go.Great.wpList_runTo rfl (some 12) rfl (.pointer (some ⟨W3.heap.size, 0, none⟩)) (W3.alloc (.cells #[.int .i64 0, .int .i64 0, .int .i64 0, .int .i64 0, .int .i64 0, .string ⟨#[]⟩, .string ⟨#[]⟩, .string ⟨#[]⟩, .int .i64 0, .int .i64 0, .string ⟨#[]⟩, .slice none 0 0, .bool false, .string ⟨#[]⟩, .int .i64 0, .int .u64 0, .int .u64 0, .int .i64 0, .slice none 0 0, .int .i64 0, .int .i64 0] 36)) (by kernel_rfl) ?_
    refine wpList_store_row rfl 36 (.tmp 12) (.tmp 58) rfl W3.heap.size (#[.int .i64 1, .int .i64 100, .int .i64 0, .int .i64 30002, .int .i64 4, .string ⟨#[109]⟩, .string ⟨#[]⟩, .string ⟨#[]⟩, .int .i64 am, .int .i64 0, .string ⟨#[]⟩, .slice none 0 0, .bool false, .string ⟨#[]⟩, .int .i64 0, .int .u64 0, .int .u64 0, .int .i64 0, .slice none 0 0, .int .i64 0, .int .i64 0]) (#[.int .i64 0, .int .i64 0, .int .i64 0, .int .i64 0, .int .i64 0, .string ⟨#[]⟩, .string ⟨#[]⟩, .string ⟨#[]⟩, .int .i64 0, .int .i64 0, .string ⟨#[]⟩, .slice none 0 0, .bool false, .string ⟨#[]⟩, .int .i64 0, .int .u64 0, .int .u64 0, .int .i64 0, .slice none 0 0, .int .i64 0, .int .i64 0]) (by simp [Act.eval, Act.put]) (by simp [Act.eval, Act.put]) (heap_alloc_at _ _ _ rfl) (by kernel_rfl) rfl (by simp [Value.oneCell']) ?_
    refine wpList_nil ?_
    simp [Act.put]
    go_wp2_with fail
    go_meet
    exact ⟨rfl, by rw [hB]; exact G0 _ (heap_alloc_put _ _ _) (below_alloc_put _ _ _)⟩
  case rest =>
  obtain ⟨rfl, hG⟩ := hcut
  clear G0 hL3h
  generalize W3.heap.size = M at hG ⊢
  have hBw : B.toWorld = w := by rw [hB]
  clear hB hz hb3
  rename_i W4
  have HG := hid hG
  clear hG
  go_wp2_with fail
  go_loopw [8, 10, 13] (fun x o k wr => ∃ i : Nat, i ≤ 30 ∧ k = .int .i64 i ∧ ∃ ov : Bool, o = .bool ov ∧ Hid (Lp true B w g M i ov wr)) (fun _ _ k _ => 200 - (intOf k).toNat)
  case atStart => exact ⟨0, by omega, rfl, false, rfl, hid (.inr ⟨rfl, by omega, _, HG.out, ⟨rfl, rfl, rfl, Int.le_refl 0, (by show (0 : Int) < 3; decide), (by show (0 : Int) ≤ 30002; decide), (by show (30002 : Int) ≤ 30002 + ((0 : Nat) : Int); decide), (by show (0 : Int) ≤ 1; decide), .inl rfl⟩⟩)⟩
  case round =>
    obtain ⟨i, hi, rfl, ov, rfl, hL⟩ := hrel
    clear HG
    rcases hL.out with ⟨rfl, hE⟩ | ⟨rfl, hi2, s, hG, hI⟩
    · clear hL
      go_wp2_with fail
      obtain ⟨s, w1, hw1, h6, e1, e2, e3⟩ := hE
      (((with_reducible refine (result_is _ _ _ _ _ _ _ h6 e1 (by omega) (by simp)).mono ?_)); rintro _ W5 ⟨ao5, cc5, rfl, hO, h7⟩)
      rw [e2, e3]
      have hB := h7.below
      rw [hw1] at hB
      clear h7 h6 hO e1 e2 e3 hw1
      go_wp2_with fail
      go_ret
      exact .mk (by first | rfl | simp) hB
    · clear hL
      obtain ⟨⟨n4, xs4, v4, h5⟩, hM⟩ := hG
      have hk := (h5.kept M _ (Base.with_self _ _ _)).1
      have c4 := (ObjAt.keepLetter (s := s) h5 (Base.with_self _ _ _) hM).cell
      have hold := hI.old
      have hid0 := hI.id0
      have hid1 := hI.id1
      have htr := hI.tried
      rcases hI.waits with hw | ⟨_, hw⟩
      · rcases Int.lt_or_le s.tried 8 with ht | ht
        · go_wp2_with fail
          (((with_reducible refine (got_busy _ _ _ _ _ _ _ h5 hI.on hw ⟨100, 0, ⟨#[]⟩, ⟨#[]⟩, ⟨#[]⟩, 0, 7, ⟨#[]⟩, .slice none 0 0, false, ⟨#[]⟩, -1, 0, 0, 0, .slice none 0 0, 0, 0⟩ rfl ht htr).mono ?_)); rintro _ W5 ⟨rfl, h6⟩)
          rcases Nat.lt_or_ge i 29 with c9 | c9
          · go_wp2_with fail
            (((with_reducible refine (tick_waits _ _ _ _ _ _ _ h6 hI.on rfl (by show s.old < 29; omega) (by show 0 ≤ s.old; omega)).mono ?_)); rintro _ W6 ⟨rfl, h7⟩)
            go_wp2_with fail
            go_roundw
            case rel => exact ⟨i + 1, by omega, by go_num, false, rfl, hid (.inr ⟨rfl, by omega, _, ⟨⟨_, _, _, h7⟩, hM⟩, ⟨hI.on, by show s.old + 1 = _; rw [hold]; simp, hI.nodes, hI.at0, hI.at3, hI.id0, by show s.id ≤ _; omega, by show 0 ≤ s.tried + 1; omega, .inr ⟨rfl, rfl⟩⟩⟩)⟩
            case measure => simp [intOf]; omega
          · go_wp2_with fail
            (((with_reducible refine (tick_late _ _ _ _ _ _ _ h6 hI.on (by show 29 ≤ s.old; omega) (by show s.old < 1000000; omega)).mono ?_)); rintro _ W6 ⟨rfl, h9⟩)
            go_wp2_with fail
            go_roundw
            case rel => exact ⟨i + 1, by omega, by go_num, true, rfl, hid (.inl ⟨rfl, .mk h9 hBw rfl rfl rfl⟩)⟩
            case measure => simp [intOf]; omega
        · go_wp2_with fail
          (((with_reducible refine (got_late _ _ _ _ _ _ _ h5 hI.on hw ⟨100, 0, ⟨#[]⟩, ⟨#[]⟩, ⟨#[]⟩, 0, 7, ⟨#[]⟩, .slice none 0 0, false, ⟨#[]⟩, -1, 0, 0, 0, .slice none 0 0, 0, 0⟩ 7 rfl (.inl rfl) ht).mono ?_)); rintro _ W5 ⟨rfl, h6⟩)
          go_wp2_with fail
          go_roundw
          case rel => exact ⟨i + 1, by omega, by go_num, true, rfl, hid (.inl ⟨rfl, .mk h6 hBw rfl rfl rfl⟩)⟩
          case measure => simp [intOf]; omega
      · go_wp2_with fail
        (((with_reducible refine (got_waits _ _ _ _ _ _ _ h5 hI.on (by omega) ⟨100, 0, ⟨#[]⟩, ⟨#[]⟩, ⟨#[]⟩, 0, 7, ⟨#[]⟩, .slice none 0 0, false, ⟨#[]⟩, -1, 0, 0, 0, .slice none 0 0, 0, 0⟩ 2 s.at_ s.id).mono ?_)); rintro _ W5 ⟨rfl, h6⟩)
        rcases Nat.lt_or_ge i 29 with c9 | c9
        · go_wp2_with fail
          (((with_reducible refine (tick_asks _ _ _ _ _ _ _ h6 hI.on hw (by omega) (by omega) hid0 (by omega)).mono ?_)); rintro _ W6 ⟨L7, rfl, hL7, h7⟩)
          go_upto_region 26 with fail
          have hk7 := (h7.kept M _ (Base.with_self _ _ _)).1
          have hL7h := hL7.heap
          unfold Sc.letter at hk7 hL7h
          refine wp_region_lit ?_
          refine Go.Great.wpList_runTo rfl (some 97) rfl (.slice (some ⟨L7, 0, none⟩) 1 1) W6 (by simp [execOp, Act.eval]) ?_
          refine Go.Great.wpList_runTo rfl (some 98) rfl (.pointer (some ⟨L7, 0, none⟩)) W6 (by simp [execOp, Act.eval, Act.put, go_sem]) ?_
          refine wpList_load_row rfl 36 (.tmp 98) rfl L7 (by simp [Act.eval, Act.put]) 36 _ _ _ hL7h rfl rfl rfl ?_
          refine wpList_store_row rfl 36 (.tmp 12) (.tmp 99) rfl M _ _ (by simp [Act.eval, Act.put]) (by simp only [Act.eval, Act.put]; rfl) hk7 (by kernel_rfl) (by rfl) (by simp [Value.oneCell']) ?_
          refine wpList_nil ?_
          simp [Act.put]
          go_wp2_with fail
          go_roundw
          case rel => exact ⟨i + 1, by omega, by go_num, false, rfl, hid (.inr ⟨rfl, by omega, _, ⟨⟨_, _, _, h7.rekeep hM (Below.refl _ _)⟩, hM⟩, ⟨hI.on, by show s.old + 1 = _; rw [hold]; simp, hI.nodes, hI.at0, hI.at3, by show 0 ≤ s.id + 1; omega, by show s.id + 1 ≤ _; omega, htr, .inl rfl⟩⟩)⟩
          case measure => simp [intOf]; omega
        · go_wp2_with fail
          (((with_reducible refine (tick_late _ _ _ _ _ _ _ h6 hI.on (by omega) (by omega)).mono ?_)); rintro _ W6 ⟨rfl, h9⟩)
          go_wp2_with fail
          go_roundw
          case rel => exact ⟨i + 1, by omega, by go_num, true, rfl, hid (.inl ⟨rfl, .mk h9 hBw rfl rfl rfl⟩)⟩
          case measure => simp [intOf]; omega
set_option maxRecDepth 100000 in
set_option maxHeartbeats 4000000 in
theorem scanGives_else (w : World) (v : Value) (its : List It) (hi : ItemsAt w v its) (c : its.length ≤ 20) :
    Calls Try.prog 12 #[v, .bool false, .bool false] w (Makes (.bool true) w) := by
  have hs := hi.src
  obtain ⟨ao, cap, rfl⟩ := hi.slice
  clear hi
  generalize hn : its.length = n at hs c ⊢
  generalize flat its = news at hs
  clear hn
  have HS := hid hs
  clear hs
  go_enter Try.func12, Try.ntmps12
  go_wp2_with (first | (go_at_call 27; ((with_reducible refine (scanAlive_any _).mono ?_)); rintro _ _ ⟨rfl, u, rfl⟩; (try (rw [Fut.put_self u (by first | assumption | (simp [go_sem]; done) | (simp [go_sem]; omega))]))) | (((with_reducible refine wp_region_fut_lit (by kernel_rfl) (by kernel_rfl) ?_)); (repeat (go_big_quiet_step ((first | (go_at_call 27; with_reducible exact Calls.fut_of (scanAlive_any _)))))); ((with_reducible refine wpQuiet_nil ?_)); rintro _ ⟨u, rfl⟩; (try (rw [Fut.put_self u (by first | assumption | (simp [go_sem]; done) | (simp [go_sem]; omega))]))))
  (((with_reducible refine (new_is 100 3 (by omega) (by omega) ⟨w, fun _ => none⟩ (hid fun _ => rfl) _ (by repeat' (first | exact Below.refl _ _ | with_reducible assumption | omega | with_reducible refine below_put_fut ?_ ?_ _ | with_reducible refine below_to_put ?_ | with_reducible refine Below.alloc ?_ ?_ _ | with_reducible refine Below.fut ?_ ?_ _ | with_reducible refine Below.drew ?_ | with_reducible refine Below.setCell ?_ ?_ _ | with_reducible refine Below.atPut ?_ ?_ _ | (simp [go_sem]; done) | (simp [go_sem]; omega)))).mono ?_)); rintro _ W1 ⟨g, rfl, h1⟩)
  go_wp2_with fail
  (((with_reducible refine (start_is _ _ _ _ _ _ _ h1 rfl _ _ 40 0 (by decide) (by decide) (by omega) (by omega) (by omega) (show (0 : Int) < 3 by decide) (show (0 : Int) ≤ 30000 by decide) (show (30000 : Int) < 1000000 by decide)).mono ?_)); rintro _ W2 ⟨L, rfl, hL, h2⟩)
  simp only [show (30000 : Int) + 1 = 30001 from rfl] at hL h2
  have HS2 := hid (HS.out.heap h2.below)
  clear h1 HS
  go_wp2_with fail
  (((with_reducible refine (got_more _ _ _ _ _ _ _ h2 rfl rfl ⟨100, 0, ⟨#[]⟩, ⟨#[]⟩, ⟨#[]⟩, 0, 0, ⟨#[]⟩, .slice ao n cap, true, ⟨#[109]⟩, 0, 0, 0, 0, .slice none 0 0, 0, 0⟩ rfl rfl n news HS2.out (by omega) (by omega) (show ((0 : Nat) : Int) + (n : Int) < 40 by omega) (show (40 : Int) ≤ 100 by decide) (show Op.bytesLess [] [109] = true by decide) (by decide) (show (⟨#[109]⟩ : ByteArray).size ≤ maxLen by decide) (show (0 : Int) ≤ 30001 by decide) (show (30001 : Int) < 1000000 by decide)).mono ?_)); rintro _ W3 ⟨v3, L3, rfl, hL3, h4⟩)
  simp only [show (30001 : Int) + 1 = 30002 from rfl] at hL3 h4
  clear h2 hL HS2
  obtain ⟨am, ham⟩ : ∃ am : Int, (40 : Int) - (((0 : Nat) : Int) + (n : Int)) = am := ⟨_, rfl⟩
  rw [ham] at hL3 h4
  clear ham
  have c3 := hL3.cell
  have hb3 := hL3.base
  have l3 := lt_of_heap hL3.heap
  have hL3h := hL3.heap
  unfold Sc.letter at hL3h
  go_upto_region 15 with fail
  have hz := h4.size
  have G0 : ∀ W', W'.heap[W3.heap.size]? = some (Sc.letter ⟨100, 3, 30002, 1, 4, ⟨#[109]⟩, ⟨#[]⟩, ⟨#[]⟩, am, 40, 0, 0, 0, true, false, false, 0⟩) → Below W3.heap.size W3 W' → Goes ⟨w, fun _ => none⟩ g W3.heap.size ⟨100, 3, 30002, 1, 4, ⟨#[109]⟩, ⟨#[]⟩, ⟨#[]⟩, am, 40, 0, 0, 0, true, false, false, 0⟩ W' := fun W' hM hB => ⟨⟨_, _, _, ScanAt.learn (h4.on hB) ⟨hM, hz⟩⟩, hz⟩
  clear hL3 h4 c3 l3
  obtain ⟨B, hB⟩ : ∃ B : Base, B = ⟨w, fun _ => none⟩ := ⟨_, rfl⟩
  go_cut [12] (fun a wc => a = .pointer (some ⟨W3.heap.size, 0, none⟩) ∧ Goes B g W3.heap.size ⟨100, 3, 30002, 1, 4, ⟨#[109]⟩, ⟨#[]⟩, ⟨#[]⟩, am, 40, 0, 0, 0, true, false, false, 0⟩ wc)
  case first =>
    refine wp_region_lit ?_
    refine Go.Great.wpList_runTo rfl (some 56) rfl (.slice (some ⟨L3, 0, none⟩) 1 1) W3 (by simp [execOp, Act.eval]) ?_
    refine Go.Great.wpList_runTo rfl (some 57) rfl (.pointer (some ⟨L3, 0, none⟩)) W3 (by simp [execOp, Act.eval, Act.put, go_sem]) ?_
    refine wpList_load_row rfl 36 (.tmp 57) rfl L3 (by simp [Act.eval, Act.put]) 36 _ _ _ hL3h rfl rfl rfl ?_
    refine Go.Great.wpList_runTo rfl (some 12) rfl (.pointer (some ⟨W3.heap.size, 0, none⟩)) (W3.alloc (.cells #[.int .i64 0, .int .i64 0, .int .i64 0, .int .i64 0, .int .i64 0, .string ⟨#[]⟩, .string ⟨#[]⟩, .string ⟨#[]⟩, .int .i64 0, .int .i64 0, .string ⟨#[]⟩, .slice none 0 0, .bool false, .string ⟨#[]⟩, .int .i64 0, .int .u64 0, .int .u64 0, .int .i64 0, .slice none 0 0, .int .i64 0, .int .i64 0] 36)) (by kernel_rfl) ?_
    refine wpList_store_row rfl 36 (.tmp 12) (.tmp 58) rfl W3.heap.size (#[.int .i64 1, .int .i64 100, .int .i64 0, .int .i64 30002, .int .i64 4, .string ⟨#[109]⟩, .string ⟨#[]⟩, .string ⟨#[]⟩, .int .i64 am, .int .i64 0, .string ⟨#[]⟩, .slice none 0 0, .bool false, .string ⟨#[]⟩, .int .i64 0, .int .u64 0, .int .u64 0, .int .i64 0, .slice none 0 0, .int .i64 0, .int .i64 0]) (#[.int .i64 0, .int .i64 0, .int .i64 0, .int .i64 0, .int .i64 0, .string ⟨#[]⟩, .string ⟨#[]⟩, .string ⟨#[]⟩, .int .i64 0, .int .i64 0, .string ⟨#[]⟩, .slice none 0 0, .bool false, .string ⟨#[]⟩, .int .i64 0, .int .u64 0, .int .u64 0, .int .i64 0, .slice none 0 0, .int .i64 0, .int .i64 0]) (by simp [Act.eval, Act.put]) (by simp [Act.eval, Act.put]) (heap_alloc_at _ _ _ rfl) (by kernel_rfl) rfl (by simp [Value.oneCell']) ?_
    refine wpList_nil ?_
    simp [Act.put]
    go_wp2_with fail
    go_meet
    exact ⟨rfl, by rw [hB]; exact G0 _ (heap_alloc_put _ _ _) (below_alloc_put _ _ _)⟩
  case rest =>
  obtain ⟨rfl, hG⟩ := hcut
  clear G0 hL3h
  generalize W3.heap.size = M at hG ⊢
  have hBw : B.toWorld = w := by rw [hB]
  clear hB hz hb3
  rename_i W4
  have HG := hid hG
  clear hG
  go_wp2_with fail
  go_loopw [8, 10, 13] (fun x o k wr => ∃ i : Nat, i ≤ 30 ∧ k = .int .i64 i ∧ ∃ ov : Bool, o = .bool ov ∧ Hid (Lp false B w g M i ov wr)) (fun _ _ k _ => 200 - (intOf k).toNat)
  case atStart => exact ⟨0, by omega, rfl, false, rfl, hid (.inr ⟨rfl, by omega, _, HG.out, ⟨rfl, rfl, rfl, Int.le_refl 0, (by show (0 : Int) < 3; decide), (by show (0 : Int) ≤ 30002; decide), (by show (30002 : Int) ≤ 30002 + ((0 : Nat) : Int); decide), (by show (0 : Int) ≤ 1; decide), .inl rfl⟩⟩)⟩
  case round =>
    obtain ⟨i, hi, rfl, ov, rfl, hL⟩ := hrel
    clear HG
    rcases hL.out with ⟨rfl, hE⟩ | ⟨rfl, hi2, s, hG, hI⟩
    · clear hL
      go_wp2_with fail
      obtain ⟨s, w1, hw1, h6, e1, e2, e3⟩ := hE
      (((with_reducible refine (result_is _ _ _ _ _ _ _ h6 e1 (by omega) (by simp)).mono ?_)); rintro _ W5 ⟨ao5, cc5, rfl, hO, h7⟩)
      rw [e2, e3]
      have hB := h7.below
      rw [hw1] at hB
      clear h7 h6 hO e1 e2 e3 hw1
      go_wp2_with fail
      go_ret
      exact .mk (by first | rfl | simp) hB
    · clear hL
      obtain ⟨⟨n4, xs4, v4, h5⟩, hM⟩ := hG
      have hk := (h5.kept M _ (Base.with_self _ _ _)).1
      have c4 := (ObjAt.keepLetter (s := s) h5 (Base.with_self _ _ _) hM).cell
      have hold := hI.old
      have hid0 := hI.id0
      have hid1 := hI.id1
      have htr := hI.tried
      have HNO := hid hI.nodes
      have ha0 := hI.at0
      have ha3 := hI.at3
      have hw : s.waits = 0 := hI.waits.elim id (fun h => absurd h.1 (by decide))
      rcases Int.lt_or_le s.tried 8 with ht | ht
      · go_wp2_with fail
        (((with_reducible refine (got_round _ _ _ _ _ _ _ h5 hI.on hw ⟨100, 0, ⟨#[]⟩, ⟨#[]⟩, ⟨#[]⟩, 0, 8, ⟨#[]⟩, .slice none 0 0, false, ⟨#[]⟩, -1, 0, 0, 0, .slice none 0 0, 0, 0⟩ rfl ht htr (.inl (by decide)) (by have := HNO.out; omega) ha0 (by omega) hid0 (by omega)).mono ?_)); rintro _ W5 ⟨L6, rfl, hL6, h6⟩)
        go_upto_region 22 with fail
        have hk6 := (h6.kept M _ (Base.with_self _ _ _)).1
        have hL6h := hL6.heap
        unfold Sc.letter at hk6 hL6h
        refine wp_region_lit ?_
        refine Go.Great.wpList_runTo rfl (some 84) rfl (.slice (some ⟨L6, 0, none⟩) 1 1) W5 (by simp [execOp, Act.eval]) ?_
        refine Go.Great.wpList_runTo rfl (some 85) rfl (.pointer (some ⟨L6, 0, none⟩)) W5 (by simp [execOp, Act.eval, Act.put, go_sem]) ?_
        refine wpList_load_row rfl 36 (.tmp 85) rfl L6 (by simp [Act.eval, Act.put]) 36 _ _ _ hL6h rfl rfl rfl ?_
        refine wpList_store_row rfl 36 (.tmp 12) (.tmp 86) rfl M _ _ (by simp [Act.eval, Act.put]) (by simp only [Act.eval, Act.put]; rfl) hk6 (by kernel_rfl) (by rfl) (by simp [Value.oneCell']) ?_
        refine wpList_nil ?_
        simp [Act.put]
        have h7 := h6.rekeep (q' := Sc.letter { s with tried := s.tried + 1, at_ := (s.at_ + 1) % s.nodes, id := s.id + 1 }) hM (Below.refl _ _)
        unfold Sc.letter at h7
        rcases Nat.lt_or_ge i 29 with c9 | c9
        · go_wp2_with fail
          (((with_reducible refine (tick_idle _ _ _ _ _ _ _ h7 hI.on hw (by show s.old < 29; omega) (by show 0 ≤ s.old; omega)).mono ?_)); rintro _ W6 ⟨rfl, h8⟩)
          go_wp2_with fail
          go_roundw
          case rel => exact ⟨i + 1, by omega, by go_num, false, rfl, hid (.inr ⟨rfl, by omega, _, ⟨⟨_, _, _, h8⟩, hM⟩, ⟨hI.on, by show s.old + 1 = _; rw [hold]; simp, hI.nodes, by show 0 ≤ (s.at_ + 1) % s.nodes; rw [HNO.out]; omega, by show (s.at_ + 1) % s.nodes < 3; rw [HNO.out]; omega, by show 0 ≤ s.id + 1; omega, by show s.id + 1 ≤ _; omega, by show 0 ≤ s.tried + 1; omega, .inl hw⟩⟩)⟩
          case measure => simp [intOf]; omega
        · go_wp2_with fail
          (((with_reducible refine (tick_late _ _ _ _ _ _ _ h7 hI.on (by show 29 ≤ s.old; omega) (by show s.old < 1000000; omega)).mono ?_)); rintro _ W6 ⟨rfl, h9⟩)
          go_wp2_with fail
          go_roundw
          case rel => exact ⟨i + 1, by omega, by go_num, true, rfl, hid (.inl ⟨rfl, .mk h9 hBw rfl rfl rfl⟩)⟩
          case measure => simp [intOf]; omega
      · go_wp2_with fail
        (((with_reducible refine (got_late _ _ _ _ _ _ _ h5 hI.on hw ⟨100, 0, ⟨#[]⟩, ⟨#[]⟩, ⟨#[]⟩, 0, 8, ⟨#[]⟩, .slice none 0 0, false, ⟨#[]⟩, -1, 0, 0, 0, .slice none 0 0, 0, 0⟩ 8 rfl (.inr rfl) ht).mono ?_)); rintro _ W5 ⟨rfl, h6⟩)
        go_wp2_with fail
        go_roundw
        case rel => exact ⟨i + 1, by omega, by go_num, true, rfl, hid (.inl ⟨rfl, .mk h6 hBw rfl rfl rfl⟩)⟩
        case measure => simp [intOf]; omega
set_option maxRecDepth 100000 in
set_option maxHeartbeats 4000000 in
theorem scanGives_many (w : World) (v : Value) (its : List It) (hi : ItemsAt w v its) (c : 20 < its.length) (b s : Bool) :
    Calls Try.prog 12 #[v, .bool b, .bool s] w (Makes (.bool true) w) := by
  obtain ⟨ao, cap, rfl⟩ := hi.slice
  clear hi
  generalize its.length = n at c ⊢
  go_enter Try.func12, Try.ntmps12
  go_wp2_with (first | (go_at_call 27; ((with_reducible refine (scanAlive_any _).mono ?_)); rintro _ _ ⟨rfl, u, rfl⟩; (try (rw [Fut.put_self u (by first | assumption | (simp [go_sem]; done) | (simp [go_sem]; omega))]))) | (((with_reducible refine wp_region_fut_lit (by kernel_rfl) (by kernel_rfl) ?_)); (repeat (go_big_quiet_step ((first | (go_at_call 27; with_reducible exact Calls.fut_of (scanAlive_any _)))))); ((with_reducible refine wpQuiet_nil ?_)); rintro _ ⟨u, rfl⟩; (try (rw [Fut.put_self u (by first | assumption | (simp [go_sem]; done) | (simp [go_sem]; omega))]))))
  go_ret; exact .mk (by first | rfl | (simp; done) | (simp; omega)) (by repeat' (first | exact Below.refl _ _ | with_reducible assumption | omega | with_reducible refine below_put_fut ?_ ?_ _ | with_reducible refine below_to_put ?_ | with_reducible refine Below.alloc ?_ ?_ _ | with_reducible refine Below.fut ?_ ?_ _ | with_reducible refine Below.drew ?_ | with_reducible refine Below.setCell ?_ ?_ _ | with_reducible refine Below.atPut ?_ ?_ _ | (simp [go_sem]; done) | (simp [go_sem]; omega)))
theorem scanGives_walk (w : World) (v : Value) (its : List It) (hi : ItemsAt w v its) (b s : Bool) :
    Calls Try.prog 12 #[v, .bool b, .bool s] w (Makes (.bool true) w) := by
  rcases Nat.lt_or_ge 20 its.length with c | c
  · exact scanGives_many w v its hi c b s
  · cases s
    · cases b
      · exact scanGives_else w v its hi c
      · exact scanGives_busy w v its hi c
    · cases b
      · exact scanGives_silent_false w v its hi c
      · exact scanGives_silent_true w v its hi c
set_option maxRecDepth 100000 in
theorem scanGives_lifted (os : Os) (started : os.Started) (H : Type) (enc : TypeId × Value → H) :
    ReturnsInHanded {} Try.checked os 12 .any (Rows.scanGivesSpec.pre6 enc Try.prog Try.f12 Rows.scanGivesRow.domain false) (Rows.scanGivesSpec.post enc Try.prog Try.f12 false true false false) := by
  refine returnsInHanded_of_change (C := Try.checked) own started (by kernel_rfl) Try.func12
    (ChangeSpec.witness6 (enc := enc) (C := Try.checked) false ⟨#[], #[.slice none 0 0, .bool false, .bool false], []⟩ 8 (by kernel_rfl) (by kernel_rfl) (by kernel_rfl) (by kernel_rfl)) ?_
  intro W base args ds gs before hval0 hW hcnd _
  have hval : ∀ (j : Nat) t v, Try.f12.params[j]? = some t → args[j]? = some v → Value.okWide Try.prog W .any base t v := hval0
  have hW' := hW
  obtain ⟨p, q, hA0, hV, rfl, hfz, hnd⟩ := hW
  have hA : DataW.TrodAll enc Try.prog W 0 (fun _ => true) true Try.f12.params.toList args.toList ds p := hA0
  rw [Try.params12] at hA hval
  obtain ⟨v0, vs0, d0, ds0, p0, q0, hargs, rfl, rfl, h0, r0⟩ := trodAll_cons hA
  obtain ⟨v1, vs1, d1, ds1, p1, q1, rfl, rfl, rfl, h1, r1⟩ := trodAll_cons r0
  obtain ⟨v2, vs2, d2, ds2, p2, q2, rfl, rfl, rfl, h2, r2⟩ := trodAll_cons r1
  obtain ⟨rfl, rfl, rfl⟩ := trodAll_nil r2
  obtain rfl : args = #[v0, v1, v2] := by cases args; simp_all
  obtain ⟨rfl, rfl⟩ := trodVars_none hV
  have k0 := h0
  have lt0 : ∀ x ∈ p0, x.block < W.heap.size := by obtain ⟨m, hm⟩ := k0; exact DataW.trod_lt m _ _ _ hm
  obtain ⟨l0, w0⟩ := open_items (hval 0 29 v0 rfl rfl) h0
  have k1 := h1
  have lt1 : ∀ x ∈ p1, x.block < W.heap.size := by obtain ⟨m, hm⟩ := k1; exact DataW.trod_lt m _ _ _ hm
  obtain ⟨a1, rfl, -, -⟩ := open_bool Try.underlying4 (hval 1 4 v1 rfl rfl) h1
  have k2 := h2
  have lt2 : ∀ x ∈ p2, x.block < W.heap.size := by obtain ⟨m, hm⟩ := k2; exact DataW.trod_lt m _ _ _ hm
  obtain ⟨a2, rfl, -, -⟩ := open_bool Try.underlying4 (hval 2 4 v2 rfl rfl) h2
  clear hA0 hval0
  refine (scanGives_walk W _ l0 w0 a1 a2).mono fun e W' ⟨he, u, hu⟩ => ?_
  subst he; subst hu
  have bel := u.below
  exact ⟨_, rfl, _, _, _, [], _, [], hW', trodAll_mk1 (shut_bool Try.underlying4 _), (trodAll_cons_mk (Below.trod laidOut (by kernel_rfl) (of_decide_eq_true (by kernel_rfl)) k0 bel lt0) (trodAll_cons_mk (Below.trod laidOut (by kernel_rfl) (of_decide_eq_true (by kernel_rfl)) k1 bel lt1) (trodAll_cons_mk (Below.trod laidOut (by kernel_rfl) (of_decide_eq_true (by kernel_rfl)) k2 bel lt2) trodAll_mk0))), rfl, bel.frame _, fun h => by cases h⟩
/-- The statement. -/
theorem scanGives_holds : Rows.ScanGivesSaid :=
  OpenClaim.holds_of_wide 12 Try.f12 rfl rfl rfl rfl rfl rfl rfl ⟨rfl, rfl, rfl, rfl, rfl⟩ rfl rfl rfl rfl rfl (by kernel_rfl) Try.func12 (by kernel_rfl)
    (of_decide_eq_true (by kernel_rfl)) (by unfold Func.isWrapper; first | (rw [if_pos (by decide +kernel)]; kernel_rfl) | (rw [if_neg (by decide +kernel)]; exact ⟨rfl, rfl⟩))
    (fun os started H enc _ => scanGives_lifted os started H enc)
#print axioms scanGives_holds
end Go.Proofs.Ythgajbfgolcpkaa
