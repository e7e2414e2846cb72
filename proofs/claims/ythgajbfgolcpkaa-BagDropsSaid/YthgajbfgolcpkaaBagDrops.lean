/- BagDrops answers true for every number and every list of numbers, and leaves them as they were. No condition. -/
import Derived.Test.YthgajbfgolcpkaaBag7
import Derived.Test.YthgajbfgolcpkaaInts
import Derived.Test.YthgajbfgolcpkaaFrame
import Derived.IntWalk
import Derived.Deep.RegionLaw
namespace Go.Proofs.Ythgajbfgolcpkaa
open Go.ChangeShapes Go.WideShapes Go.ChangeAt Go.RowKit Go.Joins
set_option linter.unusedVariables false
set_option linter.unusedSimpArgs false
theorem int_info : (Try.prog.info? 3).map (fun i => (i.zero, i.size, i.bytes)) = some (some (.int .i64 0), 1, 8) := by kernel_rfl
/-- Packets with these news. -/
def pz (zs : List Int) : List Pk := zs.map fun z => ((0, 0, 0, z) : Pk)
theorem pz_length (zs : List Int) : (pz zs).length = zs.length := by simp [pz]
theorem pz_snoc (zs : List Int) (x : Int) : pz zs ++ [(0, 0, 0, x)] = pz (zs ++ [x]) := by simp [pz]
theorem pz_at {zs : List Int} {i : Nat} {x : Int} (h : zs[i]? = some x) : (pz zs)[i]? = some (0, 0, 0, x) := by simp [pz, h]
theorem pz_erase (zs : List Int) (i : Nat) : (pz zs).eraseIdx i = pz (zs.eraseIdx i) := by
  rw [List.eraseIdx_eq_take_drop_succ, List.eraseIdx_eq_take_drop_succ]; simp [pz, List.map_take, List.map_drop]
/-- A bag, and a list of numbers apart from it. -/
structure WB (B : Base) (g : Nat) (l : List Pk) (wv : Value) (zs : List Int) (W : World) : Prop where
  row : W.ownsRow B.heap.size 3 1 wv zs.length (zs.map (Value.int .i64))
  bag : Bag 100 B g l W
  apart : ∀ r, wv.ownBlock = some r → r ≠ g ∧ ∀ v, W.heap[g]? = some (bagObj 100 v) → v.ownBlock ≠ some r
theorem WB.on {B : Base} {g : Nat} {l : List Pk} {wv : Value} {zs : List Int} {W W' : World} (h : WB B g l wv zs W) (hb : Below W.heap.size W W') : WB B g l wv zs W' := by
  refine ⟨owns_below h.row hb, h.bag.on hb, fun r hr => ⟨(h.apart r hr).1, fun v hv => (h.apart r hr).2 v ?_⟩⟩
  obtain ⟨v0, hv0⟩ := h.bag.ex
  rw [hb.block g hv0.lt] at hv
  exact hv
theorem bagObj_inj {m : Int} {v v' : Value} (h : (some (bagObj m v) : Option Obj) = some (bagObj m v')) : v = v' := by
  injection h with h
  injection h with h1 h2 h3
  simpa using h1
theorem WB.via {B : Base} {g : Nat} {l l' : List Pk} {wv : Value} {zs : List Int} {W : World} (h : WB B g l wv zs W) (hk : ∀ k, B.keep k = none) {f : FuncId} {args : Array Value} {R : Ending → Prop}
    (hc : ∀ B' : Base, Bag 100 B' g l W → Calls Try.prog f args W fun e W' => R e ∧ Bag 100 B' g l' W') : Calls Try.prog f args W fun e W' => R e ∧ WB B g l' wv zs W' := by
  cases ho : wv.ownBlock with
  | none =>
    refine (hc B h.bag).mono fun e W' ⟨he, hb⟩ => ⟨he, owns_heap h.row (fun k hk => ?_), hb, fun r hr => ?_⟩
    · rw [ho] at hk; cases hk
    · rw [ho] at hr; cases hr
  | some r =>
    obtain ⟨hrb, hrl⟩ := h.row.lt r ho
    obtain ⟨q, hq⟩ : ∃ q, W.heap[r]? = some q := ⟨_, Array.getElem?_eq_getElem hrl⟩
    obtain ⟨h1, h2⟩ := h.apart r ho
    obtain ⟨v, hv⟩ := h.bag.ex
    have hb0 : Bag 100 (B.with r q) g l W := ⟨v, ObjAt.learn hv hq h1 (h2 v hv.heap)⟩
    refine (hc _ hb0).mono fun e W' ⟨he, hb⟩ => ⟨he, ?_⟩
    obtain ⟨v', hv'⟩ := hb.ex
    obtain ⟨k1, k2, k3⟩ := hv'.kept r q (Base.with_self _ _ _)
    refine ⟨owns_heap h.row (fun k hk => ?_), ⟨v', hv'.below, hv'.heap, hv'.owns, hv'.base, hv'.ne, fun k q hq => by rw [hk] at hq; cases hq⟩, fun r' hr' => ?_⟩
    · rw [ho] at hk; cases hk; rw [k1, hq]
    · rw [ho] at hr'; cases hr'
      refine ⟨k2, fun v2 hv2 => ?_⟩
      rw [hv'.heap] at hv2
      rw [← bagObj_inj hv2]; exact k3
/-- One more number at the list's end. -/
theorem WB.append {B : Base} {g : Nat} {l : List Pk} {wv : Value} {zs : List Int} {W : World} (h : WB B g l wv zs W) (hk : ∀ k, B.keep k = none) (n : Nat) (hn : zs.length = n) (hz : n ≤ 1000) (x : Int) (S : Nat) (hS : W.heap[S]? = some (.cells #[.int .i64 x] 3)) :
    ∃ v' W', (Builtin.append_ #[47, 47] 47 #[wv, .slice (some ⟨S, 0, none⟩) 1 1]).run Try.prog W = .ok v' W' ∧ W'.ownsRow B.heap.size 3 1 v' (n + 1) ((zs ++ [x]).map (Value.int .i64)) ∧ WB B g l v' (zs ++ [x]) W' := by
  obtain ⟨i0, hi0, hz0, hz1, hz2⟩ := info_parts int_info
  subst hn
  obtain ⟨v, hv⟩ := h.bag.ex
  obtain ⟨v', W', hrun, hown, hgrow, _, hwhere⟩ := run_append_own_at (P := Try.prog) W B.heap.size 47 47 3 i0 _ 1 8 Try.underlying47 hi0 hz0 hz1 hz2 rfl (by omega) wv zs.length _ h.row ⟨S, 0, none⟩ 1 1 [.int .i64 x] rfl (World.news_of_block hS) (by simp [Value.oneCell']) (by unfold maxLen; omega) (by omega) hv.size
  have hown2 : W'.ownsRow B.heap.size 3 1 v' (zs.length + 1) ((zs ++ [x]).map (Value.int .i64)) := by simpa using hown
  have hap : ∀ k, k < W.heap.size → v.ownBlock = some k → wv.ownBlock ≠ some k := fun k _ hk' e => (h.apart k e).2 v hv.heap hk'
  have hgb : W'.heap[g]? = W.heap[g]? := hgrow.block g hv.lt (fun e => (h.apart g e.symm).1 rfl)
  have hv2 : BagAt 100 B g l.length (flatP l) W' v := by
    refine ⟨hv.below.grown hgrow hv.size (fun k hk' => (h.row.lt k hk').1), hgb.trans hv.heap, owns_heap hv.owns (fun k hk' => hgrow.block k (hv.owns.lt k hk').2 (fun e => hap k (hv.owns.lt k hk').2 hk' e.symm)), hv.base, hv.ne, fun k q hq => by rw [hk] at hq; cases hq⟩
  refine ⟨v', W', hrun, hown2, by simpa using hown2, ⟨v, hv2⟩, fun r hr => ?_⟩
  have hgl := hv.lt
  rcases hwhere with e | e
  · rw [e] at hr
    refine ⟨(h.apart r hr).1, fun v2 hv2 => ?_⟩
    rw [hgb] at hv2
    exact (h.apart r hr).2 v2 hv2
  · rw [e] at hr
    have := Option.some.inj hr
    refine ⟨by omega, fun v2 hv2' => ?_⟩
    rw [hgb, hv.heap] at hv2'
    rw [← bagObj_inj hv2']
    intro e2
    have := (hv.owns.lt r e2).2
    omega
/-- A new list of the numbers but one. -/
theorem WB.cutout {B : Base} {g : Nat} {l : List Pk} {zs : List Int} {W : World} {r n cap : Nat} (h : WB B g l (.slice (some ⟨r, 0, none⟩) n cap) zs W) (hn : zs.length = n) (hz : n ≤ 1000) (x : Nat) (hx : x < n) (A : Addr) (c : Nat) (hA : (A = ⟨r, x + 1, none⟩) ∨ n = x + 1) :
    ∃ v1 W1, (Builtin.append_ #[47, 47] 47 #[.slice none 0 0, .slice (some ⟨r, 0, none⟩) x cap]).run Try.prog W = .ok v1 W1 ∧ (∃ ao cc, v1 = .slice ao x cc) ∧ ∃ v2 W2, (Builtin.append_ #[47, 47] 47 #[v1, .slice (some A) (n - (x + 1)) c]).run Try.prog W1 = .ok v2 W2 ∧ (∃ ao cc, v2 = .slice ao (n - 1) cc) ∧ Below W.heap.size W W2 ∧ WB B g l v2 (zs.eraseIdx x) W2 := by
  obtain ⟨i0, hi0, hz0, hz1, hz2⟩ := info_parts int_info
  subst hn
  obtain ⟨v, hv⟩ := h.bag.ex
  have hsz := hv.size
  have hcells := h.row.cells (g := r) rfl
  have h1 : ∀ u ∈ zs.map (Value.int .i64), u.oneCell' = true := by intro u hu; obtain ⟨z, _, rfl⟩ := List.mem_map.1 hu; rfl
  obtain ⟨v1, W1, hrun1, hown1, hgrow1, _, hwh1⟩ := run_append_own_at (P := Try.prog) W W.heap.size 47 47 3 i0 _ 1 8 Try.underlying47 hi0 hz0 hz1 hz2 rfl (by omega) (.slice none 0 0) 0 [] (World.ownsRow_nil _ _ _ _) ⟨r, 0, none⟩ x cap ((zs.map (Value.int .i64)).take x) (by rw [List.length_take, List.length_map]; omega) (fun j u hu => hcells j u (by rw [List.getElem?_take] at hu; split at hu; exact hu; cases hu)) (fun u hu => h1 u (List.mem_of_mem_take hu)) (by unfold maxLen; omega) (by omega) (Nat.le_refl _)
  have hb1 : Below W.heap.size W W1 := (Below.refl _ W).grown hgrow1 (Nat.le_refl _) (fun k e => by cases e)
  have hrl := (h.row.lt r rfl).2
  obtain ⟨ao1, c1, rfl⟩ := owns_slice hown1
  rw [Nat.zero_add, List.nil_append] at hown1
  obtain ⟨v2, W2, hrun2, hown2, hgrow2, _, hwh2⟩ := run_append_own_at (P := Try.prog) W1 W.heap.size 47 47 3 i0 _ 1 8 Try.underlying47 hi0 hz0 hz1 hz2 rfl (by omega) _ x _ hown1 A (zs.length - (x + 1)) c ((zs.map (Value.int .i64)).drop (x + 1)) (by rw [List.length_drop, List.length_map]; omega)
    (fun j u hu => by
      rw [List.getElem?_drop] at hu
      rcases hA with rfl | hA
      · have := hcells _ u hu
        rw [add_none] at this ⊢
        rw [hb1.cell (p := ⟨r, x + 1 + j, none⟩) hrl]
        simpa using this
      · have := (List.getElem?_eq_some_iff.1 hu).1
        rw [List.length_map] at this; omega)
    (fun u hu => h1 u (List.mem_of_mem_drop hu)) (by unfold maxLen; omega) (by omega) hb1.size
  have hb2 : Below W.heap.size W W2 := hb1.grown hgrow2 hb1.size (fun k e => (hown1.lt k e).1)
  obtain ⟨ao2, c2, rfl⟩ := owns_slice hown2
  rw [show x + (zs.length - (x + 1)) = zs.length - 1 from by omega] at hown2 hrun2
  rw [Nat.zero_add] at hrun1
  refine ⟨_, W1, hrun1, ⟨_, _, rfl⟩, _, W2, hrun2, ⟨_, _, rfl⟩, hb2, ?_, h.bag.on hb2, fun r' hr' => ?_⟩
  · have e1 : (zs.eraseIdx x).length = zs.length - 1 := by rw [List.length_eraseIdx, if_pos hx]
    rw [e1, List.eraseIdx_eq_take_drop_succ, List.map_append, List.map_take, List.map_drop]
    exact owns_base (owns_zero hown2) (fun k hk' => Nat.le_trans hsz (hown2.lt k hk').1)
  · have h3 := (hown2.lt r' hr').1
    have hgl := hv.lt
    refine ⟨by omega, fun v3 hv3 => ?_⟩
    rw [hb2.block g hgl, hv.heap] at hv3
    rw [← bagObj_inj hv3]
    intro e2
    have := (hv.owns.lt r' e2).2
    omega
def nums (n : Nat) : List Int := (List.range n).map fun j => ((j : Nat) : Int)
theorem nums_length (n : Nat) : (nums n).length = n := by simp [nums]
theorem nums_succ (n : Nat) : nums n ++ [(n : Int)] = nums (n + 1) := by simp [nums, List.range_succ]
set_option maxRecDepth 100000 in
set_option maxHeartbeats 4000000 in
theorem bagDrops_good (w : World) (n : Nat) (ai : Option Addr) (li : List Int) (m cap : Nat) (hl : li.length = m) (hi : IntsAt w (.slice ai m cap) li) (h1 : n ≤ 40) (h2 : m ≤ 60) :
    Calls Try.prog 7 #[.int .i64 n, .slice ai m cap] w (Makes (.bool true) w) := by
  have HI := hid hi
  have HL := hid hl
  have d1 : decide ((n : Int) < 0) = false := by simp
  have d2 : decide ((40 : Int) < n) = false := by simp; omega
  have d3 : decide ((60 : Int) < m) = false := by simp; omega
  clear hi hl
  go_enter Try.func7, Try.ntmps7
  go_wp2_with (first | (go_at_call 17; ((with_reducible refine (bagAlive_any _).mono ?_)); rintro _ _ ⟨rfl, u, rfl⟩; (try (rw [Fut.put_self u (by first | assumption | (simp [go_sem]; done) | (simp [go_sem]; omega))]))) | (((with_reducible refine wp_region_fut_lit (by kernel_rfl) (by kernel_rfl) ?_)); (repeat (go_big_quiet_step ((first | (go_at_call 17; with_reducible exact Calls.fut_of (bagAlive_any _)))))); ((with_reducible refine wpQuiet_nil ?_)); rintro _ ⟨u, rfl⟩; (try (rw [Fut.put_self u (by first | assumption | (simp [go_sem]; done) | (simp [go_sem]; omega))]))))
  obtain ⟨B, hB⟩ : ∃ B : Base, B = ⟨w, fun _ => none⟩ := ⟨_, rfl⟩
  have HBK := hid (show ∀ k, B.keep k = none by rw [hB]; exact fun _ => rfl)
  (((with_reducible refine (bag_new 100 100 rfl B HBK _ (by rw [hB]; exact (by repeat' (first | exact Below.refl _ _ | with_reducible assumption | omega | with_reducible refine below_put_fut ?_ ?_ _ | with_reducible refine below_to_put ?_ | with_reducible refine Below.alloc ?_ ?_ _ | with_reducible refine Below.fut ?_ ?_ _ | with_reducible refine Below.drew ?_ | with_reducible refine Below.setCell ?_ ?_ _ | with_reducible refine Below.atPut ?_ ?_ _ | (simp [go_sem]; done) | (simp [go_sem]; omega))))).mono ?_)); rintro _ W1 ⟨g, rfl, hb1⟩)
  have HB := hid hB
  have HW1 := hid (show WB B g (pz (nums 0)) (.slice none 0 0) (nums 0) W1 from ⟨World.ownsRow_nil _ _ _ _, hb1, fun r hr => by simp [Value.ownBlock] at hr⟩)
  clear hB hb1 d1 d2
  go_wp2_with fail
  go_loopw [6, 7] (fun v i wr => ∃ q : Nat, q ≤ n ∧ i = .int .i64 q ∧ ∃ ao cc, v = .slice ao q cc ∧ Hid (WB B g (pz (nums q)) (.slice ao q cc) (nums q) wr)) (fun _ i _ => n - (intOf i).toNat)
  case atStart => exact ⟨0, Nat.zero_le _, rfl, none, 0, rfl, HW1⟩
  case round =>
    obtain ⟨q, hq, rfl, ao, cc, rfl, hw⟩ := hrel
    by_cases hlt : q < n
    · go_wp2_with fail
      (((with_reducible refine (hw.out.via HBK.out (fun B' hb => bag_put hb (by rw [pz_length, nums_length]; omega) (by decide) 0 0 0 q)).mono ?_)); rintro _ W2 ⟨rfl, hw2⟩)
      rw [pz_snoc, nums_succ] at hw2
      obtain ⟨v', W3, hrun, hown, hw3⟩ := (hw2.on (W' := W2.alloc (.cells #[.int .i64 q] 3)) (by repeat' (first | exact Below.refl _ _ | with_reducible assumption | omega | with_reducible refine below_put_fut ?_ ?_ _ | with_reducible refine below_to_put ?_ | with_reducible refine Below.alloc ?_ ?_ _ | with_reducible refine Below.fut ?_ ?_ _ | with_reducible refine Below.drew ?_ | with_reducible refine Below.setCell ?_ ?_ _ | with_reducible refine Below.atPut ?_ ?_ _ | (simp [go_sem]; done) | (simp [go_sem]; omega)))).append HBK.out q (nums_length q) (by omega) q W2.heap.size (heap_alloc_at _ _ _ rfl)
      rw [nums_succ] at hown hw3
      obtain ⟨ao', cc', rfl⟩ := owns_slice hown
      have HW3 := hid hw3
      clear hw2 hown hw3
      go_wp2_with (first | (at_builtin; refine wpList_append_run (by rfl) _ _ _ (by rfl) _ _ (by rfl) (by rfl) _ _ hrun ?_; clear hrun))
      go_roundw
      case rel => exact ⟨q + 1, by omega, by go_num, ao', cc', rfl, HW3⟩
      case measure => simp [intOf]; omega
    · obtain rfl : q = n := by omega
      clear HW1 hq
      go_wp2_with fail
      go_loopw [6, 49] (fun v i wr => ∃ k : Nat, k ≤ m ∧ i = .int .i64 k ∧ ∃ z : Nat, z ≤ 40 ∧ ∃ ao cc, v = .slice ao z cc ∧ ∃ zs, Hid (zs.length = z) ∧ Hid (WB B g (pz zs) (.slice ao z cc) zs wr)) (fun _ i _ => m - (intOf i).toNat)
      case atStart => exact ⟨0, Nat.zero_le _, rfl, q, h1, ao, cc, rfl, nums q, hid (nums_length q), hw⟩
      case round =>
        obtain ⟨k, hk, rfl, z, hz, ao2, cc2, rfl, zs, hzs, hw2⟩ := hrel
        clear hw
        by_cases hlt2 : k < m
        · obtain ⟨x, hx⟩ : ∃ x, li[k]? = some x := ⟨li[k]'(by rw [HL.out]; exact hlt2), List.getElem?_eq_getElem _⟩
          obtain ⟨b1, o1, rfl, p1⟩ := HI.out.at_ hx
          clear hx
          have hlb := World.block_lt_of_cell? _ _ p1
          have q1 : wr.cell? ⟨b1, o1 + k, none⟩ = some (.int .i64 x) := by
            have := hw2.out.bag.below
            rw [HB.out] at this
            exact (this.cell (p := ⟨b1, o1 + k, none⟩) hlb).trans p1
          clear p1
          rcases Int.lt_or_le x 0 with cx | cx
          · have e1 : decide ((0 : Int) ≤ x) = false := by simp; omega
            go_wp2_with fail
            (((with_reducible refine (hw2.out.via HBK.out (fun B' hb => bag_dropno hb x (.inl cx))).mono ?_)); rintro _ W2 ⟨rfl, hw3⟩)
            have HW3 := hid hw3
            clear hw3
            go_wp2_with fail
            go_roundw
            case rel => exact ⟨k + 1, by omega, by go_num, z, hz, ao2, cc2, rfl, zs, hzs, HW3⟩
            case measure => simp [intOf]; omega
          · obtain ⟨X, rfl⟩ := Int.eq_ofNat_of_zero_le cx
            rcases Nat.lt_or_ge X z with c2 | c2
            · have e2 : decide (X < z) = true := by simpa using c2
              go_wp2_with fail
              (((with_reducible refine (hw2.out.via HBK.out (fun B' hb => bag_drop hb (by rw [pz_length, hzs.out]; omega) X X rfl (0, 0, 0, zs[X]'(by rw [hzs.out]; exact c2)) (pz_at (List.getElem?_eq_getElem _)))).mono ?_)); rintro _ W2 ⟨rfl, hw3⟩)
              rw [pz_erase] at hw3
              have HW3 := hid hw3
              clear hw3
              go_wp2_with fail
              obtain ⟨r, rfl⟩ : ∃ r, ao2 = some ⟨r, 0, none⟩ := by
                obtain ⟨r, cap, h3, _, _⟩ := World.ownsRow.form HW3.out.row (by rw [hzs.out]; omega)
                injection h3 with h3; exact ⟨r, h3⟩
              have hzc : z ≤ cc2 ∧ cc2 ≤ maxLen := by
                obtain ⟨cur, h4, h5, _⟩ := row_open (owns_zero (hzs.out ▸ HW3.out.row))
                exact ⟨h5, h4⟩
              obtain ⟨hzc1, hzc2⟩ := hzc
              unfold maxLen at hzc2
              have hx1 : (0 : Int) ≤ (X : Int) + 1 := by omega
              have hx2 : (X : Int) + 1 ≤ z := by omega
              have hx3 : (X : Int) ≤ cc2 := by omega
              have hwr : IntKind.i64.wrap ((X : Int) + 1) = (X : Int) + 1 := IntWalk.i64_in _ (by omega)
              have htn : ((X : Int) + 1).toNat = X + 1 := by omega
              rcases Decidable.em (cc2 = X + 1) with hc | hc
              · subst hc
                obtain rfl : z = X + 1 := by omega
                have hx4 : (X : Int) ≤ (X : Int) + 1 := by omega
                obtain ⟨v1, W4, hrun1, ⟨a1, k1, rfl⟩, v2, W5, hrun2, ⟨a2, k2, rfl⟩, hb5, hw5⟩ := (HW3.out.on (W' := W2.drew) (Below.refl _ _).drew).cutout hzs.out (by omega) X c2 ⟨r, 0, none⟩ 0 (.inr rfl)
                rw [Nat.sub_self] at hrun2
                have HW5 := hid hw5
                clear hw5 hb5
                go_region_law (first | refine step_append_run (by rfl) _ _ _ (by rfl) _ _ (by simp [Act.eval, Act.put]) (by simp [Act.eval, Act.put]) _ _ hrun1 ?_ | refine step_append_run (by rfl) _ _ _ (by rfl) _ _ (by simp [Act.eval, Act.put]) (by simp [Act.eval, Act.put]) _ _ hrun2 ?_)
                clear hx1 hx2 hx3 hx4 hwr htn hrun1 hrun2
                go_wp2_with fail
                go_roundw
                case rel => exact ⟨k + 1, by omega, by go_num, X, by omega, a2, k2, rfl, _, hid (by rw [List.length_eraseIdx, hzs.out, if_pos c2]; rfl), HW5⟩
                case measure => simp [intOf]; omega
              · obtain ⟨v1, W4, hrun1, ⟨a1, k1, rfl⟩, v2, W5, hrun2, ⟨a2, k2, rfl⟩, hb5, hw5⟩ := (HW3.out.on (W' := W2.drew) (Below.refl _ _).drew).cutout hzs.out (by omega) X c2 ⟨r, X + 1, none⟩ (cc2 - (X + 1)) (.inl rfl)
                have HW5 := hid hw5
                have hze : (zs.eraseIdx X).length = z - 1 := by rw [List.length_eraseIdx, hzs.out, if_pos c2]
                have HZE := hid hze
                have hc5 : ¬ cc2 = X + 1 := hc
                clear hw5 hb5 hze
                go_region_law (first | refine step_append_run (by rfl) _ _ _ (by rfl) _ _ (by simp [Act.eval, Act.put]) (by simp [Act.eval, Act.put]) _ _ hrun1 ?_ | refine step_append_run (by rfl) _ _ _ (by rfl) _ _ (by simp [Act.eval, Act.put]) (by simp [Act.eval, Act.put]) _ _ hrun2 ?_)
                clear hx1 hx2 hx3 hwr htn hrun1 hrun2
                go_wp2_with fail
                go_roundw
                case rel => exact ⟨k + 1, by omega, by go_num, z - 1, by omega, a2, k2, rfl, _, HZE, HW5⟩
                case measure => simp [intOf]; omega
            · have e2 : decide (X < z) = false := by simpa using c2
              go_wp2_with fail
              (((with_reducible refine (hw2.out.via HBK.out (fun B' hb => bag_dropno hb X (.inr (by rw [pz_length, hzs.out]; omega)))).mono ?_)); rintro _ W2 ⟨rfl, hw3⟩)
              have HW3 := hid hw3
              clear hw3
              go_wp2_with fail
              go_roundw
              case rel => exact ⟨k + 1, by omega, by go_num, z, hz, ao2, cc2, rfl, zs, hzs, HW3⟩
              case measure => simp [intOf]; omega
        · obtain rfl : k = m := by omega
          clear hk
          go_wp2_with fail
          go_loopw [79] (fun i wr => ∃ j : Nat, j ≤ z ∧ i = .int .i64 j ∧ Hid (WB B g (pz (zs.drop j)) (.slice ao2 z cc2) zs wr)) (fun i _ => z - (intOf i).toNat)
          case atStart => exact ⟨0, Nat.zero_le _, rfl, hw2⟩
          case round =>
            obtain ⟨j, hj, rfl, hw3⟩ := hrel
            clear hw2
            by_cases hlt3 : j < z
            · obtain ⟨y, hy⟩ : ∃ y, zs[j]? = some y := ⟨zs[j]'(by rw [hzs.out]; exact hlt3), List.getElem?_eq_getElem _⟩
              obtain ⟨r, rfl⟩ : ∃ r, ao2 = some ⟨r, 0, none⟩ := by
                obtain ⟨r, cap, h3, _, _⟩ := World.ownsRow.form hw3.out.row (by rw [hzs.out]; omega)
                injection h3 with h3; exact ⟨r, h3⟩
              have hcy := hw3.out.row.cells (g := r) rfl j (.int .i64 y) (by simp [hy])
              rw [add_none, Nat.zero_add] at hcy
              have hdr : zs.drop j = y :: zs.drop (j + 1) := by
                obtain ⟨h5, h6⟩ := List.getElem?_eq_some_iff.1 hy
                rw [List.drop_eq_getElem_cons h5, h6]
              have HDR := hid hdr
              clear hdr hy
              go_wp2_with fail
              have hcall := hw3.out.via (R := fun e => e = .returned (.tuple #[.agg (pk 0 0 0 y), .bool true])) (l' := pz (zs.drop (j + 1))) HBK.out (fun B' hb => by rw [HDR.out] at hb; exact bag_take hb (by rw [pz_length, List.length_cons, List.length_drop, hzs.out]; omega) 0 0 rfl (0, 0, 0, y) rfl)
              refine hcall.mono ?_
              clear hcall
              rintro _ W2 ⟨rfl, hw4⟩
              have HW4 := hid hw4
              clear hw4 hcy
              go_simp
              rename_i K hK
              refine hK _ _ ?_
              clear hK K
              refine Go.Great.wpList_runTo rfl (some 83) rfl (.tuple #[.agg (pk 0 0 0 y), .bool true]) W2 (by simp [execOp, Act.eval, Act.put, go_sem]) ?_
              refine Go.Great.wpList_runTo rfl (some 86) rfl (.agg (pk 0 0 0 y)) W2 (by simp [execOp, Act.eval, Act.put, go_sem]) ?_
              refine Go.Great.wpList_runTo rfl (some 87) rfl (.bool true) W2 (by simp [execOp, Act.eval, Act.put, go_sem]) ?_
              refine Go.Great.wpList_runTo rfl (some 13) rfl (.pointer (some ⟨(W2).heap.size, 0, none⟩)) (World.alloc W2 (.cells (pk 0 0 0 0) 38)) (by kernel_rfl) ?_
              refine wpList_store_row rfl 38 (.tmp 13) (.tmp 86) rfl ((W2).heap.size) (pk 0 0 0 y) (pk 0 0 0 0) (by simp [Act.eval, Act.put]) (by simp [Act.eval, Act.put]) (heap_alloc_at _ _ _ rfl) (by kernel_rfl) rfl (by simp [Value.oneCell']) ?_
              rw [put_alloc]
              simp [Act.put]
              have HW5 := hid (HW4.out.on (W' := W2.alloc (.cells (pk 0 0 0 y) 38)) (by repeat' (first | exact Below.refl _ _ | with_reducible assumption | omega | with_reducible refine below_put_fut ?_ ?_ _ | with_reducible refine below_to_put ?_ | with_reducible refine Below.alloc ?_ ?_ _ | with_reducible refine Below.fut ?_ ?_ _ | with_reducible refine Below.drew ?_ | with_reducible refine Below.setCell ?_ ?_ _ | with_reducible refine Below.atPut ?_ ?_ _ | (simp [go_sem]; done) | (simp [go_sem]; omega))))
              go_wp2_with fail
              go_roundw
              case rel => exact ⟨j + 1, by omega, by go_num, HW5⟩
              case measure => simp [intOf]; omega
            · obtain rfl : j = z := by omega
              go_wp2_with fail
              (((with_reducible refine (hw3.out.via HBK.out (fun B' hb => bag_len hb 0 (by rw [pz_length, List.length_drop, hzs.out]; simp))).mono ?_)); rintro _ W2 ⟨rfl, hw4⟩)
              have hbel : Below w.heap.size w W2 := by have := hw4.bag.below; rw [HB.out] at this; exact this
              clear hw4
              go_wp2_with fail
              go_ret
              exact .mk rfl hbel
theorem bagDrops_walk (w : World) (n : Int) (wn : (Lit.int .i64 n).wf = true) (v : Value) (li : List Int) (hi : IntsAt w v li) :
    Calls Try.prog 7 #[.int .i64 n, v] w (Makes (.bool true) w) := by
  clear wn
  obtain ⟨ao, cap, rfl⟩ := hi.slice
  rcases Int.lt_or_le n 0 with c | c
  · clear hi
    generalize li.length = m
    have d1 : decide (n < 0) = true := by simpa using c
    go_enter Try.func7, Try.ntmps7
    go_wp2_with (first | (go_at_call 17; ((with_reducible refine (bagAlive_any _).mono ?_)); rintro _ _ ⟨rfl, u, rfl⟩; (try (rw [Fut.put_self u (by first | assumption | (simp [go_sem]; done) | (simp [go_sem]; omega))]))) | (((with_reducible refine wp_region_fut_lit (by kernel_rfl) (by kernel_rfl) ?_)); (repeat (go_big_quiet_step ((first | (go_at_call 17; with_reducible exact Calls.fut_of (bagAlive_any _)))))); ((with_reducible refine wpQuiet_nil ?_)); rintro _ ⟨u, rfl⟩; (try (rw [Fut.put_self u (by first | assumption | (simp [go_sem]; done) | (simp [go_sem]; omega))]))))
    go_ret; exact .mk (by first | rfl | (simp; done) | (simp; omega)) (by repeat' (first | exact Below.refl _ _ | with_reducible assumption | omega | with_reducible refine below_put_fut ?_ ?_ _ | with_reducible refine below_to_put ?_ | with_reducible refine Below.alloc ?_ ?_ _ | with_reducible refine Below.fut ?_ ?_ _ | with_reducible refine Below.drew ?_ | with_reducible refine Below.setCell ?_ ?_ _ | with_reducible refine Below.atPut ?_ ?_ _ | (simp [go_sem]; done) | (simp [go_sem]; omega)))
  have d1 : decide (n < 0) = false := by simp; omega
  rcases Int.lt_or_le 40 n with c2 | c2
  · clear hi
    generalize li.length = m
    have d2 : decide (40 < n) = true := by simpa using c2
    go_enter Try.func7, Try.ntmps7
    go_wp2_with (first | (go_at_call 17; ((with_reducible refine (bagAlive_any _).mono ?_)); rintro _ _ ⟨rfl, u, rfl⟩; (try (rw [Fut.put_self u (by first | assumption | (simp [go_sem]; done) | (simp [go_sem]; omega))]))) | (((with_reducible refine wp_region_fut_lit (by kernel_rfl) (by kernel_rfl) ?_)); (repeat (go_big_quiet_step ((first | (go_at_call 17; with_reducible exact Calls.fut_of (bagAlive_any _)))))); ((with_reducible refine wpQuiet_nil ?_)); rintro _ ⟨u, rfl⟩; (try (rw [Fut.put_self u (by first | assumption | (simp [go_sem]; done) | (simp [go_sem]; omega))]))))
    go_ret; exact .mk (by first | rfl | (simp; done) | (simp; omega)) (by repeat' (first | exact Below.refl _ _ | with_reducible assumption | omega | with_reducible refine below_put_fut ?_ ?_ _ | with_reducible refine below_to_put ?_ | with_reducible refine Below.alloc ?_ ?_ _ | with_reducible refine Below.fut ?_ ?_ _ | with_reducible refine Below.drew ?_ | with_reducible refine Below.setCell ?_ ?_ _ | with_reducible refine Below.atPut ?_ ?_ _ | (simp [go_sem]; done) | (simp [go_sem]; omega)))
  have d2 : decide (40 < n) = false := by simp; omega
  rcases Nat.lt_or_ge 60 li.length with c3 | c3
  · clear hi
    generalize li.length = m at c3 ⊢
    have d3 : decide ((60 : Int) < m) = true := by simp; omega
    go_enter Try.func7, Try.ntmps7
    go_wp2_with (first | (go_at_call 17; ((with_reducible refine (bagAlive_any _).mono ?_)); rintro _ _ ⟨rfl, u, rfl⟩; (try (rw [Fut.put_self u (by first | assumption | (simp [go_sem]; done) | (simp [go_sem]; omega))]))) | (((with_reducible refine wp_region_fut_lit (by kernel_rfl) (by kernel_rfl) ?_)); (repeat (go_big_quiet_step ((first | (go_at_call 17; with_reducible exact Calls.fut_of (bagAlive_any _)))))); ((with_reducible refine wpQuiet_nil ?_)); rintro _ ⟨u, rfl⟩; (try (rw [Fut.put_self u (by first | assumption | (simp [go_sem]; done) | (simp [go_sem]; omega))]))))
    go_ret; exact .mk (by first | rfl | (simp; done) | (simp; omega)) (by repeat' (first | exact Below.refl _ _ | with_reducible assumption | omega | with_reducible refine below_put_fut ?_ ?_ _ | with_reducible refine below_to_put ?_ | with_reducible refine Below.alloc ?_ ?_ _ | with_reducible refine Below.fut ?_ ?_ _ | with_reducible refine Below.drew ?_ | with_reducible refine Below.setCell ?_ ?_ _ | with_reducible refine Below.atPut ?_ ?_ _ | (simp [go_sem]; done) | (simp [go_sem]; omega)))
  · obtain ⟨n, rfl⟩ := Int.eq_ofNat_of_zero_le c
    exact bagDrops_good w n ao li _ cap rfl hi (by omega) c3
set_option maxRecDepth 100000 in
theorem bagDrops_lifted (os : Os) (started : os.Started) (H : Type) (enc : TypeId × Value → H) :
    ReturnsInHanded {} Try.checked os 7 .any (Rows.bagDropsSpec.pre6 enc Try.prog Try.f7 Rows.bagDropsRow.domain false) (Rows.bagDropsSpec.post enc Try.prog Try.f7 false true false false) := by
  refine returnsInHanded_of_change (C := Try.checked) own started (by kernel_rfl) Try.func7
    (ChangeSpec.witness6 (enc := enc) (C := Try.checked) false ⟨#[], #[.int .i64 0, .slice none 0 0], []⟩ 8 (by kernel_rfl) (by kernel_rfl) (by kernel_rfl) (by kernel_rfl)) ?_
  intro W base args ds gs before hval0 hW hcnd _
  have hval : ∀ (j : Nat) t v, Try.f7.params[j]? = some t → args[j]? = some v → Value.okWide Try.prog W .any base t v := hval0
  have hW' := hW
  obtain ⟨p, q, hA0, hV, rfl, hfz, hnd⟩ := hW
  have hA : DataW.TrodAll enc Try.prog W 0 (fun _ => true) true Try.f7.params.toList args.toList ds p := hA0
  rw [Try.params7] at hA hval
  obtain ⟨v0, vs0, d0, ds0, p0, q0, hargs, rfl, rfl, h0, r0⟩ := trodAll_cons hA
  obtain ⟨v1, vs1, d1, ds1, p1, q1, rfl, rfl, rfl, h1, r1⟩ := trodAll_cons r0
  obtain ⟨rfl, rfl, rfl⟩ := trodAll_nil r1
  obtain rfl : args = #[v0, v1] := by cases args; simp_all
  obtain ⟨rfl, rfl⟩ := trodVars_none hV
  have k0 := h0
  have lt0 : ∀ x ∈ p0, x.block < W.heap.size := by obtain ⟨m, hm⟩ := k0; exact DataW.trod_lt m _ _ _ hm
  obtain ⟨a0, rfl, -, -, w0⟩ := open_int Try.underlying3 (hval 0 3 v0 rfl rfl) h0
  have k1 := h1
  have lt1 : ∀ x ∈ p1, x.block < W.heap.size := by obtain ⟨m, hm⟩ := k1; exact DataW.trod_lt m _ _ _ hm
  obtain ⟨l1, w1⟩ := open_intlist (hval 1 47 v1 rfl rfl) h1
  clear hA0 hval0
  refine (bagDrops_walk W a0 w0 _ l1 w1).mono fun e W' ⟨he, u, hu⟩ => ?_
  subst he; subst hu
  have bel := u.below
  exact ⟨_, rfl, _, _, _, [], _, [], hW', trodAll_mk1 (shut_bool Try.underlying4 _), (trodAll_cons_mk (Below.trod laidOut (by kernel_rfl) (of_decide_eq_true (by kernel_rfl)) k0 bel lt0) (trodAll_cons_mk (Below.trod laidOut (by kernel_rfl) (of_decide_eq_true (by kernel_rfl)) k1 bel lt1) trodAll_mk0)), rfl, bel.frame _, fun h => by cases h⟩
/-- The statement. -/
theorem bagDrops_holds : Rows.BagDropsSaid :=
  OpenClaim.holds_of_wide 7 Try.f7 rfl rfl rfl rfl rfl rfl rfl ⟨rfl, rfl, rfl, rfl, rfl⟩ rfl rfl rfl rfl rfl (by kernel_rfl) Try.func7 (by kernel_rfl)
    (of_decide_eq_true (by kernel_rfl)) (by unfold Func.isWrapper; first | (rw [if_pos (by decide +kernel)]; kernel_rfl) | (rw [if_neg (by decide +kernel)]; exact ⟨rfl, rfl⟩))
    (fun os started H enc _ => bagDrops_lifted os started H enc)
#print axioms bagDrops_holds
end Go.Proofs.Ythgajbfgolcpkaa
