/- ScanParts answers true for every list of items and every two numbers, and leaves its arguments as they were. No condition. -/
import Derived.Test.YthgajbfgolcpkaaScanFails
import Derived.Test.YthgajbfgolcpkaaRun
import Derived.Test.YthgajbfgolcpkaaSame
import Derived.Deep.Cut
import Derived.Deep.DeepCutAuto
import Derived.Deep.RegionWith
import Derived.Great.Walk
import Derived.IntWalk
namespace Go.Proofs.Ythgajbfgolcpkaa
open Go.ChangeShapes Go.WideShapes Go.ChangeAt Go.RowKit Go.Joins
set_option linter.unusedVariables false
set_option linter.unusedSimpArgs false
/-- The first i items have keys, and these rise. -/
def Up (its : List It) (i : Nat) : Prop := ∀ j, j < i → ∀ x, its[j]? = some x → x.1 ≠ ⟨#[]⟩ ∧ ∀ y k, j = k + 1 → its[k]? = some y → Op.bytesLess y.1.data.toList x.1.data.toList = true
theorem Up.zero (its : List It) : Up its 0 := fun _ h => absurd h (Nat.not_lt_zero _)
theorem Up.first {its : List It} {x : It} (hx : its[0]? = some x) (h0 : x.1 ≠ ⟨#[]⟩) : Up its 1 := by
  intro j hj z hz
  obtain rfl : j = 0 := by omega
  rw [hx] at hz; cases hz
  exact ⟨h0, fun y k e => by omega⟩
theorem Up.succ {its : List It} {i : Nat} (h : Up its (i + 1)) {x y : It} (hx : its[i + 1]? = some x) (hy : its[i]? = some y) (h0 : x.1 ≠ ⟨#[]⟩) (hl : Op.bytesLess y.1.data.toList x.1.data.toList = true) : Up its (i + 1 + 1) := by
  intro j hj z hz
  rcases Nat.lt_or_ge j (i + 1) with c | c
  · exact h j c z hz
  · obtain rfl : j = i + 1 := by omega
    rw [hx] at hz; cases hz
    refine ⟨h0, fun y' k e hy' => ?_⟩
    obtain rfl : k = i := by omega
    rw [hy] at hy'; cases hy'; exact hl
theorem Up.less {its : List It} {n : Nat} (h : Up its n) (i : Nat) (x : It) (hx : its[i]? = some x) : ∀ d, i + d + 1 < n → ∀ y, its[i + d + 1]? = some y → Op.bytesLess x.1.data.toList y.1.data.toList = true
  | 0, hd, y, hy => (h (i + 1) hd y hy).2 x i rfl hx
  | d + 1, hd, y, hy => by
    have hl := (List.getElem?_eq_some_iff.1 hy).1
    obtain ⟨z, hz⟩ : ∃ z, its[i + d + 1]? = some z := ⟨its[i + d + 1], List.getElem?_eq_getElem (by omega)⟩
    exact less_trans _ _ _ (Up.less h i x hx d (by omega) z hz) ((h (i + (d + 1) + 1) hd y hy).2 z (i + d + 1) (by omega) hz)
theorem take_part (its : List It) (i j : Nat) : flat (its.take i) ++ flat ((its.drop i).take j) = flat (its.take (i + j)) := by
  rw [← flat_append, ← List.take_add]
theorem owns_src {W : World} {b : Nat} {e : TypeId} {size n : Nat} {v : Value} {xs : List Value} (h : W.ownsRow b e size v n xs) (h1 : ∀ u ∈ xs, u.oneCell' = true) : Src W size v n xs := by
  refine ⟨h.1, h1, ?_⟩
  rcases h.2 with ⟨rfl, rfl⟩ | ⟨g, cap, cur, rfl, _⟩
  · exact .inl ⟨rfl, rfl⟩
  · exact .inr ⟨⟨g, 0, none⟩, cap, rfl, World.ownsRow.cells h rfl⟩
/-- The scan is under way, i items have been told. -/
structure Live (B : Base) (g L : Nat) (its : List It) (most : Int) (i : Nat) (s : Sc) (W : World) : Prop where
  at_ : ∃ v, ScanAt s B g i (flat (its.take i)) W v
  letter : Letter s B L W
  on : s.on = true
  more : s.more = false
  waits : s.waits = 0
  hmost : s.most = most
  am : s.am = most - i
  two : s.at_ = 2
  id0 : 0 ≤ s.id
  id1 : s.id ≤ 30001 + i
  lt : (i : Int) < most
  key : (i = 0 ∧ s.key = ⟨#[]⟩) ∨ ∃ x, its[i]? = some x ∧ x.1 = s.key
theorem Live.start {B : Base} {g L : Nat} {its : List It} {most : Int} {W : World} (m1 : 1 ≤ most) (h : ScanAt ⟨100, 4, 30001, 1, 4, ⟨#[]⟩, ⟨#[]⟩, ⟨#[]⟩, most, most, 2, 0, 0, true, false, false, 0⟩ B g 0 [] W (.slice none 0 0)) (hL : Letter ⟨100, 4, 30001, 1, 4, ⟨#[]⟩, ⟨#[]⟩, ⟨#[]⟩, most, most, 2, 0, 0, true, false, false, 0⟩ B L W) :
    Live B g L its most 0 ⟨100, 4, 30001, 1, 4, ⟨#[]⟩, ⟨#[]⟩, ⟨#[]⟩, most, most, 2, 0, 0, true, false, false, 0⟩ W :=
  ⟨⟨_, by simpa [flat] using h⟩, hL, rfl, rfl, rfl, rfl, by simp, rfl, (show (0 : Int) ≤ 30001 by decide), (show (30001 : Int) ≤ 30001 + ((0 : Nat) : Int) by decide), by simp; omega, .inl ⟨rfl, rfl⟩⟩
/-- It is over: all that was asked for is there. -/
def Done (B : Base) (g : Nat) (its : List It) (most : Int) (W : World) : Prop :=
  ∃ (s : Sc) (m : Nat) (v : Value), ScanAt s B g m (flat (its.take m)) W v ∧ s.over = true ∧ s.e = 0 ∧ s.more = decide (most < its.length) ∧ (m : Int) = min most its.length
@[go_sem] theorem put_alloc (w : World) (o o' : Obj) : put (w.alloc o) w.heap.size o' = w.alloc o' := by
  unfold put World.alloc
  congr 1
  apply Array.ext_getElem?
  intro k
  rw [Array.getElem?_setIfInBounds]
  split
  · rename_i e; subst e; simp
  · rename_i e; simp only [Array.getElem?_push]; rw [if_neg (by omega), if_neg (by omega)]
/-- A part of a slice of items. -/
theorem slice_run (ao : Option Addr) (n cap i j : Nat) (h : i + j ≤ cap) (W : World) :
    (Instr.slice 29 (.slice ao n cap) (some (.int .i64 i)) (some (.int .i64 ((i : Int) + j))) none).run Try.prog W = .ok (.slice (if cap = i then ao else ao.map (·.add (i * 2))) j (cap - i)) W := by
  have hs : (Try.prog.info? 53).map (·.size) = some 2 := by kernel_rfl
  cases hq : Try.prog.info? 53 with
  | none => simp [hq] at hs
  | some t =>
    have ht : t.size = 2 := by simpa [hq] using hs
    have h1 : (0 : Int) ≤ (i : Int) + j := by omega
    have h2 : (i : Int) + j ≤ cap := by omega
    have h3 : (i : Int) ≤ ((i : Int) + j).toNat := by omega
    have h4 : ((i : Int) + j).toNat = i + j := by omega
    simp [Instr.slice, Instr.sliceBounds, Instr.sliceBound, asIntOf, run_underlying Try.underlying29, sizeOf, typeInfo, hq, ht, h1, h2, h3, h4]
theorem Done.mk {B : Base} {g : Nat} {its : List It} {most : Int} {W : World} {s : Sc} {i j : Nat} {v : Value} (h : ScanAt s B g (i + j) (flat (its.take i) ++ flat ((its.drop i).take j)) W v) (h1 : s.over = true) (h2 : s.e = 0) (h3 : s.more = decide (most < its.length)) (h4 : ((i + j : Nat) : Int) = min most its.length) : Done B g its most W :=
  ⟨s, i + j, v, by rw [← take_part]; exact h, h1, h2, h3, h4⟩
theorem slice_src {w : World} {ao : Option Addr} {its : List It} {n cap i j : Nat} (hl : its.length = n) (h : Src w 2 (.slice ao n cap) n (flat its)) (hc : n ≤ cap) (hij : i + j ≤ n) : Src w 2 (.slice (if cap = i then ao else ao.map (·.add (i * 2))) j (cap - i)) j (flat ((its.drop i).take j)) := by
  subst hl
  refine ⟨by rw [flat_length, List.length_take, List.length_drop, Nat.min_eq_left (by omega)], flat_one _, ?_⟩
  rcases h.2.2 with ⟨hv, h0⟩ | ⟨a, c, hv, hcell⟩
  · injection hv with h1 h2 h3
    subst h1 h3
    have : i = 0 := by omega
    subst this
    have : j = 0 := by omega
    subst this
    exact .inl ⟨by simp, rfl⟩
  · injection hv with h1 h2 h3
    subst h1
    by_cases e : cap = i
    · rw [if_pos e]
      refine .inr ⟨a, _, rfl, fun k u hu => ?_⟩
      have := (List.getElem?_eq_some_iff.1 hu).1
      rw [flat_length, List.length_take] at this
      omega
    · rw [if_neg e]
      refine .inr ⟨a.add (i * 2), _, rfl, fun k u hu => ?_⟩
      have hk := (List.getElem?_eq_some_iff.1 hu).1
      rw [flat_length, List.length_take] at hk
      have hs : a.spot = none := by
        have := World.cell?_spot (hcell 0 _ (List.getElem?_eq_getElem (by rw [flat_length]; omega)))
        simpa [Addr.add] using this
      obtain ⟨b, o, s⟩ := a
      simp only at hs
      subst hs
      rw [← flat_take, ← flat_drop, List.getElem?_take] at hu
      split at hu
      · rw [List.getElem?_drop] at hu
        have := hcell _ u hu
        rw [Addr.add_lit] at this ⊢
        rw [Addr.add_lit]
        rw [show o + i * 2 + k = o + (i * 2 + k) from by omega]; exact this
      · cases hu
theorem slice_pre {w : World} {ao : Option Addr} {its : List It} {n cap m : Nat} (h : Src w 2 (.slice ao n cap) n (flat its)) (hm : m ≤ n) (hl : its.length = n) : Src w 2 (.slice ao m cap) m (flat (its.take m)) := by
  refine ⟨by rw [flat_length, List.length_take, Nat.min_eq_left (by omega)], flat_one _, ?_⟩
  rcases h.2.2 with ⟨hv, h0⟩ | ⟨a, c, hv, hcell⟩
  · injection hv with h1 h2 h3
    subst h1 h3
    have : m = 0 := by omega
    subst this
    exact .inl ⟨rfl, rfl⟩
  · injection hv with h1 h2 h3
    subst h1 h3
    refine .inr ⟨a, _, rfl, fun k u hu => ?_⟩
    rw [← flat_take, List.getElem?_take] at hu
    split at hu
    · exact hcell k u hu
    · cases hu
theorem run_slice_op {P : Program} {o : Oper} {a : Act} {w : World} (t el : TypeId) (hu : P.underlying t = some (.slice el)) (x l h : Operand) (ho : o.op = .slice t x (some l) (some h) none) (ao : Option Addr) (n c : Nat) (lv hv v' : Value) (hx : a.eval x = .slice ao n c) (hl : a.eval l = lv) (hh : a.eval h = hv)
    (hr : (Instr.slice t (.slice ao n c) (some lv) (some hv) none).run P w = .ok v' w) : (execOp a.eval o).run P w = .ok (.value v') w := by
  unfold execOp
  simp only [ho, Option.map_some, hx, hl, hh]
  simp [Instr.sliceAt, run_underlying hu, hr]
set_option maxRecDepth 100000 in
set_option maxHeartbeats 4000000 in
theorem scanParts_good (w : World) (v : Value) (its : List It) (n : Nat) (hl : its.length = n) (hs : Src w 2 v n (flat its)) (hcap : ∀ a m cap, v = .slice a m cap → m ≤ cap) (hsm : ∀ x ∈ its, x.1.size ≤ maxLen) (c : n ≤ 40) (most size : Int) (m1 : 1 ≤ most) (m2 : most ≤ 40) (s1 : 1 ≤ size) (s2 : size ≤ 10) :
    Calls Try.prog 8 #[v, .int .i64 most, .int .i64 size] w (Makes (.bool true) w) := by
  obtain ⟨ao, cap, rfl⟩ := hs.slice_of
  have hnc := hcap _ _ _ rfl
  have HSM := hid hsm
  clear hsm
  clear hcap
  have HS := hid hs
  have HL := hid hl
  clear hs hl
  go_enter Try.func8, Try.ntmps8
  go_wp2_with (first | (go_at_call 27; ((with_reducible refine (scanAlive_any _).mono ?_)); rintro _ _ ⟨rfl, u, rfl⟩; (try (rw [Fut.put_self u (by first | assumption | (simp [go_sem]; done) | (simp [go_sem]; omega))]))) | (((with_reducible refine wp_region_fut_lit (by kernel_rfl) (by kernel_rfl) ?_)); (repeat (go_big_quiet_step ((first | (go_at_call 27; with_reducible exact Calls.fut_of (scanAlive_any _)))))); ((with_reducible refine wpQuiet_nil ?_)); rintro _ ⟨u, rfl⟩; (try (rw [Fut.put_self u (by first | assumption | (simp [go_sem]; done) | (simp [go_sem]; omega))]))))
  go_loopw [7, 46] (fun x y wr => ∃ i : Nat, i ≤ n ∧ y = .int .i64 i ∧ Hid (Up its i) ∧ ∃ u : Fut w, wr = u.val) (fun _ y _ => n - (intOf y).toNat)
  case atStart => exact ⟨0, Nat.zero_le _, rfl, hid (.zero its), ⟨⟨_, (by repeat' (first | exact Below.refl _ _ | with_reducible assumption | omega | with_reducible refine below_put_fut ?_ ?_ _ | with_reducible refine below_to_put ?_ | with_reducible refine Below.alloc ?_ ?_ _ | with_reducible refine Below.fut ?_ ?_ _ | with_reducible refine Below.drew ?_ | with_reducible refine Below.setCell ?_ ?_ _ | with_reducible refine Below.atPut ?_ ?_ _ | (simp [go_sem]; done) | (simp [go_sem]; omega)))⟩, rfl⟩⟩
  case round =>
    obtain ⟨i, hi, rfl, hU, u, rfl⟩ := hrel
    by_cases hlt : i < n
    · obtain ⟨x, hx⟩ : ∃ x, its[i]? = some x := ⟨its[i]'(by rw [HL.out]; exact hlt), List.getElem?_eq_getElem _⟩
      obtain ⟨b1, o1, rfl, p1, p2, p3⟩ := (show Src w 2 (.slice ao its.length cap) its.length (flat its) by rw [HL.out]; exact HS.out).at_ i x hx
      have l1 : b1 < w.heap.size := World.block_lt_of_cell? _ _ p1
      have HX := hid hx
      clear hx
      obtain ⟨s, t⟩ := x
      simp only at p1 p2 p3
      by_cases e : s = ⟨#[]⟩
      · subst e
        go_wp2_with (first | (((with_reducible refine wp_region_fut_lit (by kernel_rfl) (by kernel_rfl) ?_)); (repeat (go_big_quiet_step ((first | fail)))); ((with_reducible refine wpQuiet_nil ?_)); rintro _ ⟨u, rfl⟩; (try (rw [Fut.put_self u (by first | assumption | (simp [go_sem]; done) | (simp [go_sem]; omega))]))))
        go_ret; exact .mk (by first | rfl | (simp; done) | (simp; omega)) (by repeat' (first | exact Below.refl _ _ | with_reducible assumption | omega | with_reducible refine below_put_fut ?_ ?_ _ | with_reducible refine below_to_put ?_ | with_reducible refine Below.alloc ?_ ?_ _ | with_reducible refine Below.fut ?_ ?_ _ | with_reducible refine Below.drew ?_ | with_reducible refine Below.setCell ?_ ?_ _ | with_reducible refine Below.atPut ?_ ?_ _ | (simp [go_sem]; done) | (simp [go_sem]; omega)))
      · have e1 : (s.toList == []) = false := by
          rw [ByteArray.toList_eq]
          simpa using fun h => e (ba_ext h)
        have HE := hid e
        clear e
        rcases i with _ | i
        · have HN := hid (Up.first HX.out HE.out)
          simp only [Nat.zero_mul, Nat.add_zero, Nat.zero_add] at p1 p2 p3
          go_wp2_with (first | (((with_reducible refine wp_region_fut_lit (by kernel_rfl) (by kernel_rfl) ?_)); (repeat (go_big_quiet_step ((first | fail)))); ((with_reducible refine wpQuiet_nil ?_)); rintro _ ⟨u, rfl⟩; (try (rw [Fut.put_self u (by first | assumption | (simp [go_sem]; done) | (simp [go_sem]; omega))]))))
          go_roundw
          case rel => exact ⟨1, by omega, by go_num, HN, ⟨⟨_, (by repeat' (first | exact Below.refl _ _ | with_reducible assumption | omega | with_reducible refine below_put_fut ?_ ?_ _ | with_reducible refine below_to_put ?_ | with_reducible refine Below.alloc ?_ ?_ _ | with_reducible refine Below.fut ?_ ?_ _ | with_reducible refine Below.drew ?_ | with_reducible refine Below.setCell ?_ ?_ _ | with_reducible refine Below.atPut ?_ ?_ _ | (simp [go_sem]; done) | (simp [go_sem]; omega)))⟩, rfl⟩⟩
          case measure => simp [intOf]; omega
        · obtain ⟨y, hy⟩ : ∃ y, its[i]? = some y := ⟨its[i]'(by rw [HL.out]; omega), List.getElem?_eq_getElem _⟩
          obtain ⟨b2, o2, hb2, r1, r2, r3⟩ := (show Src w 2 (.slice (some ⟨b1, o1, none⟩) its.length cap) its.length (flat its) by rw [HL.out]; exact HS.out).at_ i y hy
          cases hb2
          have HY := hid hy
          clear hy
          obtain ⟨s', t'⟩ := y
          simp only at r1 r2 r3
          cases hq : Op.bytesLess s'.data.toList s.data.toList
          · have hq' : Op.bytesLess s'.toList s.toList = false := by rw [ByteArray.toList_eq, ByteArray.toList_eq]; exact hq
            clear hq
            go_wp2_with (first | (((with_reducible refine wp_region_fut_lit (by kernel_rfl) (by kernel_rfl) ?_)); (repeat (go_big_quiet_step ((first | fail)))); ((with_reducible refine wpQuiet_nil ?_)); rintro _ ⟨u, rfl⟩; (try (rw [Fut.put_self u (by first | assumption | (simp [go_sem]; done) | (simp [go_sem]; omega))]))))
            go_ret; exact .mk (by first | rfl | (simp; done) | (simp; omega)) (by repeat' (first | exact Below.refl _ _ | with_reducible assumption | omega | with_reducible refine below_put_fut ?_ ?_ _ | with_reducible refine below_to_put ?_ | with_reducible refine Below.alloc ?_ ?_ _ | with_reducible refine Below.fut ?_ ?_ _ | with_reducible refine Below.drew ?_ | with_reducible refine Below.setCell ?_ ?_ _ | with_reducible refine Below.atPut ?_ ?_ _ | (simp [go_sem]; done) | (simp [go_sem]; omega)))
          · have HN := hid (Up.succ hU.out HX.out HY.out HE.out hq)
            have hq' : Op.bytesLess s'.toList s.toList = true := by rw [ByteArray.toList_eq, ByteArray.toList_eq]; exact hq
            clear hq
            go_wp2_with (first | (((with_reducible refine wp_region_fut_lit (by kernel_rfl) (by kernel_rfl) ?_)); (repeat (go_big_quiet_step ((first | fail)))); ((with_reducible refine wpQuiet_nil ?_)); rintro _ ⟨u, rfl⟩; (try (rw [Fut.put_self u (by first | assumption | (simp [go_sem]; done) | (simp [go_sem]; omega))]))))
            go_roundw
            case rel => exact ⟨i + 1 + 1, by omega, by go_num, HN, ⟨⟨_, (by repeat' (first | exact Below.refl _ _ | with_reducible assumption | omega | with_reducible refine below_put_fut ?_ ?_ _ | with_reducible refine below_to_put ?_ | with_reducible refine Below.alloc ?_ ?_ _ | with_reducible refine Below.fut ?_ ?_ _ | with_reducible refine Below.drew ?_ | with_reducible refine Below.setCell ?_ ?_ _ | with_reducible refine Below.atPut ?_ ?_ _ | (simp [go_sem]; done) | (simp [go_sem]; omega)))⟩, rfl⟩⟩
            case measure => simp [intOf]; omega
    · obtain rfl : n = i := by omega
      have HUP := hid hU.out
      clear hU hlt hi
      go_wp2_with fail
      (((with_reducible refine (new_is 100 4 (by omega) (by omega) ⟨w, fun _ => none⟩ (hid fun _ => rfl) _ (by repeat' (first | exact Below.refl _ _ | with_reducible assumption | omega | with_reducible refine below_put_fut ?_ ?_ _ | with_reducible refine below_to_put ?_ | with_reducible refine Below.alloc ?_ ?_ _ | with_reducible refine Below.fut ?_ ?_ _ | with_reducible refine Below.drew ?_ | with_reducible refine Below.setCell ?_ ?_ _ | with_reducible refine Below.atPut ?_ ?_ _ | (simp [go_sem]; done) | (simp [go_sem]; omega)))).mono ?_)); rintro _ W1 ⟨g, rfl, h1⟩)
      go_wp2_with fail
      (((with_reducible refine (start_is _ _ _ _ _ _ _ h1 rfl _ _ most 2 (by decide) (by decide) m1 m2 (by omega) (show (2 : Int) < 4 by decide) (show (0 : Int) ≤ 30000 by decide) (show (30000 : Int) < 1000000 by decide)).mono ?_)); rintro _ W2 ⟨L, rfl, hL, h2⟩)
      simp only [show (30000 : Int) + 1 = 30001 from rfl] at hL h2
      obtain ⟨B, hB⟩ : ∃ B : Base, B = ⟨w, fun _ => none⟩ := ⟨_, rfl⟩
      have hBw : B.toWorld = w := by rw [hB]
      have hBw2 := hid hBw
      clear hBw
      rw [← hB] at hL h2
      have HL2 := hid (Live.start (its := its) m1 h2 hL)
      clear h1 h2 hL hB
      go_wp2_with fail
      go_loopw [9, 11, 12, 13, 14, 15] (fun x a o k y z wr => ∃ kk : Nat, k = .int .i64 kk ∧ ∃ i : Nat, a = .int .i64 i ∧ i ≤ n ∧ ∃ ov, o = .bool ov ∧ Hid ((ov = false ∧ kk ≤ i ∧ kk < 50 ∧ ∃ L s, x = .slice (some ⟨L, 0, none⟩) 1 1 ∧ Live B g L its most i s wr) ∨ (ov = true ∧ kk ≤ 59 ∧ Done B g its most wr))) (fun _ _ _ k _ _ _ => 200 - (intOf k).toNat)
      case atStart => exact ⟨0, rfl, 0, rfl, Nat.zero_le _, false, rfl, hid (.inl ⟨rfl, Nat.le_refl _, by omega, L, _, rfl, HL2.out⟩)⟩
      case round =>
        obtain ⟨kk, rfl, i, rfl, hin, ov, rfl, hL⟩ := hrel
        clear HL2
        rcases hL.out with ⟨rfl, hk, hk5, L, s, rfl, hlive⟩ | ⟨rfl, hk, hdone⟩
        · clear hL
          obtain ⟨⟨v, hat⟩, hlet, hon, hmore, hw, hmost, ham, htwo, hid0, hid1, hlt, hkey⟩ := hlive
          obtain ⟨me, nodes, id, tried, op, key, val, to1, am, most2, at2, old, waits, on, over, more, e⟩ := s
          simp only at hon hmore hw hmost ham htwo hid0 hid1 hkey
          obtain rfl : true = on := hon.symm
          obtain rfl : false = more := hmore.symm
          obtain rfl : 0 = waits := hw.symm
          obtain rfl : most = most2 := hmost.symm
          obtain rfl : most - i = am := ham.symm
          obtain rfl : 2 = at2 := htwo.symm
          clear hon hmore hw hmost ham htwo
          have cL := hlet.cell
          have hlet2 := hid hlet
          have HAT := hid hat
          have HKEY := hid hkey
          clear hat hlet hkey
          have hjn : (0 : Int) ≤ min (min size (most - i)) ((n : Int) - i) := by omega
          obtain ⟨j, hj⟩ := Int.eq_ofNat_of_zero_le hjn
          have hj1 : i + j ≤ n := by omega
          have hj2 : (i : Int) + j ≤ most := by omega
          have hj3 : (j : Int) = size ∨ (j : Int) = most - i ∨ j = n - i := by omega
          have HJ3 := hid hj3
          have hmin : (if (n : Int) - i < (if most - (i : Int) < size then most - (i : Int) else size) then (n : Int) - i else (if most - (i : Int) < size then most - (i : Int) else size)) = (j : Int) := by
            split <;> split at * <;> omega
          clear hjn hj3 hj
          have c60 : decide ((kk : Int) < 60) = true := by simp; omega
          go_upto_region 20 with fail
          have hsl := slice_run ao n cap i j (by omega) wr
          have hss := hid (slice_src HL.out HS.out hnc hj1)
          obtain ⟨A, hA⟩ : ∃ A, A = (if cap = i then ao else ao.map (·.add (i * 2))) := ⟨_, rfl⟩
          rw [← hA] at hsl hss
          clear hA
          refine wp_region_lit ?_
          refine Go.Great.wpList_runTo rfl (some 127) rfl (.slice ao n cap) wr (by simp [execOp, Act.eval, Act.put, go_sem]) ?_
          simp only [Act.put, List.setIfInBounds_toArray, List.set_cons_succ, List.set_cons_zero]
          refine Go.Great.wpList_runTo rfl (some 128) rfl (.int .i64 i) wr (by simp [execOp, Act.eval, Act.put, go_sem]) ?_
          simp only [Act.put, List.setIfInBounds_toArray, List.set_cons_succ, List.set_cons_zero]
          refine Go.Great.wpList_runTo rfl (some 129) rfl (.int .i64 i) wr (by simp [execOp, Act.eval, Act.put, go_sem]) ?_
          simp only [Act.put, List.setIfInBounds_toArray, List.set_cons_succ, List.set_cons_zero]
          refine Go.Great.wpList_runTo rfl (some 130) rfl (.int .i64 j) wr (by simp [execOp, Act.eval, Act.put, go_sem]) ?_
          simp only [Act.put, List.setIfInBounds_toArray, List.set_cons_succ, List.set_cons_zero]
          refine Go.Great.wpList_runTo rfl (some 131) rfl (.int .i64 ((i : Int) + j)) wr (by have := IntWalk.i64_in ((i : Int) + j) (by omega); simp [execOp, Act.eval, Act.put, go_sem, this]) ?_
          simp only [Act.put, List.setIfInBounds_toArray, List.set_cons_succ, List.set_cons_zero]
          refine Go.Great.wpList_runTo rfl (some 132) rfl (.slice A j (cap - i)) wr (run_slice_op _ _ Try.underlying29 _ _ _ rfl _ _ _ _ _ _ (by simp [Act.eval]) (by simp [Act.eval]) (by simp [Act.eval]) hsl) ?_
          simp only [Act.put, List.setIfInBounds_toArray, List.set_cons_succ, List.set_cons_zero]
          refine Go.Great.wpList_runTo rfl (some 133) rfl (.agg #[.int .i64 0, .string ⟨#[]⟩, .slice A j (cap - i), .bool false, .string ⟨#[]⟩, .int .i64 0]) wr (by simp [execOp, Act.eval, Act.put, go_sem]) ?_
          simp only [Act.put, List.setIfInBounds_toArray, List.set_cons_succ, List.set_cons_zero]
          refine Go.Great.wpList_runTo rfl (some 15) rfl (.pointer (some ⟨wr.heap.size, 0, none⟩)) (wr.alloc (.cells #[.int .i64 0, .string ⟨#[]⟩, .slice none 0 0, .bool false, .string ⟨#[]⟩, .int .i64 0] 31)) (by kernel_rfl) ?_
          simp only [Act.put, List.setIfInBounds_toArray, List.set_cons_succ, List.set_cons_zero]
          refine wpList_store_row rfl 31 (.tmp 15) (.tmp 133) rfl wr.heap.size (#[.int .i64 0, .string ⟨#[]⟩, .slice A j (cap - i), .bool false, .string ⟨#[]⟩, .int .i64 0]) (#[.int .i64 0, .string ⟨#[]⟩, .slice none 0 0, .bool false, .string ⟨#[]⟩, .int .i64 0]) (by simp [Act.eval]) (by simp [Act.eval]) (heap_alloc_at _ _ _ rfl) (by kernel_rfl) rfl (by simp [Value.oneCell']) ?_
          refine wpList_nil ?_
          rw [put_alloc]
          simp [Act.put]
          have hLl : L < wr.heap.size := lt_of_heap hlet2.out.heap
          have hbwr : Below w.heap.size w wr := by have := HAT.out.below; rw [hBw2.out] at this; exact this
          have hbw := hbwr.size
          have HSR := hid (hss.out.heap hbwr)
          have HBWR := hid hbwr
          clear hss hbwr hsl
          rcases Nat.lt_or_ge (i + j) n with cn | cn
          · obtain ⟨x, hx⟩ : ∃ x, its[i + j]? = some x := ⟨its[i + j]'(by rw [HL.out]; exact cn), List.getElem?_eq_getElem _⟩
            obtain ⟨b1, o1, rfl, p1, _, _⟩ := (show Src w 2 (.slice ao its.length cap) its.length (flat its) by rw [HL.out]; exact HS.out).at_ (i + j) x hx
            have hlb : b1 < w.heap.size := World.block_lt_of_cell? _ _ p1
            have q1 : wr.cell? ⟨b1, o1 + (i + j) * 2, none⟩ = some (.string x.1) := (HBWR.out.cell (p := ⟨b1, o1 + (i + j) * 2, none⟩) hlb).trans p1
            have hlb2 : b1 < wr.heap.size := by omega
            have c21 : decide ((i : Int) + j < n) = true := by simp; omega
            have hwr : IntKind.i64.wrap ((i : Int) + j) = (i : Int) + j := IntWalk.i64_in _ (by omega)
            have htn : ((i : Int) + j).toNat = i + j := by omega
            have hx1 : (0 : Int) ≤ (i : Int) + j := by omega
            have hx2 : (i : Int) + j < n := by omega
            have HX := hid hx
            clear p1 hx
            go_wp2_with fail
            go_region
            all_goals
              clear hwr htn hx1 q1
              by_cases cm : (i : Int) + j = most
              · have HCM := hid cm
                clear cm
                go_wp2_with fail
                go_region_with (go_at_call 30; go_must (((with_reducible refine (got_full _ _ _ _ _ _ _ (HAT.out.on (by repeat' (first | exact Below.refl _ _ | with_reducible assumption | omega | with_reducible refine below_put_fut ?_ ?_ _ | with_reducible refine below_to_put ?_ | with_reducible refine Below.alloc ?_ ?_ _ | with_reducible refine Below.fut ?_ ?_ _ | with_reducible refine Below.drew ?_ | with_reducible refine Below.setCell ?_ ?_ _ | with_reducible refine Below.atPut ?_ ?_ _ | (simp [go_sem]; done) | (simp [go_sem]; omega)))) rfl rfl ⟨100, 0, ⟨#[]⟩, ⟨#[]⟩, ⟨#[]⟩, 0, 0, ⟨#[]⟩, .slice A j (cap - i), true, x.1, 0, 0, 0, 0, .slice none 0 0, 0, 0⟩ rfl j _ (HSR.out.heap (by repeat' (first | exact Below.refl _ _ | with_reducible assumption | omega | with_reducible refine below_put_fut ?_ ?_ _ | with_reducible refine below_to_put ?_ | with_reducible refine Below.alloc ?_ ?_ _ | with_reducible refine Below.fut ?_ ?_ _ | with_reducible refine Below.drew ?_ | with_reducible refine Below.setCell ?_ ?_ _ | with_reducible refine Below.atPut ?_ ?_ _ | (simp [go_sem]; done) | (simp [go_sem]; omega)))) (by omega) (by omega) (by rw [HCM.out]; exact Int.le_refl _)).mono ?_)); rintro _ W5 ⟨v5, rfl, h5⟩))
                all_goals
                  have hdone := hid (Done.mk (its := its) (most := most) h5 rfl rfl (by rw [HL.out, ← HCM.out]; simp; omega) (by rw [HL.out, ← HCM.out]; omega))
                  clear h5
                  go_wp2_with fail
                  go_roundw
                  case rel => exact ⟨kk + 1, by go_num, i + j, by go_num, by omega, true, rfl, hid (.inr ⟨rfl, by omega, hdone.out⟩)⟩
                  case measure => simp [intOf]; omega
              · have hlm : (i : Int) + j < most := by omega
                have hjp : 1 ≤ j := by have := HJ3.out; omega
                have hks : key.size ≤ maxLen := by
                  rcases HKEY.out with ⟨_, rfl⟩ | ⟨y, hy, rfl⟩
                  · decide
                  · exact HSM.out y (List.mem_of_getElem? hy)
                have hxs : x.1.size ≤ maxLen := HSM.out x (List.mem_of_getElem? HX.out)
                have hless : Op.bytesLess key.data.toList x.1.data.toList = true := by
                  rcases HKEY.out with ⟨_, rfl⟩ | ⟨y, hy, rfl⟩
                  · have hne := (HUP.out (i + j) cn x HX.out).1
                    have : 0 < x.1.data.toList.length := by
                      rcases Nat.eq_zero_or_pos x.1.data.toList.length with h0 | h0
                      · exact absurd (ba_ext (a := x.1) (b := ⟨#[]⟩) (List.eq_nil_of_length_eq_zero h0)) hne
                      · exact h0
                    rw [show (⟨#[]⟩ : ByteArray).data.toList = [] from rfl, less_nil_left]
                    simpa using this
                  · obtain ⟨d, rfl⟩ : ∃ d, j = d + 1 := ⟨j - 1, by omega⟩
                    exact HUP.out.less i y hy d cn x HX.out
                have HLS := hid hless
                clear cm hless
                go_wp2_with fail
                go_region_with (go_at_call 30; go_must (((with_reducible refine (got_more _ _ _ _ _ _ _ (HAT.out.on (by repeat' (first | exact Below.refl _ _ | with_reducible assumption | omega | with_reducible refine below_put_fut ?_ ?_ _ | with_reducible refine below_to_put ?_ | with_reducible refine Below.alloc ?_ ?_ _ | with_reducible refine Below.fut ?_ ?_ _ | with_reducible refine Below.drew ?_ | with_reducible refine Below.setCell ?_ ?_ _ | with_reducible refine Below.atPut ?_ ?_ _ | (simp [go_sem]; done) | (simp [go_sem]; omega)))) rfl rfl ⟨100, 0, ⟨#[]⟩, ⟨#[]⟩, ⟨#[]⟩, 0, 0, ⟨#[]⟩, .slice A j (cap - i), true, x.1, 0, 0, 0, 0, .slice none 0 0, 0, 0⟩ rfl rfl j _ (HSR.out.heap (by repeat' (first | exact Below.refl _ _ | with_reducible assumption | omega | with_reducible refine below_put_fut ?_ ?_ _ | with_reducible refine below_to_put ?_ | with_reducible refine Below.alloc ?_ ?_ _ | with_reducible refine Below.fut ?_ ?_ _ | with_reducible refine Below.drew ?_ | with_reducible refine Below.setCell ?_ ?_ _ | with_reducible refine Below.atPut ?_ ?_ _ | (simp [go_sem]; done) | (simp [go_sem]; omega)))) (by omega) (by omega) hlm (show most ≤ 100 by omega) HLS.out hks hxs hid0 (show id < 1000000 by omega)).mono ?_)); rintro _ W5 ⟨v5, L5, rfl, hL5, h5⟩))
                all_goals
                  have hlive := hid (show Live B g L5 its most (i + j) ⟨me, nodes, id + 1, 1, op, x.1, val, to1, most - (i + j), most, 2, 0, 0, true, over, false, e⟩ W5 from ⟨⟨v5, by rw [← take_part]; exact h5⟩, hL5, rfl, rfl, rfl, rfl, (show most - ((i : Int) + j) = most - ((i + j : Nat) : Int) by omega), rfl, (show (0 : Int) ≤ id + 1 by omega), (show id + 1 ≤ 30001 + ((i + j : Nat) : Int) by omega), by omega, .inr ⟨x, HX.out, rfl⟩⟩)
                  clear h5 hL5
                  go_wp2_with fail
                  go_roundw
                  case rel => exact ⟨kk + 1, by go_num, i + j, by go_num, by omega, false, rfl, hid (.inl ⟨rfl, by omega, by omega, L5, _, rfl, hlive.out⟩)⟩
                  case measure => simp [intOf]; omega
          · have c21 : decide ((i : Int) + j < n) = false := by simp; omega
            have hwr : IntKind.i64.wrap ((i : Int) + j) = (i : Int) + j := IntWalk.i64_in _ (by omega)
            have hijn : i + j = n := by omega
            have HIJ := hid hijn
            clear hijn
            by_cases cm : (i : Int) + j = most
            · have HCM := hid cm
              clear cm
              go_wp2_with fail
              go_region_with (go_at_call 30; go_must (((with_reducible refine (got_full _ _ _ _ _ _ _ (HAT.out.on (by repeat' (first | exact Below.refl _ _ | with_reducible assumption | omega | with_reducible refine below_put_fut ?_ ?_ _ | with_reducible refine below_to_put ?_ | with_reducible refine Below.alloc ?_ ?_ _ | with_reducible refine Below.fut ?_ ?_ _ | with_reducible refine Below.drew ?_ | with_reducible refine Below.setCell ?_ ?_ _ | with_reducible refine Below.atPut ?_ ?_ _ | (simp [go_sem]; done) | (simp [go_sem]; omega)))) rfl rfl ⟨100, 0, ⟨#[]⟩, ⟨#[]⟩, ⟨#[]⟩, 0, 0, ⟨#[]⟩, .slice A j (cap - i), false, ⟨#[]⟩, 0, 0, 0, 0, .slice none 0 0, 0, 0⟩ rfl j _ (HSR.out.heap (by repeat' (first | exact Below.refl _ _ | with_reducible assumption | omega | with_reducible refine below_put_fut ?_ ?_ _ | with_reducible refine below_to_put ?_ | with_reducible refine Below.alloc ?_ ?_ _ | with_reducible refine Below.fut ?_ ?_ _ | with_reducible refine Below.drew ?_ | with_reducible refine Below.setCell ?_ ?_ _ | with_reducible refine Below.atPut ?_ ?_ _ | (simp [go_sem]; done) | (simp [go_sem]; omega)))) (by omega) (by omega) (by rw [HCM.out]; exact Int.le_refl _)).mono ?_)); rintro _ W5 ⟨v5, rfl, h5⟩))
              all_goals
                have hdone := hid (Done.mk (its := its) (most := most) h5 rfl rfl (by rw [HL.out, ← HCM.out, ← HIJ.out]; simp) (by rw [HL.out, ← HCM.out, ← HIJ.out]; omega))
                clear h5
                go_wp2_with fail
                go_roundw
                case rel => exact ⟨kk + 1, by go_num, i + j, by go_num, by omega, true, rfl, hid (.inr ⟨rfl, by omega, hdone.out⟩)⟩
                case measure => simp [intOf]; omega
            · have hlm : (i : Int) + j < most := by omega
              clear cm
              go_wp2_with fail
              go_region_with (go_at_call 30; go_must (((with_reducible refine (got_last _ _ _ _ _ _ _ (HAT.out.on (by repeat' (first | exact Below.refl _ _ | with_reducible assumption | omega | with_reducible refine below_put_fut ?_ ?_ _ | with_reducible refine below_to_put ?_ | with_reducible refine Below.alloc ?_ ?_ _ | with_reducible refine Below.fut ?_ ?_ _ | with_reducible refine Below.drew ?_ | with_reducible refine Below.setCell ?_ ?_ _ | with_reducible refine Below.atPut ?_ ?_ _ | (simp [go_sem]; done) | (simp [go_sem]; omega)))) rfl rfl ⟨100, 0, ⟨#[]⟩, ⟨#[]⟩, ⟨#[]⟩, 0, 0, ⟨#[]⟩, .slice A j (cap - i), false, ⟨#[]⟩, 0, 0, 0, 0, .slice none 0 0, 0, 0⟩ rfl rfl j _ (HSR.out.heap (by repeat' (first | exact Below.refl _ _ | with_reducible assumption | omega | with_reducible refine below_put_fut ?_ ?_ _ | with_reducible refine below_to_put ?_ | with_reducible refine Below.alloc ?_ ?_ _ | with_reducible refine Below.fut ?_ ?_ _ | with_reducible refine Below.drew ?_ | with_reducible refine Below.setCell ?_ ?_ _ | with_reducible refine Below.atPut ?_ ?_ _ | (simp [go_sem]; done) | (simp [go_sem]; omega)))) (by omega) (by omega) hlm).mono ?_)); rintro _ W5 ⟨v5, rfl, h5⟩))
              all_goals
                have hdone := hid (Done.mk (its := its) (most := most) h5 rfl rfl (by rw [HL.out, ← HIJ.out]; simp; omega) (by rw [HL.out, ← HIJ.out]; omega))
                clear h5
                go_wp2_with fail
                go_roundw
                case rel => exact ⟨kk + 1, by go_num, i + j, by go_num, by omega, true, rfl, hid (.inr ⟨rfl, by omega, hdone.out⟩)⟩
                case measure => simp [intOf]; omega
        · clear hL
          obtain ⟨s, m, v, hat, hov, he, hmo, hm⟩ := hdone
          have HAT := hid hat
          have HM := hid hmo
          have hml : m ≤ n := by rw [HL.out] at hm; omega
          have HMM := hid hm
          have HOV := hid hov
          have HE := hid he
          clear hat hov he hmo hm
          have c60 : decide ((kk : Int) < 60) = true := by simp; omega
          rcases Int.lt_or_le most n with cq | cq
          · have hmq : s.more = true := by rw [HM.out, HL.out]; simpa using cq
            have dq : decide (most < (n : Int)) = true := by simpa using cq
            go_wp2_with fail
            (((with_reducible refine (result_is _ _ _ _ _ _ _ HAT.out HOV.out (by omega) (flat_one _)).mono ?_)); rintro _ W5 ⟨ao5, cc5, rfl, hO5, h5⟩)
            rw [HE.out, hmq]
            go_wp2_with fail
            rw [show (min most (n : Int)).toNat = m from by have := HMM.out; rw [HL.out] at this; omega]
            have hb5 : Below w.heap.size w W5 := by have := h5.below; rw [hBw2.out] at this; exact this
            (((with_reducible refine (same_is W5 _ _ (its.take m) m (by rw [List.length_take, HL.out]; omega) (by omega) (owns_src hO5 (flat_one _)) ((slice_pre HS.out hml HL.out).heap hb5)).mono ?_)); rintro _ _ ⟨rfl, u6, rfl⟩)
            have hbel := hb5.trans (u6.below.mono hb5.size)
            clear h5 hO5
            go_wp2_with fail
            go_ret
            exact .mk rfl hbel
          · have hmq : s.more = false := by rw [HM.out, HL.out]; simpa using cq
            have dq : decide (most < (n : Int)) = false := by simpa using cq
            go_wp2_with fail
            (((with_reducible refine (result_is _ _ _ _ _ _ _ HAT.out HOV.out (by omega) (flat_one _)).mono ?_)); rintro _ W5 ⟨ao5, cc5, rfl, hO5, h5⟩)
            rw [HE.out, hmq]
            go_wp2_with fail
            rw [show (min most (n : Int)).toNat = m from by have := HMM.out; rw [HL.out] at this; omega]
            have hb5 : Below w.heap.size w W5 := by have := h5.below; rw [hBw2.out] at this; exact this
            (((with_reducible refine (same_is W5 _ _ (its.take m) m (by rw [List.length_take, HL.out]; omega) (by omega) (owns_src hO5 (flat_one _)) ((slice_pre HS.out hml HL.out).heap hb5)).mono ?_)); rintro _ _ ⟨rfl, u6, rfl⟩)
            have hbel := hb5.trans (u6.below.mono hb5.size)
            clear h5 hO5
            go_wp2_with fail
            go_ret
            exact .mk rfl hbel
set_option maxRecDepth 100000 in
set_option maxHeartbeats 4000000 in
theorem scanParts_many (w : World) (ao : Option Addr) (n cap : Nat) (most size : Int) (c : 40 < n) :
    Calls Try.prog 8 #[.slice ao n cap, .int .i64 most, .int .i64 size] w (Makes (.bool true) w) := by
  have d1 : decide ((40 : Int) < n) = true := by simp; omega
  go_enter Try.func8, Try.ntmps8
  go_wp2_with (first | (go_at_call 27; ((with_reducible refine (scanAlive_any _).mono ?_)); rintro _ _ ⟨rfl, u, rfl⟩; (try (rw [Fut.put_self u (by first | assumption | (simp [go_sem]; done) | (simp [go_sem]; omega))]))) | (((with_reducible refine wp_region_fut_lit (by kernel_rfl) (by kernel_rfl) ?_)); (repeat (go_big_quiet_step ((first | (go_at_call 27; with_reducible exact Calls.fut_of (scanAlive_any _)))))); ((with_reducible refine wpQuiet_nil ?_)); rintro _ ⟨u, rfl⟩; (try (rw [Fut.put_self u (by first | assumption | (simp [go_sem]; done) | (simp [go_sem]; omega))]))))
  go_ret; exact .mk (by first | rfl | (simp; done) | (simp; omega)) (by repeat' (first | exact Below.refl _ _ | with_reducible assumption | omega | with_reducible refine below_put_fut ?_ ?_ _ | with_reducible refine below_to_put ?_ | with_reducible refine Below.alloc ?_ ?_ _ | with_reducible refine Below.fut ?_ ?_ _ | with_reducible refine Below.drew ?_ | with_reducible refine Below.setCell ?_ ?_ _ | with_reducible refine Below.atPut ?_ ?_ _ | (simp [go_sem]; done) | (simp [go_sem]; omega)))
set_option maxRecDepth 100000 in
set_option maxHeartbeats 4000000 in
theorem scanParts_walk (w : World) (v : Value) (its : List It) (hi : ItemsAt w v its) (most : Int) (wm : (Lit.int .i64 most).wf = true) (size : Int) (ws : (Lit.int .i64 size).wf = true) :
    Calls Try.prog 8 #[v, .int .i64 most, .int .i64 size] w (Makes (.bool true) w) := by
  clear wm ws
  have hs := hi.src
  have hsm : ∀ x ∈ its, x.1.size ≤ maxLen := fun x hx => (hi.small x hx).1
  have hcap : ∀ a m cap, v = .slice a m cap → m ≤ cap := by
    intro a m cap hv
    rcases hi.form with ⟨rfl, _⟩ | ⟨a', c', rfl, hc, _⟩
    · cases hv; exact Nat.le_refl _
    · cases hv; exact hc
  obtain ⟨ao, cap, rfl⟩ := hi.slice
  rcases Nat.lt_or_ge 40 its.length with c | c
  · exact scanParts_many w _ _ _ most size c
  rcases Int.lt_or_le most 1 with c1 | c1
  · clear hi hs hsm hcap
    generalize its.length = n at c ⊢
    have d0 : decide ((40 : Int) < n) = false := by simp; omega
    have d9 : decide (most < 1) = true := by simpa using c1
    go_enter Try.func8, Try.ntmps8
    go_wp2_with (first | (go_at_call 27; ((with_reducible refine (scanAlive_any _).mono ?_)); rintro _ _ ⟨rfl, u, rfl⟩; (try (rw [Fut.put_self u (by first | assumption | (simp [go_sem]; done) | (simp [go_sem]; omega))]))) | (((with_reducible refine wp_region_fut_lit (by kernel_rfl) (by kernel_rfl) ?_)); (repeat (go_big_quiet_step ((first | (go_at_call 27; with_reducible exact Calls.fut_of (scanAlive_any _)))))); ((with_reducible refine wpQuiet_nil ?_)); rintro _ ⟨u, rfl⟩; (try (rw [Fut.put_self u (by first | assumption | (simp [go_sem]; done) | (simp [go_sem]; omega))]))))
    go_ret; exact .mk (by first | rfl | (simp; done) | (simp; omega)) (by repeat' (first | exact Below.refl _ _ | with_reducible assumption | omega | with_reducible refine below_put_fut ?_ ?_ _ | with_reducible refine below_to_put ?_ | with_reducible refine Below.alloc ?_ ?_ _ | with_reducible refine Below.fut ?_ ?_ _ | with_reducible refine Below.drew ?_ | with_reducible refine Below.setCell ?_ ?_ _ | with_reducible refine Below.atPut ?_ ?_ _ | (simp [go_sem]; done) | (simp [go_sem]; omega)))
  have d1 : decide (most < 1) = false := by simp; omega
  rcases Int.lt_or_le 40 most with c2 | c2
  · clear hi hs hsm hcap
    generalize its.length = n at c ⊢
    have d0 : decide ((40 : Int) < n) = false := by simp; omega
    have d9 : decide (40 < most) = true := by simpa using c2
    go_enter Try.func8, Try.ntmps8
    go_wp2_with (first | (go_at_call 27; ((with_reducible refine (scanAlive_any _).mono ?_)); rintro _ _ ⟨rfl, u, rfl⟩; (try (rw [Fut.put_self u (by first | assumption | (simp [go_sem]; done) | (simp [go_sem]; omega))]))) | (((with_reducible refine wp_region_fut_lit (by kernel_rfl) (by kernel_rfl) ?_)); (repeat (go_big_quiet_step ((first | (go_at_call 27; with_reducible exact Calls.fut_of (scanAlive_any _)))))); ((with_reducible refine wpQuiet_nil ?_)); rintro _ ⟨u, rfl⟩; (try (rw [Fut.put_self u (by first | assumption | (simp [go_sem]; done) | (simp [go_sem]; omega))]))))
    go_ret; exact .mk (by first | rfl | (simp; done) | (simp; omega)) (by repeat' (first | exact Below.refl _ _ | with_reducible assumption | omega | with_reducible refine below_put_fut ?_ ?_ _ | with_reducible refine below_to_put ?_ | with_reducible refine Below.alloc ?_ ?_ _ | with_reducible refine Below.fut ?_ ?_ _ | with_reducible refine Below.drew ?_ | with_reducible refine Below.setCell ?_ ?_ _ | with_reducible refine Below.atPut ?_ ?_ _ | (simp [go_sem]; done) | (simp [go_sem]; omega)))
  have d2 : decide (40 < most) = false := by simp; omega
  rcases Int.lt_or_le size 1 with c3 | c3
  · clear hi hs hsm hcap
    generalize its.length = n at c ⊢
    have d0 : decide ((40 : Int) < n) = false := by simp; omega
    have d9 : decide (size < 1) = true := by simpa using c3
    go_enter Try.func8, Try.ntmps8
    go_wp2_with (first | (go_at_call 27; ((with_reducible refine (scanAlive_any _).mono ?_)); rintro _ _ ⟨rfl, u, rfl⟩; (try (rw [Fut.put_self u (by first | assumption | (simp [go_sem]; done) | (simp [go_sem]; omega))]))) | (((with_reducible refine wp_region_fut_lit (by kernel_rfl) (by kernel_rfl) ?_)); (repeat (go_big_quiet_step ((first | (go_at_call 27; with_reducible exact Calls.fut_of (scanAlive_any _)))))); ((with_reducible refine wpQuiet_nil ?_)); rintro _ ⟨u, rfl⟩; (try (rw [Fut.put_self u (by first | assumption | (simp [go_sem]; done) | (simp [go_sem]; omega))]))))
    go_ret; exact .mk (by first | rfl | (simp; done) | (simp; omega)) (by repeat' (first | exact Below.refl _ _ | with_reducible assumption | omega | with_reducible refine below_put_fut ?_ ?_ _ | with_reducible refine below_to_put ?_ | with_reducible refine Below.alloc ?_ ?_ _ | with_reducible refine Below.fut ?_ ?_ _ | with_reducible refine Below.drew ?_ | with_reducible refine Below.setCell ?_ ?_ _ | with_reducible refine Below.atPut ?_ ?_ _ | (simp [go_sem]; done) | (simp [go_sem]; omega)))
  have d3 : decide (size < 1) = false := by simp; omega
  rcases Int.lt_or_le 10 size with c4 | c4
  · clear hi hs hsm hcap
    generalize its.length = n at c ⊢
    have d0 : decide ((40 : Int) < n) = false := by simp; omega
    have d9 : decide (10 < size) = true := by simpa using c4
    go_enter Try.func8, Try.ntmps8
    go_wp2_with (first | (go_at_call 27; ((with_reducible refine (scanAlive_any _).mono ?_)); rintro _ _ ⟨rfl, u, rfl⟩; (try (rw [Fut.put_self u (by first | assumption | (simp [go_sem]; done) | (simp [go_sem]; omega))]))) | (((with_reducible refine wp_region_fut_lit (by kernel_rfl) (by kernel_rfl) ?_)); (repeat (go_big_quiet_step ((first | (go_at_call 27; with_reducible exact Calls.fut_of (scanAlive_any _)))))); ((with_reducible refine wpQuiet_nil ?_)); rintro _ ⟨u, rfl⟩; (try (rw [Fut.put_self u (by first | assumption | (simp [go_sem]; done) | (simp [go_sem]; omega))]))))
    go_ret; exact .mk (by first | rfl | (simp; done) | (simp; omega)) (by repeat' (first | exact Below.refl _ _ | with_reducible assumption | omega | with_reducible refine below_put_fut ?_ ?_ _ | with_reducible refine below_to_put ?_ | with_reducible refine Below.alloc ?_ ?_ _ | with_reducible refine Below.fut ?_ ?_ _ | with_reducible refine Below.drew ?_ | with_reducible refine Below.setCell ?_ ?_ _ | with_reducible refine Below.atPut ?_ ?_ _ | (simp [go_sem]; done) | (simp [go_sem]; omega)))
  exact scanParts_good w _ its _ rfl hs hcap hsm c most size c1 c2 c3 c4
set_option maxRecDepth 100000 in
theorem scanParts_lifted (os : Os) (started : os.Started) (H : Type) (enc : TypeId × Value → H) :
    ReturnsInHanded {} Try.checked os 8 .any (Rows.scanPartsSpec.pre6 enc Try.prog Try.f8 Rows.scanPartsRow.domain false) (Rows.scanPartsSpec.post enc Try.prog Try.f8 false true false false) := by
  refine returnsInHanded_of_change (C := Try.checked) own started (by kernel_rfl) Try.func8
    (ChangeSpec.witness6 (enc := enc) (C := Try.checked) false ⟨#[], #[.slice none 0 0, .int .i64 0, .int .i64 0], []⟩ 8 (by kernel_rfl) (by kernel_rfl) (by kernel_rfl) (by kernel_rfl)) ?_
  intro W base args ds gs before hval0 hW hcnd _
  have hval : ∀ (j : Nat) t v, Try.f8.params[j]? = some t → args[j]? = some v → Value.okWide Try.prog W .any base t v := hval0
  have hW' := hW
  obtain ⟨p, q, hA0, hV, rfl, hfz, hnd⟩ := hW
  have hA : DataW.TrodAll enc Try.prog W 0 (fun _ => true) true Try.f8.params.toList args.toList ds p := hA0
  rw [Try.params8] at hA hval
  obtain ⟨v0, vs0, d0, ds0, p0, q0, hargs, rfl, rfl, h0, r0⟩ := trodAll_cons hA
  obtain ⟨v1, vs1, d1, ds1, p1, q1, rfl, rfl, rfl, h1, r1⟩ := trodAll_cons r0
  obtain ⟨v2, vs2, d2, ds2, p2, q2, rfl, rfl, rfl, h2, r2⟩ := trodAll_cons r1
  obtain ⟨rfl, rfl, rfl⟩ := trodAll_nil r2
  obtain rfl : args = #[v0, v1, v2] := by cases args; simp_all
  obtain ⟨rfl, rfl⟩ := trodVars_none hV
  have k0 := h0
  have lt0 : ∀ x ∈ p0, x.block < W.heap.size := by obtain ⟨m, hm⟩ := k0; exact DataW.trod_lt m _ _ _ hm
  obtain ⟨l0, w0⟩ := open_items (hval 0 29 v0 rfl rfl) h0
  have k1 := h1
  have lt1 : ∀ x ∈ p1, x.block < W.heap.size := by obtain ⟨m, hm⟩ := k1; exact DataW.trod_lt m _ _ _ hm
  obtain ⟨a1, rfl, -, -, w1⟩ := open_int Try.underlying3 (hval 1 3 v1 rfl rfl) h1
  have k2 := h2
  have lt2 : ∀ x ∈ p2, x.block < W.heap.size := by obtain ⟨m, hm⟩ := k2; exact DataW.trod_lt m _ _ _ hm
  obtain ⟨a2, rfl, -, -, w2⟩ := open_int Try.underlying3 (hval 2 3 v2 rfl rfl) h2
  clear hA0 hval0
  refine (scanParts_walk W _ l0 w0 a1 w1 a2 w2).mono fun e W' ⟨he, u, hu⟩ => ?_
  subst he; subst hu
  have bel := u.below
  exact ⟨_, rfl, _, _, _, [], _, [], hW', trodAll_mk1 (shut_bool Try.underlying4 _), (trodAll_cons_mk (Below.trod laidOut (by kernel_rfl) (of_decide_eq_true (by kernel_rfl)) k0 bel lt0) (trodAll_cons_mk (Below.trod laidOut (by kernel_rfl) (of_decide_eq_true (by kernel_rfl)) k1 bel lt1) (trodAll_cons_mk (Below.trod laidOut (by kernel_rfl) (of_decide_eq_true (by kernel_rfl)) k2 bel lt2) trodAll_mk0))), rfl, bel.frame _, fun h => by cases h⟩
/-- The statement. -/
theorem scanParts_holds : Rows.ScanPartsSaid :=
  OpenClaim.holds_of_wide 8 Try.f8 rfl rfl rfl rfl rfl rfl rfl ⟨rfl, rfl, rfl, rfl, rfl⟩ rfl rfl rfl rfl rfl (by kernel_rfl) Try.func8 (by kernel_rfl)
    (of_decide_eq_true (by kernel_rfl)) (by unfold Func.isWrapper; first | (rw [if_pos (by decide +kernel)]; kernel_rfl) | (rw [if_neg (by decide +kernel)]; exact ⟨rfl, rfl⟩))
    (fun os started H enc _ => scanParts_lifted os started H enc)
#print axioms scanParts_holds
end Go.Proofs.Ythgajbfgolcpkaa
