/- Texts of this proof, merged: Ref1, Ref2, Ref3, Fil1, Fil2. -/
import Derived.Test.YthknenhcnpgkcaaGreatMn
import Derived.Test.YthknenhcnpgkcaaGreatMb
import Derived.Test.YthknenhcnpgkcaaGreatMs
import Derived.IntWalk
import Derived.Test.YthknenhcnpgkcaaGreatMh
import Derived.Deep.Cut
import Derived.Deep.DeepCutAuto
import Derived.Great.Walk
import Derived.Test.YthknenhcnpgkcaaGreatMq
import Derived.Deep.RegionWith
/- The document's own shelf (rosaryref1.Shelf): At. -/
namespace Go.Proofs.YthknenhcnpgkcaaGreat
open Go.RowKit
set_option linter.unusedVariables false
set_option linter.unusedSimpArgs false
@[reducible] def refObj (most : Int) (v : Value) : Obj := .cells #[.int .i64 most, v] 44
theorem place_facts {k : ByteArray} {xs : List It} (hr : Rises xs) {at_ : Nat} {is : Bool} (hp : placeOf k xs = (at_, is)) :
    at_ ≤ xs.length ∧ (∀ (j : Nat) x, j < at_ → xs[j]? = some x → lt x.1 k = true) ∧ (∀ x, xs[at_]? = some x → lt x.1 k = false ∧ (is = true ↔ x.1 = k)) ∧ (xs.length ≤ at_ → is = false) := by
  have hle := placeOf_le k xs
  obtain ⟨A, B, rfl, hA, h1, h2⟩ := placeOf_split k xs hr
  rw [hp] at hA h2 hle
  simp only at hA h2 hle
  refine ⟨hle, fun j x hj hx => ?_, fun x hx => ?_, fun hl => ?_⟩
  · rw [List.getElem?_append_left (by omega)] at hx
    exact h1 x (List.mem_of_getElem? hx)
  · rw [List.getElem?_append_right (by omega), show at_ - A.length = 0 by omega] at hx
    rcases h2 with ⟨e, v, R, rfl⟩ | ⟨e, h2⟩
    · obtain rfl : (k, v) = x := by simpa using hx
      exact ⟨lt_irrefl _, by simp [e]⟩
    · have := h2 x (List.mem_of_getElem? hx)
      refine ⟨lt_asymm this, by simp only [e, Bool.false_eq_true, false_iff]; exact fun e' => lt_ne this e'.symm⟩
  · rcases h2 with ⟨e, v, R, rfl⟩ | ⟨e, h2⟩
    · simp at hl; omega
    · exact e
set_option maxRecDepth 100000 in
set_option maxHeartbeats 4000000 in
theorem refAt_is (W : World) (g : Nat) (most : Int) (v : Value) (xs : List It) (n : Nat) (hl : xs.length = n) (hn : n ≤ 1000) (hg : W.heap[g]? = some (refObj most v)) (hs : Src W 2 v n (flat xs)) (hr : Rises xs) (k : ByteArray) (at_ : Nat) (is : Bool) (hp : placeOf k xs = (at_, is)) :
    Calls Tryz.prog 72 #[.pointer (some ⟨g, 0, none⟩), .string k] W (Makes (.tuple #[.int .i64 at_, .bool is]) W) := by
  obtain ⟨ao, cap, rfl⟩ := hs.slice_of
  obtain ⟨h1, h2, h3, h4⟩ := place_facts hr hp
  have hc := fun i => cell_of_row W g i _ _ (0, 0) hg
  have hgl := lt_of_heap hg
  have HS := hid hs
  have HL := hid hl
  have H2 := hid h2
  have H3 := hid h3
  have H4 := hid h4
  have h1 : at_ ≤ n := by omega
  clear hg hs hl h2 h3 h4 hr hp
  go_enter Tryz.func72, Tryz.ntmps72
  go_wp2_with fail
  go_loopw [6] (fun x wr => ∃ j : Nat, j ≤ at_ ∧ x = .int .i64 j ∧ ∃ u : Fut W, wr = u.val) (fun x _ => at_ - (intOf x).toNat)
  case atStart => exact ⟨0, Nat.zero_le _, rfl, ⟨⟨_, (by repeat' (first | exact Below.refl _ _ | with_reducible assumption | omega | with_reducible refine below_put_fut ?_ ?_ _ | with_reducible refine below_to_put ?_ | with_reducible refine Below.alloc ?_ ?_ _ | with_reducible refine Below.fut ?_ ?_ _ | with_reducible refine Below.drew ?_ | with_reducible refine Below.setCell ?_ ?_ _ | with_reducible refine Below.atPut ?_ ?_ _ | (simp [go_sem]; done) | (simp [go_sem]; omega)))⟩, rfl⟩⟩
  case round =>
    obtain ⟨j, hj, rfl, u, rfl⟩ := hrel
    by_cases hlt : j < n
    · obtain ⟨x, hx⟩ : ∃ x, xs[j]? = some x := ⟨xs[j]'(by rw [HL.out]; exact hlt), List.getElem?_eq_getElem _⟩
      obtain ⟨b, o, rfl, p1, p2, p3⟩ := (show Src W 2 (.slice ao xs.length cap) xs.length (flat xs) by rw [HL.out]; exact HS.out).at_ j x hx
      have l1 : b < W.heap.size := World.block_lt_of_cell? _ _ p1
      by_cases hja : j < at_
      · have hll := H2.out j x hja hx
        clear hx
        obtain ⟨s, t⟩ := x
        simp only at p1 p2 p3 hll
        have hl3 : Op.bytesLess s.toList k.toList = true := by rw [ByteArray.toList_eq, ByteArray.toList_eq]; exact hll
        go_wp2_with (first | (((with_reducible refine wp_region_fut_lit (by kernel_rfl) (by kernel_rfl) ?_)); (repeat (go_big_quiet_step ((first | fail)))); ((with_reducible refine wpQuiet_nil ?_)); rintro _ ⟨u, rfl⟩; (try (rw [Fut.put_self u (by first | assumption | (simp [go_sem]; done) | (simp [go_sem]; omega))]))))
        go_roundw
        case rel => exact ⟨j + 1, by omega, by go_num, ⟨⟨_, (by repeat' (first | exact Below.refl _ _ | with_reducible assumption | omega | with_reducible refine below_put_fut ?_ ?_ _ | with_reducible refine below_to_put ?_ | with_reducible refine Below.alloc ?_ ?_ _ | with_reducible refine Below.fut ?_ ?_ _ | with_reducible refine Below.drew ?_ | with_reducible refine Below.setCell ?_ ?_ _ | with_reducible refine Below.atPut ?_ ?_ _ | (simp [go_sem]; done) | (simp [go_sem]; omega)))⟩, rfl⟩⟩
        case measure => simp [intOf]; omega
      · obtain rfl : j = at_ := by omega
        obtain ⟨hll, heq⟩ := H3.out x hx
        clear hx
        obtain ⟨s, t⟩ := x
        simp only at p1 p2 p3 hll heq
        have hl3 : Op.bytesLess s.toList k.toList = false := by rw [ByteArray.toList_eq, ByteArray.toList_eq]; exact hll
        have he : (s.toList == k.toList) = is := by
          rw [ByteArray.toList_eq, ByteArray.toList_eq, Bool.eq_iff_iff, heq]
          simp only [beq_iff_eq]
          exact ⟨fun h => ba_ext h, fun h => by rw [h]⟩
        clear hll heq hja
        go_wp2_with (first | (((with_reducible refine wp_region_fut_lit (by kernel_rfl) (by kernel_rfl) ?_)); (repeat (go_big_quiet_step ((first | fail)))); ((with_reducible refine wpQuiet_nil ?_)); rintro _ ⟨u, rfl⟩; (try (rw [Fut.put_self u (by first | assumption | (simp [go_sem]; done) | (simp [go_sem]; omega))]))))
        (try rw [Exit.noGoto_ret])
        refine bodyPost_ret (v := .tuple #[.int .i64 j, .bool is]) (by simp [results, Tryz.results72, go_sem]) rfl (.mk rfl (by repeat' (first | exact Below.refl _ _ | with_reducible assumption | omega | with_reducible refine below_put_fut ?_ ?_ _ | with_reducible refine below_to_put ?_ | with_reducible refine Below.alloc ?_ ?_ _ | with_reducible refine Below.fut ?_ ?_ _ | with_reducible refine Below.drew ?_ | with_reducible refine Below.setCell ?_ ?_ _ | with_reducible refine Below.atPut ?_ ?_ _ | (simp [go_sem]; done) | (simp [go_sem]; omega))))
    · obtain rfl : j = at_ := by omega
      obtain rfl : is = false := H4.out (by rw [HL.out]; omega)
      go_wp2_with (first | (((with_reducible refine wp_region_fut_lit (by kernel_rfl) (by kernel_rfl) ?_)); (repeat (go_big_quiet_step ((first | fail)))); ((with_reducible refine wpQuiet_nil ?_)); rintro _ ⟨u, rfl⟩; (try (rw [Fut.put_self u (by first | assumption | (simp [go_sem]; done) | (simp [go_sem]; omega))]))))
      (try rw [Exit.noGoto_ret])
      refine bodyPost_ret (v := .tuple #[.int .i64 j, .bool false]) (by simp [results, Tryz.results72, go_sem]) rfl (.mk rfl (by repeat' (first | exact Below.refl _ _ | with_reducible assumption | omega | with_reducible refine below_put_fut ?_ ?_ _ | with_reducible refine below_to_put ?_ | with_reducible refine Below.alloc ?_ ?_ _ | with_reducible refine Below.fut ?_ ?_ _ | with_reducible refine Below.drew ?_ | with_reducible refine Below.setCell ?_ ?_ _ | with_reducible refine Below.atPut ?_ ?_ _ | (simp [go_sem]; done) | (simp [go_sem]; omega))))
end Go.Proofs.YthknenhcnpgkcaaGreat

/- The document's own shelf: Put. -/
namespace Go.Proofs.YthknenhcnpgkcaaGreat
open Go.RowKit
set_option linter.unusedVariables false
set_option linter.unusedSimpArgs false
theorem refKey_is (w : World) (k : ByteArray) (b : Bool) (hb : decide (k.size < 1 ∨ 16 < k.size) = b) : Calls Tryz.prog 70 #[.string k] w (Makes (.int .i64 (if b then 3 else 0)) w) := by
  by_cases c : k.size < 1
  · obtain rfl : b = true := by rw [← hb]; simp [c]
    have d1 : decide ((k.size : Int) < 1) = true := by simp; omega
    clear hb c
    go_enter Tryz.func70, Tryz.ntmps70
    go_wp2_with (first | (((with_reducible refine wp_region_fut_lit (by kernel_rfl) (by kernel_rfl) ?_)); (repeat (go_big_quiet_step ((first | fail)))); ((with_reducible refine wpQuiet_nil ?_)); rintro _ ⟨u, rfl⟩; (try (rw [Fut.put_self u (by first | assumption | (simp [go_sem]; done) | (simp [go_sem]; omega))]))))
    go_ret; exact .mk (by first | rfl | (simp; done) | (simp; omega)) (by repeat' (first | exact Below.refl _ _ | with_reducible assumption | omega | with_reducible refine below_put_fut ?_ ?_ _ | with_reducible refine below_to_put ?_ | with_reducible refine Below.alloc ?_ ?_ _ | with_reducible refine Below.fut ?_ ?_ _ | with_reducible refine Below.drew ?_ | with_reducible refine Below.setCell ?_ ?_ _ | with_reducible refine Below.atPut ?_ ?_ _ | (simp [go_sem]; done) | (simp [go_sem]; omega)))
  have d1 : decide ((k.size : Int) < 1) = false := by simp; omega
  by_cases c2 : 16 < k.size
  · obtain rfl : b = true := by rw [← hb]; simp [c2]
    have d2 : decide ((16 : Int) < k.size) = true := by simp; omega
    clear hb c c2
    go_enter Tryz.func70, Tryz.ntmps70
    go_wp2_with (first | (((with_reducible refine wp_region_fut_lit (by kernel_rfl) (by kernel_rfl) ?_)); (repeat (go_big_quiet_step ((first | fail)))); ((with_reducible refine wpQuiet_nil ?_)); rintro _ ⟨u, rfl⟩; (try (rw [Fut.put_self u (by first | assumption | (simp [go_sem]; done) | (simp [go_sem]; omega))]))))
    go_ret; exact .mk (by first | rfl | (simp; done) | (simp; omega)) (by repeat' (first | exact Below.refl _ _ | with_reducible assumption | omega | with_reducible refine below_put_fut ?_ ?_ _ | with_reducible refine below_to_put ?_ | with_reducible refine Below.alloc ?_ ?_ _ | with_reducible refine Below.fut ?_ ?_ _ | with_reducible refine Below.drew ?_ | with_reducible refine Below.setCell ?_ ?_ _ | with_reducible refine Below.atPut ?_ ?_ _ | (simp [go_sem]; done) | (simp [go_sem]; omega)))
  obtain rfl : b = false := by rw [← hb]; exact decide_eq_false (by omega)
  have d2 : decide ((16 : Int) < k.size) = false := by simp; omega
  clear hb c c2
  go_enter Tryz.func70, Tryz.ntmps70
  go_wp2_with (first | (((with_reducible refine wp_region_fut_lit (by kernel_rfl) (by kernel_rfl) ?_)); (repeat (go_big_quiet_step ((first | fail)))); ((with_reducible refine wpQuiet_nil ?_)); rintro _ ⟨u, rfl⟩; (try (rw [Fut.put_self u (by first | assumption | (simp [go_sem]; done) | (simp [go_sem]; omega))]))))
  go_ret; exact .mk (by first | rfl | (simp; done) | (simp; omega)) (by repeat' (first | exact Below.refl _ _ | with_reducible assumption | omega | with_reducible refine below_put_fut ?_ ?_ _ | with_reducible refine below_to_put ?_ | with_reducible refine Below.alloc ?_ ?_ _ | with_reducible refine Below.fut ?_ ?_ _ | with_reducible refine Below.drew ?_ | with_reducible refine Below.setCell ?_ ?_ _ | with_reducible refine Below.atPut ?_ ?_ _ | (simp [go_sem]; done) | (simp [go_sem]; omega)))
theorem refValue_is (w : World) (k : ByteArray) (b : Bool) (hb : decide (16 < k.size) = b) : Calls Tryz.prog 71 #[.string k] w (Makes (.int .i64 (if b then 4 else 0)) w) := by
  by_cases c2 : 16 < k.size
  · obtain rfl : b = true := by rw [← hb]; simp [c2]
    have d2 : decide ((16 : Int) < k.size) = true := by simp; omega
    clear hb c2
    go_enter Tryz.func71, Tryz.ntmps71
    go_wp2_with (first | (((with_reducible refine wp_region_fut_lit (by kernel_rfl) (by kernel_rfl) ?_)); (repeat (go_big_quiet_step ((first | fail)))); ((with_reducible refine wpQuiet_nil ?_)); rintro _ ⟨u, rfl⟩; (try (rw [Fut.put_self u (by first | assumption | (simp [go_sem]; done) | (simp [go_sem]; omega))]))))
    go_ret; exact .mk (by first | rfl | (simp; done) | (simp; omega)) (by repeat' (first | exact Below.refl _ _ | with_reducible assumption | omega | with_reducible refine below_put_fut ?_ ?_ _ | with_reducible refine below_to_put ?_ | with_reducible refine Below.alloc ?_ ?_ _ | with_reducible refine Below.fut ?_ ?_ _ | with_reducible refine Below.drew ?_ | with_reducible refine Below.setCell ?_ ?_ _ | with_reducible refine Below.atPut ?_ ?_ _ | (simp [go_sem]; done) | (simp [go_sem]; omega)))
  obtain rfl : b = false := by rw [← hb]; exact decide_eq_false (by omega)
  have d2 : decide ((16 : Int) < k.size) = false := by simp; omega
  clear hb c2
  go_enter Tryz.func71, Tryz.ntmps71
  go_wp2_with (first | (((with_reducible refine wp_region_fut_lit (by kernel_rfl) (by kernel_rfl) ?_)); (repeat (go_big_quiet_step ((first | fail)))); ((with_reducible refine wpQuiet_nil ?_)); rintro _ ⟨u, rfl⟩; (try (rw [Fut.put_self u (by first | assumption | (simp [go_sem]; done) | (simp [go_sem]; omega))]))))
  go_ret; exact .mk (by first | rfl | (simp; done) | (simp; omega)) (by repeat' (first | exact Below.refl _ _ | with_reducible assumption | omega | with_reducible refine below_put_fut ?_ ?_ _ | with_reducible refine below_to_put ?_ | with_reducible refine Below.alloc ?_ ?_ _ | with_reducible refine Below.fut ?_ ?_ _ | with_reducible refine Below.drew ?_ | with_reducible refine Below.setCell ?_ ?_ _ | with_reducible refine Below.atPut ?_ ?_ _ | (simp [go_sem]; done) | (simp [go_sem]; omega)))
theorem putL_place {most : Int} {k v : ByteArray} {xs : List It} (hr : Rises xs) (hk : ¬ (k.size < 1 ∨ 16 < k.size)) (hv : ¬ 16 < v.size) {at_ : Nat} {is : Bool} (hp : placeOf k xs = (at_, is)) :
    (is = true → putL most k v xs = (0, xs.take at_ ++ (k, v) :: xs.drop (at_ + 1)) ∧ at_ < xs.length) ∧ (is = false → (most ≤ xs.length → putL most k v xs = (5, xs)) ∧ ((xs.length : Int) < most → putL most k v xs = (0, xs.take at_ ++ (k, v) :: xs.drop at_))) := by
  obtain ⟨A, B, rfl, hA, h1, h2⟩ := placeOf_split k xs hr
  rw [hp] at hA h2
  simp only at hA h2
  subst hA
  unfold putL
  rw [if_neg hk, if_neg hv]
  rcases h2 with ⟨e, w, R, rfl⟩ | ⟨e, h2⟩
  · subst e
    have hs : (valueOf k (A ++ (k, w) :: R)).isSome = true := by
      cases hq : valueOf k (A ++ (k, w) :: R) with
      | some _ => rfl
      | none => exact absurd rfl (valueOf_none_iff.1 hq (k, w) (by simp))
    refine ⟨fun _ => ⟨?_, by simp⟩, fun h => by cases h⟩
    rw [if_pos hs, ← Rep.eq ⟨A, w, R, rfl, rfl⟩ hr]
    simp
  · subst e
    have hn : valueOf k (A ++ B) = none := valueOf_none_iff.2 fun x hx e => by
      rcases List.mem_append.1 hx with hx | hx
      · exact lt_ne (h1 x hx) e
      · exact lt_ne (h2 x hx) e.symm
    refine ⟨fun h => (by cases h), fun _ => ⟨fun h => ?_, fun h => ?_⟩⟩
    · rw [hn, if_neg (by simp), if_pos h]
    · rw [hn, if_neg (by simp), if_neg (by omega), insL_split h1 h2]
      simp
theorem slice_from (ao : Option Addr) (n cap i : Nat) (h : i ≤ n) (h2 : n ≤ cap) (W : World) :
    (Instr.slice 22 (.slice ao n cap) (some (.int .i64 i)) none none).run Tryz.prog W = .ok (.slice (if cap = i then ao else ao.map (·.add (i * 2))) (n - i) (cap - i)) W := by
  have hs : (Tryz.prog.info? 59).map (·.size) = some 2 := by kernel_rfl
  cases hq : Tryz.prog.info? 59 with
  | none => simp [hq] at hs
  | some t =>
    have ht : t.size = 2 := by simpa [hq] using hs
    have h1 : (i : Int) ≤ n := by omega
    simp [Instr.slice, Instr.sliceBounds, Instr.sliceBound, asIntOf, run_underlying Tryz.underlying22, sizeOf, typeInfo, hq, ht, h1, h2, h]
theorem slice_to (ao : Option Addr) (n cap i : Nat) (h : i ≤ cap) (W : World) :
    (Instr.slice 22 (.slice ao n cap) none (some (.int .i64 i)) none).run Tryz.prog W = .ok (.slice ao i cap) W := by
  have hs : (Tryz.prog.info? 59).map (·.size) = some 2 := by kernel_rfl
  cases hq : Tryz.prog.info? 59 with
  | none => simp [hq] at hs
  | some t =>
    have ht : t.size = 2 := by simpa [hq] using hs
    have h1 : (i : Int) ≤ cap := by omega
    simp [Instr.slice, Instr.sliceBounds, Instr.sliceBound, asIntOf, run_underlying Tryz.underlying22, sizeOf, typeInfo, hq, ht, h1, h]
    cases ao <;> simp [Addr.add]
theorem slice_src {w : World} {ao : Option Addr} {its : List It} {n cap i j : Nat} (hl : its.length = n) (h : Src w 2 (.slice ao n cap) n (flat its)) (hc : n ≤ cap) (hij : i + j ≤ n) : Src w 2 (.slice (if cap = i then ao else ao.map (·.add (i * 2))) j (cap - i)) j (flat ((its.drop i).take j)) := by
  subst hl
  refine ⟨by rw [flat_length, List.length_take, List.length_drop, Nat.min_eq_left (by omega)], flat_one _, ?_⟩
  rcases h.2.2 with ⟨hv, h0⟩ | ⟨a, c, hv, hcell⟩
  · injection hv with h1 h2 h3
    subst h1 h3
    have : i = 0 := by omega
    subst this
    have : j = 0 := by omega
    subst this
    exact .inl ⟨by simp, rfl⟩
  · injection hv with h1 h2 h3
    subst h1
    by_cases e : cap = i
    · rw [if_pos e]
      refine .inr ⟨a, _, rfl, fun k u hu => ?_⟩
      have := (List.getElem?_eq_some_iff.1 hu).1
      rw [flat_length, List.length_take] at this
      omega
    · rw [if_neg e]
      refine .inr ⟨a.add (i * 2), _, rfl, fun k u hu => ?_⟩
      have hk := (List.getElem?_eq_some_iff.1 hu).1
      rw [flat_length, List.length_take] at hk
      have hs : a.spot = none := by
        have := World.cell?_spot (hcell 0 _ (List.getElem?_eq_getElem (by rw [flat_length]; omega)))
        simpa [Addr.add] using this
      obtain ⟨b, o, s⟩ := a
      simp only at hs
      subst hs
      rw [← flat_take, ← flat_drop, List.getElem?_take] at hu
      split at hu
      · rw [List.getElem?_drop] at hu
        have := hcell _ u hu
        rw [Addr.add_lit] at this ⊢
        rw [Addr.add_lit]
        rw [show o + i * 2 + k = o + (i * 2 + k) from by omega]; exact this
      · cases hu
theorem slice_pre {w : World} {ao : Option Addr} {its : List It} {n cap m : Nat} (h : Src w 2 (.slice ao n cap) n (flat its)) (hm : m ≤ n) (hl : its.length = n) : Src w 2 (.slice ao m cap) m (flat (its.take m)) := by
  refine ⟨by rw [flat_length, List.length_take, Nat.min_eq_left (by omega)], flat_one _, ?_⟩
  rcases h.2.2 with ⟨hv, h0⟩ | ⟨a, c, hv, hcell⟩
  · injection hv with h1 h2 h3
    subst h1 h3
    have : m = 0 := by omega
    subst this
    exact .inl ⟨rfl, rfl⟩
  · injection hv with h1 h2 h3
    subst h1 h3
    refine .inr ⟨a, _, rfl, fun k u hu => ?_⟩
    rw [← flat_take, List.getElem?_take] at hu
    split at hu
    · exact hcell k u hu
    · cases hu
end Go.Proofs.YthknenhcnpgkcaaGreat

/- The document's own shelf: Put, walked. -/
namespace Go.Proofs.YthknenhcnpgkcaaGreat
open Go.RowKit
set_option linter.unusedVariables false
set_option linter.unusedSimpArgs false
/-- What Put leaves: block g is the document's shelf that holds xs, in a row of its own or in the old one. -/
def RefP (most : Int) (g : Nat) (v : Value) (W : World) (xs : List It) (W' : World) : Prop :=
  ∃ v', W'.heap[g]? = some (refObj most v') ∧ Row W' 59 2 v' xs.length (flat xs) ∧ Chg (fun k => k = g) W W' ∧ ∀ k, k < W.heap.size → blk v' k ≤ blk v k
theorem RefP.same {most : Int} {g : Nat} {v : Value} {W W' : World} {xs : List It} (hg : W.heap[g]? = some (refObj most v)) (hv : Row W 59 2 v xs.length (flat xs)) (hb : Below W.heap.size W W') : RefP most g v W xs W' :=
  ⟨v, (hb.block g (lt_of_heap hg)).trans hg, hv.keep fun k hk => hb.block k (hv.lt hk), Chg.of_below hb, fun _ _ => Nat.le_refl _⟩
theorem append_to {W W2 : World} {v : Value} {n : Nat} {ys : List It} (h : Row W 59 2 v n (flat ys)) (hb : Below W.heap.size W W2) {sv : Value} {m : Nat} {zs : List It} (hs : Src W2 2 sv m (flat zs)) (hn : n + m ≤ 2000) :
    ∃ v' W', (Builtin.append_ #[22, 22] 22 #[v, sv]).run Tryz.prog W2 = .ok v' W' ∧ (∃ ao c, v' = .slice ao (n + m) c) ∧ Row W' 59 2 v' (n + m) (flat (ys ++ zs)) ∧ Chg (fun k => blk v k ≠ 0) W W' ∧ ∀ k, k < W.heap.size → blk v' k ≤ blk v k := by
  obtain ⟨i0, hi0, hz0, hz1, hz2⟩ := info_parts item_info
  obtain ⟨v', W', hrun, hrow, hch, hle⟩ := append_row (P := Tryz.prog) W2 22 22 59 i0 _ 2 32 Tryz.underlying22 hi0 hz0 hz1 hz2 rfl (by omega) v n _ (owns_below h hb) sv m _ hs (by unfold maxLen; omega) (by omega)
  obtain ⟨ao, c, rfl⟩ := owns_slice hrow
  refine ⟨_, W', hrun, ⟨ao, c, rfl⟩, ?_, (Chg.of_below (S := fun k => blk v k ≠ 0) hb).trans hch (fun _ _ h => h), fun k hk => hle k (Nat.lt_of_lt_of_le hk hb.size)⟩
  rw [flat_append]
  exact hrow
set_option maxRecDepth 100000 in
set_option maxHeartbeats 4000000 in
theorem refPut_is (W : World) (g : Nat) (most : Int) (v : Value) (xs : List It) (n : Nat) (hl : xs.length = n) (hn : n ≤ 1000) (hg : W.heap[g]? = some (refObj most v)) (hv : Row W 59 2 v n (flat xs)) (hgv : blk v g = 0) (hr : Rises xs) (k val : ByteArray) (r : Int) (xs' : List It) (he : putL most k val xs = (r, xs')) :
    Calls Tryz.prog 23 #[.pointer (some ⟨g, 0, none⟩), .string k, .string val] W fun e W' => e = .returned (.int .i64 r) ∧ RefP most g v W xs' W' := by
  have hfin := hid (fun (W' : World) (hb : Below W.heap.size W W') => RefP.same (most := most) hg (by rw [hl]; exact hv) hb)
  obtain ⟨bk, hbk⟩ : ∃ bk, decide (k.size < 1 ∨ 16 < k.size) = bk := ⟨_, rfl⟩
  obtain ⟨bv, hbv⟩ : ∃ bv, decide (16 < val.size) = bv := ⟨_, rfl⟩
  cases bk with
  | true =>
    have hk := of_decide_eq_true hbk
    unfold putL at he
    rw [if_pos hk] at he
    obtain ⟨rfl, rfl⟩ := Prod.mk.inj he
    clear he hg hv hgv hr hk
    go_enter Tryz.func23, Tryz.ntmps23
    go_wp2_with (first | (go_at_call 70; ((with_reducible refine (refKey_is _ k true hbk).mono ?_)); rintro _ _ ⟨rfl, u, rfl⟩; (try (rw [Fut.put_self u (by first | assumption | (simp [go_sem]; done) | (simp [go_sem]; omega))]))) | (((with_reducible refine wp_region_fut_lit (by kernel_rfl) (by kernel_rfl) ?_)); (repeat (go_big_quiet_step ((first | (go_at_call 70; with_reducible exact Calls.fut_of (refKey_is _ k true hbk)))))); ((with_reducible refine wpQuiet_nil ?_)); rintro _ ⟨u, rfl⟩; (try (rw [Fut.put_self u (by first | assumption | (simp [go_sem]; done) | (simp [go_sem]; omega))]))))
    go_ret
    exact ⟨rfl, hfin.out _ u.below⟩
  | false =>
    have hk := of_decide_eq_false hbk
    cases bv with
    | true =>
      have hw := of_decide_eq_true hbv
      unfold putL at he
      rw [if_neg hk, if_pos hw] at he
      obtain ⟨rfl, rfl⟩ := Prod.mk.inj he
      clear he hg hv hgv hr hk hw
      go_enter Tryz.func23, Tryz.ntmps23
      go_wp2_with (first | (go_at_call 70; ((with_reducible refine (refKey_is _ k false hbk).mono ?_)); rintro _ _ ⟨rfl, u, rfl⟩; (try (rw [Fut.put_self u (by first | assumption | (simp [go_sem]; done) | (simp [go_sem]; omega))]))) | (go_at_call 71; ((with_reducible refine (refValue_is _ val true hbv).mono ?_)); rintro _ _ ⟨rfl, u, rfl⟩; (try (rw [Fut.put_self u (by first | assumption | (simp [go_sem]; done) | (simp [go_sem]; omega))]))) | (((with_reducible refine wp_region_fut_lit (by kernel_rfl) (by kernel_rfl) ?_)); (repeat (go_big_quiet_step ((first | (go_at_call 70; with_reducible exact Calls.fut_of (refKey_is _ k false hbk)) | (go_at_call 71; with_reducible exact Calls.fut_of (refValue_is _ val true hbv)))))); ((with_reducible refine wpQuiet_nil ?_)); rintro _ ⟨u, rfl⟩; (try (rw [Fut.put_self u (by first | assumption | (simp [go_sem]; done) | (simp [go_sem]; omega))]))))
      go_ret
      exact ⟨rfl, hfin.out _ (by repeat' (first | exact Below.refl _ _ | with_reducible assumption | omega | with_reducible refine below_put_fut ?_ ?_ _ | with_reducible refine below_to_put ?_ | with_reducible refine Below.alloc ?_ ?_ _ | with_reducible refine Below.fut ?_ ?_ _ | with_reducible refine Below.drew ?_ | with_reducible refine Below.setCell ?_ ?_ _ | with_reducible refine Below.atPut ?_ ?_ _ | (simp [go_sem]; done) | (simp [go_sem]; omega)))⟩
    | false =>
      have hw := of_decide_eq_false hbv
      obtain ⟨at_, is, hp⟩ : ∃ a b, placeOf k xs = (a, b) := ⟨_, _, rfl⟩
      obtain ⟨q1, q2⟩ := putL_place (most := most) (v := val) hr hk hw hp
      have hat : at_ ≤ n := by have := placeOf_le k xs; rw [hp, hl] at this; exact this
      have hgl := lt_of_heap hg
      have hA := hid (fun (X : World) (hb : Below W.heap.size W X) => refAt_is X g most v xs n hl hn ((hb.block g hgl).trans hg) ((hv.src (flat_one _)).heap hb) hr k at_ is hp)
      have HS := hid (fun (X : World) (hb : Below W.heap.size W X) => (hv.src (flat_one _)).heap hb)
      have HG := hid (fun (X : World) (hb : Below W.heap.size W X) => (hb.block g hgl).trans hg)
      have HV := hid hv
      have HGV := hid hgv
      have HE := hid he
      have HL := hid hl
      obtain ⟨ao, cap, rfl⟩ := owns_slice hv
      have hnc : n ≤ cap := by
        rcases hv.2 with ⟨h, h0⟩ | ⟨g', c, cur, hv', _, _, hnc, _⟩
        · omega
        · injection hv' with _ _ h3; omega
      clear he hg hv hgv hr hk hw hp hl
      go_enter Tryz.func23, Tryz.ntmps23
      go_wp2_with (first | (go_at_call 70; ((with_reducible refine (refKey_is _ k false hbk).mono ?_)); rintro _ _ ⟨rfl, u, rfl⟩; (try (rw [Fut.put_self u (by first | assumption | (simp [go_sem]; done) | (simp [go_sem]; omega))]))) | (go_at_call 71; ((with_reducible refine (refValue_is _ val false hbv).mono ?_)); rintro _ _ ⟨rfl, u, rfl⟩; (try (rw [Fut.put_self u (by first | assumption | (simp [go_sem]; done) | (simp [go_sem]; omega))]))) | (((with_reducible refine wp_region_fut_lit (by kernel_rfl) (by kernel_rfl) ?_)); (repeat (go_big_quiet_step ((first | (go_at_call 70; with_reducible exact Calls.fut_of (refKey_is _ k false hbk)) | (go_at_call 71; with_reducible exact Calls.fut_of (refValue_is _ val false hbv)))))); ((with_reducible refine wpQuiet_nil ?_)); rintro _ ⟨u, rfl⟩; (try (rw [Fut.put_self u (by first | assumption | (simp [go_sem]; done) | (simp [go_sem]; omega))]))))
      (((with_reducible refine (hA.out _ (by repeat' (first | exact Below.refl _ _ | with_reducible assumption | omega | with_reducible refine below_put_fut ?_ ?_ _ | with_reducible refine below_to_put ?_ | with_reducible refine Below.alloc ?_ ?_ _ | with_reducible refine Below.fut ?_ ?_ _ | with_reducible refine Below.drew ?_ | with_reducible refine Below.setCell ?_ ?_ _ | with_reducible refine Below.atPut ?_ ?_ _ | (simp [go_sem]; done) | (simp [go_sem]; omega)))).mono ?_)); rintro _ _ ⟨rfl, u3, rfl⟩)
      have hbX : Below W.heap.size W u3.val := (by repeat' (first | exact Below.refl _ _ | with_reducible assumption | omega | with_reducible refine below_put_fut ?_ ?_ _ | with_reducible refine below_to_put ?_ | with_reducible refine Below.alloc ?_ ?_ _ | with_reducible refine Below.fut ?_ ?_ _ | with_reducible refine Below.drew ?_ | with_reducible refine Below.setCell ?_ ?_ _ | with_reducible refine Below.atPut ?_ ?_ _ | (simp [go_sem]; done) | (simp [go_sem]; omega)))
      generalize u3.val = X at hbX ⊢
      have hgX := HG.out X hbX
      have hgl2 := lt_of_heap hgX
      have hc := fun i => cell_of_row X g i _ _ (0, 0) hgX
      have HGX := hid hgX
      have SX := hid (HS.out X hbX)
      have HBX := hid hbX
      obtain ⟨A1, hA1⟩ : ∃ A, A = (if cap = at_ then ao else ao.map (·.add (at_ * 2))) := ⟨_, rfl⟩
      obtain ⟨A2, hA2⟩ : ∃ A, A = (if cap = at_ + 1 then ao else ao.map (·.add ((at_ + 1) * 2))) := ⟨_, rfl⟩
      have s1 : ∀ W, (Instr.slice 22 (.slice ao n cap) (some (.int .i64 (at_ : Int))) none none).run Tryz.prog W = .ok (.slice A1 (n - at_) (cap - at_)) W := fun W => by rw [hA1]; exact slice_from ao n cap at_ hat hnc W
      have s3 := fun W => slice_to ao n cap at_ (by omega) W
      clear hgX hbk hbv hA HG hbX
      cases is with
      | true =>
        obtain ⟨hq, hlt⟩ := q1 rfl
        rw [HL.out] at hlt
        rw [hq] at HE
        obtain ⟨rfl, rfl⟩ := Prod.mk.inj HE.out
        have e1 : IntKind.i64.wrap ((at_ : Int) + 1) = (at_ : Int) + 1 := IntWalk.i64_in _ (by omega)
        have s2 : ∀ W, (Instr.slice 22 (.slice ao n cap) (some (.int .i64 ((at_ : Int) + 1))) none none).run Tryz.prog W = .ok (.slice A2 (n - (at_ + 1)) (cap - (at_ + 1))) W := fun W => by
          rw [hA2, show (at_ : Int) + 1 = ((at_ + 1 : Nat) : Int) by omega]; exact slice_from ao n cap (at_ + 1) (by omega) hnc W
        have HA2 := hid hA2
        clear q1 q2 hq HE hA1 hA2
        have SP := hid (slice_pre SX.out hat HL.out)
        have SR0 := hid (show Src X 2 (.slice A2 (n - (at_ + 1)) (cap - (at_ + 1))) (n - (at_ + 1)) (flat (xs.drop (at_ + 1))) from by
          have h := slice_src (i := at_ + 1) (j := n - (at_ + 1)) HL.out SX.out hnc (by omega)
          rw [List.take_of_length_le (by rw [List.length_drop, HL.out]; exact Nat.le_refl _), ← HA2.out] at h
          exact h)
        go_upto_region 13 with fail
        refine wp_region_lit ?_
        refine Go.Great.wpList_runTo rfl (some 52) rfl (.pointer (some ⟨g, 0, none⟩)) X (by simp [execOp, Act.eval, Act.put, go_sem, *]) ?_
        simp only [Act.put, List.setIfInBounds_toArray, List.set_cons_succ, List.set_cons_zero]
        refine Go.Great.wpList_runTo rfl (some 53) rfl (.pointer (some ⟨g, 0, none⟩)) X (by simp [execOp, Act.eval, Act.put, go_sem, *]) ?_
        simp only [Act.put, List.setIfInBounds_toArray, List.set_cons_succ, List.set_cons_zero]
        refine Go.Great.wpList_runTo rfl (some 54) rfl (.pointer (some ⟨g, 0, none⟩)) X (by simp [execOp, Act.eval, Act.put, go_sem, *]) ?_
        simp only [Act.put, List.setIfInBounds_toArray, List.set_cons_succ, List.set_cons_zero]
        refine Go.Great.wpList_runTo rfl (some 55) rfl (.pointer (some ⟨g, 1, none⟩)) X (by simp [execOp, Act.eval, Act.put, go_sem, *]) ?_
        simp only [Act.put, List.setIfInBounds_toArray, List.set_cons_succ, List.set_cons_zero]
        refine Go.Great.wpList_runTo rfl (some 56) rfl (.slice ao n cap) X (by simp [execOp, Act.eval, Act.put, go_sem, *]) ?_
        simp only [Act.put, List.setIfInBounds_toArray, List.set_cons_succ, List.set_cons_zero]
        refine Go.Great.wpList_runTo rfl (some 57) rfl (.int .i64 at_) X (by simp [execOp, Act.eval, Act.put, go_sem, *]) ?_
        simp only [Act.put, List.setIfInBounds_toArray, List.set_cons_succ, List.set_cons_zero]
        refine Go.Great.wpList_runTo rfl (some 58) rfl (.slice ao at_ cap) X (by simp [execOp, Act.eval, Act.put, go_sem, *]) ?_
        simp only [Act.put, List.setIfInBounds_toArray, List.set_cons_succ, List.set_cons_zero]
        refine wpList_append_ex (by rfl) _ _ _ (by rfl) _ _ (by rfl) (by rfl) (append_to (W := X) (W2 := X) (ys := []) (World.ownsRow_nil _ _ _ _) (Below.refl _ _) (zs := xs.take at_) SP.out (by omega)) ?_
        rintro v1 W1 ⟨⟨ao1, c1, rfl⟩, h1, ch1, b1⟩
        have hB1 : Below X.heap.size X W1 := ch1.below (Nat.le_refl _) (fun k hk => absurd (blk_nil 0 0 k) hk)
        have z1 := hB1.size
        have H1 := hid h1
        have HB1 := hid hB1
        have B1 := hid (show ∀ k, k < X.heap.size → blk (.slice ao1 (0 + at_) c1) k = 0 from fun k hk => by have := b1 k hk; rw [blk_nil] at this; omega)
        clear h1 ch1 b1 hB1
        simp only [Act.put, List.setIfInBounds_toArray, List.set_cons_succ, List.set_cons_zero]
        refine Go.Great.wpList_runTo rfl (some 60) rfl (.string k) W1 (by simp [execOp, Act.eval, Act.put, go_sem, *]) ?_
        simp only [Act.put, List.setIfInBounds_toArray, List.set_cons_succ, List.set_cons_zero]
        refine Go.Great.wpList_runTo rfl (some 61) rfl (.string val) W1 (by simp [execOp, Act.eval, Act.put, go_sem, *]) ?_
        simp only [Act.put, List.setIfInBounds_toArray, List.set_cons_succ, List.set_cons_zero]
        refine Go.Great.wpList_runTo rfl (some 62) rfl (.agg #[.string k, .string val]) W1 (by simp [execOp, Act.eval, Act.put, go_sem, *]) ?_
        simp only [Act.put, List.setIfInBounds_toArray, List.set_cons_succ, List.set_cons_zero]
        refine Go.Great.wpList_runTo rfl (some 63) rfl (.slice (some ⟨W1.heap.size, 0, none⟩) 1 1) (W1.alloc (.cells #[.string k, .string val] 59)) (by simp [execOp, Act.eval, Act.put, go_sem, *]) ?_
        simp only [Act.put, List.setIfInBounds_toArray, List.set_cons_succ, List.set_cons_zero]
        refine wpList_append_ex (by rfl) _ _ _ (by rfl) _ _ (by rfl) (by rfl) (append_one (W := W1) (x := (k, val)) H1.out ((Below.refl _ _).alloc (Nat.le_refl _) _) (by omega) (heap_alloc_at _ _ _ rfl)) ?_
        rintro v2 W2 ⟨⟨ao2, c2, rfl⟩, h2, ch2, b2⟩
        have hB2 : Below X.heap.size X W2 := HB1.out.trans (ch2.below z1 (fun k hk => Nat.le_of_not_lt fun h => hk (B1.out k h)))
        have z2 := hB2.size
        have H2 := hid h2
        have HB2 := hid hB2
        have B2 := hid (show ∀ k, k < X.heap.size → blk (.slice ao2 (0 + at_ + 1) c2) k = 0 from fun k hk => by have := b2 k (by omega); have := B1.out k hk; omega)
        have SR := hid (SR0.out.heap hB2)
        clear h2 ch2 b2 hB2
        simp only [Act.put, List.setIfInBounds_toArray, List.set_cons_succ, List.set_cons_zero]
        refine Go.Great.wpList_runTo rfl (some 65) rfl (.slice A2 (n - (at_ + 1)) (cap - (at_ + 1))) W2 (by simp [execOp, Act.eval, Act.put, go_sem, *]) ?_
        simp only [Act.put, List.setIfInBounds_toArray, List.set_cons_succ, List.set_cons_zero]
        refine wpList_append_ex (by rfl) _ _ _ (by rfl) _ _ (by rfl) (by rfl) (append_to (W := W2) (W2 := W2) H2.out (Below.refl _ _) (zs := xs.drop (at_ + 1)) SR.out (by omega)) ?_
        rintro v3 W3 ⟨⟨ao3, c3, rfl⟩, h3, ch3, b3⟩
        simp only [Act.put, List.setIfInBounds_toArray, List.set_cons_succ, List.set_cons_zero]
        have hB3 : Below X.heap.size X W3 := HB2.out.trans (ch3.below z2 (fun k hk => Nat.le_of_not_lt fun h => hk (B2.out k h)))
        have z3 := hB3.size
        have B3 := hid (show ∀ k, k < X.heap.size → blk (.slice ao3 (0 + at_ + 1 + (n - (at_ + 1))) c3) k = 0 from fun k hk => by have := b3 k (by omega); have := B2.out k hk; omega)
        have hg3 : W3.heap[g]? = some (refObj most (.slice ao n cap)) := (hB3.block g hgl2).trans HGX.out
        have H3 := hid h3
        have HB3 := hid hB3
        have hl3 := lt_of_heap hg3
        clear h3 ch3 b3 hB3 hc
        rw [← put_self hg3]
        clear hg3
        go_wp2
        go_ret
        have hXW := HBX.out.size
        have b3 := B3.out
        have h3 := H3.out
        simp only [Nat.zero_add, List.nil_append] at b3 h3
        have hlen : (xs.take at_ ++ (k, val) :: xs.drop (at_ + 1)).length = at_ + 1 + (n - (at_ + 1)) := by simp [HL.out]; omega
        refine ⟨rfl, _, heap_put_at _ _ _ hl3, ?_, (Chg.of_below (S := fun k => k = g) (HBX.out.trans (HB3.out.mono hXW))).put (fun _ => rfl) _, fun k hk => by rw [b3 k (by omega)]; omega⟩
        rw [hlen]
        refine Row.keep (by simpa using h3) fun k hk => ?_
        rw [heap_put_other]
        rintro rfl
        exact hk (b3 _ hgl2)
      | false =>
        clear q1
        have q3 := q2 rfl
        clear q2
        rw [HL.out] at q3
        by_cases hfull : most ≤ n
        · have hq := q3.1 hfull
          rw [hq] at HE
          obtain ⟨rfl, rfl⟩ := Prod.mk.inj HE.out
          have df : decide (most ≤ (n : Int)) = true := decide_eq_true hfull
          clear q3 hq HE hA1 hA2 SX hfull
          have hbX := HBX.out
          have hzX := hbX.size
          go_wp2_with (first | (((with_reducible refine wp_region_fut_lit (by kernel_rfl) (by kernel_rfl) ?_)); (repeat (go_big_quiet_step ((first | fail)))); ((with_reducible refine wpQuiet_nil ?_)); rintro _ ⟨u, rfl⟩; (try (rw [Fut.put_self u (by first | assumption | (simp [go_sem]; done) | (simp [go_sem]; omega))]))))
          go_ret
          exact ⟨rfl, hfin.out _ (by repeat' (first | exact Below.refl _ _ | with_reducible assumption | omega | with_reducible refine below_put_fut ?_ ?_ _ | with_reducible refine below_to_put ?_ | with_reducible refine Below.alloc ?_ ?_ _ | with_reducible refine Below.fut ?_ ?_ _ | with_reducible refine Below.drew ?_ | with_reducible refine Below.setCell ?_ ?_ _ | with_reducible refine Below.atPut ?_ ?_ _ | (simp [go_sem]; done) | (simp [go_sem]; omega)))⟩
        · have hq := q3.2 (by omega)
          rw [hq] at HE
          obtain ⟨rfl, rfl⟩ := Prod.mk.inj HE.out
          have HA1 := hid hA1
          have df : decide (most ≤ (n : Int)) = false := decide_eq_false hfull
          clear q3 hq HE hA1 hA2 hfull
          go_upto_region 11 with fail
          refine wp_region_fut_lit (by kernel_rfl) (by kernel_rfl) ?_
          repeat (go_big_quiet_step (fail))
          refine wpQuiet_nil ?_
          rintro _ ⟨u5, rfl⟩
          have hb5 : Below W.heap.size W u5.val := HBX.out.trans (u5.below.mono HBX.out.size)
          have HGX := hid ((u5.below.block g hgl2).trans HGX.out)
          have SX := hid (HS.out _ hb5)
          have HBX := hid hb5
          have hgl2 := lt_of_heap HGX.out
          have hc := fun i => cell_of_row u5.val g i _ _ (0, 0) HGX.out
          clear hb5
          generalize u5.val = X5 at HGX SX HBX hgl2 hc ⊢
          have SP := hid (slice_pre SX.out hat HL.out)
          have SR0 := hid (show Src X5 2 (.slice A1 (n - (at_)) (cap - (at_))) (n - (at_)) (flat (xs.drop (at_))) from by
            have h := slice_src (i := at_) (j := n - (at_)) HL.out SX.out hnc (by omega)
            rw [List.take_of_length_le (by rw [List.length_drop, HL.out]; exact Nat.le_refl _), ← HA1.out] at h
            exact h)
          go_upto_region 13 with fail
          refine wp_region_lit ?_
          refine Go.Great.wpList_runTo rfl (some 52) rfl (.pointer (some ⟨g, 0, none⟩)) X5 (by simp [execOp, Act.eval, Act.put, go_sem, *]) ?_
          simp only [Act.put, List.setIfInBounds_toArray, List.set_cons_succ, List.set_cons_zero]
          refine Go.Great.wpList_runTo rfl (some 53) rfl (.pointer (some ⟨g, 0, none⟩)) X5 (by simp [execOp, Act.eval, Act.put, go_sem, *]) ?_
          simp only [Act.put, List.setIfInBounds_toArray, List.set_cons_succ, List.set_cons_zero]
          refine Go.Great.wpList_runTo rfl (some 54) rfl (.pointer (some ⟨g, 0, none⟩)) X5 (by simp [execOp, Act.eval, Act.put, go_sem, *]) ?_
          simp only [Act.put, List.setIfInBounds_toArray, List.set_cons_succ, List.set_cons_zero]
          refine Go.Great.wpList_runTo rfl (some 55) rfl (.pointer (some ⟨g, 1, none⟩)) X5 (by simp [execOp, Act.eval, Act.put, go_sem, *]) ?_
          simp only [Act.put, List.setIfInBounds_toArray, List.set_cons_succ, List.set_cons_zero]
          refine Go.Great.wpList_runTo rfl (some 56) rfl (.slice ao n cap) X5 (by simp [execOp, Act.eval, Act.put, go_sem, *]) ?_
          simp only [Act.put, List.setIfInBounds_toArray, List.set_cons_succ, List.set_cons_zero]
          refine Go.Great.wpList_runTo rfl (some 57) rfl (.int .i64 at_) X5 (by simp [execOp, Act.eval, Act.put, go_sem, *]) ?_
          simp only [Act.put, List.setIfInBounds_toArray, List.set_cons_succ, List.set_cons_zero]
          refine Go.Great.wpList_runTo rfl (some 58) rfl (.slice ao at_ cap) X5 (by simp [execOp, Act.eval, Act.put, go_sem, *]) ?_
          simp only [Act.put, List.setIfInBounds_toArray, List.set_cons_succ, List.set_cons_zero]
          refine wpList_append_ex (by rfl) _ _ _ (by rfl) _ _ (by rfl) (by rfl) (append_to (W := X5) (W2 := X5) (ys := []) (World.ownsRow_nil _ _ _ _) (Below.refl _ _) (zs := xs.take at_) SP.out (by omega)) ?_
          rintro v1 W1 ⟨⟨ao1, c1, rfl⟩, h1, ch1, b1⟩
          have hB1 : Below X5.heap.size X5 W1 := ch1.below (Nat.le_refl _) (fun k hk => absurd (blk_nil 0 0 k) hk)
          have z1 := hB1.size
          have H1 := hid h1
          have HB1 := hid hB1
          have B1 := hid (show ∀ k, k < X5.heap.size → blk (.slice ao1 (0 + at_) c1) k = 0 from fun k hk => by have := b1 k hk; rw [blk_nil] at this; omega)
          clear h1 ch1 b1 hB1
          simp only [Act.put, List.setIfInBounds_toArray, List.set_cons_succ, List.set_cons_zero]
          refine Go.Great.wpList_runTo rfl (some 60) rfl (.string k) W1 (by simp [execOp, Act.eval, Act.put, go_sem, *]) ?_
          simp only [Act.put, List.setIfInBounds_toArray, List.set_cons_succ, List.set_cons_zero]
          refine Go.Great.wpList_runTo rfl (some 61) rfl (.string val) W1 (by simp [execOp, Act.eval, Act.put, go_sem, *]) ?_
          simp only [Act.put, List.setIfInBounds_toArray, List.set_cons_succ, List.set_cons_zero]
          refine Go.Great.wpList_runTo rfl (some 62) rfl (.agg #[.string k, .string val]) W1 (by simp [execOp, Act.eval, Act.put, go_sem, *]) ?_
          simp only [Act.put, List.setIfInBounds_toArray, List.set_cons_succ, List.set_cons_zero]
          refine Go.Great.wpList_runTo rfl (some 63) rfl (.slice (some ⟨W1.heap.size, 0, none⟩) 1 1) (W1.alloc (.cells #[.string k, .string val] 59)) (by simp [execOp, Act.eval, Act.put, go_sem, *]) ?_
          simp only [Act.put, List.setIfInBounds_toArray, List.set_cons_succ, List.set_cons_zero]
          refine wpList_append_ex (by rfl) _ _ _ (by rfl) _ _ (by rfl) (by rfl) (append_one (W := W1) (x := (k, val)) H1.out ((Below.refl _ _).alloc (Nat.le_refl _) _) (by omega) (heap_alloc_at _ _ _ rfl)) ?_
          rintro v2 W2 ⟨⟨ao2, c2, rfl⟩, h2, ch2, b2⟩
          have hB2 : Below X5.heap.size X5 W2 := HB1.out.trans (ch2.below z1 (fun k hk => Nat.le_of_not_lt fun h => hk (B1.out k h)))
          have z2 := hB2.size
          have H2 := hid h2
          have HB2 := hid hB2
          have B2 := hid (show ∀ k, k < X5.heap.size → blk (.slice ao2 (0 + at_ + 1) c2) k = 0 from fun k hk => by have := b2 k (by omega); have := B1.out k hk; omega)
          have SR := hid (SR0.out.heap hB2)
          clear h2 ch2 b2 hB2
          simp only [Act.put, List.setIfInBounds_toArray, List.set_cons_succ, List.set_cons_zero]
          refine Go.Great.wpList_runTo rfl (some 65) rfl (.slice A1 (n - (at_)) (cap - (at_))) W2 (by simp [execOp, Act.eval, Act.put, go_sem, *]) ?_
          simp only [Act.put, List.setIfInBounds_toArray, List.set_cons_succ, List.set_cons_zero]
          refine wpList_append_ex (by rfl) _ _ _ (by rfl) _ _ (by rfl) (by rfl) (append_to (W := W2) (W2 := W2) H2.out (Below.refl _ _) (zs := xs.drop (at_)) SR.out (by omega)) ?_
          rintro v3 W3 ⟨⟨ao3, c3, rfl⟩, h3, ch3, b3⟩
          simp only [Act.put, List.setIfInBounds_toArray, List.set_cons_succ, List.set_cons_zero]
          have hB3 : Below X5.heap.size X5 W3 := HB2.out.trans (ch3.below z2 (fun k hk => Nat.le_of_not_lt fun h => hk (B2.out k h)))
          have z3 := hB3.size
          have B3 := hid (show ∀ k, k < X5.heap.size → blk (.slice ao3 (0 + at_ + 1 + (n - (at_))) c3) k = 0 from fun k hk => by have := b3 k (by omega); have := B2.out k hk; omega)
          have hg3 : W3.heap[g]? = some (refObj most (.slice ao n cap)) := (hB3.block g hgl2).trans HGX.out
          have H3 := hid h3
          have HB3 := hid hB3
          have hl3 := lt_of_heap hg3
          clear h3 ch3 b3 hB3 hc
          rw [← put_self hg3]
          clear hg3
          go_wp2
          go_ret
          have hXW := HBX.out.size
          have b3 := B3.out
          have h3 := H3.out
          simp only [Nat.zero_add, List.nil_append] at b3 h3
          have hlen : (xs.take at_ ++ (k, val) :: xs.drop (at_)).length = at_ + 1 + (n - (at_)) := by simp [HL.out]; omega
          refine ⟨rfl, _, heap_put_at _ _ _ hl3, ?_, (Chg.of_below (S := fun k => k = g) (HBX.out.trans (HB3.out.mono hXW))).put (fun _ => rfl) _, fun k hk => by rw [b3 k (by omega)]; omega⟩
          rw [hlen]
          refine Row.keep (by simpa using h3) fun k hk => ?_
          rw [heap_put_other]
          rintro rfl
          exact hk (b3 _ hgl2)
end Go.Proofs.YthknenhcnpgkcaaGreat

/- A shelf and the document's own one, side by side; rosarylaw5.Filled. -/
namespace Go.Proofs.YthknenhcnpgkcaaGreat
open Go.RowKit
set_option linter.unusedVariables false
set_option linter.unusedSimpArgs false
/-- Block gs is a shelf that holds xs, block gr the document's that holds ys; they share nothing; all that has changed since w0 lies behind B. -/
def Both (B : Nat) (w0 : World) (xs ys : List It) (gs gr : Nat) (W : World) : Prop :=
  Below B w0 W ∧ B ≤ W.heap.size ∧ Rises ys ∧ ∃ c top v, Shf 200 xs W gs c top ∧ W.heap[gr]? = some (refObj 200 v) ∧ Row W 59 2 v ys.length (flat ys) ∧ (∀ k, c k + one gr k + blk v k ≤ 1) ∧ ∀ k, c k + one gr k + blk v k ≠ 0 → B ≤ k
theorem Both.base {B C : Nat} {w0 w1 : World} {xs ys : List It} {gs gr : Nat} {W : World} (h : Both B w0 xs ys gs gr W) (hb : Below C w1 w0) (hC : C ≤ B) : Both C w1 xs ys gs gr W := by
  obtain ⟨h1, h2, h3, c, top, v, h4, h5, h6, h7, h8⟩ := h
  exact ⟨hb.trans (h1.mono hC), by omega, h3, c, top, v, h4, h5, h6, h7, fun k hk => by have := h8 k hk; omega⟩
theorem Both.on {B : Nat} {w0 : World} {xs ys : List It} {gs gr : Nat} {W W' : World} (h : Both B w0 xs ys gs gr W) (hb : Below W.heap.size W W') : Both B w0 xs ys gs gr W' := by
  obtain ⟨h1, h2, h3, c, top, v, h4, h5, h6, h7, h8⟩ := h
  exact ⟨h1.trans (hb.mono h2), Nat.le_trans h2 hb.size, h3, c, top, v, h4.on hb, (hb.block gr (lt_of_heap h5)).trans h5, h6.keep fun k hk => hb.block k (h6.lt hk), h7, h8⟩
theorem Both.sh {B : Nat} {w0 : World} {xs ys : List It} {gs gr : Nat} {W : World} (h : Both B w0 xs ys gs gr W) : Sh B w0 200 xs gs W := by
  obtain ⟨h1, h2, h3, c, top, v, h4, h5, h6, h7, h8⟩ := h
  exact ⟨h1, c, top, h4, fun k hk => h8 k (by omega)⟩
theorem both_put {B : Nat} {w0 : World} {xs ys : List It} {gs gr : Nat} {W : World} (h : Both B w0 xs ys gs gr W) (hn : xs.length ≤ 1000) (k v : ByteArray) :
    Calls Tryz.prog 22 #[.pointer (some ⟨gs, 0, none⟩), .string k, .string v] W fun e W' => e = .returned (.int .i64 (putL 200 k v xs).1) ∧ Both B w0 (putL 200 k v xs).2 ys gs gr W' := by
  obtain ⟨h1, h2, h3, c, top, vr, h4, h5, h6, h7, h8⟩ := h
  refine (put_shf h4 k v hn).mono ?_
  rintro _ W' ⟨c', t', rfl, k4, k5⟩
  have hgl := lt_of_heap h5
  have hkeep : ∀ i, one gr i + blk vr i ≠ 0 → W'.heap[i]? = W.heap[i]? := fun i hi => k5.chg.block i (by
    by_cases e : one gr i = 0
    · exact h6.lt (by omega)
    · rw [one_ne e]; exact hgl) (fun e => by have := h7 i; omega)
  refine ⟨rfl, h1.trans (k5.chg.below h2 fun i hi => h8 i (by omega)), Nat.le_trans h2 k5.chg.size, h3, c', t', vr, k4, (hkeep gr (by rw [one_self]; omega)).trans h5, h6.keep fun i hi => hkeep i (by omega), fun i => ?_, fun i hi => ?_⟩
  · rcases Nat.lt_or_ge i W.heap.size with e | e
    · have := k5.old i e; have := h7 i; omega
    · have e1 : one gr i = 0 := by
        rcases Nat.eq_zero_or_pos (one gr i) with z | z
        · exact z
        · have := one_ne (show one gr i ≠ 0 by omega); omega
      have e2 : blk vr i = 0 := by
        rcases Nat.eq_zero_or_pos (blk vr i) with z | z
        · exact z
        · have := h6.lt (show blk vr i ≠ 0 by omega); omega
      have := k5.le i
      omega
  · rcases Nat.lt_or_ge i W.heap.size with e | e
    · have := k5.old i e; exact h8 i (by omega)
    · omega
theorem both_ref {B : Nat} {w0 : World} {xs ys : List It} {gs gr : Nat} {W : World} (h : Both B w0 xs ys gs gr W) (hn : ys.length ≤ 1000) (k v : ByteArray) :
    Calls Tryz.prog 23 #[.pointer (some ⟨gr, 0, none⟩), .string k, .string v] W fun e W' => e = .returned (.int .i64 (putL 200 k v ys).1) ∧ Both B w0 xs (putL 200 k v ys).2 gs gr W' := by
  obtain ⟨h1, h2, h3, c, top, vr, h4, h5, h6, h7, h8⟩ := h
  have hgv : blk vr gr = 0 := by have := h7 gr; rw [one_self] at this; omega
  refine (refPut_is W gr 200 vr ys ys.length rfl hn h5 h6 hgv h3 k v _ _ rfl).mono ?_
  rintro _ W' ⟨rfl, v', k1, k2, k3, k4⟩
  have hgl := lt_of_heap h5
  have hc : ∀ i, c i ≠ 0 → W'.heap[i]? = W.heap[i]? := fun i hi => k3.block i (h4.lt i hi) (fun e => by subst e; have := h7 i; rw [one_self] at this; omega)
  refine ⟨rfl, h1.trans (k3.below h2 fun i hi => by subst hi; exact h8 i (by rw [one_self]; omega)), Nat.le_trans h2 k3.size, putL_rises h3, c, top, v', h4.keep hc, k1, k2, fun i => ?_, fun i hi => ?_⟩
  · rcases Nat.lt_or_ge i W.heap.size with e | e
    · have := k4 i e; have := h7 i; omega
    · have e1 : one gr i = 0 := by
        rcases Nat.eq_zero_or_pos (one gr i) with z | z
        · exact z
        · have := one_ne (show one gr i ≠ 0 by omega); omega
      have e2 : c i = 0 := by
        rcases Nat.eq_zero_or_pos (c i) with z | z
        · exact z
        · have := h4.lt i (by omega); omega
      have := blk_le v' i
      omega
  · rcases Nat.lt_or_ge i W.heap.size with e | e
    · have := k4 i e; exact h8 i (by omega)
    · omega
end Go.Proofs.YthknenhcnpgkcaaGreat

/- rosarylaw5.Filled. -/
namespace Go.Proofs.YthknenhcnpgkcaaGreat
open Go.RowKit
set_option linter.unusedVariables false
set_option linter.unusedSimpArgs false
theorem refNew_is (W : World) (m : Int) (r : Int) (hr : min (max m 0) 200 = r) : Calls Tryz.prog 21 #[.int .i64 m] W fun e W' => e = .returned (.pointer (some ⟨W.heap.size, 0, none⟩)) ∧ W' = W.alloc (refObj r (.slice none 0 0)) := by
  subst hr
  go_enter Tryz.func21, Tryz.ntmps21
  go_wp2_with fail
  all_goals go_ret
  all_goals refine ⟨rfl, ?_⟩
  all_goals congr 3
  all_goals simp
  all_goals omega
theorem both_new {B : Nat} {w0 : World} {gs : Nat} {W : World} (h : Sh B w0 200 [] gs W) :
    Calls Tryz.prog 21 #[.int .i64 200] W fun e W' => e = .returned (.pointer (some ⟨W.heap.size, 0, none⟩)) ∧ Both B w0 [] [] gs W.heap.size W' := by
  have hB := h.ge
  obtain ⟨h1, c, top, h2, h3⟩ := h
  refine (refNew_is W 200 200 (by decide)).mono ?_
  rintro _ _ ⟨rfl, rfl⟩
  have hb : Below W.heap.size W (W.alloc (refObj 200 (.slice none 0 0))) := (Below.refl _ _).alloc (Nat.le_refl _) _
  refine ⟨rfl, h1.trans (hb.mono hB), Nat.le_trans hB hb.size, List.Pairwise.nil, c, top, .slice none 0 0, h2.on hb, heap_alloc_at _ _ _ rfl, World.ownsRow_nil _ _ _ _, fun k => ?_, fun k hk => ?_⟩
  · rw [blk_nil]
    by_cases e : one W.heap.size k = 0
    · have := h2.le k; omega
    · have hk := one_ne e
      have h0 : c k = 0 := by
        rcases Nat.eq_zero_or_pos (c k) with z | z
        · exact z
        · have := h2.lt k (by omega); omega
      have := one_le W.heap.size k
      omega
  · rw [blk_nil] at hk
    by_cases e : c k = 0
    · have hk' := one_ne (show one W.heap.size k ≠ 0 by omega); omega
    · exact h3 k e
/-- What is in a shelf of 200 items into which a list was put. -/
def fillL (l : List It) : List It := l.foldl (fun xs i => (putL 200 i.1 i.2 xs).2) []
theorem fillL_snoc (l : List It) (x : It) : fillL (l ++ [x]) = (putL 200 x.1 x.2 (fillL l)).2 := by simp [fillL]
theorem fold_rises : ∀ (l acc : List It), Rises acc → Rises (l.foldl (fun xs i => (putL 200 i.1 i.2 xs).2) acc)
  | [], _, h => h
  | x :: l, acc, h => fold_rises l _ (putL_rises h)
theorem fillL_rises (l : List It) : Rises (fillL l) := fold_rises l [] List.Pairwise.nil
theorem putL_len (most : Int) (k v : ByteArray) (xs : List It) : (putL most k v xs).2.length ≤ xs.length + 1 := by
  unfold putL
  split
  · dsimp only; omega
  · split
    · dsimp only; omega
    · split
      · dsimp only; rw [repL_length]; omega
      · split
        · dsimp only; omega
        · dsimp only; rw [insL_length]; exact Nat.le_refl _
theorem fold_len : ∀ (l acc : List It), (l.foldl (fun xs i => (putL 200 i.1 i.2 xs).2) acc).length ≤ acc.length + l.length
  | [], _ => Nat.le_refl _
  | x :: l, acc => by
    have h1 := fold_len l (putL 200 x.1 x.2 acc).2
    have h2 := putL_len 200 x.1 x.2 acc
    rw [List.foldl_cons, List.length_cons]
    omega
theorem fillL_len (l : List It) : (fillL l).length ≤ l.length := by have := fold_len l []; simpa [fillL] using this
theorem putL_long {most : Int} {k v : ByteArray} {xs : List It} (h : ¬ (k.size ≤ 40 ∧ v.size ≤ 40)) : (putL most k v xs).2 = xs := by
  unfold putL
  by_cases c : k.size < 1 ∨ 16 < k.size
  · rw [if_pos c]
  · rw [if_neg c, if_pos (by omega)]
set_option maxRecDepth 100000 in
set_option maxHeartbeats 4000000 in
theorem filled_is (W : World) (sl : Value) (l : List It) (n : Nat) (hl : l.length = n) (hn : n ≤ 60) (hs : Src W 2 sl n (flat l)) :
    Calls Tryz.prog 5 #[sl] W fun e W' => ∃ gs gr, e = .returned (.tuple #[.pointer (some ⟨gs, 0, none⟩), .pointer (some ⟨gr, 0, none⟩)]) ∧ Both W.heap.size W (fillL l) (fillL l) gs gr W' := by
  obtain ⟨ao, cap, rfl⟩ := hs.slice_of
  have HS := hid hs
  have HL := hid hl
  clear hs hl
  go_enter Tryz.func5, Tryz.ntmps5
  go_wp2_with fail
  have HSB := hid (fun (W' : World) (hb : Below W.heap.size W W') => HS.out.heap hb)
  clear HS
  (((with_reducible refine (sh_new W.heap.size W 200 200 (by decide) _ (Below.refl _ _) (Nat.le_refl _)).mono ?_)); rintro _ W1 ⟨rfl, h1⟩)
  generalize hBW : W.heap.size = B at h1 HSB ⊢
  have HBW := hid hBW
  clear hBW
  go_wp2_with fail
  (((with_reducible refine (both_new h1).mono ?_)); rintro _ W2 ⟨rfl, h2⟩)
  generalize W1.heap.size = gr at h2 ⊢
  have H2 := hid h2
  clear h1 h2
  go_wp2_with fail
  go_loopw [6] (fun x wr => ∃ i : Nat, i ≤ n ∧ x = .int .i64 i ∧ Hid (Both B W (fillL (l.take i)) (fillL (l.take i)) B gr wr)) (fun x _ => n - (intOf x).toNat)
  case atStart => exact ⟨0, Nat.zero_le _, rfl, H2⟩
  case round =>
    obtain ⟨i, hi, rfl, HB⟩ := hrel
    by_cases hlt : i < n
    · obtain ⟨x, hx⟩ : ∃ x, l[i]? = some x := ⟨l[i]'(by rw [HL.out]; exact hlt), List.getElem?_eq_getElem _⟩
      obtain ⟨b, o, rfl, p1, p2, p3⟩ := (show Src wr 2 (.slice ao l.length cap) l.length (flat l) by rw [HL.out]; exact HSB.out wr HB.out.1).at_ i x hx
      have l1 : b < wr.heap.size := World.block_lt_of_cell? _ _ p1
      have c60 : i < 60 := by omega
      have hsn := hid (show fillL (l.take (i + 1)) = (putL 200 x.1 x.2 (fillL (l.take i))).2 by rw [List.take_add_one, hx]; exact fillL_snoc _ _)
      have hle : (fillL (l.take i)).length ≤ 1000 := by have := fillL_len (l.take i); rw [List.length_take] at this; omega
      have hcell := hid (show ∀ (X : World), Below B W X → X.cell? ⟨b, o + i * 2, none⟩ = some (.string x.1) ∧ X.cell? ⟨b, o + (i * 2 + 1), none⟩ = some (.string x.2) ∧ X.cell? ⟨b, o + i * 2 + 1, none⟩ = some (.string x.2) from fun X hb => by
        obtain ⟨b2, o2, he, r1, r2, r3⟩ := (show Src X 2 (.slice (some ⟨b, o, none⟩) l.length cap) l.length (flat l) by rw [HL.out]; exact HSB.out X hb).at_ i x hx
        obtain ⟨rfl, rfl⟩ : b = b2 ∧ o = o2 := by injection he with he; injection he with h1 h2; exact ⟨h1, h2⟩
        exact ⟨r1, r2, r3⟩)
      have HLE := hid hle
      clear hx hle
      obtain ⟨s, t⟩ := x
      simp only at p1 p2 p3 hcell
      by_cases q : s.size ≤ 40 ∧ t.size ≤ 40
      · have d1 : decide ((s.size : Int) ≤ 40) = true := by simp; omega
        have d2 : decide ((t.size : Int) ≤ 40) = true := by simp; omega
        clear q
        go_wp2_with fail
        go_region_with (go_at_call 22; ((with_reducible refine (both_put (HB.out.on (by repeat' (first | exact Below.refl _ _ | with_reducible assumption | omega | with_reducible refine below_put_fut ?_ ?_ _ | with_reducible refine below_to_put ?_ | with_reducible refine Below.alloc ?_ ?_ _ | with_reducible refine Below.fut ?_ ?_ _ | with_reducible refine Below.drew ?_ | with_reducible refine Below.setCell ?_ ?_ _ | with_reducible refine Below.atPut ?_ ?_ _ | (simp [go_sem]; done) | (simp [go_sem]; omega)))) HLE.out s t).mono ?_)); rintro _ W3 ⟨rfl, h3⟩)
        all_goals
          have H3 := hid h3
          clear p1 p2 p3 l1 h3
          obtain ⟨p1, p2, p3⟩ := hcell.out W3 H3.out.1
          have l1 : b < W3.heap.size := World.block_lt_of_cell? _ _ p1
          go_wp2_with fail
          go_region_with (go_at_call 23; ((with_reducible refine (both_ref (H3.out.on (by repeat' (first | exact Below.refl _ _ | with_reducible assumption | omega | with_reducible refine below_put_fut ?_ ?_ _ | with_reducible refine below_to_put ?_ | with_reducible refine Below.alloc ?_ ?_ _ | with_reducible refine Below.fut ?_ ?_ _ | with_reducible refine Below.drew ?_ | with_reducible refine Below.setCell ?_ ?_ _ | with_reducible refine Below.atPut ?_ ?_ _ | (simp [go_sem]; done) | (simp [go_sem]; omega)))) HLE.out s t).mono ?_)); rintro _ W4 ⟨rfl, h4⟩)
        all_goals
          have H4 := hid (show Both B W (fillL (l.take (i + 1))) (fillL (l.take (i + 1))) B gr W4 by rw [hsn.out]; exact h4)
          clear h4 p1 p2 p3
          go_wp2
          go_roundw
          case rel => exact ⟨i + 1, by omega, by go_num, H4⟩
          case measure => simp [intOf]; omega
      · have H4 := hid (show Both B W (fillL (l.take (i + 1))) (fillL (l.take (i + 1))) B gr wr by rw [hsn.out, putL_long q]; exact HB.out)
        by_cases q1 : s.size ≤ 40
        · have d1 : decide ((s.size : Int) ≤ 40) = true := by simp; omega
          have d2 : decide ((t.size : Int) ≤ 40) = false := by simp; omega
          clear q q1
          go_wp2_with (first | (((with_reducible refine wp_region_fut_lit (by kernel_rfl) (by kernel_rfl) ?_)); (repeat (go_big_quiet_step ((first | fail)))); ((with_reducible refine wpQuiet_nil ?_)); rintro _ ⟨u, rfl⟩; (try (rw [Fut.put_self u (by first | assumption | (simp [go_sem]; done) | (simp [go_sem]; omega))]))))
          go_roundw
          case rel => exact ⟨i + 1, by omega, by go_num, H4⟩
          case measure => simp [intOf]; omega
        · have d1 : decide ((s.size : Int) ≤ 40) = false := by simp; omega
          clear q q1
          go_wp2_with (first | (((with_reducible refine wp_region_fut_lit (by kernel_rfl) (by kernel_rfl) ?_)); (repeat (go_big_quiet_step ((first | fail)))); ((with_reducible refine wpQuiet_nil ?_)); rintro _ ⟨u, rfl⟩; (try (rw [Fut.put_self u (by first | assumption | (simp [go_sem]; done) | (simp [go_sem]; omega))]))))
          go_roundw
          case rel => exact ⟨i + 1, by omega, by go_num, H4⟩
          case measure => simp [intOf]; omega
    · obtain rfl : n = i := by omega
      have hfin := hid (show Both B W (fillL l) (fillL l) B gr wr by have := HB.out; rwa [List.take_of_length_le (by rw [HL.out]; exact Nat.le_refl _)] at this)
      go_wp2_with (first | (((with_reducible refine wp_region_fut_lit (by kernel_rfl) (by kernel_rfl) ?_)); (repeat (go_big_quiet_step ((first | fail)))); ((with_reducible refine wpQuiet_nil ?_)); rintro _ ⟨u, rfl⟩; (try (rw [Fut.put_self u (by first | assumption | (simp [go_sem]; done) | (simp [go_sem]; omega))]))))
      go_ret2
      rw [HBW.out]
      exact ⟨_, _, rfl, hfin.out⟩
end Go.Proofs.YthknenhcnpgkcaaGreat
