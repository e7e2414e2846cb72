import Derived.Test.YthknenhcnpgkcaaRef1
import Derived.Test.YthknenhcnpgkcaaSh4
/- The document's own shelf: Put. -/
namespace Go.Proofs.Ythknenhcnpgkcaa
open Go.RowKit
set_option linter.unusedVariables false
set_option linter.unusedSimpArgs false
theorem refKey_is (w : World) (k : ByteArray) (b : Bool) (hb : decide (k.size < 1 ∨ 16 < k.size) = b) : Calls Try.prog 64 #[.string k] w (Makes (.int .i64 (if b then 3 else 0)) w) := by
  by_cases c : k.size < 1
  · obtain rfl : b = true := by rw [← hb]; simp [c]
    have d1 : decide ((k.size : Int) < 1) = true := by simp; omega
    clear hb c
    go_enter Try.func64, Try.ntmps64
    go_wp2_with (first | (((with_reducible refine wp_region_fut_lit (by kernel_rfl) (by kernel_rfl) ?_)); (repeat (go_big_quiet_step ((first | fail)))); ((with_reducible refine wpQuiet_nil ?_)); rintro _ ⟨u, rfl⟩; (try (rw [Fut.put_self u (by first | assumption | (simp [go_sem]; done) | (simp [go_sem]; omega))]))))
    go_ret; exact .mk (by first | rfl | (simp; done) | (simp; omega)) (by repeat' (first | exact Below.refl _ _ | with_reducible assumption | omega | with_reducible refine below_put_fut ?_ ?_ _ | with_reducible refine below_to_put ?_ | with_reducible refine Below.alloc ?_ ?_ _ | with_reducible refine Below.fut ?_ ?_ _ | with_reducible refine Below.drew ?_ | with_reducible refine Below.setCell ?_ ?_ _ | with_reducible refine Below.atPut ?_ ?_ _ | (simp [go_sem]; done) | (simp [go_sem]; omega)))
  have d1 : decide ((k.size : Int) < 1) = false := by simp; omega
  by_cases c2 : 16 < k.size
  · obtain rfl : b = true := by rw [← hb]; simp [c2]
    have d2 : decide ((16 : Int) < k.size) = true := by simp; omega
    clear hb c c2
    go_enter Try.func64, Try.ntmps64
    go_wp2_with (first | (((with_reducible refine wp_region_fut_lit (by kernel_rfl) (by kernel_rfl) ?_)); (repeat (go_big_quiet_step ((first | fail)))); ((with_reducible refine wpQuiet_nil ?_)); rintro _ ⟨u, rfl⟩; (try (rw [Fut.put_self u (by first | assumption | (simp [go_sem]; done) | (simp [go_sem]; omega))]))))
    go_ret; exact .mk (by first | rfl | (simp; done) | (simp; omega)) (by repeat' (first | exact Below.refl _ _ | with_reducible assumption | omega | with_reducible refine below_put_fut ?_ ?_ _ | with_reducible refine below_to_put ?_ | with_reducible refine Below.alloc ?_ ?_ _ | with_reducible refine Below.fut ?_ ?_ _ | with_reducible refine Below.drew ?_ | with_reducible refine Below.setCell ?_ ?_ _ | with_reducible refine Below.atPut ?_ ?_ _ | (simp [go_sem]; done) | (simp [go_sem]; omega)))
  obtain rfl : b = false := by rw [← hb]; exact decide_eq_false (by omega)
  have d2 : decide ((16 : Int) < k.size) = false := by simp; omega
  clear hb c c2
  go_enter Try.func64, Try.ntmps64
  go_wp2_with (first | (((with_reducible refine wp_region_fut_lit (by kernel_rfl) (by kernel_rfl) ?_)); (repeat (go_big_quiet_step ((first | fail)))); ((with_reducible refine wpQuiet_nil ?_)); rintro _ ⟨u, rfl⟩; (try (rw [Fut.put_self u (by first | assumption | (simp [go_sem]; done) | (simp [go_sem]; omega))]))))
  go_ret; exact .mk (by first | rfl | (simp; done) | (simp; omega)) (by repeat' (first | exact Below.refl _ _ | with_reducible assumption | omega | with_reducible refine below_put_fut ?_ ?_ _ | with_reducible refine below_to_put ?_ | with_reducible refine Below.alloc ?_ ?_ _ | with_reducible refine Below.fut ?_ ?_ _ | with_reducible refine Below.drew ?_ | with_reducible refine Below.setCell ?_ ?_ _ | with_reducible refine Below.atPut ?_ ?_ _ | (simp [go_sem]; done) | (simp [go_sem]; omega)))
theorem refValue_is (w : World) (k : ByteArray) (b : Bool) (hb : decide (16 < k.size) = b) : Calls Try.prog 65 #[.string k] w (Makes (.int .i64 (if b then 4 else 0)) w) := by
  by_cases c2 : 16 < k.size
  · obtain rfl : b = true := by rw [← hb]; simp [c2]
    have d2 : decide ((16 : Int) < k.size) = true := by simp; omega
    clear hb c2
    go_enter Try.func65, Try.ntmps65
    go_wp2_with (first | (((with_reducible refine wp_region_fut_lit (by kernel_rfl) (by kernel_rfl) ?_)); (repeat (go_big_quiet_step ((first | fail)))); ((with_reducible refine wpQuiet_nil ?_)); rintro _ ⟨u, rfl⟩; (try (rw [Fut.put_self u (by first | assumption | (simp [go_sem]; done) | (simp [go_sem]; omega))]))))
    go_ret; exact .mk (by first | rfl | (simp; done) | (simp; omega)) (by repeat' (first | exact Below.refl _ _ | with_reducible assumption | omega | with_reducible refine below_put_fut ?_ ?_ _ | with_reducible refine below_to_put ?_ | with_reducible refine Below.alloc ?_ ?_ _ | with_reducible refine Below.fut ?_ ?_ _ | with_reducible refine Below.drew ?_ | with_reducible refine Below.setCell ?_ ?_ _ | with_reducible refine Below.atPut ?_ ?_ _ | (simp [go_sem]; done) | (simp [go_sem]; omega)))
  obtain rfl : b = false := by rw [← hb]; exact decide_eq_false (by omega)
  have d2 : decide ((16 : Int) < k.size) = false := by simp; omega
  clear hb c2
  go_enter Try.func65, Try.ntmps65
  go_wp2_with (first | (((with_reducible refine wp_region_fut_lit (by kernel_rfl) (by kernel_rfl) ?_)); (repeat (go_big_quiet_step ((first | fail)))); ((with_reducible refine wpQuiet_nil ?_)); rintro _ ⟨u, rfl⟩; (try (rw [Fut.put_self u (by first | assumption | (simp [go_sem]; done) | (simp [go_sem]; omega))]))))
  go_ret; exact .mk (by first | rfl | (simp; done) | (simp; omega)) (by repeat' (first | exact Below.refl _ _ | with_reducible assumption | omega | with_reducible refine below_put_fut ?_ ?_ _ | with_reducible refine below_to_put ?_ | with_reducible refine Below.alloc ?_ ?_ _ | with_reducible refine Below.fut ?_ ?_ _ | with_reducible refine Below.drew ?_ | with_reducible refine Below.setCell ?_ ?_ _ | with_reducible refine Below.atPut ?_ ?_ _ | (simp [go_sem]; done) | (simp [go_sem]; omega)))
theorem putL_place {most : Int} {k v : ByteArray} {xs : List It} (hr : Rises xs) (hk : ¬ (k.size < 1 ∨ 16 < k.size)) (hv : ¬ 16 < v.size) {at_ : Nat} {is : Bool} (hp : placeOf k xs = (at_, is)) :
    (is = true → putL most k v xs = (0, xs.take at_ ++ (k, v) :: xs.drop (at_ + 1)) ∧ at_ < xs.length) ∧ (is = false → (most ≤ xs.length → putL most k v xs = (5, xs)) ∧ ((xs.length : Int) < most → putL most k v xs = (0, xs.take at_ ++ (k, v) :: xs.drop at_))) := by
  obtain ⟨A, B, rfl, hA, h1, h2⟩ := placeOf_split k xs hr
  rw [hp] at hA h2
  simp only at hA h2
  subst hA
  unfold putL
  rw [if_neg hk, if_neg hv]
  rcases h2 with ⟨e, w, R, rfl⟩ | ⟨e, h2⟩
  · subst e
    have hs : (valueOf k (A ++ (k, w) :: R)).isSome = true := by
      cases hq : valueOf k (A ++ (k, w) :: R) with
      | some _ => rfl
      | none => exact absurd rfl (valueOf_none_iff.1 hq (k, w) (by simp))
    refine ⟨fun _ => ⟨?_, by simp⟩, fun h => by cases h⟩
    rw [if_pos hs, ← Rep.eq ⟨A, w, R, rfl, rfl⟩ hr]
    simp
  · subst e
    have hn : valueOf k (A ++ B) = none := valueOf_none_iff.2 fun x hx e => by
      rcases List.mem_append.1 hx with hx | hx
      · exact lt_ne (h1 x hx) e
      · exact lt_ne (h2 x hx) e.symm
    refine ⟨fun h => (by cases h), fun _ => ⟨fun h => ?_, fun h => ?_⟩⟩
    · rw [hn, if_neg (by simp), if_pos h]
    · rw [hn, if_neg (by simp), if_neg (by omega), insL_split h1 h2]
      simp
theorem slice_from (ao : Option Addr) (n cap i : Nat) (h : i ≤ n) (h2 : n ≤ cap) (W : World) :
    (Instr.slice 28 (.slice ao n cap) (some (.int .i64 i)) none none).run Try.prog W = .ok (.slice (if cap = i then ao else ao.map (·.add (i * 2))) (n - i) (cap - i)) W := by
  have hs : (Try.prog.info? 34).map (·.size) = some 2 := by kernel_rfl
  cases hq : Try.prog.info? 34 with
  | none => simp [hq] at hs
  | some t =>
    have ht : t.size = 2 := by simpa [hq] using hs
    have h1 : (i : Int) ≤ n := by omega
    simp [Instr.slice, Instr.sliceBounds, Instr.sliceBound, asIntOf, run_underlying Try.underlying28, sizeOf, typeInfo, hq, ht, h1, h2, h]
theorem slice_to (ao : Option Addr) (n cap i : Nat) (h : i ≤ cap) (W : World) :
    (Instr.slice 28 (.slice ao n cap) none (some (.int .i64 i)) none).run Try.prog W = .ok (.slice ao i cap) W := by
  have hs : (Try.prog.info? 34).map (·.size) = some 2 := by kernel_rfl
  cases hq : Try.prog.info? 34 with
  | none => simp [hq] at hs
  | some t =>
    have ht : t.size = 2 := by simpa [hq] using hs
    have h1 : (i : Int) ≤ cap := by omega
    simp [Instr.slice, Instr.sliceBounds, Instr.sliceBound, asIntOf, run_underlying Try.underlying28, sizeOf, typeInfo, hq, ht, h1, h]
    cases ao <;> simp [Addr.add]
theorem slice_src {w : World} {ao : Option Addr} {its : List It} {n cap i j : Nat} (hl : its.length = n) (h : Src w 2 (.slice ao n cap) n (flat its)) (hc : n ≤ cap) (hij : i + j ≤ n) : Src w 2 (.slice (if cap = i then ao else ao.map (·.add (i * 2))) j (cap - i)) j (flat ((its.drop i).take j)) := by
  subst hl
  refine ⟨by rw [flat_length, List.length_take, List.length_drop, Nat.min_eq_left (by omega)], flat_one _, ?_⟩
  rcases h.2.2 with ⟨hv, h0⟩ | ⟨a, c, hv, hcell⟩
  · injection hv with h1 h2 h3
    subst h1 h3
    have : i = 0 := by omega
    subst this
    have : j = 0 := by omega
    subst this
    exact .inl ⟨by simp, rfl⟩
  · injection hv with h1 h2 h3
    subst h1
    by_cases e : cap = i
    · rw [if_pos e]
      refine .inr ⟨a, _, rfl, fun k u hu => ?_⟩
      have := (List.getElem?_eq_some_iff.1 hu).1
      rw [flat_length, List.length_take] at this
      omega
    · rw [if_neg e]
      refine .inr ⟨a.add (i * 2), _, rfl, fun k u hu => ?_⟩
      have hk := (List.getElem?_eq_some_iff.1 hu).1
      rw [flat_length, List.length_take] at hk
      have hs : a.spot = none := by
        have := World.cell?_spot (hcell 0 _ (List.getElem?_eq_getElem (by rw [flat_length]; omega)))
        simpa [Addr.add] using this
      obtain ⟨b, o, s⟩ := a
      simp only at hs
      subst hs
      rw [← flat_take, ← flat_drop, List.getElem?_take] at hu
      split at hu
      · rw [List.getElem?_drop] at hu
        have := hcell _ u hu
        rw [Addr.add_lit] at this ⊢
        rw [Addr.add_lit]
        rw [show o + i * 2 + k = o + (i * 2 + k) from by omega]; exact this
      · cases hu
theorem slice_pre {w : World} {ao : Option Addr} {its : List It} {n cap m : Nat} (h : Src w 2 (.slice ao n cap) n (flat its)) (hm : m ≤ n) (hl : its.length = n) : Src w 2 (.slice ao m cap) m (flat (its.take m)) := by
  refine ⟨by rw [flat_length, List.length_take, Nat.min_eq_left (by omega)], flat_one _, ?_⟩
  rcases h.2.2 with ⟨hv, h0⟩ | ⟨a, c, hv, hcell⟩
  · injection hv with h1 h2 h3
    subst h1 h3
    have : m = 0 := by omega
    subst this
    exact .inl ⟨rfl, rfl⟩
  · injection hv with h1 h2 h3
    subst h1 h3
    refine .inr ⟨a, _, rfl, fun k u hu => ?_⟩
    rw [← flat_take, List.getElem?_take] at hu
    split at hu
    · exact hcell k u hu
    · cases hu
end Go.Proofs.Ythknenhcnpgkcaa
