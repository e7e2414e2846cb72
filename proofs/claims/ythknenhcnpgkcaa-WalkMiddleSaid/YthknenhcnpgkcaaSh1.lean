import Derived.Test.YthknenhcnpgkcaaNode
/- Contracts of package shelf: leaf, place. -/
namespace Go.Proofs.Ythknenhcnpgkcaa
open Go.RowKit
theorem less_is (a b : ByteArray) (ha : a.size ≤ maxLen) (hb : b.size ≤ maxLen) (r : Bool) (hr : Op.bytesLess a.data.toList b.data.toList = r) (w : World) :
    Calls Try.prog 77 #[.string a, .string b] w (Makes (.bool r) w) := by subst hr; exact less_any a b ha hb w
theorem leaf_is (W : World) (p : Nat) (iv : Value) (ao : Option Addr) (n c : Nat) (hp : W.heap[p]? = some (.cells #[iv, .slice ao n c] 118)) (r : Bool) (hr : ((n : Int) == 0) = r) :
    Calls Try.prog 75 #[.pointer (some ⟨p, 0, none⟩)] W (Makes (.bool r) W) := by
  have hc := fun i => cell_of_row W p i _ _ (0, 0) hp
  cases r
  all_goals
    go_enter Try.func75, Try.ntmps75
    go_wp2_with (first | (((with_reducible refine wp_region_fut_lit (by kernel_rfl) (by kernel_rfl) ?_)); (repeat (go_big_quiet_step ((first | fail)))); ((with_reducible refine wpQuiet_nil ?_)); rintro _ ⟨u, rfl⟩; (try (rw [Fut.put_self u (by first | assumption | (simp [go_sem]; done) | (simp [go_sem]; omega))]))))
    go_ret; exact .mk (by first | rfl | (simp; done) | (simp; omega)) (by repeat' (first | exact Below.refl _ _ | with_reducible assumption | omega | with_reducible refine below_put_fut ?_ ?_ _ | with_reducible refine below_to_put ?_ | with_reducible refine Below.alloc ?_ ?_ _ | with_reducible refine Below.fut ?_ ?_ _ | with_reducible refine Below.drew ?_ | with_reducible refine Below.setCell ?_ ?_ _ | with_reducible refine Below.atPut ?_ ?_ _ | (simp [go_sem]; done) | (simp [go_sem]; omega)))
def PlaceAt (k : ByteArray) (its : List It) (i : Nat) : Prop := placeOf k its = ((placeOf k (its.drop i)).1 + i, (placeOf k (its.drop i)).2)
theorem PlaceAt.zero (k : ByteArray) (its : List It) : PlaceAt k its 0 := by simp [PlaceAt]
theorem PlaceAt.stop {k : ByteArray} {its : List It} (h : PlaceAt k its its.length) : placeOf k its = (its.length, false) := by
  unfold PlaceAt at h
  rw [List.drop_length] at h
  simpa [placeOf] using h
theorem PlaceAt.here {k : ByteArray} {its : List It} {i : Nat} {x : It} (h : PlaceAt k its i) (hx : its[i]? = some x) (e : x.1 = k) : placeOf k its = (i, true) := by
  unfold PlaceAt at h
  obtain ⟨hl, rfl⟩ := List.getElem?_eq_some_iff.1 hx
  rw [List.drop_eq_getElem_cons hl, placeOf, if_pos e] at h
  simpa using h
theorem PlaceAt.ahead {k : ByteArray} {its : List It} {i : Nat} {x : It} (h : PlaceAt k its i) (hx : its[i]? = some x) (e : x.1 ≠ k) (hl : lt k x.1 = true) : placeOf k its = (i, false) := by
  unfold PlaceAt at h
  obtain ⟨hl', rfl⟩ := List.getElem?_eq_some_iff.1 hx
  rw [List.drop_eq_getElem_cons hl', placeOf, if_neg e, if_pos hl] at h
  simpa using h
theorem PlaceAt.succ {k : ByteArray} {its : List It} {i : Nat} {x : It} (h : PlaceAt k its i) (hx : its[i]? = some x) (e : x.1 ≠ k) (hl : lt k x.1 = false) : PlaceAt k its (i + 1) := by
  unfold PlaceAt at *
  obtain ⟨hl', rfl⟩ := List.getElem?_eq_some_iff.1 hx
  rw [List.drop_eq_getElem_cons hl', placeOf, if_neg e, if_neg (by simp [hl])] at h
  rw [h, Nat.add_right_comm]; rfl
set_option maxRecDepth 100000 in
set_option maxHeartbeats 4000000 in
theorem place_is (W : World) (p : Nat) (iv bv : Value) (its : List It) (k : ByteArray) (hp : W.heap[p]? = some (.cells #[iv, bv] 118)) (hi : Row W 34 2 iv its.length (flat its))
    (hn : its.length ≤ 1000) (hk : k.size ≤ maxLen) (hs : ∀ i ∈ its, i.1.size ≤ maxLen) (at_ : Nat) (is : Bool) (hr : placeOf k its = (at_, is)) :
    Calls Try.prog 116 #[.pointer (some ⟨p, 0, none⟩), .string k] W (Makes (.tuple #[.int .i64 at_, .bool is]) W) := by
  obtain ⟨ao, cap, rfl⟩ := owns_slice hi
  have hc := fun i => cell_of_row W p i _ _ (0, 0) hp
  have hpl := lt_of_heap hp
  have HR := hid hr
  have HS := hid hs
  have HI := hid hi
  clear hp hi hr hs
  generalize hlen : its.length = len at hn HI hc ⊢
  have HL := hid hlen
  clear hlen
  go_enter Try.func116, Try.ntmps116
  go_wp2
  go_step3
  go_wp2
  go_step3
  go_wp2
  go_loopw [6, 7, 20] (fun a b x wr => ∃ i : Nat, i ≤ len ∧ x = .int .i64 i ∧ a = .int .i64 len ∧ b = .bool false ∧ Hid (PlaceAt k its i) ∧ ∃ u : Fut W, wr = u.val) (fun _ _ x _ => len - (intOf x).toNat)
  case atStart => exact ⟨0, Nat.zero_le _, rfl, rfl, rfl, hid (.zero k its), ⟨⟨_, (by repeat' (first | exact Below.refl _ _ | with_reducible assumption | omega | with_reducible refine below_put_fut ?_ ?_ _ | with_reducible refine below_to_put ?_ | with_reducible refine Below.alloc ?_ ?_ _ | with_reducible refine Below.fut ?_ ?_ _ | with_reducible refine Below.drew ?_ | with_reducible refine Below.setCell ?_ ?_ _ | with_reducible refine Below.atPut ?_ ?_ _ | (simp [go_sem]; done) | (simp [go_sem]; omega)))⟩, rfl⟩⟩
  case round =>
    obtain ⟨i, hi, rfl, rfl, rfl, hP, u, rfl⟩ := hrel
    by_cases hlt : i < len
    · obtain ⟨x, hx⟩ : ∃ x, its[i]? = some x := ⟨its[i]'(by rw [HL.out]; exact hlt), List.getElem?_eq_getElem _⟩
      have hsx := HS.out x (List.mem_of_getElem? hx)
      obtain ⟨r, cap', hv, _, hrl⟩ := HI.out.form (by omega)
      obtain rfl : ao = some ⟨r, 0, none⟩ := by injection hv
      have hf := flat_at its i x hx
      have q0 : W.cell? ⟨r, i * 2, none⟩ = some (.string x.1) := by
        rw [HI.out.cellAt _ (by omega), ← hf.1]; congr 1; omega
      have q1 : W.cell? ⟨r, i * 2 + 1, none⟩ = some (.string x.2) := by
        rw [HI.out.cellAt _ (by omega), ← hf.2]; congr 1; omega
      have HX := hid hx
      clear hf hx hv
      obtain ⟨a, b⟩ := x
      simp only at q0 q1 hsx
      by_cases e : a = k
      · have HR2 := hid (hP.out.here HX.out e)
        subst e
        clear hP
        go_wp2_with (first | (((with_reducible refine wp_region_fut_lit (by kernel_rfl) (by kernel_rfl) ?_)); (repeat (go_big_quiet_step ((first | fail)))); ((with_reducible refine wpQuiet_nil ?_)); rintro _ ⟨u, rfl⟩; (try (rw [Fut.put_self u (by first | assumption | (simp [go_sem]; done) | (simp [go_sem]; omega))]))))
        (try (rw [Exit.noGoto_ret]))
        go_ret2
        rw [HR2.out] at HR
        obtain ⟨rfl, rfl⟩ := Prod.mk.inj HR.out
        exact .mk rfl (by repeat' (first | exact Below.refl _ _ | with_reducible assumption | omega | with_reducible refine below_put_fut ?_ ?_ _ | with_reducible refine below_to_put ?_ | with_reducible refine Below.alloc ?_ ?_ _ | with_reducible refine Below.fut ?_ ?_ _ | with_reducible refine Below.drew ?_ | with_reducible refine Below.setCell ?_ ?_ _ | with_reducible refine Below.atPut ?_ ?_ _ | (simp [go_sem]; done) | (simp [go_sem]; omega)))
      · have e1 : (a.toList == k.toList) = false := by
          rw [ByteArray.toList_eq, ByteArray.toList_eq]
          simpa using fun h => e (ba_ext h)
        cases hlt2 : lt k a
        · have HR2 := hid (hP.out.succ HX.out e hlt2)
          have hq : Op.bytesLess k.data.toList a.data.toList = false := hlt2
          clear hP e hlt2
          go_wp2_with (first | (go_at_call 77; ((with_reducible refine (less_is _ _ hk hsx _ hq _).mono ?_)); rintro _ _ ⟨rfl, u, rfl⟩; (try (rw [Fut.put_self u (by first | assumption | (simp [go_sem]; done) | (simp [go_sem]; omega))]))) | (((with_reducible refine wp_region_fut_lit (by kernel_rfl) (by kernel_rfl) ?_)); (repeat (go_big_quiet_step ((first | (go_at_call 77; with_reducible exact Calls.fut_of (less_is _ _ hk hsx _ hq _)))))); ((with_reducible refine wpQuiet_nil ?_)); rintro _ ⟨u, rfl⟩; (try (rw [Fut.put_self u (by first | assumption | (simp [go_sem]; done) | (simp [go_sem]; omega))]))))
          go_roundw
          case rel => exact ⟨i + 1, by omega, by go_num, rfl, rfl, HR2, ⟨⟨_, (by repeat' (first | exact Below.refl _ _ | with_reducible assumption | omega | with_reducible refine below_put_fut ?_ ?_ _ | with_reducible refine below_to_put ?_ | with_reducible refine Below.alloc ?_ ?_ _ | with_reducible refine Below.fut ?_ ?_ _ | with_reducible refine Below.drew ?_ | with_reducible refine Below.setCell ?_ ?_ _ | with_reducible refine Below.atPut ?_ ?_ _ | (simp [go_sem]; done) | (simp [go_sem]; omega)))⟩, rfl⟩⟩
          case measure => simp [intOf]; omega
        · have HR2 := hid (hP.out.ahead HX.out e hlt2)
          have hq : Op.bytesLess k.data.toList a.data.toList = true := hlt2
          clear hP e hlt2
          go_wp2_with (first | (go_at_call 77; ((with_reducible refine (less_is _ _ hk hsx _ hq _).mono ?_)); rintro _ _ ⟨rfl, u, rfl⟩; (try (rw [Fut.put_self u (by first | assumption | (simp [go_sem]; done) | (simp [go_sem]; omega))]))) | (((with_reducible refine wp_region_fut_lit (by kernel_rfl) (by kernel_rfl) ?_)); (repeat (go_big_quiet_step ((first | (go_at_call 77; with_reducible exact Calls.fut_of (less_is _ _ hk hsx _ hq _)))))); ((with_reducible refine wpQuiet_nil ?_)); rintro _ ⟨u, rfl⟩; (try (rw [Fut.put_self u (by first | assumption | (simp [go_sem]; done) | (simp [go_sem]; omega))]))))
          (try (rw [Exit.noGoto_ret]))
          go_ret2
          rw [HR2.out] at HR
          obtain ⟨rfl, rfl⟩ := Prod.mk.inj HR.out
          exact .mk rfl (by repeat' (first | exact Below.refl _ _ | with_reducible assumption | omega | with_reducible refine below_put_fut ?_ ?_ _ | with_reducible refine below_to_put ?_ | with_reducible refine Below.alloc ?_ ?_ _ | with_reducible refine Below.fut ?_ ?_ _ | with_reducible refine Below.drew ?_ | with_reducible refine Below.setCell ?_ ?_ _ | with_reducible refine Below.atPut ?_ ?_ _ | (simp [go_sem]; done) | (simp [go_sem]; omega)))
    · obtain rfl : i = len := by omega
      have HR2 := hid (show placeOf k its = (i, false) by
        have := hP.out
        have hl := HL.out
        rw [← hl] at this ⊢
        exact this.stop)
      clear hP
      go_wp2_with (first | (((with_reducible refine wp_region_fut_lit (by kernel_rfl) (by kernel_rfl) ?_)); (repeat (go_big_quiet_step ((first | fail)))); ((with_reducible refine wpQuiet_nil ?_)); rintro _ ⟨u, rfl⟩; (try (rw [Fut.put_self u (by first | assumption | (simp [go_sem]; done) | (simp [go_sem]; omega))]))))
      (try (rw [Exit.noGoto_ret]))
      go_ret2
      rw [HR2.out] at HR
      obtain ⟨rfl, rfl⟩ := Prod.mk.inj HR.out
      exact .mk rfl (by repeat' (first | exact Below.refl _ _ | with_reducible assumption | omega | with_reducible refine below_put_fut ?_ ?_ _ | with_reducible refine below_to_put ?_ | with_reducible refine Below.alloc ?_ ?_ _ | with_reducible refine Below.fut ?_ ?_ _ | with_reducible refine Below.drew ?_ | with_reducible refine Below.setCell ?_ ?_ _ | with_reducible refine Below.atPut ?_ ?_ _ | (simp [go_sem]; done) | (simp [go_sem]; omega)))
end Go.Proofs.Ythknenhcnpgkcaa
