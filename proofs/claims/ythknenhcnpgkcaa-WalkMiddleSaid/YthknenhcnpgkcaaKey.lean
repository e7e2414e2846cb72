import Derived.Test.YthknenhcnpgkcaaL
/- Contracts of package key. -/
namespace Go.Proofs.Ythknenhcnpgkcaa
open Go.RowKit
theorem less_nil_left (l : List UInt8) : Op.bytesLess [] l = decide (0 < l.length) := by cases l <;> simp [Op.bytesLess]
theorem less_nil_right (l : List UInt8) : Op.bytesLess l [] = false := by cases l <;> simp [Op.bytesLess]
theorem less_cons (x y : UInt8) (l m : List UInt8) : Op.bytesLess (x :: l) (y :: m) = (decide (x.toNat < y.toNat) || (decide (x.toNat = y.toNat) && Op.bytesLess l m)) := by
  simp only [Op.bytesLess]
  congr 1
  · congr 1
    rw [Bool.eq_iff_iff]; simp [← UInt8.toNat_inj]
theorem drop_at (a : ByteArray) (i : Nat) (h : i < a.size) : a.data.toList.drop i = a[i] :: a.data.toList.drop (i + 1) := by
  rw [List.drop_eq_getElem_cons (by simpa using h)]; rfl
theorem drop_end (a : ByteArray) (i : Nat) (h : a.size ≤ i) : a.data.toList.drop i = [] := by
  rw [List.drop_eq_nil_iff]; simpa using h
theorem drop_len (a : ByteArray) (i : Nat) : (a.data.toList.drop i).length = a.size - i := by simp
def LessAt (a b : ByteArray) (i : Nat) : Prop := Op.bytesLess (a.data.toList.drop i) (b.data.toList.drop i) = Op.bytesLess a.data.toList b.data.toList
theorem LessAt.zero (a b : ByteArray) : LessAt a b 0 := rfl
theorem LessAt.succ {a b : ByteArray} {i : Nat} (h : LessAt a b i) (ha : i < a.size) (hb : i < b.size) (e : a[i].toNat = b[i].toNat) : LessAt a b (i + 1) := by
  unfold LessAt at *
  rw [← h, drop_at a i ha, drop_at b i hb, less_cons, e]; simp
theorem LessAt.lt {a b : ByteArray} {i : Nat} (h : LessAt a b i) (ha : i < a.size) (hb : i < b.size) (e : a[i].toNat < b[i].toNat) : Op.bytesLess a.data.toList b.data.toList = true := by
  unfold LessAt at *
  rw [← h, drop_at a i ha, drop_at b i hb, less_cons]; simp [e]
theorem LessAt.gt {a b : ByteArray} {i : Nat} (h : LessAt a b i) (ha : i < a.size) (hb : i < b.size) (e : b[i].toNat < a[i].toNat) : Op.bytesLess a.data.toList b.data.toList = false := by
  unfold LessAt at *
  rw [← h, drop_at a i ha, drop_at b i hb, less_cons]; simp; omega
theorem LessAt.stop {a b : ByteArray} {i : Nat} (h : LessAt a b i) (ha : i ≤ a.size) (hb : i ≤ b.size) (e : i = a.size ∨ i = b.size) : Op.bytesLess a.data.toList b.data.toList = decide (a.size < b.size) := by
  unfold LessAt at *
  rw [← h]
  rcases e with rfl | rfl
  · rw [drop_end a _ (Nat.le_refl _), less_nil_left, drop_len]; congr 1; simp only [eq_iff_iff]; omega
  · rw [drop_end b _ (Nat.le_refl _), less_nil_right]; simp; omega
theorem Fut.trans {w : World} (u : Fut w) (u' : Fut u.val) : ∃ v : Fut w, u'.val = v.val := ⟨⟨u'.val, Below.fut u.below u.below.size u'⟩, rfl⟩
set_option maxHeartbeats 1000000 in
theorem less_any (a b : ByteArray) (ha : a.size ≤ maxLen) (hb : b.size ≤ maxLen) (w : World) :
    Calls Try.prog 77 #[.string a, .string b] w (Makes (.bool (Op.bytesLess a.data.toList b.data.toList)) w) := by
  unfold maxLen at ha hb
  rcases Decidable.em (b.size < a.size) with h | h
  · go_enter Try.func77, Try.ntmps77
    go_wp2
    go_step3
    go_wp2
    go_step3
    go_wp2
    go_loopw [5, 17] (fun v x wr => ∃ i : Nat, i ≤ b.size ∧ x = .int .i64 i ∧ v = .bool (decide (a.size < b.size)) ∧ Hid (LessAt a b i) ∧ ∃ u : Fut w, wr = u.val) (fun _ x _ => b.size - (intOf x).toNat)
    case atStart => exact ⟨0, Nat.zero_le _, rfl, rfl, hid (.zero a b), ⟨⟨w, Below.refl _ _⟩, rfl⟩⟩
    case round =>
      obtain ⟨i, hi, rfl, rfl, hl, u, rfl⟩ := hrel
      by_cases hk : i < b.size
      · have hia : i < a.size := by omega
        have hib : i < b.size := by omega
        rcases Nat.lt_trichotomy a[i].toNat b[i].toNat with c | c | c
        · have HR := hid (hl.out.lt hia hib c)
          go_wp2_with (first | (((with_reducible refine wp_region_fut_lit (by kernel_rfl) (by kernel_rfl) ?_)); (repeat (go_big_quiet_step ((first | fail)))); ((with_reducible refine wpQuiet_nil ?_)); rintro _ ⟨u, rfl⟩; (try (rw [Fut.put_self u (by first | assumption | (simp [go_sem]; done) | (simp [go_sem]; omega))]))))
          rw [Exit.noGoto_ret]
          go_ret
          exact .mk (by rw [HR.out]; rfl) (by repeat' (first | exact Below.refl _ _ | with_reducible assumption | omega | with_reducible refine below_put_fut ?_ ?_ _ | with_reducible refine below_to_put ?_ | with_reducible refine Below.alloc ?_ ?_ _ | with_reducible refine Below.fut ?_ ?_ _ | with_reducible refine Below.drew ?_ | with_reducible refine Below.setCell ?_ ?_ _ | with_reducible refine Below.atPut ?_ ?_ _ | (simp [go_sem]; done) | (simp [go_sem]; omega)))
        · have HR := hid (hl.out.succ hia hib c)
          have c1 : a[i].toNat ≤ b[i].toNat := by omega
          have c2 : b[i].toNat ≤ a[i].toNat := by omega
          clear c
          go_wp2_with (first | (((with_reducible refine wp_region_fut_lit (by kernel_rfl) (by kernel_rfl) ?_)); (repeat (go_big_quiet_step ((first | fail)))); ((with_reducible refine wpQuiet_nil ?_)); rintro _ ⟨u, rfl⟩; (try (rw [Fut.put_self u (by first | assumption | (simp [go_sem]; done) | (simp [go_sem]; omega))]))))
          go_roundw
          case rel => exact ⟨i + 1, by omega, by go_num, rfl, HR, ⟨⟨_, (by repeat' (first | exact Below.refl _ _ | with_reducible assumption | omega | with_reducible refine below_put_fut ?_ ?_ _ | with_reducible refine below_to_put ?_ | with_reducible refine Below.alloc ?_ ?_ _ | with_reducible refine Below.fut ?_ ?_ _ | with_reducible refine Below.drew ?_ | with_reducible refine Below.setCell ?_ ?_ _ | with_reducible refine Below.atPut ?_ ?_ _ | (simp [go_sem]; done) | (simp [go_sem]; omega)))⟩, rfl⟩⟩
          case measure => simp [intOf]; omega
        · have HR := hid (hl.out.gt hia hib c)
          go_wp2_with (first | (((with_reducible refine wp_region_fut_lit (by kernel_rfl) (by kernel_rfl) ?_)); (repeat (go_big_quiet_step ((first | fail)))); ((with_reducible refine wpQuiet_nil ?_)); rintro _ ⟨u, rfl⟩; (try (rw [Fut.put_self u (by first | assumption | (simp [go_sem]; done) | (simp [go_sem]; omega))]))))
          rw [Exit.noGoto_ret]
          go_ret
          exact .mk (by rw [HR.out]; rfl) (by repeat' (first | exact Below.refl _ _ | with_reducible assumption | omega | with_reducible refine below_put_fut ?_ ?_ _ | with_reducible refine below_to_put ?_ | with_reducible refine Below.alloc ?_ ?_ _ | with_reducible refine Below.fut ?_ ?_ _ | with_reducible refine Below.drew ?_ | with_reducible refine Below.setCell ?_ ?_ _ | with_reducible refine Below.atPut ?_ ?_ _ | (simp [go_sem]; done) | (simp [go_sem]; omega)))
      · have HR := hid (hl.out.stop (by omega) (by omega) (by omega))
        go_wp2_with (first | (((with_reducible refine wp_region_fut_lit (by kernel_rfl) (by kernel_rfl) ?_)); (repeat (go_big_quiet_step ((first | fail)))); ((with_reducible refine wpQuiet_nil ?_)); rintro _ ⟨u, rfl⟩; (try (rw [Fut.put_self u (by first | assumption | (simp [go_sem]; done) | (simp [go_sem]; omega))]))))
        rw [Exit.noGoto_ret]
        go_ret
        exact .mk (by rw [HR.out]; rfl) (by repeat' (first | exact Below.refl _ _ | with_reducible assumption | omega | with_reducible refine below_put_fut ?_ ?_ _ | with_reducible refine below_to_put ?_ | with_reducible refine Below.alloc ?_ ?_ _ | with_reducible refine Below.fut ?_ ?_ _ | with_reducible refine Below.drew ?_ | with_reducible refine Below.setCell ?_ ?_ _ | with_reducible refine Below.atPut ?_ ?_ _ | (simp [go_sem]; done) | (simp [go_sem]; omega)))
  · go_enter Try.func77, Try.ntmps77
    go_wp2
    go_step3
    go_wp2
    go_step3
    go_wp2
    go_loopw [5, 17] (fun v x wr => ∃ i : Nat, i ≤ a.size ∧ x = .int .i64 i ∧ v = .bool (decide (a.size < b.size)) ∧ Hid (LessAt a b i) ∧ ∃ u : Fut w, wr = u.val) (fun _ x _ => a.size - (intOf x).toNat)
    case atStart => exact ⟨0, Nat.zero_le _, rfl, rfl, hid (.zero a b), ⟨⟨w, Below.refl _ _⟩, rfl⟩⟩
    case round =>
      obtain ⟨i, hi, rfl, rfl, hl, u, rfl⟩ := hrel
      by_cases hk : i < a.size
      · have hia : i < a.size := by omega
        have hib : i < b.size := by omega
        rcases Nat.lt_trichotomy a[i].toNat b[i].toNat with c | c | c
        · have HR := hid (hl.out.lt hia hib c)
          go_wp2_with (first | (((with_reducible refine wp_region_fut_lit (by kernel_rfl) (by kernel_rfl) ?_)); (repeat (go_big_quiet_step ((first | fail)))); ((with_reducible refine wpQuiet_nil ?_)); rintro _ ⟨u, rfl⟩; (try (rw [Fut.put_self u (by first | assumption | (simp [go_sem]; done) | (simp [go_sem]; omega))]))))
          rw [Exit.noGoto_ret]
          go_ret
          exact .mk (by rw [HR.out]; rfl) (by repeat' (first | exact Below.refl _ _ | with_reducible assumption | omega | with_reducible refine below_put_fut ?_ ?_ _ | with_reducible refine below_to_put ?_ | with_reducible refine Below.alloc ?_ ?_ _ | with_reducible refine Below.fut ?_ ?_ _ | with_reducible refine Below.drew ?_ | with_reducible refine Below.setCell ?_ ?_ _ | with_reducible refine Below.atPut ?_ ?_ _ | (simp [go_sem]; done) | (simp [go_sem]; omega)))
        · have HR := hid (hl.out.succ hia hib c)
          have c1 : a[i].toNat ≤ b[i].toNat := by omega
          have c2 : b[i].toNat ≤ a[i].toNat := by omega
          clear c
          go_wp2_with (first | (((with_reducible refine wp_region_fut_lit (by kernel_rfl) (by kernel_rfl) ?_)); (repeat (go_big_quiet_step ((first | fail)))); ((with_reducible refine wpQuiet_nil ?_)); rintro _ ⟨u, rfl⟩; (try (rw [Fut.put_self u (by first | assumption | (simp [go_sem]; done) | (simp [go_sem]; omega))]))))
          go_roundw
          case rel => exact ⟨i + 1, by omega, by go_num, rfl, HR, ⟨⟨_, (by repeat' (first | exact Below.refl _ _ | with_reducible assumption | omega | with_reducible refine below_put_fut ?_ ?_ _ | with_reducible refine below_to_put ?_ | with_reducible refine Below.alloc ?_ ?_ _ | with_reducible refine Below.fut ?_ ?_ _ | with_reducible refine Below.drew ?_ | with_reducible refine Below.setCell ?_ ?_ _ | with_reducible refine Below.atPut ?_ ?_ _ | (simp [go_sem]; done) | (simp [go_sem]; omega)))⟩, rfl⟩⟩
          case measure => simp [intOf]; omega
        · have HR := hid (hl.out.gt hia hib c)
          go_wp2_with (first | (((with_reducible refine wp_region_fut_lit (by kernel_rfl) (by kernel_rfl) ?_)); (repeat (go_big_quiet_step ((first | fail)))); ((with_reducible refine wpQuiet_nil ?_)); rintro _ ⟨u, rfl⟩; (try (rw [Fut.put_self u (by first | assumption | (simp [go_sem]; done) | (simp [go_sem]; omega))]))))
          rw [Exit.noGoto_ret]
          go_ret
          exact .mk (by rw [HR.out]; rfl) (by repeat' (first | exact Below.refl _ _ | with_reducible assumption | omega | with_reducible refine below_put_fut ?_ ?_ _ | with_reducible refine below_to_put ?_ | with_reducible refine Below.alloc ?_ ?_ _ | with_reducible refine Below.fut ?_ ?_ _ | with_reducible refine Below.drew ?_ | with_reducible refine Below.setCell ?_ ?_ _ | with_reducible refine Below.atPut ?_ ?_ _ | (simp [go_sem]; done) | (simp [go_sem]; omega)))
      · have HR := hid (hl.out.stop (by omega) (by omega) (by omega))
        go_wp2_with (first | (((with_reducible refine wp_region_fut_lit (by kernel_rfl) (by kernel_rfl) ?_)); (repeat (go_big_quiet_step ((first | fail)))); ((with_reducible refine wpQuiet_nil ?_)); rintro _ ⟨u, rfl⟩; (try (rw [Fut.put_self u (by first | assumption | (simp [go_sem]; done) | (simp [go_sem]; omega))]))))
        rw [Exit.noGoto_ret]
        go_ret
        exact .mk (by rw [HR.out]; rfl) (by repeat' (first | exact Below.refl _ _ | with_reducible assumption | omega | with_reducible refine below_put_fut ?_ ?_ _ | with_reducible refine below_to_put ?_ | with_reducible refine Below.alloc ?_ ?_ _ | with_reducible refine Below.fut ?_ ?_ _ | with_reducible refine Below.drew ?_ | with_reducible refine Below.setCell ?_ ?_ _ | with_reducible refine Below.atPut ?_ ?_ _ | (simp [go_sem]; done) | (simp [go_sem]; omega)))
end Go.Proofs.Ythknenhcnpgkcaa
