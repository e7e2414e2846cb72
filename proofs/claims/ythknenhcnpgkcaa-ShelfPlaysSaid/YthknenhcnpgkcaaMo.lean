/- Texts of this proof, merged: ShO1, ShO2, ShO3. -/
import Derived.Test.YthknenhcnpgkcaaMq
import Derived.Test.YthknenhcnpgkcaaMn
import Derived.Test.YthknenhcnpgkcaaMb
import Derived.IntWalk
import Derived.Laws.BytesArg
/- Two shelves at once. -/
namespace Go.Proofs.Ythknenhcnpgkcaa
open Go.RowKit
set_option linter.unusedVariables false
set_option linter.unusedSimpArgs false
/-- Blocks ga, gb are shelves that hold xs, ys and share nothing; all that has changed since w0 lies behind B. -/
def Two (B : Nat) (w0 : World) (most : Int) (xs ys : List It) (ga gb : Nat) (W : World) : Prop :=
  Below B w0 W ∧ ∃ ca ta cb tb, Shf most xs W ga ca ta ∧ Shf most ys W gb cb tb ∧ (∀ k, ca k + cb k ≤ 1) ∧ ∀ k, ca k + cb k ≠ 0 → B ≤ k
theorem Two.swap {B : Nat} {w0 : World} {most : Int} {xs ys : List It} {ga gb : Nat} {W : World} (h : Two B w0 most xs ys ga gb W) : Two B w0 most ys xs gb ga W := by
  obtain ⟨h1, ca, ta, cb, tb, ha, hb, hd, hg⟩ := h
  exact ⟨h1, cb, tb, ca, ta, hb, ha, fun k => by have := hd k; omega, fun k hk => hg k (by omega)⟩
theorem Two.left {B : Nat} {w0 : World} {most : Int} {xs ys : List It} {ga gb : Nat} {W : World} (h : Two B w0 most xs ys ga gb W) : Sh B w0 most xs ga W := by
  obtain ⟨h1, ca, ta, cb, tb, ha, hb, hd, hg⟩ := h
  exact ⟨h1, ca, ta, ha, fun k hk => hg k (by omega)⟩
theorem Two.on {B : Nat} {w0 : World} {most : Int} {xs ys : List It} {ga gb : Nat} {W W' : World} (h : Two B w0 most xs ys ga gb W) (hb' : Below W.heap.size W W') : Two B w0 most xs ys ga gb W' := by
  have hB := h.left.ge
  obtain ⟨h1, ca, ta, cb, tb, ha, hb, hd, hg⟩ := h
  exact ⟨h1.trans (hb'.mono hB), ca, ta, cb, tb, ha.on hb', hb.on hb', hd, hg⟩
theorem two_new {B : Nat} {w0 : World} {m : Int} {xs : List It} {ga : Nat} {W : World} (h : Sh B w0 m xs ga W) (most : Int) (hm : min (max most 0) 200 = m) :
    Calls Try.prog 25 #[.int .i64 most] W fun e W' => e = .returned (.pointer (some ⟨W.heap.size, 0, none⟩)) ∧ Two B w0 m xs [] ga W.heap.size W' := by
  have hB := h.ge
  obtain ⟨h1, c, top, h2, h3⟩ := h
  refine (new_is W most m hm).mono ?_
  rintro _ _ ⟨rfl, rfl⟩
  have hb : Below W.heap.size W (W.alloc (shfObj m 0 (.pointer none))) := (Below.refl _ _).alloc (Nat.le_refl _) _
  refine ⟨rfl, h1.trans (hb.mono hB), c, top, _, _, h2.on hb, shf_new m (heap_alloc_at _ _ _ rfl), fun k => ?_, fun k hk => ?_⟩
  · by_cases e : one W.heap.size k = 0
    · have := h2.le k; omega
    · have hk := one_ne e
      have h0 : c k = 0 := by
        rcases Nat.eq_zero_or_pos (c k) with z | z
        · exact z
        · have := h2.lt k (by omega); omega
      have := one_le W.heap.size k
      omega
  · by_cases e : c k = 0
    · have hk' := one_ne (show one W.heap.size k ≠ 0 by omega); omega
    · exact h3 k e
theorem two_put {B : Nat} {w0 : World} {most : Int} {xs ys : List It} {ga gb : Nat} {W : World} (h : Two B w0 most xs ys ga gb W) (hn : xs.length ≤ 1000) (k v : ByteArray) (r : Int) (xs' : List It) (he : putL most k v xs = (r, xs')) :
    Calls Try.prog 26 #[.pointer (some ⟨ga, 0, none⟩), .string k, .string v] W fun e W' => e = .returned (.int .i64 r) ∧ Two B w0 most xs' ys ga gb W' := by
  have hB := h.left.ge
  obtain ⟨h1, ca, ta, cb, tb, ha, hb, hd, hg⟩ := h
  refine (put_shf ha k v hn).mono ?_
  rintro _ W' ⟨c', t', rfl, h4, h5⟩
  rw [he] at h4 ⊢
  refine ⟨rfl, h1.trans (h5.chg.below hB fun k hk => hg k (by omega)), c', t', cb, tb, h4, hb.keep fun k hk => h5.chg.block k (hb.lt k hk) (fun e => by have := hd k; omega), fun k => ?_, fun k hk => ?_⟩
  · rcases Nat.lt_or_ge k W.heap.size with e | e
    · have := h5.old k e; have := hd k; omega
    · have h0 : cb k = 0 := by
        rcases Nat.eq_zero_or_pos (cb k) with z | z
        · exact z
        · have := hb.lt k (by omega); omega
      have := h5.le k
      omega
  · rcases Nat.lt_or_ge k W.heap.size with e | e
    · have := h5.old k e; exact hg k (by omega)
    · omega
end Go.Proofs.Ythknenhcnpgkcaa

/- rosarylaw4.deep and rosarylaw4.key. -/
namespace Go.Proofs.Ythknenhcnpgkcaa
open Go.RowKit
set_option linter.unusedVariables false
set_option linter.unusedSimpArgs false
def keyOf (k : Nat) : ByteArray := strOfNums [107, (k : Int) / 256, (k : Int) % 256]
theorem conv_key (w : World) (a b c : Int) : (convert 61 9 (.slice (some ⟨w.heap.size, 0, none⟩) 3 3)).run Try.prog (w.alloc (.cells #[.int .u8 a, .int .u8 b, .int .u8 c] 5)) = .ok (.string (strOfNums [a, b, c])) (w.alloc (.cells #[.int .u8 a, .int .u8 b, .int .u8 c] 5)) := by
  refine run_convert_bytes_arg (P := Try.prog) _ 61 5 Try.underlying61 Try.underlying5 w.heap.size 0 _ _ [a, b, c] rfl (fun i hi => ?_) _ Try.underlying9
  rw [World.cell?_alloc_new]
  have hi : i < 3 := hi
  rcases (show i = 0 ∨ i = 1 ∨ i = 2 by omega) with rfl | rfl | rfl <;> rfl
set_option maxRecDepth 100000 in
theorem key_is (w : World) (k : Nat) (hk : k ≤ 996) : Calls Try.prog 27 #[.int .i64 k] w (Makes (.string (keyOf k)) w) := by
  have hc := conv_key w 107 ((k : Int) / 256) ((k : Int) % 256)
  go_enter Try.func27, Try.ntmps27
  go_wp2_with (first | (((with_reducible refine wp_region_fut_lit (by kernel_rfl) (by kernel_rfl) ?_)); (repeat (go_big_quiet_step ((first | fail)))); ((with_reducible refine wpQuiet_nil ?_)); rintro _ ⟨u, rfl⟩; (try (rw [Fut.put_self u (by first | assumption | (simp [go_sem]; done) | (simp [go_sem]; omega))]))))
  go_ret; exact .mk (by first | rfl | (simp; done) | (simp; omega)) (by repeat' (first | exact Below.refl _ _ | with_reducible assumption | omega | with_reducible refine below_put_fut ?_ ?_ _ | with_reducible refine below_to_put ?_ | with_reducible refine Below.alloc ?_ ?_ _ | with_reducible refine Below.fut ?_ ?_ _ | with_reducible refine Below.drew ?_ | with_reducible refine Below.setCell ?_ ?_ _ | with_reducible refine Below.atPut ?_ ?_ _ | (simp [go_sem]; done) | (simp [go_sem]; omega)))
theorem deepN_one {n : Nat} (h0 : 0 < n) (h : n < 4) : deepN n = 1 := by
  obtain ⟨m, rfl⟩ : ∃ m, n = m + 1 := ⟨n - 1, by omega⟩
  unfold deepN
  rw [if_neg (by omega), deepUp, if_pos h]
theorem deepUp_fuel : ∀ (f g n : Nat), n ≤ f → n ≤ g → 0 < n → deepUp f n = deepUp g n
  | 0, g, n, h1, h2, h3 => by omega
  | f + 1, 0, n, h1, h2, h3 => by omega
  | f + 1, g + 1, n, h1, h2, h3 => by
    rw [deepUp, deepUp]
    by_cases c : n < 4
    · rw [if_pos c, if_pos c]
    · rw [if_neg c, if_neg c, deepUp_fuel f g (n / 4) (by omega) (by omega) (by omega)]
theorem deepN_step {n : Nat} (h : 4 ≤ n) : deepN n = deepN (n / 4) + 1 := by
  obtain ⟨m, rfl⟩ : ∃ m, n = m + 1 := ⟨n - 1, by omega⟩
  unfold deepN
  rw [if_neg (by omega), if_neg (by omega), deepUp, if_neg (by omega), deepUp_fuel m ((m + 1) / 4) _ (by omega) (by omega) (by omega)]
theorem deep_is (w : World) (n : Nat) (hn : n ≤ 1000) : Calls Try.prog 31 #[.int .i64 n] w (Makes (.int .i64 (deepN n : Nat)) w) := by
  rcases Nat.eq_zero_or_pos n with rfl | h0
  · go_enter Try.func31, Try.ntmps31
    go_wp2_with (first | (((with_reducible refine wp_region_fut_lit (by kernel_rfl) (by kernel_rfl) ?_)); (repeat (go_big_quiet_step ((first | fail)))); ((with_reducible refine wpQuiet_nil ?_)); rintro _ ⟨u, rfl⟩; (try (rw [Fut.put_self u (by first | assumption | (simp [go_sem]; done) | (simp [go_sem]; omega))]))))
    go_ret; exact .mk (by first | rfl | (simp; done) | (simp; omega)) (by repeat' (first | exact Below.refl _ _ | with_reducible assumption | omega | with_reducible refine below_put_fut ?_ ?_ _ | with_reducible refine below_to_put ?_ | with_reducible refine Below.alloc ?_ ?_ _ | with_reducible refine Below.fut ?_ ?_ _ | with_reducible refine Below.drew ?_ | with_reducible refine Below.setCell ?_ ?_ _ | with_reducible refine Below.atPut ?_ ?_ _ | (simp [go_sem]; done) | (simp [go_sem]; omega)))
  have e0 : (((n : Int) == 0) : Bool) = false := by simp; omega
  go_enter Try.func31, Try.ntmps31
  go_wp2
  go_loopw [0, 3] (fun a d wr => ∃ m j : Nat, 0 < m ∧ j + m ≤ n + 1 ∧ j + deepN m = deepN n + 1 ∧ a = .int .i64 m ∧ d = .int .i64 j ∧ ∃ u : Fut w, wr = u.val) (fun a _ _ => (intOf a).toNat)
  case atStart => exact ⟨n, 1, h0, by omega, by omega, rfl, rfl, ⟨⟨_, (by repeat' (first | exact Below.refl _ _ | with_reducible assumption | omega | with_reducible refine below_put_fut ?_ ?_ _ | with_reducible refine below_to_put ?_ | with_reducible refine Below.alloc ?_ ?_ _ | with_reducible refine Below.fut ?_ ?_ _ | with_reducible refine Below.drew ?_ | with_reducible refine Below.setCell ?_ ?_ _ | with_reducible refine Below.atPut ?_ ?_ _ | (simp [go_sem]; done) | (simp [go_sem]; omega)))⟩, rfl⟩⟩
  case round =>
    obtain ⟨m, j, hm, hjm, hd, rfl, rfl, u, rfl⟩ := hrel
    by_cases hlt : 4 ≤ m
    · have hs := deepN_step hlt
      go_wp2_with (first | (((with_reducible refine wp_region_fut_lit (by kernel_rfl) (by kernel_rfl) ?_)); (repeat (go_big_quiet_step ((first | fail)))); ((with_reducible refine wpQuiet_nil ?_)); rintro _ ⟨u, rfl⟩; (try (rw [Fut.put_self u (by first | assumption | (simp [go_sem]; done) | (simp [go_sem]; omega))]))))
      go_roundw
      case rel => exact ⟨m / 4, j + 1, by omega, by omega, by omega, by go_num, by go_num, ⟨⟨_, (by repeat' (first | exact Below.refl _ _ | with_reducible assumption | omega | with_reducible refine below_put_fut ?_ ?_ _ | with_reducible refine below_to_put ?_ | with_reducible refine Below.alloc ?_ ?_ _ | with_reducible refine Below.fut ?_ ?_ _ | with_reducible refine Below.drew ?_ | with_reducible refine Below.setCell ?_ ?_ _ | with_reducible refine Below.atPut ?_ ?_ _ | (simp [go_sem]; done) | (simp [go_sem]; omega)))⟩, rfl⟩⟩
      case measure => simp [intOf]; omega
    · have hs := deepN_one hm (by omega)
      obtain rfl : j = deepN n := by omega
      go_wp2_with (first | (((with_reducible refine wp_region_fut_lit (by kernel_rfl) (by kernel_rfl) ?_)); (repeat (go_big_quiet_step ((first | fail)))); ((with_reducible refine wpQuiet_nil ?_)); rintro _ ⟨u, rfl⟩; (try (rw [Fut.put_self u (by first | assumption | (simp [go_sem]; done) | (simp [go_sem]; omega))]))))
      go_ret; exact .mk (by first | rfl | (simp; done) | (simp; omega)) (by repeat' (first | exact Below.refl _ _ | with_reducible assumption | omega | with_reducible refine below_put_fut ?_ ?_ _ | with_reducible refine below_to_put ?_ | with_reducible refine Below.alloc ?_ ?_ _ | with_reducible refine Below.fut ?_ ?_ _ | with_reducible refine Below.drew ?_ | with_reducible refine Below.setCell ?_ ?_ _ | with_reducible refine Below.atPut ?_ ?_ _ | (simp [go_sem]; done) | (simp [go_sem]; omega)))
end Go.Proofs.Ythknenhcnpgkcaa

/- The items of ShelfOrders: 150 keys at most, no two alike; put in whatever order, the same list. Plain lists. -/
namespace Go.Proofs.Ythknenhcnpgkcaa
open Go.RowKit
set_option linter.unusedVariables false
set_option linter.unusedSimpArgs false
set_option maxRecDepth 100000 in
theorem gcd997 : ∀ s, s < 997 → (0 < s → Nat.gcd 997 s = 1) := by decide +kernel
theorem step_le {step i j : Nat} (h1 : 1 ≤ step) (h2 : step ≤ 996) (hij : i ≤ j) (hj : j < 150) (e : i * step % 997 = j * step % 997) : i = j := by
  have hm : i * step ≤ j * step := Nat.mul_le_mul_right _ hij
  have hd : 997 ∣ (j - i) * step := by
    rw [Nat.sub_mul]
    exact Nat.dvd_of_mod_eq_zero (by omega)
  have hc : Nat.Coprime 997 step := gcd997 step (by omega) (by omega)
  have h3 := hc.dvd_of_dvd_mul_right hd
  have := Nat.eq_zero_of_dvd_of_lt h3 (by omega)
  omega
theorem step_inj {step i j : Nat} (h1 : 1 ≤ step) (h2 : step ≤ 996) (hi : i < 150) (hj : j < 150) (e : i * step % 997 = j * step % 997) : i = j := by
  rcases Nat.le_total i j with c | c
  · exact step_le h1 h2 c hj e
  · exact (step_le h1 h2 c hi e.symm).symm
theorem keyOf_inj {a b : Nat} (ha : a ≤ 996) (hb : b ≤ 996) (e : keyOf a = keyOf b) : a = b := by
  unfold keyOf strOfNums at e
  simp only [List.map_cons, List.map_nil, ByteArray.mk.injEq] at e
  have e := Array.toList_inj.2 e
  simp only [List.cons.injEq, and_true, true_and] at e
  obtain ⟨e1, e2⟩ := e
  have e1 := congrArg UInt8.toNat e1
  have e2 := congrArg UInt8.toNat e2
  simp only [UInt8.toNat_ofNat'] at e1 e2
  omega
theorem keyOf_size (a : Nat) : (keyOf a).size = 3 := rfl
def it (step j : Nat) : It := (keyOf (j * step % 997), ⟨#[118]⟩)
theorem it_inj {step i j : Nat} (h1 : 1 ≤ step) (h2 : step ≤ 996) (hi : i < 150) (hj : j < 150) (e : (it step i).1 = (it step j).1) : i = j :=
  step_inj h1 h2 hi hj (keyOf_inj (by have := Nat.mod_lt (i * step) (show 997 > 0 by omega); omega) (by have := Nat.mod_lt (j * step) (show 997 > 0 by omega); omega) e)
theorem mem_insL {x y : It} {xs : List It} : y ∈ insL x xs ↔ y = x ∨ y ∈ xs := by
  induction xs with
  | nil => simp [insL]
  | cons z zs ih =>
    rw [insL]
    split
    · simp only [List.mem_cons, ih]
      constructor
      · rintro (h | h | h) <;> simp [h]
      · rintro (h | h | h) <;> simp [h]
    · simp only [List.mem_cons]
theorem putL_new {most : Int} {k v : ByteArray} {xs : List It} (h1 : 1 ≤ k.size) (h2 : k.size ≤ 16) (hv : v.size ≤ 16) (hn : ∀ x ∈ xs, x.1 ≠ k) (hm : (xs.length : Int) < most) : putL most k v xs = (0, insL (k, v) xs) := by
  unfold putL
  rw [if_neg (by omega), if_neg (by omega), valueOf_none_iff.2 hn, if_neg (by simp), if_neg (by omega)]
/-- xs holds the items lo up to hi, each once, by key. -/
structure Has (step lo hi : Nat) (xs : List It) : Prop where
  len : xs.length = hi - lo
  rises : Rises xs
  mem : ∀ x, x ∈ xs ↔ ∃ j, lo ≤ j ∧ j < hi ∧ x = it step j
theorem Has.none (step n : Nat) : Has step n n [] := ⟨by simp, List.Pairwise.nil, fun x => ⟨by simp, by rintro ⟨j, h1, h2, _⟩; omega⟩⟩
theorem Has.up {step lo hi : Nat} {xs : List It} (h : Has step lo hi xs) (h1 : 1 ≤ step) (h2 : step ≤ 996) (hl : lo ≤ hi) (hh : hi < 150) : ∃ xs', putL 200 (it step hi).1 ⟨#[118]⟩ xs = (0, xs') ∧ Has step lo (hi + 1) xs' := by
  have hp : putL 200 (it step hi).1 ⟨#[118]⟩ xs = (0, insL (it step hi) xs) := by
    refine putL_new (by simp [it, keyOf_size]) (by simp [it, keyOf_size]) (by decide) (fun x hx e => ?_) (by have := h.len; omega)
    obtain ⟨j, a, b, rfl⟩ := (h.mem x).1 hx
    have := it_inj h1 h2 (by omega) hh e
    omega
  refine ⟨_, hp, by rw [insL_length, h.len]; omega, ?_, fun x => ?_⟩
  · have := putL_rises (most := 200) (k := (it step hi).1) (v := ⟨#[118]⟩) h.rises
    rw [hp] at this; exact this
  · rw [mem_insL, h.mem]
    constructor
    · rintro (rfl | ⟨j, a, b, rfl⟩)
      · exact ⟨hi, hl, by omega, rfl⟩
      · exact ⟨j, a, by omega, rfl⟩
    · rintro ⟨j, a, b, rfl⟩
      by_cases e : j = hi
      · left; rw [e]
      · right; exact ⟨j, a, by omega, rfl⟩
theorem Has.down {step lo hi : Nat} {xs : List It} (h : Has step (lo + 1) hi xs) (h1 : 1 ≤ step) (h2 : step ≤ 996) (hl : lo < hi) (hh : hi ≤ 150) : ∃ xs', putL 200 (it step lo).1 ⟨#[118]⟩ xs = (0, xs') ∧ Has step lo hi xs' := by
  have hp : putL 200 (it step lo).1 ⟨#[118]⟩ xs = (0, insL (it step lo) xs) := by
    refine putL_new (by simp [it, keyOf_size]) (by simp [it, keyOf_size]) (by decide) (fun x hx e => ?_) (by have := h.len; omega)
    obtain ⟨j, a, b, rfl⟩ := (h.mem x).1 hx
    have := it_inj h1 h2 (by omega) (by omega) e
    omega
  refine ⟨_, hp, by rw [insL_length, h.len]; omega, ?_, fun x => ?_⟩
  · have := putL_rises (most := 200) (k := (it step lo).1) (v := ⟨#[118]⟩) h.rises
    rw [hp] at this; exact this
  · rw [mem_insL, h.mem]
    constructor
    · rintro (rfl | ⟨j, a, b, rfl⟩)
      · exact ⟨lo, Nat.le_refl _, hl, rfl⟩
      · exact ⟨j, by omega, b, rfl⟩
    · rintro ⟨j, a, b, rfl⟩
      by_cases e : j = lo
      · left; rw [e]
      · right; exact ⟨j, by omega, b, rfl⟩
theorem Has.eq {step lo hi : Nat} {xs ys : List It} (h : Has step lo hi xs) (k : Has step lo hi ys) : xs = ys :=
  Rises.ext h.rises k.rises fun x => by rw [h.mem, k.mem]
theorem Has.next {step lo hi : Nat} {xs : List It} (h : Has step lo hi xs) {i : Nat} {a b : It} (ha : xs[i]? = some a) (hb : xs[i + 1]? = some b) : lt a.1 b.1 = true := by
  obtain ⟨h1, rfl⟩ := List.getElem?_eq_some_iff.1 ha
  obtain ⟨h2, rfl⟩ := List.getElem?_eq_some_iff.1 hb
  exact List.pairwise_iff_getElem.1 h.rises i (i + 1) h1 h2 (by omega)
end Go.Proofs.Ythknenhcnpgkcaa
