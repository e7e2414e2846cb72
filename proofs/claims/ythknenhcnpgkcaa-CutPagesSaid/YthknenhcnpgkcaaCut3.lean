/- Package cut: Out. -/
import Derived.Test.YthknenhcnpgkcaaCut2
import Derived.Test.YthknenhcnpgkcaaWkArW
namespace Go.Proofs.Ythknenhcnpgkcaa
open Go.RowKit Go.Shelf
set_option linter.unusedVariables false
set_option linter.unusedSimpArgs false
/-- Keys taken away one after the other. -/
def dels (ks : List It) (xs : List It) : List It := ks.foldl (fun zs it => delL it.1 zs) xs
theorem dels_filter : ∀ (ks xs : List It), dels ks xs = xs.filter fun x => decide (∀ it ∈ ks, x.1 ≠ it.1)
  | [], xs => (List.filter_eq_self.2 (by simp)).symm
  | k :: ks, xs => by
    have ih := dels_filter ks (delL k.1 xs)
    show dels ks (delL k.1 xs) = _
    rw [ih]
    unfold delL
    rw [List.filter_filter]
    congr 1
    funext x
    by_cases c : x.1 = k.1
    · simp [c]
    · simp [c]
theorem dels_snoc (ks : List It) (x : It) (xs : List It) : dels (ks ++ [x]) xs = delL x.1 (dels ks xs) := by
  unfold dels
  rw [List.foldl_append]
  rfl
/-- What an arc leaves. -/
def outL (a b : Int) (xs : List It) : List It := xs.filter fun x => !inArc a b (adr x)
theorem dels_arc {a b : Int} (ha : 0 ≤ a) (ha2 : a < 18446744073709551616) (hb : 0 ≤ b) (hb2 : b < 18446744073709551616) {xs : List It} (hr : Rises xs) : dels (arcL a b xs) xs = outL a b xs := by
  rw [dels_filter]
  unfold outL
  refine List.filter_congr fun x hx => ?_
  cases c : inArc a b (adr x)
  · simp only [Bool.not_false, decide_eq_true_eq]
    intro it hit e
    obtain ⟨h1, h2⟩ := (arcL_mem ha ha2 hb hb2).1 hit
    have := hr.key_inj hx h1 e
    rw [this, h2] at c
    cases c
  · simp only [Bool.not_true, decide_eq_false_iff_not]
    exact fun h => h x ((arcL_mem ha ha2 hb hb2).2 ⟨hx, c⟩) rfl
theorem Held.rises {w X : World} {F : Nat → Prop} {ys : List It} {gs : Nat} (h : Held w X F ys gs) : Rises ys := by
  obtain ⟨h1, h2, h3, c, top, h4, h5, h6⟩ := h
  exact h4.rises
theorem Held.small {w X : World} {F : Nat → Prop} {ys : List It} {gs : Nat} (h : Held w X F ys gs) : ∀ x ∈ ys, x.1.size ≤ maxLen := by
  obtain ⟨h1, h2, h3, c, top, h4, h5, h6⟩ := h
  exact fun x hx => (h4.small x hx).1
set_option maxRecDepth 100000 in
set_option maxHeartbeats 4000000 in
theorem cutOut_is {w W : World} {F : Nat → Prop} {xs : List It} {gs : Nat} (hH : Held w W F xs gs) (a b : Int) (ha : 0 ≤ a) (ha2 : a < 18446744073709551616) (hb : 0 ≤ b) (hb2 : b < 18446744073709551616) (n : Nat) (hl : (arcL a b xs).length = n) :
    Calls Try.prog 63 #[.pointer (some ⟨gs, 0, none⟩), .agg #[.int .u64 a, .int .u64 b]] W fun e W' => ∃ ao c, e = .returned (.slice ao n c) ∧ Row W' 34 2 (.slice ao n c) n (flat (arcL a b xs)) ∧ Held w W' (fun k => F k ∨ blk (.slice ao n c) k ≠ 0) (outL a b xs) gs ∧ (∀ k, F k → W'.heap[k]? = W.heap[k]?) ∧ ∀ k, k < W.heap.size → blk (.slice ao n c) k = 0 := by
  have hn200 : xs.length ≤ 200 := hH.2.2.1
  have hle := arcL_len_le ha ha2 hb hb2 xs
  have hn2 : n ≤ 200 := by omega
  have HL := hid hl
  have HH := hid hH
  have HSM := hid hH.small
  have HDE := hid (dels_arc ha ha2 hb hb2 hH.rises)
  clear hH hl hle
  go_enter Try.func63, Try.ntmps63
  go_wp2_with fail
  (((with_reducible refine (walkArc_is (some ⟨gs, 0, none⟩) a b _).mono ?_)); rintro _ _ ⟨rfl, rfl⟩)
  go_wp2_with fail
  obtain ⟨k0, k1, k2⟩ := (show ∀ (W : World) (o0 o1 o2 : Obj), (((W.alloc o0).alloc o1).alloc o2).heap[W.heap.size]? = some o0 ∧ (((W.alloc o0).alloc o1).alloc o2).heap[W.heap.size + 1]? = some o1 ∧ (((W.alloc o0).alloc o1).alloc o2).heap[W.heap.size + 1 + 1]? = some o2 from fun W o0 o1 o2 => ⟨(heap_alloc_other _ _ _ (by simp only [World.size_alloc]; omega)).trans ((heap_alloc_other _ _ _ (by simp only [World.size_alloc]; omega)).trans (heap_alloc_at _ _ _ (by simp))), (heap_alloc_other _ _ _ (by simp only [World.size_alloc]; omega)).trans (heap_alloc_at _ _ _ (by simp)), heap_alloc_at _ _ _ (by simp)⟩) W (.cells #[.int .u64 a, .int .u64 b] 38) (.cells #[.pointer (some ⟨gs, 0, none⟩)] 23) (.cells #[.int .u64 a, .int .u64 b] 38)
  have hbV : Below W.heap.size W (((W.alloc (.cells #[.int .u64 a, .int .u64 b] 38)).alloc (.cells #[.pointer (some ⟨gs, 0, none⟩)] 23)).alloc (.cells #[.int .u64 a, .int .u64 b] 38)) := (by repeat' (first | exact Below.refl _ _ | with_reducible assumption | omega | with_reducible refine below_put_fut ?_ ?_ _ | with_reducible refine below_to_put ?_ | with_reducible refine Below.alloc ?_ ?_ _ | with_reducible refine Below.fut ?_ ?_ _ | with_reducible refine Below.drew ?_ | with_reducible refine Below.setCell ?_ ?_ _ | with_reducible refine Below.atPut ?_ ?_ _ | (simp [go_sem]; done) | (simp [go_sem]; omega)))
  try simp only [World.size_alloc]
  generalize (((W.alloc (.cells #[.int .u64 a, .int .u64 b] 38)).alloc (.cells #[.pointer (some ⟨gs, 0, none⟩)] 23)).alloc (.cells #[.int .u64 a, .int .u64 b] 38)) = V at k0 k1 k2 hbV ⊢
  have HV := hid (HH.out.on hbV)
  refine (sh_collectArc HV.out.sh (by omega) ha ha2 hb hb2 (W.heap.size + 1) k1 k2 200 (by omega) (by omega)).mono ?_
  rintro _ W2 ⟨ao, k, c, rfl, hr, hk, hb2', hf⟩
  rw [List.take_of_length_le (by rw [HL.out]; omega)] at hr
  rw [HL.out] at hk
  obtain rfl : k = n := by omega
  have hbW2 : Below W.heap.size W W2 := hbV.trans (hb2'.mono hbV.size)
  have hfr : ∀ j, j < W.heap.size → blk (.slice ao k c) j = 0 := fun j hj => hf j (Nat.lt_of_lt_of_le hj hbV.size)
  have HR := hid hr
  have HH2 := hid (show Held w W2 (fun j => F j ∨ blk (.slice ao k c) j ≠ 0) xs gs from (HH.out.turn (G := fun j => F j ∨ blk (.slice ao k c) j ≠ 0) (Chg.of_below hbW2) fun j hj => by
    rcases hj with hj | hj
    · refine ⟨?_, fun _ => hj⟩
      obtain ⟨_, _, _, c', top, _, q, _⟩ := HH.out
      exact Nat.lt_of_lt_of_le (q j hj).2 hbW2.size
    · exact ⟨hr.lt hj, fun h => absurd (hfr j h) hj⟩))
  have HBW := hid hbW2
  have HFR := hid hfr
  clear k0 k1 k2 hbV HV hr hk hb2' hf hbW2 hfr
  go_wp2_with fail
  go_loopw [14] (fun x wr => ∃ i : Nat, i ≤ k ∧ x = .int .i64 i ∧ Hid (Held w wr (fun j => F j ∨ blk (.slice ao k c) j ≠ 0) (dels ((arcL a b xs).take i) xs) gs ∧ ∀ j, (F j ∨ blk (.slice ao k c) j ≠ 0) → wr.heap[j]? = W2.heap[j]?)) (fun x _ => k - (intOf x).toNat)
  case atStart => exact ⟨0, Nat.zero_le _, rfl, hid ⟨HH2.out, fun _ _ => rfl⟩⟩
  case round =>
    obtain ⟨i, hi, rfl, HC⟩ := hrel
    by_cases hlt : i < k
    · obtain ⟨x, hx⟩ : ∃ x, (arcL a b xs)[i]? = some x := ⟨_, List.getElem?_eq_getElem (by rw [HL.out]; exact hlt)⟩
      have hrow : Row wr 34 2 (.slice ao k c) k (flat (arcL a b xs)) := HR.out.keep fun j hj => HC.out.2 j (.inr hj)
      obtain ⟨rb, rfl, c1, c2, lr⟩ := item_cell hrow hx HL.out
      have HX := hid (HSM.out x ((arcL_mem ha ha2 hb hb2).1 (List.mem_of_getElem? hx)).1)
      have HSN := hid (show dels ((arcL a b xs).take (i + 1)) xs = delL x.1 (dels ((arcL a b xs).take i) xs) by rw [take_snoc' hx, dels_snoc])
      clear hx hrow
      obtain ⟨s1, t1⟩ := x
      simp only at c1 c2
      go_wp2_with fail
      have hbl : Below wr.heap.size wr (wr.alloc (.cells #[.string s1, .string t1] 34)) := (by repeat' (first | exact Below.refl _ _ | with_reducible assumption | omega | with_reducible refine below_put_fut ?_ ?_ _ | with_reducible refine below_to_put ?_ | with_reducible refine Below.alloc ?_ ?_ _ | with_reducible refine Below.fut ?_ ?_ _ | with_reducible refine Below.drew ?_ | with_reducible refine Below.setCell ?_ ?_ _ | with_reducible refine Below.atPut ?_ ?_ _ | (simp [go_sem]; done) | (simp [go_sem]; omega)))
      have HC1 := hid (And.intro (HC.out.1.on hbl) (fun j (hj : F j ∨ blk (.slice (some ⟨rb, 0, none⟩) k c) j ≠ 0) => (hbl.block j (by
        obtain ⟨_, _, _, c', top, _, q, _⟩ := HC.out.1
        exact (q j hj).2)).trans (HC.out.2 j hj)))
      clear hbl
      refine (held_del HC1.out.1 s1 HX.out).mono ?_
      rintro _ W3 ⟨rfl, h3, h4⟩
      have HC3 := hid (And.intro h3 (fun j (hj : F j ∨ blk (.slice (some ⟨rb, 0, none⟩) k c) j ≠ 0) => (h4 j hj).trans (HC1.out.2 j hj)))
      clear h3 h4
      go_wp2_with fail
      go_roundw
      case rel => exact ⟨i + 1, by omega, by go_num, hid ⟨by rw [HSN.out]; exact HC3.out.1, HC3.out.2⟩⟩
      case measure => simp [intOf]; omega
    · obtain rfl : i = k := by omega
      go_wp2_with fail
      go_ret
      have h1 := HC.out.1
      rw [List.take_of_length_le (by rw [HL.out]; exact Nat.le_refl _), HDE.out] at h1
      refine ⟨ao, c, rfl, HR.out.keep fun j hj => HC.out.2 j (.inr hj), h1, fun j hj => (HC.out.2 j (.inl hj)).trans (HBW.out.block j (by
        obtain ⟨_, _, _, c', top, _, q, _⟩ := HH.out
        exact (q j hj).2)), HFR.out⟩
end Go.Proofs.Ythknenhcnpgkcaa
