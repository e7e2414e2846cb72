import Derived.Test.YthgajbfgolcpkaaBag6
/- Contracts of package bag, as told by the list of its packets; what all statements of the chapter ask first. -/
namespace Go.Proofs.Ythgajbfgolcpkaa
open Go.RowKit
set_option linter.unusedVariables false
set_option linter.unusedSimpArgs false
/-- Block g is a bag of the packets l. -/
structure Bag (most : Int) (w0 : Base) (g : Nat) (l : List Pk) (W : World) : Prop where
  ex : ∃ v, BagAt most w0 g l.length (flatP l) W v
theorem Bag.mk' {most : Int} {w0 : Base} {g n : Nat} {l : List Pk} {W : World} {v : Value} (h : BagAt most w0 g n (flatP l) W v) : Bag most w0 g l W := by
  have h1 := h.owns.1
  rw [flatP_length] at h1
  obtain rfl : l.length = n := by omega
  exact ⟨_, h⟩
theorem Bag.on {most : Int} {w0 : Base} {g : Nat} {l : List Pk} {W W' : World} (h : Bag most w0 g l W) (hb : Below W.heap.size W W') : Bag most w0 g l W' := by
  obtain ⟨v, h⟩ := h.ex
  exact ⟨v, h.on hb⟩
theorem Bag.below {most : Int} {w0 : Base} {g : Nat} {l : List Pk} {W : World} (h : Bag most w0 g l W) : Below w0.heap.size w0.toWorld W := by
  obtain ⟨v, h⟩ := h.ex
  exact h.below
theorem Bag.size {most : Int} {w0 : Base} {g : Nat} {l : List Pk} {W : World} (h : Bag most w0 g l W) : w0.heap.size ≤ W.heap.size := h.below.size
/-- A new block is laid, which stays as it is. -/
theorem Bag.box {most : Int} {w0 : Base} {g : Nat} {l : List Pk} {W : World} (h : Bag most w0 g l W) (q : Obj) : Bag most (w0.with W.heap.size q) g l (W.alloc q) := by
  obtain ⟨v, h⟩ := h.ex
  refine ⟨v, ObjAt.learn (h.on ((Below.refl _ _).alloc (Nat.le_refl _) _)) (heap_alloc_at _ _ _ rfl) ?_ ?_⟩
  · have := h.lt; omega
  · intro e; have := (h.owns.lt _ e).2; omega
theorem Bag.kept {most : Int} {w0 : Base} {g : Nat} {l : List Pk} {W : World} (h : Bag most w0 g l W) {k : Nat} {q : Obj} (hk : w0.keep k = some q) : W.heap[k]? = some q := by
  obtain ⟨v, h⟩ := h.ex
  exact (h.kept k q hk).1
section
variable {most : Int} {w0 : Base} {g : Nat} {l : List Pk} {W : World}
theorem bag_new (most m : Int) (hm : min (max most 0) 2000 = m) (w0 : Base) (hk : Hid (∀ k, w0.keep k = none)) (W : World) (hb : Below w0.heap.size w0.toWorld W) :
    Calls Try.prog 18 #[.int .i64 most] W fun en W' => ∃ g, en = .returned (.pointer (some ⟨g, 0, none⟩)) ∧ Bag m w0 g [] W' :=
  (bagNew_is most m hm w0 hk W hb).mono fun _ _ ⟨g, he, h⟩ => ⟨g, he, .mk' h⟩
theorem bag_put (h : Bag most w0 g l W) (hn : (l.length : Int) < most) (hm : most ≤ 2000) (a b c d : Int) :
    Calls Try.prog 19 #[.pointer (some ⟨g, 0, none⟩), .agg (pk a b c d)] W fun en W' => en = .returned (.bool true) ∧ Bag most w0 g (l ++ [(a, b, c, d)]) W' := by
  obtain ⟨v, h⟩ := h.ex
  refine (put_is h hn hm a b c d).mono fun _ _ ⟨v', he, h'⟩ => ⟨he, .mk' (n := l.length + 1) (v := v') ?_⟩
  rw [flatP_append]; simpa [flatP] using h'
theorem bag_full (h : Bag most w0 g l W) (hn : most ≤ (l.length : Int)) (a b c d : Int) :
    Calls Try.prog 19 #[.pointer (some ⟨g, 0, none⟩), .agg (pk a b c d)] W fun en W' => en = .returned (.bool false) ∧ Bag most w0 g l W' := by
  obtain ⟨v, h⟩ := h.ex
  exact (put_full h hn a b c d).mono fun _ _ ⟨he, h'⟩ => ⟨he, .mk' h'⟩
theorem bag_take (h : Bag most w0 g l W) (hn : l.length ≤ 1000) (k : Int) (i : Nat) (hk : k = i) (p : Pk) (hp : l[i]? = some p) :
    Calls Try.prog 24 #[.pointer (some ⟨g, 0, none⟩), .int .i64 k] W fun en W' => en = .returned (.tuple #[.agg (pk p.1 p.2.1 p.2.2.1 p.2.2.2), .bool true]) ∧ Bag most w0 g (l.eraseIdx i) W' := by
  subst hk
  obtain ⟨v, h⟩ := h.ex
  have hi := (List.getElem?_eq_some_iff.1 hp).1
  obtain ⟨n, hn2⟩ : ∃ n, l.length = n + 1 := ⟨l.length - 1, by omega⟩
  rw [hn2] at h
  exact (take_is h (by omega) i p hp (by omega)).mono fun _ _ ⟨v', he, h'⟩ => ⟨he, .mk' h'⟩
theorem bag_takeno (h : Bag most w0 g l W) (k : Int) (hk : k < 0 ∨ (l.length : Int) ≤ k) :
    Calls Try.prog 24 #[.pointer (some ⟨g, 0, none⟩), .int .i64 k] W fun en W' => en = .returned (.tuple #[.agg (pk 0 0 0 0), .bool false]) ∧ Bag most w0 g l W' := by
  obtain ⟨v, h⟩ := h.ex
  exact (take_no h k hk).mono fun _ _ ⟨he, h'⟩ => ⟨he, .mk' h'⟩
theorem bag_drop (h : Bag most w0 g l W) (hn : l.length ≤ 1000) (k : Int) (i : Nat) (hk : k = i) (p : Pk) (hp : l[i]? = some p) :
    Calls Try.prog 26 #[.pointer (some ⟨g, 0, none⟩), .int .i64 k] W fun en W' => en = .returned (.bool true) ∧ Bag most w0 g (l.eraseIdx i) W' := by
  subst hk
  obtain ⟨v, h⟩ := h.ex
  have hi := (List.getElem?_eq_some_iff.1 hp).1
  obtain ⟨n, hn2⟩ : ∃ n, l.length = n + 1 := ⟨l.length - 1, by omega⟩
  rw [hn2] at h
  exact (drop_is h (by omega) i p hp (by omega)).mono fun _ _ ⟨v', he, h'⟩ => ⟨he, .mk' h'⟩
theorem bag_dropno (h : Bag most w0 g l W) (k : Int) (hk : k < 0 ∨ (l.length : Int) ≤ k) :
    Calls Try.prog 26 #[.pointer (some ⟨g, 0, none⟩), .int .i64 k] W fun en W' => en = .returned (.bool false) ∧ Bag most w0 g l W' := by
  obtain ⟨v, h⟩ := h.ex
  exact (drop_no h k hk).mono fun _ _ ⟨he, h'⟩ => ⟨he, .mk' h'⟩
theorem bag_twice (h : Bag most w0 g l W) (hn : (l.length : Int) < most) (hm : most ≤ 2000) (k : Int) (i : Nat) (hk : k = i) (p : Pk) (hp : l[i]? = some p) :
    Calls Try.prog 22 #[.pointer (some ⟨g, 0, none⟩), .int .i64 k] W fun en W' => en = .returned (.bool true) ∧ Bag most w0 g (l ++ [p]) W' := by
  subst hk
  obtain ⟨v, h⟩ := h.ex
  exact (twice_is h hn hm i p hp (List.getElem?_eq_some_iff.1 hp).1).mono fun _ _ ⟨v', he, h'⟩ => ⟨he, .mk' h'⟩
theorem bag_twicefull (h : Bag most w0 g l W) (hn : most ≤ (l.length : Int)) (k : Int) (i : Nat) (hk : k = i) (p : Pk) (hp : l[i]? = some p) :
    Calls Try.prog 22 #[.pointer (some ⟨g, 0, none⟩), .int .i64 k] W fun en W' => en = .returned (.bool false) ∧ Bag most w0 g l W' := by
  subst hk
  obtain ⟨v, h⟩ := h.ex
  exact (twice_full h hn i p hp (List.getElem?_eq_some_iff.1 hp).1).mono fun _ _ ⟨v', he, h'⟩ => ⟨he, .mk' h'⟩
theorem bag_twiceno (h : Bag most w0 g l W) (k : Int) (hk : k < 0 ∨ (l.length : Int) ≤ k) :
    Calls Try.prog 22 #[.pointer (some ⟨g, 0, none⟩), .int .i64 k] W fun en W' => en = .returned (.bool false) ∧ Bag most w0 g l W' := by
  obtain ⟨v, h⟩ := h.ex
  exact (twice_no h k hk).mono fun _ _ ⟨he, h'⟩ => ⟨he, .mk' h'⟩
theorem bag_len (h : Bag most w0 g l W) (n : Int) (hn : n = l.length) :
    Calls Try.prog 23 #[.pointer (some ⟨g, 0, none⟩)] W fun en W' => en = .returned (.int .i64 n) ∧ Bag most w0 g l W' := by
  subst hn
  obtain ⟨v, h⟩ := h.ex
  exact (bagLen_is h).mono fun _ _ ⟨he, h'⟩ => ⟨he, .mk' h'⟩
theorem bag_on (h : Bag most w0 g l W) (hl : l.length ≤ 1000) (a b : Int) (c : Int) (hc : c = cntOn a b l) :
    Calls Try.prog 25 #[.pointer (some ⟨g, 0, none⟩), .int .i64 a, .int .i64 b] W fun en W' => en = .returned (.int .i64 c) ∧ Bag most w0 g l W' := by
  subst hc
  have H := h
  obtain ⟨v, h⟩ := h.ex
  exact (bagOn_is h hl a b).mono fun _ _ ⟨he, hb⟩ => ⟨he, H.on hb⟩
end
set_option maxRecDepth 100000 in
set_option maxHeartbeats 4000000 in
theorem bagAlive_any (w : World) : Calls Try.prog 17 #[] w (Makes (.bool true) w) := by
  go_enter Try.func17, Try.ntmps17
  go_wp2_with fail
  (((with_reducible refine (bag_new 2 2 rfl ⟨w, fun _ => none⟩ (hid fun _ => rfl) _ (Below.refl _ _)).mono ?_)); rintro _ W1 ⟨g, rfl, h1⟩)
  go_wp2_with fail
  (((with_reducible refine (bag_put h1 (by decide) (by decide) 1 2 3 0).mono ?_)); rintro _ W2 ⟨rfl, h2⟩)
  go_wp2_with fail
  (((with_reducible refine (bag_twice h2 (by decide) (by decide) 0 0 rfl _ rfl).mono ?_)); rintro _ W3 ⟨rfl, h3⟩)
  go_wp2_with fail
  (((with_reducible refine (bag_full h3 (by decide) 0 0 0 0).mono ?_)); rintro _ W4 ⟨rfl, h4⟩)
  go_wp2_with fail
  (((with_reducible refine (bag_take h4 (by decide) 1 1 rfl _ rfl).mono ?_)); rintro _ W5 ⟨rfl, h5⟩)
  go_simp
  rename_i K hK
  refine hK _ _ ?_
  clear hK K
  refine Go.Great.wpList_runTo rfl (some 23) rfl (.tuple #[.agg (pk 1 2 3 0), .bool true]) W5 (by simp [execOp, Act.eval, Act.put, go_sem]) ?_
  refine Go.Great.wpList_runTo rfl (some 26) rfl (.agg (pk 1 2 3 0)) W5 (by simp [execOp, Act.eval, Act.put, go_sem]) ?_
  refine Go.Great.wpList_runTo rfl (some 27) rfl (.bool true) W5 (by simp [execOp, Act.eval, Act.put, go_sem]) ?_
  refine Go.Great.wpList_runTo rfl (some 2) rfl (.pointer (some ⟨(W5).heap.size, 0, none⟩)) (World.alloc W5 (.cells (pk 0 0 0 0) 38)) (by kernel_rfl) ?_
  refine wpList_store_row rfl 38 (.tmp 2) (.tmp 26) rfl ((W5).heap.size) (pk 1 2 3 0) (pk 0 0 0 0) (by simp [Act.eval, Act.put]) (by simp [Act.eval, Act.put]) (heap_alloc_at _ _ _ rfl) (by kernel_rfl) rfl (by simp [Value.oneCell']) ?_
  rw [put_alloc]
  simp [Act.put]
  have h6 := hid (show Bag 2 ⟨w, fun _ => none⟩ g [(1, 2, 3, 0)] W5 from h5)
  clear h1 h2 h3 h4 h5
  go_wp2_with fail
  (((with_reducible refine (bag_len (h6.out.on (by repeat' (first | exact Below.refl _ _ | with_reducible assumption | omega | with_reducible refine below_put_fut ?_ ?_ _ | with_reducible refine below_to_put ?_ | with_reducible refine Below.alloc ?_ ?_ _ | with_reducible refine Below.fut ?_ ?_ _ | with_reducible refine Below.drew ?_ | with_reducible refine Below.setCell ?_ ?_ _ | with_reducible refine Below.atPut ?_ ?_ _ | (simp [go_sem]; done) | (simp [go_sem]; omega)))) 1 rfl).mono ?_)); rintro _ W7 ⟨rfl, h7⟩)
  go_wp2_with fail
  (((with_reducible refine (bag_on h7 (by decide) 1 2 1 (by decide)).mono ?_)); rintro _ W8 ⟨rfl, h8⟩)
  have hb := h8.below
  clear h6 h7 h8
  go_wp2_with fail
  go_ret
  exact .mk rfl hb
end Go.Proofs.Ythgajbfgolcpkaa
