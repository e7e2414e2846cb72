import Derived.Test.YthknenhcnpgkcaaWk1
/- Package walk: At. -/
namespace Go.Proofs.Ythknenhcnpgkcaa
open Go.RowKit Go.Shelf
set_option linter.unusedVariables false
set_option linter.unusedSimpArgs false
set_option maxRecDepth 100000 in
set_option maxHeartbeats 4000000 in
theorem walkAt_none {B0 : Nat} {w0 : World} {most : Int} {xs : List It} {g : Nat} {W : World} (h : Sh B0 w0 most xs g W) (hn : xs.length ≤ 900) (i : Int) (hi : i < 0 ∨ xs.length ≤ i) :
    Calls Try.prog 35 #[.pointer (some ⟨g, 0, none⟩), .int .i64 i] W (Makes (.tuple #[.agg #[.string ⟨#[]⟩, .string ⟨#[]⟩], .bool false]) W) := by
  have H1 := hid h
  obtain ⟨m, hm⟩ : ∃ m, xs.length = m := ⟨_, rfl⟩
  rw [hm] at hi
  have hl := hid (fun (X : World) (hb : Below W.heap.size W X) => sh_len (H1.out.on hb H1.out.ge) m hm)
  clear h hn hm
  rcases Int.lt_or_le i 0 with c | c
  · have d1 : decide (i < 0) = true := decide_eq_true c
    clear hi c
    go_enter Try.func35, Try.ntmps35
    go_wp2_with fail
    refine bodyPost_ret (v := .tuple #[.agg #[.string ⟨#[]⟩, .string ⟨#[]⟩], .bool false]) (results_row_tmp rfl _ _ W.heap.size 34 #[.string ⟨#[]⟩, .string ⟨#[]⟩] (0, 0) _ (.bool false) rfl rfl (heap_alloc_at _ _ _ rfl) Try.underlying34 rfl (by kernel_rfl)) rfl (.mk rfl (by repeat' (first | exact Below.refl _ _ | with_reducible assumption | omega | with_reducible refine below_put_fut ?_ ?_ _ | with_reducible refine below_to_put ?_ | with_reducible refine Below.alloc ?_ ?_ _ | with_reducible refine Below.fut ?_ ?_ _ | with_reducible refine Below.drew ?_ | with_reducible refine Below.setCell ?_ ?_ _ | with_reducible refine Below.atPut ?_ ?_ _ | (simp [go_sem]; done) | (simp [go_sem]; omega))))
  · have d1 : decide (i < 0) = false := decide_eq_false (by omega)
    have d2 : decide ((m : Int) ≤ i) = true := decide_eq_true (by omega)
    clear hi c
    go_enter Try.func35, Try.ntmps35
    go_wp2_with fail
    (((with_reducible refine (hl.out _ (by repeat' (first | exact Below.refl _ _ | with_reducible assumption | omega | with_reducible refine below_put_fut ?_ ?_ _ | with_reducible refine below_to_put ?_ | with_reducible refine Below.alloc ?_ ?_ _ | with_reducible refine Below.fut ?_ ?_ _ | with_reducible refine Below.drew ?_ | with_reducible refine Below.setCell ?_ ?_ _ | with_reducible refine Below.atPut ?_ ?_ _ | (simp [go_sem]; done) | (simp [go_sem]; omega)))).mono ?_)); rintro _ _ ⟨rfl, u, rfl⟩)
    have hbw : Below W.heap.size W u.val := (by repeat' (first | exact Below.refl _ _ | with_reducible assumption | omega | with_reducible refine below_put_fut ?_ ?_ _ | with_reducible refine below_to_put ?_ | with_reducible refine Below.alloc ?_ ?_ _ | with_reducible refine Below.fut ?_ ?_ _ | with_reducible refine Below.drew ?_ | with_reducible refine Below.setCell ?_ ?_ _ | with_reducible refine Below.atPut ?_ ?_ _ | (simp [go_sem]; done) | (simp [go_sem]; omega)))
    have hcu : u.val.heap[W.heap.size]? = some (.cells #[.string ⟨#[]⟩, .string ⟨#[]⟩] 34) := (u.below.block _ (by simp)).trans (heap_alloc_at _ _ _ rfl)
    have hgl := lt_of_heap hcu
    generalize u.val = X at hbw hcu hgl ⊢
    rw [← put_self hcu]
    go_wp2_with fail
    refine bodyPost_ret (v := .tuple #[.agg #[.string ⟨#[]⟩, .string ⟨#[]⟩], .bool false]) (results_row_tmp rfl _ _ W.heap.size 34 #[.string ⟨#[]⟩, .string ⟨#[]⟩] (0, 0) _ (.bool false) rfl rfl (heap_put_at _ _ _ hgl) Try.underlying34 rfl (by kernel_rfl)) rfl (.mk rfl (by repeat' (first | exact Below.refl _ _ | with_reducible assumption | omega | with_reducible refine below_put_fut ?_ ?_ _ | with_reducible refine below_to_put ?_ | with_reducible refine Below.alloc ?_ ?_ _ | with_reducible refine Below.fut ?_ ?_ _ | with_reducible refine Below.drew ?_ | with_reducible refine Below.setCell ?_ ?_ _ | with_reducible refine Below.atPut ?_ ?_ _ | (simp [go_sem]; done) | (simp [go_sem]; omega))))
set_option maxRecDepth 100000 in
set_option maxHeartbeats 4000000 in
theorem walkAt_some {B0 : Nat} {w0 : World} {most : Int} {xs : List It} {g : Nat} {W : World} (h : Sh B0 w0 most xs g W) (hn : xs.length ≤ 900) (i : Nat) (x : It) (hx : xs[i]? = some x) :
    Calls Try.prog 35 #[.pointer (some ⟨g, 0, none⟩), .int .i64 i] W (Makes (.tuple #[.agg #[.string x.1, .string x.2], .bool true]) W) := by
  have H1 := hid h
  obtain ⟨m, hm⟩ : ∃ m, xs.length = m := ⟨_, rfl⟩
  have hi : i < m := by rw [← hm]; exact (List.getElem?_eq_some_iff.1 hx).1
  have hl := hid (fun (X : World) (hb : Below W.heap.size W X) => sh_len (H1.out.on hb H1.out.ge) m hm)
  have hits := hid (fun (X : World) (hb : Below W.heap.size W X) => sh_items (H1.out.on hb H1.out.ge) (by omega))
  have HX := hid hx
  have HM := hid hm
  clear h hn hx hm
  have d1 : decide ((i : Int) < 0) = false := decide_eq_false (by omega)
  have d2 : decide ((m : Int) ≤ i) = false := decide_eq_false (by omega)
  go_enter Try.func35, Try.ntmps35
  go_wp2_with fail
  (((with_reducible refine (hl.out _ (by repeat' (first | exact Below.refl _ _ | with_reducible assumption | omega | with_reducible refine below_put_fut ?_ ?_ _ | with_reducible refine below_to_put ?_ | with_reducible refine Below.alloc ?_ ?_ _ | with_reducible refine Below.fut ?_ ?_ _ | with_reducible refine Below.drew ?_ | with_reducible refine Below.setCell ?_ ?_ _ | with_reducible refine Below.atPut ?_ ?_ _ | (simp [go_sem]; done) | (simp [go_sem]; omega)))).mono ?_)); rintro _ _ ⟨rfl, u, rfl⟩)
  have hbu : Below W.heap.size W u.val := (by repeat' (first | exact Below.refl _ _ | with_reducible assumption | omega | with_reducible refine below_put_fut ?_ ?_ _ | with_reducible refine below_to_put ?_ | with_reducible refine Below.alloc ?_ ?_ _ | with_reducible refine Below.fut ?_ ?_ _ | with_reducible refine Below.drew ?_ | with_reducible refine Below.setCell ?_ ?_ _ | with_reducible refine Below.atPut ?_ ?_ _ | (simp [go_sem]; done) | (simp [go_sem]; omega)))
  have hcu : u.val.heap[W.heap.size]? = some (.cells #[.string ⟨#[]⟩, .string ⟨#[]⟩] 34) := (u.below.block _ (by simp)).trans (heap_alloc_at _ _ _ rfl)
  go_wp2_with fail
  refine (hits.out _ (by repeat' (first | exact Below.refl _ _ | with_reducible assumption | omega | with_reducible refine below_put_fut ?_ ?_ _ | with_reducible refine below_to_put ?_ | with_reducible refine Below.alloc ?_ ?_ _ | with_reducible refine Below.fut ?_ ?_ _ | with_reducible refine Below.drew ?_ | with_reducible refine Below.setCell ?_ ?_ _ | with_reducible refine Below.atPut ?_ ?_ _ | (simp [go_sem]; done) | (simp [go_sem]; omega)))).mono ?_
  rintro _ W2 ⟨ao, cc, rfl, hr, hb2, hf⟩
  obtain ⟨b, o, rfl, p1, p2, p3⟩ := (hr.src (flat_one _)).at_ i x HX.out
  have hc2 := (hb2.block _ (lt_of_heap hcu)).trans hcu
  have hbw := hbu.trans (hb2.mono hbu.size)
  have hgl := lt_of_heap hc2
  have hbl := World.block_lt_of_cell? _ _ p1
  have hne : b ≠ W.heap.size := fun e => by
    obtain ⟨r2, c3, hv, _, _⟩ := World.ownsRow.form hr (by rw [HM.out]; omega)
    injection hv with hv; injection hv with hv; cases hv
    have := hf b (by rw [e]; exact lt_of_heap hcu)
    rw [blk_at _ _ _ _ _ none, one_self] at this; omega
  have hne2 : (b = W.heap.size) = False := eq_false hne
  have hne3 : (W.heap.size = b) = False := eq_false (fun e => hne e.symm)
  rw [HM.out]
  rw [← put_self hc2]
  clear hr hb2 hcu hbu hf
  go_wp2_with fail
  refine bodyPost_ret (v := .tuple #[.agg #[.string x.1, .string x.2], .bool true]) (results_row_tmp rfl _ _ W.heap.size 34 #[.string x.1, .string x.2] (0, 0) _ (.bool true) rfl rfl (heap_put_at _ _ _ hgl) Try.underlying34 rfl (by kernel_rfl)) rfl (.mk rfl (by repeat' (first | exact Below.refl _ _ | with_reducible assumption | omega | with_reducible refine below_put_fut ?_ ?_ _ | with_reducible refine below_to_put ?_ | with_reducible refine Below.alloc ?_ ?_ _ | with_reducible refine Below.fut ?_ ?_ _ | with_reducible refine Below.drew ?_ | with_reducible refine Below.setCell ?_ ?_ _ | with_reducible refine Below.atPut ?_ ?_ _ | (simp [go_sem]; done) | (simp [go_sem]; omega))))
end Go.Proofs.Ythknenhcnpgkcaa
