import Derived.Test.YthknenhcnpgkcaaWkS
/- rosarylaw5.alive. -/
namespace Go.Proofs.Ythknenhcnpgkcaa
open Go.RowKit Go.Shelf
set_option linter.unusedVariables false
set_option linter.unusedSimpArgs false
def ex3 : List It := [(⟨#[97]⟩, ⟨#[]⟩), (⟨#[98]⟩, ⟨#[]⟩), (⟨#[99]⟩, ⟨#[]⟩)]
theorem fill3 : fillL [(⟨#[98]⟩, ⟨#[]⟩), (⟨#[97]⟩, ⟨#[]⟩), (⟨#[99]⟩, ⟨#[]⟩)] = ex3 := by decide
theorem mid3 : midL ((arcL 0 0 ex3).map adr) = some 7133701809754865664 := by decide +kernel
theorem mid3a : (midL ((arcL 0 0 ex3).map adr)).getD 0 = 7133701809754865664 := by rw [mid3]; rfl
theorem mid3b : (midL ((arcL 0 0 ex3).map adr)).isSome = true := by rw [mid3]; rfl
theorem walkAt_at {B0 : Nat} {w0 : World} {most : Int} {xs : List It} {g : Nat} {W : World} (h : Sh B0 w0 most xs g W) (hn : xs.length ≤ 900) (i : Nat) (j : Int) (hj : j = i) (x : It) (hx : xs[i]? = some x) :
    Calls Try.prog 35 #[.pointer (some ⟨g, 0, none⟩), .int .i64 j] W (Makes (.tuple #[.agg #[.string x.1, .string x.2], .bool true]) W) := by subst hj; exact walkAt_some h hn i x hx
theorem rank3 : rankL ⟨#[99]⟩ ex3 = 2 := by decide
theorem src_blk {W : World} {r : Nat} {cs : List Value} {t : TypeId} {fr : Nat × Nat} (h : W.heap[r]? = some (.cells cs.toArray t fr)) (size m c : Nat) (hl : cs.length = m * size) (h1 : ∀ u ∈ cs, u.oneCell' = true) : Src W size (.slice (some ⟨r, 0, none⟩) m c) m cs :=
  ⟨hl, h1, .inr ⟨_, _, rfl, news_at h 0 _ (fun j u hj => by simpa using hj)⟩⟩
set_option maxRecDepth 100000 in
set_option maxHeartbeats 4000000 in
theorem wkAlive_any (w : World) : Calls Try.prog 33 #[] w (Makes (.bool true) w) := by
  go_enter Try.func33, Try.ntmps33
  go_wp2_with fail
  have hs := src_blk (cs := flat [(⟨#[98]⟩, ⟨#[]⟩), (⟨#[97]⟩, ⟨#[]⟩), (⟨#[99]⟩, ⟨#[]⟩)]) (heap_alloc_at w (.cells #[.string ⟨#[98]⟩, .string ⟨#[]⟩, .string ⟨#[97]⟩, .string ⟨#[]⟩, .string ⟨#[99]⟩, .string ⟨#[]⟩] 34) w.heap.size rfl) 2 3 3 rfl (flat_one _)
  have hbw : Below w.heap.size w (w.alloc (.cells #[.string ⟨#[98]⟩, .string ⟨#[]⟩, .string ⟨#[97]⟩, .string ⟨#[]⟩, .string ⟨#[99]⟩, .string ⟨#[]⟩] 34)) := (by repeat' (first | exact Below.refl _ _ | with_reducible assumption | omega | with_reducible refine below_put_fut ?_ ?_ _ | with_reducible refine below_to_put ?_ | with_reducible refine Below.alloc ?_ ?_ _ | with_reducible refine Below.fut ?_ ?_ _ | with_reducible refine Below.drew ?_ | with_reducible refine Below.setCell ?_ ?_ _ | with_reducible refine Below.atPut ?_ ?_ _ | (simp [go_sem]; done) | (simp [go_sem]; omega)))
  refine (filled_is _ _ _ 3 rfl (by omega) hs).mono ?_
  rintro _ W1 ⟨gs, gr, rfl, hb1⟩
  rw [fill3] at hb1
  have H1 := hid (hb1.base hbw hbw.size).sh
  clear hb1 hs hbw
  go_wp2_with fail
  (((with_reducible refine (walkAll_is (.pointer (some ⟨gs, 0, none⟩)) _ rfl).mono ?_)); rintro _ _ ⟨rfl, rfl⟩)
  have H2 := hid (H1.out.on (W' := W1.alloc (.cells #[.pointer (some ⟨gs, 0, none⟩)] 23)) (by repeat' (first | exact Below.refl _ _ | with_reducible assumption | omega | with_reducible refine below_put_fut ?_ ?_ _ | with_reducible refine below_to_put ?_ | with_reducible refine Below.alloc ?_ ?_ _ | with_reducible refine Below.fut ?_ ?_ _ | with_reducible refine Below.drew ?_ | with_reducible refine Below.setCell ?_ ?_ _ | with_reducible refine Below.atPut ?_ ?_ _ | (simp [go_sem]; done) | (simp [go_sem]; omega))) H1.out.ge)
  have hc2 : (W1.alloc (.cells #[.pointer (some ⟨gs, 0, none⟩)] 23)).heap[W1.heap.size]? = some (.cells #[.pointer (some ⟨gs, 0, none⟩)] 23) := heap_alloc_at _ _ _ rfl
  generalize W1.alloc (.cells _ 23) = W2 at H2 hc2 ⊢
  generalize W1.heap.size = s at hc2 ⊢
  have HC2 := hid hc2
  clear H1 hc2
  go_wp2_with fail
  refine (sh_collectAll H2.out (by decide) s HC2.out 9 (by omega) (by omega)).mono ?_
  rintro _ W3 ⟨ao, n, cc, rfl, hr3, hn3, hb3⟩
  obtain rfl : n = 3 := hn3
  have H3 := hid (H2.out.on hb3 H2.out.ge)
  obtain ⟨rb, cb, hv, _, hrl⟩ := World.ownsRow.form hr3 (by omega)
  obtain rfl : ao = some ⟨rb, 0, none⟩ := by injection hv
  have q0 : W3.cell? ⟨rb, 0, none⟩ = some (.string ⟨#[97]⟩) := by rw [hr3.cellAt _ (by omega)]; rfl
  clear hr3 hb3 hv H2 HC2
  go_wp2_with fail
  (((with_reducible refine (sh_middle H3.out (by decide) (a := 0) (b := 0) (by omega) (by omega) (by omega) (by omega) 7133701809754865664 true mid3a mid3b).mono ?_)); rintro _ _ ⟨rfl, u4, rfl⟩)
  have H4 := hid (H3.out.on u4.below H3.out.ge)
  go_wp2_with fail
  (((with_reducible refine (walkAt_at H4.out (by decide) 1 1 (by decide) (⟨#[98]⟩, ⟨#[]⟩) rfl).mono ?_)); rintro _ _ ⟨rfl, u5, rfl⟩)
  have H5 := hid (H4.out.on u5.below H4.out.ge)
  go_wp2_with fail
  (((with_reducible refine (rank_is (H5.out.on (W' := u5.val.alloc (.cells #[.string ⟨#[98]⟩, .string ⟨#[]⟩] 34)) (by repeat' (first | exact Below.refl _ _ | with_reducible assumption | omega | with_reducible refine below_put_fut ?_ ?_ _ | with_reducible refine below_to_put ?_ | with_reducible refine Below.alloc ?_ ?_ _ | with_reducible refine Below.fut ?_ ?_ _ | with_reducible refine Below.drew ?_ | with_reducible refine Below.setCell ?_ ?_ _ | with_reducible refine Below.atPut ?_ ?_ _ | (simp [go_sem]; done) | (simp [go_sem]; omega))) H5.out.ge) (by decide) ⟨#[99]⟩ (by decide)).mono ?_)); rintro _ _ ⟨rfl, u6, rfl⟩)
  rw [rank3]
  have hz5 := H5.out.ge
  have hfin : Below w.heap.size w u6.val := H5.out.1.trans ((Below.fut (w := u5.val.alloc (.cells #[.string ⟨#[98]⟩, .string ⟨#[]⟩] 34)) (by repeat' (first | exact Below.refl _ _ | with_reducible assumption | omega | with_reducible refine below_put_fut ?_ ?_ _ | with_reducible refine below_to_put ?_ | with_reducible refine Below.alloc ?_ ?_ _ | with_reducible refine Below.fut ?_ ?_ _ | with_reducible refine Below.drew ?_ | with_reducible refine Below.setCell ?_ ?_ _ | with_reducible refine Below.atPut ?_ ?_ _ | (simp [go_sem]; done) | (simp [go_sem]; omega))) (by simp) u6).mono hz5)
  go_wp2_with fail
  go_ret
  exact .mk rfl hfin
end Go.Proofs.Ythknenhcnpgkcaa
