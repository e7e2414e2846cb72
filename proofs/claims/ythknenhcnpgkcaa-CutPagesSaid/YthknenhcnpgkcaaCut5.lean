/- rosarylaw6.alive. -/
import Derived.Test.YthknenhcnpgkcaaCut4
import Derived.Test.YthknenhcnpgkcaaWkHvP
namespace Go.Proofs.Ythknenhcnpgkcaa
open Go.RowKit Go.Shelf
set_option linter.unusedVariables false
set_option linter.unusedSimpArgs false
theorem row_cap {W : World} {e : TypeId} {size n c : Nat} {ao : Option Addr} {xs : List Value} (h : Row W e size (.slice ao n c) n xs) : n ≤ c := by
  rcases h.2 with ⟨hv, h0⟩ | ⟨g, cap, cur, hv, _, _, h1, _⟩
  · injection hv; omega
  · injection hv with _ _ e3; omega
theorem outL_whole (xs : List It) : outL 0 0 xs = [] := by
  unfold outL
  rw [List.filter_eq_nil_iff]
  intro x _
  simp [inArc]
theorem ex3_range : rangeL ⟨#[]⟩ ⟨#[]⟩ ex3 = ex3 := by decide
set_option maxRecDepth 100000 in
set_option maxHeartbeats 4000000 in
theorem cutAlive_any (w : World) : Calls Try.prog 60 #[] w (Makes (.bool true) w) := by
  go_enter Try.func60, Try.ntmps60
  go_wp2_with fail
  have hs := src_blk (cs := flat [(⟨#[98]⟩, ⟨#[]⟩), (⟨#[97]⟩, ⟨#[]⟩), (⟨#[99]⟩, ⟨#[]⟩)]) (heap_alloc_at w (.cells #[.string ⟨#[98]⟩, .string ⟨#[]⟩, .string ⟨#[97]⟩, .string ⟨#[]⟩, .string ⟨#[99]⟩, .string ⟨#[]⟩] 34) w.heap.size rfl) 2 3 3 rfl (flat_one _)
  have hbw : Below w.heap.size w (w.alloc (.cells #[.string ⟨#[98]⟩, .string ⟨#[]⟩, .string ⟨#[97]⟩, .string ⟨#[]⟩, .string ⟨#[99]⟩, .string ⟨#[]⟩] 34)) := (by repeat' (first | exact Below.refl _ _ | with_reducible assumption | omega | with_reducible refine below_put_fut ?_ ?_ _ | with_reducible refine below_to_put ?_ | with_reducible refine Below.alloc ?_ ?_ _ | with_reducible refine Below.fut ?_ ?_ _ | with_reducible refine Below.drew ?_ | with_reducible refine Below.setCell ?_ ?_ _ | with_reducible refine Below.atPut ?_ ?_ _ | (simp [go_sem]; done) | (simp [go_sem]; omega)))
  refine (filled_is _ _ _ 3 rfl (by omega) hs).mono ?_
  rintro _ W1 ⟨gs, gr, rfl, hb1⟩
  rw [fill3] at hb1
  obtain ⟨v, _, _, _, _, hh⟩ := (hb1.base hbw hbw.size).held (by decide)
  have H1 := hid (hh.sub (G := fun _ => False) (fun _ h => h.elim))
  clear hb1 hs hbw hh
  go_wp2_with fail
  refine (sh_page H1.out.sh (by decide) ⟨#[]⟩ ⟨#[]⟩ (by decide) (by decide) 2 (by omega)).mono ?_
  rintro _ W2 ⟨ao, n, c, rfl, hr, hn, hb, -⟩
  obtain rfl : n = 2 := hn
  rw [ex3_range] at hr ⊢
  have H2 := hid (H1.out.on hb)
  have HR := hid hr
  clear hb hr H1
  rw [show decide (2 < ex3.length) = true from rfl, show ((ex3[2]?).map (·.1)).getD ⟨#[]⟩ = (⟨#[99]⟩ : ByteArray) from rfl]
  go_wp2_with fail
  refine (chunks_is W2 _ (ex3.take 2) 2 rfl (by omega) (HR.out.src (flat_one _)) (fun ao' c' h => by injection h with _ _ h3; have := row_cap HR.out; omega)).mono ?_
  rintro _ W3 ⟨oo, oc, rfl, vs, _, _, _, hb3, _⟩
  have H3 := hid (H2.out.on hb3)
  clear hb3 H2 HR
  go_wp2_with fail
  refine (cutOut_is H3.out 0 0 (by omega) (by omega) (by omega) (by omega) 3 (by rw [arcL_whole]; rfl)).mono ?_
  rintro _ W4 ⟨ao4, c4, rfl, -, hh4, -, -⟩
  rw [outL_whole] at hh4
  have H4 := hid hh4
  clear hh4 H3
  go_wp2_with fail
  (((with_reducible refine (sh_len H4.out.sh 0 rfl).mono ?_)); rintro _ _ ⟨rfl, u5, rfl⟩)
  have hb4 := H4.out.1
  have hz4 := H4.out.2.1
  go_wp2_with fail
  go_ret
  exact .mk rfl (hb4.trans (u5.below.mono hz4))
end Go.Proofs.Ythknenhcnpgkcaa
