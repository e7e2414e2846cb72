/- ShelfAgain answers true for every three texts. No condition. -/
import Derived.Test.YthknenhcnpgkcaaShB
import Derived.Test.YthknenhcnpgkcaaFrame
import Derived.IntWalk
import Derived.ChangeMaps5
namespace Go.Proofs.Ythknenhcnpgkcaa
open Go.ChangeShapes Go.WideShapes Go.ChangeAt Go.RowKit Go.Joins
open Go.ChangeMaps (open_string shut_string)
set_option linter.unusedVariables false
set_option linter.unusedSimpArgs false
theorem put_new1 (k v : ByteArray) (hk : ¬ (k.size < 1 ∨ 16 < k.size)) (hv : ¬ 16 < v.size) : putL 1 k v [] = (0, [(k, v)]) := by
  unfold putL
  rw [if_neg hk, if_neg hv, show valueOf k [] = none from rfl, if_neg (by simp), if_neg (by simp)]
  rfl
theorem put_old1 (k v w : ByteArray) (hk : ¬ (k.size < 1 ∨ 16 < k.size)) (hv : ¬ 16 < v.size) : putL 1 k v [(k, w)] = (0, [(k, v)]) := by
  unfold putL
  rw [if_neg hk, if_neg hv, show valueOf k [(k, w)] = some w from valueOf_head]
  simp [repL]
set_option maxRecDepth 100000 in
set_option maxHeartbeats 4000000 in
theorem shelfAgain_good (k a b : ByteArray) (hk : ¬ (k.size < 1 ∨ 16 < k.size)) (ha : ¬ 16 < a.size) (hb : ¬ 16 < b.size) (w : World) :
    Calls Try.prog 14 #[.string k, .string a, .string b] w (Makes (.bool true) w) := by
  have d1 : decide ((k.size : Int) < 1) = false := by simp; omega
  have d2 : decide ((16 : Int) < k.size) = false := by simp; omega
  have d3 : decide ((16 : Int) < a.size) = false := by simp; omega
  have d4 : decide ((16 : Int) < b.size) = false := by simp; omega
  have HK := hid (small_of (v := k) (by omega))
  have P1 := hid (put_new1 k a hk ha)
  have P2 := hid (put_old1 k b a hk hb)
  have G1 := hid (show (valueOf k [(k, b)]).getD ⟨#[]⟩ = b by rw [valueOf_head]; rfl)
  have G2 := hid (show (valueOf k [(k, b)]).isSome = true by rw [valueOf_head]; rfl)
  have G3 := hid (show (valueOf k []).getD ⟨#[]⟩ = (⟨#[]⟩ : ByteArray) from rfl)
  have G4 := hid (show (valueOf k []).isSome = false from rfl)
  clear hk ha hb
  go_enter Try.func14, Try.ntmps14
  go_wp2_with (first | (go_at_call 24; ((with_reducible refine (shAlive_any _).mono ?_)); rintro _ _ ⟨rfl, u, rfl⟩; (try (rw [Fut.put_self u (by first | assumption | (simp [go_sem]; done) | (simp [go_sem]; omega))]))) | (((with_reducible refine wp_region_fut_lit (by kernel_rfl) (by kernel_rfl) ?_)); (repeat (go_big_quiet_step ((first | (go_at_call 24; with_reducible exact Calls.fut_of (shAlive_any _)))))); ((with_reducible refine wpQuiet_nil ?_)); rintro _ ⟨u, rfl⟩; (try (rw [Fut.put_self u (by first | assumption | (simp [go_sem]; done) | (simp [go_sem]; omega))]))))
  have hbX := u.below
  have hzX := hbX.size
  generalize u.val = X at hbX hzX ⊢
  (((with_reducible refine (sh_new w.heap.size w 1 1 (by decide) _ hbX hzX).mono ?_)); rintro _ W1 ⟨rfl, h1⟩)
  generalize X.heap.size = g at h1 ⊢
  go_wp2_with fail
  (((with_reducible refine (sh_put h1 (by decide) k a 0 [(k, a)] P1.out).mono ?_)); rintro _ W2 ⟨rfl, h2⟩)
  go_wp2_with fail
  (((with_reducible refine (sh_put h2 (by simp) k b 0 [(k, b)] P2.out).mono ?_)); rintro _ W3 ⟨rfl, h3⟩)
  have H3 := hid h3
  clear h1 h2 h3
  go_wp2_with fail
  (((with_reducible refine (sh_get H3.out k HK.out b true G1.out G2.out).mono ?_)); rintro _ _ ⟨rfl, u4, rfl⟩)
  have H4 := hid (H3.out.on u4.below H3.out.ge)
  go_wp2_with fail
  (((with_reducible refine (sh_len H4.out 1 rfl).mono ?_)); rintro _ _ ⟨rfl, u5, rfl⟩)
  have H5 := hid (H4.out.on u5.below H4.out.ge)
  go_wp2_with fail
  refine (sh_depth H5.out (by simp)).mono ?_
  rintro _ _ ⟨⟨D, rfl, _, _, _, hD⟩, u6, rfl⟩
  obtain rfl : D = 1 := hD rfl
  have H6 := hid (H5.out.on u6.below H5.out.ge)
  clear hD
  go_wp2_with fail
  (((with_reducible refine (del_one H6.out HK.out).mono ?_)); rintro _ W7 ⟨rfl, h7⟩)
  have H7 := hid h7
  clear h7
  go_wp2_with fail
  (((with_reducible refine (del_nil H7.out k).mono ?_)); rintro _ _ ⟨rfl, u8, rfl⟩)
  have H8 := hid (H7.out.on u8.below H7.out.ge)
  go_wp2_with fail
  (((with_reducible refine (sh_get H8.out k HK.out ⟨#[]⟩ false G3.out G4.out).mono ?_)); rintro _ _ ⟨rfl, u9, rfl⟩)
  have H9 := hid (H8.out.on u9.below H8.out.ge)
  go_wp2_with fail
  (((with_reducible refine (sh_len H9.out 0 rfl).mono ?_)); rintro _ _ ⟨rfl, u10, rfl⟩)
  have H10 := hid (H9.out.on u10.below H9.out.ge)
  go_wp2_with fail
  refine (sh_depth H10.out (by simp)).mono ?_
  rintro _ _ ⟨⟨D, rfl, _, hD, _, _⟩, u11, rfl⟩
  obtain rfl : D = 0 := hD.2 rfl
  have H11 := hid (H10.out.on u11.below H10.out.ge)
  clear hD
  go_wp2_with fail
  (((with_reducible refine (sh_put H11.out (by simp) k a 0 [(k, a)] P1.out).mono ?_)); rintro _ W12 ⟨rfl, h12⟩)
  have H12 := hid h12
  clear h12
  go_wp2_with fail
  (((with_reducible refine (sh_len H12.out 1 rfl).mono ?_)); rintro _ _ ⟨rfl, u13, rfl⟩)
  have hbw := (H12.out.on u13.below H12.out.ge).1
  go_wp2_with fail
  go_ret
  exact .mk rfl hbw
theorem shelfAgain_walk (k : ByteArray) (sk : k.size ≤ maxLen) (a : ByteArray) (sa : a.size ≤ maxLen) (b : ByteArray) (sb : b.size ≤ maxLen) (w : World) :
    Calls Try.prog 14 #[.string k, .string a, .string b] w (Makes (.bool true) w) := by
  clear sk sa sb
  rcases Nat.lt_or_ge k.size 1 with c | c
  · have d1 : decide ((k.size : Int) < 1) = true := by simp; omega
    clear c
    go_enter Try.func14, Try.ntmps14
    go_wp2_with (first | (go_at_call 24; ((with_reducible refine (shAlive_any _).mono ?_)); rintro _ _ ⟨rfl, u, rfl⟩; (try (rw [Fut.put_self u (by first | assumption | (simp [go_sem]; done) | (simp [go_sem]; omega))]))) | (((with_reducible refine wp_region_fut_lit (by kernel_rfl) (by kernel_rfl) ?_)); (repeat (go_big_quiet_step ((first | (go_at_call 24; with_reducible exact Calls.fut_of (shAlive_any _)))))); ((with_reducible refine wpQuiet_nil ?_)); rintro _ ⟨u, rfl⟩; (try (rw [Fut.put_self u (by first | assumption | (simp [go_sem]; done) | (simp [go_sem]; omega))]))))
    go_ret; exact .mk (by first | rfl | (simp; done) | (simp; omega)) (by repeat' (first | exact Below.refl _ _ | with_reducible assumption | omega | with_reducible refine below_put_fut ?_ ?_ _ | with_reducible refine below_to_put ?_ | with_reducible refine Below.alloc ?_ ?_ _ | with_reducible refine Below.fut ?_ ?_ _ | with_reducible refine Below.drew ?_ | with_reducible refine Below.setCell ?_ ?_ _ | with_reducible refine Below.atPut ?_ ?_ _ | (simp [go_sem]; done) | (simp [go_sem]; omega)))
  have d1 : decide ((k.size : Int) < 1) = false := by simp; omega
  rcases Nat.lt_or_ge 16 k.size with c2 | c2
  · have d2 : decide ((16 : Int) < k.size) = true := by simp; omega
    clear c c2
    go_enter Try.func14, Try.ntmps14
    go_wp2_with (first | (go_at_call 24; ((with_reducible refine (shAlive_any _).mono ?_)); rintro _ _ ⟨rfl, u, rfl⟩; (try (rw [Fut.put_self u (by first | assumption | (simp [go_sem]; done) | (simp [go_sem]; omega))]))) | (((with_reducible refine wp_region_fut_lit (by kernel_rfl) (by kernel_rfl) ?_)); (repeat (go_big_quiet_step ((first | (go_at_call 24; with_reducible exact Calls.fut_of (shAlive_any _)))))); ((with_reducible refine wpQuiet_nil ?_)); rintro _ ⟨u, rfl⟩; (try (rw [Fut.put_self u (by first | assumption | (simp [go_sem]; done) | (simp [go_sem]; omega))]))))
    go_ret; exact .mk (by first | rfl | (simp; done) | (simp; omega)) (by repeat' (first | exact Below.refl _ _ | with_reducible assumption | omega | with_reducible refine below_put_fut ?_ ?_ _ | with_reducible refine below_to_put ?_ | with_reducible refine Below.alloc ?_ ?_ _ | with_reducible refine Below.fut ?_ ?_ _ | with_reducible refine Below.drew ?_ | with_reducible refine Below.setCell ?_ ?_ _ | with_reducible refine Below.atPut ?_ ?_ _ | (simp [go_sem]; done) | (simp [go_sem]; omega)))
  have d2 : decide ((16 : Int) < k.size) = false := by simp; omega
  rcases Nat.lt_or_ge 16 a.size with c3 | c3
  · have d3 : decide ((16 : Int) < a.size) = true := by simp; omega
    clear c c2 c3
    go_enter Try.func14, Try.ntmps14
    go_wp2_with (first | (go_at_call 24; ((with_reducible refine (shAlive_any _).mono ?_)); rintro _ _ ⟨rfl, u, rfl⟩; (try (rw [Fut.put_self u (by first | assumption | (simp [go_sem]; done) | (simp [go_sem]; omega))]))) | (((with_reducible refine wp_region_fut_lit (by kernel_rfl) (by kernel_rfl) ?_)); (repeat (go_big_quiet_step ((first | (go_at_call 24; with_reducible exact Calls.fut_of (shAlive_any _)))))); ((with_reducible refine wpQuiet_nil ?_)); rintro _ ⟨u, rfl⟩; (try (rw [Fut.put_self u (by first | assumption | (simp [go_sem]; done) | (simp [go_sem]; omega))]))))
    go_ret; exact .mk (by first | rfl | (simp; done) | (simp; omega)) (by repeat' (first | exact Below.refl _ _ | with_reducible assumption | omega | with_reducible refine below_put_fut ?_ ?_ _ | with_reducible refine below_to_put ?_ | with_reducible refine Below.alloc ?_ ?_ _ | with_reducible refine Below.fut ?_ ?_ _ | with_reducible refine Below.drew ?_ | with_reducible refine Below.setCell ?_ ?_ _ | with_reducible refine Below.atPut ?_ ?_ _ | (simp [go_sem]; done) | (simp [go_sem]; omega)))
  have d3 : decide ((16 : Int) < a.size) = false := by simp; omega
  rcases Nat.lt_or_ge 16 b.size with c4 | c4
  · have d4 : decide ((16 : Int) < b.size) = true := by simp; omega
    clear c c2 c3 c4
    go_enter Try.func14, Try.ntmps14
    go_wp2_with (first | (go_at_call 24; ((with_reducible refine (shAlive_any _).mono ?_)); rintro _ _ ⟨rfl, u, rfl⟩; (try (rw [Fut.put_self u (by first | assumption | (simp [go_sem]; done) | (simp [go_sem]; omega))]))) | (((with_reducible refine wp_region_fut_lit (by kernel_rfl) (by kernel_rfl) ?_)); (repeat (go_big_quiet_step ((first | (go_at_call 24; with_reducible exact Calls.fut_of (shAlive_any _)))))); ((with_reducible refine wpQuiet_nil ?_)); rintro _ ⟨u, rfl⟩; (try (rw [Fut.put_self u (by first | assumption | (simp [go_sem]; done) | (simp [go_sem]; omega))]))))
    go_ret; exact .mk (by first | rfl | (simp; done) | (simp; omega)) (by repeat' (first | exact Below.refl _ _ | with_reducible assumption | omega | with_reducible refine below_put_fut ?_ ?_ _ | with_reducible refine below_to_put ?_ | with_reducible refine Below.alloc ?_ ?_ _ | with_reducible refine Below.fut ?_ ?_ _ | with_reducible refine Below.drew ?_ | with_reducible refine Below.setCell ?_ ?_ _ | with_reducible refine Below.atPut ?_ ?_ _ | (simp [go_sem]; done) | (simp [go_sem]; omega)))
  exact shelfAgain_good k a b (by omega) (by omega) (by omega) w
end Go.Proofs.Ythknenhcnpgkcaa
