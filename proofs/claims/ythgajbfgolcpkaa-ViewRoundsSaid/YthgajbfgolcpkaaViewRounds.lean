/- ViewRounds answers true for every list of arcs with owners and every point, and leaves them as they were. No condition. -/
import Derived.Test.YthgajbfgolcpkaaVwD
import Derived.Test.YthgajbfgolcpkaaOws
import Derived.Test.YthgajbfgolcpkaaFrame
import Derived.IntWalk
namespace Go.Proofs.Ythgajbfgolcpkaa
open Go.ChangeShapes Go.WideShapes Go.ChangeAt Go.RowKit Go.Joins
set_option linter.unusedVariables false
set_option linter.unusedSimpArgs false
theorem good_T0 : GoodL [(0, 0, 0)] := ⟨fun p h => by cases h; rfl, List.pairwise_singleton _ _, fun p h => by simp at h; subst h; decide⟩
theorem known_T0 : Known [(0, 0, 0)] := fun y hy _ => by simp [semF, hy]
set_option maxRecDepth 100000 in
set_option maxHeartbeats 4000000 in
theorem viewRounds_good (w : World) (ao : Option Addr) (m cap : Nat) (zs : List Ow) (hl : zs.length = m) (hi : OwsAt w (.slice ao m cap) zs) (hm : m ≤ 40) (x : Int) (hx : 0 ≤ x) (hx2 : x < 18446744073709551616) :
    Calls Try.prog 14 #[.slice ao m cap, .int .u64 x] w (Makes (.bool true) w) := by
  have hlaw := round_law (told_good good_T0 zs hi.ok) (known_T0.told good_T0 zs hi.ok) hx hx2
  have hring := ((known_T0.told good_T0 zs hi.ok).ring (told_good good_T0 zs hi.ok)).2.2
  have HI := hid hi
  have HL := hid hl
  have d1 : decide ((40 : Int) < m) = false := by simp; omega
  have HLAW := hid hlaw
  have HR := hid hring
  have HX := hid (And.intro hx hx2)
  clear hi hl hlaw hring hx hx2
  go_enter Try.func14, Try.ntmps14
  go_wp2_with (first | (go_at_call 34; ((with_reducible refine (viewAlive_any _).mono ?_)); rintro _ _ ⟨rfl, u, rfl⟩; (try (rw [Fut.put_self u (by first | assumption | (simp [go_sem]; done) | (simp [go_sem]; omega))]))) | (((with_reducible refine wp_region_fut_lit (by kernel_rfl) (by kernel_rfl) ?_)); (repeat (go_big_quiet_step ((first | (go_at_call 34; with_reducible exact Calls.fut_of (viewAlive_any _)))))); ((with_reducible refine wpQuiet_nil ?_)); rintro _ ⟨u, rfl⟩; (try (rw [Fut.put_self u (by first | assumption | (simp [go_sem]; done) | (simp [go_sem]; omega))]))))
  obtain ⟨B, hB⟩ : ∃ B : Base, B = ⟨u.val, fun _ => none⟩ := ⟨_, rfl⟩
  have hg : u.val.heap.size = w.heap.size + u.n := by simp [go_sem]
  have h0 : Vw B (w.heap.size + u.n) [] (u.val.alloc (viewObj (.slice none 0 0))) := vw_new (by rw [hB]; exact fun _ => rfl) (by rw [hB]; exact (by repeat' (first | exact Below.refl _ _ | with_reducible assumption | omega | with_reducible refine below_put_fut ?_ ?_ _ | with_reducible refine below_to_put ?_ | with_reducible refine Below.alloc ?_ ?_ _ | with_reducible refine Below.fut ?_ ?_ _ | with_reducible refine Below.drew ?_ | with_reducible refine Below.setCell ?_ ?_ _ | with_reducible refine Below.atPut ?_ ?_ _ | (simp [go_sem]; done) | (simp [go_sem]; omega)))) (by rw [hB]; exact Nat.le_of_eq hg) (heap_alloc_at _ _ _ (by rw [hg]))
  have HBW := hid (show Below w.heap.size w B.toWorld by rw [hB]; exact (by repeat' (first | exact Below.refl _ _ | with_reducible assumption | omega | with_reducible refine below_put_fut ?_ ?_ _ | with_reducible refine below_to_put ?_ | with_reducible refine Below.alloc ?_ ?_ _ | with_reducible refine Below.fut ?_ ?_ _ | with_reducible refine Below.drew ?_ | with_reducible refine Below.setCell ?_ ?_ _ | with_reducible refine Below.atPut ?_ ?_ _ | (simp [go_sem]; done) | (simp [go_sem]; omega))))
  clear hB hg d1
  generalize w.heap.size + u.n = g at h0 ⊢
  (((with_reducible refine (vw_learn h0 (by decide) (0, 0, 0, 0) [(0, 0, 0)] true (by decide)).mono ?_)); rintro _ W1 ⟨rfl, h1⟩)
  have H0 := hid h1
  clear h0 h1
  go_wp2_with fail
  go_loopw [29] (fun i wr => ∃ k : Nat, k ≤ m ∧ i = .int .i64 k ∧ Hid (Vw B g (told [(0, 0, 0)] (zs.take k)) wr)) (fun i _ => m - (intOf i).toNat)
  case atStart => exact ⟨0, Nat.zero_le _, rfl, H0⟩
  case round =>
    obtain ⟨k, hk, rfl, hv⟩ := hrel
    have hbw := HBW.out.trans (hv.out.below.mono HBW.out.size)
    by_cases hlt : k < m
    · obtain ⟨p, hp⟩ : ∃ p, zs[k]? = some p := ⟨zs[k]'(by rw [HL.out]; exact hlt), List.getElem?_eq_getElem _⟩
      obtain ⟨b1, o1, rfl, p0, p1, p2, p3⟩ := HI.out.at_ hp
      have hlb := World.block_lt_of_cell? _ _ p0
      have q0 := (hbw.cell (p := ⟨b1, o1 + k * 4, none⟩) hlb).trans p0
      have q1 := (hbw.cell (p := ⟨b1, o1 + k * 4 + 1, none⟩) hlb).trans p1
      have q2 := (hbw.cell (p := ⟨b1, o1 + k * 4 + 2, none⟩) hlb).trans p2
      have q3 := (hbw.cell (p := ⟨b1, o1 + k * 4 + 3, none⟩) hlb).trans p3
      have HP := hid hp
      clear hp p0 p1 p2 p3 hbw
      go_wp2_with fail
      (((with_reducible refine (vw_learn (hv.out.on (by repeat' (first | exact Below.refl _ _ | with_reducible assumption | omega | with_reducible refine below_put_fut ?_ ?_ _ | with_reducible refine below_to_put ?_ | with_reducible refine Below.alloc ?_ ?_ _ | with_reducible refine Below.fut ?_ ?_ _ | with_reducible refine Below.drew ?_ | with_reducible refine Below.setCell ?_ ?_ _ | with_reducible refine Below.atPut ?_ ?_ _ | (simp [go_sem]; done) | (simp [go_sem]; omega)))) (Nat.le_trans (told_len_take k m (by simp) HL.out hm) (by omega)) p _ _ rfl).mono ?_)); rintro _ W3 ⟨rfl, hv3⟩)
      have HV3 := hid (show Vw B g (told [(0, 0, 0)] (zs.take (k + 1))) W3 by rw [told_take HP.out]; exact hv3)
      clear hv3 q0 q1 q2 q3
      go_wp2_with fail
      go_roundw
      case rel => exact ⟨k + 1, by omega, by go_num, HV3⟩
      case measure => simp [intOf]; omega
    · obtain rfl : k = m := by omega
      have HT := hid (show zs.take k = zs by rw [← HL.out, List.take_length])
      have htl := told_len_take (l0 := [(0, 0, 0)]) (zs := zs) k k (by simp) HL.out hm
      rw [HT.out] at hv htl
      clear H0 hbw
      have HTL := hid htl
      clear htl
      generalize told [(0, 0, 0)] zs = T at *
      go_wp2_with fail
      (((with_reducible refine (vw_ring hv.out (Nat.le_trans HTL.out (by omega)) true HR.out).mono ?_)); rintro _ _ ⟨rfl, u4, rfl⟩)
      have hv4 := hv.out.on u4.below
      obtain ⟨n, f, hn, hn1, ho, hin, hok, hown, hnext, hend⟩ := HLAW.out
      have hn9 : n ≤ 900 := by have := arcsL_len T; have := HTL.out; omega
      have HN := hid hn
      have HO := hid ho
      have HO1 := hid (show (ownerL x (arcsL T)).getD (0, 0, 0, 0) = f 0 by rw [ho]; rfl)
      have HO2 := hid (show (ownerL x (arcsL T)).isSome = true by rw [ho]; rfl)
      have HIN := hid hin
      have HOK := hid hok
      have HOWN := hid hown
      have HNX := hid hnext
      have HE := hid hend
      have HV4 := hid hv4
      clear hn ho hin hok hown hnext hend hv4 HLAW
      generalize u4.val = W4 at HV4 ⊢
      go_wp2_with fail
      go_loopw [8, 9] (fun a i wr => ∃ (k : Nat) (y : Int), k < n ∧ i = .int .i64 k ∧ a = .int .u64 y ∧ Hid ((0 ≤ y ∧ y < 18446744073709551616) ∧ inB (f k).1 (f k).2.1 y = true) ∧ Hid (Vw B g T wr)) (fun _ i _ => n - (intOf i).toNat)
      case atStart => exact ⟨0, x, hn1, rfl, rfl, hid ⟨HX.out, HIN.out⟩, HV4⟩
      case round =>
        obtain ⟨q, y, hq, rfl, rfl, HY, hv5⟩ := hrel
        have e1 : decide ((q : Int) ≤ n) = true := by simp; omega
        go_wp2_with fail
        (((with_reducible refine (vw_len hv5.out (Nat.le_trans HTL.out (by omega)) n HN.out).mono ?_)); rintro _ W6 ⟨rfl, hb6⟩)
        have HV6 := hid (hv5.out.on hb6)
        clear hb6
        go_wp2_with fail
        (((with_reducible refine (vw_next HV6.out (Nat.le_trans HTL.out (by omega)) y (f q) (HOWN.out q y HY.out.1.1 HY.out.1.2 HY.out.2)).mono ?_)); rintro _ W7 ⟨rfl, hb7⟩)
        have HV7 := hid (HV6.out.on hb7)
        clear hb7
        go_wp2_with fail
        (((with_reducible refine (vw_owner2 HV7.out (Nat.le_trans HTL.out (by omega)) x (f 0) true HO1.out HO2.out).mono ?_)); rintro _ W8 ⟨rfl, hb8⟩)
        have HV8 := hid (HV7.out.on hb8)
        clear hb8
        go_wp2_with fail
        rcases Decidable.em (q + 1 = n) with c | c
        · have hin2 : inB (f 0).1 (f 0).2.1 (f q).2.1 = true := by rw [HE.out q hq]; simp [c]
          (((with_reducible refine (in_any _ _ _ _ hin2 _).mono ?_)); rintro _ _ ⟨rfl, u9, rfl⟩)
          have HV9 := hid (HV8.out.on (W' := u9.val) (by repeat' (first | exact Below.refl _ _ | with_reducible assumption | omega | with_reducible refine below_put_fut ?_ ?_ _ | with_reducible refine below_to_put ?_ | with_reducible refine Below.alloc ?_ ?_ _ | with_reducible refine Below.fut ?_ ?_ _ | with_reducible refine Below.drew ?_ | with_reducible refine Below.setCell ?_ ?_ _ | with_reducible refine Below.atPut ?_ ?_ _ | (simp [go_sem]; done) | (simp [go_sem]; omega))))
          clear hin2
          go_wp2_with fail
          (((with_reducible refine (vw_len HV9.out (Nat.le_trans HTL.out (by omega)) n HN.out).mono ?_)); rintro _ W10 ⟨rfl, hb10⟩)
          have hv10 := HV9.out.on hb10
          have hbw := HBW.out.trans (hv10.below.mono HBW.out.size)
          have hz := HBW.out.size
          have e2 : (((q : Int) + 1) == (n : Int)) = true := by simp; omega
          clear hb10 hv10
          go_wp2_with fail
          go_ret; exact .mk (by first | rfl | (simp; done) | (simp; omega)) (by repeat' (first | exact Below.refl _ _ | with_reducible assumption | omega | with_reducible refine below_put_fut ?_ ?_ _ | with_reducible refine below_to_put ?_ | with_reducible refine Below.alloc ?_ ?_ _ | with_reducible refine Below.fut ?_ ?_ _ | with_reducible refine Below.drew ?_ | with_reducible refine Below.setCell ?_ ?_ _ | with_reducible refine Below.atPut ?_ ?_ _ | (simp [go_sem]; done) | (simp [go_sem]; omega)))
        · have hin2 : inB (f 0).1 (f 0).2.1 (f q).2.1 = false := by rw [HE.out q hq]; simp [c]
          (((with_reducible refine (in_any _ _ _ _ hin2 _).mono ?_)); rintro _ _ ⟨rfl, u9, rfl⟩)
          have HV9 := hid (HV8.out.on (W' := u9.val) (by repeat' (first | exact Below.refl _ _ | with_reducible assumption | omega | with_reducible refine below_put_fut ?_ ?_ _ | with_reducible refine below_to_put ?_ | with_reducible refine Below.alloc ?_ ?_ _ | with_reducible refine Below.fut ?_ ?_ _ | with_reducible refine Below.drew ?_ | with_reducible refine Below.setCell ?_ ?_ _ | with_reducible refine Below.atPut ?_ ?_ _ | (simp [go_sem]; done) | (simp [go_sem]; omega))))
          clear hin2
          go_wp2_with fail
          go_roundw
          case rel => exact ⟨q + 1, (f q).2.1, by omega, by go_num, rfl, hid ⟨HOK.out q, HNX.out q⟩, HV9⟩
          case measure => simp [intOf]; omega
theorem viewRounds_walk (w : World) (v : Value) (zs : List Ow) (hi : OwsAt w v zs) (x : Int) (wx : (Lit.int .u64 x).wf = true) :
    Calls Try.prog 14 #[v, .int .u64 x] w (Makes (.bool true) w) := by
  have hx := U64.bd wx
  clear wx
  obtain ⟨ao, cap, rfl⟩ := hi.slice
  rcases Nat.lt_or_ge 40 zs.length with c | c
  · clear hi
    generalize zs.length = m at c ⊢
    have d1 : decide ((40 : Int) < m) = true := by simp; omega
    go_enter Try.func14, Try.ntmps14
    go_wp2_with (first | (go_at_call 34; ((with_reducible refine (viewAlive_any _).mono ?_)); rintro _ _ ⟨rfl, u, rfl⟩; (try (rw [Fut.put_self u (by first | assumption | (simp [go_sem]; done) | (simp [go_sem]; omega))]))) | (((with_reducible refine wp_region_fut_lit (by kernel_rfl) (by kernel_rfl) ?_)); (repeat (go_big_quiet_step ((first | (go_at_call 34; with_reducible exact Calls.fut_of (viewAlive_any _)))))); ((with_reducible refine wpQuiet_nil ?_)); rintro _ ⟨u, rfl⟩; (try (rw [Fut.put_self u (by first | assumption | (simp [go_sem]; done) | (simp [go_sem]; omega))]))))
    go_ret; exact .mk (by first | rfl | (simp; done) | (simp; omega)) (by repeat' (first | exact Below.refl _ _ | with_reducible assumption | omega | with_reducible refine below_put_fut ?_ ?_ _ | with_reducible refine below_to_put ?_ | with_reducible refine Below.alloc ?_ ?_ _ | with_reducible refine Below.fut ?_ ?_ _ | with_reducible refine Below.drew ?_ | with_reducible refine Below.setCell ?_ ?_ _ | with_reducible refine Below.atPut ?_ ?_ _ | (simp [go_sem]; done) | (simp [go_sem]; omega)))
  exact viewRounds_good w ao _ cap zs rfl hi c x hx.1 (by omega)
set_option maxRecDepth 100000 in
theorem viewRounds_lifted (os : Os) (started : os.Started) (H : Type) (enc : TypeId × Value → H) :
    ReturnsInHanded {} Try.checked os 14 .any (Rows.viewRoundsSpec.pre6 enc Try.prog Try.f14 Rows.viewRoundsRow.domain false) (Rows.viewRoundsSpec.post enc Try.prog Try.f14 false true false false) := by
  refine returnsInHanded_of_change (C := Try.checked) own started (by kernel_rfl) Try.func14
    (ChangeSpec.witness6 (enc := enc) (C := Try.checked) false ⟨#[], #[.slice none 0 0, .int .u64 0], []⟩ 8 (by kernel_rfl) (by kernel_rfl) (by kernel_rfl) (by kernel_rfl)) ?_
  intro W base args ds gs before hval0 hW hcnd _
  have hval : ∀ (j : Nat) t v, Try.f14.params[j]? = some t → args[j]? = some v → Value.okWide Try.prog W .any base t v := hval0
  have hW' := hW
  obtain ⟨p, q, hA0, hV, rfl, hfz, hnd⟩ := hW
  have hA : DataW.TrodAll enc Try.prog W 0 (fun _ => true) true Try.f14.params.toList args.toList ds p := hA0
  rw [Try.params14] at hA hval
  obtain ⟨v0, vs0, d0, ds0, p0, q0, hargs, rfl, rfl, h0, r0⟩ := trodAll_cons hA
  obtain ⟨v1, vs1, d1, ds1, p1, q1, rfl, rfl, rfl, h1, r1⟩ := trodAll_cons r0
  obtain ⟨rfl, rfl, rfl⟩ := trodAll_nil r1
  obtain rfl : args = #[v0, v1] := by cases args; simp_all
  obtain ⟨rfl, rfl⟩ := trodVars_none hV
  have k0 := h0
  have lt0 : ∀ x ∈ p0, x.block < W.heap.size := by obtain ⟨m, hm⟩ := k0; exact DataW.trod_lt m _ _ _ hm
  obtain ⟨l0, w0⟩ := open_owneds (hval 0 69 v0 rfl rfl) h0
  have k1 := h1
  have lt1 : ∀ x ∈ p1, x.block < W.heap.size := by obtain ⟨m, hm⟩ := k1; exact DataW.trod_lt m _ _ _ hm
  obtain ⟨a1, rfl, -, -, w1⟩ := open_int Try.underlying32 (hval 1 32 v1 rfl rfl) h1
  clear hA0 hval0
  refine (viewRounds_walk W _ l0 w0 a1 w1).mono fun e W' ⟨he, u, hu⟩ => ?_
  subst he; subst hu
  have bel := u.below
  exact ⟨_, rfl, _, _, _, [], _, [], hW', trodAll_mk1 (shut_bool Try.underlying4 _), (trodAll_cons_mk (Below.trod laidOut (by kernel_rfl) (of_decide_eq_true (by kernel_rfl)) k0 bel lt0) (trodAll_cons_mk (Below.trod laidOut (by kernel_rfl) (of_decide_eq_true (by kernel_rfl)) k1 bel lt1) trodAll_mk0)), rfl, bel.frame _, fun h => by cases h⟩
/-- The statement. -/
theorem viewRounds_holds : Rows.ViewRoundsSaid :=
  OpenClaim.holds_of_wide 14 Try.f14 rfl rfl rfl rfl rfl rfl rfl ⟨rfl, rfl, rfl, rfl, rfl⟩ rfl rfl rfl rfl rfl (by kernel_rfl) Try.func14 (by kernel_rfl)
    (of_decide_eq_true (by kernel_rfl)) (by unfold Func.isWrapper; first | (rw [if_pos (by decide +kernel)]; kernel_rfl) | (rw [if_neg (by decide +kernel)]; exact ⟨rfl, rfl⟩))
    (fun os started H enc _ => viewRounds_lifted os started H enc)
#print axioms viewRounds_holds
end Go.Proofs.Ythgajbfgolcpkaa
