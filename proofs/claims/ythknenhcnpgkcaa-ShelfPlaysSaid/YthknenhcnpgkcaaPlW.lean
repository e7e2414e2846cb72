/- ShelfPlays answers true for every int, list of acts and text: the walk. -/
import Derived.Test.YthknenhcnpgkcaaPl2
import Derived.Test.YthknenhcnpgkcaaOps
import Derived.Test.YthknenhcnpgkcaaMq
import Derived.IntWalk
import Derived.Deep.CutBlock
import Derived.Deep.DeepCutAuto
import Derived.Deep.RegionHeld3
namespace Go.Proofs.Ythknenhcnpgkcaa
open Go.RowKit
set_option linter.unusedVariables false
set_option linter.unusedSimpArgs false
theorem depthNil_is (W : World) : Calls Try.prog 30 #[.pointer none] W (Makes (.int .i64 0) W) := by
  go_enter Try.func30, Try.ntmps30
  go_wp2_with fail
  go_step3
  go_wp2_with fail
  (try rw [Exit.noGoto_ret])
  go_ret; exact .mk (by first | rfl | (simp; done) | (simp; omega)) (by repeat' (first | exact Below.refl _ _ | with_reducible assumption | omega | with_reducible refine below_put_fut ?_ ?_ _ | with_reducible refine below_to_put ?_ | with_reducible refine Below.alloc ?_ ?_ _ | with_reducible refine Below.fut ?_ ?_ _ | with_reducible refine Below.drew ?_ | with_reducible refine Below.setCell ?_ ?_ _ | with_reducible refine Below.atPut ?_ ?_ _ | (simp [go_sem]; done) | (simp [go_sem]; omega)))
theorem play_start {w0 W : World} {m : Int} {gs : Nat} (h : Sh w0.heap.size w0 m [] gs W) :
    Play (fun _ => False) w0 m [] [] gs W.heap.size (W.heap.size + 1) [] ((W.alloc (refObj m (.slice none 0 0))).alloc (bookObj (.slice none 0 0) (.slice none 0 0))) := by
  have hB := h.ge
  obtain ⟨h1, c, top, h2, h3⟩ := h
  have hb : Below W.heap.size W ((W.alloc (refObj m (.slice none 0 0))).alloc (bookObj (.slice none 0 0) (.slice none 0 0))) := (by repeat' (first | exact Below.refl _ _ | with_reducible assumption | omega | with_reducible refine below_put_fut ?_ ?_ _ | with_reducible refine below_to_put ?_ | with_reducible refine Below.alloc ?_ ?_ _ | with_reducible refine Below.fut ?_ ?_ _ | with_reducible refine Below.drew ?_ | with_reducible refine Below.setCell ?_ ?_ _ | with_reducible refine Below.atPut ?_ ?_ _ | (simp [go_sem]; done) | (simp [go_sem]; omega)))
  have hc : ∀ k, W.heap.size ≤ k → c k = 0 := fun k hk => by
    rcases Nat.eq_zero_or_pos (c k) with z | z
    · exact z
    · have := h2.lt k (by omega); omega
  have hg : ((W.alloc (refObj m (.slice none 0 0))).alloc (bookObj (.slice none 0 0) (.slice none 0 0))).heap[W.heap.size]? = some (refObj m (.slice none 0 0)) := (heap_alloc_other _ _ _ (by simp)).trans (heap_alloc_at _ _ _ rfl)
  have hk : ((W.alloc (refObj m (.slice none 0 0))).alloc (bookObj (.slice none 0 0) (.slice none 0 0))).heap[W.heap.size + 1]? = some (bookObj (.slice none 0 0) (.slice none 0 0)) := heap_alloc_at _ _ _ (by simp)
  have hbk : Bk ((W.alloc (refObj m (.slice none 0 0))).alloc (bookObj (.slice none 0 0) (.slice none 0 0))) (W.heap.size + 1) (.slice none 0 0) (.slice none 0 0) [] (fun k => one (W.heap.size + 1) k) :=
    ⟨hk, World.ownsRow_nil _ _ _ _, World.ownsRow_nil _ _ _ _, fun q hq => (by cases hq), fun k => by rw [blk_nil]; rfl, fun k => one_le (W.heap.size + 1) k⟩
  have two : ∀ k, one W.heap.size k + one (W.heap.size + 1) k ≤ 1 := fun k => by unfold one; split <;> split <;> omega
  refine ⟨Chg.of_below (h1.trans (hb.mono hB)), c, top, fun k => one W.heap.size k + (0 + one (W.heap.size + 1) k), .slice none 0 0, .slice none 0 0, .slice none 0 0, _, h2.on hb, ⟨hg, World.ownsRow_nil _ _ _ _, h2.rises, hbk, fun k => by rw [blk_nil], fun k => ?_⟩, fun k => ?_, fun k hw hk => ?_⟩
  all_goals (try dsimp only at *)
  · have := two k; omega
  · have := two k
    have := h2.le k
    by_cases e : k < W.heap.size
    · have e1 : one W.heap.size k = 0 := by unfold one; rw [if_neg (by omega)]
      have e2 : one (W.heap.size + 1) k = 0 := by unfold one; rw [if_neg (by omega)]
      omega
    · have := hc k (by omega); omega
  · by_cases e : c k = 0
    · by_cases e1 : one W.heap.size k = 0
      · have := one_ne (p := W.heap.size + 1) (k := k) (by omega); omega
      · have := one_ne e1; omega
    · have := h3 k e; omega
set_option maxRecDepth 100000 in
set_option maxHeartbeats 4000000 in
theorem shelfPlays_good (w : World) (most m : Int) (hm : min (max most 0) 200 = m) (sl : Value) (l : List Op3) (n : Nat) (hl : l.length = n) (hn : n ≤ 200) (hs : OpsAt w sl l) (ask : ByteArray) (ha : ask.size ≤ 40) :
    Calls Try.prog 15 #[.int .i64 most, sl, .string ask] w (Makes (.bool true) w) := by
  obtain ⟨ao, cap, rfl⟩ := hs.slice
  rw [hl]
  have d1 : decide ((200 : Int) < n) = false := by simp; omega
  have d2 : decide ((40 : Int) < ask.size) = false := by simp; omega
  have HS := hid hs
  have HL := hid hl
  have HA := hid (show ask.size ≤ maxLen by unfold maxLen; omega)
  clear hs hl
  go_enter Try.func15, Try.ntmps15
  go_wp2_with (first | (go_at_call 24; ((with_reducible refine (shAlive_any _).mono ?_)); rintro _ _ ⟨rfl, u, rfl⟩; (try (rw [Fut.put_self u (by first | assumption | (simp [go_sem]; done) | (simp [go_sem]; omega))]))) | (((with_reducible refine wp_region_fut_lit (by kernel_rfl) (by kernel_rfl) ?_)); (repeat (go_big_quiet_step ((first | (go_at_call 24; with_reducible exact Calls.fut_of (shAlive_any _)))))); ((with_reducible refine wpQuiet_nil ?_)); rintro _ ⟨u, rfl⟩; (try (rw [Fut.put_self u (by first | assumption | (simp [go_sem]; done) | (simp [go_sem]; omega))]))))
  clear d1 d2
  have hbX := u.below
  have hzX := hbX.size
  generalize u.val = X at hbX hzX ⊢
  refine (sh_new w.heap.size w most m hm _ hbX hzX).mono ?_
  rintro _ W1 ⟨rfl, h1⟩
  generalize X.heap.size = g at h1 ⊢
  have H1 := hid h1
  clear h1 hbX hzX
  go_wp2_with fail
  (((with_reducible refine (refNew_is W1 most m hm).mono ?_)); rintro _ _ ⟨rfl, rfl⟩)
  have HP := hid (play_start H1.out)
  go_wp2_with fail
  go_loopw [7, 10] (fun s x wr => ∃ (i : Nat) (xs : List It) (gs : Nat) (es : List Kept), i ≤ n ∧ x = .int .i64 i ∧ s = .pointer (some ⟨gs, 0, none⟩) ∧ xs.length ≤ i ∧ es.length ≤ i ∧ Hid (Play (fun _ => False) w m xs xs gs W1.heap.size (W1.heap.size + 1) es wr)) (fun _ x _ => n - (intOf x).toNat)
  case atStart => exact ⟨0, [], g, [], Nat.zero_le _, rfl, rfl, by simp, by simp, HP⟩
  case round =>
    obtain ⟨i, xs, gs, es, hi, rfl, rfl, hxl, hel, HP⟩ := hrel
    have hbw : Below w.heap.size w wr := HP.out.1.below (Nat.le_refl _) (fun _ h => h.elim)
    have hzw := hbw.size
    have hso := HS.out.heap hbw
    by_cases hlt : i < n
    · obtain ⟨o, ho⟩ : ∃ o, l[i]? = some o := ⟨_, List.getElem?_eq_getElem (by rw [HL.out]; exact hlt)⟩
      obtain ⟨bo, oo, rfl, c0, c1, c2⟩ := hso.at_ ho
      have hbl := World.block_lt_of_cell? _ _ c0
      have hok := HS.out.ok o (List.mem_of_getElem? ho)
      obtain ⟨kd, K, V⟩ := o
      dsimp only at c0 c1 c2 hok
      have HOK := hid hok
      clear ho hok hso
      by_cases hK : 40 < K.size
      · have d1 : decide ((40 : Int) < K.size) = true := by simp; omega
        clear hK
        go_wp2_with fail
        go_ret
        exact .mk rfl (hbw.trans (Below.mono (B := wr.heap.size) (by repeat' (first | exact Below.refl _ _ | with_reducible assumption | omega | with_reducible refine below_put_fut ?_ ?_ _ | with_reducible refine below_to_put ?_ | with_reducible refine Below.alloc ?_ ?_ _ | with_reducible refine Below.fut ?_ ?_ _ | with_reducible refine Below.drew ?_ | with_reducible refine Below.setCell ?_ ?_ _ | with_reducible refine Below.atPut ?_ ?_ _ | (simp [go_sem]; done) | (simp [go_sem]; omega))) hzw))
      · have d1 : decide ((40 : Int) < K.size) = false := by simp; omega
        by_cases hV : 40 < V.size
        · have d2 : decide ((40 : Int) < V.size) = true := by simp; omega
          clear hK hV
          go_wp2_with fail
          go_ret
          exact .mk rfl (hbw.trans (Below.mono (B := wr.heap.size) (by repeat' (first | exact Below.refl _ _ | with_reducible assumption | omega | with_reducible refine below_put_fut ?_ ?_ _ | with_reducible refine below_to_put ?_ | with_reducible refine Below.alloc ?_ ?_ _ | with_reducible refine Below.fut ?_ ?_ _ | with_reducible refine Below.drew ?_ | with_reducible refine Below.setCell ?_ ?_ _ | with_reducible refine Below.atPut ?_ ?_ _ | (simp [go_sem]; done) | (simp [go_sem]; omega))) hzw))
        · have d2 : decide ((40 : Int) < V.size) = false := by simp; omega
          clear hK hV
          go_upto_region 14 with fail
          have h11 : (wr.alloc (.cells #[.int .i64 kd, .string K, .string V] 93)).heap[wr.heap.size]? = some (.cells #[.int .i64 kd, .string K, .string V] 93) := heap_alloc_at _ _ _ rfl
          have hb3 : Below wr.heap.size wr (wr.alloc (.cells #[.int .i64 kd, .string K, .string V] 93)) := (by repeat' (first | exact Below.refl _ _ | with_reducible assumption | omega | with_reducible refine below_put_fut ?_ ?_ _ | with_reducible refine below_to_put ?_ | with_reducible refine Below.alloc ?_ ?_ _ | with_reducible refine Below.fut ?_ ?_ _ | with_reducible refine Below.drew ?_ | with_reducible refine Below.setCell ?_ ?_ _ | with_reducible refine Below.atPut ?_ ?_ _ | (simp [go_sem]; done) | (simp [go_sem]; omega)))
          obtain ⟨T, hpt, hT⟩ := HP.out.rebase hb3
          have HB3 := hid (HP.out.1.trans (Chg.of_below (S := fun _ => False) hb3) (fun _ _ h => h))
          generalize (wr.alloc (.cells #[.int .i64 kd, .string K, .string V] 93)) = W3 at h11 hpt HB3 ⊢
          have e11 := fun i => cell_of_row W3 wr.heap.size i _ _ (0, 0) h11
          have l11 := lt_of_heap h11
          have hT11 : ¬ T wr.heap.size := fun h => by have := (hT _ h).1; omega
          have HK11 := hid (fun (Y : World) (hY : Chg T W3 Y) => show Y.heap[wr.heap.size]? = some (.cells #[.int .i64 kd, .string K, .string V] 93) from (hY.block _ l11 hT11).trans h11)
          have HPT := hid hpt
          have HT := hid hT
          clear hpt hT h11 hb3 d1 d2 c0 c1 c2 hbw hzw
          generalize wr.heap.size = B at e11 l11 HK11 ⊢
          clear hT11
          go_upto_block 2 with fail
          go_cut [7, 12] (fun s okv wc => ∃ (gs' : Nat) (xs' : List It), s = .pointer (some ⟨gs', 0, none⟩) ∧ okv = .bool true ∧ xs'.length ≤ i + 1 ∧ Hid (Play (fun _ => False) w m xs' xs' gs' W1.heap.size (W1.heap.size + 1) es wc))
          case first =>
            have hxn : xs.length ≤ 900 := by omega
            by_cases k1 : kd = 1
            · subst k1
              as_aux_lemma =>
                obtain ⟨r, xs', he⟩ : ∃ r xs', putL m K V xs = (r, xs') := ⟨_, _, rfl⟩
                have HE := hid he
                have HXL := hid (show xs'.length ≤ i + 1 by have := putL_len m K V xs; rw [he] at this; dsimp only at this; omega)
                have HC := hid (fun (Y : World) (hY : Chg T W3 Y) => show Y.cell? ⟨B, 1, none⟩ = some (.string K) ∧ Y.cell? ⟨B, 2, none⟩ = some (.string V) from ⟨cell_of_row Y B 1 _ _ (0, 0) (HK11.out Y hY), cell_of_row Y B 2 _ _ (0, 0) (HK11.out Y hY)⟩)
                have HU := hid (show Play T W3 m xs xs gs W1.heap.size (W1.heap.size + 1) es W3.drew from HPT.out.on (by repeat' (first | exact Below.refl _ _ | with_reducible assumption | omega | with_reducible refine below_put_fut ?_ ?_ _ | with_reducible refine below_to_put ?_ | with_reducible refine Below.alloc ?_ ?_ _ | with_reducible refine Below.fut ?_ ?_ _ | with_reducible refine Below.drew ?_ | with_reducible refine Below.setCell ?_ ?_ _ | with_reducible refine Below.atPut ?_ ?_ _ | (simp [go_sem]; done) | (simp [go_sem]; omega))))
                clear he hxn
                go_upto_region 16 with fail
                first | (go_region_held3 (fun Y => Y.cell? ⟨B, 1, none⟩ = some (.string K) ∧ Y.cell? ⟨B, 2, none⟩ = some (.string V)) ((first | exact HC.out _ HU5.out.1 | exact HC.out _ HU4.out.1 | exact HC.out _ HU.out.1)) ((first
                  | (go_at_call 26; refine (play_put HU.out (by omega) K V r xs' HE.out).mono ?_; rintro _ W4 ⟨rfl, h4⟩; have HU4 := hid h4; clear h4)
                  | (go_at_call 54; refine (play_rput HU4.out (by omega) K V r xs' HE.out HU4.out.rises).mono ?_; rintro _ W5 ⟨rfl, h5⟩; have HU5 := hid h5; clear h5)))) | fail "held3"
                go_wp2_with fail
                go_meet
                exact ⟨gs, xs', rfl, by simp, HXL.out, hid (HU5.out.back HB3.out fun k hk h => (HT.out k h).2 hk)⟩
            · have f1 : (kd == 1) = false := by simp [k1]
              by_cases k2 : kd = 2
              · subst k2
                as_aux_lemma =>
                  obtain ⟨b, hb⟩ : ∃ b, (valueOf K xs).isSome = b := ⟨_, rfl⟩
                  have HE := hid hb
                  have HXL := hid (show (delL K xs).length ≤ i + 1 by have : (delL K xs).length ≤ xs.length := List.length_filter_le _ _; omega)
                  have HC := hid (fun (Y : World) (hY : Chg T W3 Y) => show Y.cell? ⟨B, 1, none⟩ = some (.string K) from cell_of_row Y B 1 _ _ (0, 0) (HK11.out Y hY))
                  have HU := hid (show Play T W3 m xs xs gs W1.heap.size (W1.heap.size + 1) es W3.drew from HPT.out.on (by repeat' (first | exact Below.refl _ _ | with_reducible assumption | omega | with_reducible refine below_put_fut ?_ ?_ _ | with_reducible refine below_to_put ?_ | with_reducible refine Below.alloc ?_ ?_ _ | with_reducible refine Below.fut ?_ ?_ _ | with_reducible refine Below.drew ?_ | with_reducible refine Below.setCell ?_ ?_ _ | with_reducible refine Below.atPut ?_ ?_ _ | (simp [go_sem]; done) | (simp [go_sem]; omega))))
                  clear hb k1 f1
                  go_upto_region 18 with fail
                  first | (go_region_held3 (fun Y => Y.cell? ⟨B, 1, none⟩ = some (.string K)) ((first | exact HC.out _ HU5.out.1 | exact HC.out _ HU4.out.1 | exact HC.out _ HU.out.1)) ((first
                    | (go_at_call 51; refine (play_del HU.out (by omega) K HOK.out.1 b HE.out).mono ?_; rintro _ W4 ⟨rfl, h4⟩; have HU4 := hid h4; clear h4)
                    | (go_at_call 55; refine (play_rdel HU4.out hxn K b HE.out).mono ?_; rintro _ W5 ⟨rfl, h5⟩; have HU5 := hid h5; clear h5)))) | fail "held3"
                  go_wp2_with fail
                  go_meet
                  exact ⟨gs, delL K xs, rfl, by simp, HXL.out, hid (HU5.out.back HB3.out fun k hk h => (HT.out k h).2 hk)⟩
              · have f2 : (kd == 2) = false := by simp [k2]
                by_cases k3 : kd = 3
                · subst k3
                  as_aux_lemma =>
                    clear k1 k2 f1 f2
                    go_wp2_with fail
                    refine (play_copy HPT.out).mono ?_
                    rintro _ W4 ⟨g', rfl, h4⟩
                    have HU4 := hid h4
                    clear h4
                    go_wp2_with fail
                    refine (play3_put HU4.out (by omega) _ _).mono ?_
                    rintro _ W5 ⟨r, rfl, h5⟩
                    have HU5 := hid h5
                    have hcc := cell_of_row W5 B 1 _ _ (0, 0) (HK11.out W5 h5.1)
                    have hcl := lt_of_heap (HK11.out W5 h5.1)
                    have hpl := putL_len m ⟨#[111, 116, 104, 101, 114]⟩ ⟨#[120]⟩ xs
                    clear h5
                    go_wp2_with fail
                    refine (play3_del HU5.out (by omega) K HOK.out.1).mono ?_
                    rintro _ W6 ⟨b, rfl, h6⟩
                    have HU6 := hid h6
                    clear h6 hpl
                    go_wp2_with fail
                    go_meet
                    exact ⟨g', xs, rfl, rfl, by omega, hid (HU6.out.drop.back HB3.out fun k hk h => (HT.out k h).2 hk)⟩
                · have f3 : (kd == 3) = false := by simp [k3]
                  as_aux_lemma =>
                    clear k1 k2 k3
                    go_wp2_with fail
                    go_meet
                    exact ⟨gs, xs, rfl, rfl, by omega, hid (HPT.out.back HB3.out fun k hk h => (HT.out k h).2 hk)⟩
          case rest =>
            obtain ⟨gs', ys, rfl, rfl, hyl, HY⟩ := hcut
            obtain ⟨at_, is, hp⟩ : ∃ a b, placeOf ask ys = (a, b) := ⟨_, _, rfl⟩
            obtain ⟨vr, hg, hsr, hri⟩ := HY.out.refw
            obtain ⟨q0, q1, _⟩ := delL_place hri hp
            obtain ⟨v, hv⟩ : ∃ v, (valueOf ask ys).getD ⟨#[]⟩ = v := ⟨_, rfl⟩
            obtain ⟨D, hD1, hD2, hD3, hDC⟩ := play_depth HY.out (by omega)
            obtain ⟨yn, hyn⟩ : ∃ yn, ys.length = yn := ⟨_, rfl⟩
            rw [hyn] at hyl hsr hD1 q1
            have hat : at_ ≤ yn := by have := placeOf_le ask ys; rw [hp, hyn] at this; exact this
            have hD4 : D = 0 ↔ yn = 0 := by rw [hD2, ← hyn]; exact List.length_eq_zero_iff.symm
            obtain ⟨va, vc, rfl⟩ := hsr.slice_of
            have HG := hid (fun (Y : World) (hY : Below wc.heap.size wc Y) => (hY.block _ (lt_of_heap hg)).trans hg)
            have HSR := hid hsr
            have HYN := hid hyn
            have HAT := hid (fun (Y : World) (hY : Below wc.heap.size wc Y) => refAt_is Y W1.heap.size m _ ys yn hyn (by omega) ((hY.block _ (lt_of_heap hg)).trans hg) (hsr.heap hY) hri ask at_ is hp)
            have HLEN := hid (fun (Y : World) (hY : Below wc.heap.size wc Y) => play_len (HY.out.on hY) yn hyn)
            have HDC := hid hDC
            have HV := hid hv
            have HQ0 := hid q0
            have HQ1 := hid q1
            obtain ⟨dd, hdd⟩ : ∃ dd, deepN yn = dd := ⟨_, rfl⟩
            have HDN := hid (fun (Y : World) => show Calls Try.prog 31 #[.int .i64 yn] Y (Makes (.int .i64 dd) Y) from by rw [← hdd]; exact deep_is Y yn (by omega))
            rw [hdd] at hD1
            clear hp hg hsr hri q0 q1 hv hD2 hDC hyn hdd e11 l11 HK11 HPT HB3 HT
            go_wp2_with fail
            (((with_reducible refine (play_get HY.out ask HA.out v is HV.out HQ0.out).mono ?_)); rintro _ _ ⟨rfl, u1, rfl⟩)
            go_wp2_with fail
            (((with_reducible refine (HAT.out _ (by repeat' (first | exact Below.refl _ _ | with_reducible assumption | omega | with_reducible refine below_put_fut ?_ ?_ _ | with_reducible refine below_to_put ?_ | with_reducible refine Below.alloc ?_ ?_ _ | with_reducible refine Below.fut ?_ ?_ _ | with_reducible refine Below.drew ?_ | with_reducible refine Below.setCell ?_ ?_ _ | with_reducible refine Below.atPut ?_ ?_ _ | (simp [go_sem]; done) | (simp [go_sem]; omega)))).mono ?_)); rintro _ _ ⟨rfl, u2, rfl⟩)
            have hb2 : Below wc.heap.size wc u2.val := (by repeat' (first | exact Below.refl _ _ | with_reducible assumption | omega | with_reducible refine below_put_fut ?_ ?_ _ | with_reducible refine below_to_put ?_ | with_reducible refine Below.alloc ?_ ?_ _ | with_reducible refine Below.fut ?_ ?_ _ | with_reducible refine Below.drew ?_ | with_reducible refine Below.setCell ?_ ?_ _ | with_reducible refine Below.atPut ?_ ?_ _ | (simp [go_sem]; done) | (simp [go_sem]; omega)))
            generalize u2.val = W2 at hb2 ⊢
            have HB2 := hid hb2
            have hcg := fun j => cell_of_row W2 W1.heap.size j _ _ (0, 0) (HG.out W2 hb2)
            have hlg := lt_of_heap (HG.out W2 hb2)
            have dD : decide ((dd : Int) < (D : Int)) = false := decide_eq_false (by omega)
            have dD2 : decide (dd < D) = false := decide_eq_false (by omega)
            go_upto_region 28 with fail
            go_cut [178] (fun b wx => b = .bool false ∧ Hid (∃ u : Fut W2, wx = u.val))
            case first =>
              cases is with
              | true =>
                obtain ⟨hlt2, _, v', hx, hv'⟩ := HQ1.out rfl
                obtain rfl : v' = v := by have := HV.out; rw [hv'] at this; exact this
                obtain ⟨rb, ro, rfl, _, _, c3⟩ := (show Src W2 2 (.slice va ys.length vc) ys.length (flat ys) by rw [HYN.out]; exact HSR.out.heap hb2).at_ at_ _ hx
                dsimp only at c3
                have hrl := World.block_lt_of_cell? _ _ c3
                have hin : (at_ : Int) < (yn : Int) := by omega
                have z1 : ((yn : Int) == 0) = false := by simp; omega
                have z2 : ((D : Int) == 0) = false := by simp; omega
                have z3 : (yn == 0) = false := by simp; omega
                have z4 : (D == 0) = false := by simp; omega
                clear hx hv' hb2 hlt2 hD4 hD1
                as_aux_lemma =>
                  refine wp_region_fut_lit (by kernel_rfl) (by kernel_rfl) ?_
                  repeat (go_big_quiet_step ((first | (go_at_call 32; with_reducible exact Calls.fut_of (HLEN.out _ (HB2.out.trans (Below.mono (B := W2.heap.size) (by repeat' (first | exact Below.refl _ _ | with_reducible assumption | omega | with_reducible refine below_put_fut ?_ ?_ _ | with_reducible refine below_to_put ?_ | with_reducible refine Below.alloc ?_ ?_ _ | with_reducible refine Below.fut ?_ ?_ _ | with_reducible refine Below.drew ?_ | with_reducible refine Below.setCell ?_ ?_ _ | with_reducible refine Below.atPut ?_ ?_ _ | (simp [go_sem]; done) | (simp [go_sem]; omega))) HB2.out.size)))) | (go_at_call 30; with_reducible exact Calls.fut_of (HDC.out _ (HB2.out.trans (Below.mono (B := W2.heap.size) (by repeat' (first | exact Below.refl _ _ | with_reducible assumption | omega | with_reducible refine below_put_fut ?_ ?_ _ | with_reducible refine below_to_put ?_ | with_reducible refine Below.alloc ?_ ?_ _ | with_reducible refine Below.fut ?_ ?_ _ | with_reducible refine Below.drew ?_ | with_reducible refine Below.setCell ?_ ?_ _ | with_reducible refine Below.atPut ?_ ?_ _ | (simp [go_sem]; done) | (simp [go_sem]; omega))) HB2.out.size)))) | (go_at_call 31; with_reducible exact Calls.fut_of (HDN.out _)))))
                  refine wpQuiet_nil ?_
                  rintro _ ⟨u5, rfl⟩
                  go_wp2_with fail
                  go_meet
                  exact ⟨by simp, hid ⟨u5, rfl⟩⟩
              | false =>
                obtain rfl : ⟨#[]⟩ = v := by
                  have h0 := HQ0.out
                  have h1 := HV.out
                  cases hvo : valueOf ask ys with
                  | none => rw [hvo] at h1; exact h1
                  | some x => rw [hvo] at h0; cases h0
                by_cases hy0 : yn = 0
                · have hD0 : D = 0 := hD4.2 hy0
                  have z1 : ((yn : Int) == 0) = true := by simp; omega
                  have z2 : ((D : Int) == 0) = true := by simp; omega
                  have z3 : (yn == 0) = true := by simp; omega
                  have z4 : (D == 0) = true := by simp; omega
                  clear hb2 hD4 hD1 hD0 hy0
                  as_aux_lemma =>
                    refine wp_region_fut_lit (by kernel_rfl) (by kernel_rfl) ?_
                    repeat (go_big_quiet_step ((first | (go_at_call 32; with_reducible exact Calls.fut_of (HLEN.out _ (HB2.out.trans (Below.mono (B := W2.heap.size) (by repeat' (first | exact Below.refl _ _ | with_reducible assumption | omega | with_reducible refine below_put_fut ?_ ?_ _ | with_reducible refine below_to_put ?_ | with_reducible refine Below.alloc ?_ ?_ _ | with_reducible refine Below.fut ?_ ?_ _ | with_reducible refine Below.drew ?_ | with_reducible refine Below.setCell ?_ ?_ _ | with_reducible refine Below.atPut ?_ ?_ _ | (simp [go_sem]; done) | (simp [go_sem]; omega))) HB2.out.size)))) | (go_at_call 30; with_reducible exact Calls.fut_of (HDC.out _ (HB2.out.trans (Below.mono (B := W2.heap.size) (by repeat' (first | exact Below.refl _ _ | with_reducible assumption | omega | with_reducible refine below_put_fut ?_ ?_ _ | with_reducible refine below_to_put ?_ | with_reducible refine Below.alloc ?_ ?_ _ | with_reducible refine Below.fut ?_ ?_ _ | with_reducible refine Below.drew ?_ | with_reducible refine Below.setCell ?_ ?_ _ | with_reducible refine Below.atPut ?_ ?_ _ | (simp [go_sem]; done) | (simp [go_sem]; omega))) HB2.out.size)))) | (go_at_call 31; with_reducible exact Calls.fut_of (HDN.out _)))))
                    refine wpQuiet_nil ?_
                    rintro _ ⟨u5, rfl⟩
                    go_wp2_with fail
                    go_meet
                    exact ⟨by simp, hid ⟨u5, rfl⟩⟩
                · have hD0 : D ≠ 0 := fun e => hy0 (hD4.1 e)
                  have z1 : ((yn : Int) == 0) = false := by simp; omega
                  have z2 : ((D : Int) == 0) = false := by simp; omega
                  have z3 : (yn == 0) = false := by simp; omega
                  have z4 : (D == 0) = false := by simp; omega
                  clear hb2 hD4 hD1 hD0 hy0
                  as_aux_lemma =>
                    refine wp_region_fut_lit (by kernel_rfl) (by kernel_rfl) ?_
                    repeat (go_big_quiet_step ((first | (go_at_call 32; with_reducible exact Calls.fut_of (HLEN.out _ (HB2.out.trans (Below.mono (B := W2.heap.size) (by repeat' (first | exact Below.refl _ _ | with_reducible assumption | omega | with_reducible refine below_put_fut ?_ ?_ _ | with_reducible refine below_to_put ?_ | with_reducible refine Below.alloc ?_ ?_ _ | with_reducible refine Below.fut ?_ ?_ _ | with_reducible refine Below.drew ?_ | with_reducible refine Below.setCell ?_ ?_ _ | with_reducible refine Below.atPut ?_ ?_ _ | (simp [go_sem]; done) | (simp [go_sem]; omega))) HB2.out.size)))) | (go_at_call 30; with_reducible exact Calls.fut_of (HDC.out _ (HB2.out.trans (Below.mono (B := W2.heap.size) (by repeat' (first | exact Below.refl _ _ | with_reducible assumption | omega | with_reducible refine below_put_fut ?_ ?_ _ | with_reducible refine below_to_put ?_ | with_reducible refine Below.alloc ?_ ?_ _ | with_reducible refine Below.fut ?_ ?_ _ | with_reducible refine Below.drew ?_ | with_reducible refine Below.setCell ?_ ?_ _ | with_reducible refine Below.atPut ?_ ?_ _ | (simp [go_sem]; done) | (simp [go_sem]; omega))) HB2.out.size)))) | (go_at_call 31; with_reducible exact Calls.fut_of (HDN.out _)))))
                    refine wpQuiet_nil ?_
                    rintro _ ⟨u5, rfl⟩
                    go_wp2_with fail
                    go_meet
                    exact ⟨by simp, hid ⟨u5, rfl⟩⟩
            case rest =>
              obtain ⟨rfl, hu⟩ := hcut
              obtain ⟨u5, rfl⟩ := hu.out
              have HZ := hid (HY.out.on (HB2.out.trans (Below.mono u5.below HB2.out.size)))
              generalize u5.val = W5 at HZ ⊢
              obtain ⟨q1, hq1⟩ : ∃ q, ((i : Int) % 8 == 7) = q := ⟨_, rfl⟩
              obtain ⟨q2, hq2⟩ : ∃ q, ((i : Int) == (n : Int) - 1) = q := ⟨_, rfl⟩
              clear hcg hlg dD dD2 hb2 HQ1 HV HQ0 HAT HLEN HDC HDN HG HSR hu
              have HYN2 := hid (show yn ≤ 900 by omega)
              have HEL := hid (show es.length < 250 by omega)
              cases q1 with
              | true =>
                as_aux_lemma =>
                  go_wp2_with fail
                  refine (play_items HZ.out yn HYN.out HYN2.out).mono ?_
                  rintro _ W6 ⟨a6, c6, rfl, h6⟩
                  have H6 := hid h6
                  clear h6
                  go_wp2_with fail
                  refine (play_keep H6.out (by rw [HYN.out]; exact HYN2.out) HEL.out).mono ?_
                  rintro _ W7 ⟨rfl, q, h7, s7⟩
                  rw [HYN.out] at s7
                  obtain ⟨v7, hg7, hs7, _⟩ := h7.refw
                  rw [HYN.out] at hs7
                  obtain ⟨va7, vc7, rfl⟩ := hs7.slice_of
                  have hcg7 := fun j => cell_of_row W7 W1.heap.size j _ _ (0, 0) hg7
                  have hlg7 := lt_of_heap hg7
                  have H7 := hid h7
                  have S7 := hid s7
                  have R7 := hid hs7
                  clear h7 s7 hg7 hs7
                  go_wp2_with fail
                  (((with_reducible refine (same_is _ _ _ ys yn HYN.out (by have := HYN2.out; omega) S7.out R7.out).mono ?_)); rintro _ _ ⟨rfl, u8, rfl⟩)
                  have H8 := hid (H7.out.on u8.below)
                  generalize u8.val = W8 at H8 ⊢
                  clear hcg7 hlg7
                  go_wp2_with fail
                  exact ⟨⟨i + 1, ys, gs', es ++ [q], by omega, by go_num, rfl, (by rw [HYN.out]; exact hyl), by rw [List.length_append]; exact Nat.succ_le_succ hel, H8⟩, by simp [intOf]; omega⟩
              | false =>
                cases q2 with
                | true =>
                  as_aux_lemma =>
                    go_wp2_with fail
                    refine (play_items HZ.out yn HYN.out HYN2.out).mono ?_
                    rintro _ W6 ⟨a6, c6, rfl, h6⟩
                    have H6 := hid h6
                    clear h6
                    go_wp2_with fail
                    refine (play_keep H6.out (by rw [HYN.out]; exact HYN2.out) HEL.out).mono ?_
                    rintro _ W7 ⟨rfl, q, h7, s7⟩
                    rw [HYN.out] at s7
                    obtain ⟨v7, hg7, hs7, _⟩ := h7.refw
                    rw [HYN.out] at hs7
                    obtain ⟨va7, vc7, rfl⟩ := hs7.slice_of
                    have hcg7 := fun j => cell_of_row W7 W1.heap.size j _ _ (0, 0) hg7
                    have hlg7 := lt_of_heap hg7
                    have H7 := hid h7
                    have S7 := hid s7
                    have R7 := hid hs7
                    clear h7 s7 hg7 hs7
                    go_wp2_with fail
                    (((with_reducible refine (same_is _ _ _ ys yn HYN.out (by have := HYN2.out; omega) S7.out R7.out).mono ?_)); rintro _ _ ⟨rfl, u8, rfl⟩)
                    have H8 := hid (H7.out.on u8.below)
                    generalize u8.val = W8 at H8 ⊢
                    clear hcg7 hlg7
                    go_wp2_with fail
                    exact ⟨⟨i + 1, ys, gs', es ++ [q], by omega, by go_num, rfl, (by rw [HYN.out]; exact hyl), by rw [List.length_append]; exact Nat.succ_le_succ hel, H8⟩, by simp [intOf]; omega⟩
                | false =>
                  go_wp2_with fail
                  exact ⟨⟨i + 1, ys, gs', es, by omega, by go_num, rfl, (by rw [HYN.out]; exact hyl), Nat.le_succ_of_le hel, HZ⟩, by simp [intOf]; omega⟩
    · obtain rfl : i = n := by omega
      have HEL := hid (show es.length ≤ 250 by omega)
      clear hbw hzw hso hxl hel
      as_aux_lemma =>
        go_wp2_with (first | (go_at_call 52; go_in) | (go_at_call 26; go_in) | (go_at_call 51; go_in) | (go_at_call 32; go_in) | (go_at_call 30; refine (depthNil_is _).mono ?_; rintro _ _ ⟨rfl, u, rfl⟩) | (go_at_call 28; go_in) | (go_at_call 56; go_in))
        refine (play_apart (HP.out.on u.below) HEL.out).mono ?_
        rintro _ W9 ⟨rfl, h9⟩
        have H9 := hid (show Below w.heap.size w W9 from h9.below (Nat.le_refl _) (fun _ h => h.elim))
        clear h9
        go_wp2_with fail
        go_ret
        exact .mk rfl H9.out
set_option maxRecDepth 100000 in
set_option maxHeartbeats 4000000 in
theorem shelfPlays_walk (W : World) (most : Int) (wm : (Lit.int .i64 most).wf = true) (sl : Value) (l : List Op3) (hl : OpsAt W sl l) (ask : ByteArray) (hk : ask.size ≤ maxLen) :
    Calls Try.prog 15 #[.int .i64 most, sl, .string ask] W (Makes (.bool true) W) := by
  obtain ⟨n, hn⟩ : ∃ n, l.length = n := ⟨_, rfl⟩
  rcases Nat.lt_or_ge 200 n with c | c
  · have d1 : decide ((200 : Int) < n) = true := by simp; omega
    obtain ⟨ao, cap, rfl⟩ := hl.slice
    rw [hn]
    clear c hn hk wm hl
    go_enter Try.func15, Try.ntmps15
    go_wp2_with (first | (go_at_call 24; ((with_reducible refine (shAlive_any _).mono ?_)); rintro _ _ ⟨rfl, u, rfl⟩; (try (rw [Fut.put_self u (by first | assumption | (simp [go_sem]; done) | (simp [go_sem]; omega))]))) | (((with_reducible refine wp_region_fut_lit (by kernel_rfl) (by kernel_rfl) ?_)); (repeat (go_big_quiet_step ((first | (go_at_call 24; with_reducible exact Calls.fut_of (shAlive_any _)))))); ((with_reducible refine wpQuiet_nil ?_)); rintro _ ⟨u, rfl⟩; (try (rw [Fut.put_self u (by first | assumption | (simp [go_sem]; done) | (simp [go_sem]; omega))]))))
    go_ret; exact .mk (by first | rfl | (simp; done) | (simp; omega)) (by repeat' (first | exact Below.refl _ _ | with_reducible assumption | omega | with_reducible refine below_put_fut ?_ ?_ _ | with_reducible refine below_to_put ?_ | with_reducible refine Below.alloc ?_ ?_ _ | with_reducible refine Below.fut ?_ ?_ _ | with_reducible refine Below.drew ?_ | with_reducible refine Below.setCell ?_ ?_ _ | with_reducible refine Below.atPut ?_ ?_ _ | (simp [go_sem]; done) | (simp [go_sem]; omega)))
  rcases Nat.lt_or_ge 40 ask.size with c2 | c2
  · have d1 : decide ((200 : Int) < n) = false := by simp; omega
    have d2 : decide ((40 : Int) < ask.size) = true := by simp; omega
    obtain ⟨ao, cap, rfl⟩ := hl.slice
    rw [hn]
    clear c c2 hn hk wm hl
    go_enter Try.func15, Try.ntmps15
    go_wp2_with (first | (go_at_call 24; ((with_reducible refine (shAlive_any _).mono ?_)); rintro _ _ ⟨rfl, u, rfl⟩; (try (rw [Fut.put_self u (by first | assumption | (simp [go_sem]; done) | (simp [go_sem]; omega))]))) | (((with_reducible refine wp_region_fut_lit (by kernel_rfl) (by kernel_rfl) ?_)); (repeat (go_big_quiet_step ((first | (go_at_call 24; with_reducible exact Calls.fut_of (shAlive_any _)))))); ((with_reducible refine wpQuiet_nil ?_)); rintro _ ⟨u, rfl⟩; (try (rw [Fut.put_self u (by first | assumption | (simp [go_sem]; done) | (simp [go_sem]; omega))]))))
    go_ret; exact .mk (by first | rfl | (simp; done) | (simp; omega)) (by repeat' (first | exact Below.refl _ _ | with_reducible assumption | omega | with_reducible refine below_put_fut ?_ ?_ _ | with_reducible refine below_to_put ?_ | with_reducible refine Below.alloc ?_ ?_ _ | with_reducible refine Below.fut ?_ ?_ _ | with_reducible refine Below.drew ?_ | with_reducible refine Below.setCell ?_ ?_ _ | with_reducible refine Below.atPut ?_ ?_ _ | (simp [go_sem]; done) | (simp [go_sem]; omega)))
  exact shelfPlays_good W most _ rfl sl l n hn c hl ask c2
end Go.Proofs.Ythknenhcnpgkcaa
