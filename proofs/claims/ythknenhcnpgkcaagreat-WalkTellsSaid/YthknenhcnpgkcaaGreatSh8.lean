/- Contracts of package shelf: Put of a new key, walked. -/
import Derived.Test.YthknenhcnpgkcaaGreatMp
namespace Go.Proofs.YthknenhcnpgkcaaGreat
open Go.RowKit
set_option linter.unusedVariables false
set_option linter.unusedSimpArgs false
set_option maxRecDepth 100000 in
set_option maxHeartbeats 8000000 in
theorem put_some {most : Int} {xs : List It} {W : World} {g : Nat} {c : Cnt} {d : Nat} {q : Kid} (h : Shf most xs W g c (.pointer (some ⟨q.p, 0, none⟩))) (ha : At d 1 W q) (hx : q.xs = xs) (hgc : q.c g = 0) (hc : ∀ k, c k = one g k + q.c k)
    (k v : ByteArray) (hk : ¬ (k.size < 1 ∨ 16 < k.size)) (hv : ¬ 16 < v.size) (hs : valueOf k xs = none) (hm : (xs.length : Int) < most) (hm2 : xs.length ≤ 1000) :
    Calls Tryz.prog 22 #[.pointer (some ⟨g, 0, none⟩), .string k, .string v] W (PutTo most k v xs g c W) := by
  have H := hid h
  have hgl := lt_of_heap h.heap
  have HA := hid ha
  have HX := hid hx
  have HGC := hid hgc
  have HC := hid hc
  clear h ha hx hgc hc
  have e : rightN k.size = 0 := by unfold rightN; rw [if_neg hk]
  have e2 : valueN v.size = 0 := by unfold valueN; rw [if_neg hv]
  have HP := hid (show putL most k v xs = (0, insL (k, v) xs) by
    unfold putL
    rw [if_neg hk, if_neg hv, hs, if_neg (by simp), if_neg (by omega)])
  have hv1 : v.size ≤ 1000 := by omega
  have hk1 : k.size ≤ 1000 := by omega
  have HK := hid (small_of (v := k) (by omega))
  have HV := hid (small_of (v := v) (by omega))
  have HS := hid hs
  have hmd : decide (most ≤ (xs.length : Int)) = false := by simp; omega
  clear hk hv hs
  go_enter Tryz.func22, Tryz.ntmps22
  go_wp2_with fail
  (((with_reducible refine (right_is _ 0 e _).mono ?_)); rintro _ _ ⟨rfl, u1, rfl⟩)
  go_wp2_with fail
  (((with_reducible refine (value_is _ 0 e2 _).mono ?_)); rintro _ _ ⟨rfl, u2, rfl⟩)
  go_wp2_with fail
  (((with_reducible refine (clone_is _ _ hv1).mono ?_)); rintro _ _ ⟨rfl, u3, rfl⟩)
  have hb3 : Below W.heap.size W u3.val := (by repeat' (first | exact Below.refl _ _ | with_reducible assumption | omega | with_reducible refine below_put_fut ?_ ?_ _ | with_reducible refine below_to_put ?_ | with_reducible refine Below.alloc ?_ ?_ _ | with_reducible refine Below.fut ?_ ?_ _ | with_reducible refine Below.drew ?_ | with_reducible refine Below.setCell ?_ ?_ _ | with_reducible refine Below.atPut ?_ ?_ _ | (simp [go_sem]; done) | (simp [go_sem]; omega)))
  have H3 := hid (H.out.on hb3)
  have HB3 := hid hb3
  clear hb3
  generalize u3.val = W3 at H3 HB3 ⊢
  go_wp2_with fail
  refine (find_any H3.out k HK.out).mono ?_
  rintro _ _ ⟨⟨rfl, -⟩ | ⟨w0, p, at_, d', q', rfl, -, ha, hx, hgc, hc, iv, bv, its, s1, s2, s3, s4, s5, s6⟩, u4, rfl⟩
  rotate_left
  · rw [hx, HS.out] at s5; cases s5
  have hc3 := fun i => cell_of_row W3 g i _ _ (0, 0) H3.out.heap
  have hl3 := lt_of_heap H3.out.heap
  clear hm
  obtain ⟨n, hn⟩ : ∃ n, xs.length = n := ⟨_, rfl⟩
  rw [hn] at hmd hc3 hm2
  have HN := hid hn
  clear hn
  go_wp2_with (first | (((with_reducible refine wp_region_fut_lit (by kernel_rfl) (by kernel_rfl) ?_)); (repeat (go_big_quiet_step ((first | fail)))); ((with_reducible refine wpQuiet_nil ?_)); rintro _ ⟨u, rfl⟩; (try (rw [Fut.put_self u (by first | assumption | (simp [go_sem]; done) | (simp [go_sem]; omega))]))))
  have hbX : Below W3.heap.size W3 u.val := (by repeat' (first | exact Below.refl _ _ | with_reducible assumption | omega | with_reducible refine below_put_fut ?_ ?_ _ | with_reducible refine below_to_put ?_ | with_reducible refine Below.alloc ?_ ?_ _ | with_reducible refine Below.fut ?_ ?_ _ | with_reducible refine Below.drew ?_ | with_reducible refine Below.setCell ?_ ?_ _ | with_reducible refine Below.atPut ?_ ?_ _ | (simp [go_sem]; done) | (simp [go_sem]; omega)))
  have hcX := fun i => (hbX.cell (p := ⟨g, i, none⟩) hl3).trans (hc3 i)
  have hlX : g < u.val.heap.size := Nat.lt_of_lt_of_le hl3 hbX.size
  have HBX := hid hbX
  clear hbX hc3 hmd
  generalize u.val = X0 at hcX hlX HBX ⊢
  have HPUT := hid (fun (X : World) (hb : Below X0.heap.size X0 X) => put_is d 1 X q (k, v) (HA.out.keep fun j hj => ((HB3.out.trans (HBX.out.mono HB3.out.size)).trans (hb.mono (by have := HB3.out.size; have := HBX.out.size; omega))).block j (HA.out.lt j hj)) (by rw [HX.out]; exact H3.out.rises) (by rw [HX.out]; exact H3.out.small) HK.out HV.out (by rw [HX.out]; exact valueOf_none_iff.1 HS.out) (by omega))
  have HQL := hid (show ∀ j, q.c j ≠ 0 → j < X0.heap.size from fun j hj => Nat.lt_of_lt_of_le (HA.out.lt j hj) (by have := HB3.out.size; have := HBX.out.size; omega))
  have HQZ := hid (show ∀ j, X0.heap.size ≤ j → q.c j = 0 from fun j hj => by
    rcases Nat.eq_zero_or_pos (q.c j) with e | e
    · exact e
    · exact absurd (HQL.out j (by omega)) (by omega))
  have hlXd : g < X0.drew.heap.size := hlX
  go_cut [11, 12] (fun s11 s12 wc => GotP d 1 X0 q (k, v) wc s11 s12)
  case first =>
    go_region_with (first | (go_at_call 67; ((with_reducible refine (clone_is _ _ hk1).mono ?_)); rintro _ _ ⟨rfl, u9, rfl⟩; have hq9 := fun i => ((show Below X0.heap.size X0 u9.val from (by repeat' (first | exact Below.refl _ _ | with_reducible assumption | omega | with_reducible refine below_put_fut ?_ ?_ _ | with_reducible refine below_to_put ?_ | with_reducible refine Below.alloc ?_ ?_ _ | with_reducible refine Below.fut ?_ ?_ _ | with_reducible refine Below.drew ?_ | with_reducible refine Below.setCell ?_ ?_ _ | with_reducible refine Below.atPut ?_ ?_ _ | (simp [go_sem]; done) | (simp [go_sem]; omega)))).cell (p := ⟨g, i, none⟩) hlX).trans (hcX i)) | (go_at_call 69; ((with_reducible refine (HPUT.out _ (by repeat' (first | exact Below.refl _ _ | with_reducible assumption | omega | with_reducible refine below_put_fut ?_ ?_ _ | with_reducible refine below_to_put ?_ | with_reducible refine Below.alloc ?_ ?_ _ | with_reducible refine Below.fut ?_ ?_ _ | with_reducible refine Below.drew ?_ | with_reducible refine Below.setCell ?_ ?_ _ | with_reducible refine Below.atPut ?_ ?_ _ | (simp [go_sem]; done) | (simp [go_sem]; omega)))).mono ?_)); rintro en W5 hpost; obtain ⟨s1, s2, pr, rfl, hform⟩ := hpost.formL; clear hpost; have hs5 := hid (hform.out.size); have hbw := hid (PutFormL.bel (W := X0) hform.out (by repeat' (first | exact Below.refl _ _ | with_reducible assumption | omega | with_reducible refine below_put_fut ?_ ?_ _ | with_reducible refine below_to_put ?_ | with_reducible refine Below.alloc ?_ ?_ _ | with_reducible refine Below.fut ?_ ?_ _ | with_reducible refine Below.drew ?_ | with_reducible refine Below.setCell ?_ ?_ _ | with_reducible refine Below.atPut ?_ ?_ _ | (simp [go_sem]; done) | (simp [go_sem]; omega)))); first | ((refine (fun (hA0 : W5.heap[X0.heap.size]? = some (.cells #[.string ⟨#[]⟩, .string ⟨#[]⟩] 59)) => ?_) ?_); rotate_left; (focus (refine (hform.out.block ?_ (HQZ.out _ ?_)).trans ?_; (focus (first | assumption | (simp [go_sem]; done) | (simp [go_sem]; omega))); (focus omega); (focus (repeat' (first | rfl | assumption | (with_reducible refine (heap_drew_eq _ _).trans ?_) | (refine (Fut.heap _ _ ?_).trans ?_ ; focus (first | assumption | omega | (simp [go_sem]; done) | (simp [go_sem]; omega))) | (refine (heap_put_at _ _ _ ?_).trans ?_ ; focus (first | assumption | omega | (simp [go_sem]; done) | (simp [go_sem]; omega))) | (refine (heap_put_other _ _ _ _ ?_).trans ?_ ; focus (first | assumption | omega | (simp [go_sem]; done) | (simp [go_sem]; omega))) | (refine (heap_alloc_other _ _ _ ?_).trans ?_ ; focus (first | assumption | omega | (simp [go_sem]; done) | (simp [go_sem]; omega))) | (refine (heap_alloc_at _ _ _ ?_).trans ?_ ; focus (first | assumption | omega | (simp [go_sem]; done) | (simp [go_sem]; omega))) | (simp [go_sem]; done) | (simp [go_sem]; omega)))); done)); have hl0 := lt_of_heap hA0; rw [← put_self hA0]) | ((refine (fun (hA0 : W5.heap[X0.heap.size + u9.n]? = some (.cells #[.string ⟨#[]⟩, .string ⟨#[]⟩] 59)) => ?_) ?_); rotate_left; (focus (refine (hform.out.block ?_ (HQZ.out _ ?_)).trans ?_; (focus (first | assumption | (simp [go_sem]; done) | (simp [go_sem]; omega))); (focus omega); (focus (repeat' (first | rfl | assumption | (with_reducible refine (heap_drew_eq _ _).trans ?_) | (refine (Fut.heap _ _ ?_).trans ?_ ; focus (first | assumption | omega | (simp [go_sem]; done) | (simp [go_sem]; omega))) | (refine (heap_put_at _ _ _ ?_).trans ?_ ; focus (first | assumption | omega | (simp [go_sem]; done) | (simp [go_sem]; omega))) | (refine (heap_put_other _ _ _ _ ?_).trans ?_ ; focus (first | assumption | omega | (simp [go_sem]; done) | (simp [go_sem]; omega))) | (refine (heap_alloc_other _ _ _ ?_).trans ?_ ; focus (first | assumption | omega | (simp [go_sem]; done) | (simp [go_sem]; omega))) | (refine (heap_alloc_at _ _ _ ?_).trans ?_ ; focus (first | assumption | omega | (simp [go_sem]; done) | (simp [go_sem]; omega))) | (simp [go_sem]; done) | (simp [go_sem]; omega)))); done)); have hl0 := lt_of_heap hA0; rw [← put_self hA0]) | skip))
    all_goals
      go_wp2_with fail
      go_meet
      first
        | exact GotP.mk (B := X0.heap.size) hform.out hbw.out HQL.out rfl rfl rfl (by rw [size_put]; exact Nat.le_refl _) (fun k _ hne => heap_put_other _ _ _ _ hne) (Nat.le_refl _) (.inl (by first | assumption | (simp [go_sem]; done) | (simp [go_sem]; omega))) (heap_put_at _ _ _ hl0)
        | exact GotP.mk (B := X0.heap.size + u9.n) hform.out hbw.out HQL.out rfl rfl rfl (by rw [size_put]; exact Nat.le_refl _) (fun k _ hne => heap_put_other _ _ _ _ hne) (Nat.le_add_right _ _) (.inl (by first | assumption | (simp [go_sem]; done) | (simp [go_sem]; omega))) (heap_put_at _ _ _ hl0)
        | exact GotP.mk (B := W5.heap.size) hform.out hbw.out HQL.out rfl rfl rfl (by simp) (fun k hk _ => heap_alloc_other _ _ _ hk) (by have := hbw.out.size; have := hs5.out; omega) (.inr (Nat.le_refl _)) (heap_alloc_at _ _ _ rfl)
  case rest =>
    obtain ⟨B, s1, s2, c5, rfl, h8, hB, h5B, hu, hl5, xs', hins, hcase⟩ := hcut
    have hgw : wc.heap[g]? = some (shfObj most n (.pointer (some ⟨q.p, 0, none⟩))) := by
      rw [hu.chg.block g hlX (by rw [HGC.out]; simp), HBX.out.block g hl3, ← HN.out]; exact H3.out.heap
    have hgl2 := lt_of_heap hgw
    have hw1 : IntKind.i64.wrap ((n : Int) + 1) = (n : Int) + 1 := IntWalk.i64_in _ (by omega)
    have hlen : xs'.length = n + 1 := by rw [hins.length, HX.out, HN.out]
    have hxe : xs' = insL (k, v) xs := by rw [hins.eq, HX.out]
    have HRI := hid (show Rises q.xs by rw [HX.out]; exact H3.out.rises)
    have HSM := hid (show Small q.xs by rw [HX.out]; exact H3.out.small)
    have hpre : Chg (fun k => c k ≠ 0) W3 X0 := Chg.of_below HBX.out
    rcases hcase with ⟨rfl, hA⟩ | ⟨rr, xs1, c1, rfl, hxs, hA, hA2, hc5⟩
    · obtain ⟨f1, f2⟩ := fin_none (most := most) hu hlX HGC.out hA hins HRI.out HSM.out HK.out HV.out
      have hobj : shfObj most xs'.length (.pointer (some ⟨q.p, 0, none⟩)) = .cells #[.int .i64 most, .int .i64 ((n : Int) + 1), .pointer (some ⟨q.p, 0, none⟩)] 94 := by
        rw [hlen]; rfl
      rw [hobj] at f1 f2
      have HF := hid (show PutTo most k v xs g c W (.returned (.int .i64 0)) (put wc g (.cells #[.int .i64 most, .int .i64 ((n : Int) + 1), .pointer (some ⟨q.p, 0, none⟩)] 94)) from
        ⟨_, _, by rw [HP.out], by rw [HP.out, ← hxe]; exact f1, Upd.of_below HB3.out (Upd.pre f2 hpre (fun k hk => by rw [HC.out]; exact Nat.le_refl _))⟩)
      clear hu hl5 hins hA f1 f2 hobj h8 hpre hxe hlen
      rw [← put_self hgw]
      clear hgw
      go_wp2_with fail
      go_ret
      exact HF.out
    · have HGW := hid hgw
      have hc8 := fun i => cell_of_row wc B i _ _ (0, 0) h8
      have hl8 := lt_of_heap h8
      have HU := hid hu
      have HL5 := hid hl5
      have HI := hid hins
      have HA5 := hid hA
      have HA6 := hid hA2
      have HC5 := hid hc5
      have HXS := hid hxs
      have HPRE := hid hpre
      have HXE := hid hxe
      have HLEN := hid hlen
      have hne : ((⟨B, 0, none⟩ : Addr) = ⟨g, 0, none⟩) = False := by simp only [Addr.mk.injEq, eq_iff_iff, iff_false]; omega
      have HSPL := hid (fun (W' : World) (R1 R2 : Nat) (hos : W'.os = wc.os) (htp : W'.tape = wc.tape) (hout : W'.output = wc.output) (hsz : wc.heap.size ≤ W'.heap.size) (hkk : ∀ j, j < wc.heap.size → j ≠ g → W'.heap[j]? = wc.heap[j]?)
          (hR1 : wc.heap.size ≤ R1) (hR2 : wc.heap.size ≤ R2) (n1 : wc.heap.size + 1 + 1 ≠ R1) (n2 : wc.heap.size + 1 + 1 ≠ R2) (n3 : R1 ≠ R2) (hhg : W'.heap[g]? = some (.cells #[.int .i64 most, .int .i64 ((n : Int) + 1), .pointer (some ⟨wc.heap.size + 1 + 1, 0, none⟩)] 94))
          (hhN : W'.heap[wc.heap.size + 1 + 1]? = some (.cells #[.slice (some ⟨R1, 0, none⟩) 1 1, .slice (some ⟨R2, 0, none⟩) 2 2] 101))
          (hhR1 : W'.heap[R1]? = some (.cells #[.string s1, .string s2] 59)) (hhR2 : W'.heap[R2]? = some (.cells #[.pointer (some ⟨q.p, 0, none⟩), .pointer (some ⟨rr.p, 0, none⟩)] 92)) =>
        (show PutTo most k v xs g c W (.returned (.int .i64 0)) W' from by
          have hhg' : W'.heap[g]? = some (shfObj most (xs1 ++ (s1, s2) :: rr.xs).length (.pointer (some ⟨wc.heap.size + 1 + 1, 0, none⟩))) := by
            rw [hhg, ← hxs, hlen]; rfl
          obtain ⟨f1, f2⟩ := fin_split (most := most) (up := (s1, s2)) hu hlX HGC.out hl5 hA hA2 hc5 (by rw [← hxs]; exact hins) HRI.out HSM.out HK.out HV.out hos htp hout hsz hkk (by omega) hR1 hR2 n1 n2 n3 hhg' hhN hhR1 hhR2
          rw [← hxs, hxe] at f1
          exact ⟨_, _, by rw [HP.out], by rw [HP.out]; exact f1, Upd.of_below HB3.out (Upd.pre f2 hpre (fun j hj => by rw [HC.out]; exact Nat.le_refl _))⟩))
      clear hu hl5 hins hA hA2 hc5 hxs hpre hxe hlen h8
      rw [← put_self hgw]
      clear hgw
      go_wp2_with fail
      go_region
      · go_wp2_with fail
        go_ret
        exact HSPL.out _ wc.heap.size (wc.heap.size + 1) rfl rfl rfl (by first | (simp [go_sem, size_put]; omega) | (simp [go_sem, size_put]; done)) (fun j hj hne => (by repeat' (first | rfl | assumption | (with_reducible refine (heap_drew_eq _ _).trans ?_) | (refine (Fut.heap _ _ ?_).trans ?_ ; focus (first | assumption | omega | (simp [go_sem]; done) | (simp [go_sem]; omega))) | (refine (heap_put_at _ _ _ ?_).trans ?_ ; focus (first | assumption | omega | (simp [go_sem]; done) | (simp [go_sem]; omega))) | (refine (heap_put_other _ _ _ _ ?_).trans ?_ ; focus (first | assumption | omega | (simp [go_sem]; done) | (simp [go_sem]; omega))) | (refine (heap_alloc_other _ _ _ ?_).trans ?_ ; focus (first | assumption | omega | (simp [go_sem]; done) | (simp [go_sem]; omega))) | (refine (heap_alloc_at _ _ _ ?_).trans ?_ ; focus (first | assumption | omega | (simp [go_sem]; done) | (simp [go_sem]; omega))) | (simp [go_sem]; done) | (simp [go_sem]; omega)))) (Nat.le_refl _) (by omega) (by omega) (by omega) (by omega) (by repeat' (first | rfl | assumption | (with_reducible refine (heap_drew_eq _ _).trans ?_) | (refine (Fut.heap _ _ ?_).trans ?_ ; focus (first | assumption | omega | (simp [go_sem]; done) | (simp [go_sem]; omega))) | (refine (heap_put_at _ _ _ ?_).trans ?_ ; focus (first | assumption | omega | (simp [go_sem]; done) | (simp [go_sem]; omega))) | (refine (heap_put_other _ _ _ _ ?_).trans ?_ ; focus (first | assumption | omega | (simp [go_sem]; done) | (simp [go_sem]; omega))) | (refine (heap_alloc_other _ _ _ ?_).trans ?_ ; focus (first | assumption | omega | (simp [go_sem]; done) | (simp [go_sem]; omega))) | (refine (heap_alloc_at _ _ _ ?_).trans ?_ ; focus (first | assumption | omega | (simp [go_sem]; done) | (simp [go_sem]; omega))) | (simp [go_sem]; done) | (simp [go_sem]; omega))) (by repeat' (first | rfl | assumption | (with_reducible refine (heap_drew_eq _ _).trans ?_) | (refine (Fut.heap _ _ ?_).trans ?_ ; focus (first | assumption | omega | (simp [go_sem]; done) | (simp [go_sem]; omega))) | (refine (heap_put_at _ _ _ ?_).trans ?_ ; focus (first | assumption | omega | (simp [go_sem]; done) | (simp [go_sem]; omega))) | (refine (heap_put_other _ _ _ _ ?_).trans ?_ ; focus (first | assumption | omega | (simp [go_sem]; done) | (simp [go_sem]; omega))) | (refine (heap_alloc_other _ _ _ ?_).trans ?_ ; focus (first | assumption | omega | (simp [go_sem]; done) | (simp [go_sem]; omega))) | (refine (heap_alloc_at _ _ _ ?_).trans ?_ ; focus (first | assumption | omega | (simp [go_sem]; done) | (simp [go_sem]; omega))) | (simp [go_sem]; done) | (simp [go_sem]; omega))) (by repeat' (first | rfl | assumption | (with_reducible refine (heap_drew_eq _ _).trans ?_) | (refine (Fut.heap _ _ ?_).trans ?_ ; focus (first | assumption | omega | (simp [go_sem]; done) | (simp [go_sem]; omega))) | (refine (heap_put_at _ _ _ ?_).trans ?_ ; focus (first | assumption | omega | (simp [go_sem]; done) | (simp [go_sem]; omega))) | (refine (heap_put_other _ _ _ _ ?_).trans ?_ ; focus (first | assumption | omega | (simp [go_sem]; done) | (simp [go_sem]; omega))) | (refine (heap_alloc_other _ _ _ ?_).trans ?_ ; focus (first | assumption | omega | (simp [go_sem]; done) | (simp [go_sem]; omega))) | (refine (heap_alloc_at _ _ _ ?_).trans ?_ ; focus (first | assumption | omega | (simp [go_sem]; done) | (simp [go_sem]; omega))) | (simp [go_sem]; done) | (simp [go_sem]; omega))) (by repeat' (first | rfl | assumption | (with_reducible refine (heap_drew_eq _ _).trans ?_) | (refine (Fut.heap _ _ ?_).trans ?_ ; focus (first | assumption | omega | (simp [go_sem]; done) | (simp [go_sem]; omega))) | (refine (heap_put_at _ _ _ ?_).trans ?_ ; focus (first | assumption | omega | (simp [go_sem]; done) | (simp [go_sem]; omega))) | (refine (heap_put_other _ _ _ _ ?_).trans ?_ ; focus (first | assumption | omega | (simp [go_sem]; done) | (simp [go_sem]; omega))) | (refine (heap_alloc_other _ _ _ ?_).trans ?_ ; focus (first | assumption | omega | (simp [go_sem]; done) | (simp [go_sem]; omega))) | (refine (heap_alloc_at _ _ _ ?_).trans ?_ ; focus (first | assumption | omega | (simp [go_sem]; done) | (simp [go_sem]; omega))) | (simp [go_sem]; done) | (simp [go_sem]; omega)))
      · go_wp2_with fail
        go_ret
        exact HSPL.out _ (wc.heap.size + 1) wc.heap.size rfl rfl rfl (by first | (simp [go_sem, size_put]; omega) | (simp [go_sem, size_put]; done)) (fun j hj hne => (by repeat' (first | rfl | assumption | (with_reducible refine (heap_drew_eq _ _).trans ?_) | (refine (Fut.heap _ _ ?_).trans ?_ ; focus (first | assumption | omega | (simp [go_sem]; done) | (simp [go_sem]; omega))) | (refine (heap_put_at _ _ _ ?_).trans ?_ ; focus (first | assumption | omega | (simp [go_sem]; done) | (simp [go_sem]; omega))) | (refine (heap_put_other _ _ _ _ ?_).trans ?_ ; focus (first | assumption | omega | (simp [go_sem]; done) | (simp [go_sem]; omega))) | (refine (heap_alloc_other _ _ _ ?_).trans ?_ ; focus (first | assumption | omega | (simp [go_sem]; done) | (simp [go_sem]; omega))) | (refine (heap_alloc_at _ _ _ ?_).trans ?_ ; focus (first | assumption | omega | (simp [go_sem]; done) | (simp [go_sem]; omega))) | (simp [go_sem]; done) | (simp [go_sem]; omega)))) (by omega) (Nat.le_refl _) (by omega) (by omega) (by omega) (by repeat' (first | rfl | assumption | (with_reducible refine (heap_drew_eq _ _).trans ?_) | (refine (Fut.heap _ _ ?_).trans ?_ ; focus (first | assumption | omega | (simp [go_sem]; done) | (simp [go_sem]; omega))) | (refine (heap_put_at _ _ _ ?_).trans ?_ ; focus (first | assumption | omega | (simp [go_sem]; done) | (simp [go_sem]; omega))) | (refine (heap_put_other _ _ _ _ ?_).trans ?_ ; focus (first | assumption | omega | (simp [go_sem]; done) | (simp [go_sem]; omega))) | (refine (heap_alloc_other _ _ _ ?_).trans ?_ ; focus (first | assumption | omega | (simp [go_sem]; done) | (simp [go_sem]; omega))) | (refine (heap_alloc_at _ _ _ ?_).trans ?_ ; focus (first | assumption | omega | (simp [go_sem]; done) | (simp [go_sem]; omega))) | (simp [go_sem]; done) | (simp [go_sem]; omega))) (by repeat' (first | rfl | assumption | (with_reducible refine (heap_drew_eq _ _).trans ?_) | (refine (Fut.heap _ _ ?_).trans ?_ ; focus (first | assumption | omega | (simp [go_sem]; done) | (simp [go_sem]; omega))) | (refine (heap_put_at _ _ _ ?_).trans ?_ ; focus (first | assumption | omega | (simp [go_sem]; done) | (simp [go_sem]; omega))) | (refine (heap_put_other _ _ _ _ ?_).trans ?_ ; focus (first | assumption | omega | (simp [go_sem]; done) | (simp [go_sem]; omega))) | (refine (heap_alloc_other _ _ _ ?_).trans ?_ ; focus (first | assumption | omega | (simp [go_sem]; done) | (simp [go_sem]; omega))) | (refine (heap_alloc_at _ _ _ ?_).trans ?_ ; focus (first | assumption | omega | (simp [go_sem]; done) | (simp [go_sem]; omega))) | (simp [go_sem]; done) | (simp [go_sem]; omega))) (by repeat' (first | rfl | assumption | (with_reducible refine (heap_drew_eq _ _).trans ?_) | (refine (Fut.heap _ _ ?_).trans ?_ ; focus (first | assumption | omega | (simp [go_sem]; done) | (simp [go_sem]; omega))) | (refine (heap_put_at _ _ _ ?_).trans ?_ ; focus (first | assumption | omega | (simp [go_sem]; done) | (simp [go_sem]; omega))) | (refine (heap_put_other _ _ _ _ ?_).trans ?_ ; focus (first | assumption | omega | (simp [go_sem]; done) | (simp [go_sem]; omega))) | (refine (heap_alloc_other _ _ _ ?_).trans ?_ ; focus (first | assumption | omega | (simp [go_sem]; done) | (simp [go_sem]; omega))) | (refine (heap_alloc_at _ _ _ ?_).trans ?_ ; focus (first | assumption | omega | (simp [go_sem]; done) | (simp [go_sem]; omega))) | (simp [go_sem]; done) | (simp [go_sem]; omega))) (by repeat' (first | rfl | assumption | (with_reducible refine (heap_drew_eq _ _).trans ?_) | (refine (Fut.heap _ _ ?_).trans ?_ ; focus (first | assumption | omega | (simp [go_sem]; done) | (simp [go_sem]; omega))) | (refine (heap_put_at _ _ _ ?_).trans ?_ ; focus (first | assumption | omega | (simp [go_sem]; done) | (simp [go_sem]; omega))) | (refine (heap_put_other _ _ _ _ ?_).trans ?_ ; focus (first | assumption | omega | (simp [go_sem]; done) | (simp [go_sem]; omega))) | (refine (heap_alloc_other _ _ _ ?_).trans ?_ ; focus (first | assumption | omega | (simp [go_sem]; done) | (simp [go_sem]; omega))) | (refine (heap_alloc_at _ _ _ ?_).trans ?_ ; focus (first | assumption | omega | (simp [go_sem]; done) | (simp [go_sem]; omega))) | (simp [go_sem]; done) | (simp [go_sem]; omega)))
end Go.Proofs.YthknenhcnpgkcaaGreat
