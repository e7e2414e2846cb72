/- WalkCounts answers true for every list of items, every text, every number and every arc: the walk. -/
import Derived.Test.YthknenhcnpgkcaaMv
import Derived.Test.YthknenhcnpgkcaaMt
import Derived.Test.YthknenhcnpgkcaaMi
import Derived.Deep.RegionHeld3
namespace Go.Proofs.Ythknenhcnpgkcaa
open Go.RowKit Go.Shelf
set_option linter.unusedVariables false
set_option linter.unusedSimpArgs false
theorem rank_place {k : ByteArray} {xs : List It} (hr : Rises xs) {at_ : Nat} {is : Bool} (hp : placeOf k xs = (at_, is)) : rankL k xs = at_ := by
  obtain ⟨A, B, rfl, hA, h1, h2⟩ := placeOf_split k xs hr
  rw [hp] at hA h2
  simp only at hA h2
  unfold rankL
  rw [List.filter_append, List.filter_eq_self.2 h1, List.filter_eq_nil_iff.2, List.append_nil, hA]
  intro b hb e
  rcases h2 with ⟨_, v, R, rfl⟩ | ⟨_, h2⟩
  · obtain ⟨_, hr2⟩ := List.pairwise_append.1 hr
    rcases List.mem_cons.1 hb with rfl | hb
    · rw [lt_irrefl] at e; cases e
    · have := (List.pairwise_cons.1 hr2.1).1 b hb
      rw [lt_asymm this] at e; cases e
  · rw [lt_asymm (h2 b hb)] at e; cases e
theorem Both.ref {B : Nat} {w0 : World} {xs ys : List It} {gs gr : Nat} {W : World} (h : Both B w0 xs ys gs gr W) : ∃ v, W.heap[gr]? = some (refObj 200 v) ∧ Src W 2 v ys.length (flat ys) := by
  obtain ⟨h1, h2, h3, c, top, v, h4, h5, h6, h7, h8⟩ := h
  exact ⟨v, h5, h6.src (flat_one _)⟩
theorem Both.rises {B : Nat} {w0 : World} {xs ys : List It} {gs gr : Nat} {W : World} (h : Both B w0 xs ys gs gr W) : Rises ys := h.2.2.1
theorem both_at {B : Nat} {w0 : World} {xs ys : List It} {gs gr : Nat} {W : World} (h : Both B w0 xs ys gs gr W) (hn : ys.length ≤ 400) (k : ByteArray) (at_ : Nat) (is : Bool) (hp : placeOf k ys = (at_, is)) :
    Calls Try.prog 36 #[.pointer (some ⟨gr, 0, none⟩), .string k] W (Makes (.tuple #[.int .i64 at_, .bool is]) W) := by
  obtain ⟨v, h1, h2⟩ := h.ref
  exact refAt_is W gr 200 v ys _ rfl (by omega) h1 h2 h.rises k at_ is hp
theorem both_middle {B : Nat} {w0 : World} {xs ys : List It} {gs gr : Nat} {W : World} (h : Both B w0 xs ys gs gr W) (hn : ys.length ≤ 400) (hsm : ∀ x ∈ ys, x.1.size ≤ maxLen) (a b : Int) (ha : 0 ≤ a) (ha2 : a < 18446744073709551616) (hb : 0 ≤ b) (hb2 : b < 18446744073709551616) (m : Int) (is : Bool) (h1 : (midL ((arcL a b ys).map adr)).getD 0 = m) (h2 : (midL ((arcL a b ys).map adr)).isSome = is) :
    Calls Try.prog 38 #[.pointer (some ⟨gr, 0, none⟩), .agg #[.int .u64 a, .int .u64 b]] W (Makes (.tuple #[.int .u64 m, .bool is]) W) := by
  obtain ⟨v, k1, k2⟩ := h.ref
  exact refMiddle_is W gr 200 v ys _ rfl hn hsm k1 k2 a b ha ha2 hb hb2 m is h1 h2
theorem both_arc {B : Nat} {w0 : World} {xs ys : List It} {gs gr : Nat} {W : World} (h : Both B w0 xs ys gs gr W) (hn : ys.length ≤ 400) (hsm : ∀ x ∈ ys, x.1.size ≤ maxLen) (a b : Int) (ha : 0 ≤ a) (ha2 : a < 18446744073709551616) (hb : 0 ≤ b) (hb2 : b < 18446744073709551616) :
    Calls Try.prog 41 #[.pointer (some ⟨gr, 0, none⟩), .agg #[.int .u64 a, .int .u64 b]] W fun e W' => ∃ v', e = .returned v' ∧ Out W (arcL a b ys) v' W' := by
  obtain ⟨v, k1, k2⟩ := h.ref
  exact refArc_is W gr 200 v ys _ rfl hn hsm k1 k2 a b ha ha2 hb hb2
theorem both_arcLen {B : Nat} {w0 : World} {xs ys : List It} {gs gr : Nat} {W : World} (h : Both B w0 xs ys gs gr W) (hn : ys.length ≤ 400) (hsm : ∀ x ∈ ys, x.1.size ≤ maxLen) (a b : Int) (ha : 0 ≤ a) (ha2 : a < 18446744073709551616) (hb : 0 ≤ b) (hb2 : b < 18446744073709551616) (n : Nat) (hl : (arcL a b ys).length = n) :
    Calls Try.prog 41 #[.pointer (some ⟨gr, 0, none⟩), .agg #[.int .u64 a, .int .u64 b]] W fun e W' => ∃ ao c, ∃ u : Fut W, e = .returned (.slice ao n c) ∧ W' = u.val := by
  refine (both_arc h hn hsm a b ha ha2 hb hb2).mono ?_
  rintro _ W' ⟨v', rfl, ho⟩
  obtain ⟨ao, c, rfl⟩ := ho.form
  rw [hl]
  exact ⟨ao, c, ⟨W', ho.below⟩, rfl, rfl⟩
theorem len_nil (W : World) : Calls Try.prog 32 #[.pointer none] W (Makes (.int .i64 0) W) := by
  go_enter Try.func32, Try.ntmps32
  go_wp2_with (first | (((with_reducible refine wp_region_fut_lit (by kernel_rfl) (by kernel_rfl) ?_)); (repeat (go_big_quiet_step ((first | fail)))); ((with_reducible refine wpQuiet_nil ?_)); rintro _ ⟨u, rfl⟩; (try (rw [Fut.put_self u (by first | assumption | (simp [go_sem]; done) | (simp [go_sem]; omega))]))))
  go_ret; exact .mk (by first | rfl | (simp; done) | (simp; omega)) (by repeat' (first | exact Below.refl _ _ | with_reducible assumption | omega | with_reducible refine below_put_fut ?_ ?_ _ | with_reducible refine below_to_put ?_ | with_reducible refine Below.alloc ?_ ?_ _ | with_reducible refine Below.fut ?_ ?_ _ | with_reducible refine Below.drew ?_ | with_reducible refine Below.setCell ?_ ?_ _ | with_reducible refine Below.atPut ?_ ?_ _ | (simp [go_sem]; done) | (simp [go_sem]; omega)))
set_option maxRecDepth 100000 in
theorem at_nil (W : World) : Calls Try.prog 35 #[.pointer none, .int .i64 0] W (Makes (.tuple #[.agg #[.string ⟨#[]⟩, .string ⟨#[]⟩], .bool false]) W) := by
  go_enter Try.func35, Try.ntmps35
  go_wp2_with fail
  (((with_reducible refine (len_nil _).mono ?_)); rintro _ _ ⟨rfl, u, rfl⟩)
  have hbw : Below W.heap.size W u.val := (by repeat' (first | exact Below.refl _ _ | with_reducible assumption | omega | with_reducible refine below_put_fut ?_ ?_ _ | with_reducible refine below_to_put ?_ | with_reducible refine Below.alloc ?_ ?_ _ | with_reducible refine Below.fut ?_ ?_ _ | with_reducible refine Below.drew ?_ | with_reducible refine Below.setCell ?_ ?_ _ | with_reducible refine Below.atPut ?_ ?_ _ | (simp [go_sem]; done) | (simp [go_sem]; omega)))
  have hcu : u.val.heap[W.heap.size]? = some (.cells #[.string ⟨#[]⟩, .string ⟨#[]⟩] 34) := (u.below.block _ (by simp)).trans (heap_alloc_at _ _ _ rfl)
  have hgl := lt_of_heap hcu
  generalize u.val = X at hbw hcu hgl ⊢
  rw [← put_self hcu]
  go_wp2_with fail
  refine bodyPost_ret (v := .tuple #[.agg #[.string ⟨#[]⟩, .string ⟨#[]⟩], .bool false]) (results_row_tmp rfl _ _ W.heap.size 34 #[.string ⟨#[]⟩, .string ⟨#[]⟩] (0, 0) _ (.bool false) rfl rfl (heap_put_at _ _ _ hgl) Try.underlying34 rfl (by kernel_rfl)) rfl (.mk rfl (by repeat' (first | exact Below.refl _ _ | with_reducible assumption | omega | with_reducible refine below_put_fut ?_ ?_ _ | with_reducible refine below_to_put ?_ | with_reducible refine Below.alloc ?_ ?_ _ | with_reducible refine Below.fut ?_ ?_ _ | with_reducible refine Below.drew ?_ | with_reducible refine Below.setCell ?_ ?_ _ | with_reducible refine Below.atPut ?_ ?_ _ | (simp [go_sem]; done) | (simp [go_sem]; omega))))
set_option maxRecDepth 100000 in
set_option maxHeartbeats 40000000 in
theorem walkCounts_good (w : World) (sl : Value) (l : List It) (n : Nat) (hl : l.length = n) (hn : n ≤ 60) (hs : Src w 2 sl n (flat l)) (k : ByteArray) (hk : k.size ≤ 40) (i : Int) (a b : Int) (ha : 0 ≤ a) (ha2 : a < 18446744073709551616) (hb : 0 ≤ b) (hb2 : b < 18446744073709551616) :
    Calls Try.prog 4 #[sl, .string k, .int .i64 i, .agg #[.int .u64 a, .int .u64 b]] w (Makes (.bool true) w) := by
  obtain ⟨ao, cap, rfl⟩ := hs.slice_of
  have d1 : decide ((60 : Int) < n) = false := by simp; omega
  have d2 : decide ((40 : Int) < k.size) = false := by simp; omega
  have HS := hid hs
  have HL := hid hl
  have HK := hid (show k.size ≤ maxLen by unfold maxLen; omega)
  clear hs hl
  go_enter Try.func4, Try.ntmps4
  go_wp2_with (first | (go_at_call 33; ((with_reducible refine (wkAlive_any _).mono ?_)); rintro _ _ ⟨rfl, u, rfl⟩; (try (rw [Fut.put_self u (by first | assumption | (simp [go_sem]; done) | (simp [go_sem]; omega))]))) | (((with_reducible refine wp_region_fut_lit (by kernel_rfl) (by kernel_rfl) ?_)); (repeat (go_big_quiet_step ((first | (go_at_call 33; with_reducible exact Calls.fut_of (wkAlive_any _)))))); ((with_reducible refine wpQuiet_nil ?_)); rintro _ ⟨u, rfl⟩; (try (rw [Fut.put_self u (by first | assumption | (simp [go_sem]; done) | (simp [go_sem]; omega))]))))
  clear d1 d2
  have hbX : Below w.heap.size w u.val := (by repeat' (first | exact Below.refl _ _ | with_reducible assumption | omega | with_reducible refine below_put_fut ?_ ?_ _ | with_reducible refine below_to_put ?_ | with_reducible refine Below.alloc ?_ ?_ _ | with_reducible refine Below.fut ?_ ?_ _ | with_reducible refine Below.drew ?_ | with_reducible refine Below.setCell ?_ ?_ _ | with_reducible refine Below.atPut ?_ ?_ _ | (simp [go_sem]; done) | (simp [go_sem]; omega)))
  have hzX := hbX.size
  have hc7 := hid ((u.below.block w.heap.size (by simp)).trans (heap_alloc_at w (.cells #[.int .u64 a, .int .u64 b] 38) _ rfl))
  generalize u.val = X at hbX hzX hc7 ⊢
  refine (filled_is X _ l n HL.out hn (HS.out.heap hbX)).mono ?_
  rintro _ W1 ⟨gs, gr, rfl, hb1⟩
  have hcW : W1.heap[w.heap.size]? = some (.cells #[.int .u64 a, .int .u64 b] 38) := (hb1.1.block _ (lt_of_heap hc7.out)).trans hc7.out
  have H1 := hid (hb1.base hbX hzX)
  have hxl := fillL_len l
  generalize fillL l = xs at H1 hxl
  obtain ⟨m, hm⟩ : ∃ m, xs.length = m := ⟨_, rfl⟩
  have HM := hid hm
  rw [hm, HL.out] at hxl
  have hm60 : m ≤ 60 := by omega
  have HSM := hid (sh_small H1.out.sh)
  have HRS := hid (sh_rises H1.out.sh)
  have HC := hid hcW
  clear hb1 hbX hzX HS HL hxl hm hc7 hcW
  obtain ⟨p, is, hp⟩ : ∃ p is, placeOf k xs = (p, is) := ⟨_, _, rfl⟩
  have HP := hid hp
  have HRK := hid (rank_place HRS.out hp)
  obtain ⟨md, hmd⟩ : ∃ md, (midL ((arcL a b xs).map adr)).getD 0 = md := ⟨_, rfl⟩
  obtain ⟨mi, hmi⟩ : ∃ mi, (midL ((arcL a b xs).map adr)).isSome = mi := ⟨_, rfl⟩
  have HMD := hid hmd
  have HMI := hid hmi
  clear hp hmd hmi
  go_wp2_with fail
  rcases Int.lt_or_le i 0 with c | c
  · (((with_reducible refine (walkAt_none H1.out.sh (by rw [HM.out]; omega) i (.inl c)).mono ?_)); rintro _ _ ⟨rfl, u2, rfl⟩)
    have H2 := hid (H1.out.on u2.below)
    have HC2 := hid ((u2.below.block _ (lt_of_heap HC.out)).trans HC.out)
    generalize u2.val = W2 at H2 HC2 ⊢
    clear H1 HC
    go_wp2_with fail
    (((with_reducible refine (both_at (H2.out.on (W' := W2.alloc (.cells #[.string ⟨#[]⟩, .string ⟨#[]⟩] 34)) (by repeat' (first | exact Below.refl _ _ | with_reducible assumption | omega | with_reducible refine below_put_fut ?_ ?_ _ | with_reducible refine below_to_put ?_ | with_reducible refine Below.alloc ?_ ?_ _ | with_reducible refine Below.fut ?_ ?_ _ | with_reducible refine Below.drew ?_ | with_reducible refine Below.setCell ?_ ?_ _ | with_reducible refine Below.atPut ?_ ?_ _ | (simp [go_sem]; done) | (simp [go_sem]; omega)))) (by rw [HM.out]; omega) k p is HP.out).mono ?_)); rintro _ _ ⟨rfl, u3, rfl⟩)
    have hb3 : Below W2.heap.size W2 u3.val := (by repeat' (first | exact Below.refl _ _ | with_reducible assumption | omega | with_reducible refine below_put_fut ?_ ?_ _ | with_reducible refine below_to_put ?_ | with_reducible refine Below.alloc ?_ ?_ _ | with_reducible refine Below.fut ?_ ?_ _ | with_reducible refine Below.drew ?_ | with_reducible refine Below.setCell ?_ ?_ _ | with_reducible refine Below.atPut ?_ ?_ _ | (simp [go_sem]; done) | (simp [go_sem]; omega)))
    have H3 := hid (H2.out.on hb3)
    have hc3 : u3.val.heap[w.heap.size]? = _ := (hb3.block _ (lt_of_heap HC2.out)).trans HC2.out
    have hx3 : u3.val.heap[W2.heap.size]? = some (.cells #[.string ⟨#[]⟩, .string ⟨#[]⟩] 34) := (u3.below.block _ (by simp)).trans (heap_alloc_at _ _ _ rfl)
    generalize u3.val = W3 at H3 hc3 hx3 ⊢
    generalize W2.heap.size = B11 at hx3 ⊢
    have e3 := fun i => cell_of_row W3 w.heap.size i _ _ (0, 0) hc3
    have l3 := lt_of_heap hc3
    have HC3 := hid hc3
    have HX3 := hid hx3
    clear H2 HC2 hb3 hc3 hx3
    go_wp2_with fail
    (((with_reducible refine (sh_middle H3.out.sh (by rw [HM.out]; omega) ha ha2 hb hb2 md mi HMD.out HMI.out).mono ?_)); rintro _ _ ⟨rfl, u4, rfl⟩)
    have H4 := hid (H3.out.on u4.below)
    have hc4 := (u4.below.block _ (lt_of_heap HC3.out)).trans HC3.out
    have hx4 := (u4.below.block _ (lt_of_heap HX3.out)).trans HX3.out
    generalize u4.val = W4 at H4 hc4 hx4 ⊢
    clear e3 l3
    have e4 := fun i => cell_of_row W4 w.heap.size i _ _ (0, 0) hc4
    have l4 := lt_of_heap hc4
    have HC4 := hid hc4
    have HX4 := hid hx4
    clear H3 HC3 HX3 hc4 hx4
    go_wp2_with fail
    (((with_reducible refine (both_middle H4.out (by rw [HM.out]; omega) HSM.out a b ha ha2 hb hb2 md mi HMD.out HMI.out).mono ?_)); rintro _ _ ⟨rfl, u5, rfl⟩)
    have H5 := hid (H4.out.on u5.below)
    have hc5 := (u5.below.block _ (lt_of_heap HC4.out)).trans HC4.out
    have hx5 := (u5.below.block _ (lt_of_heap HX4.out)).trans HX4.out
    generalize u5.val = W5 at H5 hc5 hx5 ⊢
    clear e4 l4 H4 HC4 HX4
    go_wp2_with fail
    obtain ⟨rv, hgr, hsr⟩ := H5.out.ref
    rw [HM.out] at hsr
    obtain ⟨ra, rc, rfl⟩ := hsr.slice_of
    have eg := fun i => cell_of_row W5 gr i _ _ (0, 0) hgr
    have lg := lt_of_heap hgr
    have e7 := fun i => cell_of_row W5 w.heap.size i _ _ (0, 0) hc5
    have l7 := lt_of_heap hc5
    have ex := fun i => cell_of_row W5 B11 i _ _ (0, 0) hx5
    have lx := lt_of_heap hx5
    obtain ⟨na, hna⟩ : ∃ na, (arcL a b xs).length = na := ⟨_, rfl⟩
    have HNA := hid hna
    have dj : decide ((0 : Int) ≤ i) = false := by simp; omega
    have djn : ¬ (0 : Int) ≤ i := by omega
    have HC5 := hid hc5
    have HCE := hid (fun (Y : World) (hY : Below W5.heap.size W5 Y) => show Y.cell? ⟨gr, 1, none⟩ = some (.slice ra m rc) ∧ Y.cell? ⟨B11, 0, none⟩ = some (.string ⟨#[]⟩) ∧ Y.cell? ⟨B11, 1, none⟩ = some (.string ⟨#[]⟩) ∧ Y.cell? ⟨w.heap.size, 0, none⟩ = some (.int .u64 a) ∧ Y.cell? ⟨w.heap.size, 1, none⟩ = some (.int .u64 b) from
      ⟨(hY.cell lg).trans (eg 1), (hY.cell lx).trans (ex 0), (hY.cell lx).trans (ex 1), (hY.cell l7).trans (e7 0), (hY.cell l7).trans (e7 1)⟩)
    clear hsr hgr hc5 hx5 hna c eg ex e7
    refine wp_region_noPanic ?_
    refine wp_region_held_drew (S := (fun Y => Y.cell? ⟨gr, 1, none⟩ = some (.slice ra m rc) ∧ Y.cell? ⟨B11, 0, none⟩ = some (.string ⟨#[]⟩) ∧ Y.cell? ⟨B11, 1, none⟩ = some (.string ⟨#[]⟩) ∧ Y.cell? ⟨w.heap.size, 0, none⟩ = some (.int .u64 a) ∧ Y.cell? ⟨w.heap.size, 1, none⟩ = some (.int .u64 b))) (by kernel_rfl) (by exact HCE.out _ (by repeat' (first | exact Below.refl _ _ | with_reducible assumption | omega | with_reducible refine below_put_fut ?_ ?_ _ | with_reducible refine below_to_put ?_ | with_reducible refine Below.alloc ?_ ?_ _ | with_reducible refine Below.fut ?_ ?_ _ | with_reducible refine Below.drew ?_ | with_reducible refine Below.setCell ?_ ?_ _ | with_reducible refine Below.atPut ?_ ?_ _ | (simp [go_sem]; done) | (simp [go_sem]; omega)))) (fun hHeld => ?_)
    refine wpAnyH_take (i := 0) (v := ?_) rfl (by kernel_rfl) (by kernel_rfl) (by kernel_rfl) (fun _ _ _ h => h) (Or.inl ⟨by rfl, ?_⟩) (by assumption) ?_
    case refine_2 => (intro w hSw; (try dsimp only at hSw); first | (go_simp; done) | (go_simp; with_reducible rfl))
    try simp only [Act.put, List.getElem_toArray, List.getElem_cons_succ, List.getElem_cons_zero, List.setIfInBounds_toArray, List.set_cons_zero, List.set_cons_succ]
    refine wpAnyH_take (i := 1) (v := ?_) rfl (by kernel_rfl) (by kernel_rfl) (by kernel_rfl) (fun _ _ _ h => h) (Or.inl ⟨by rfl, ?_⟩) (by assumption) ?_
    case refine_2 => (intro w hSw; (try dsimp only at hSw); first | (go_simp; done) | (go_simp; with_reducible rfl))
    try simp only [Act.put, List.getElem_toArray, List.getElem_cons_succ, List.getElem_cons_zero, List.setIfInBounds_toArray, List.set_cons_zero, List.set_cons_succ]
    refine wpAnyH_take (i := 3) (v := ?_) rfl (by kernel_rfl) (by kernel_rfl) (by kernel_rfl) (fun _ _ _ h => h) (Or.inl ⟨by rfl, ?_⟩) (by assumption) ?_
    case refine_2 => (intro w hSw; (try dsimp only at hSw); first | (go_simp; done) | (go_simp; with_reducible rfl))
    try simp only [Act.put, List.getElem_toArray, List.getElem_cons_succ, List.getElem_cons_zero, List.setIfInBounds_toArray, List.set_cons_zero, List.set_cons_succ]
    refine wpAnyH_ready (rs := [2]) (by kernel_rfl) (by simp) ?_
    refine AllReadyH.cons rfl (fun K hK => ?_) AllReadyH.nil
    go_simp
    first | (go_at_call 39; ((with_reducible refine (rank_is (H5.out.sh.on (by repeat' (first | exact Below.refl _ _ | with_reducible assumption | omega | with_reducible refine below_put_fut ?_ ?_ _ | with_reducible refine below_to_put ?_ | with_reducible refine Below.alloc ?_ ?_ _ | with_reducible refine Below.fut ?_ ?_ _ | with_reducible refine Below.drew ?_ | with_reducible refine Below.setCell ?_ ?_ _ | with_reducible refine Below.atPut ?_ ?_ _ | (simp [go_sem]; done) | (simp [go_sem]; omega))) H5.out.sh.ge) (by rw [HM.out]; omega) k HK.out).mono ?_)); rintro _ _ ⟨rfl, u6, rfl⟩; rw [HRK.out]) | (go_at_call 40; ((with_reducible refine (sh_count (H5.out.sh.on (by repeat' (first | exact Below.refl _ _ | with_reducible assumption | omega | with_reducible refine below_put_fut ?_ ?_ _ | with_reducible refine below_to_put ?_ | with_reducible refine Below.alloc ?_ ?_ _ | with_reducible refine Below.fut ?_ ?_ _ | with_reducible refine Below.drew ?_ | with_reducible refine Below.setCell ?_ ?_ _ | with_reducible refine Below.atPut ?_ ?_ _ | (simp [go_sem]; done) | (simp [go_sem]; omega))) H5.out.sh.ge) (by rw [HM.out]; omega) ha ha2 hb hb2 na HNA.out).mono ?_)); rintro _ _ ⟨rfl, u7, rfl⟩) | (go_at_call 41; ((with_reducible refine (both_arcLen (H5.out.on (by repeat' (first | exact Below.refl _ _ | with_reducible assumption | omega | with_reducible refine below_put_fut ?_ ?_ _ | with_reducible refine below_to_put ?_ | with_reducible refine Below.alloc ?_ ?_ _ | with_reducible refine Below.fut ?_ ?_ _ | with_reducible refine Below.drew ?_ | with_reducible refine Below.setCell ?_ ?_ _ | with_reducible refine Below.atPut ?_ ?_ _ | (simp [go_sem]; done) | (simp [go_sem]; omega)))) (by rw [HM.out]; omega) HSM.out a b ha ha2 hb hb2 na HNA.out).mono ?_)); rintro _ _ ⟨ao8, c8, u8, rfl, rfl⟩)
    refine hK.out _ _ (by exact HCE.out _ (by repeat' (first | exact Below.refl _ _ | with_reducible assumption | omega | with_reducible refine below_put_fut ?_ ?_ _ | with_reducible refine below_to_put ?_ | with_reducible refine Below.alloc ?_ ?_ _ | with_reducible refine Below.fut ?_ ?_ _ | with_reducible refine Below.drew ?_ | with_reducible refine Below.setCell ?_ ?_ _ | with_reducible refine Below.atPut ?_ ?_ _ | (simp [go_sem]; done) | (simp [go_sem]; omega)))) (fun hHeld => ?_)
    clear hK K
    try simp only [Act.put, List.getElem_toArray, List.getElem_cons_succ, List.getElem_cons_zero, List.setIfInBounds_toArray, List.set_cons_zero, List.set_cons_succ]
    refine wpAnyH_take (i := 4) (v := ?_) rfl (by kernel_rfl) (by kernel_rfl) (by kernel_rfl) (fun _ _ _ h => h) (Or.inl ⟨by rfl, ?_⟩) (by assumption) ?_
    case refine_2 => (intro w hSw; (try dsimp only at hSw); first | (go_simp; done) | (go_simp; with_reducible rfl))
    try simp only [Act.put, List.getElem_toArray, List.getElem_cons_succ, List.getElem_cons_zero, List.setIfInBounds_toArray, List.set_cons_zero, List.set_cons_succ]
    refine wpAnyH_take (i := 5) (v := ?_) rfl (by kernel_rfl) (by kernel_rfl) (by kernel_rfl) (fun _ _ _ h => h) (Or.inl ⟨by rfl, ?_⟩) (by assumption) ?_
    case refine_2 => (intro w hSw; (try dsimp only at hSw); first | (go_simp; done) | (go_simp; with_reducible rfl))
    try simp only [Act.put, List.getElem_toArray, List.getElem_cons_succ, List.getElem_cons_zero, List.setIfInBounds_toArray, List.set_cons_zero, List.set_cons_succ]
    refine wpAnyH_take (i := 6) (v := ?_) rfl (by kernel_rfl) (by kernel_rfl) (by kernel_rfl) (fun _ _ _ h => h) (Or.inl ⟨by rfl, ?_⟩) (by assumption) ?_
    case refine_2 => (intro w hSw; (try dsimp only at hSw); first | (go_simp; done) | (go_simp; with_reducible rfl))
    try simp only [Act.put, List.getElem_toArray, List.getElem_cons_succ, List.getElem_cons_zero, List.setIfInBounds_toArray, List.set_cons_zero, List.set_cons_succ]
    refine wpAnyH_take (i := 7) (v := ?_) rfl (by kernel_rfl) (by kernel_rfl) (by kernel_rfl) (fun _ _ _ h => h) (Or.inl ⟨by rfl, ?_⟩) (by assumption) ?_
    case refine_2 => (intro w hSw; (try dsimp only at hSw); first | (go_simp; done) | (go_simp; with_reducible rfl))
    try simp only [Act.put, List.getElem_toArray, List.getElem_cons_succ, List.getElem_cons_zero, List.setIfInBounds_toArray, List.set_cons_zero, List.set_cons_succ]
    refine wpAnyH_take (i := 8) (v := ?_) rfl (by kernel_rfl) (by kernel_rfl) (by kernel_rfl) (fun _ _ _ h => h) (Or.inl ⟨by rfl, ?_⟩) (by assumption) ?_
    case refine_2 => (intro w hSw; (try dsimp only at hSw); first | (go_simp; done) | (go_simp; with_reducible rfl))
    try simp only [Act.put, List.getElem_toArray, List.getElem_cons_succ, List.getElem_cons_zero, List.setIfInBounds_toArray, List.set_cons_zero, List.set_cons_succ]
    refine wpAnyH_take (i := 9) (v := ?_) rfl (by kernel_rfl) (by kernel_rfl) (by kernel_rfl) (fun _ _ _ h => h) (Or.inl ⟨by rfl, ?_⟩) (by assumption) ?_
    case refine_2 => (intro w hSw; (try dsimp only at hSw); first | (go_simp; done) | (go_simp; with_reducible rfl))
    try simp only [Act.put, List.getElem_toArray, List.getElem_cons_succ, List.getElem_cons_zero, List.setIfInBounds_toArray, List.set_cons_zero, List.set_cons_succ]
    refine wpAnyH_take (i := 10) (v := undef) rfl (by kernel_rfl) (by kernel_rfl) (by kernel_rfl) (fun _ _ _ h => h) (Or.inr ⟨by rfl, rfl⟩) (by assumption) ?_
    try simp only [Act.put, List.getElem_toArray, List.getElem_cons_succ, List.getElem_cons_zero, List.setIfInBounds_toArray, List.set_cons_zero, List.set_cons_succ]
    refine wpAnyH_take (i := 11) (v := undef) rfl (by kernel_rfl) (by kernel_rfl) (by kernel_rfl) (fun _ _ _ h => h) (Or.inr ⟨by rfl, rfl⟩) (by assumption) ?_
    try simp only [Act.put, List.getElem_toArray, List.getElem_cons_succ, List.getElem_cons_zero, List.setIfInBounds_toArray, List.set_cons_zero, List.set_cons_succ]
    refine wpAnyH_take (i := 12) (v := undef) rfl (by kernel_rfl) (by kernel_rfl) (by kernel_rfl) (fun _ _ _ h => h) (Or.inr ⟨by rfl, rfl⟩) (by assumption) ?_
    try simp only [Act.put, List.getElem_toArray, List.getElem_cons_succ, List.getElem_cons_zero, List.setIfInBounds_toArray, List.set_cons_zero, List.set_cons_succ]
    refine wpAnyH_take (i := 13) (v := undef) rfl (by kernel_rfl) (by kernel_rfl) (by kernel_rfl) (fun _ _ _ h => h) (Or.inr ⟨by rfl, rfl⟩) (by assumption) ?_
    try simp only [Act.put, List.getElem_toArray, List.getElem_cons_succ, List.getElem_cons_zero, List.setIfInBounds_toArray, List.set_cons_zero, List.set_cons_succ]
    refine wpAnyH_take (i := 14) (v := undef) rfl (by kernel_rfl) (by kernel_rfl) (by kernel_rfl) (fun _ _ _ h => h) (Or.inr ⟨by rfl, rfl⟩) (by assumption) ?_
    try simp only [Act.put, List.getElem_toArray, List.getElem_cons_succ, List.getElem_cons_zero, List.setIfInBounds_toArray, List.set_cons_zero, List.set_cons_succ]
    refine wpAnyH_take (i := 15) (v := undef) rfl (by kernel_rfl) (by kernel_rfl) (by kernel_rfl) (fun _ _ _ h => h) (Or.inr ⟨by rfl, rfl⟩) (by assumption) ?_
    try simp only [Act.put, List.getElem_toArray, List.getElem_cons_succ, List.getElem_cons_zero, List.setIfInBounds_toArray, List.set_cons_zero, List.set_cons_succ]
    refine wpAnyH_take (i := 16) (v := undef) rfl (by kernel_rfl) (by kernel_rfl) (by kernel_rfl) (fun _ _ _ h => h) (Or.inr ⟨by rfl, rfl⟩) (by assumption) ?_
    try simp only [Act.put, List.getElem_toArray, List.getElem_cons_succ, List.getElem_cons_zero, List.setIfInBounds_toArray, List.set_cons_zero, List.set_cons_succ]
    refine wpAnyH_take (i := 17) (v := ?_) rfl (by kernel_rfl) (by kernel_rfl) (by kernel_rfl) (fun _ _ _ h => h) (Or.inl ⟨by rfl, ?_⟩) (by assumption) ?_
    case refine_2 => (intro w hSw; (try dsimp only at hSw); first | (go_simp; done) | (go_simp; with_reducible rfl))
    try simp only [Act.put, List.getElem_toArray, List.getElem_cons_succ, List.getElem_cons_zero, List.setIfInBounds_toArray, List.set_cons_zero, List.set_cons_succ]
    refine wpAnyH_take (i := 18) (v := ?_) rfl (by kernel_rfl) (by kernel_rfl) (by kernel_rfl) (fun _ _ _ h => h) (Or.inl ⟨by rfl, ?_⟩) (by assumption) ?_
    case refine_2 => (intro w hSw; (try dsimp only at hSw); first | (go_simp; done) | (go_simp; with_reducible rfl))
    try simp only [Act.put, List.getElem_toArray, List.getElem_cons_succ, List.getElem_cons_zero, List.setIfInBounds_toArray, List.set_cons_zero, List.set_cons_succ]
    refine wpAnyH_take (i := 19) (v := ?_) rfl (by kernel_rfl) (by kernel_rfl) (by kernel_rfl) (fun _ _ _ h => h) (Or.inl ⟨by rfl, ?_⟩) (by assumption) ?_
    case refine_2 => (intro w hSw; (try dsimp only at hSw); first | (go_simp; done) | (go_simp; with_reducible rfl))
    try simp only [Act.put, List.getElem_toArray, List.getElem_cons_succ, List.getElem_cons_zero, List.setIfInBounds_toArray, List.set_cons_zero, List.set_cons_succ]
    refine wpAnyH_take (i := 20) (v := ?_) rfl (by kernel_rfl) (by kernel_rfl) (by kernel_rfl) (fun _ _ _ h => h) (Or.inl ⟨by rfl, ?_⟩) (by assumption) ?_
    case refine_2 => (intro w hSw; (try dsimp only at hSw); first | (go_simp; done) | (go_simp; with_reducible rfl))
    try simp only [Act.put, List.getElem_toArray, List.getElem_cons_succ, List.getElem_cons_zero, List.setIfInBounds_toArray, List.set_cons_zero, List.set_cons_succ]
    refine wpAnyH_take (i := 21) (v := ?_) rfl (by kernel_rfl) (by kernel_rfl) (by kernel_rfl) (fun _ _ _ h => h) (Or.inl ⟨by rfl, ?_⟩) (by assumption) ?_
    case refine_2 => (intro w hSw; (try dsimp only at hSw); first | (go_simp; done) | (go_simp; with_reducible rfl))
    try simp only [Act.put, List.getElem_toArray, List.getElem_cons_succ, List.getElem_cons_zero, List.setIfInBounds_toArray, List.set_cons_zero, List.set_cons_succ]
    refine wpAnyH_take (i := 22) (v := ?_) rfl (by kernel_rfl) (by kernel_rfl) (by kernel_rfl) (fun _ _ _ h => h) (Or.inl ⟨by rfl, ?_⟩) (by assumption) ?_
    case refine_2 => (intro w hSw; (try dsimp only at hSw); first | (go_simp; done) | (go_simp; with_reducible rfl))
    try simp only [Act.put, List.getElem_toArray, List.getElem_cons_succ, List.getElem_cons_zero, List.setIfInBounds_toArray, List.set_cons_zero, List.set_cons_succ]
    refine wpAnyH_take (i := 23) (v := undef) rfl (by kernel_rfl) (by kernel_rfl) (by kernel_rfl) (fun _ _ _ h => h) (Or.inr ⟨by rfl, rfl⟩) (by assumption) ?_
    try simp only [Act.put, List.getElem_toArray, List.getElem_cons_succ, List.getElem_cons_zero, List.setIfInBounds_toArray, List.set_cons_zero, List.set_cons_succ]
    refine wpAnyH_take (i := 24) (v := undef) rfl (by kernel_rfl) (by kernel_rfl) (by kernel_rfl) (fun _ _ _ h => h) (Or.inr ⟨by rfl, rfl⟩) (by assumption) ?_
    try simp only [Act.put, List.getElem_toArray, List.getElem_cons_succ, List.getElem_cons_zero, List.setIfInBounds_toArray, List.set_cons_zero, List.set_cons_succ]
    refine wpAnyH_take (i := 25) (v := undef) rfl (by kernel_rfl) (by kernel_rfl) (by kernel_rfl) (fun _ _ _ h => h) (Or.inr ⟨by rfl, rfl⟩) (by assumption) ?_
    try simp only [Act.put, List.getElem_toArray, List.getElem_cons_succ, List.getElem_cons_zero, List.setIfInBounds_toArray, List.set_cons_zero, List.set_cons_succ]
    refine wpAnyH_take (i := 26) (v := undef) rfl (by kernel_rfl) (by kernel_rfl) (by kernel_rfl) (fun _ _ _ h => h) (Or.inr ⟨by rfl, rfl⟩) (by assumption) ?_
    try simp only [Act.put, List.getElem_toArray, List.getElem_cons_succ, List.getElem_cons_zero, List.setIfInBounds_toArray, List.set_cons_zero, List.set_cons_succ]
    refine wpAnyH_take (i := 27) (v := undef) rfl (by kernel_rfl) (by kernel_rfl) (by kernel_rfl) (fun _ _ _ h => h) (Or.inr ⟨by rfl, rfl⟩) (by assumption) ?_
    try simp only [Act.put, List.getElem_toArray, List.getElem_cons_succ, List.getElem_cons_zero, List.setIfInBounds_toArray, List.set_cons_zero, List.set_cons_succ]
    refine wpAnyH_take (i := 28) (v := undef) rfl (by kernel_rfl) (by kernel_rfl) (by kernel_rfl) (fun _ _ _ h => h) (Or.inr ⟨by rfl, rfl⟩) (by assumption) ?_
    try simp only [Act.put, List.getElem_toArray, List.getElem_cons_succ, List.getElem_cons_zero, List.setIfInBounds_toArray, List.set_cons_zero, List.set_cons_succ]
    refine wpAnyH_take (i := 29) (v := undef) rfl (by kernel_rfl) (by kernel_rfl) (by kernel_rfl) (fun _ _ _ h => h) (Or.inr ⟨by rfl, rfl⟩) (by assumption) ?_
    try simp only [Act.put, List.getElem_toArray, List.getElem_cons_succ, List.getElem_cons_zero, List.setIfInBounds_toArray, List.set_cons_zero, List.set_cons_succ]
    refine wpAnyH_take (i := 30) (v := undef) rfl (by kernel_rfl) (by kernel_rfl) (by kernel_rfl) (fun _ _ _ h => h) (Or.inr ⟨by rfl, rfl⟩) (by assumption) ?_
    try simp only [Act.put, List.getElem_toArray, List.getElem_cons_succ, List.getElem_cons_zero, List.setIfInBounds_toArray, List.set_cons_zero, List.set_cons_succ]
    refine wpAnyH_take (i := 31) (v := undef) rfl (by kernel_rfl) (by kernel_rfl) (by kernel_rfl) (fun _ _ _ h => h) (Or.inr ⟨by rfl, rfl⟩) (by assumption) ?_
    try simp only [Act.put, List.getElem_toArray, List.getElem_cons_succ, List.getElem_cons_zero, List.setIfInBounds_toArray, List.set_cons_zero, List.set_cons_succ]
    refine wpAnyH_take (i := 32) (v := ?_) rfl (by kernel_rfl) (by kernel_rfl) (by kernel_rfl) (fun _ _ _ h => h) (Or.inl ⟨by rfl, ?_⟩) (by assumption) ?_
    case refine_2 => (intro w hSw; (try dsimp only at hSw); first | (go_simp; done) | (go_simp; with_reducible rfl))
    try simp only [Act.put, List.getElem_toArray, List.getElem_cons_succ, List.getElem_cons_zero, List.setIfInBounds_toArray, List.set_cons_zero, List.set_cons_succ]
    refine wpAnyH_take (i := 33) (v := ?_) rfl (by kernel_rfl) (by kernel_rfl) (by kernel_rfl) (fun _ _ _ h => h) (Or.inl ⟨by rfl, ?_⟩) (by assumption) ?_
    case refine_2 => (intro w hSw; (try dsimp only at hSw); first | (go_simp; done) | (go_simp; with_reducible rfl))
    try simp only [Act.put, List.getElem_toArray, List.getElem_cons_succ, List.getElem_cons_zero, List.setIfInBounds_toArray, List.set_cons_zero, List.set_cons_succ]
    refine wpAnyH_take (i := 34) (v := ?_) rfl (by kernel_rfl) (by kernel_rfl) (by kernel_rfl) (fun _ _ _ h => h) (Or.inl ⟨by rfl, ?_⟩) (by assumption) ?_
    case refine_2 => (intro w hSw; (try dsimp only at hSw); first | (go_simp; done) | (go_simp; with_reducible rfl))
    try simp only [Act.put, List.getElem_toArray, List.getElem_cons_succ, List.getElem_cons_zero, List.setIfInBounds_toArray, List.set_cons_zero, List.set_cons_succ]
    refine wpAnyH_take (i := 35) (v := ?_) rfl (by kernel_rfl) (by kernel_rfl) (by kernel_rfl) (fun _ _ _ h => h) (Or.inl ⟨by rfl, ?_⟩) (by assumption) ?_
    case refine_2 => (intro w hSw; (try dsimp only at hSw); first | (go_simp; done) | (go_simp; with_reducible rfl))
    try simp only [Act.put, List.getElem_toArray, List.getElem_cons_succ, List.getElem_cons_zero, List.setIfInBounds_toArray, List.set_cons_zero, List.set_cons_succ]
    refine wpAnyH_take (i := 36) (v := ?_) rfl (by kernel_rfl) (by kernel_rfl) (by kernel_rfl) (fun _ _ _ h => h) (Or.inl ⟨by rfl, ?_⟩) (by assumption) ?_
    case refine_2 => (intro w hSw; (try dsimp only at hSw); first | (go_simp; done) | (go_simp; with_reducible rfl))
    try simp only [Act.put, List.getElem_toArray, List.getElem_cons_succ, List.getElem_cons_zero, List.setIfInBounds_toArray, List.set_cons_zero, List.set_cons_succ]
    refine wpAnyH_take (i := 37) (v := ?_) rfl (by kernel_rfl) (by kernel_rfl) (by kernel_rfl) (fun _ _ _ h => h) (Or.inl ⟨by rfl, ?_⟩) (by assumption) ?_
    case refine_2 => (intro w hSw; (try dsimp only at hSw); first | (go_simp; done) | (go_simp; with_reducible rfl))
    try simp only [Act.put, List.getElem_toArray, List.getElem_cons_succ, List.getElem_cons_zero, List.setIfInBounds_toArray, List.set_cons_zero, List.set_cons_succ]
    refine wpAnyH_take (i := 38) (v := ?_) rfl (by kernel_rfl) (by kernel_rfl) (by kernel_rfl) (fun _ _ _ h => h) (Or.inl ⟨by rfl, ?_⟩) (by assumption) ?_
    case refine_2 => (intro w hSw; (try dsimp only at hSw); first | (go_simp; done) | (go_simp; with_reducible rfl))
    try simp only [Act.put, List.getElem_toArray, List.getElem_cons_succ, List.getElem_cons_zero, List.setIfInBounds_toArray, List.set_cons_zero, List.set_cons_succ]
    refine wpAnyH_take (i := 39) (v := ?_) rfl (by kernel_rfl) (by kernel_rfl) (by kernel_rfl) (fun _ _ _ h => h) (Or.inl ⟨by rfl, ?_⟩) (by assumption) ?_
    case refine_2 => (intro w hSw; (try dsimp only at hSw); first | (go_simp; done) | (go_simp; with_reducible rfl))
    try simp only [Act.put, List.getElem_toArray, List.getElem_cons_succ, List.getElem_cons_zero, List.setIfInBounds_toArray, List.set_cons_zero, List.set_cons_succ]
    refine wpAnyH_take (i := 40) (v := ?_) rfl (by kernel_rfl) (by kernel_rfl) (by kernel_rfl) (fun _ _ _ h => h) (Or.inl ⟨by rfl, ?_⟩) (by assumption) ?_
    case refine_2 => (intro w hSw; (try dsimp only at hSw); first | (go_simp; done) | (go_simp; with_reducible rfl))
    try simp only [Act.put, List.getElem_toArray, List.getElem_cons_succ, List.getElem_cons_zero, List.setIfInBounds_toArray, List.set_cons_zero, List.set_cons_succ]
    refine wpAnyH_take (i := 41) (v := ?_) rfl (by kernel_rfl) (by kernel_rfl) (by kernel_rfl) (fun _ _ _ h => h) (Or.inl ⟨by rfl, ?_⟩) (by assumption) ?_
    case refine_2 => (intro w hSw; (try dsimp only at hSw); first | (go_simp; done) | (go_simp; with_reducible rfl))
    try simp only [Act.put, List.getElem_toArray, List.getElem_cons_succ, List.getElem_cons_zero, List.setIfInBounds_toArray, List.set_cons_zero, List.set_cons_succ]
    refine wpAnyH_take (i := 42) (v := ?_) rfl (by kernel_rfl) (by kernel_rfl) (by kernel_rfl) (fun _ _ _ h => h) (Or.inl ⟨by rfl, ?_⟩) (by assumption) ?_
    case refine_2 => (intro w hSw; (try dsimp only at hSw); first | (go_simp; done) | (go_simp; with_reducible rfl))
    try simp only [Act.put, List.getElem_toArray, List.getElem_cons_succ, List.getElem_cons_zero, List.setIfInBounds_toArray, List.set_cons_zero, List.set_cons_succ]
    refine wpAnyH_take (i := 43) (v := ?_) rfl (by kernel_rfl) (by kernel_rfl) (by kernel_rfl) (fun _ _ _ h => h) (Or.inl ⟨by rfl, ?_⟩) (by assumption) ?_
    case refine_2 => (intro w hSw; (try dsimp only at hSw); first | (go_simp; done) | (go_simp; with_reducible rfl))
    try simp only [Act.put, List.getElem_toArray, List.getElem_cons_succ, List.getElem_cons_zero, List.setIfInBounds_toArray, List.set_cons_zero, List.set_cons_succ]
    refine wpAnyH_take (i := 44) (v := ?_) rfl (by kernel_rfl) (by kernel_rfl) (by kernel_rfl) (fun _ _ _ h => h) (Or.inl ⟨by rfl, ?_⟩) (by assumption) ?_
    case refine_2 => (intro w hSw; (try dsimp only at hSw); first | (go_simp; done) | (go_simp; with_reducible rfl))
    try simp only [Act.put, List.getElem_toArray, List.getElem_cons_succ, List.getElem_cons_zero, List.setIfInBounds_toArray, List.set_cons_zero, List.set_cons_succ]
    refine wpAnyH_take (i := 45) (v := ?_) rfl (by kernel_rfl) (by kernel_rfl) (by kernel_rfl) (fun _ _ _ h => h) (Or.inl ⟨by rfl, ?_⟩) (by assumption) ?_
    case refine_2 => (intro w hSw; (try dsimp only at hSw); first | (go_simp; done) | (go_simp; with_reducible rfl))
    try simp only [Act.put, List.getElem_toArray, List.getElem_cons_succ, List.getElem_cons_zero, List.setIfInBounds_toArray, List.set_cons_zero, List.set_cons_succ]
    refine wpAnyH_take (i := 47) (v := ?_) rfl (by kernel_rfl) (by kernel_rfl) (by kernel_rfl) (fun _ _ _ h => h) (Or.inl ⟨by rfl, ?_⟩) (by assumption) ?_
    case refine_2 => (intro w hSw; (try dsimp only at hSw); first | (go_simp; done) | (go_simp; with_reducible rfl))
    try simp only [Act.put, List.getElem_toArray, List.getElem_cons_succ, List.getElem_cons_zero, List.setIfInBounds_toArray, List.set_cons_zero, List.set_cons_succ]
    refine wpAnyH_take (i := 48) (v := ?_) rfl (by kernel_rfl) (by kernel_rfl) (by kernel_rfl) (fun _ _ _ h => h) (Or.inl ⟨by rfl, ?_⟩) (by assumption) ?_
    case refine_2 => (intro w hSw; (try dsimp only at hSw); first | (go_simp; done) | (go_simp; with_reducible rfl))
    try simp only [Act.put, List.getElem_toArray, List.getElem_cons_succ, List.getElem_cons_zero, List.setIfInBounds_toArray, List.set_cons_zero, List.set_cons_succ]
    refine wpAnyH_ready (rs := [46]) (by kernel_rfl) (by simp) ?_
    refine AllReadyH.cons rfl (fun K hK => ?_) AllReadyH.nil
    go_simp
    first | (go_at_call 39; ((with_reducible refine (rank_is (H5.out.sh.on (by repeat' (first | exact Below.refl _ _ | with_reducible assumption | omega | with_reducible refine below_put_fut ?_ ?_ _ | with_reducible refine below_to_put ?_ | with_reducible refine Below.alloc ?_ ?_ _ | with_reducible refine Below.fut ?_ ?_ _ | with_reducible refine Below.drew ?_ | with_reducible refine Below.setCell ?_ ?_ _ | with_reducible refine Below.atPut ?_ ?_ _ | (simp [go_sem]; done) | (simp [go_sem]; omega))) H5.out.sh.ge) (by rw [HM.out]; omega) k HK.out).mono ?_)); rintro _ _ ⟨rfl, u6, rfl⟩; rw [HRK.out]) | (go_at_call 40; ((with_reducible refine (sh_count (H5.out.sh.on (by repeat' (first | exact Below.refl _ _ | with_reducible assumption | omega | with_reducible refine below_put_fut ?_ ?_ _ | with_reducible refine below_to_put ?_ | with_reducible refine Below.alloc ?_ ?_ _ | with_reducible refine Below.fut ?_ ?_ _ | with_reducible refine Below.drew ?_ | with_reducible refine Below.setCell ?_ ?_ _ | with_reducible refine Below.atPut ?_ ?_ _ | (simp [go_sem]; done) | (simp [go_sem]; omega))) H5.out.sh.ge) (by rw [HM.out]; omega) ha ha2 hb hb2 na HNA.out).mono ?_)); rintro _ _ ⟨rfl, u7, rfl⟩) | (go_at_call 41; ((with_reducible refine (both_arcLen (H5.out.on (by repeat' (first | exact Below.refl _ _ | with_reducible assumption | omega | with_reducible refine below_put_fut ?_ ?_ _ | with_reducible refine below_to_put ?_ | with_reducible refine Below.alloc ?_ ?_ _ | with_reducible refine Below.fut ?_ ?_ _ | with_reducible refine Below.drew ?_ | with_reducible refine Below.setCell ?_ ?_ _ | with_reducible refine Below.atPut ?_ ?_ _ | (simp [go_sem]; done) | (simp [go_sem]; omega)))) (by rw [HM.out]; omega) HSM.out a b ha ha2 hb hb2 na HNA.out).mono ?_)); rintro _ _ ⟨ao8, c8, u8, rfl, rfl⟩)
    refine hK.out _ _ (by exact HCE.out _ (by repeat' (first | exact Below.refl _ _ | with_reducible assumption | omega | with_reducible refine below_put_fut ?_ ?_ _ | with_reducible refine below_to_put ?_ | with_reducible refine Below.alloc ?_ ?_ _ | with_reducible refine Below.fut ?_ ?_ _ | with_reducible refine Below.drew ?_ | with_reducible refine Below.setCell ?_ ?_ _ | with_reducible refine Below.atPut ?_ ?_ _ | (simp [go_sem]; done) | (simp [go_sem]; omega)))) (fun hHeld => ?_)
    clear hK K
    try simp only [Act.put, List.getElem_toArray, List.getElem_cons_succ, List.getElem_cons_zero, List.setIfInBounds_toArray, List.set_cons_zero, List.set_cons_succ]
    refine wpAnyH_ready (rs := [49]) (by kernel_rfl) (by simp) ?_
    refine AllReadyH.cons rfl (fun K hK => ?_) AllReadyH.nil
    go_simp
    first | (go_at_call 39; ((with_reducible refine (rank_is (H5.out.sh.on (by repeat' (first | exact Below.refl _ _ | with_reducible assumption | omega | with_reducible refine below_put_fut ?_ ?_ _ | with_reducible refine below_to_put ?_ | with_reducible refine Below.alloc ?_ ?_ _ | with_reducible refine Below.fut ?_ ?_ _ | with_reducible refine Below.drew ?_ | with_reducible refine Below.setCell ?_ ?_ _ | with_reducible refine Below.atPut ?_ ?_ _ | (simp [go_sem]; done) | (simp [go_sem]; omega))) H5.out.sh.ge) (by rw [HM.out]; omega) k HK.out).mono ?_)); rintro _ _ ⟨rfl, u6, rfl⟩; rw [HRK.out]) | (go_at_call 40; ((with_reducible refine (sh_count (H5.out.sh.on (by repeat' (first | exact Below.refl _ _ | with_reducible assumption | omega | with_reducible refine below_put_fut ?_ ?_ _ | with_reducible refine below_to_put ?_ | with_reducible refine Below.alloc ?_ ?_ _ | with_reducible refine Below.fut ?_ ?_ _ | with_reducible refine Below.drew ?_ | with_reducible refine Below.setCell ?_ ?_ _ | with_reducible refine Below.atPut ?_ ?_ _ | (simp [go_sem]; done) | (simp [go_sem]; omega))) H5.out.sh.ge) (by rw [HM.out]; omega) ha ha2 hb hb2 na HNA.out).mono ?_)); rintro _ _ ⟨rfl, u7, rfl⟩) | (go_at_call 41; ((with_reducible refine (both_arcLen (H5.out.on (by repeat' (first | exact Below.refl _ _ | with_reducible assumption | omega | with_reducible refine below_put_fut ?_ ?_ _ | with_reducible refine below_to_put ?_ | with_reducible refine Below.alloc ?_ ?_ _ | with_reducible refine Below.fut ?_ ?_ _ | with_reducible refine Below.drew ?_ | with_reducible refine Below.setCell ?_ ?_ _ | with_reducible refine Below.atPut ?_ ?_ _ | (simp [go_sem]; done) | (simp [go_sem]; omega)))) (by rw [HM.out]; omega) HSM.out a b ha ha2 hb hb2 na HNA.out).mono ?_)); rintro _ _ ⟨ao8, c8, u8, rfl, rfl⟩)
    refine hK.out _ _ (by exact HCE.out _ (by repeat' (first | exact Below.refl _ _ | with_reducible assumption | omega | with_reducible refine below_put_fut ?_ ?_ _ | with_reducible refine below_to_put ?_ | with_reducible refine Below.alloc ?_ ?_ _ | with_reducible refine Below.fut ?_ ?_ _ | with_reducible refine Below.drew ?_ | with_reducible refine Below.setCell ?_ ?_ _ | with_reducible refine Below.atPut ?_ ?_ _ | (simp [go_sem]; done) | (simp [go_sem]; omega)))) (fun hHeld => ?_)
    clear hK K
    try simp only [Act.put, List.getElem_toArray, List.getElem_cons_succ, List.getElem_cons_zero, List.setIfInBounds_toArray, List.set_cons_zero, List.set_cons_succ]
    refine wpAnyH_take (i := 50) (v := ?_) rfl (by kernel_rfl) (by kernel_rfl) (by kernel_rfl) (fun _ _ _ h => h) (Or.inl ⟨by rfl, ?_⟩) (by assumption) ?_
    case refine_2 => (intro w hSw; (try dsimp only at hSw); first | (go_simp; done) | (go_simp; with_reducible rfl))
    try simp only [Act.put, List.getElem_toArray, List.getElem_cons_succ, List.getElem_cons_zero, List.setIfInBounds_toArray, List.set_cons_zero, List.set_cons_succ]
    refine wpAnyH_take (i := 51) (v := ?_) rfl (by kernel_rfl) (by kernel_rfl) (by kernel_rfl) (fun _ _ _ h => h) (Or.inl ⟨by rfl, ?_⟩) (by assumption) ?_
    case refine_2 => (intro w hSw; (try dsimp only at hSw); first | (go_simp; done) | (go_simp; with_reducible rfl))
    try simp only [Act.put, List.getElem_toArray, List.getElem_cons_succ, List.getElem_cons_zero, List.setIfInBounds_toArray, List.set_cons_zero, List.set_cons_succ]
    refine wpAnyH_take (i := 52) (v := ?_) rfl (by kernel_rfl) (by kernel_rfl) (by kernel_rfl) (fun _ _ _ h => h) (Or.inl ⟨by rfl, ?_⟩) (by assumption) ?_
    case refine_2 => (intro w hSw; (try dsimp only at hSw); first | (go_simp; done) | (go_simp; with_reducible rfl))
    try simp only [Act.put, List.getElem_toArray, List.getElem_cons_succ, List.getElem_cons_zero, List.setIfInBounds_toArray, List.set_cons_zero, List.set_cons_succ]
    refine wpAnyH_take (i := 53) (v := ?_) rfl (by kernel_rfl) (by kernel_rfl) (by kernel_rfl) (fun _ _ _ h => h) (Or.inl ⟨by rfl, ?_⟩) (by assumption) ?_
    case refine_2 => (intro w hSw; (try dsimp only at hSw); first | (go_simp; done) | (go_simp; with_reducible rfl))
    try simp only [Act.put, List.getElem_toArray, List.getElem_cons_succ, List.getElem_cons_zero, List.setIfInBounds_toArray, List.set_cons_zero, List.set_cons_succ]
    refine wpAnyH_take (i := 54) (v := ?_) rfl (by kernel_rfl) (by kernel_rfl) (by kernel_rfl) (fun _ _ _ h => h) (Or.inl ⟨by rfl, ?_⟩) (by assumption) ?_
    case refine_2 => (intro w hSw; (try dsimp only at hSw); first | (go_simp; done) | (go_simp; with_reducible rfl))
    try simp only [Act.put, List.getElem_toArray, List.getElem_cons_succ, List.getElem_cons_zero, List.setIfInBounds_toArray, List.set_cons_zero, List.set_cons_succ]
    refine wpAnyH_take (i := 55) (v := ?_) rfl (by kernel_rfl) (by kernel_rfl) (by kernel_rfl) (fun _ _ _ h => h) (Or.inl ⟨by rfl, ?_⟩) (by assumption) ?_
    case refine_2 => (intro w hSw; (try dsimp only at hSw); first | (go_simp; done) | (go_simp; with_reducible rfl))
    try simp only [Act.put, List.getElem_toArray, List.getElem_cons_succ, List.getElem_cons_zero, List.setIfInBounds_toArray, List.set_cons_zero, List.set_cons_succ]
    refine wpAnyH_take (i := 56) (v := ?_) rfl (by kernel_rfl) (by kernel_rfl) (by kernel_rfl) (fun _ _ _ h => h) (Or.inl ⟨by rfl, ?_⟩) (by assumption) ?_
    case refine_2 => (intro w hSw; (try dsimp only at hSw); first | (go_simp; done) | (go_simp; with_reducible rfl))
    try simp only [Act.put, List.getElem_toArray, List.getElem_cons_succ, List.getElem_cons_zero, List.setIfInBounds_toArray, List.set_cons_zero, List.set_cons_succ]
    refine wpAnyH_take (i := 57) (v := ?_) rfl (by kernel_rfl) (by kernel_rfl) (by kernel_rfl) (fun _ _ _ h => h) (Or.inl ⟨by rfl, ?_⟩) (by assumption) ?_
    case refine_2 => (intro w hSw; (try dsimp only at hSw); first | (go_simp; done) | (go_simp; with_reducible rfl))
    try simp only [Act.put, List.getElem_toArray, List.getElem_cons_succ, List.getElem_cons_zero, List.setIfInBounds_toArray, List.set_cons_zero, List.set_cons_succ]
    refine wpAnyH_take (i := 58) (v := ?_) rfl (by kernel_rfl) (by kernel_rfl) (by kernel_rfl) (fun _ _ _ h => h) (Or.inl ⟨by rfl, ?_⟩) (by assumption) ?_
    case refine_2 => (intro w hSw; (try dsimp only at hSw); first | (go_simp; done) | (go_simp; with_reducible rfl))
    try simp only [Act.put, List.getElem_toArray, List.getElem_cons_succ, List.getElem_cons_zero, List.setIfInBounds_toArray, List.set_cons_zero, List.set_cons_succ]
    refine wpAnyH_take (i := 59) (v := ?_) rfl (by kernel_rfl) (by kernel_rfl) (by kernel_rfl) (fun _ _ _ h => h) (Or.inl ⟨by rfl, ?_⟩) (by assumption) ?_
    case refine_2 => (intro w hSw; (try dsimp only at hSw); first | (go_simp; done) | (go_simp; with_reducible rfl))
    try simp only [Act.put, List.getElem_toArray, List.getElem_cons_succ, List.getElem_cons_zero, List.setIfInBounds_toArray, List.set_cons_zero, List.set_cons_succ]
    refine wpAnyH_take (i := 60) (v := ?_) rfl (by kernel_rfl) (by kernel_rfl) (by kernel_rfl) (fun _ _ _ h => h) (Or.inl ⟨by rfl, ?_⟩) (by assumption) ?_
    case refine_2 => (intro w hSw; (try dsimp only at hSw); first | (go_simp; done) | (go_simp; with_reducible rfl))
    try simp only [Act.put, List.getElem_toArray, List.getElem_cons_succ, List.getElem_cons_zero, List.setIfInBounds_toArray, List.set_cons_zero, List.set_cons_succ]
    refine wpAnyH_take (i := 61) (v := ?_) rfl (by kernel_rfl) (by kernel_rfl) (by kernel_rfl) (fun _ _ _ h => h) (Or.inl ⟨by rfl, ?_⟩) (by assumption) ?_
    case refine_2 => (intro w hSw; (try dsimp only at hSw); first | (go_simp; done) | (go_simp; with_reducible rfl))
    try simp only [Act.put, List.getElem_toArray, List.getElem_cons_succ, List.getElem_cons_zero, List.setIfInBounds_toArray, List.set_cons_zero, List.set_cons_succ]
    refine wpAnyH_take (i := 62) (v := ?_) rfl (by kernel_rfl) (by kernel_rfl) (by kernel_rfl) (fun _ _ _ h => h) (Or.inl ⟨by rfl, ?_⟩) (by assumption) ?_
    case refine_2 => (intro w hSw; (try dsimp only at hSw); first | (go_simp; done) | (go_simp; with_reducible rfl))
    try simp only [Act.put, List.getElem_toArray, List.getElem_cons_succ, List.getElem_cons_zero, List.setIfInBounds_toArray, List.set_cons_zero, List.set_cons_succ]
    refine wpAnyH_done (by kernel_rfl) ?_ _
    refine NoPanic.normal ?_
    have H8 := hid (H5.out.on (show Below W5.heap.size W5 u8.val from (by repeat' (first | exact Below.refl _ _ | with_reducible assumption | omega | with_reducible refine below_put_fut ?_ ?_ _ | with_reducible refine below_to_put ?_ | with_reducible refine Below.alloc ?_ ?_ _ | with_reducible refine Below.fut ?_ ?_ _ | with_reducible refine Below.drew ?_ | with_reducible refine Below.setCell ?_ ?_ _ | with_reducible refine Below.atPut ?_ ?_ _ | (simp [go_sem]; done) | (simp [go_sem]; omega)))))
    have hc8 : u8.val.heap[w.heap.size]? = some (.cells #[.int .u64 a, .int .u64 b] 38) := ((show Below W5.heap.size W5 u8.val from (by repeat' (first | exact Below.refl _ _ | with_reducible assumption | omega | with_reducible refine below_put_fut ?_ ?_ _ | with_reducible refine below_to_put ?_ | with_reducible refine Below.alloc ?_ ?_ _ | with_reducible refine Below.fut ?_ ?_ _ | with_reducible refine Below.drew ?_ | with_reducible refine Below.setCell ?_ ?_ _ | with_reducible refine Below.atPut ?_ ?_ _ | (simp [go_sem]; done) | (simp [go_sem]; omega)))).block _ l7).trans HC5.out
    generalize u8.val = W8 at H8 hc8 ⊢
    have l8 := lt_of_heap hc8
    have e8 := fun i => cell_of_row W8 w.heap.size i _ _ (0, 0) hc8
    have HCE8 := hid (fun (Y : World) (hY : Below W8.heap.size W8 Y) => show Y.cell? ⟨w.heap.size, 0, none⟩ = some (.int .u64 a) ∧ Y.cell? ⟨w.heap.size, 1, none⟩ = some (.int .u64 b) from ⟨(hY.cell l8).trans (e8 0), (hY.cell l8).trans (e8 1)⟩)
    clear hc8 hHeld HCE
    go_wp2_with fail
    (((with_reducible refine (at_nil _).mono ?_)); rintro _ _ ⟨rfl, u9, rfl⟩)
    go_wp2_with fail
    (((with_reducible refine (middle_nil _ a b hb).mono ?_)); rintro _ _ ⟨rfl, u10, rfl⟩)
    go_wp2_with fail
    have hbw := H8.out.1
    have hzw := H8.out.2.1
    first | (go_region_held3 (fun Y => Y.cell? ⟨w.heap.size, 0, none⟩ = some (.int .u64 a) ∧ Y.cell? ⟨w.heap.size, 1, none⟩ = some (.int .u64 b)) ((refine HCE8.out _ ?_; ((repeat' (first | exact Below.refl _ _ | with_reducible assumption | omega | with_reducible refine below_put_fut ?_ ?_ _ | with_reducible refine below_to_put ?_ | with_reducible refine Below.alloc ?_ ?_ _ | with_reducible refine Below.fut ?_ ?_ _ | with_reducible refine Below.drew ?_ | with_reducible refine Below.setCell ?_ ?_ _ | with_reducible refine Below.atPut ?_ ?_ _ | (simp [go_sem]; done) | (simp [go_sem]; omega))); done))) (first | (go_at_call 39; ((with_reducible refine (rank_nil _ k HK.out).mono ?_)); rintro _ _ ⟨rfl, u11, rfl⟩) | (go_at_call 40; ((with_reducible refine (count_nil _ a b hb).mono ?_)); rintro _ _ ⟨rfl, u12, rfl⟩))) | fail "held3"
    all_goals
      go_wp2_with fail
      go_ret
      exact .mk rfl (hbw.trans (Below.mono (show Below W8.heap.size W8 _ from (by repeat' (first | exact Below.refl _ _ | with_reducible assumption | omega | with_reducible refine below_put_fut ?_ ?_ _ | with_reducible refine below_to_put ?_ | with_reducible refine Below.alloc ?_ ?_ _ | with_reducible refine Below.fut ?_ ?_ _ | with_reducible refine Below.drew ?_ | with_reducible refine Below.setCell ?_ ?_ _ | with_reducible refine Below.atPut ?_ ?_ _ | (simp [go_sem]; done) | (simp [go_sem]; omega)))) hzw))
  · rcases Int.lt_or_le i m with c2 | c2
    · obtain ⟨j, rfl⟩ := Int.eq_ofNat_of_zero_le c
      obtain ⟨x, hx⟩ : ∃ x, xs[j]? = some x := ⟨xs[j]'(by rw [HM.out]; omega), List.getElem?_eq_getElem _⟩
      obtain ⟨s1, t1⟩ := x
      have HX := hid hx
      clear hx
      (((with_reducible refine (walkAt_some H1.out.sh (by rw [HM.out]; omega) j (s1, t1) HX.out).mono ?_)); rintro _ _ ⟨rfl, u2, rfl⟩)
      have H2 := hid (H1.out.on u2.below)
      have HC2 := hid ((u2.below.block _ (lt_of_heap HC.out)).trans HC.out)
      generalize u2.val = W2 at H2 HC2 ⊢
      clear H1 HC
      go_wp2_with fail
      (((with_reducible refine (both_at (H2.out.on (W' := W2.alloc (.cells #[.string s1, .string t1] 34)) (by repeat' (first | exact Below.refl _ _ | with_reducible assumption | omega | with_reducible refine below_put_fut ?_ ?_ _ | with_reducible refine below_to_put ?_ | with_reducible refine Below.alloc ?_ ?_ _ | with_reducible refine Below.fut ?_ ?_ _ | with_reducible refine Below.drew ?_ | with_reducible refine Below.setCell ?_ ?_ _ | with_reducible refine Below.atPut ?_ ?_ _ | (simp [go_sem]; done) | (simp [go_sem]; omega)))) (by rw [HM.out]; omega) k p is HP.out).mono ?_)); rintro _ _ ⟨rfl, u3, rfl⟩)
      have hb3 : Below W2.heap.size W2 u3.val := (by repeat' (first | exact Below.refl _ _ | with_reducible assumption | omega | with_reducible refine below_put_fut ?_ ?_ _ | with_reducible refine below_to_put ?_ | with_reducible refine Below.alloc ?_ ?_ _ | with_reducible refine Below.fut ?_ ?_ _ | with_reducible refine Below.drew ?_ | with_reducible refine Below.setCell ?_ ?_ _ | with_reducible refine Below.atPut ?_ ?_ _ | (simp [go_sem]; done) | (simp [go_sem]; omega)))
      have H3 := hid (H2.out.on hb3)
      have hc3 : u3.val.heap[w.heap.size]? = _ := (hb3.block _ (lt_of_heap HC2.out)).trans HC2.out
      have hx3 : u3.val.heap[W2.heap.size]? = some (.cells #[.string s1, .string t1] 34) := (u3.below.block _ (by simp)).trans (heap_alloc_at _ _ _ rfl)
      generalize u3.val = W3 at H3 hc3 hx3 ⊢
      generalize W2.heap.size = B11 at hx3 ⊢
      have e3 := fun i => cell_of_row W3 w.heap.size i _ _ (0, 0) hc3
      have l3 := lt_of_heap hc3
      have HC3 := hid hc3
      have HX3 := hid hx3
      clear H2 HC2 hb3 hc3 hx3
      go_wp2_with fail
      (((with_reducible refine (sh_middle H3.out.sh (by rw [HM.out]; omega) ha ha2 hb hb2 md mi HMD.out HMI.out).mono ?_)); rintro _ _ ⟨rfl, u4, rfl⟩)
      have H4 := hid (H3.out.on u4.below)
      have hc4 := (u4.below.block _ (lt_of_heap HC3.out)).trans HC3.out
      have hx4 := (u4.below.block _ (lt_of_heap HX3.out)).trans HX3.out
      generalize u4.val = W4 at H4 hc4 hx4 ⊢
      clear e3 l3
      have e4 := fun i => cell_of_row W4 w.heap.size i _ _ (0, 0) hc4
      have l4 := lt_of_heap hc4
      have HC4 := hid hc4
      have HX4 := hid hx4
      clear H3 HC3 HX3 hc4 hx4
      go_wp2_with fail
      (((with_reducible refine (both_middle H4.out (by rw [HM.out]; omega) HSM.out a b ha ha2 hb hb2 md mi HMD.out HMI.out).mono ?_)); rintro _ _ ⟨rfl, u5, rfl⟩)
      have H5 := hid (H4.out.on u5.below)
      have hc5 := (u5.below.block _ (lt_of_heap HC4.out)).trans HC4.out
      have hx5 := (u5.below.block _ (lt_of_heap HX4.out)).trans HX4.out
      generalize u5.val = W5 at H5 hc5 hx5 ⊢
      clear e4 l4 H4 HC4 HX4
      go_wp2_with fail
      obtain ⟨rv, hgr, hsr⟩ := H5.out.ref
      rw [HM.out] at hsr
      obtain ⟨ra, rc, rfl⟩ := hsr.slice_of
      have eg := fun i => cell_of_row W5 gr i _ _ (0, 0) hgr
      have lg := lt_of_heap hgr
      have e7 := fun i => cell_of_row W5 w.heap.size i _ _ (0, 0) hc5
      have l7 := lt_of_heap hc5
      have ex := fun i => cell_of_row W5 B11 i _ _ (0, 0) hx5
      have lx := lt_of_heap hx5
      obtain ⟨na, hna⟩ : ∃ na, (arcL a b xs).length = na := ⟨_, rfl⟩
      have HNA := hid hna
      obtain ⟨b1, o1, rfl, p1, p2, p3⟩ := (show Src W5 2 (.slice ra xs.length rc) xs.length (flat xs) by rw [HM.out]; exact hsr).at_ j (s1, t1) HX.out
      have l1 : b1 < W5.heap.size := World.block_lt_of_cell? _ _ p1
      have d0 : decide ((0 : Int) ≤ (j : Int)) = true := by simp
      have hjm : j < m := by omega
      have hjmI : (j : Int) < (m : Int) := by omega
      have HC5 := hid hc5
      have HCE := hid (fun (Y : World) (hY : Below W5.heap.size W5 Y) => show Y.cell? ⟨gr, 1, none⟩ = some (.slice (some ⟨b1, o1, none⟩) m rc) ∧ Y.cell? ⟨b1, o1 + j * 2, none⟩ = some (.string s1) ∧ Y.cell? ⟨b1, o1 + (j * 2 + 1), none⟩ = some (.string t1) ∧ Y.cell? ⟨b1, o1 + j * 2 + 1, none⟩ = some (.string t1) ∧ Y.cell? ⟨B11, 0, none⟩ = some (.string s1) ∧ Y.cell? ⟨B11, 1, none⟩ = some (.string t1) ∧ Y.cell? ⟨w.heap.size, 0, none⟩ = some (.int .u64 a) ∧ Y.cell? ⟨w.heap.size, 1, none⟩ = some (.int .u64 b) from
        ⟨(hY.cell lg).trans (eg 1), (hY.cell l1).trans p1, (hY.cell l1).trans p2, (hY.cell l1).trans p3, (hY.cell lx).trans (ex 0), (hY.cell lx).trans (ex 1), (hY.cell l7).trans (e7 0), (hY.cell l7).trans (e7 1)⟩)
      clear hsr hgr hc5 hx5 hna c c2 eg ex e7 p1 p2 p3
      refine wp_region_noPanic ?_
      refine wp_region_held_drew (S := (fun Y => Y.cell? ⟨gr, 1, none⟩ = some (.slice (some ⟨b1, o1, none⟩) m rc) ∧ Y.cell? ⟨b1, o1 + j * 2, none⟩ = some (.string s1) ∧ Y.cell? ⟨b1, o1 + (j * 2 + 1), none⟩ = some (.string t1) ∧ Y.cell? ⟨b1, o1 + j * 2 + 1, none⟩ = some (.string t1) ∧ Y.cell? ⟨B11, 0, none⟩ = some (.string s1) ∧ Y.cell? ⟨B11, 1, none⟩ = some (.string t1) ∧ Y.cell? ⟨w.heap.size, 0, none⟩ = some (.int .u64 a) ∧ Y.cell? ⟨w.heap.size, 1, none⟩ = some (.int .u64 b))) (by kernel_rfl) (by exact HCE.out _ (by repeat' (first | exact Below.refl _ _ | with_reducible assumption | omega | with_reducible refine below_put_fut ?_ ?_ _ | with_reducible refine below_to_put ?_ | with_reducible refine Below.alloc ?_ ?_ _ | with_reducible refine Below.fut ?_ ?_ _ | with_reducible refine Below.drew ?_ | with_reducible refine Below.setCell ?_ ?_ _ | with_reducible refine Below.atPut ?_ ?_ _ | (simp [go_sem]; done) | (simp [go_sem]; omega)))) (fun hHeld => ?_)
      refine wpAnyH_take (i := 0) (v := ?_) rfl (by kernel_rfl) (by kernel_rfl) (by kernel_rfl) (fun _ _ _ h => h) (Or.inl ⟨by rfl, ?_⟩) (by assumption) ?_
      case refine_2 => (intro w hSw; (try dsimp only at hSw); first | (go_simp; done) | (go_simp; with_reducible rfl))
      try simp only [Act.put, List.getElem_toArray, List.getElem_cons_succ, List.getElem_cons_zero, List.setIfInBounds_toArray, List.set_cons_zero, List.set_cons_succ]
      refine wpAnyH_take (i := 1) (v := ?_) rfl (by kernel_rfl) (by kernel_rfl) (by kernel_rfl) (fun _ _ _ h => h) (Or.inl ⟨by rfl, ?_⟩) (by assumption) ?_
      case refine_2 => (intro w hSw; (try dsimp only at hSw); first | (go_simp; done) | (go_simp; with_reducible rfl))
      try simp only [Act.put, List.getElem_toArray, List.getElem_cons_succ, List.getElem_cons_zero, List.setIfInBounds_toArray, List.set_cons_zero, List.set_cons_succ]
      refine wpAnyH_take (i := 3) (v := ?_) rfl (by kernel_rfl) (by kernel_rfl) (by kernel_rfl) (fun _ _ _ h => h) (Or.inl ⟨by rfl, ?_⟩) (by assumption) ?_
      case refine_2 => (intro w hSw; (try dsimp only at hSw); first | (go_simp; done) | (go_simp; with_reducible rfl))
      try simp only [Act.put, List.getElem_toArray, List.getElem_cons_succ, List.getElem_cons_zero, List.setIfInBounds_toArray, List.set_cons_zero, List.set_cons_succ]
      refine wpAnyH_ready (rs := [2]) (by kernel_rfl) (by simp) ?_
      refine AllReadyH.cons rfl (fun K hK => ?_) AllReadyH.nil
      go_simp
      first | (go_at_call 39; ((with_reducible refine (rank_is (H5.out.sh.on (by repeat' (first | exact Below.refl _ _ | with_reducible assumption | omega | with_reducible refine below_put_fut ?_ ?_ _ | with_reducible refine below_to_put ?_ | with_reducible refine Below.alloc ?_ ?_ _ | with_reducible refine Below.fut ?_ ?_ _ | with_reducible refine Below.drew ?_ | with_reducible refine Below.setCell ?_ ?_ _ | with_reducible refine Below.atPut ?_ ?_ _ | (simp [go_sem]; done) | (simp [go_sem]; omega))) H5.out.sh.ge) (by rw [HM.out]; omega) k HK.out).mono ?_)); rintro _ _ ⟨rfl, u6, rfl⟩; rw [HRK.out]) | (go_at_call 40; ((with_reducible refine (sh_count (H5.out.sh.on (by repeat' (first | exact Below.refl _ _ | with_reducible assumption | omega | with_reducible refine below_put_fut ?_ ?_ _ | with_reducible refine below_to_put ?_ | with_reducible refine Below.alloc ?_ ?_ _ | with_reducible refine Below.fut ?_ ?_ _ | with_reducible refine Below.drew ?_ | with_reducible refine Below.setCell ?_ ?_ _ | with_reducible refine Below.atPut ?_ ?_ _ | (simp [go_sem]; done) | (simp [go_sem]; omega))) H5.out.sh.ge) (by rw [HM.out]; omega) ha ha2 hb hb2 na HNA.out).mono ?_)); rintro _ _ ⟨rfl, u7, rfl⟩) | (go_at_call 41; ((with_reducible refine (both_arcLen (H5.out.on (by repeat' (first | exact Below.refl _ _ | with_reducible assumption | omega | with_reducible refine below_put_fut ?_ ?_ _ | with_reducible refine below_to_put ?_ | with_reducible refine Below.alloc ?_ ?_ _ | with_reducible refine Below.fut ?_ ?_ _ | with_reducible refine Below.drew ?_ | with_reducible refine Below.setCell ?_ ?_ _ | with_reducible refine Below.atPut ?_ ?_ _ | (simp [go_sem]; done) | (simp [go_sem]; omega)))) (by rw [HM.out]; omega) HSM.out a b ha ha2 hb hb2 na HNA.out).mono ?_)); rintro _ _ ⟨ao8, c8, u8, rfl, rfl⟩)
      refine hK.out _ _ (by exact HCE.out _ (by repeat' (first | exact Below.refl _ _ | with_reducible assumption | omega | with_reducible refine below_put_fut ?_ ?_ _ | with_reducible refine below_to_put ?_ | with_reducible refine Below.alloc ?_ ?_ _ | with_reducible refine Below.fut ?_ ?_ _ | with_reducible refine Below.drew ?_ | with_reducible refine Below.setCell ?_ ?_ _ | with_reducible refine Below.atPut ?_ ?_ _ | (simp [go_sem]; done) | (simp [go_sem]; omega)))) (fun hHeld => ?_)
      clear hK K
      try simp only [Act.put, List.getElem_toArray, List.getElem_cons_succ, List.getElem_cons_zero, List.setIfInBounds_toArray, List.set_cons_zero, List.set_cons_succ]
      refine wpAnyH_take (i := 4) (v := ?_) rfl (by kernel_rfl) (by kernel_rfl) (by kernel_rfl) (fun _ _ _ h => h) (Or.inl ⟨by rfl, ?_⟩) (by assumption) ?_
      case refine_2 => (intro w hSw; (try dsimp only at hSw); first | (go_simp; done) | (go_simp; with_reducible rfl))
      try simp only [Act.put, List.getElem_toArray, List.getElem_cons_succ, List.getElem_cons_zero, List.setIfInBounds_toArray, List.set_cons_zero, List.set_cons_succ]
      refine wpAnyH_take (i := 5) (v := ?_) rfl (by kernel_rfl) (by kernel_rfl) (by kernel_rfl) (fun _ _ _ h => h) (Or.inl ⟨by rfl, ?_⟩) (by assumption) ?_
      case refine_2 => (intro w hSw; (try dsimp only at hSw); first | (go_simp; done) | (go_simp; with_reducible rfl))
      try simp only [Act.put, List.getElem_toArray, List.getElem_cons_succ, List.getElem_cons_zero, List.setIfInBounds_toArray, List.set_cons_zero, List.set_cons_succ]
      refine wpAnyH_take (i := 6) (v := ?_) rfl (by kernel_rfl) (by kernel_rfl) (by kernel_rfl) (fun _ _ _ h => h) (Or.inl ⟨by rfl, ?_⟩) (by assumption) ?_
      case refine_2 => (intro w hSw; (try dsimp only at hSw); first | (go_simp; done) | (go_simp; with_reducible rfl))
      try simp only [Act.put, List.getElem_toArray, List.getElem_cons_succ, List.getElem_cons_zero, List.setIfInBounds_toArray, List.set_cons_zero, List.set_cons_succ]
      refine wpAnyH_take (i := 7) (v := ?_) rfl (by kernel_rfl) (by kernel_rfl) (by kernel_rfl) (fun _ _ _ h => h) (Or.inl ⟨by rfl, ?_⟩) (by assumption) ?_
      case refine_2 => (intro w hSw; (try dsimp only at hSw); first | (go_simp; done) | (go_simp; with_reducible rfl))
      try simp only [Act.put, List.getElem_toArray, List.getElem_cons_succ, List.getElem_cons_zero, List.setIfInBounds_toArray, List.set_cons_zero, List.set_cons_succ]
      refine wpAnyH_take (i := 8) (v := ?_) rfl (by kernel_rfl) (by kernel_rfl) (by kernel_rfl) (fun _ _ _ h => h) (Or.inl ⟨by rfl, ?_⟩) (by assumption) ?_
      case refine_2 => (intro w hSw; (try dsimp only at hSw); first | (go_simp; done) | (go_simp; with_reducible rfl))
      try simp only [Act.put, List.getElem_toArray, List.getElem_cons_succ, List.getElem_cons_zero, List.setIfInBounds_toArray, List.set_cons_zero, List.set_cons_succ]
      refine wpAnyH_take (i := 9) (v := ?_) rfl (by kernel_rfl) (by kernel_rfl) (by kernel_rfl) (fun _ _ _ h => h) (Or.inl ⟨by rfl, ?_⟩) (by assumption) ?_
      case refine_2 => (intro w hSw; (try dsimp only at hSw); first | (go_simp; done) | (go_simp; with_reducible rfl))
      try simp only [Act.put, List.getElem_toArray, List.getElem_cons_succ, List.getElem_cons_zero, List.setIfInBounds_toArray, List.set_cons_zero, List.set_cons_succ]
      refine wpAnyH_take (i := 10) (v := ?_) rfl (by kernel_rfl) (by kernel_rfl) (by kernel_rfl) (fun _ _ _ h => h) (Or.inl ⟨by rfl, ?_⟩) (by assumption) ?_
      case refine_2 => (intro w hSw; (try dsimp only at hSw); first | (go_simp; done) | (go_simp; with_reducible rfl))
      try simp only [Act.put, List.getElem_toArray, List.getElem_cons_succ, List.getElem_cons_zero, List.setIfInBounds_toArray, List.set_cons_zero, List.set_cons_succ]
      refine wpAnyH_take (i := 11) (v := ?_) rfl (by kernel_rfl) (by kernel_rfl) (by kernel_rfl) (fun _ _ _ h => h) (Or.inl ⟨by rfl, ?_⟩) (by assumption) ?_
      case refine_2 => (intro w hSw; (try dsimp only at hSw); first | (go_simp; done) | (go_simp; with_reducible rfl))
      try simp only [Act.put, List.getElem_toArray, List.getElem_cons_succ, List.getElem_cons_zero, List.setIfInBounds_toArray, List.set_cons_zero, List.set_cons_succ]
      refine wpAnyH_take (i := 12) (v := ?_) rfl (by kernel_rfl) (by kernel_rfl) (by kernel_rfl) (fun _ _ _ h => h) (Or.inl ⟨by rfl, ?_⟩) (by assumption) ?_
      case refine_2 => (intro w hSw; (try dsimp only at hSw); first | (go_simp; done) | (go_simp; with_reducible rfl))
      try simp only [Act.put, List.getElem_toArray, List.getElem_cons_succ, List.getElem_cons_zero, List.setIfInBounds_toArray, List.set_cons_zero, List.set_cons_succ]
      refine wpAnyH_take (i := 13) (v := ?_) rfl (by kernel_rfl) (by kernel_rfl) (by kernel_rfl) (fun _ _ _ h => h) (Or.inl ⟨by rfl, ?_⟩) (by assumption) ?_
      case refine_2 => (intro w hSw; (try dsimp only at hSw); first | (go_simp; done) | (go_simp; with_reducible rfl))
      try simp only [Act.put, List.getElem_toArray, List.getElem_cons_succ, List.getElem_cons_zero, List.setIfInBounds_toArray, List.set_cons_zero, List.set_cons_succ]
      refine wpAnyH_take (i := 14) (v := ?_) rfl (by kernel_rfl) (by kernel_rfl) (by kernel_rfl) (fun _ _ _ h => h) (Or.inl ⟨by rfl, ?_⟩) (by assumption) ?_
      case refine_2 => (intro w hSw; (try dsimp only at hSw); first | (go_simp; done) | (go_simp; with_reducible rfl))
      try simp only [Act.put, List.getElem_toArray, List.getElem_cons_succ, List.getElem_cons_zero, List.setIfInBounds_toArray, List.set_cons_zero, List.set_cons_succ]
      refine wpAnyH_take (i := 15) (v := ?_) rfl (by kernel_rfl) (by kernel_rfl) (by kernel_rfl) (fun _ _ _ h => h) (Or.inl ⟨by rfl, ?_⟩) (by assumption) ?_
      case refine_2 => (intro w hSw; (try dsimp only at hSw); first | (go_simp; done) | (go_simp; with_reducible rfl))
      try simp only [Act.put, List.getElem_toArray, List.getElem_cons_succ, List.getElem_cons_zero, List.setIfInBounds_toArray, List.set_cons_zero, List.set_cons_succ]
      refine wpAnyH_take (i := 16) (v := ?_) rfl (by kernel_rfl) (by kernel_rfl) (by kernel_rfl) (fun _ _ _ h => h) (Or.inl ⟨by rfl, ?_⟩) (by assumption) ?_
      case refine_2 => (intro w hSw; (try dsimp only at hSw); first | (go_simp; done) | (go_simp; with_reducible rfl))
      try simp only [Act.put, List.getElem_toArray, List.getElem_cons_succ, List.getElem_cons_zero, List.setIfInBounds_toArray, List.set_cons_zero, List.set_cons_succ]
      refine wpAnyH_take (i := 17) (v := ?_) rfl (by kernel_rfl) (by kernel_rfl) (by kernel_rfl) (fun _ _ _ h => h) (Or.inl ⟨by rfl, ?_⟩) (by assumption) ?_
      case refine_2 => (intro w hSw; (try dsimp only at hSw); first | (go_simp; done) | (go_simp; with_reducible rfl))
      try simp only [Act.put, List.getElem_toArray, List.getElem_cons_succ, List.getElem_cons_zero, List.setIfInBounds_toArray, List.set_cons_zero, List.set_cons_succ]
      refine wpAnyH_take (i := 18) (v := ?_) rfl (by kernel_rfl) (by kernel_rfl) (by kernel_rfl) (fun _ _ _ h => h) (Or.inl ⟨by rfl, ?_⟩) (by assumption) ?_
      case refine_2 => (intro w hSw; (try dsimp only at hSw); first | (go_simp; done) | (go_simp; with_reducible rfl))
      try simp only [Act.put, List.getElem_toArray, List.getElem_cons_succ, List.getElem_cons_zero, List.setIfInBounds_toArray, List.set_cons_zero, List.set_cons_succ]
      refine wpAnyH_take (i := 19) (v := ?_) rfl (by kernel_rfl) (by kernel_rfl) (by kernel_rfl) (fun _ _ _ h => h) (Or.inl ⟨by rfl, ?_⟩) (by assumption) ?_
      case refine_2 => (intro w hSw; (try dsimp only at hSw); first | (go_simp; done) | (go_simp; with_reducible rfl))
      try simp only [Act.put, List.getElem_toArray, List.getElem_cons_succ, List.getElem_cons_zero, List.setIfInBounds_toArray, List.set_cons_zero, List.set_cons_succ]
      refine wpAnyH_take (i := 20) (v := ?_) rfl (by kernel_rfl) (by kernel_rfl) (by kernel_rfl) (fun _ _ _ h => h) (Or.inl ⟨by rfl, ?_⟩) (by assumption) ?_
      case refine_2 => (intro w hSw; (try dsimp only at hSw); first | (go_simp; done) | (go_simp; with_reducible rfl))
      try simp only [Act.put, List.getElem_toArray, List.getElem_cons_succ, List.getElem_cons_zero, List.setIfInBounds_toArray, List.set_cons_zero, List.set_cons_succ]
      refine wpAnyH_take (i := 21) (v := ?_) rfl (by kernel_rfl) (by kernel_rfl) (by kernel_rfl) (fun _ _ _ h => h) (Or.inl ⟨by rfl, ?_⟩) (by assumption) ?_
      case refine_2 => (intro w hSw; (try dsimp only at hSw); first | (go_simp; done) | (go_simp; with_reducible rfl))
      try simp only [Act.put, List.getElem_toArray, List.getElem_cons_succ, List.getElem_cons_zero, List.setIfInBounds_toArray, List.set_cons_zero, List.set_cons_succ]
      refine wpAnyH_take (i := 22) (v := ?_) rfl (by kernel_rfl) (by kernel_rfl) (by kernel_rfl) (fun _ _ _ h => h) (Or.inl ⟨by rfl, ?_⟩) (by assumption) ?_
      case refine_2 => (intro w hSw; (try dsimp only at hSw); first | (go_simp; done) | (go_simp; with_reducible rfl))
      try simp only [Act.put, List.getElem_toArray, List.getElem_cons_succ, List.getElem_cons_zero, List.setIfInBounds_toArray, List.set_cons_zero, List.set_cons_succ]
      refine wpAnyH_take (i := 23) (v := ?_) rfl (by kernel_rfl) (by kernel_rfl) (by kernel_rfl) (fun _ _ _ h => h) (Or.inl ⟨by rfl, ?_⟩) (by assumption) ?_
      case refine_2 => (intro w hSw; (try dsimp only at hSw); first | (go_simp; done) | (go_simp; with_reducible rfl))
      try simp only [Act.put, List.getElem_toArray, List.getElem_cons_succ, List.getElem_cons_zero, List.setIfInBounds_toArray, List.set_cons_zero, List.set_cons_succ]
      refine wpAnyH_take (i := 24) (v := ?_) rfl (by kernel_rfl) (by kernel_rfl) (by kernel_rfl) (fun _ _ _ h => h) (Or.inl ⟨by rfl, ?_⟩) (by assumption) ?_
      case refine_2 => (intro w hSw; (try dsimp only at hSw); first | (go_simp; done) | (go_simp; with_reducible rfl))
      try simp only [Act.put, List.getElem_toArray, List.getElem_cons_succ, List.getElem_cons_zero, List.setIfInBounds_toArray, List.set_cons_zero, List.set_cons_succ]
      refine wpAnyH_take (i := 25) (v := ?_) rfl (by kernel_rfl) (by kernel_rfl) (by kernel_rfl) (fun _ _ _ h => h) (Or.inl ⟨by rfl, ?_⟩) (by assumption) ?_
      case refine_2 => (intro w hSw; (try dsimp only at hSw); first | (go_simp; done) | (go_simp; with_reducible rfl))
      try simp only [Act.put, List.getElem_toArray, List.getElem_cons_succ, List.getElem_cons_zero, List.setIfInBounds_toArray, List.set_cons_zero, List.set_cons_succ]
      refine wpAnyH_take (i := 26) (v := ?_) rfl (by kernel_rfl) (by kernel_rfl) (by kernel_rfl) (fun _ _ _ h => h) (Or.inl ⟨by rfl, ?_⟩) (by assumption) ?_
      case refine_2 => (intro w hSw; (try dsimp only at hSw); first | (go_simp; done) | (go_simp; with_reducible rfl))
      try simp only [Act.put, List.getElem_toArray, List.getElem_cons_succ, List.getElem_cons_zero, List.setIfInBounds_toArray, List.set_cons_zero, List.set_cons_succ]
      refine wpAnyH_take (i := 27) (v := ?_) rfl (by kernel_rfl) (by kernel_rfl) (by kernel_rfl) (fun _ _ _ h => h) (Or.inl ⟨by rfl, ?_⟩) (by assumption) ?_
      case refine_2 => (intro w hSw; (try dsimp only at hSw); first | (go_simp; done) | (go_simp; with_reducible rfl))
      try simp only [Act.put, List.getElem_toArray, List.getElem_cons_succ, List.getElem_cons_zero, List.setIfInBounds_toArray, List.set_cons_zero, List.set_cons_succ]
      refine wpAnyH_take (i := 28) (v := ?_) rfl (by kernel_rfl) (by kernel_rfl) (by kernel_rfl) (fun _ _ _ h => h) (Or.inl ⟨by rfl, ?_⟩) (by assumption) ?_
      case refine_2 => (intro w hSw; (try dsimp only at hSw); first | (go_simp; done) | (go_simp; with_reducible rfl))
      try simp only [Act.put, List.getElem_toArray, List.getElem_cons_succ, List.getElem_cons_zero, List.setIfInBounds_toArray, List.set_cons_zero, List.set_cons_succ]
      refine wpAnyH_take (i := 29) (v := ?_) rfl (by kernel_rfl) (by kernel_rfl) (by kernel_rfl) (fun _ _ _ h => h) (Or.inl ⟨by rfl, ?_⟩) (by assumption) ?_
      case refine_2 => (intro w hSw; (try dsimp only at hSw); first | (go_simp; done) | (go_simp; with_reducible rfl))
      try simp only [Act.put, List.getElem_toArray, List.getElem_cons_succ, List.getElem_cons_zero, List.setIfInBounds_toArray, List.set_cons_zero, List.set_cons_succ]
      refine wpAnyH_take (i := 30) (v := ?_) rfl (by kernel_rfl) (by kernel_rfl) (by kernel_rfl) (fun _ _ _ h => h) (Or.inl ⟨by rfl, ?_⟩) (by assumption) ?_
      case refine_2 => (intro w hSw; (try dsimp only at hSw); first | (go_simp; done) | (go_simp; with_reducible rfl))
      try simp only [Act.put, List.getElem_toArray, List.getElem_cons_succ, List.getElem_cons_zero, List.setIfInBounds_toArray, List.set_cons_zero, List.set_cons_succ]
      refine wpAnyH_take (i := 31) (v := ?_) rfl (by kernel_rfl) (by kernel_rfl) (by kernel_rfl) (fun _ _ _ h => h) (Or.inl ⟨by rfl, ?_⟩) (by assumption) ?_
      case refine_2 => (intro w hSw; (try dsimp only at hSw); first | (go_simp; done) | (go_simp; with_reducible rfl))
      try simp only [Act.put, List.getElem_toArray, List.getElem_cons_succ, List.getElem_cons_zero, List.setIfInBounds_toArray, List.set_cons_zero, List.set_cons_succ]
      refine wpAnyH_take (i := 32) (v := ?_) rfl (by kernel_rfl) (by kernel_rfl) (by kernel_rfl) (fun _ _ _ h => h) (Or.inl ⟨by rfl, ?_⟩) (by assumption) ?_
      case refine_2 => (intro w hSw; (try dsimp only at hSw); first | (go_simp; done) | (go_simp; with_reducible rfl))
      try simp only [Act.put, List.getElem_toArray, List.getElem_cons_succ, List.getElem_cons_zero, List.setIfInBounds_toArray, List.set_cons_zero, List.set_cons_succ]
      refine wpAnyH_take (i := 33) (v := ?_) rfl (by kernel_rfl) (by kernel_rfl) (by kernel_rfl) (fun _ _ _ h => h) (Or.inl ⟨by rfl, ?_⟩) (by assumption) ?_
      case refine_2 => (intro w hSw; (try dsimp only at hSw); first | (go_simp; done) | (go_simp; with_reducible rfl))
      try simp only [Act.put, List.getElem_toArray, List.getElem_cons_succ, List.getElem_cons_zero, List.setIfInBounds_toArray, List.set_cons_zero, List.set_cons_succ]
      refine wpAnyH_take (i := 34) (v := ?_) rfl (by kernel_rfl) (by kernel_rfl) (by kernel_rfl) (fun _ _ _ h => h) (Or.inl ⟨by rfl, ?_⟩) (by assumption) ?_
      case refine_2 => (intro w hSw; (try dsimp only at hSw); first | (go_simp; done) | (go_simp; with_reducible rfl))
      try simp only [Act.put, List.getElem_toArray, List.getElem_cons_succ, List.getElem_cons_zero, List.setIfInBounds_toArray, List.set_cons_zero, List.set_cons_succ]
      refine wpAnyH_take (i := 35) (v := ?_) rfl (by kernel_rfl) (by kernel_rfl) (by kernel_rfl) (fun _ _ _ h => h) (Or.inl ⟨by rfl, ?_⟩) (by assumption) ?_
      case refine_2 => (intro w hSw; (try dsimp only at hSw); first | (go_simp; done) | (go_simp; with_reducible rfl))
      try simp only [Act.put, List.getElem_toArray, List.getElem_cons_succ, List.getElem_cons_zero, List.setIfInBounds_toArray, List.set_cons_zero, List.set_cons_succ]
      refine wpAnyH_take (i := 36) (v := ?_) rfl (by kernel_rfl) (by kernel_rfl) (by kernel_rfl) (fun _ _ _ h => h) (Or.inl ⟨by rfl, ?_⟩) (by assumption) ?_
      case refine_2 => (intro w hSw; (try dsimp only at hSw); first | (go_simp; done) | (go_simp; with_reducible rfl))
      try simp only [Act.put, List.getElem_toArray, List.getElem_cons_succ, List.getElem_cons_zero, List.setIfInBounds_toArray, List.set_cons_zero, List.set_cons_succ]
      refine wpAnyH_take (i := 37) (v := ?_) rfl (by kernel_rfl) (by kernel_rfl) (by kernel_rfl) (fun _ _ _ h => h) (Or.inl ⟨by rfl, ?_⟩) (by assumption) ?_
      case refine_2 => (intro w hSw; (try dsimp only at hSw); first | (go_simp; done) | (go_simp; with_reducible rfl))
      try simp only [Act.put, List.getElem_toArray, List.getElem_cons_succ, List.getElem_cons_zero, List.setIfInBounds_toArray, List.set_cons_zero, List.set_cons_succ]
      refine wpAnyH_take (i := 38) (v := undef) rfl (by kernel_rfl) (by kernel_rfl) (by kernel_rfl) (fun _ _ _ h => h) (Or.inr ⟨by rfl, rfl⟩) (by assumption) ?_
      try simp only [Act.put, List.getElem_toArray, List.getElem_cons_succ, List.getElem_cons_zero, List.setIfInBounds_toArray, List.set_cons_zero, List.set_cons_succ]
      refine wpAnyH_take (i := 39) (v := undef) rfl (by kernel_rfl) (by kernel_rfl) (by kernel_rfl) (fun _ _ _ h => h) (Or.inr ⟨by rfl, rfl⟩) (by assumption) ?_
      try simp only [Act.put, List.getElem_toArray, List.getElem_cons_succ, List.getElem_cons_zero, List.setIfInBounds_toArray, List.set_cons_zero, List.set_cons_succ]
      refine wpAnyH_take (i := 40) (v := undef) rfl (by kernel_rfl) (by kernel_rfl) (by kernel_rfl) (fun _ _ _ h => h) (Or.inr ⟨by rfl, rfl⟩) (by assumption) ?_
      try simp only [Act.put, List.getElem_toArray, List.getElem_cons_succ, List.getElem_cons_zero, List.setIfInBounds_toArray, List.set_cons_zero, List.set_cons_succ]
      refine wpAnyH_take (i := 41) (v := ?_) rfl (by kernel_rfl) (by kernel_rfl) (by kernel_rfl) (fun _ _ _ h => h) (Or.inl ⟨by rfl, ?_⟩) (by assumption) ?_
      case refine_2 => (intro w hSw; (try dsimp only at hSw); first | (go_simp; done) | (go_simp; with_reducible rfl))
      try simp only [Act.put, List.getElem_toArray, List.getElem_cons_succ, List.getElem_cons_zero, List.setIfInBounds_toArray, List.set_cons_zero, List.set_cons_succ]
      refine wpAnyH_take (i := 42) (v := ?_) rfl (by kernel_rfl) (by kernel_rfl) (by kernel_rfl) (fun _ _ _ h => h) (Or.inl ⟨by rfl, ?_⟩) (by assumption) ?_
      case refine_2 => (intro w hSw; (try dsimp only at hSw); first | (go_simp; done) | (go_simp; with_reducible rfl))
      try simp only [Act.put, List.getElem_toArray, List.getElem_cons_succ, List.getElem_cons_zero, List.setIfInBounds_toArray, List.set_cons_zero, List.set_cons_succ]
      refine wpAnyH_take (i := 43) (v := ?_) rfl (by kernel_rfl) (by kernel_rfl) (by kernel_rfl) (fun _ _ _ h => h) (Or.inl ⟨by rfl, ?_⟩) (by assumption) ?_
      case refine_2 => (intro w hSw; (try dsimp only at hSw); first | (go_simp; done) | (go_simp; with_reducible rfl))
      try simp only [Act.put, List.getElem_toArray, List.getElem_cons_succ, List.getElem_cons_zero, List.setIfInBounds_toArray, List.set_cons_zero, List.set_cons_succ]
      refine wpAnyH_take (i := 44) (v := ?_) rfl (by kernel_rfl) (by kernel_rfl) (by kernel_rfl) (fun _ _ _ h => h) (Or.inl ⟨by rfl, ?_⟩) (by assumption) ?_
      case refine_2 => (intro w hSw; (try dsimp only at hSw); first | (go_simp; done) | (go_simp; with_reducible rfl))
      try simp only [Act.put, List.getElem_toArray, List.getElem_cons_succ, List.getElem_cons_zero, List.setIfInBounds_toArray, List.set_cons_zero, List.set_cons_succ]
      refine wpAnyH_take (i := 45) (v := ?_) rfl (by kernel_rfl) (by kernel_rfl) (by kernel_rfl) (fun _ _ _ h => h) (Or.inl ⟨by rfl, ?_⟩) (by assumption) ?_
      case refine_2 => (intro w hSw; (try dsimp only at hSw); first | (go_simp; done) | (go_simp; with_reducible rfl))
      try simp only [Act.put, List.getElem_toArray, List.getElem_cons_succ, List.getElem_cons_zero, List.setIfInBounds_toArray, List.set_cons_zero, List.set_cons_succ]
      refine wpAnyH_take (i := 47) (v := ?_) rfl (by kernel_rfl) (by kernel_rfl) (by kernel_rfl) (fun _ _ _ h => h) (Or.inl ⟨by rfl, ?_⟩) (by assumption) ?_
      case refine_2 => (intro w hSw; (try dsimp only at hSw); first | (go_simp; done) | (go_simp; with_reducible rfl))
      try simp only [Act.put, List.getElem_toArray, List.getElem_cons_succ, List.getElem_cons_zero, List.setIfInBounds_toArray, List.set_cons_zero, List.set_cons_succ]
      refine wpAnyH_take (i := 48) (v := ?_) rfl (by kernel_rfl) (by kernel_rfl) (by kernel_rfl) (fun _ _ _ h => h) (Or.inl ⟨by rfl, ?_⟩) (by assumption) ?_
      case refine_2 => (intro w hSw; (try dsimp only at hSw); first | (go_simp; done) | (go_simp; with_reducible rfl))
      try simp only [Act.put, List.getElem_toArray, List.getElem_cons_succ, List.getElem_cons_zero, List.setIfInBounds_toArray, List.set_cons_zero, List.set_cons_succ]
      refine wpAnyH_ready (rs := [46]) (by kernel_rfl) (by simp) ?_
      refine AllReadyH.cons rfl (fun K hK => ?_) AllReadyH.nil
      go_simp
      first | (go_at_call 39; ((with_reducible refine (rank_is (H5.out.sh.on (by repeat' (first | exact Below.refl _ _ | with_reducible assumption | omega | with_reducible refine below_put_fut ?_ ?_ _ | with_reducible refine below_to_put ?_ | with_reducible refine Below.alloc ?_ ?_ _ | with_reducible refine Below.fut ?_ ?_ _ | with_reducible refine Below.drew ?_ | with_reducible refine Below.setCell ?_ ?_ _ | with_reducible refine Below.atPut ?_ ?_ _ | (simp [go_sem]; done) | (simp [go_sem]; omega))) H5.out.sh.ge) (by rw [HM.out]; omega) k HK.out).mono ?_)); rintro _ _ ⟨rfl, u6, rfl⟩; rw [HRK.out]) | (go_at_call 40; ((with_reducible refine (sh_count (H5.out.sh.on (by repeat' (first | exact Below.refl _ _ | with_reducible assumption | omega | with_reducible refine below_put_fut ?_ ?_ _ | with_reducible refine below_to_put ?_ | with_reducible refine Below.alloc ?_ ?_ _ | with_reducible refine Below.fut ?_ ?_ _ | with_reducible refine Below.drew ?_ | with_reducible refine Below.setCell ?_ ?_ _ | with_reducible refine Below.atPut ?_ ?_ _ | (simp [go_sem]; done) | (simp [go_sem]; omega))) H5.out.sh.ge) (by rw [HM.out]; omega) ha ha2 hb hb2 na HNA.out).mono ?_)); rintro _ _ ⟨rfl, u7, rfl⟩) | (go_at_call 41; ((with_reducible refine (both_arcLen (H5.out.on (by repeat' (first | exact Below.refl _ _ | with_reducible assumption | omega | with_reducible refine below_put_fut ?_ ?_ _ | with_reducible refine below_to_put ?_ | with_reducible refine Below.alloc ?_ ?_ _ | with_reducible refine Below.fut ?_ ?_ _ | with_reducible refine Below.drew ?_ | with_reducible refine Below.setCell ?_ ?_ _ | with_reducible refine Below.atPut ?_ ?_ _ | (simp [go_sem]; done) | (simp [go_sem]; omega)))) (by rw [HM.out]; omega) HSM.out a b ha ha2 hb hb2 na HNA.out).mono ?_)); rintro _ _ ⟨ao8, c8, u8, rfl, rfl⟩)
      refine hK.out _ _ (by exact HCE.out _ (by repeat' (first | exact Below.refl _ _ | with_reducible assumption | omega | with_reducible refine below_put_fut ?_ ?_ _ | with_reducible refine below_to_put ?_ | with_reducible refine Below.alloc ?_ ?_ _ | with_reducible refine Below.fut ?_ ?_ _ | with_reducible refine Below.drew ?_ | with_reducible refine Below.setCell ?_ ?_ _ | with_reducible refine Below.atPut ?_ ?_ _ | (simp [go_sem]; done) | (simp [go_sem]; omega)))) (fun hHeld => ?_)
      clear hK K
      try simp only [Act.put, List.getElem_toArray, List.getElem_cons_succ, List.getElem_cons_zero, List.setIfInBounds_toArray, List.set_cons_zero, List.set_cons_succ]
      refine wpAnyH_ready (rs := [49]) (by kernel_rfl) (by simp) ?_
      refine AllReadyH.cons rfl (fun K hK => ?_) AllReadyH.nil
      go_simp
      first | (go_at_call 39; ((with_reducible refine (rank_is (H5.out.sh.on (by repeat' (first | exact Below.refl _ _ | with_reducible assumption | omega | with_reducible refine below_put_fut ?_ ?_ _ | with_reducible refine below_to_put ?_ | with_reducible refine Below.alloc ?_ ?_ _ | with_reducible refine Below.fut ?_ ?_ _ | with_reducible refine Below.drew ?_ | with_reducible refine Below.setCell ?_ ?_ _ | with_reducible refine Below.atPut ?_ ?_ _ | (simp [go_sem]; done) | (simp [go_sem]; omega))) H5.out.sh.ge) (by rw [HM.out]; omega) k HK.out).mono ?_)); rintro _ _ ⟨rfl, u6, rfl⟩; rw [HRK.out]) | (go_at_call 40; ((with_reducible refine (sh_count (H5.out.sh.on (by repeat' (first | exact Below.refl _ _ | with_reducible assumption | omega | with_reducible refine below_put_fut ?_ ?_ _ | with_reducible refine below_to_put ?_ | with_reducible refine Below.alloc ?_ ?_ _ | with_reducible refine Below.fut ?_ ?_ _ | with_reducible refine Below.drew ?_ | with_reducible refine Below.setCell ?_ ?_ _ | with_reducible refine Below.atPut ?_ ?_ _ | (simp [go_sem]; done) | (simp [go_sem]; omega))) H5.out.sh.ge) (by rw [HM.out]; omega) ha ha2 hb hb2 na HNA.out).mono ?_)); rintro _ _ ⟨rfl, u7, rfl⟩) | (go_at_call 41; ((with_reducible refine (both_arcLen (H5.out.on (by repeat' (first | exact Below.refl _ _ | with_reducible assumption | omega | with_reducible refine below_put_fut ?_ ?_ _ | with_reducible refine below_to_put ?_ | with_reducible refine Below.alloc ?_ ?_ _ | with_reducible refine Below.fut ?_ ?_ _ | with_reducible refine Below.drew ?_ | with_reducible refine Below.setCell ?_ ?_ _ | with_reducible refine Below.atPut ?_ ?_ _ | (simp [go_sem]; done) | (simp [go_sem]; omega)))) (by rw [HM.out]; omega) HSM.out a b ha ha2 hb hb2 na HNA.out).mono ?_)); rintro _ _ ⟨ao8, c8, u8, rfl, rfl⟩)
      refine hK.out _ _ (by exact HCE.out _ (by repeat' (first | exact Below.refl _ _ | with_reducible assumption | omega | with_reducible refine below_put_fut ?_ ?_ _ | with_reducible refine below_to_put ?_ | with_reducible refine Below.alloc ?_ ?_ _ | with_reducible refine Below.fut ?_ ?_ _ | with_reducible refine Below.drew ?_ | with_reducible refine Below.setCell ?_ ?_ _ | with_reducible refine Below.atPut ?_ ?_ _ | (simp [go_sem]; done) | (simp [go_sem]; omega)))) (fun hHeld => ?_)
      clear hK K
      try simp only [Act.put, List.getElem_toArray, List.getElem_cons_succ, List.getElem_cons_zero, List.setIfInBounds_toArray, List.set_cons_zero, List.set_cons_succ]
      refine wpAnyH_take (i := 50) (v := ?_) rfl (by kernel_rfl) (by kernel_rfl) (by kernel_rfl) (fun _ _ _ h => h) (Or.inl ⟨by rfl, ?_⟩) (by assumption) ?_
      case refine_2 => (intro w hSw; (try dsimp only at hSw); first | (go_simp; done) | (go_simp; with_reducible rfl))
      try simp only [Act.put, List.getElem_toArray, List.getElem_cons_succ, List.getElem_cons_zero, List.setIfInBounds_toArray, List.set_cons_zero, List.set_cons_succ]
      refine wpAnyH_take (i := 51) (v := ?_) rfl (by kernel_rfl) (by kernel_rfl) (by kernel_rfl) (fun _ _ _ h => h) (Or.inl ⟨by rfl, ?_⟩) (by assumption) ?_
      case refine_2 => (intro w hSw; (try dsimp only at hSw); first | (go_simp; done) | (go_simp; with_reducible rfl))
      try simp only [Act.put, List.getElem_toArray, List.getElem_cons_succ, List.getElem_cons_zero, List.setIfInBounds_toArray, List.set_cons_zero, List.set_cons_succ]
      refine wpAnyH_take (i := 52) (v := ?_) rfl (by kernel_rfl) (by kernel_rfl) (by kernel_rfl) (fun _ _ _ h => h) (Or.inl ⟨by rfl, ?_⟩) (by assumption) ?_
      case refine_2 => (intro w hSw; (try dsimp only at hSw); first | (go_simp; done) | (go_simp; with_reducible rfl))
      try simp only [Act.put, List.getElem_toArray, List.getElem_cons_succ, List.getElem_cons_zero, List.setIfInBounds_toArray, List.set_cons_zero, List.set_cons_succ]
      refine wpAnyH_take (i := 53) (v := ?_) rfl (by kernel_rfl) (by kernel_rfl) (by kernel_rfl) (fun _ _ _ h => h) (Or.inl ⟨by rfl, ?_⟩) (by assumption) ?_
      case refine_2 => (intro w hSw; (try dsimp only at hSw); first | (go_simp; done) | (go_simp; with_reducible rfl))
      try simp only [Act.put, List.getElem_toArray, List.getElem_cons_succ, List.getElem_cons_zero, List.setIfInBounds_toArray, List.set_cons_zero, List.set_cons_succ]
      refine wpAnyH_take (i := 54) (v := ?_) rfl (by kernel_rfl) (by kernel_rfl) (by kernel_rfl) (fun _ _ _ h => h) (Or.inl ⟨by rfl, ?_⟩) (by assumption) ?_
      case refine_2 => (intro w hSw; (try dsimp only at hSw); first | (go_simp; done) | (go_simp; with_reducible rfl))
      try simp only [Act.put, List.getElem_toArray, List.getElem_cons_succ, List.getElem_cons_zero, List.setIfInBounds_toArray, List.set_cons_zero, List.set_cons_succ]
      refine wpAnyH_take (i := 55) (v := ?_) rfl (by kernel_rfl) (by kernel_rfl) (by kernel_rfl) (fun _ _ _ h => h) (Or.inl ⟨by rfl, ?_⟩) (by assumption) ?_
      case refine_2 => (intro w hSw; (try dsimp only at hSw); first | (go_simp; done) | (go_simp; with_reducible rfl))
      try simp only [Act.put, List.getElem_toArray, List.getElem_cons_succ, List.getElem_cons_zero, List.setIfInBounds_toArray, List.set_cons_zero, List.set_cons_succ]
      refine wpAnyH_take (i := 56) (v := ?_) rfl (by kernel_rfl) (by kernel_rfl) (by kernel_rfl) (fun _ _ _ h => h) (Or.inl ⟨by rfl, ?_⟩) (by assumption) ?_
      case refine_2 => (intro w hSw; (try dsimp only at hSw); first | (go_simp; done) | (go_simp; with_reducible rfl))
      try simp only [Act.put, List.getElem_toArray, List.getElem_cons_succ, List.getElem_cons_zero, List.setIfInBounds_toArray, List.set_cons_zero, List.set_cons_succ]
      refine wpAnyH_take (i := 57) (v := ?_) rfl (by kernel_rfl) (by kernel_rfl) (by kernel_rfl) (fun _ _ _ h => h) (Or.inl ⟨by rfl, ?_⟩) (by assumption) ?_
      case refine_2 => (intro w hSw; (try dsimp only at hSw); first | (go_simp; done) | (go_simp; with_reducible rfl))
      try simp only [Act.put, List.getElem_toArray, List.getElem_cons_succ, List.getElem_cons_zero, List.setIfInBounds_toArray, List.set_cons_zero, List.set_cons_succ]
      refine wpAnyH_take (i := 58) (v := ?_) rfl (by kernel_rfl) (by kernel_rfl) (by kernel_rfl) (fun _ _ _ h => h) (Or.inl ⟨by rfl, ?_⟩) (by assumption) ?_
      case refine_2 => (intro w hSw; (try dsimp only at hSw); first | (go_simp; done) | (go_simp; with_reducible rfl))
      try simp only [Act.put, List.getElem_toArray, List.getElem_cons_succ, List.getElem_cons_zero, List.setIfInBounds_toArray, List.set_cons_zero, List.set_cons_succ]
      refine wpAnyH_take (i := 59) (v := ?_) rfl (by kernel_rfl) (by kernel_rfl) (by kernel_rfl) (fun _ _ _ h => h) (Or.inl ⟨by rfl, ?_⟩) (by assumption) ?_
      case refine_2 => (intro w hSw; (try dsimp only at hSw); first | (go_simp; done) | (go_simp; with_reducible rfl))
      try simp only [Act.put, List.getElem_toArray, List.getElem_cons_succ, List.getElem_cons_zero, List.setIfInBounds_toArray, List.set_cons_zero, List.set_cons_succ]
      refine wpAnyH_take (i := 60) (v := ?_) rfl (by kernel_rfl) (by kernel_rfl) (by kernel_rfl) (fun _ _ _ h => h) (Or.inl ⟨by rfl, ?_⟩) (by assumption) ?_
      case refine_2 => (intro w hSw; (try dsimp only at hSw); first | (go_simp; done) | (go_simp; with_reducible rfl))
      try simp only [Act.put, List.getElem_toArray, List.getElem_cons_succ, List.getElem_cons_zero, List.setIfInBounds_toArray, List.set_cons_zero, List.set_cons_succ]
      refine wpAnyH_take (i := 61) (v := ?_) rfl (by kernel_rfl) (by kernel_rfl) (by kernel_rfl) (fun _ _ _ h => h) (Or.inl ⟨by rfl, ?_⟩) (by assumption) ?_
      case refine_2 => (intro w hSw; (try dsimp only at hSw); first | (go_simp; done) | (go_simp; with_reducible rfl))
      try simp only [Act.put, List.getElem_toArray, List.getElem_cons_succ, List.getElem_cons_zero, List.setIfInBounds_toArray, List.set_cons_zero, List.set_cons_succ]
      refine wpAnyH_take (i := 62) (v := ?_) rfl (by kernel_rfl) (by kernel_rfl) (by kernel_rfl) (fun _ _ _ h => h) (Or.inl ⟨by rfl, ?_⟩) (by assumption) ?_
      case refine_2 => (intro w hSw; (try dsimp only at hSw); first | (go_simp; done) | (go_simp; with_reducible rfl))
      try simp only [Act.put, List.getElem_toArray, List.getElem_cons_succ, List.getElem_cons_zero, List.setIfInBounds_toArray, List.set_cons_zero, List.set_cons_succ]
      refine wpAnyH_done (by kernel_rfl) ?_ _
      refine NoPanic.normal ?_
      have H8 := hid (H5.out.on (show Below W5.heap.size W5 u8.val from (by repeat' (first | exact Below.refl _ _ | with_reducible assumption | omega | with_reducible refine below_put_fut ?_ ?_ _ | with_reducible refine below_to_put ?_ | with_reducible refine Below.alloc ?_ ?_ _ | with_reducible refine Below.fut ?_ ?_ _ | with_reducible refine Below.drew ?_ | with_reducible refine Below.setCell ?_ ?_ _ | with_reducible refine Below.atPut ?_ ?_ _ | (simp [go_sem]; done) | (simp [go_sem]; omega)))))
      have hc8 : u8.val.heap[w.heap.size]? = some (.cells #[.int .u64 a, .int .u64 b] 38) := ((show Below W5.heap.size W5 u8.val from (by repeat' (first | exact Below.refl _ _ | with_reducible assumption | omega | with_reducible refine below_put_fut ?_ ?_ _ | with_reducible refine below_to_put ?_ | with_reducible refine Below.alloc ?_ ?_ _ | with_reducible refine Below.fut ?_ ?_ _ | with_reducible refine Below.drew ?_ | with_reducible refine Below.setCell ?_ ?_ _ | with_reducible refine Below.atPut ?_ ?_ _ | (simp [go_sem]; done) | (simp [go_sem]; omega)))).block _ l7).trans HC5.out
      generalize u8.val = W8 at H8 hc8 ⊢
      have l8 := lt_of_heap hc8
      have e8 := fun i => cell_of_row W8 w.heap.size i _ _ (0, 0) hc8
      have HCE8 := hid (fun (Y : World) (hY : Below W8.heap.size W8 Y) => show Y.cell? ⟨w.heap.size, 0, none⟩ = some (.int .u64 a) ∧ Y.cell? ⟨w.heap.size, 1, none⟩ = some (.int .u64 b) from ⟨(hY.cell l8).trans (e8 0), (hY.cell l8).trans (e8 1)⟩)
      clear hc8 hHeld HCE
      go_wp2_with fail
      (((with_reducible refine (at_nil _).mono ?_)); rintro _ _ ⟨rfl, u9, rfl⟩)
      go_wp2_with fail
      (((with_reducible refine (middle_nil _ a b hb).mono ?_)); rintro _ _ ⟨rfl, u10, rfl⟩)
      go_wp2_with fail
      have hbw := H8.out.1
      have hzw := H8.out.2.1
      first | (go_region_held3 (fun Y => Y.cell? ⟨w.heap.size, 0, none⟩ = some (.int .u64 a) ∧ Y.cell? ⟨w.heap.size, 1, none⟩ = some (.int .u64 b)) ((refine HCE8.out _ ?_; ((repeat' (first | exact Below.refl _ _ | with_reducible assumption | omega | with_reducible refine below_put_fut ?_ ?_ _ | with_reducible refine below_to_put ?_ | with_reducible refine Below.alloc ?_ ?_ _ | with_reducible refine Below.fut ?_ ?_ _ | with_reducible refine Below.drew ?_ | with_reducible refine Below.setCell ?_ ?_ _ | with_reducible refine Below.atPut ?_ ?_ _ | (simp [go_sem]; done) | (simp [go_sem]; omega))); done))) (first | (go_at_call 39; ((with_reducible refine (rank_nil _ k HK.out).mono ?_)); rintro _ _ ⟨rfl, u11, rfl⟩) | (go_at_call 40; ((with_reducible refine (count_nil _ a b hb).mono ?_)); rintro _ _ ⟨rfl, u12, rfl⟩))) | fail "held3"
      all_goals
        go_wp2_with fail
        go_ret
        exact .mk rfl (hbw.trans (Below.mono (show Below W8.heap.size W8 _ from (by repeat' (first | exact Below.refl _ _ | with_reducible assumption | omega | with_reducible refine below_put_fut ?_ ?_ _ | with_reducible refine below_to_put ?_ | with_reducible refine Below.alloc ?_ ?_ _ | with_reducible refine Below.fut ?_ ?_ _ | with_reducible refine Below.drew ?_ | with_reducible refine Below.setCell ?_ ?_ _ | with_reducible refine Below.atPut ?_ ?_ _ | (simp [go_sem]; done) | (simp [go_sem]; omega)))) hzw))
    · (((with_reducible refine (walkAt_none H1.out.sh (by rw [HM.out]; omega) i (.inr (by rw [HM.out]; exact c2))).mono ?_)); rintro _ _ ⟨rfl, u2, rfl⟩)
      have H2 := hid (H1.out.on u2.below)
      have HC2 := hid ((u2.below.block _ (lt_of_heap HC.out)).trans HC.out)
      generalize u2.val = W2 at H2 HC2 ⊢
      clear H1 HC
      go_wp2_with fail
      (((with_reducible refine (both_at (H2.out.on (W' := W2.alloc (.cells #[.string ⟨#[]⟩, .string ⟨#[]⟩] 34)) (by repeat' (first | exact Below.refl _ _ | with_reducible assumption | omega | with_reducible refine below_put_fut ?_ ?_ _ | with_reducible refine below_to_put ?_ | with_reducible refine Below.alloc ?_ ?_ _ | with_reducible refine Below.fut ?_ ?_ _ | with_reducible refine Below.drew ?_ | with_reducible refine Below.setCell ?_ ?_ _ | with_reducible refine Below.atPut ?_ ?_ _ | (simp [go_sem]; done) | (simp [go_sem]; omega)))) (by rw [HM.out]; omega) k p is HP.out).mono ?_)); rintro _ _ ⟨rfl, u3, rfl⟩)
      have hb3 : Below W2.heap.size W2 u3.val := (by repeat' (first | exact Below.refl _ _ | with_reducible assumption | omega | with_reducible refine below_put_fut ?_ ?_ _ | with_reducible refine below_to_put ?_ | with_reducible refine Below.alloc ?_ ?_ _ | with_reducible refine Below.fut ?_ ?_ _ | with_reducible refine Below.drew ?_ | with_reducible refine Below.setCell ?_ ?_ _ | with_reducible refine Below.atPut ?_ ?_ _ | (simp [go_sem]; done) | (simp [go_sem]; omega)))
      have H3 := hid (H2.out.on hb3)
      have hc3 : u3.val.heap[w.heap.size]? = _ := (hb3.block _ (lt_of_heap HC2.out)).trans HC2.out
      have hx3 : u3.val.heap[W2.heap.size]? = some (.cells #[.string ⟨#[]⟩, .string ⟨#[]⟩] 34) := (u3.below.block _ (by simp)).trans (heap_alloc_at _ _ _ rfl)
      generalize u3.val = W3 at H3 hc3 hx3 ⊢
      generalize W2.heap.size = B11 at hx3 ⊢
      have e3 := fun i => cell_of_row W3 w.heap.size i _ _ (0, 0) hc3
      have l3 := lt_of_heap hc3
      have HC3 := hid hc3
      have HX3 := hid hx3
      clear H2 HC2 hb3 hc3 hx3
      go_wp2_with fail
      (((with_reducible refine (sh_middle H3.out.sh (by rw [HM.out]; omega) ha ha2 hb hb2 md mi HMD.out HMI.out).mono ?_)); rintro _ _ ⟨rfl, u4, rfl⟩)
      have H4 := hid (H3.out.on u4.below)
      have hc4 := (u4.below.block _ (lt_of_heap HC3.out)).trans HC3.out
      have hx4 := (u4.below.block _ (lt_of_heap HX3.out)).trans HX3.out
      generalize u4.val = W4 at H4 hc4 hx4 ⊢
      clear e3 l3
      have e4 := fun i => cell_of_row W4 w.heap.size i _ _ (0, 0) hc4
      have l4 := lt_of_heap hc4
      have HC4 := hid hc4
      have HX4 := hid hx4
      clear H3 HC3 HX3 hc4 hx4
      go_wp2_with fail
      (((with_reducible refine (both_middle H4.out (by rw [HM.out]; omega) HSM.out a b ha ha2 hb hb2 md mi HMD.out HMI.out).mono ?_)); rintro _ _ ⟨rfl, u5, rfl⟩)
      have H5 := hid (H4.out.on u5.below)
      have hc5 := (u5.below.block _ (lt_of_heap HC4.out)).trans HC4.out
      have hx5 := (u5.below.block _ (lt_of_heap HX4.out)).trans HX4.out
      generalize u5.val = W5 at H5 hc5 hx5 ⊢
      clear e4 l4 H4 HC4 HX4
      go_wp2_with fail
      obtain ⟨rv, hgr, hsr⟩ := H5.out.ref
      rw [HM.out] at hsr
      obtain ⟨ra, rc, rfl⟩ := hsr.slice_of
      have eg := fun i => cell_of_row W5 gr i _ _ (0, 0) hgr
      have lg := lt_of_heap hgr
      have e7 := fun i => cell_of_row W5 w.heap.size i _ _ (0, 0) hc5
      have l7 := lt_of_heap hc5
      have ex := fun i => cell_of_row W5 B11 i _ _ (0, 0) hx5
      have lx := lt_of_heap hx5
      obtain ⟨na, hna⟩ : ∃ na, (arcL a b xs).length = na := ⟨_, rfl⟩
      have HNA := hid hna
      have dj : decide ((0 : Int) ≤ i) = true := by simp; omega
      have djp : (0 : Int) ≤ i := c
      have djn : ¬ i < (m : Int) := by omega
      have HC5 := hid hc5
      have HCE := hid (fun (Y : World) (hY : Below W5.heap.size W5 Y) => show Y.cell? ⟨gr, 1, none⟩ = some (.slice ra m rc) ∧ Y.cell? ⟨B11, 0, none⟩ = some (.string ⟨#[]⟩) ∧ Y.cell? ⟨B11, 1, none⟩ = some (.string ⟨#[]⟩) ∧ Y.cell? ⟨w.heap.size, 0, none⟩ = some (.int .u64 a) ∧ Y.cell? ⟨w.heap.size, 1, none⟩ = some (.int .u64 b) from
        ⟨(hY.cell lg).trans (eg 1), (hY.cell lx).trans (ex 0), (hY.cell lx).trans (ex 1), (hY.cell l7).trans (e7 0), (hY.cell l7).trans (e7 1)⟩)
      clear hsr hgr hc5 hx5 hna c c2 eg ex e7
      refine wp_region_noPanic ?_
      refine wp_region_held_drew (S := (fun Y => Y.cell? ⟨gr, 1, none⟩ = some (.slice ra m rc) ∧ Y.cell? ⟨B11, 0, none⟩ = some (.string ⟨#[]⟩) ∧ Y.cell? ⟨B11, 1, none⟩ = some (.string ⟨#[]⟩) ∧ Y.cell? ⟨w.heap.size, 0, none⟩ = some (.int .u64 a) ∧ Y.cell? ⟨w.heap.size, 1, none⟩ = some (.int .u64 b))) (by kernel_rfl) (by exact HCE.out _ (by repeat' (first | exact Below.refl _ _ | with_reducible assumption | omega | with_reducible refine below_put_fut ?_ ?_ _ | with_reducible refine below_to_put ?_ | with_reducible refine Below.alloc ?_ ?_ _ | with_reducible refine Below.fut ?_ ?_ _ | with_reducible refine Below.drew ?_ | with_reducible refine Below.setCell ?_ ?_ _ | with_reducible refine Below.atPut ?_ ?_ _ | (simp [go_sem]; done) | (simp [go_sem]; omega)))) (fun hHeld => ?_)
      refine wpAnyH_take (i := 0) (v := ?_) rfl (by kernel_rfl) (by kernel_rfl) (by kernel_rfl) (fun _ _ _ h => h) (Or.inl ⟨by rfl, ?_⟩) (by assumption) ?_
      case refine_2 => (intro w hSw; (try dsimp only at hSw); first | (go_simp; done) | (go_simp; with_reducible rfl))
      try simp only [Act.put, List.getElem_toArray, List.getElem_cons_succ, List.getElem_cons_zero, List.setIfInBounds_toArray, List.set_cons_zero, List.set_cons_succ]
      refine wpAnyH_take (i := 1) (v := ?_) rfl (by kernel_rfl) (by kernel_rfl) (by kernel_rfl) (fun _ _ _ h => h) (Or.inl ⟨by rfl, ?_⟩) (by assumption) ?_
      case refine_2 => (intro w hSw; (try dsimp only at hSw); first | (go_simp; done) | (go_simp; with_reducible rfl))
      try simp only [Act.put, List.getElem_toArray, List.getElem_cons_succ, List.getElem_cons_zero, List.setIfInBounds_toArray, List.set_cons_zero, List.set_cons_succ]
      refine wpAnyH_take (i := 3) (v := ?_) rfl (by kernel_rfl) (by kernel_rfl) (by kernel_rfl) (fun _ _ _ h => h) (Or.inl ⟨by rfl, ?_⟩) (by assumption) ?_
      case refine_2 => (intro w hSw; (try dsimp only at hSw); first | (go_simp; done) | (go_simp; with_reducible rfl))
      try simp only [Act.put, List.getElem_toArray, List.getElem_cons_succ, List.getElem_cons_zero, List.setIfInBounds_toArray, List.set_cons_zero, List.set_cons_succ]
      refine wpAnyH_ready (rs := [2]) (by kernel_rfl) (by simp) ?_
      refine AllReadyH.cons rfl (fun K hK => ?_) AllReadyH.nil
      go_simp
      first | (go_at_call 39; ((with_reducible refine (rank_is (H5.out.sh.on (by repeat' (first | exact Below.refl _ _ | with_reducible assumption | omega | with_reducible refine below_put_fut ?_ ?_ _ | with_reducible refine below_to_put ?_ | with_reducible refine Below.alloc ?_ ?_ _ | with_reducible refine Below.fut ?_ ?_ _ | with_reducible refine Below.drew ?_ | with_reducible refine Below.setCell ?_ ?_ _ | with_reducible refine Below.atPut ?_ ?_ _ | (simp [go_sem]; done) | (simp [go_sem]; omega))) H5.out.sh.ge) (by rw [HM.out]; omega) k HK.out).mono ?_)); rintro _ _ ⟨rfl, u6, rfl⟩; rw [HRK.out]) | (go_at_call 40; ((with_reducible refine (sh_count (H5.out.sh.on (by repeat' (first | exact Below.refl _ _ | with_reducible assumption | omega | with_reducible refine below_put_fut ?_ ?_ _ | with_reducible refine below_to_put ?_ | with_reducible refine Below.alloc ?_ ?_ _ | with_reducible refine Below.fut ?_ ?_ _ | with_reducible refine Below.drew ?_ | with_reducible refine Below.setCell ?_ ?_ _ | with_reducible refine Below.atPut ?_ ?_ _ | (simp [go_sem]; done) | (simp [go_sem]; omega))) H5.out.sh.ge) (by rw [HM.out]; omega) ha ha2 hb hb2 na HNA.out).mono ?_)); rintro _ _ ⟨rfl, u7, rfl⟩) | (go_at_call 41; ((with_reducible refine (both_arcLen (H5.out.on (by repeat' (first | exact Below.refl _ _ | with_reducible assumption | omega | with_reducible refine below_put_fut ?_ ?_ _ | with_reducible refine below_to_put ?_ | with_reducible refine Below.alloc ?_ ?_ _ | with_reducible refine Below.fut ?_ ?_ _ | with_reducible refine Below.drew ?_ | with_reducible refine Below.setCell ?_ ?_ _ | with_reducible refine Below.atPut ?_ ?_ _ | (simp [go_sem]; done) | (simp [go_sem]; omega)))) (by rw [HM.out]; omega) HSM.out a b ha ha2 hb hb2 na HNA.out).mono ?_)); rintro _ _ ⟨ao8, c8, u8, rfl, rfl⟩)
      refine hK.out _ _ (by exact HCE.out _ (by repeat' (first | exact Below.refl _ _ | with_reducible assumption | omega | with_reducible refine below_put_fut ?_ ?_ _ | with_reducible refine below_to_put ?_ | with_reducible refine Below.alloc ?_ ?_ _ | with_reducible refine Below.fut ?_ ?_ _ | with_reducible refine Below.drew ?_ | with_reducible refine Below.setCell ?_ ?_ _ | with_reducible refine Below.atPut ?_ ?_ _ | (simp [go_sem]; done) | (simp [go_sem]; omega)))) (fun hHeld => ?_)
      clear hK K
      try simp only [Act.put, List.getElem_toArray, List.getElem_cons_succ, List.getElem_cons_zero, List.setIfInBounds_toArray, List.set_cons_zero, List.set_cons_succ]
      refine wpAnyH_take (i := 4) (v := ?_) rfl (by kernel_rfl) (by kernel_rfl) (by kernel_rfl) (fun _ _ _ h => h) (Or.inl ⟨by rfl, ?_⟩) (by assumption) ?_
      case refine_2 => (intro w hSw; (try dsimp only at hSw); first | (go_simp; done) | (go_simp; with_reducible rfl))
      try simp only [Act.put, List.getElem_toArray, List.getElem_cons_succ, List.getElem_cons_zero, List.setIfInBounds_toArray, List.set_cons_zero, List.set_cons_succ]
      refine wpAnyH_take (i := 5) (v := ?_) rfl (by kernel_rfl) (by kernel_rfl) (by kernel_rfl) (fun _ _ _ h => h) (Or.inl ⟨by rfl, ?_⟩) (by assumption) ?_
      case refine_2 => (intro w hSw; (try dsimp only at hSw); first | (go_simp; done) | (go_simp; with_reducible rfl))
      try simp only [Act.put, List.getElem_toArray, List.getElem_cons_succ, List.getElem_cons_zero, List.setIfInBounds_toArray, List.set_cons_zero, List.set_cons_succ]
      refine wpAnyH_take (i := 6) (v := ?_) rfl (by kernel_rfl) (by kernel_rfl) (by kernel_rfl) (fun _ _ _ h => h) (Or.inl ⟨by rfl, ?_⟩) (by assumption) ?_
      case refine_2 => (intro w hSw; (try dsimp only at hSw); first | (go_simp; done) | (go_simp; with_reducible rfl))
      try simp only [Act.put, List.getElem_toArray, List.getElem_cons_succ, List.getElem_cons_zero, List.setIfInBounds_toArray, List.set_cons_zero, List.set_cons_succ]
      refine wpAnyH_take (i := 7) (v := ?_) rfl (by kernel_rfl) (by kernel_rfl) (by kernel_rfl) (fun _ _ _ h => h) (Or.inl ⟨by rfl, ?_⟩) (by assumption) ?_
      case refine_2 => (intro w hSw; (try dsimp only at hSw); first | (go_simp; done) | (go_simp; with_reducible rfl))
      try simp only [Act.put, List.getElem_toArray, List.getElem_cons_succ, List.getElem_cons_zero, List.setIfInBounds_toArray, List.set_cons_zero, List.set_cons_succ]
      refine wpAnyH_take (i := 8) (v := ?_) rfl (by kernel_rfl) (by kernel_rfl) (by kernel_rfl) (fun _ _ _ h => h) (Or.inl ⟨by rfl, ?_⟩) (by assumption) ?_
      case refine_2 => (intro w hSw; (try dsimp only at hSw); first | (go_simp; done) | (go_simp; with_reducible rfl))
      try simp only [Act.put, List.getElem_toArray, List.getElem_cons_succ, List.getElem_cons_zero, List.setIfInBounds_toArray, List.set_cons_zero, List.set_cons_succ]
      refine wpAnyH_take (i := 9) (v := ?_) rfl (by kernel_rfl) (by kernel_rfl) (by kernel_rfl) (fun _ _ _ h => h) (Or.inl ⟨by rfl, ?_⟩) (by assumption) ?_
      case refine_2 => (intro w hSw; (try dsimp only at hSw); first | (go_simp; done) | (go_simp; with_reducible rfl))
      try simp only [Act.put, List.getElem_toArray, List.getElem_cons_succ, List.getElem_cons_zero, List.setIfInBounds_toArray, List.set_cons_zero, List.set_cons_succ]
      refine wpAnyH_take (i := 10) (v := ?_) rfl (by kernel_rfl) (by kernel_rfl) (by kernel_rfl) (fun _ _ _ h => h) (Or.inl ⟨by rfl, ?_⟩) (by assumption) ?_
      case refine_2 => (intro w hSw; (try dsimp only at hSw); first | (go_simp; done) | (go_simp; with_reducible rfl))
      try simp only [Act.put, List.getElem_toArray, List.getElem_cons_succ, List.getElem_cons_zero, List.setIfInBounds_toArray, List.set_cons_zero, List.set_cons_succ]
      refine wpAnyH_take (i := 11) (v := ?_) rfl (by kernel_rfl) (by kernel_rfl) (by kernel_rfl) (fun _ _ _ h => h) (Or.inl ⟨by rfl, ?_⟩) (by assumption) ?_
      case refine_2 => (intro w hSw; (try dsimp only at hSw); first | (go_simp; done) | (go_simp; with_reducible rfl))
      try simp only [Act.put, List.getElem_toArray, List.getElem_cons_succ, List.getElem_cons_zero, List.setIfInBounds_toArray, List.set_cons_zero, List.set_cons_succ]
      refine wpAnyH_take (i := 12) (v := ?_) rfl (by kernel_rfl) (by kernel_rfl) (by kernel_rfl) (fun _ _ _ h => h) (Or.inl ⟨by rfl, ?_⟩) (by assumption) ?_
      case refine_2 => (intro w hSw; (try dsimp only at hSw); first | (go_simp; done) | (go_simp; with_reducible rfl))
      try simp only [Act.put, List.getElem_toArray, List.getElem_cons_succ, List.getElem_cons_zero, List.setIfInBounds_toArray, List.set_cons_zero, List.set_cons_succ]
      refine wpAnyH_take (i := 13) (v := ?_) rfl (by kernel_rfl) (by kernel_rfl) (by kernel_rfl) (fun _ _ _ h => h) (Or.inl ⟨by rfl, ?_⟩) (by assumption) ?_
      case refine_2 => (intro w hSw; (try dsimp only at hSw); first | (go_simp; done) | (go_simp; with_reducible rfl))
      try simp only [Act.put, List.getElem_toArray, List.getElem_cons_succ, List.getElem_cons_zero, List.setIfInBounds_toArray, List.set_cons_zero, List.set_cons_succ]
      refine wpAnyH_take (i := 14) (v := ?_) rfl (by kernel_rfl) (by kernel_rfl) (by kernel_rfl) (fun _ _ _ h => h) (Or.inl ⟨by rfl, ?_⟩) (by assumption) ?_
      case refine_2 => (intro w hSw; (try dsimp only at hSw); first | (go_simp; done) | (go_simp; with_reducible rfl))
      try simp only [Act.put, List.getElem_toArray, List.getElem_cons_succ, List.getElem_cons_zero, List.setIfInBounds_toArray, List.set_cons_zero, List.set_cons_succ]
      refine wpAnyH_take (i := 15) (v := ?_) rfl (by kernel_rfl) (by kernel_rfl) (by kernel_rfl) (fun _ _ _ h => h) (Or.inl ⟨by rfl, ?_⟩) (by assumption) ?_
      case refine_2 => (intro w hSw; (try dsimp only at hSw); first | (go_simp; done) | (go_simp; with_reducible rfl))
      try simp only [Act.put, List.getElem_toArray, List.getElem_cons_succ, List.getElem_cons_zero, List.setIfInBounds_toArray, List.set_cons_zero, List.set_cons_succ]
      refine wpAnyH_take (i := 16) (v := ?_) rfl (by kernel_rfl) (by kernel_rfl) (by kernel_rfl) (fun _ _ _ h => h) (Or.inl ⟨by rfl, ?_⟩) (by assumption) ?_
      case refine_2 => (intro w hSw; (try dsimp only at hSw); first | (go_simp; done) | (go_simp; with_reducible rfl))
      try simp only [Act.put, List.getElem_toArray, List.getElem_cons_succ, List.getElem_cons_zero, List.setIfInBounds_toArray, List.set_cons_zero, List.set_cons_succ]
      refine wpAnyH_take (i := 17) (v := ?_) rfl (by kernel_rfl) (by kernel_rfl) (by kernel_rfl) (fun _ _ _ h => h) (Or.inl ⟨by rfl, ?_⟩) (by assumption) ?_
      case refine_2 => (intro w hSw; (try dsimp only at hSw); first | (go_simp; done) | (go_simp; with_reducible rfl))
      try simp only [Act.put, List.getElem_toArray, List.getElem_cons_succ, List.getElem_cons_zero, List.setIfInBounds_toArray, List.set_cons_zero, List.set_cons_succ]
      refine wpAnyH_take (i := 18) (v := ?_) rfl (by kernel_rfl) (by kernel_rfl) (by kernel_rfl) (fun _ _ _ h => h) (Or.inl ⟨by rfl, ?_⟩) (by assumption) ?_
      case refine_2 => (intro w hSw; (try dsimp only at hSw); first | (go_simp; done) | (go_simp; with_reducible rfl))
      try simp only [Act.put, List.getElem_toArray, List.getElem_cons_succ, List.getElem_cons_zero, List.setIfInBounds_toArray, List.set_cons_zero, List.set_cons_succ]
      refine wpAnyH_take (i := 19) (v := ?_) rfl (by kernel_rfl) (by kernel_rfl) (by kernel_rfl) (fun _ _ _ h => h) (Or.inl ⟨by rfl, ?_⟩) (by assumption) ?_
      case refine_2 => (intro w hSw; (try dsimp only at hSw); first | (go_simp; done) | (go_simp; with_reducible rfl))
      try simp only [Act.put, List.getElem_toArray, List.getElem_cons_succ, List.getElem_cons_zero, List.setIfInBounds_toArray, List.set_cons_zero, List.set_cons_succ]
      refine wpAnyH_take (i := 20) (v := ?_) rfl (by kernel_rfl) (by kernel_rfl) (by kernel_rfl) (fun _ _ _ h => h) (Or.inl ⟨by rfl, ?_⟩) (by assumption) ?_
      case refine_2 => (intro w hSw; (try dsimp only at hSw); first | (go_simp; done) | (go_simp; with_reducible rfl))
      try simp only [Act.put, List.getElem_toArray, List.getElem_cons_succ, List.getElem_cons_zero, List.setIfInBounds_toArray, List.set_cons_zero, List.set_cons_succ]
      refine wpAnyH_take (i := 21) (v := ?_) rfl (by kernel_rfl) (by kernel_rfl) (by kernel_rfl) (fun _ _ _ h => h) (Or.inl ⟨by rfl, ?_⟩) (by assumption) ?_
      case refine_2 => (intro w hSw; (try dsimp only at hSw); first | (go_simp; done) | (go_simp; with_reducible rfl))
      try simp only [Act.put, List.getElem_toArray, List.getElem_cons_succ, List.getElem_cons_zero, List.setIfInBounds_toArray, List.set_cons_zero, List.set_cons_succ]
      refine wpAnyH_take (i := 22) (v := ?_) rfl (by kernel_rfl) (by kernel_rfl) (by kernel_rfl) (fun _ _ _ h => h) (Or.inl ⟨by rfl, ?_⟩) (by assumption) ?_
      case refine_2 => (intro w hSw; (try dsimp only at hSw); first | (go_simp; done) | (go_simp; with_reducible rfl))
      try simp only [Act.put, List.getElem_toArray, List.getElem_cons_succ, List.getElem_cons_zero, List.setIfInBounds_toArray, List.set_cons_zero, List.set_cons_succ]
      refine wpAnyH_take (i := 23) (v := undef) rfl (by kernel_rfl) (by kernel_rfl) (by kernel_rfl) (fun _ _ _ h => h) (Or.inr ⟨by rfl, rfl⟩) (by assumption) ?_
      try simp only [Act.put, List.getElem_toArray, List.getElem_cons_succ, List.getElem_cons_zero, List.setIfInBounds_toArray, List.set_cons_zero, List.set_cons_succ]
      refine wpAnyH_take (i := 24) (v := undef) rfl (by kernel_rfl) (by kernel_rfl) (by kernel_rfl) (fun _ _ _ h => h) (Or.inr ⟨by rfl, rfl⟩) (by assumption) ?_
      try simp only [Act.put, List.getElem_toArray, List.getElem_cons_succ, List.getElem_cons_zero, List.setIfInBounds_toArray, List.set_cons_zero, List.set_cons_succ]
      refine wpAnyH_take (i := 25) (v := undef) rfl (by kernel_rfl) (by kernel_rfl) (by kernel_rfl) (fun _ _ _ h => h) (Or.inr ⟨by rfl, rfl⟩) (by assumption) ?_
      try simp only [Act.put, List.getElem_toArray, List.getElem_cons_succ, List.getElem_cons_zero, List.setIfInBounds_toArray, List.set_cons_zero, List.set_cons_succ]
      refine wpAnyH_take (i := 26) (v := undef) rfl (by kernel_rfl) (by kernel_rfl) (by kernel_rfl) (fun _ _ _ h => h) (Or.inr ⟨by rfl, rfl⟩) (by assumption) ?_
      try simp only [Act.put, List.getElem_toArray, List.getElem_cons_succ, List.getElem_cons_zero, List.setIfInBounds_toArray, List.set_cons_zero, List.set_cons_succ]
      refine wpAnyH_take (i := 27) (v := undef) rfl (by kernel_rfl) (by kernel_rfl) (by kernel_rfl) (fun _ _ _ h => h) (Or.inr ⟨by rfl, rfl⟩) (by assumption) ?_
      try simp only [Act.put, List.getElem_toArray, List.getElem_cons_succ, List.getElem_cons_zero, List.setIfInBounds_toArray, List.set_cons_zero, List.set_cons_succ]
      refine wpAnyH_take (i := 28) (v := undef) rfl (by kernel_rfl) (by kernel_rfl) (by kernel_rfl) (fun _ _ _ h => h) (Or.inr ⟨by rfl, rfl⟩) (by assumption) ?_
      try simp only [Act.put, List.getElem_toArray, List.getElem_cons_succ, List.getElem_cons_zero, List.setIfInBounds_toArray, List.set_cons_zero, List.set_cons_succ]
      refine wpAnyH_take (i := 29) (v := undef) rfl (by kernel_rfl) (by kernel_rfl) (by kernel_rfl) (fun _ _ _ h => h) (Or.inr ⟨by rfl, rfl⟩) (by assumption) ?_
      try simp only [Act.put, List.getElem_toArray, List.getElem_cons_succ, List.getElem_cons_zero, List.setIfInBounds_toArray, List.set_cons_zero, List.set_cons_succ]
      refine wpAnyH_take (i := 30) (v := undef) rfl (by kernel_rfl) (by kernel_rfl) (by kernel_rfl) (fun _ _ _ h => h) (Or.inr ⟨by rfl, rfl⟩) (by assumption) ?_
      try simp only [Act.put, List.getElem_toArray, List.getElem_cons_succ, List.getElem_cons_zero, List.setIfInBounds_toArray, List.set_cons_zero, List.set_cons_succ]
      refine wpAnyH_take (i := 31) (v := undef) rfl (by kernel_rfl) (by kernel_rfl) (by kernel_rfl) (fun _ _ _ h => h) (Or.inr ⟨by rfl, rfl⟩) (by assumption) ?_
      try simp only [Act.put, List.getElem_toArray, List.getElem_cons_succ, List.getElem_cons_zero, List.setIfInBounds_toArray, List.set_cons_zero, List.set_cons_succ]
      refine wpAnyH_take (i := 32) (v := ?_) rfl (by kernel_rfl) (by kernel_rfl) (by kernel_rfl) (fun _ _ _ h => h) (Or.inl ⟨by rfl, ?_⟩) (by assumption) ?_
      case refine_2 => (intro w hSw; (try dsimp only at hSw); first | (go_simp; done) | (go_simp; with_reducible rfl))
      try simp only [Act.put, List.getElem_toArray, List.getElem_cons_succ, List.getElem_cons_zero, List.setIfInBounds_toArray, List.set_cons_zero, List.set_cons_succ]
      refine wpAnyH_take (i := 33) (v := ?_) rfl (by kernel_rfl) (by kernel_rfl) (by kernel_rfl) (fun _ _ _ h => h) (Or.inl ⟨by rfl, ?_⟩) (by assumption) ?_
      case refine_2 => (intro w hSw; (try dsimp only at hSw); first | (go_simp; done) | (go_simp; with_reducible rfl))
      try simp only [Act.put, List.getElem_toArray, List.getElem_cons_succ, List.getElem_cons_zero, List.setIfInBounds_toArray, List.set_cons_zero, List.set_cons_succ]
      refine wpAnyH_take (i := 34) (v := ?_) rfl (by kernel_rfl) (by kernel_rfl) (by kernel_rfl) (fun _ _ _ h => h) (Or.inl ⟨by rfl, ?_⟩) (by assumption) ?_
      case refine_2 => (intro w hSw; (try dsimp only at hSw); first | (go_simp; done) | (go_simp; with_reducible rfl))
      try simp only [Act.put, List.getElem_toArray, List.getElem_cons_succ, List.getElem_cons_zero, List.setIfInBounds_toArray, List.set_cons_zero, List.set_cons_succ]
      refine wpAnyH_take (i := 35) (v := ?_) rfl (by kernel_rfl) (by kernel_rfl) (by kernel_rfl) (fun _ _ _ h => h) (Or.inl ⟨by rfl, ?_⟩) (by assumption) ?_
      case refine_2 => (intro w hSw; (try dsimp only at hSw); first | (go_simp; done) | (go_simp; with_reducible rfl))
      try simp only [Act.put, List.getElem_toArray, List.getElem_cons_succ, List.getElem_cons_zero, List.setIfInBounds_toArray, List.set_cons_zero, List.set_cons_succ]
      refine wpAnyH_take (i := 36) (v := ?_) rfl (by kernel_rfl) (by kernel_rfl) (by kernel_rfl) (fun _ _ _ h => h) (Or.inl ⟨by rfl, ?_⟩) (by assumption) ?_
      case refine_2 => (intro w hSw; (try dsimp only at hSw); first | (go_simp; done) | (go_simp; with_reducible rfl))
      try simp only [Act.put, List.getElem_toArray, List.getElem_cons_succ, List.getElem_cons_zero, List.setIfInBounds_toArray, List.set_cons_zero, List.set_cons_succ]
      refine wpAnyH_take (i := 37) (v := ?_) rfl (by kernel_rfl) (by kernel_rfl) (by kernel_rfl) (fun _ _ _ h => h) (Or.inl ⟨by rfl, ?_⟩) (by assumption) ?_
      case refine_2 => (intro w hSw; (try dsimp only at hSw); first | (go_simp; done) | (go_simp; with_reducible rfl))
      try simp only [Act.put, List.getElem_toArray, List.getElem_cons_succ, List.getElem_cons_zero, List.setIfInBounds_toArray, List.set_cons_zero, List.set_cons_succ]
      refine wpAnyH_take (i := 38) (v := ?_) rfl (by kernel_rfl) (by kernel_rfl) (by kernel_rfl) (fun _ _ _ h => h) (Or.inl ⟨by rfl, ?_⟩) (by assumption) ?_
      case refine_2 => (intro w hSw; (try dsimp only at hSw); first | (go_simp; done) | (go_simp; with_reducible rfl))
      try simp only [Act.put, List.getElem_toArray, List.getElem_cons_succ, List.getElem_cons_zero, List.setIfInBounds_toArray, List.set_cons_zero, List.set_cons_succ]
      refine wpAnyH_take (i := 39) (v := ?_) rfl (by kernel_rfl) (by kernel_rfl) (by kernel_rfl) (fun _ _ _ h => h) (Or.inl ⟨by rfl, ?_⟩) (by assumption) ?_
      case refine_2 => (intro w hSw; (try dsimp only at hSw); first | (go_simp; done) | (go_simp; with_reducible rfl))
      try simp only [Act.put, List.getElem_toArray, List.getElem_cons_succ, List.getElem_cons_zero, List.setIfInBounds_toArray, List.set_cons_zero, List.set_cons_succ]
      refine wpAnyH_take (i := 40) (v := ?_) rfl (by kernel_rfl) (by kernel_rfl) (by kernel_rfl) (fun _ _ _ h => h) (Or.inl ⟨by rfl, ?_⟩) (by assumption) ?_
      case refine_2 => (intro w hSw; (try dsimp only at hSw); first | (go_simp; done) | (go_simp; with_reducible rfl))
      try simp only [Act.put, List.getElem_toArray, List.getElem_cons_succ, List.getElem_cons_zero, List.setIfInBounds_toArray, List.set_cons_zero, List.set_cons_succ]
      refine wpAnyH_take (i := 41) (v := ?_) rfl (by kernel_rfl) (by kernel_rfl) (by kernel_rfl) (fun _ _ _ h => h) (Or.inl ⟨by rfl, ?_⟩) (by assumption) ?_
      case refine_2 => (intro w hSw; (try dsimp only at hSw); first | (go_simp; done) | (go_simp; with_reducible rfl))
      try simp only [Act.put, List.getElem_toArray, List.getElem_cons_succ, List.getElem_cons_zero, List.setIfInBounds_toArray, List.set_cons_zero, List.set_cons_succ]
      refine wpAnyH_take (i := 42) (v := ?_) rfl (by kernel_rfl) (by kernel_rfl) (by kernel_rfl) (fun _ _ _ h => h) (Or.inl ⟨by rfl, ?_⟩) (by assumption) ?_
      case refine_2 => (intro w hSw; (try dsimp only at hSw); first | (go_simp; done) | (go_simp; with_reducible rfl))
      try simp only [Act.put, List.getElem_toArray, List.getElem_cons_succ, List.getElem_cons_zero, List.setIfInBounds_toArray, List.set_cons_zero, List.set_cons_succ]
      refine wpAnyH_take (i := 43) (v := ?_) rfl (by kernel_rfl) (by kernel_rfl) (by kernel_rfl) (fun _ _ _ h => h) (Or.inl ⟨by rfl, ?_⟩) (by assumption) ?_
      case refine_2 => (intro w hSw; (try dsimp only at hSw); first | (go_simp; done) | (go_simp; with_reducible rfl))
      try simp only [Act.put, List.getElem_toArray, List.getElem_cons_succ, List.getElem_cons_zero, List.setIfInBounds_toArray, List.set_cons_zero, List.set_cons_succ]
      refine wpAnyH_take (i := 44) (v := ?_) rfl (by kernel_rfl) (by kernel_rfl) (by kernel_rfl) (fun _ _ _ h => h) (Or.inl ⟨by rfl, ?_⟩) (by assumption) ?_
      case refine_2 => (intro w hSw; (try dsimp only at hSw); first | (go_simp; done) | (go_simp; with_reducible rfl))
      try simp only [Act.put, List.getElem_toArray, List.getElem_cons_succ, List.getElem_cons_zero, List.setIfInBounds_toArray, List.set_cons_zero, List.set_cons_succ]
      refine wpAnyH_take (i := 45) (v := ?_) rfl (by kernel_rfl) (by kernel_rfl) (by kernel_rfl) (fun _ _ _ h => h) (Or.inl ⟨by rfl, ?_⟩) (by assumption) ?_
      case refine_2 => (intro w hSw; (try dsimp only at hSw); first | (go_simp; done) | (go_simp; with_reducible rfl))
      try simp only [Act.put, List.getElem_toArray, List.getElem_cons_succ, List.getElem_cons_zero, List.setIfInBounds_toArray, List.set_cons_zero, List.set_cons_succ]
      refine wpAnyH_take (i := 47) (v := ?_) rfl (by kernel_rfl) (by kernel_rfl) (by kernel_rfl) (fun _ _ _ h => h) (Or.inl ⟨by rfl, ?_⟩) (by assumption) ?_
      case refine_2 => (intro w hSw; (try dsimp only at hSw); first | (go_simp; done) | (go_simp; with_reducible rfl))
      try simp only [Act.put, List.getElem_toArray, List.getElem_cons_succ, List.getElem_cons_zero, List.setIfInBounds_toArray, List.set_cons_zero, List.set_cons_succ]
      refine wpAnyH_take (i := 48) (v := ?_) rfl (by kernel_rfl) (by kernel_rfl) (by kernel_rfl) (fun _ _ _ h => h) (Or.inl ⟨by rfl, ?_⟩) (by assumption) ?_
      case refine_2 => (intro w hSw; (try dsimp only at hSw); first | (go_simp; done) | (go_simp; with_reducible rfl))
      try simp only [Act.put, List.getElem_toArray, List.getElem_cons_succ, List.getElem_cons_zero, List.setIfInBounds_toArray, List.set_cons_zero, List.set_cons_succ]
      refine wpAnyH_ready (rs := [46]) (by kernel_rfl) (by simp) ?_
      refine AllReadyH.cons rfl (fun K hK => ?_) AllReadyH.nil
      go_simp
      first | (go_at_call 39; ((with_reducible refine (rank_is (H5.out.sh.on (by repeat' (first | exact Below.refl _ _ | with_reducible assumption | omega | with_reducible refine below_put_fut ?_ ?_ _ | with_reducible refine below_to_put ?_ | with_reducible refine Below.alloc ?_ ?_ _ | with_reducible refine Below.fut ?_ ?_ _ | with_reducible refine Below.drew ?_ | with_reducible refine Below.setCell ?_ ?_ _ | with_reducible refine Below.atPut ?_ ?_ _ | (simp [go_sem]; done) | (simp [go_sem]; omega))) H5.out.sh.ge) (by rw [HM.out]; omega) k HK.out).mono ?_)); rintro _ _ ⟨rfl, u6, rfl⟩; rw [HRK.out]) | (go_at_call 40; ((with_reducible refine (sh_count (H5.out.sh.on (by repeat' (first | exact Below.refl _ _ | with_reducible assumption | omega | with_reducible refine below_put_fut ?_ ?_ _ | with_reducible refine below_to_put ?_ | with_reducible refine Below.alloc ?_ ?_ _ | with_reducible refine Below.fut ?_ ?_ _ | with_reducible refine Below.drew ?_ | with_reducible refine Below.setCell ?_ ?_ _ | with_reducible refine Below.atPut ?_ ?_ _ | (simp [go_sem]; done) | (simp [go_sem]; omega))) H5.out.sh.ge) (by rw [HM.out]; omega) ha ha2 hb hb2 na HNA.out).mono ?_)); rintro _ _ ⟨rfl, u7, rfl⟩) | (go_at_call 41; ((with_reducible refine (both_arcLen (H5.out.on (by repeat' (first | exact Below.refl _ _ | with_reducible assumption | omega | with_reducible refine below_put_fut ?_ ?_ _ | with_reducible refine below_to_put ?_ | with_reducible refine Below.alloc ?_ ?_ _ | with_reducible refine Below.fut ?_ ?_ _ | with_reducible refine Below.drew ?_ | with_reducible refine Below.setCell ?_ ?_ _ | with_reducible refine Below.atPut ?_ ?_ _ | (simp [go_sem]; done) | (simp [go_sem]; omega)))) (by rw [HM.out]; omega) HSM.out a b ha ha2 hb hb2 na HNA.out).mono ?_)); rintro _ _ ⟨ao8, c8, u8, rfl, rfl⟩)
      refine hK.out _ _ (by exact HCE.out _ (by repeat' (first | exact Below.refl _ _ | with_reducible assumption | omega | with_reducible refine below_put_fut ?_ ?_ _ | with_reducible refine below_to_put ?_ | with_reducible refine Below.alloc ?_ ?_ _ | with_reducible refine Below.fut ?_ ?_ _ | with_reducible refine Below.drew ?_ | with_reducible refine Below.setCell ?_ ?_ _ | with_reducible refine Below.atPut ?_ ?_ _ | (simp [go_sem]; done) | (simp [go_sem]; omega)))) (fun hHeld => ?_)
      clear hK K
      try simp only [Act.put, List.getElem_toArray, List.getElem_cons_succ, List.getElem_cons_zero, List.setIfInBounds_toArray, List.set_cons_zero, List.set_cons_succ]
      refine wpAnyH_ready (rs := [49]) (by kernel_rfl) (by simp) ?_
      refine AllReadyH.cons rfl (fun K hK => ?_) AllReadyH.nil
      go_simp
      first | (go_at_call 39; ((with_reducible refine (rank_is (H5.out.sh.on (by repeat' (first | exact Below.refl _ _ | with_reducible assumption | omega | with_reducible refine below_put_fut ?_ ?_ _ | with_reducible refine below_to_put ?_ | with_reducible refine Below.alloc ?_ ?_ _ | with_reducible refine Below.fut ?_ ?_ _ | with_reducible refine Below.drew ?_ | with_reducible refine Below.setCell ?_ ?_ _ | with_reducible refine Below.atPut ?_ ?_ _ | (simp [go_sem]; done) | (simp [go_sem]; omega))) H5.out.sh.ge) (by rw [HM.out]; omega) k HK.out).mono ?_)); rintro _ _ ⟨rfl, u6, rfl⟩; rw [HRK.out]) | (go_at_call 40; ((with_reducible refine (sh_count (H5.out.sh.on (by repeat' (first | exact Below.refl _ _ | with_reducible assumption | omega | with_reducible refine below_put_fut ?_ ?_ _ | with_reducible refine below_to_put ?_ | with_reducible refine Below.alloc ?_ ?_ _ | with_reducible refine Below.fut ?_ ?_ _ | with_reducible refine Below.drew ?_ | with_reducible refine Below.setCell ?_ ?_ _ | with_reducible refine Below.atPut ?_ ?_ _ | (simp [go_sem]; done) | (simp [go_sem]; omega))) H5.out.sh.ge) (by rw [HM.out]; omega) ha ha2 hb hb2 na HNA.out).mono ?_)); rintro _ _ ⟨rfl, u7, rfl⟩) | (go_at_call 41; ((with_reducible refine (both_arcLen (H5.out.on (by repeat' (first | exact Below.refl _ _ | with_reducible assumption | omega | with_reducible refine below_put_fut ?_ ?_ _ | with_reducible refine below_to_put ?_ | with_reducible refine Below.alloc ?_ ?_ _ | with_reducible refine Below.fut ?_ ?_ _ | with_reducible refine Below.drew ?_ | with_reducible refine Below.setCell ?_ ?_ _ | with_reducible refine Below.atPut ?_ ?_ _ | (simp [go_sem]; done) | (simp [go_sem]; omega)))) (by rw [HM.out]; omega) HSM.out a b ha ha2 hb hb2 na HNA.out).mono ?_)); rintro _ _ ⟨ao8, c8, u8, rfl, rfl⟩)
      refine hK.out _ _ (by exact HCE.out _ (by repeat' (first | exact Below.refl _ _ | with_reducible assumption | omega | with_reducible refine below_put_fut ?_ ?_ _ | with_reducible refine below_to_put ?_ | with_reducible refine Below.alloc ?_ ?_ _ | with_reducible refine Below.fut ?_ ?_ _ | with_reducible refine Below.drew ?_ | with_reducible refine Below.setCell ?_ ?_ _ | with_reducible refine Below.atPut ?_ ?_ _ | (simp [go_sem]; done) | (simp [go_sem]; omega)))) (fun hHeld => ?_)
      clear hK K
      try simp only [Act.put, List.getElem_toArray, List.getElem_cons_succ, List.getElem_cons_zero, List.setIfInBounds_toArray, List.set_cons_zero, List.set_cons_succ]
      refine wpAnyH_take (i := 50) (v := ?_) rfl (by kernel_rfl) (by kernel_rfl) (by kernel_rfl) (fun _ _ _ h => h) (Or.inl ⟨by rfl, ?_⟩) (by assumption) ?_
      case refine_2 => (intro w hSw; (try dsimp only at hSw); first | (go_simp; done) | (go_simp; with_reducible rfl))
      try simp only [Act.put, List.getElem_toArray, List.getElem_cons_succ, List.getElem_cons_zero, List.setIfInBounds_toArray, List.set_cons_zero, List.set_cons_succ]
      refine wpAnyH_take (i := 51) (v := ?_) rfl (by kernel_rfl) (by kernel_rfl) (by kernel_rfl) (fun _ _ _ h => h) (Or.inl ⟨by rfl, ?_⟩) (by assumption) ?_
      case refine_2 => (intro w hSw; (try dsimp only at hSw); first | (go_simp; done) | (go_simp; with_reducible rfl))
      try simp only [Act.put, List.getElem_toArray, List.getElem_cons_succ, List.getElem_cons_zero, List.setIfInBounds_toArray, List.set_cons_zero, List.set_cons_succ]
      refine wpAnyH_take (i := 52) (v := ?_) rfl (by kernel_rfl) (by kernel_rfl) (by kernel_rfl) (fun _ _ _ h => h) (Or.inl ⟨by rfl, ?_⟩) (by assumption) ?_
      case refine_2 => (intro w hSw; (try dsimp only at hSw); first | (go_simp; done) | (go_simp; with_reducible rfl))
      try simp only [Act.put, List.getElem_toArray, List.getElem_cons_succ, List.getElem_cons_zero, List.setIfInBounds_toArray, List.set_cons_zero, List.set_cons_succ]
      refine wpAnyH_take (i := 53) (v := ?_) rfl (by kernel_rfl) (by kernel_rfl) (by kernel_rfl) (fun _ _ _ h => h) (Or.inl ⟨by rfl, ?_⟩) (by assumption) ?_
      case refine_2 => (intro w hSw; (try dsimp only at hSw); first | (go_simp; done) | (go_simp; with_reducible rfl))
      try simp only [Act.put, List.getElem_toArray, List.getElem_cons_succ, List.getElem_cons_zero, List.setIfInBounds_toArray, List.set_cons_zero, List.set_cons_succ]
      refine wpAnyH_take (i := 54) (v := ?_) rfl (by kernel_rfl) (by kernel_rfl) (by kernel_rfl) (fun _ _ _ h => h) (Or.inl ⟨by rfl, ?_⟩) (by assumption) ?_
      case refine_2 => (intro w hSw; (try dsimp only at hSw); first | (go_simp; done) | (go_simp; with_reducible rfl))
      try simp only [Act.put, List.getElem_toArray, List.getElem_cons_succ, List.getElem_cons_zero, List.setIfInBounds_toArray, List.set_cons_zero, List.set_cons_succ]
      refine wpAnyH_take (i := 55) (v := ?_) rfl (by kernel_rfl) (by kernel_rfl) (by kernel_rfl) (fun _ _ _ h => h) (Or.inl ⟨by rfl, ?_⟩) (by assumption) ?_
      case refine_2 => (intro w hSw; (try dsimp only at hSw); first | (go_simp; done) | (go_simp; with_reducible rfl))
      try simp only [Act.put, List.getElem_toArray, List.getElem_cons_succ, List.getElem_cons_zero, List.setIfInBounds_toArray, List.set_cons_zero, List.set_cons_succ]
      refine wpAnyH_take (i := 56) (v := ?_) rfl (by kernel_rfl) (by kernel_rfl) (by kernel_rfl) (fun _ _ _ h => h) (Or.inl ⟨by rfl, ?_⟩) (by assumption) ?_
      case refine_2 => (intro w hSw; (try dsimp only at hSw); first | (go_simp; done) | (go_simp; with_reducible rfl))
      try simp only [Act.put, List.getElem_toArray, List.getElem_cons_succ, List.getElem_cons_zero, List.setIfInBounds_toArray, List.set_cons_zero, List.set_cons_succ]
      refine wpAnyH_take (i := 57) (v := ?_) rfl (by kernel_rfl) (by kernel_rfl) (by kernel_rfl) (fun _ _ _ h => h) (Or.inl ⟨by rfl, ?_⟩) (by assumption) ?_
      case refine_2 => (intro w hSw; (try dsimp only at hSw); first | (go_simp; done) | (go_simp; with_reducible rfl))
      try simp only [Act.put, List.getElem_toArray, List.getElem_cons_succ, List.getElem_cons_zero, List.setIfInBounds_toArray, List.set_cons_zero, List.set_cons_succ]
      refine wpAnyH_take (i := 58) (v := ?_) rfl (by kernel_rfl) (by kernel_rfl) (by kernel_rfl) (fun _ _ _ h => h) (Or.inl ⟨by rfl, ?_⟩) (by assumption) ?_
      case refine_2 => (intro w hSw; (try dsimp only at hSw); first | (go_simp; done) | (go_simp; with_reducible rfl))
      try simp only [Act.put, List.getElem_toArray, List.getElem_cons_succ, List.getElem_cons_zero, List.setIfInBounds_toArray, List.set_cons_zero, List.set_cons_succ]
      refine wpAnyH_take (i := 59) (v := ?_) rfl (by kernel_rfl) (by kernel_rfl) (by kernel_rfl) (fun _ _ _ h => h) (Or.inl ⟨by rfl, ?_⟩) (by assumption) ?_
      case refine_2 => (intro w hSw; (try dsimp only at hSw); first | (go_simp; done) | (go_simp; with_reducible rfl))
      try simp only [Act.put, List.getElem_toArray, List.getElem_cons_succ, List.getElem_cons_zero, List.setIfInBounds_toArray, List.set_cons_zero, List.set_cons_succ]
      refine wpAnyH_take (i := 60) (v := ?_) rfl (by kernel_rfl) (by kernel_rfl) (by kernel_rfl) (fun _ _ _ h => h) (Or.inl ⟨by rfl, ?_⟩) (by assumption) ?_
      case refine_2 => (intro w hSw; (try dsimp only at hSw); first | (go_simp; done) | (go_simp; with_reducible rfl))
      try simp only [Act.put, List.getElem_toArray, List.getElem_cons_succ, List.getElem_cons_zero, List.setIfInBounds_toArray, List.set_cons_zero, List.set_cons_succ]
      refine wpAnyH_take (i := 61) (v := ?_) rfl (by kernel_rfl) (by kernel_rfl) (by kernel_rfl) (fun _ _ _ h => h) (Or.inl ⟨by rfl, ?_⟩) (by assumption) ?_
      case refine_2 => (intro w hSw; (try dsimp only at hSw); first | (go_simp; done) | (go_simp; with_reducible rfl))
      try simp only [Act.put, List.getElem_toArray, List.getElem_cons_succ, List.getElem_cons_zero, List.setIfInBounds_toArray, List.set_cons_zero, List.set_cons_succ]
      refine wpAnyH_take (i := 62) (v := ?_) rfl (by kernel_rfl) (by kernel_rfl) (by kernel_rfl) (fun _ _ _ h => h) (Or.inl ⟨by rfl, ?_⟩) (by assumption) ?_
      case refine_2 => (intro w hSw; (try dsimp only at hSw); first | (go_simp; done) | (go_simp; with_reducible rfl))
      try simp only [Act.put, List.getElem_toArray, List.getElem_cons_succ, List.getElem_cons_zero, List.setIfInBounds_toArray, List.set_cons_zero, List.set_cons_succ]
      refine wpAnyH_done (by kernel_rfl) ?_ _
      refine NoPanic.normal ?_
      have H8 := hid (H5.out.on (show Below W5.heap.size W5 u8.val from (by repeat' (first | exact Below.refl _ _ | with_reducible assumption | omega | with_reducible refine below_put_fut ?_ ?_ _ | with_reducible refine below_to_put ?_ | with_reducible refine Below.alloc ?_ ?_ _ | with_reducible refine Below.fut ?_ ?_ _ | with_reducible refine Below.drew ?_ | with_reducible refine Below.setCell ?_ ?_ _ | with_reducible refine Below.atPut ?_ ?_ _ | (simp [go_sem]; done) | (simp [go_sem]; omega)))))
      have hc8 : u8.val.heap[w.heap.size]? = some (.cells #[.int .u64 a, .int .u64 b] 38) := ((show Below W5.heap.size W5 u8.val from (by repeat' (first | exact Below.refl _ _ | with_reducible assumption | omega | with_reducible refine below_put_fut ?_ ?_ _ | with_reducible refine below_to_put ?_ | with_reducible refine Below.alloc ?_ ?_ _ | with_reducible refine Below.fut ?_ ?_ _ | with_reducible refine Below.drew ?_ | with_reducible refine Below.setCell ?_ ?_ _ | with_reducible refine Below.atPut ?_ ?_ _ | (simp [go_sem]; done) | (simp [go_sem]; omega)))).block _ l7).trans HC5.out
      generalize u8.val = W8 at H8 hc8 ⊢
      have l8 := lt_of_heap hc8
      have e8 := fun i => cell_of_row W8 w.heap.size i _ _ (0, 0) hc8
      have HCE8 := hid (fun (Y : World) (hY : Below W8.heap.size W8 Y) => show Y.cell? ⟨w.heap.size, 0, none⟩ = some (.int .u64 a) ∧ Y.cell? ⟨w.heap.size, 1, none⟩ = some (.int .u64 b) from ⟨(hY.cell l8).trans (e8 0), (hY.cell l8).trans (e8 1)⟩)
      clear hc8 hHeld HCE
      go_wp2_with fail
      (((with_reducible refine (at_nil _).mono ?_)); rintro _ _ ⟨rfl, u9, rfl⟩)
      go_wp2_with fail
      (((with_reducible refine (middle_nil _ a b hb).mono ?_)); rintro _ _ ⟨rfl, u10, rfl⟩)
      go_wp2_with fail
      have hbw := H8.out.1
      have hzw := H8.out.2.1
      first | (go_region_held3 (fun Y => Y.cell? ⟨w.heap.size, 0, none⟩ = some (.int .u64 a) ∧ Y.cell? ⟨w.heap.size, 1, none⟩ = some (.int .u64 b)) ((refine HCE8.out _ ?_; ((repeat' (first | exact Below.refl _ _ | with_reducible assumption | omega | with_reducible refine below_put_fut ?_ ?_ _ | with_reducible refine below_to_put ?_ | with_reducible refine Below.alloc ?_ ?_ _ | with_reducible refine Below.fut ?_ ?_ _ | with_reducible refine Below.drew ?_ | with_reducible refine Below.setCell ?_ ?_ _ | with_reducible refine Below.atPut ?_ ?_ _ | (simp [go_sem]; done) | (simp [go_sem]; omega))); done))) (first | (go_at_call 39; ((with_reducible refine (rank_nil _ k HK.out).mono ?_)); rintro _ _ ⟨rfl, u11, rfl⟩) | (go_at_call 40; ((with_reducible refine (count_nil _ a b hb).mono ?_)); rintro _ _ ⟨rfl, u12, rfl⟩))) | fail "held3"
      all_goals
        go_wp2_with fail
        go_ret
        exact .mk rfl (hbw.trans (Below.mono (show Below W8.heap.size W8 _ from (by repeat' (first | exact Below.refl _ _ | with_reducible assumption | omega | with_reducible refine below_put_fut ?_ ?_ _ | with_reducible refine below_to_put ?_ | with_reducible refine Below.alloc ?_ ?_ _ | with_reducible refine Below.fut ?_ ?_ _ | with_reducible refine Below.drew ?_ | with_reducible refine Below.setCell ?_ ?_ _ | with_reducible refine Below.atPut ?_ ?_ _ | (simp [go_sem]; done) | (simp [go_sem]; omega)))) hzw))
theorem walkCounts_walk (W : World) (sl : Value) (l : List It) (hl : ItemsAt W sl l) (k : ByteArray) (hk : k.size ≤ maxLen) (i : Int) (wi : (Lit.int .i64 i).wf = true) (a : Int) (wa : (Lit.int .u64 a).wf = true) (b : Int) (wb : (Lit.int .u64 b).wf = true) :
    Calls Try.prog 4 #[sl, .string k, .int .i64 i, .agg #[.int .u64 a, .int .u64 b]] W (Makes (.bool true) W) := by
  have hs := hl.src
  have ha := U64.bd wa
  have hb := U64.bd wb
  obtain ⟨n, hn⟩ : ∃ n, l.length = n := ⟨_, rfl⟩
  rw [hn] at hs
  obtain ⟨ao, cap, rfl⟩ := hs.slice_of
  clear wa wb hl wi
  rcases Nat.lt_or_ge 60 n with c | c
  · have d1 : decide ((60 : Int) < n) = true := by simp; omega
    clear c hn hs ha hb hk
    go_enter Try.func4, Try.ntmps4
    go_wp2_with (first | (go_at_call 33; ((with_reducible refine (wkAlive_any _).mono ?_)); rintro _ _ ⟨rfl, u, rfl⟩; (try (rw [Fut.put_self u (by first | assumption | (simp [go_sem]; done) | (simp [go_sem]; omega))]))) | (((with_reducible refine wp_region_fut_lit (by kernel_rfl) (by kernel_rfl) ?_)); (repeat (go_big_quiet_step ((first | (go_at_call 33; with_reducible exact Calls.fut_of (wkAlive_any _)))))); ((with_reducible refine wpQuiet_nil ?_)); rintro _ ⟨u, rfl⟩; (try (rw [Fut.put_self u (by first | assumption | (simp [go_sem]; done) | (simp [go_sem]; omega))]))))
    go_ret; exact .mk (by first | rfl | (simp; done) | (simp; omega)) (by repeat' (first | exact Below.refl _ _ | with_reducible assumption | omega | with_reducible refine below_put_fut ?_ ?_ _ | with_reducible refine below_to_put ?_ | with_reducible refine Below.alloc ?_ ?_ _ | with_reducible refine Below.fut ?_ ?_ _ | with_reducible refine Below.drew ?_ | with_reducible refine Below.setCell ?_ ?_ _ | with_reducible refine Below.atPut ?_ ?_ _ | (simp [go_sem]; done) | (simp [go_sem]; omega)))
  have d1 : decide ((60 : Int) < n) = false := by simp; omega
  rcases Nat.lt_or_ge 40 k.size with c2 | c2
  · have d2 : decide ((40 : Int) < k.size) = true := by simp; omega
    clear c c2 hn hs ha hb hk
    go_enter Try.func4, Try.ntmps4
    go_wp2_with (first | (go_at_call 33; ((with_reducible refine (wkAlive_any _).mono ?_)); rintro _ _ ⟨rfl, u, rfl⟩; (try (rw [Fut.put_self u (by first | assumption | (simp [go_sem]; done) | (simp [go_sem]; omega))]))) | (((with_reducible refine wp_region_fut_lit (by kernel_rfl) (by kernel_rfl) ?_)); (repeat (go_big_quiet_step ((first | (go_at_call 33; with_reducible exact Calls.fut_of (wkAlive_any _)))))); ((with_reducible refine wpQuiet_nil ?_)); rintro _ ⟨u, rfl⟩; (try (rw [Fut.put_self u (by first | assumption | (simp [go_sem]; done) | (simp [go_sem]; omega))]))))
    go_ret; exact .mk (by first | rfl | (simp; done) | (simp; omega)) (by repeat' (first | exact Below.refl _ _ | with_reducible assumption | omega | with_reducible refine below_put_fut ?_ ?_ _ | with_reducible refine below_to_put ?_ | with_reducible refine Below.alloc ?_ ?_ _ | with_reducible refine Below.fut ?_ ?_ _ | with_reducible refine Below.drew ?_ | with_reducible refine Below.setCell ?_ ?_ _ | with_reducible refine Below.atPut ?_ ?_ _ | (simp [go_sem]; done) | (simp [go_sem]; omega)))
  exact walkCounts_good W _ l n hn c hs k c2 i a b ha.1 (by omega) hb.1 (by omega)
end Go.Proofs.Ythknenhcnpgkcaa
