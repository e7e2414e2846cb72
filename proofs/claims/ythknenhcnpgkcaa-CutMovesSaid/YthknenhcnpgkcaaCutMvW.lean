/- CutMoves answers true for every list of items, every arc and every number: the walk. -/
import Derived.Test.YthknenhcnpgkcaaCut9
import Derived.Test.YthknenhcnpgkcaaMt
import Derived.Deep.RegionHeld3
namespace Go.Proofs.Ythknenhcnpgkcaa
open Go.RowKit Go.Shelf
set_option linter.unusedVariables false
set_option linter.unusedSimpArgs false
theorem outL_value {a b : Int} {xs : List It} (hr : Rises xs) {x : It} (hx : x ∈ xs) : (valueOf x.1 (outL a b xs)).isSome = !inArc a b (adr x) := by
  rw [Bool.eq_iff_iff, isSome_iff, keysOf, List.mem_map]
  constructor
  · rintro ⟨y, hy, e⟩
    obtain ⟨h1, h2⟩ := List.mem_filter.1 hy
    rw [← hr.key_inj h1 hx e]
    exact h2
  · intro h
    exact ⟨x, List.mem_filter.2 ⟨hx, h⟩, rfl⟩
section
variable {a b : Int} (ha : 0 ≤ a) (ha2 : a < 18446744073709551616) (hb : 0 ≤ b) (hb2 : b < 18446744073709551616)
include ha ha2 hb hb2
theorem move_all {most : Int} {xs : List It} (hr : Rises xs) (hok : ∀ x ∈ xs, okIt x) (hm : ((arcL a b xs).length : Int) ≤ most) : (insAll most (arcL a b xs) []).1 = 0 ∧ ∀ x ∈ xs, (valueOf x.1 (inL most (arcL a b xs) [])).isSome = inArc a b (adr x) := by
  obtain ⟨us, q1, q2, q3⟩ := insAll_new (most := most) (arcL a b xs) [] (fun x hx => hok x ((arcL_mem ha ha2 hb hb2).1 hx).1) (arcL_apart ha ha2 hb hb2 hr) (fun x hx z hz => by simp at hz) (by exact List.Pairwise.nil) (by simpa using hm)
  refine ⟨by rw [q1], fun x hx => ?_⟩
  unfold inL
  rw [q1, if_pos rfl, Bool.eq_iff_iff, isSome_iff, keysOf, List.mem_map]
  constructor
  · rintro ⟨y, hy, e⟩
    rcases (q3 y).1 hy with h | h
    · obtain ⟨h1, h2⟩ := (arcL_mem ha ha2 hb hb2).1 h
      rw [← hr.key_inj h1 hx e]
      exact h2
    · simp at h
  · intro h
    exact ⟨x, (q3 x).2 (.inl ((arcL_mem ha ha2 hb hb2).2 ⟨hx, h⟩)), rfl⟩
theorem move_none {most : Int} (h0 : 0 ≤ most) {xs : List It} (hr : Rises xs) (hok : ∀ x ∈ xs, okIt x) (hm : most < ((arcL a b xs).length : Int)) : (insAll most (arcL a b xs) []).1 = 5 ∧ inL most (arcL a b xs) [] = [] := by
  have h5 := insAll_full (most := most) (arcL a b xs) [] (fun x hx => hok x ((arcL_mem ha ha2 hb hb2).1 hx).1) (arcL_apart ha ha2 hb hb2 hr) (fun x hx z hz => by simp at hz) (by simpa using h0) (by simpa using hm)
  refine ⟨h5, ?_⟩
  unfold inL
  rw [if_neg (by rw [h5]; decide)]
theorem out_rest (xs : List It) : (outL a b xs).length + (arcL a b xs).length = xs.length := by
  rw [arcL_len2 ha ha2 hb hb2]
  unfold outL
  induction xs with
  | nil => simp
  | cons y ys ih => cases c : inArc a b (adr y) <;> simp [List.filter_cons, c] <;> omega
end
theorem Held.beside {most : Int} {w W : World} {F : Nat → Prop} {xs : List It} {gs gt : Nat} (h : Held w W (fun k => F k ∨ k = gt) xs gs) (ht : W.heap[gt]? = some (shfObj most 0 (.pointer none))) (hF : ∀ k, F k → k ≠ gt) (hge : w.heap.size ≤ gt) :
    ∃ c top, Shf 200 xs W gs c top ∧ (∀ k, c k ≠ 0 → w.heap.size ≤ k) ∧ HeldM most w W (fun k => F k ∨ c k ≠ 0) [] gt := by
  obtain ⟨h1, h2, h3, c, top, h4, h5, h6⟩ := h
  refine ⟨c, top, h4, h6, h1, h2, by simp, _, _, shf_new most ht, fun k hk => ?_, fun k hk => by rw [one_ne hk]; exact hge⟩
  have hne : k ≠ gt := by
    rcases hk with hk | hk
    · exact hF k hk
    · exact fun e => hk (e ▸ (h5 gt (.inr rfl)).1)
  refine ⟨?_, ?_⟩
  · rcases Nat.eq_zero_or_pos (one gt k) with e | e
    · exact e
    · exact absurd (one_ne (by omega)) hne
  · rcases hk with hk | hk
    · exact (h5 k (.inl hk)).2
    · exact h4.lt k hk
set_option maxRecDepth 100000 in
set_option maxHeartbeats 4000000 in
theorem cutMoves_good (w : World) (sl : Value) (l : List It) (n : Nat) (hl : l.length = n) (hn : n ≤ 60) (hs : Src w 2 sl n (flat l)) (a b : Int) (ha : 0 ≤ a) (ha2 : a < 18446744073709551616) (hb : 0 ≤ b) (hb2 : b < 18446744073709551616) (most : Int) (hm0 : 0 ≤ most) (hm1 : most ≤ 100) :
    Calls Try.prog 23 #[sl, .agg #[.int .u64 a, .int .u64 b], .int .i64 most] w (Makes (.bool true) w) := by
  obtain ⟨ao, cap, rfl⟩ := hs.slice_of
  have d1 : decide ((60 : Int) < n) = false := by simp; omega
  have d2 : decide (most < 0) = false := by simp; omega
  have d3 : decide (100 < most) = false := by simp; omega
  have HS := hid hs
  have HL := hid hl
  clear hs hl
  go_enter Try.func23, Try.ntmps23
  go_wp2_with (first | (go_at_call 60; ((with_reducible refine (cutAlive_any _).mono ?_)); rintro _ _ ⟨rfl, u, rfl⟩; (try (rw [Fut.put_self u (by first | assumption | (simp [go_sem]; done) | (simp [go_sem]; omega))]))) | (((with_reducible refine wp_region_fut_lit (by kernel_rfl) (by kernel_rfl) ?_)); (repeat (go_big_quiet_step ((first | (go_at_call 60; with_reducible exact Calls.fut_of (cutAlive_any _)))))); ((with_reducible refine wpQuiet_nil ?_)); rintro _ ⟨u, rfl⟩; (try (rw [Fut.put_self u (by first | assumption | (simp [go_sem]; done) | (simp [go_sem]; omega))]))))
  clear d1 d2 d3
  have hbX : Below w.heap.size w u.val := (by repeat' (first | exact Below.refl _ _ | with_reducible assumption | omega | with_reducible refine below_put_fut ?_ ?_ _ | with_reducible refine below_to_put ?_ | with_reducible refine Below.alloc ?_ ?_ _ | with_reducible refine Below.fut ?_ ?_ _ | with_reducible refine Below.drew ?_ | with_reducible refine Below.setCell ?_ ?_ _ | with_reducible refine Below.atPut ?_ ?_ _ | (simp [go_sem]; done) | (simp [go_sem]; omega)))
  have hzX := hbX.size
  have hc7 := (u.below.block w.heap.size (by simp)).trans (heap_alloc_at w (.cells #[.int .u64 a, .int .u64 b] 38) _ rfl)
  generalize u.val = X at hbX hzX hc7 ⊢
  have hwX := lt_of_heap hc7
  refine (filled_is X _ l n HL.out (by omega) (HS.out.heap hbX)).mono ?_
  rintro _ W1 ⟨gs, gr, rfl, hb1⟩
  have hxl := fillL_len l
  have hok := hid (okIt_fill l)
  have hbW1 := hb1.1
  generalize fillL l = xs at hb1 hxl hok
  rw [HL.out] at hxl
  have HRI := hid hb1.2.2.1
  obtain ⟨m, hm⟩ : ∃ m, xs.length = m := ⟨_, rfl⟩
  have HM := hid hm
  rw [hm] at hxl
  obtain ⟨v, r1, r2, r3, r4, r5⟩ := hb1.held (by omega)
  rw [hm] at r2
  obtain ⟨va, vc, rfl⟩ := owns_slice r2
  have H1 := hid (held_base r5 hbX hzX)
  have R1 := hid r1
  have R2 := hid r2
  have jc := hid ((hbW1.block _ (lt_of_heap hc7)).trans hc7)
  obtain ⟨n1, hn1⟩ : ∃ n1, (arcL a b xs).length = n1 := ⟨_, rfl⟩
  have hn1l : n1 ≤ 60 := by have := arcL_len_le ha ha2 hb hb2 xs; omega
  have HN1 := hid hn1
  clear hb1 r1 r2 r4 r5 hbW1 hc7 hn1 hm HS HL hzX hbX r3
  go_wp2_with fail
  refine (new_is W1 most most (by omega)).mono ?_
  rintro _ _ ⟨rfl, rfl⟩
  have hbV : Below W1.heap.size W1 (W1.alloc (shfObj most 0 (.pointer none))) := (by repeat' (first | exact Below.refl _ _ | with_reducible assumption | omega | with_reducible refine below_put_fut ?_ ?_ _ | with_reducible refine below_to_put ?_ | with_reducible refine Below.alloc ?_ ?_ _ | with_reducible refine Below.fut ?_ ?_ _ | with_reducible refine Below.drew ?_ | with_reducible refine Below.setCell ?_ ?_ _ | with_reducible refine Below.atPut ?_ ?_ _ | (simp [go_sem]; done) | (simp [go_sem]; omega)))
  have HTV := hid (heap_alloc_at W1 (shfObj most 0 (.pointer none)) _ rfl)
  have HV := hid (show Held w (W1.alloc (shfObj most 0 (.pointer none))) (fun k => ((k = gr ∨ blk (.slice va m vc) k ≠ 0) ∨ k < X.heap.size) ∨ k = W1.heap.size) xs gs from H1.out.turn (Chg.of_below hbV) (fun k hk => by
    rcases hk with hk | hk
    · refine ⟨?_, fun _ => hk⟩
      obtain ⟨_, _, _, c', top', _, q, _⟩ := H1.out
      exact Nat.lt_of_lt_of_le (q k hk).2 hbV.size
    · exact ⟨by rw [hk]; simp, fun e => by omega⟩))
  have RV1 := hid ((hbV.block _ (lt_of_heap R1.out)).trans R1.out)
  have RV2 := hid (R2.out.keep (W' := W1.alloc (shfObj most 0 (.pointer none))) fun k hk => hbV.block k (R2.out.lt hk))
  have jV := (hbV.block _ (lt_of_heap jc.out)).trans jc.out
  have HNE := hid (show ∀ k, ((k = gr ∨ blk (.slice va m vc) k ≠ 0) ∨ k < X.heap.size) → k < W1.heap.size from fun k hk => by
    obtain ⟨_, _, _, c', top', _, q, _⟩ := H1.out
    exact (q k hk).2)
  have hgt : w.heap.size ≤ W1.heap.size := H1.out.2.1
  generalize hgtd : W1.heap.size = gt at HTV HV HNE hgt ⊢
  generalize W1.alloc (shfObj most 0 (.pointer none)) = V at HTV HV RV1 RV2 jV ⊢
  have e1 := fun i => cell_of_row V w.heap.size i _ _ (0, 0) jV
  have l1 := lt_of_heap jV
  clear H1 R1 R2 hbV hgtd jc
  go_wp2_with fail
  refine (cutOut_is HV.out a b ha ha2 hb hb2 n1 HN1.out).mono ?_
  rintro _ W2 ⟨a2, c2, rfl, o1, o2, o3, o4⟩
  have HO := hid o1
  have HTW := (o3 gt (.inr rfl)).trans HTV.out
  have hgtV := lt_of_heap HTV.out
  obtain ⟨cs, ts, hs1, hs2, hs3⟩ := Held.beside (F := fun k => ((k = gr ∨ blk (.slice va m vc) k ≠ 0) ∨ k < X.heap.size) ∨ blk (.slice a2 n1 c2) k ≠ 0) (gt := gt) (o2.sub fun k hk => by rcases hk with (hk | hk) | hk <;> simp [hk]) HTW (fun k hk => by
    rcases hk with hk | hk
    · have := HNE.out k hk; omega
    · intro e; subst e; exact hk (o4 k hgtV)) hgt
  have HSS := hid (And.intro hs1 hs2)
  have HIN := hid hs3
  have RW1 := hid ((o3 gr (.inl (.inl (.inl rfl)))).trans RV1.out)
  have RW2 := hid (RV2.out.keep (W' := W2) fun k hk => o3 k (.inl (.inl (.inr hk))))
  have jW := hid ((o3 w.heap.size (.inl (.inr hwX))).trans jV)
  clear o1 o2 o3 o4 hs1 hs2 hs3 HTW hgtV HV HTV RV1 RV2 jV e1 l1 HNE
  go_wp2_with fail
  obtain ⟨e, zs, hez, hlaw⟩ : ∃ e zs, (insAll most (arcL a b xs) []).1 = e ∧ inL most (arcL a b xs) [] = zs := ⟨_, _, rfl, rfl⟩
  have HEZ := hid (And.intro hez hlaw)
  clear hez hlaw
  refine (cutIn_is (by omega) HIN.out _ (arcL a b xs) n1 HN1.out (by omega) (fun Y hY => (HO.out.keep fun k hk => hY k (.inl (.inr hk))).src (flat_one _)) e HEZ.out.1).mono ?_
  rintro _ W3 ⟨rfl, hh3, hk3⟩
  rw [HEZ.out.2] at hh3
  have HB3 := hid (And.intro hh3.1 hh3.2.1)
  have T3 := hid hh3.sh
  have S3 := hid (show Sh w.heap.size w 200 (outL a b xs) gs W3 from ⟨hh3.1, cs, ts, HSS.out.1.keep fun k hk => hk3 k (.inr hk), HSS.out.2⟩)
  have R3 := hid ((RW2.out.keep (W' := W3) fun k hk => hk3 k (.inl (.inl (.inl (.inr hk))))).src (flat_one _))
  have G3 := hid ((hk3 gr (.inl (.inl (.inl (.inl rfl))))).trans RW1.out)
  have C3 := hid ((hk3 w.heap.size (.inl (.inl (.inr hwX)))).trans jW.out)
  have HSMx := hid (fun x (hx : x ∈ xs) => show x.1.size ≤ maxLen from by have := (hok.out x hx).2.1; unfold maxLen; omega)
  have HLO := hid (out_rest ha ha2 hb hb2 xs)
  clear hh3 hk3 HIN HSS RW1 RW2 jW HO hwX hgt
  have eg := fun i => cell_of_row W3 gr i _ _ (0, 0) G3.out
  have lg := lt_of_heap G3.out
  by_cases hc : (n1 : Int) ≤ most
  · have dn : decide ((n1 : Int) ≤ most) = true := by simp; omega
    have hmv := move_all ha ha2 hb hb2 HRI.out hok.out (most := most) (by rw [HN1.out]; exact hc)
    rw [HEZ.out.1, HEZ.out.2] at hmv
    obtain ⟨rfl, hmv⟩ := hmv
    have HMV := hid hmv
    clear hmv hc HEZ
    go_wp2_with fail
    clear eg lg dn
    have HBE := hid (Below.refl W3.heap.size W3)
    go_loopw [79] (fun x wr => ∃ i : Nat, i ≤ m ∧ x = .int .i64 i ∧ Hid (Below W3.heap.size W3 wr)) (fun x _ => m - (intOf x).toNat)
    case atStart => exact ⟨0, Nat.zero_le _, rfl, HBE⟩
    case round =>
      clear HBE
      obtain ⟨i, hi, rfl, HB⟩ := hrel
      have Sr := hid (S3.out.on HB.out S3.out.ge)
      have Tr := hid (T3.out.on HB.out T3.out.ge)
      have cr := (HB.out.block _ (lt_of_heap C3.out)).trans C3.out
      have gr' := (HB.out.block _ (lt_of_heap G3.out)).trans G3.out
      have ec := fun i => cell_of_row wr w.heap.size i _ _ (0, 0) cr
      have lc := lt_of_heap cr
      by_cases hlt : i < m
      · obtain ⟨x, hx⟩ : ∃ x, xs[i]? = some x := ⟨_, List.getElem?_eq_getElem (by rw [HM.out]; exact hlt)⟩
        obtain ⟨rb, ro, rfl, c1, c2, c3⟩ := (show Src wr 2 (.slice va xs.length vc) xs.length (flat xs) by rw [HM.out]; exact R3.out.heap HB.out).at_ i x hx
        have lr : rb < wr.heap.size := World.block_lt_of_cell? _ _ c1
        have HXM := hid (List.mem_of_getElem? hx)
        have HXS := hid (HSMx.out x HXM.out)
        have hv1 := outL_value (a := a) (b := b) HRI.out HXM.out
        have hv2 := HMV.out x HXM.out
        obtain ⟨g1, hg1⟩ : ∃ g1, (valueOf x.1 (outL a b xs)).getD ⟨#[]⟩ = g1 := ⟨_, rfl⟩
        obtain ⟨g2, hg2⟩ : ∃ g2, (valueOf x.1 zs).getD ⟨#[]⟩ = g2 := ⟨_, rfl⟩
        have HG1 := hid hg1
        have HG2 := hid hg2
        clear hx hg1 hg2 gr'
        obtain ⟨s1, t1⟩ := x
        simp only at c1 c2 c3 HXS HG1 HG2 hv1 hv2
        cases hin : inArc a b (adr (s1, t1)) with
        | true =>
          rw [hin] at hv1; (try rw [hin] at hv2)
          have HV1 := hid hv1
          have HV2 := hid hv2
          have HIN := hid (show inArc a b ((addrN s1.data.toList : Nat) : Int) = true from hin)
          clear hv1 hv2 hin
          go_wp2_with fail
          (((with_reducible refine (sh_get (Sr.out.on (W' := wr.alloc (.cells #[.string s1, .string t1] 34)) (by repeat' (first | exact Below.refl _ _ | with_reducible assumption | omega | with_reducible refine below_put_fut ?_ ?_ _ | with_reducible refine below_to_put ?_ | with_reducible refine Below.alloc ?_ ?_ _ | with_reducible refine Below.fut ?_ ?_ _ | with_reducible refine Below.drew ?_ | with_reducible refine Below.setCell ?_ ?_ _ | with_reducible refine Below.atPut ?_ ?_ _ | (simp [go_sem]; done) | (simp [go_sem]; omega))) Sr.out.ge) s1 HXS.out g1 _ HG1.out HV1.out).mono ?_)); rintro _ _ ⟨rfl, u1, rfl⟩)
          go_wp2_with fail
          (((with_reducible refine (sh_get (Tr.out.on (W' := u1.val) (by repeat' (first | exact Below.refl _ _ | with_reducible assumption | omega | with_reducible refine below_put_fut ?_ ?_ _ | with_reducible refine below_to_put ?_ | with_reducible refine Below.alloc ?_ ?_ _ | with_reducible refine Below.fut ?_ ?_ _ | with_reducible refine Below.drew ?_ | with_reducible refine Below.setCell ?_ ?_ _ | with_reducible refine Below.atPut ?_ ?_ _ | (simp [go_sem]; done) | (simp [go_sem]; omega))) Tr.out.ge) s1 HXS.out g2 _ HG2.out HV2.out).mono ?_)); rintro _ _ ⟨rfl, u2, rfl⟩)
          go_wp2_with (first | (go_at_call 68; ((with_reducible refine (refAddr_is s1 HXS.out _ rfl _).mono ?_)); rintro _ _ ⟨rfl, u, rfl⟩; (try (rw [Fut.put_self u (by first | assumption | (simp [go_sem]; done) | (simp [go_sem]; omega))]))) | (go_at_call 67; ((with_reducible refine (refIn_is a b _ _ HIN.out _).mono ?_)); rintro _ _ ⟨rfl, u, rfl⟩; (try (rw [Fut.put_self u (by first | assumption | (simp [go_sem]; done) | (simp [go_sem]; omega))]))) | (((with_reducible refine wp_region_fut_lit (by kernel_rfl) (by kernel_rfl) ?_)); (repeat (go_big_quiet_step ((first | (go_at_call 68; with_reducible exact Calls.fut_of (refAddr_is s1 HXS.out _ rfl _)) | (go_at_call 67; with_reducible exact Calls.fut_of (refIn_is a b _ _ HIN.out _)))))); ((with_reducible refine wpQuiet_nil ?_)); rintro _ ⟨u, rfl⟩; (try (rw [Fut.put_self u (by first | assumption | (simp [go_sem]; done) | (simp [go_sem]; omega))]))))
          go_roundw
          case rel => exact ⟨i + 1, by omega, by go_num, hid (HB.out.trans (Below.mono (by repeat' (first | exact Below.refl _ _ | with_reducible assumption | omega | with_reducible refine below_put_fut ?_ ?_ _ | with_reducible refine below_to_put ?_ | with_reducible refine Below.alloc ?_ ?_ _ | with_reducible refine Below.fut ?_ ?_ _ | with_reducible refine Below.drew ?_ | with_reducible refine Below.setCell ?_ ?_ _ | with_reducible refine Below.atPut ?_ ?_ _ | (simp [go_sem]; done) | (simp [go_sem]; omega))) HB.out.size))⟩
          case measure => simp [intOf]; omega
        | false =>
          rw [hin] at hv1; (try rw [hin] at hv2)
          have HV1 := hid hv1
          have HV2 := hid hv2
          have HIN := hid (show inArc a b ((addrN s1.data.toList : Nat) : Int) = false from hin)
          clear hv1 hv2 hin
          go_wp2_with fail
          (((with_reducible refine (sh_get (Sr.out.on (W' := wr.alloc (.cells #[.string s1, .string t1] 34)) (by repeat' (first | exact Below.refl _ _ | with_reducible assumption | omega | with_reducible refine below_put_fut ?_ ?_ _ | with_reducible refine below_to_put ?_ | with_reducible refine Below.alloc ?_ ?_ _ | with_reducible refine Below.fut ?_ ?_ _ | with_reducible refine Below.drew ?_ | with_reducible refine Below.setCell ?_ ?_ _ | with_reducible refine Below.atPut ?_ ?_ _ | (simp [go_sem]; done) | (simp [go_sem]; omega))) Sr.out.ge) s1 HXS.out g1 _ HG1.out HV1.out).mono ?_)); rintro _ _ ⟨rfl, u1, rfl⟩)
          go_wp2_with fail
          (((with_reducible refine (sh_get (Tr.out.on (W' := u1.val) (by repeat' (first | exact Below.refl _ _ | with_reducible assumption | omega | with_reducible refine below_put_fut ?_ ?_ _ | with_reducible refine below_to_put ?_ | with_reducible refine Below.alloc ?_ ?_ _ | with_reducible refine Below.fut ?_ ?_ _ | with_reducible refine Below.drew ?_ | with_reducible refine Below.setCell ?_ ?_ _ | with_reducible refine Below.atPut ?_ ?_ _ | (simp [go_sem]; done) | (simp [go_sem]; omega))) Tr.out.ge) s1 HXS.out g2 _ HG2.out HV2.out).mono ?_)); rintro _ _ ⟨rfl, u2, rfl⟩)
          go_wp2_with (first | (go_at_call 68; ((with_reducible refine (refAddr_is s1 HXS.out _ rfl _).mono ?_)); rintro _ _ ⟨rfl, u, rfl⟩; (try (rw [Fut.put_self u (by first | assumption | (simp [go_sem]; done) | (simp [go_sem]; omega))]))) | (go_at_call 67; ((with_reducible refine (refIn_is a b _ _ HIN.out _).mono ?_)); rintro _ _ ⟨rfl, u, rfl⟩; (try (rw [Fut.put_self u (by first | assumption | (simp [go_sem]; done) | (simp [go_sem]; omega))]))) | (((with_reducible refine wp_region_fut_lit (by kernel_rfl) (by kernel_rfl) ?_)); (repeat (go_big_quiet_step ((first | (go_at_call 68; with_reducible exact Calls.fut_of (refAddr_is s1 HXS.out _ rfl _)) | (go_at_call 67; with_reducible exact Calls.fut_of (refIn_is a b _ _ HIN.out _)))))); ((with_reducible refine wpQuiet_nil ?_)); rintro _ ⟨u, rfl⟩; (try (rw [Fut.put_self u (by first | assumption | (simp [go_sem]; done) | (simp [go_sem]; omega))]))))
          go_roundw
          case rel => exact ⟨i + 1, by omega, by go_num, hid (HB.out.trans (Below.mono (by repeat' (first | exact Below.refl _ _ | with_reducible assumption | omega | with_reducible refine below_put_fut ?_ ?_ _ | with_reducible refine below_to_put ?_ | with_reducible refine Below.alloc ?_ ?_ _ | with_reducible refine Below.fut ?_ ?_ _ | with_reducible refine Below.drew ?_ | with_reducible refine Below.setCell ?_ ?_ _ | with_reducible refine Below.atPut ?_ ?_ _ | (simp [go_sem]; done) | (simp [go_sem]; omega))) HB.out.size))⟩
          case measure => simp [intOf]; omega
      · obtain rfl : i = m := by omega
        have er := fun i => cell_of_row wr gr i _ _ (0, 0) gr'
        have lgr := lt_of_heap gr'
        obtain ⟨n2, hn2⟩ : ∃ n2, (outL a b xs).length = n2 := ⟨_, rfl⟩
        have hsum : n2 + n1 = i := by rw [← hn2, ← HN1.out, ← HM.out]; exact HLO.out
        have ew : IntKind.i64.wrap ((n2 : Int) + (n1 : Int)) = (i : Int) := by rw [show (n2 : Int) + (n1 : Int) = (i : Int) by omega]; exact IntWalk.i64_in _ (by omega)
        have HN2 := hid hn2
        have hbw := HB3.out.1.trans (HB.out.mono HB3.out.2)
        have hzw := HB3.out.2
        have hzr := HB.out.size
        clear hn2 hsum
        go_wp2_with (first | (go_at_call 32; ((with_reducible refine (sh_len (Sr.out.on (by repeat' (first | exact Below.refl _ _ | with_reducible assumption | omega | with_reducible refine below_put_fut ?_ ?_ _ | with_reducible refine below_to_put ?_ | with_reducible refine Below.alloc ?_ ?_ _ | with_reducible refine Below.fut ?_ ?_ _ | with_reducible refine Below.drew ?_ | with_reducible refine Below.setCell ?_ ?_ _ | with_reducible refine Below.atPut ?_ ?_ _ | (simp [go_sem]; done) | (simp [go_sem]; omega))) Sr.out.ge) n2 HN2.out).mono ?_)); rintro _ _ ⟨rfl, u, rfl⟩; (try (rw [Fut.put_self u (by first | assumption | (simp [go_sem]; done) | (simp [go_sem]; omega))]))) | (((with_reducible refine wp_region_fut_lit (by kernel_rfl) (by kernel_rfl) ?_)); (repeat (go_big_quiet_step ((first | (go_at_call 32; with_reducible exact Calls.fut_of (sh_len (Sr.out.on (by repeat' (first | exact Below.refl _ _ | with_reducible assumption | omega | with_reducible refine below_put_fut ?_ ?_ _ | with_reducible refine below_to_put ?_ | with_reducible refine Below.alloc ?_ ?_ _ | with_reducible refine Below.fut ?_ ?_ _ | with_reducible refine Below.drew ?_ | with_reducible refine Below.setCell ?_ ?_ _ | with_reducible refine Below.atPut ?_ ?_ _ | (simp [go_sem]; done) | (simp [go_sem]; omega))) Sr.out.ge) n2 HN2.out)))))); ((with_reducible refine wpQuiet_nil ?_)); rintro _ ⟨u, rfl⟩; (try (rw [Fut.put_self u (by first | assumption | (simp [go_sem]; done) | (simp [go_sem]; omega))]))))
        go_ret
        exact .mk rfl (hbw.trans (Below.mono (by repeat' (first | exact Below.refl _ _ | with_reducible assumption | omega | with_reducible refine below_put_fut ?_ ?_ _ | with_reducible refine below_to_put ?_ | with_reducible refine Below.alloc ?_ ?_ _ | with_reducible refine Below.fut ?_ ?_ _ | with_reducible refine Below.drew ?_ | with_reducible refine Below.setCell ?_ ?_ _ | with_reducible refine Below.atPut ?_ ?_ _ | (simp [go_sem]; done) | (simp [go_sem]; omega))) (Nat.le_trans hzw hzr)))
  · have dn : decide ((n1 : Int) ≤ most) = false := by simp; omega
    have hmv := move_none ha ha2 hb hb2 hm0 HRI.out hok.out (most := most) (by rw [HN1.out]; omega)
    rw [HEZ.out.1, HEZ.out.2] at hmv
    obtain ⟨rfl, rfl⟩ := hmv
    clear hc HEZ
    go_wp2_with fail
    (((with_reducible refine (sh_len T3.out 0 rfl).mono ?_)); rintro _ _ ⟨rfl, u9, rfl⟩)
    have HBE := hid u9.below
    have eg9 := fun i => cell_of_row u9.val gr i _ _ (0, 0) ((u9.below.block _ lg).trans G3.out)
    generalize u9.val = W9 at HBE eg9 ⊢
    clear eg lg dn
    go_wp2_with fail
    clear eg9
    go_loopw [79] (fun x wr => ∃ i : Nat, i ≤ m ∧ x = .int .i64 i ∧ Hid (Below W3.heap.size W3 wr)) (fun x _ => m - (intOf x).toNat)
    case atStart => exact ⟨0, Nat.zero_le _, rfl, HBE⟩
    case round =>
      clear HBE
      obtain ⟨i, hi, rfl, HB⟩ := hrel
      have Sr := hid (S3.out.on HB.out S3.out.ge)
      have Tr := hid (T3.out.on HB.out T3.out.ge)
      have cr := (HB.out.block _ (lt_of_heap C3.out)).trans C3.out
      have gr' := (HB.out.block _ (lt_of_heap G3.out)).trans G3.out
      have ec := fun i => cell_of_row wr w.heap.size i _ _ (0, 0) cr
      have lc := lt_of_heap cr
      by_cases hlt : i < m
      · obtain ⟨x, hx⟩ : ∃ x, xs[i]? = some x := ⟨_, List.getElem?_eq_getElem (by rw [HM.out]; exact hlt)⟩
        obtain ⟨rb, ro, rfl, c1, c2, c3⟩ := (show Src wr 2 (.slice va xs.length vc) xs.length (flat xs) by rw [HM.out]; exact R3.out.heap HB.out).at_ i x hx
        have lr : rb < wr.heap.size := World.block_lt_of_cell? _ _ c1
        have HXM := hid (List.mem_of_getElem? hx)
        have HXS := hid (HSMx.out x HXM.out)
        have hv1 := outL_value (a := a) (b := b) HRI.out HXM.out
        have hv2 := (show (valueOf x.1 ([] : List It)).isSome = false from rfl)
        obtain ⟨g1, hg1⟩ : ∃ g1, (valueOf x.1 (outL a b xs)).getD ⟨#[]⟩ = g1 := ⟨_, rfl⟩
        obtain ⟨g2, hg2⟩ : ∃ g2, (valueOf x.1 []).getD ⟨#[]⟩ = g2 := ⟨_, rfl⟩
        have HG1 := hid hg1
        have HG2 := hid hg2
        clear hx hg1 hg2 gr'
        obtain ⟨s1, t1⟩ := x
        simp only at c1 c2 c3 HXS HG1 HG2 hv1 hv2
        cases hin : inArc a b (adr (s1, t1)) with
        | true =>
          rw [hin] at hv1; (try rw [hin] at hv2)
          have HV1 := hid hv1
          have HV2 := hid hv2
          have HIN := hid (show inArc a b ((addrN s1.data.toList : Nat) : Int) = true from hin)
          clear hv1 hv2 hin
          go_wp2_with fail
          (((with_reducible refine (sh_get (Sr.out.on (W' := wr.alloc (.cells #[.string s1, .string t1] 34)) (by repeat' (first | exact Below.refl _ _ | with_reducible assumption | omega | with_reducible refine below_put_fut ?_ ?_ _ | with_reducible refine below_to_put ?_ | with_reducible refine Below.alloc ?_ ?_ _ | with_reducible refine Below.fut ?_ ?_ _ | with_reducible refine Below.drew ?_ | with_reducible refine Below.setCell ?_ ?_ _ | with_reducible refine Below.atPut ?_ ?_ _ | (simp [go_sem]; done) | (simp [go_sem]; omega))) Sr.out.ge) s1 HXS.out g1 _ HG1.out HV1.out).mono ?_)); rintro _ _ ⟨rfl, u1, rfl⟩)
          go_wp2_with fail
          (((with_reducible refine (sh_get (Tr.out.on (W' := u1.val) (by repeat' (first | exact Below.refl _ _ | with_reducible assumption | omega | with_reducible refine below_put_fut ?_ ?_ _ | with_reducible refine below_to_put ?_ | with_reducible refine Below.alloc ?_ ?_ _ | with_reducible refine Below.fut ?_ ?_ _ | with_reducible refine Below.drew ?_ | with_reducible refine Below.setCell ?_ ?_ _ | with_reducible refine Below.atPut ?_ ?_ _ | (simp [go_sem]; done) | (simp [go_sem]; omega))) Tr.out.ge) s1 HXS.out g2 _ HG2.out HV2.out).mono ?_)); rintro _ _ ⟨rfl, u2, rfl⟩)
          go_wp2_with (first | (go_at_call 68; ((with_reducible refine (refAddr_is s1 HXS.out _ rfl _).mono ?_)); rintro _ _ ⟨rfl, u, rfl⟩; (try (rw [Fut.put_self u (by first | assumption | (simp [go_sem]; done) | (simp [go_sem]; omega))]))) | (go_at_call 67; ((with_reducible refine (refIn_is a b _ _ HIN.out _).mono ?_)); rintro _ _ ⟨rfl, u, rfl⟩; (try (rw [Fut.put_self u (by first | assumption | (simp [go_sem]; done) | (simp [go_sem]; omega))]))) | (((with_reducible refine wp_region_fut_lit (by kernel_rfl) (by kernel_rfl) ?_)); (repeat (go_big_quiet_step ((first | (go_at_call 68; with_reducible exact Calls.fut_of (refAddr_is s1 HXS.out _ rfl _)) | (go_at_call 67; with_reducible exact Calls.fut_of (refIn_is a b _ _ HIN.out _)))))); ((with_reducible refine wpQuiet_nil ?_)); rintro _ ⟨u, rfl⟩; (try (rw [Fut.put_self u (by first | assumption | (simp [go_sem]; done) | (simp [go_sem]; omega))]))))
          go_roundw
          case rel => exact ⟨i + 1, by omega, by go_num, hid (HB.out.trans (Below.mono (by repeat' (first | exact Below.refl _ _ | with_reducible assumption | omega | with_reducible refine below_put_fut ?_ ?_ _ | with_reducible refine below_to_put ?_ | with_reducible refine Below.alloc ?_ ?_ _ | with_reducible refine Below.fut ?_ ?_ _ | with_reducible refine Below.drew ?_ | with_reducible refine Below.setCell ?_ ?_ _ | with_reducible refine Below.atPut ?_ ?_ _ | (simp [go_sem]; done) | (simp [go_sem]; omega))) HB.out.size))⟩
          case measure => simp [intOf]; omega
        | false =>
          rw [hin] at hv1; (try rw [hin] at hv2)
          have HV1 := hid hv1
          have HV2 := hid hv2
          have HIN := hid (show inArc a b ((addrN s1.data.toList : Nat) : Int) = false from hin)
          clear hv1 hv2 hin
          go_wp2_with fail
          (((with_reducible refine (sh_get (Sr.out.on (W' := wr.alloc (.cells #[.string s1, .string t1] 34)) (by repeat' (first | exact Below.refl _ _ | with_reducible assumption | omega | with_reducible refine below_put_fut ?_ ?_ _ | with_reducible refine below_to_put ?_ | with_reducible refine Below.alloc ?_ ?_ _ | with_reducible refine Below.fut ?_ ?_ _ | with_reducible refine Below.drew ?_ | with_reducible refine Below.setCell ?_ ?_ _ | with_reducible refine Below.atPut ?_ ?_ _ | (simp [go_sem]; done) | (simp [go_sem]; omega))) Sr.out.ge) s1 HXS.out g1 _ HG1.out HV1.out).mono ?_)); rintro _ _ ⟨rfl, u1, rfl⟩)
          go_wp2_with fail
          (((with_reducible refine (sh_get (Tr.out.on (W' := u1.val) (by repeat' (first | exact Below.refl _ _ | with_reducible assumption | omega | with_reducible refine below_put_fut ?_ ?_ _ | with_reducible refine below_to_put ?_ | with_reducible refine Below.alloc ?_ ?_ _ | with_reducible refine Below.fut ?_ ?_ _ | with_reducible refine Below.drew ?_ | with_reducible refine Below.setCell ?_ ?_ _ | with_reducible refine Below.atPut ?_ ?_ _ | (simp [go_sem]; done) | (simp [go_sem]; omega))) Tr.out.ge) s1 HXS.out g2 _ HG2.out HV2.out).mono ?_)); rintro _ _ ⟨rfl, u2, rfl⟩)
          go_wp2_with (first | (go_at_call 68; ((with_reducible refine (refAddr_is s1 HXS.out _ rfl _).mono ?_)); rintro _ _ ⟨rfl, u, rfl⟩; (try (rw [Fut.put_self u (by first | assumption | (simp [go_sem]; done) | (simp [go_sem]; omega))]))) | (go_at_call 67; ((with_reducible refine (refIn_is a b _ _ HIN.out _).mono ?_)); rintro _ _ ⟨rfl, u, rfl⟩; (try (rw [Fut.put_self u (by first | assumption | (simp [go_sem]; done) | (simp [go_sem]; omega))]))) | (((with_reducible refine wp_region_fut_lit (by kernel_rfl) (by kernel_rfl) ?_)); (repeat (go_big_quiet_step ((first | (go_at_call 68; with_reducible exact Calls.fut_of (refAddr_is s1 HXS.out _ rfl _)) | (go_at_call 67; with_reducible exact Calls.fut_of (refIn_is a b _ _ HIN.out _)))))); ((with_reducible refine wpQuiet_nil ?_)); rintro _ ⟨u, rfl⟩; (try (rw [Fut.put_self u (by first | assumption | (simp [go_sem]; done) | (simp [go_sem]; omega))]))))
          go_roundw
          case rel => exact ⟨i + 1, by omega, by go_num, hid (HB.out.trans (Below.mono (by repeat' (first | exact Below.refl _ _ | with_reducible assumption | omega | with_reducible refine below_put_fut ?_ ?_ _ | with_reducible refine below_to_put ?_ | with_reducible refine Below.alloc ?_ ?_ _ | with_reducible refine Below.fut ?_ ?_ _ | with_reducible refine Below.drew ?_ | with_reducible refine Below.setCell ?_ ?_ _ | with_reducible refine Below.atPut ?_ ?_ _ | (simp [go_sem]; done) | (simp [go_sem]; omega))) HB.out.size))⟩
          case measure => simp [intOf]; omega
      · obtain rfl : i = m := by omega
        have er := fun i => cell_of_row wr gr i _ _ (0, 0) gr'
        have lgr := lt_of_heap gr'
        obtain ⟨n2, hn2⟩ : ∃ n2, (outL a b xs).length = n2 := ⟨_, rfl⟩
        have hsum : n2 + n1 = i := by rw [← hn2, ← HN1.out, ← HM.out]; exact HLO.out
        have ew : IntKind.i64.wrap ((n2 : Int) + (n1 : Int)) = (i : Int) := by rw [show (n2 : Int) + (n1 : Int) = (i : Int) by omega]; exact IntWalk.i64_in _ (by omega)
        have HN2 := hid hn2
        have hbw := HB3.out.1.trans (HB.out.mono HB3.out.2)
        have hzw := HB3.out.2
        have hzr := HB.out.size
        clear hn2 hsum
        go_wp2_with (first | (go_at_call 32; ((with_reducible refine (sh_len (Sr.out.on (by repeat' (first | exact Below.refl _ _ | with_reducible assumption | omega | with_reducible refine below_put_fut ?_ ?_ _ | with_reducible refine below_to_put ?_ | with_reducible refine Below.alloc ?_ ?_ _ | with_reducible refine Below.fut ?_ ?_ _ | with_reducible refine Below.drew ?_ | with_reducible refine Below.setCell ?_ ?_ _ | with_reducible refine Below.atPut ?_ ?_ _ | (simp [go_sem]; done) | (simp [go_sem]; omega))) Sr.out.ge) n2 HN2.out).mono ?_)); rintro _ _ ⟨rfl, u, rfl⟩; (try (rw [Fut.put_self u (by first | assumption | (simp [go_sem]; done) | (simp [go_sem]; omega))]))) | (((with_reducible refine wp_region_fut_lit (by kernel_rfl) (by kernel_rfl) ?_)); (repeat (go_big_quiet_step ((first | (go_at_call 32; with_reducible exact Calls.fut_of (sh_len (Sr.out.on (by repeat' (first | exact Below.refl _ _ | with_reducible assumption | omega | with_reducible refine below_put_fut ?_ ?_ _ | with_reducible refine below_to_put ?_ | with_reducible refine Below.alloc ?_ ?_ _ | with_reducible refine Below.fut ?_ ?_ _ | with_reducible refine Below.drew ?_ | with_reducible refine Below.setCell ?_ ?_ _ | with_reducible refine Below.atPut ?_ ?_ _ | (simp [go_sem]; done) | (simp [go_sem]; omega))) Sr.out.ge) n2 HN2.out)))))); ((with_reducible refine wpQuiet_nil ?_)); rintro _ ⟨u, rfl⟩; (try (rw [Fut.put_self u (by first | assumption | (simp [go_sem]; done) | (simp [go_sem]; omega))]))))
        go_ret
        exact .mk rfl (hbw.trans (Below.mono (by repeat' (first | exact Below.refl _ _ | with_reducible assumption | omega | with_reducible refine below_put_fut ?_ ?_ _ | with_reducible refine below_to_put ?_ | with_reducible refine Below.alloc ?_ ?_ _ | with_reducible refine Below.fut ?_ ?_ _ | with_reducible refine Below.drew ?_ | with_reducible refine Below.setCell ?_ ?_ _ | with_reducible refine Below.atPut ?_ ?_ _ | (simp [go_sem]; done) | (simp [go_sem]; omega))) (Nat.le_trans hzw hzr)))
theorem cutMoves_walk (W : World) (sl : Value) (l : List It) (hl : ItemsAt W sl l) (a : Int) (wa : (Lit.int .u64 a).wf = true) (b : Int) (wb : (Lit.int .u64 b).wf = true) (most : Int) (wm : (Lit.int .i64 most).wf = true) :
    Calls Try.prog 23 #[sl, .agg #[.int .u64 a, .int .u64 b], .int .i64 most] W (Makes (.bool true) W) := by
  have hs := hl.src
  have ha := U64.bd wa
  have hb := U64.bd wb
  obtain ⟨n, hn⟩ : ∃ n, l.length = n := ⟨_, rfl⟩
  rw [hn] at hs
  obtain ⟨ao, cap, rfl⟩ := hs.slice_of
  clear wa wb wm hl
  rcases Nat.lt_or_ge 60 n with c | c
  · have d1 : decide ((60 : Int) < n) = true := by simp; omega
    clear c hn hs ha hb
    go_enter Try.func23, Try.ntmps23
    go_wp2_with (first | (go_at_call 60; ((with_reducible refine (cutAlive_any _).mono ?_)); rintro _ _ ⟨rfl, u, rfl⟩; (try (rw [Fut.put_self u (by first | assumption | (simp [go_sem]; done) | (simp [go_sem]; omega))]))) | (((with_reducible refine wp_region_fut_lit (by kernel_rfl) (by kernel_rfl) ?_)); (repeat (go_big_quiet_step ((first | (go_at_call 60; with_reducible exact Calls.fut_of (cutAlive_any _)))))); ((with_reducible refine wpQuiet_nil ?_)); rintro _ ⟨u, rfl⟩; (try (rw [Fut.put_self u (by first | assumption | (simp [go_sem]; done) | (simp [go_sem]; omega))]))))
    go_ret; exact .mk (by first | rfl | (simp; done) | (simp; omega)) (by repeat' (first | exact Below.refl _ _ | with_reducible assumption | omega | with_reducible refine below_put_fut ?_ ?_ _ | with_reducible refine below_to_put ?_ | with_reducible refine Below.alloc ?_ ?_ _ | with_reducible refine Below.fut ?_ ?_ _ | with_reducible refine Below.drew ?_ | with_reducible refine Below.setCell ?_ ?_ _ | with_reducible refine Below.atPut ?_ ?_ _ | (simp [go_sem]; done) | (simp [go_sem]; omega)))
  by_cases c2 : most < 0
  · have d1 : decide ((60 : Int) < n) = false := by simp; omega
    have d2 : decide (most < 0) = true := by simp; omega
    clear c hn hs ha hb c2
    go_enter Try.func23, Try.ntmps23
    go_wp2_with (first | (go_at_call 60; ((with_reducible refine (cutAlive_any _).mono ?_)); rintro _ _ ⟨rfl, u, rfl⟩; (try (rw [Fut.put_self u (by first | assumption | (simp [go_sem]; done) | (simp [go_sem]; omega))]))) | (((with_reducible refine wp_region_fut_lit (by kernel_rfl) (by kernel_rfl) ?_)); (repeat (go_big_quiet_step ((first | (go_at_call 60; with_reducible exact Calls.fut_of (cutAlive_any _)))))); ((with_reducible refine wpQuiet_nil ?_)); rintro _ ⟨u, rfl⟩; (try (rw [Fut.put_self u (by first | assumption | (simp [go_sem]; done) | (simp [go_sem]; omega))]))))
    go_ret; exact .mk (by first | rfl | (simp; done) | (simp; omega)) (by repeat' (first | exact Below.refl _ _ | with_reducible assumption | omega | with_reducible refine below_put_fut ?_ ?_ _ | with_reducible refine below_to_put ?_ | with_reducible refine Below.alloc ?_ ?_ _ | with_reducible refine Below.fut ?_ ?_ _ | with_reducible refine Below.drew ?_ | with_reducible refine Below.setCell ?_ ?_ _ | with_reducible refine Below.atPut ?_ ?_ _ | (simp [go_sem]; done) | (simp [go_sem]; omega)))
  by_cases c3 : 100 < most
  · have d1 : decide ((60 : Int) < n) = false := by simp; omega
    have d2 : decide (most < 0) = false := by simp; omega
    have d3 : decide (100 < most) = true := by simp; omega
    clear c hn hs ha hb c2 c3
    go_enter Try.func23, Try.ntmps23
    go_wp2_with (first | (go_at_call 60; ((with_reducible refine (cutAlive_any _).mono ?_)); rintro _ _ ⟨rfl, u, rfl⟩; (try (rw [Fut.put_self u (by first | assumption | (simp [go_sem]; done) | (simp [go_sem]; omega))]))) | (((with_reducible refine wp_region_fut_lit (by kernel_rfl) (by kernel_rfl) ?_)); (repeat (go_big_quiet_step ((first | (go_at_call 60; with_reducible exact Calls.fut_of (cutAlive_any _)))))); ((with_reducible refine wpQuiet_nil ?_)); rintro _ ⟨u, rfl⟩; (try (rw [Fut.put_self u (by first | assumption | (simp [go_sem]; done) | (simp [go_sem]; omega))]))))
    go_ret; exact .mk (by first | rfl | (simp; done) | (simp; omega)) (by repeat' (first | exact Below.refl _ _ | with_reducible assumption | omega | with_reducible refine below_put_fut ?_ ?_ _ | with_reducible refine below_to_put ?_ | with_reducible refine Below.alloc ?_ ?_ _ | with_reducible refine Below.fut ?_ ?_ _ | with_reducible refine Below.drew ?_ | with_reducible refine Below.setCell ?_ ?_ _ | with_reducible refine Below.atPut ?_ ?_ _ | (simp [go_sem]; done) | (simp [go_sem]; omega)))
  exact cutMoves_good W _ l n hn c hs a b ha.1 (by omega) hb.1 (by omega) most (by omega) (by omega)
end Go.Proofs.Ythknenhcnpgkcaa
