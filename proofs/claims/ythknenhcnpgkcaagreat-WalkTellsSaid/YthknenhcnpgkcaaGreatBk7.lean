/- The book of lists: putItems. -/
import Derived.Test.YthknenhcnpgkcaaGreatBk6
namespace Go.Proofs.YthknenhcnpgkcaaGreat
set_option linter.unusedVariables false
set_option linter.unusedSimpArgs false
open Go.RowKit
theorem mix_set {α : Type} {A B : List α} {k : Nat} {x : α} (hA : A[k]? = some x) (hl : A.length = B.length) : (A.take k ++ B.drop k).set k x = A.take (k + 1) ++ B.drop (k + 1) := by
  have hk := (List.getElem?_eq_some_iff.1 hA).1
  have h1 : (A.take k).length = k := by rw [List.length_take]; omega
  rw [List.set_append_right _ _ (by omega), h1, Nat.sub_self, List.drop_eq_getElem_cons (by omega : k < B.length), List.set_cons_zero]
  have h2 : A.take (k + 1) = A.take k ++ [x] := by
    obtain ⟨h3, rfl⟩ := List.getElem?_eq_some_iff.1 hA
    exact List.take_succ_eq_append_getElem h3
  rw [h2, List.append_assoc]
  rfl
set_option maxRecDepth 100000 in
set_option maxHeartbeats 4000000 in
theorem putItems_is {W : World} {bk : Nat} {iv wv : Value} {es : List Kept} (hh : W.heap[bk]? = some (bookObj iv wv)) (hi : Row W 22 1 iv es.length (es.map Kept.v)) (hd : Dis bk iv es) (hr : ∀ q ∈ es, Row W 59 2 q.v q.xs.length (flat q.xs)) (hn : es.length ≤ 250) :
    Calls Tryz.prog 47 #[.pointer (some ⟨bk, 0, none⟩)] W fun e W' => e = .returned (.tuple #[]) ∧ MarkedTo W es es.length W' := by
  obtain ⟨io, ic, rfl⟩ := owns_slice hi
  obtain ⟨m, hes⟩ : ∃ m, es.length = m := ⟨_, rfl⟩
  have h0 : MarkedTo W es 0 W := ⟨Chg.refl _ _, fun j q hj => by omega, fun j q _ hq => hr q (List.mem_of_getElem? hq)⟩
  rw [hes] at hi hn hd hh ⊢
  have HH := hid hh
  have HI := hid hi
  have HES := hid hes
  have HD := hid hd
  have H0 := hid h0
  have HBK := hid (fun (wr : World) (hc : Chg (SV es) W wr) => show wr.heap[bk]? = some (bookObj (.slice io m ic) wv) ∧ Row wr 22 1 (.slice io m ic) m (es.map Kept.v) from
    ⟨(hc.block bk (lt_of_heap hh) (fun ⟨j, q, h1, h2⟩ => h2 (hd.book j q h1))).trans hh, hi.chg hc fun k hk ⟨j, q, h1, h2⟩ => hk (hd.row j q k h1 h2)⟩)
  clear hh hi hes hr h0 hd
  obtain ⟨wo, wc, hwv⟩ : ∃ a b, a = wv ∧ b = wv := ⟨_, _, rfl, rfl⟩
  clear hwv wo wc
  go_enter Tryz.func47, Tryz.ntmps47
  go_wp2_with fail
  go_loopw [2] (fun x wr => ∃ i : Nat, i ≤ m ∧ x = .int .i64 i ∧ Hid (MarkedTo W es i wr)) (fun x _ => m - (intOf x).toNat)
  case atStart => exact ⟨0, Nat.zero_le _, rfl, H0⟩
  case round =>
    obtain ⟨i, hi, rfl, HM⟩ := hrel
    have hcb := fun j => cell_of_row wr bk j _ _ (0, 0) (HBK.out wr HM.out.1).1
    have hbl := lt_of_heap (HBK.out wr HM.out.1).1
    by_cases hlt : i < m
    · obtain ⟨q, hq⟩ : ∃ q, es[i]? = some q := ⟨_, List.getElem?_eq_getElem (by rw [HES.out]; exact hlt)⟩
      have q1 := HD.out.small i q hq
      have q2 := HM.out.2.2 i q (Nat.le_refl _) hq
      obtain ⟨r1, hr1, p1, l1, _⟩ := list_cell (HBK.out wr HM.out.1).2 (i := i) (x := q.v) (by simp [hq])
      subst hr1
      obtain ⟨vo, vc, ev⟩ := owns_slice q2
      obtain ⟨n, hqn⟩ : ∃ n, q.xs.length = n := ⟨_, rfl⟩
      rw [hqn] at ev q2 q1
      rw [ev] at p1
      have HQ := hid hq
      have HQN := hid hqn
      have HEV := hid ev
      have HQ2 := hid q2
      have hmk : Calls Tryz.prog 85 #[.int .i64 i, .int .i64 0, .int .i64 n] wr _ := markItems_is wr i 0 n (by omega) (by omega)
      have HMK := hid hmk
      clear hq hqn ev q2 hmk
      go_wp2_with fail
      refine HMK.out.mono ?_
      rintro _ W3 ⟨mo, mc, rfl, hr3, hb3, hf3⟩
      have HM3 := hid (HM.out.chg hb3)
      have HR3 := hid hr3
      have HX3 := hid (show Row W3 59 2 q.v n (flat ((marks i 0 n).take 0 ++ q.xs.drop 0)) from by simpa using owns_below HQ2.out hb3)
      have HF3 := hid (show ∀ k, blk q.v k ≠ 0 → blk (.slice mo n mc) k = 0 from fun k hk => hf3 k (HQ2.out.lt hk))
      clear hr3 hb3 hf3 HMK hcb hbl p1 l1
      go_wp2_with fail
      go_loopw [4] (fun x wx => ∃ k : Nat, k ≤ n ∧ x = .int .i64 k ∧ Hid (Chg (fun j => blk q.v j ≠ 0) W3 wx ∧ Row wx 59 2 q.v n (flat ((marks i 0 n).take k ++ q.xs.drop k)))) (fun x _ => n - (intOf x).toNat)
      case atStart => exact ⟨0, Nat.zero_le _, rfl, hid ⟨Chg.refl _ _, HX3.out⟩⟩
      case round =>
        obtain ⟨k, hk, rfl, HX⟩ := hrel
        by_cases hlt2 : k < n
        · have hcx : Chg (SV es) W wr := HM3.out.1.trans HX.out.1 (fun j _ hj => ⟨i, q, HQ.out, hj⟩)
          have hcb := fun j => cell_of_row wr bk j _ _ (0, 0) (HBK.out wr hcx).1
          have hbl := lt_of_heap (HBK.out wr hcx).1
          obtain ⟨r2, hr2, p1, l1, _⟩ := list_cell (HBK.out wr hcx).2 (i := i) (x := q.v) (by simp [HQ.out])
          injection hr2 with hr2; injection hr2 with hr2
          subst hr2
          rw [HEV.out] at p1
          have hxr := HX.out.2
          rw [HEV.out] at hxr
          obtain ⟨y, hy⟩ : ∃ y, ((marks i 0 n).take k ++ q.xs.drop k)[k]? = some y := ⟨_, List.getElem?_eq_getElem (by rw [List.length_append, List.length_take, List.length_drop, marks_len, HQN.out]; omega)⟩
          have hlen : ((marks i 0 n).take k ++ q.xs.drop k).length = n := by rw [List.length_append, List.length_take, List.length_drop, marks_len, HQN.out]; omega
          obtain ⟨rv, rfl, c1, c2, lv⟩ := item_cell hxr hy hlen
          have hmr : Row wr 59 2 (.slice mo n mc) n (flat (marks i 0 n)) := HR3.out.chg HX.out.1 fun j hj h2 => hj (HF3.out j h2)
          obtain ⟨rm, rfl, d1, d2, lm⟩ := item_cell hmr (marks_at i 0 hlt2) (marks_len i 0 n)
          have hfr := fun j => World.ownsRow.frozenAt hxr j
          have HST := hid (store_item2 hxr hlen k (nmOf i (0 + k), ⟨#[]⟩) hlt2)
          rw [Nat.zero_add] at d1 d2 HST
          clear hcx hxr hy hlen hmr
          go_wp2_with fail
          go_region
          obtain ⟨cur, ecur, hrow⟩ := HST.out
          rw [ecur]
          rw [mix_set (by rw [marks_at i 0 hlt2, Nat.zero_add]) (by rw [marks_len, HQN.out])] at hrow
          rw [← HEV.out] at hrow
          have hch : Chg (fun j => blk q.v j ≠ 0) W3 (put wr rv (.cells cur 59)).drew := (HX.out.1.put (g := rv) (fun _ => by rw [HEV.out, blk_at _ _ _ _ _ none, one_self]; omega) _).drew
          have HX4 := hid (And.intro hch (owns_below hrow (Below.refl _ _).drew))
          clear ecur hrow hch c1 c2 d1 d2 hfr hcb HST
          go_wp2_with fail
          exact ⟨⟨k + 1, by omega, by go_num, HX4⟩, by simp [intOf]; omega⟩
        · obtain rfl : k = n := by omega
          have HM4 := hid (HM3.out.next HD.out HQ.out HX.out.1 (by have := HX.out.2; rw [List.drop_eq_nil_of_le (by rw [HQN.out]; exact Nat.le_refl _), List.append_nil, marks_take i 0 (Nat.le_refl _)] at this; rw [HQN.out]; exact this))
          go_wp2_with fail
          exact ⟨⟨i + 1, by omega, by go_num, HM4⟩, by simp [intOf]; omega⟩
    · obtain rfl : i = m := by omega
      go_wp2_with fail
      go_end0
      exact ⟨rfl, HM.out⟩
end Go.Proofs.YthknenhcnpgkcaaGreat
