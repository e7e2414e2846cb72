import Derived.Test.YthgajbfgolcpkaaVwA
import Derived.BigQuiet
import Derived.BigRegion
/- What a view tells, as the statements ask it: alive, All. -/
namespace Go.Proofs.Ythgajbfgolcpkaa
open Go.RowKit
set_option linter.unusedVariables false
set_option linter.unusedSimpArgs false
/-- Block g is a view of the parts l. -/
def Vw (w0 : Base) (g : Nat) (l : List Pt) (W : World) : Prop := ∃ v, ViewAt w0 g l W v
theorem Vw.on {w0 : Base} {g : Nat} {l : List Pt} {W W' : World} (h : Vw w0 g l W) (hb : Below W.heap.size W W') : Vw w0 g l W' := by
  obtain ⟨v, h⟩ := h
  exact ⟨v, h.on hb⟩
theorem Vw.below {w0 : Base} {g : Nat} {l : List Pt} {W : World} (h : Vw w0 g l W) : Below w0.heap.size w0.toWorld W := by
  obtain ⟨v, h⟩ := h
  exact h.below
theorem Vw.lt {w0 : Base} {g : Nat} {l : List Pt} {W : World} (h : Vw w0 g l W) : g < W.heap.size := by
  obtain ⟨v, h⟩ := h
  exact h.lt
theorem Vw.box {w0 : Base} {g : Nat} {l : List Pt} {W W' : World} (h : Vw w0 g l W) (hb : Below W.heap.size W W') (Bx : Nat) (q : Obj) (hB : W.heap.size ≤ Bx) (hq : W'.heap[Bx]? = some q) : Vw (w0.with Bx q) g l W' := by
  obtain ⟨v, h⟩ := h
  exact ⟨v, h.box hb Bx q hB hq⟩
theorem Vw.kept {w0 : Base} {g : Nat} {l : List Pt} {W : World} (h : Vw w0 g l W) {k : Nat} {q : Obj} (hk : w0.keep k = some q) : W.heap[k]? = some q := by
  obtain ⟨v, h⟩ := h
  exact (h.kept k q hk).1
theorem vw_new {w0 : Base} {W : World} (hk : ∀ k, w0.keep k = none) (hb : Below w0.heap.size w0.toWorld W) {g : Nat} (hg : w0.heap.size ≤ g) (h : W.heap[g]? = some (viewObj (.slice none 0 0))) : Vw w0 g [] W :=
  ⟨_, hb, h, World.ownsRow_nil _ _ _ _, hg, by simp [Value.ownBlock], fun k q hq => by rw [hk] at hq; cases hq⟩
theorem vw_learn {w0 : Base} {g : Nat} {l : List Pt} {W : World} (h : Vw w0 g l W) (hl : l.length ≤ 800) (o : Ow) (l' : List Pt) (b : Bool) (he : learnAll l o = (l', b)) :
    Calls Try.prog 35 #[.pointer (some ⟨g, 0, none⟩), .agg (owA o)] W fun en W' => en = .returned (.bool b) ∧ Vw w0 g l' W' := by
  obtain ⟨v, h⟩ := h
  refine (learn_any h hl o).mono ?_
  rintro _ W' ⟨rfl, h'⟩
  rw [he] at h' ⊢
  exact ⟨rfl, h'⟩
theorem vw_owner {w0 : Base} {g : Nat} {l : List Pt} {W : World} (h : Vw w0 g l W) (hl : l.length ≤ 900) (x : Int) (y : Option Ow) (he : ownerL x (arcsL l) = y) :
    Calls Try.prog 36 #[.pointer (some ⟨g, 0, none⟩), .int .u64 x] W fun e W' => e = .returned (.tuple #[.agg (owA (y.getD (0, 0, 0, 0))), .bool y.isSome]) ∧ Below W.heap.size W W' := by
  obtain ⟨v, h⟩ := h
  subst he
  exact owner_is h hl x
theorem vw_owner2 {w0 : Base} {g : Nat} {l : List Pt} {W : World} (h : Vw w0 g l W) (hl : l.length ≤ 900) (x : Int) (Y : Ow) (b : Bool) (h1 : (ownerL x (arcsL l)).getD (0, 0, 0, 0) = Y) (h2 : (ownerL x (arcsL l)).isSome = b) :
    Calls Try.prog 36 #[.pointer (some ⟨g, 0, none⟩), .int .u64 x] W fun e W' => e = .returned (.tuple #[.agg (owA Y), .bool b]) ∧ Below W.heap.size W W' := by
  obtain ⟨v, h⟩ := h
  subst h1 h2
  exact owner_is h hl x
theorem vw_next {w0 : Base} {g : Nat} {l : List Pt} {W : World} (h : Vw w0 g l W) (hl : l.length ≤ 900) (x : Int) (y : Ow) (he : ownerL x (arcsL l) = some y) :
    Calls Try.prog 40 #[.pointer (some ⟨g, 0, none⟩), .int .u64 x] W fun e W' => e = .returned (.tuple #[.int .u64 y.2.1, .bool true]) ∧ Below W.heap.size W W' := by
  obtain ⟨v, h⟩ := h
  have := next_is h hl x
  rw [he] at this
  exact this
theorem vw_len {w0 : Base} {g : Nat} {l : List Pt} {W : World} (h : Vw w0 g l W) (hl : l.length ≤ 900) (n : Nat) (he : (arcsL l).length = n) :
    Calls Try.prog 39 #[.pointer (some ⟨g, 0, none⟩)] W fun e W' => e = .returned (.int .i64 n) ∧ Below W.heap.size W W' := by
  obtain ⟨v, h⟩ := h
  subst he
  exact len_is h hl
theorem vw_ring {w0 : Base} {g : Nat} {l : List Pt} {W : World} (h : Vw w0 g l W) (hl : l.length ≤ 1000) (b : Bool) (he : ringB l = b) :
    Calls Try.prog 38 #[.pointer (some ⟨g, 0, none⟩)] W (Makes (.bool b) W) := by
  obtain ⟨v, h⟩ := h
  subst he
  exact ring_is h hl
set_option maxRecDepth 100000 in
set_option maxHeartbeats 4000000 in
theorem viewAlive_any (w : World) : Calls Try.prog 34 #[] w (Makes (.bool true) w) := by
  obtain ⟨B, hB⟩ : ∃ B : Base, B = ⟨w, fun _ => none⟩ := ⟨_, rfl⟩
  have HBK := hid (show ∀ k, B.keep k = none by rw [hB]; exact fun _ => rfl)
  go_enter Try.func34, Try.ntmps34
  go_wp2_with fail
  have h0 : Vw B w.heap.size [] (w.alloc (viewObj (.slice none 0 0))) := vw_new HBK.out (by rw [hB]; exact (by repeat' (first | exact Below.refl _ _ | with_reducible assumption | omega | with_reducible refine below_put_fut ?_ ?_ _ | with_reducible refine below_to_put ?_ | with_reducible refine Below.alloc ?_ ?_ _ | with_reducible refine Below.fut ?_ ?_ _ | with_reducible refine Below.drew ?_ | with_reducible refine Below.setCell ?_ ?_ _ | with_reducible refine Below.atPut ?_ ?_ _ | (simp [go_sem]; done) | (simp [go_sem]; omega)))) (by rw [hB]; exact Nat.le_refl _) (by repeat' (first | rfl | assumption | (with_reducible refine (heap_drew_eq _ _).trans ?_) | (refine (Fut.heap _ _ ?_).trans ?_ ; focus (first | assumption | omega | (simp [go_sem]; done) | (simp [go_sem]; omega))) | (refine (heap_put_at _ _ _ ?_).trans ?_ ; focus (first | assumption | omega | (simp [go_sem]; done) | (simp [go_sem]; omega))) | (refine (heap_put_other _ _ _ _ ?_).trans ?_ ; focus (first | assumption | omega | (simp [go_sem]; done) | (simp [go_sem]; omega))) | (refine (heap_alloc_other _ _ _ ?_).trans ?_ ; focus (first | assumption | omega | (simp [go_sem]; done) | (simp [go_sem]; omega))) | (refine (heap_alloc_at _ _ _ ?_).trans ?_ ; focus (first | assumption | omega | (simp [go_sem]; done) | (simp [go_sem]; omega))) | (simp [go_sem]; done) | (simp [go_sem]; omega)))
  have hB1 := hid hB
  clear hB
  (((with_reducible refine (vw_learn h0 (by decide) ((0, 0, 1, 0)) [(0, 1, 0)] true (by decide)).mono ?_)); rintro _ W1 ⟨rfl, h1⟩)
  go_wp2_with fail
  (((with_reducible refine (vw_learn h1 (by decide) ((5, 9, 2, 1)) [(0, 1, 0), (5, 2, 1), (9, 1, 0)] true (by decide)).mono ?_)); rintro _ W2 ⟨rfl, h2⟩)
  go_wp2_with fail
  (((with_reducible refine (vw_learn h2 (by decide) ((6, 7, 3, 1)) [(0, 1, 0), (5, 2, 1), (6, 2, 1), (7, 2, 1), (9, 1, 0)] false (by decide)).mono ?_)); rintro _ W3 ⟨rfl, h3⟩)
  go_wp2_with fail
  (((with_reducible refine (vw_owner h3 (by decide) 9 (some (9, 5, 1, 0)) (by decide)).mono ?_)); rintro _ W4 ⟨rfl, hb4⟩)
  have h4 := h3.on hb4
  clear h0 h1 h2 h3 hb4
  go_wp2_with fail
  (((with_reducible refine (vw_len (h4.on (by repeat' (first | exact Below.refl _ _ | with_reducible assumption | omega | with_reducible refine below_put_fut ?_ ?_ _ | with_reducible refine below_to_put ?_ | with_reducible refine Below.alloc ?_ ?_ _ | with_reducible refine Below.fut ?_ ?_ _ | with_reducible refine Below.drew ?_ | with_reducible refine Below.setCell ?_ ?_ _ | with_reducible refine Below.atPut ?_ ?_ _ | (simp [go_sem]; done) | (simp [go_sem]; omega)))) (by decide) 2 (by decide)).mono ?_)); rintro _ W5 ⟨rfl, hb5⟩)
  have h5 := (h4.on (W' := W4.alloc (.cells (owA (9, 5, 1, 0)) 71)) (by repeat' (first | exact Below.refl _ _ | with_reducible assumption | omega | with_reducible refine below_put_fut ?_ ?_ _ | with_reducible refine below_to_put ?_ | with_reducible refine Below.alloc ?_ ?_ _ | with_reducible refine Below.fut ?_ ?_ _ | with_reducible refine Below.drew ?_ | with_reducible refine Below.setCell ?_ ?_ _ | with_reducible refine Below.atPut ?_ ?_ _ | (simp [go_sem]; done) | (simp [go_sem]; omega)))).on hb5
  go_wp2_with fail
  (((with_reducible refine (vw_ring h5 (by decide) true (by decide)).mono ?_)); rintro _ _ ⟨rfl, u, rfl⟩)
  have h6 := h5.on u.below
  go_wp2_with fail
  go_ret
  exact .mk rfl (by have := h6.below; rw [hB1.out] at this; exact this)
/-- The list that is made, in block A1. -/
abbrev Coll (w0 : Base) (A1 : Nat) (L : List Ow) (W : World) (v : Value) : Prop := ObjAt (.cells #[v] 69) 71 4 w0 A1 L.length (flatO L) W v
set_option maxRecDepth 100000 in
set_option maxHeartbeats 4000000 in
theorem allf_is {w0 : Base} {A1 : Nat} {L : List Ow} {W : World} {v : Value} (h : Coll w0 A1 L W v) (hl : L.length ≤ 900) (p : Ow) :
    Calls Try.prog 63 #[.agg (owA p), .pointer (some ⟨A1, 0, none⟩)] W fun e W' => e = .returned (.bool true) ∧ W.heap.size ≤ W'.heap.size ∧ ∃ v', Coll w0 A1 (L ++ [p]) W' v' := by
  obtain ⟨i1, hi1, hy0, hy1, hy2⟩ := info_parts owned_info
  have hc := fun i => cell_of_row W A1 i _ _ (0, 0) h.heap
  have hz := h.lt
  obtain ⟨ao, cc, rfl⟩ := owns_slice h.owns
  have HA := hid (show ∀ W2, Below W.heap.size (put W A1 (.cells #[.slice ao L.length cc] 69)) W2 → ∀ r : Nat, W2.heap[r]? = some (.cells (owA p) 71) →
      ∃ v' w', (Builtin.append_ #[69, 69] 69 #[.slice ao L.length cc, .slice (some ⟨r, 0, none⟩) 1 1]).run Try.prog W2 = .ok v' w' ∧ ∃ W', w' = put W' A1 (.cells #[.slice ao L.length cc] 69) ∧ A1 < W'.heap.size ∧ W.heap.size ≤ W'.heap.size ∧ ∃ ao' c', v' = .slice ao' (L.length + 1) c' ∧ ∀ o', ObjAt o' 71 4 w0 A1 (L.length + 1) (flatO (L ++ [p])) (put W' A1 o') v' from by
    intro W2 hb r hr
    have hb' := hb
    rw [put_self h.heap] at hb'
    obtain ⟨v', W', h1, h2, h3⟩ := append_obj (P := Try.prog) (h.on hb') 69 69 i1 _ 32 Try.underlying69 hi1 hy0 hy1 hy2 rfl (by omega) ⟨r, 0, none⟩ 1 1 (owl p) rfl (World.news_of_block hr) (owl_one _) (by unfold maxLen; omega) (by omega)
    obtain ⟨ao', c', rfl⟩ := owns_slice (h3 (.cells #[v'] 69)).owns
    exact ⟨_, _, h1, W', rfl, by have := h2.size; have := hb'.size; have := h.lt; omega, by have := h2.size; have := hb'.size; omega, ao', c', rfl, fun o' => by rw [flatO_append]; simpa [flatO] using h3 o'⟩)
  have HL := hid (show (L ++ [p]).length = L.length + 1 by simp)
  generalize L.length = n at *
  rw [← put_self h.heap]
  clear h hi1 hy0 hy1 hy2
  have hd : decide (((n : Int) + 1) < 1000) = true := by simp; omega
  go_enter Try.func63, Try.ntmps63
  go_wp2_with (first | (at_builtin; refine wpList_append_ex (by rfl) _ _ _ (by rfl) _ _ (by rfl) (by rfl) (HA.out _ (by repeat' (first | exact Below.refl _ _ | with_reducible assumption | omega | with_reducible refine below_put_fut ?_ ?_ _ | with_reducible refine below_to_put ?_ | with_reducible refine Below.alloc ?_ ?_ _ | with_reducible refine Below.fut ?_ ?_ _ | with_reducible refine Below.drew ?_ | with_reducible refine Below.setCell ?_ ?_ _ | with_reducible refine Below.atPut ?_ ?_ _ | (simp [go_sem]; done) | (simp [go_sem]; omega))) _ (by repeat' (first | rfl | assumption | (with_reducible refine (heap_drew_eq _ _).trans ?_) | (refine (Fut.heap _ _ ?_).trans ?_ ; focus (first | assumption | omega | (simp [go_sem]; done) | (simp [go_sem]; omega))) | (refine (heap_put_at _ _ _ ?_).trans ?_ ; focus (first | assumption | omega | (simp [go_sem]; done) | (simp [go_sem]; omega))) | (refine (heap_put_other _ _ _ _ ?_).trans ?_ ; focus (first | assumption | omega | (simp [go_sem]; done) | (simp [go_sem]; omega))) | (refine (heap_alloc_other _ _ _ ?_).trans ?_ ; focus (first | assumption | omega | (simp [go_sem]; done) | (simp [go_sem]; omega))) | (refine (heap_alloc_at _ _ _ ?_).trans ?_ ; focus (first | assumption | omega | (simp [go_sem]; done) | (simp [go_sem]; omega))) | (simp [go_sem]; done) | (simp [go_sem]; omega)))) ?_; rintro v4 w4 ⟨W4, rfl, hl4, hz4, ao4, c4, rfl, ho4⟩))
  go_ret
  exact ⟨rfl, by rw [size_put, size_put]; exact hz4, _, by unfold Coll; rw [HL.out]; exact ho4 _⟩
theorem ArcsAt.moved {B : Nat} {W W' : World} {ao : Option Addr} {n c : Nat} {L : List Ow} (h : ArcsAt B W (.slice ao n c) L) (hm : ∀ r o, ao = some ⟨r, o, none⟩ → W'.heap[r]? = W.heap[r]?) (hz : W.heap.size ≤ W'.heap.size) : ArcsAt B W' (.slice ao n c) L := by
  rcases h with h | ⟨r, o, c', h1, h2, h3, h4⟩
  · exact .inl h
  · refine .inr ⟨r, o, c', h1, h2, Nat.lt_of_lt_of_le h3 hz, fun j u hu => ?_⟩
    injection h1 with h1
    rw [World.cell?_of_block (w := W)]
    · exact h4 j u hu
    · exact hm r o h1
set_option maxRecDepth 100000 in
set_option maxHeartbeats 4000000 in
theorem viewAll1_coll {w0 : Base} {g : Nat} {l : List Pt} {W : World} {v : Value} (h : ViewAt w0 g l W v) (hl : l.length ≤ 900) (Bx : Nat) (hB : W.cell? ⟨Bx, 0, none⟩ = some (.pointer (some ⟨g, 0, none⟩))) {w1 : Base} (hk1 : ∀ k, w1.keep k = none) {A1 : Nat} (hA : Coll w1 A1 [] W (.slice none 0 0)) :
    Calls Try.prog 69 #[.func (.func 63) #[] #[.pointer (some ⟨A1, 0, none⟩)], .pointer (some ⟨Bx, 0, none⟩)] W fun e W' => (∃ v, e = .returned v) ∧ ∃ v', Coll w1 A1 (arcsL l) W' v' := by
  have hm := Nat.le_trans (arcsL_len l) hl
  have harcs := arcs_is h _ rfl hl
  generalize arcsL l = L at hm harcs ⊢
  have HA := hid hA
  clear h hA
  go_enter Try.func69, Try.ntmps69
  go_wp2_with fail
  refine harcs.mono ?_
  rintro _ W1 ⟨_, rfl, ha, hb1⟩
  have hA1 := HA.out.on hb1
  obtain ⟨a1, c1, rfl⟩ := ha.form
  obtain ⟨B2, hB2, hB3⟩ : ∃ B2 : Base, (∃ v, Coll B2 A1 [] W1 v ∧ v = .slice none 0 0) ∧ (∀ W' L' v', Coll B2 A1 L' W' v' → Coll w1 A1 L' W' v' ∧ ∀ r o, a1 = some ⟨r, o, none⟩ → W'.heap[r]? = W1.heap[r]?) := by
    rcases ha with ⟨c, h1, h2⟩ | ⟨r, o, c, h1, h2, h3, h4⟩
    · injection h1 with h1
      subst h1
      exact ⟨w1, ⟨_, hA1, rfl⟩, fun W' L' v' hc => ⟨hc, fun r o e => by cases e⟩⟩
    · injection h1 with h1
      obtain ⟨q, hq⟩ : ∃ q, W1.heap[r]? = some q := ⟨_, Array.getElem?_eq_getElem h3⟩
      have hne : r ≠ A1 := by have := HA.out.lt; omega
      refine ⟨w1.with r q, ⟨_, hA1.learn hq hne (by simp [Value.ownBlock]), rfl⟩, fun W' L' v' hc => ⟨hc.unlearn (fun s e => by rw [hk1] at e; cases e), fun r' o' e => ?_⟩⟩
      rw [h1] at e
      cases e
      rw [hq]
      exact (hc.kept r q (Base.with_self _ _ _)).1
  obtain ⟨_, hC, rfl⟩ := hB2
  have HC := hid hC
  have HB3 := hid hB3
  have HAR := hid ha
  obtain ⟨m, hLm⟩ : ∃ m, L.length = m := ⟨_, rfl⟩
  have HLM := hid hLm
  clear ha hb1 harcs hA1 hC hB3
  rw [hLm] at hm HAR ⊢
  clear hLm HA
  go_wp2_with fail
  go_loopw [8] (fun i wr => ∃ k : Nat, k ≤ m ∧ i = .int .i64 k ∧ W1.heap.size ≤ wr.heap.size ∧ Hid (∃ v, Coll B2 A1 (L.take k) wr v)) (fun i _ => m - (intOf i).toNat)
  case atStart => exact ⟨0, Nat.zero_le _, rfl, Nat.le_refl _, hid ⟨_, HC.out⟩⟩
  case round =>
    obtain ⟨k, hk, rfl, hzr, hJk⟩ := hrel
    by_cases hlt : k < m
    · obtain ⟨p, hp⟩ : ∃ p, L[k]? = some p := ⟨L[k]'(by rw [HLM.out]; exact hlt), List.getElem?_eq_getElem _⟩
      have hrow : ArcsAt W.heap.size wr (.slice a1 m c1) L := by
        obtain ⟨v, hv⟩ := hJk.out
        exact HAR.out.moved (HB3.out _ _ _ hv).2 hzr
      obtain ⟨r, o, rfl, hr, c0, c1', c2, c3⟩ := hrow.cells hp
      have HP := hid hp
      clear hp hrow
      have hcall : Calls Try.prog 63 #[.agg (owA p), .pointer (some ⟨A1, 0, none⟩)] (wr.alloc (.cells (owA p) 71)) fun e W' => e = .returned (.bool true) ∧ wr.heap.size ≤ W'.heap.size ∧ ∃ v', Coll B2 A1 (L.take (k + 1)) W' v' := by
        obtain ⟨v, hv⟩ := hJk.out
        have hv2 := hv.on (W' := wr.alloc (.cells (owA p) 71)) (by repeat' (first | exact Below.refl _ _ | with_reducible assumption | omega | with_reducible refine below_put_fut ?_ ?_ _ | with_reducible refine below_to_put ?_ | with_reducible refine Below.alloc ?_ ?_ _ | with_reducible refine Below.fut ?_ ?_ _ | with_reducible refine Below.drew ?_ | with_reducible refine Below.setCell ?_ ?_ _ | with_reducible refine Below.atPut ?_ ?_ _ | (simp [go_sem]; done) | (simp [go_sem]; omega)))
        refine (allf_is hv2 (by rw [List.length_take]; have := HLM.out; omega) p).mono ?_
        rintro _ W' ⟨rfl, hz', v', hv'⟩
        exact ⟨rfl, by simp at hz'; omega, v', by rw [take_snoc HP.out]; exact hv'⟩
      go_wp2_with fail
      refine hcall.mono ?_
      rintro _ W3 ⟨rfl, hz3, hJ3⟩
      have HJ3 := hid hJ3
      clear hJ3 hcall
      go_wp2_with fail
      go_roundw
      case rel => exact ⟨k + 1, by omega, by go_num, by omega, HJ3⟩
      case measure => simp [intOf]; omega
    · obtain rfl : k = m := by omega
      obtain ⟨v, hv⟩ := hJk.out
      have HV := hid hv
      clear hv
      go_wp2_with fail
      go_end0
      exact ⟨⟨_, rfl⟩, _, by have := (HB3.out _ _ _ HV.out).1; rwa [List.take_of_length_le (Nat.le_of_eq HLM.out)] at this⟩
set_option maxRecDepth 100000 in
set_option maxHeartbeats 4000000 in
/-- All arcs, as a list. -/
theorem vw_all {w0 : Base} {g : Nat} {l : List Pt} {W : World} (h : Vw w0 g l W) (hl : l.length ≤ 900) :
    Calls Try.prog 41 #[.pointer (some ⟨g, 0, none⟩)] W fun e W' => ∃ v', e = .returned v' ∧ ArcsAt W.heap.size W' v' (arcsL l) ∧ Below W.heap.size W W' := by
  obtain ⟨v, h⟩ := h
  go_enter Try.func41, Try.ntmps41
  go_wp2_with fail
  (((with_reducible refine (viewAll_is g _).mono ?_)); rintro _ _ ⟨rfl, rfl⟩)
  obtain ⟨B, hB⟩ : ∃ B : Base, B = ⟨W, fun _ => none⟩ := ⟨_, rfl⟩
  have hco : Coll B W.heap.size [] ((W.alloc (.cells #[.slice none 0 0] 69)).alloc (.cells #[.pointer (some ⟨g, 0, none⟩)] 72)) (.slice none 0 0) := by
    subst hB
    exact ⟨(by repeat' (first | exact Below.refl _ _ | with_reducible assumption | omega | with_reducible refine below_put_fut ?_ ?_ _ | with_reducible refine below_to_put ?_ | with_reducible refine Below.alloc ?_ ?_ _ | with_reducible refine Below.fut ?_ ?_ _ | with_reducible refine Below.drew ?_ | with_reducible refine Below.setCell ?_ ?_ _ | with_reducible refine Below.atPut ?_ ?_ _ | (simp [go_sem]; done) | (simp [go_sem]; omega))), (by repeat' (first | rfl | assumption | (with_reducible refine (heap_drew_eq _ _).trans ?_) | (refine (Fut.heap _ _ ?_).trans ?_ ; focus (first | assumption | omega | (simp [go_sem]; done) | (simp [go_sem]; omega))) | (refine (heap_put_at _ _ _ ?_).trans ?_ ; focus (first | assumption | omega | (simp [go_sem]; done) | (simp [go_sem]; omega))) | (refine (heap_put_other _ _ _ _ ?_).trans ?_ ; focus (first | assumption | omega | (simp [go_sem]; done) | (simp [go_sem]; omega))) | (refine (heap_alloc_other _ _ _ ?_).trans ?_ ; focus (first | assumption | omega | (simp [go_sem]; done) | (simp [go_sem]; omega))) | (refine (heap_alloc_at _ _ _ ?_).trans ?_ ; focus (first | assumption | omega | (simp [go_sem]; done) | (simp [go_sem]; omega))) | (simp [go_sem]; done) | (simp [go_sem]; omega))), World.ownsRow_nil _ _ _ _, Nat.le_refl _, by simp [Value.ownBlock], fun k q hq => by cases hq⟩
  have hbx : ((W.alloc (.cells #[.slice none 0 0] 69)).alloc (.cells #[.pointer (some ⟨g, 0, none⟩)] 72)).heap[W.heap.size + 1]? = some (.cells #[.pointer (some ⟨g, 0, none⟩)] 72) := (by repeat' (first | rfl | assumption | (with_reducible refine (heap_drew_eq _ _).trans ?_) | (refine (Fut.heap _ _ ?_).trans ?_ ; focus (first | assumption | omega | (simp [go_sem]; done) | (simp [go_sem]; omega))) | (refine (heap_put_at _ _ _ ?_).trans ?_ ; focus (first | assumption | omega | (simp [go_sem]; done) | (simp [go_sem]; omega))) | (refine (heap_put_other _ _ _ _ ?_).trans ?_ ; focus (first | assumption | omega | (simp [go_sem]; done) | (simp [go_sem]; omega))) | (refine (heap_alloc_other _ _ _ ?_).trans ?_ ; focus (first | assumption | omega | (simp [go_sem]; done) | (simp [go_sem]; omega))) | (refine (heap_alloc_at _ _ _ ?_).trans ?_ ; focus (first | assumption | omega | (simp [go_sem]; done) | (simp [go_sem]; omega))) | (simp [go_sem]; done) | (simp [go_sem]; omega)))
  have hcall := viewAll1_coll (h.on (W' := (W.alloc (.cells #[.slice none 0 0] 69)).alloc (.cells #[.pointer (some ⟨g, 0, none⟩)] 72)) (by repeat' (first | exact Below.refl _ _ | with_reducible assumption | omega | with_reducible refine below_put_fut ?_ ?_ _ | with_reducible refine below_to_put ?_ | with_reducible refine Below.alloc ?_ ?_ _ | with_reducible refine Below.fut ?_ ?_ _ | with_reducible refine Below.drew ?_ | with_reducible refine Below.setCell ?_ ?_ _ | with_reducible refine Below.atPut ?_ ?_ _ | (simp [go_sem]; done) | (simp [go_sem]; omega)))) hl (W.heap.size + 1) (cell_of_row _ _ 0 _ _ (0, 0) hbx) (by subst hB; exact fun _ => rfl) hco
  clear h hco hbx
  go_wp2_with fail
  refine hcall.mono ?_
  rintro _ W3 ⟨⟨v3, rfl⟩, v', hv'⟩
  clear hcall
  have hc := cell_of_row W3 W.heap.size 0 _ _ (0, 0) hv'.heap
  have hb := hv'.below
  have HB := hid hB
  obtain ⟨ao, c, rfl⟩ := owns_slice hv'.owns
  have HR := hid (show ArcsAt W.heap.size W3 (.slice ao (arcsL l).length c) (arcsL l) from arcs_of_row hv'.owns rfl (by rw [HB.out]; exact Nat.le_refl _))
  rw [hB] at hb
  have HBL := hid (show Below W.heap.size W W3 from hb)
  clear hv' hb hB
  go_wp2_with fail
  go_ret
  exact ⟨_, rfl, HR.out, HBL.out⟩
end Go.Proofs.Ythgajbfgolcpkaa
