import Derived.Test.YthgajbfgolcpkaaVw4
import Derived.BigRegion
/- A view learns. -/
namespace Go.Proofs.Ythgajbfgolcpkaa
open Go.RowKit
set_option linter.unusedVariables false
set_option linter.unusedSimpArgs false
/-- Whether a part stays as it is. -/
def stays (q : Int × Int) (e : Int) (p : Pt) : Bool := decide (p.1 < q.1) || (decide (0 < q.2) && decide (q.2 ≤ p.1)) || (decide (0 ≤ p.2.1) && decide (e ≤ p.2.2))
def learnP (q : Int × Int) (n e : Int) (p : Pt) : Pt := if stays q e p = true then p else (p.1, n, e)
/-- The parts at which a piece begins and ends. -/
def cutQ (l : List Pt) (q : Int × Int) : List Pt := if 0 < q.2 then cutL (cutL l q.1) q.2 else cutL l q.1
def learnQ (n e : Int) (s : List Pt × Bool) (q : Int × Int) : List Pt × Bool := ((cutQ s.1 q).map (learnP q n e), s.2 || (cutQ s.1 q).any fun p => !stays q e p)
abbrev Ow := Int × Int × Int × Int
def owl (o : Ow) : List Value := [.int .u64 o.1, .int .u64 o.2.1, .int .i64 o.2.2.1, .int .i64 o.2.2.2]
def learnAll (l : List Pt) (o : Ow) : List Pt × Bool :=
  if o.2.2.2 < 0 ∨ o.2.2.1 < 0 ∨ 255 < o.2.2.1 then (l, false) else (pieceL o.1 o.2.1).foldl (learnQ o.2.2.1 o.2.2.2) (l, false)
theorem cutS_len (l : List Pt) (x : Int) : (cutS l x).length ≤ l.length + 1 := by
  unfold cutS
  split
  · split
    · omega
    · simp; omega
  · omega
theorem cutL_len (l : List Pt) (x : Int) : (cutL l x).length ≤ l.length + 2 := by
  unfold cutL
  have := cutS_len (if l = [] then [(0, -1, 0)] else l) x
  split at this <;> simp_all <;> omega
theorem cutQ_len (l : List Pt) (q : Int × Int) : (cutQ l q).length ≤ l.length + 4 := by
  unfold cutQ
  have h1 := cutL_len l q.1
  have h2 := cutL_len (cutL l q.1) q.2
  split <;> omega
theorem learnQ_len (n e : Int) (s : List Pt × Bool) (q : Int × Int) : (learnQ n e s q).1.length ≤ s.1.length + 4 := by
  have := cutQ_len s.1 q
  simp [learnQ]; omega
theorem learnF_len (n e : Int) : ∀ (qs : List (Int × Int)) (s : List Pt × Bool), (qs.foldl (learnQ n e) s).1.length ≤ s.1.length + 4 * qs.length
  | [], s => by simp
  | q :: qs, s => by
    have h1 := learnF_len n e qs (learnQ n e s q)
    have h2 := learnQ_len n e s q
    simp only [List.foldl_cons, List.length_cons]
    omega
theorem learnAll_len (l : List Pt) (o : Ow) : (learnAll l o).1.length ≤ l.length + 8 := by
  unfold learnAll
  split
  · simp
  · have h1 := learnF_len o.2.2.1 o.2.2.2 (pieceL o.1 o.2.1) (l, false)
    have h2 := pieceL_len o.1 o.2.1
    simp only at h1
    omega
/-- The first j parts have learnt. -/
structure LearnTo (q : Int × Int) (n e : Int) (b0 : Bool) (l : List Pt) (j : Nat) (lj : List Pt) (b : Bool) : Prop where
  len : lj.length = l.length
  old : ∀ i, i < j → lj[i]? = (l[i]?).map (learnP q n e)
  new : ∀ i, j ≤ i → lj[i]? = l[i]?
  is : b = (b0 || (l.take j).any fun p => !stays q e p)
theorem LearnTo.zero (q : Int × Int) (n e : Int) (b0 : Bool) (l : List Pt) : LearnTo q n e b0 l 0 l b0 := ⟨rfl, fun i h => by omega, fun _ _ => rfl, by simp⟩
theorem take_any {f : Pt → Bool} {l : List Pt} {j : Nat} {p : Pt} (h : l[j]? = some p) : (l.take (j + 1)).any f = ((l.take j).any f || f p) := by
  obtain ⟨hl, rfl⟩ := List.getElem?_eq_some_iff.1 h
  rw [List.take_succ_eq_append_getElem hl, List.any_append]
  simp only [List.any_cons, List.any_nil, Bool.or_false]
theorem LearnTo.stay {q : Int × Int} {n e : Int} {b0 b : Bool} {l lj : List Pt} {j : Nat} (h : LearnTo q n e b0 l j lj b) {p : Pt} (hp : l[j]? = some p) (hs : stays q e p = true) : LearnTo q n e b0 l (j + 1) lj b := by
  refine ⟨h.len, fun i hi => ?_, fun i hi => h.new i (by omega), ?_⟩
  · rcases Nat.lt_or_ge i j with c | c
    · exact h.old i c
    · obtain rfl : i = j := by omega
      rw [h.new i (Nat.le_refl _), hp]; simp [learnP, hs]
  · rw [h.is, take_any hp, hs]; simp
theorem LearnTo.turn {q : Int × Int} {n e : Int} {b0 b : Bool} {l lj : List Pt} {j : Nat} (h : LearnTo q n e b0 l j lj b) {p : Pt} (hp : l[j]? = some p) (hs : stays q e p = false) : LearnTo q n e b0 l (j + 1) (lj.set j (p.1, n, e)) true := by
  have hl := (List.getElem?_eq_some_iff.1 hp).1
  refine ⟨by simp [h.len], fun i hi => ?_, fun i hi => ?_, ?_⟩
  · rcases Nat.lt_or_ge i j with c | c
    · rw [List.getElem?_set_ne (by omega)]; exact h.old i c
    · obtain rfl : i = j := by omega
      rw [List.getElem?_set_self (by rw [h.len]; exact hl), hp]; simp [learnP, hs]
  · rw [List.getElem?_set_ne (by omega)]; exact h.new i (by omega)
  · rw [take_any hp, hs]; simp
theorem LearnTo.full {q : Int × Int} {n e : Int} {b0 b : Bool} {l lj : List Pt} (h : LearnTo q n e b0 l l.length lj b) : lj = l.map (learnP q n e) ∧ b = (b0 || l.any fun p => !stays q e p) := by
  refine ⟨?_, by rw [h.is, List.take_length]⟩
  apply List.ext_getElem?
  intro i
  rw [List.getElem?_map]
  rcases Nat.lt_or_ge i l.length with c | c
  · exact h.old i c
  · rw [h.new i c, List.getElem?_eq_none c]; rfl
theorem ObjAt.unlearn {o : Obj} {e : TypeId} {size : Nat} {w0 : Base} {g n : Nat} {xs : List Value} {W : World} {v : Value} {L : Nat} {q : Obj} (h : ObjAt o e size (w0.with L q) g n xs W v) (hn : ∀ r, w0.keep L ≠ some r) : ObjAt o e size w0 g n xs W v :=
  ⟨h.below, h.heap, h.owns, h.base, h.ne, fun k r hk => h.kept k r (Base.with_other hk fun e => hn r (e ▸ hk))⟩
theorem ObjAt.box {o : Obj} {e : TypeId} {size : Nat} {w0 : Base} {g n : Nat} {xs : List Value} {W W' : World} {v : Value} (h : ObjAt o e size w0 g n xs W v) (hb : Below W.heap.size W W') (B : Nat) (q : Obj) (hB : W.heap.size ≤ B) (hq : W'.heap[B]? = some q) : ObjAt o e size (w0.with B q) g n xs W' v := by
  refine ObjAt.learn (h.on hb) hq ?_ ?_
  · have := h.lt; omega
  · intro e; have := (h.owns.lt _ e).2; omega
theorem ObjAt.fresh {o : Obj} {e : TypeId} {size : Nat} {w0 : Base} {g n : Nat} {xs : List Value} {W : World} {v : Value} (h : ObjAt o e size w0 g n xs W v) {B : Nat} (hB : W.heap.size ≤ B) : ∀ r, w0.keep B ≠ some r := fun r hr => by
  have := lt_of_heap (h.kept B r hr).1
  omega
theorem setCell_row {w : World} {r i : Nat} {cs : Array Value} {t : TypeId} {fr : Nat × Nat} (h : w.heap[r]? = some (.cells cs t fr)) (v : Value) : w.setCell ⟨r, i, none⟩ v = put w r (.cells (cs.setIfInBounds i v) t fr) := by
  have e := setCell_put w r i cs t fr v
  rw [put_self h] at e
  exact e
theorem flatV_set : ∀ (l : List Pt) (j : Nat) (p : Pt), j < l.length → flatV (l.set j p) = (flatV l).take (j * 3) ++ ptl p ++ (flatV l).drop (j * 3 + 3)
  | [], j, p, h => by simp at h
  | x :: l, 0, p, h => by simp [flatV, ptl]
  | x :: l, j + 1, p, h => by
    have e := flatV_set l j p (by simpa using h)
    rw [List.set_cons_succ, flatV, e, flatV]
    have h1 : (ptl x ++ flatV l).take ((j + 1) * 3) = ptl x ++ (flatV l).take (j * 3) := by
      rw [show (j + 1) * 3 = (ptl x).length + j * 3 from by simp [ptl]; omega, List.take_length_add_append]
    have h2 : (ptl x ++ flatV l).drop ((j + 1) * 3 + 3) = (flatV l).drop (j * 3 + 3) := by
      rw [show (j + 1) * 3 + 3 = (ptl x).length + (j * 3 + 3) from by simp [ptl]; omega, List.drop_length_add_append]
    rw [h1, h2]; simp
/-- A part's node and epoch are stored. -/
theorem store_part {w0 : Base} {g : Nat} {l : List Pt} {W W2 : World} {r n cc : Nat} (h : ViewAt w0 g l W (.slice (some ⟨r, 0, none⟩) n cc)) (hb : Below W.heap.size W W2) {j : Nat} {p : Pt} (hp : l[j]? = some p) (a b : Int) :
    ViewAt w0 g (l.set j (p.1, a, b)) ((W2.setCell ⟨r, j * 3 + 1, none⟩ (.int .i64 a)).setCell ⟨r, j * 3 + 2, none⟩ (.int .i64 b)) (.slice (some ⟨r, 0, none⟩) n cc) := by
  have h2 := h.on hb
  obtain ⟨hjl, hpe⟩ := List.getElem?_eq_some_iff.1 hp
  have hn : n = l.length := by
    obtain ⟨_, c, e⟩ := owns_slice h.owns
    injection e
  obtain ⟨cur, hm, hnc, hr, hcs, htk⟩ := row_open (n := n) (cap := cc) (xs := flatV l) (by have := owns_zero h2.owns; rw [← hn] at this; exact this)
  have hrl := lt_of_heap hr
  have hgr : r ≠ g := fun e => h2.ne (by subst e; rfl)
  rw [setCell_row hr, setCell_row (heap_put_at _ _ _ hrl), put_put]
  have hne : (Value.slice (some ⟨r, 0, none⟩) n cc).ownBlock ≠ some g := h2.ne
  have hX : ((cur.setIfInBounds (j * 3 + 1) (.int .i64 a)).setIfInBounds (j * 3 + 2) (.int .i64 b)).toList.take (n * 3) = flatV (l.set j (p.1, a, b)) := by
    rw [flatV_set _ _ _ hjl]
    apply List.ext_getElem?
    intro i
    have hfl : (flatV l).length = n * 3 := by rw [flatV_length, hn]
    have hci : ∀ i, i < n * 3 → cur.toList[i]? = (flatV l)[i]? := fun i hi => by rw [← htk, List.getElem?_take, if_pos hi]
    have h0 : (flatV l)[j * 3]? = some (.int .u64 p.1) := by have := flatV_at hp 0 _ rfl; simpa using this
    rw [List.getElem?_take]
    have hjn : j * 3 + 3 ≤ n * 3 := by omega
    split
    · rename_i hi
      simp only [Array.toList_setIfInBounds, List.getElem?_set]
      have hlt : ((flatV l).take (j * 3)).length = j * 3 := by rw [List.length_take]; omega
      rcases Nat.lt_or_ge i (j * 3) with c | c
      · rw [if_neg (by omega), if_neg (by omega), hci i hi, List.append_assoc, List.getElem?_append_left (by omega), List.getElem?_take, if_pos c]
      · rcases Nat.lt_or_ge i (j * 3 + 3) with d | d
        · rw [List.append_assoc, List.getElem?_append_right (by omega), hlt, List.getElem?_append_left (by simp [ptl]; omega)]
          have : i = j * 3 ∨ i = j * 3 + 1 ∨ i = j * 3 + 2 := by omega
          rcases this with rfl | rfl | rfl
          · rw [if_neg (by omega), if_neg (by omega), hci _ hi, h0]; simp [ptl]
          · rw [if_neg (by omega), if_pos rfl, if_pos (by simp [hcs]; omega)]; simp [ptl]
          · rw [if_pos rfl, if_pos (by simp [hcs]; omega)]; simp [ptl]
        · rw [if_neg (by omega), if_neg (by omega), hci i hi, List.getElem?_append_right (by rw [List.length_append, hlt]; simp [ptl]; omega), List.length_append, hlt, List.getElem?_drop]
          congr 1
          simp [ptl]; omega
    · rename_i hi
      symm
      apply List.getElem?_eq_none
      simp only [List.length_append, List.length_take, List.length_drop]
      simp [ptl]; omega
  unfold ViewAt
  rw [List.length_set]
  refine ObjAt.step h2 (((Chg.refl _ _).put (fun _ => .inr rfl) _)) (by rw [heap_put_other _ _ _ _ (Ne.symm hgr)]; exact h2.heap) ?_ (.inl rfl)
  have hin : w0.heap.size ≤ r := (h.owns.lt r rfl).1
  refine ⟨by rw [flatV_length, List.length_set], .inr ⟨r, cc, _, by rw [hn], hin, heap_put_at _ _ _ hrl, by omega, hm, by simp [hcs], ?_⟩⟩
  rw [← hn]; exact hX
theorem flatC_at : ∀ {l : List (Int × Int)} {k : Nat} {q : Int × Int}, l[k]? = some q → (flatC l)[k * 2]? = some (.int .u64 q.1) ∧ (flatC l)[k * 2 + 1]? = some (.int .u64 q.2)
  | [], k, q, h => by cases h
  | x :: l, 0, q, h => by cases h; exact ⟨rfl, rfl⟩
  | x :: l, k + 1, q, h => by
    have := flatC_at (l := l) (k := k) (q := q) (by simpa using h)
    rw [show (k + 1) * 2 = k * 2 + 1 + 1 from by omega]
    exact this
abbrev owO (a b n e : Int) : Obj := .cells #[.int .u64 a, .int .u64 b, .int .i64 n, .int .i64 e] 71
abbrev pcO (l : List (Int × Int)) : Obj := .cells (flatC l).toArray 103
abbrev qO (q : Int × Int) : Obj := .cells #[.int .u64 q.1, .int .u64 q.2] 103
abbrev LB (w0 : Base) (B r : Nat) (a b n e : Int) : Base := (w0.with B (owO a b n e)).with r (pcO (pieceL a b))
theorem lb_facts {w0 : Base} {B r g : Nat} {a b n e : Int} {l : List Pt} {W : World} {v : Value} (h : ViewAt (LB w0 B r a b n e) g l W v) (hne : B ≠ r) {k : Nat} {q : Int × Int} (hq : (pieceL a b)[k]? = some q) :
    W.cell? ⟨r, k * 2, none⟩ = some (.int .u64 q.1) ∧ W.cell? ⟨r, k * 2 + 1, none⟩ = some (.int .u64 q.2) ∧ g < W.heap.size ∧ r < W.heap.size := by
  have hr := (h.kept r _ (Base.with_self _ _ _)).1
  obtain ⟨f1, f2⟩ := flatC_at hq
  refine ⟨?_, ?_, h.lt, lt_of_heap hr⟩
  · rw [cell_of_row W r _ _ _ _ hr]; simpa using f1
  · rw [cell_of_row W r _ _ _ _ hr]; simpa using f2
theorem lq_facts {w0 : Base} {B r R g : Nat} {a b n e : Int} {l : List Pt} {W : World} {v : Value} {q : Int × Int} (h : ViewAt ((LB w0 B r a b n e).with R (qO q)) g l W v) (hne : B ≠ r) (h1 : B ≠ R) :
    W.cell? ⟨R, 0, none⟩ = some (.int .u64 q.1) ∧ W.cell? ⟨R, 1, none⟩ = some (.int .u64 q.2) ∧ W.cell? ⟨B, 2, none⟩ = some (.int .i64 n) ∧ W.cell? ⟨B, 3, none⟩ = some (.int .i64 e) ∧ W.cell? ⟨g, 0, none⟩ = some v ∧ g < W.heap.size ∧ R < W.heap.size ∧ B < W.heap.size ∧ R ≠ g ∧ B ≠ g := by
  obtain ⟨hr, hrg, _⟩ := h.kept R _ (Base.with_self _ _ _)
  obtain ⟨hB, hBg, _⟩ := h.kept B _ (Base.with_other (Base.with_other (Base.with_self _ _ _) hne) h1)
  exact ⟨by rw [cell_of_row W R _ _ _ _ hr]; rfl, by rw [cell_of_row W R _ _ _ _ hr]; rfl, by rw [cell_of_row W B _ _ _ _ hB]; rfl, by rw [cell_of_row W B _ _ _ _ hB]; rfl, by rw [cell_of_row W g _ _ _ _ h.heap]; rfl, h.lt, lt_of_heap hr, lt_of_heap hB, hrg, hBg⟩
theorem fold_take {α β : Type} {l : List α} {k : Nat} {q : α} (h : l[k]? = some q) (f : β → α → β) (s : β) : (l.take (k + 1)).foldl f s = f ((l.take k).foldl f s) q := by
  obtain ⟨hl, rfl⟩ := List.getElem?_eq_some_iff.1 h
  rw [List.take_succ_eq_append_getElem hl, List.foldl_append]
  rfl
theorem lb_bare {w0 : Base} {B r g : Nat} {a b n e : Int} {l : List Pt} {W : World} {v : Value} (h : ViewAt (LB w0 B r a b n e) g l W v) (hne : B ≠ r) (f1 : ∀ q, w0.keep B ≠ some q) (f2 : ∀ q, w0.keep r ≠ some q) : ViewAt w0 g l W v := by
  refine ObjAt.unlearn (ObjAt.unlearn h fun q hq => ?_) f1
  simp only [Base.with] at hq
  rw [if_neg (Ne.symm hne)] at hq
  exact f2 q hq
set_option maxRecDepth 100000 in
set_option maxHeartbeats 8000000 in
theorem learn_is {w0 : Base} {g : Nat} {l : List Pt} {W : World} {v : Value} (h : ViewAt w0 g l W v) (hl : l.length ≤ 800) (a b n e : Int) (hn : 0 ≤ n) (hn2 : n ≤ 255) (he : 0 ≤ e) :
    Calls Try.prog 35 #[.pointer (some ⟨g, 0, none⟩), .agg #[.int .u64 a, .int .u64 b, .int .i64 n, .int .i64 e]] W fun en W' => en = .returned (.bool (learnAll l (a, b, n, e)).2) ∧ ∃ v', ViewAt w0 g (learnAll l (a, b, n, e)).1 W' v' := by
  have HNE := hid (show ¬ (e < 0 ∨ n < 0 ∨ 255 < n) from by omega)
  have e1 : decide (e < 0) = false := by simp; omega
  have e2 : decide (n < 0) = false := by simp; omega
  have e3 : decide (255 < n) = false := by simp; omega
  have H := hid h
  have HL := hid hl
  have hg := h.lt
  clear h hl hn hn2 he
  go_enter Try.func35, Try.ntmps35
  go_wp2_with ((go_at_call 55; ((with_reducible refine (pieces_is _ _ _).mono ?_)); rintro _ _ ⟨r, hrl, rfl, hb, hr⟩))
  have hm := pieceL_len a b
  have HBR := hid (show W.heap.size ≠ r from fun e => by rw [World.size_alloc] at hrl; omega)
  have HV0 := hid (show ViewAt (LB w0 W.heap.size r a b n e) g l _ v from ((H.out.box (Below.alloc (Below.refl _ _) (Nat.le_refl _) _) W.heap.size _ (Nat.le_refl _) (heap_alloc_at _ _ _ rfl)).box hb r _ hrl hr))
  have hBl : W.heap.size < r := by rw [World.size_alloc] at hrl; omega
  have HF1 := hid (H.out.fresh (B := W.heap.size) (Nat.le_refl _))
  have HF2 := hid (H.out.fresh (B := r) (by rw [World.size_alloc] at hrl; omega))
  clear hb hr hrl hg e1 e2 e3
  generalize W.heap.size = B at HBR HV0 hBl HF1 ⊢
  obtain ⟨m, hpm⟩ : ∃ m, (pieceL a b).length = m := ⟨_, rfl⟩
  have HP := hid hpm
  rw [hpm] at hm ⊢
  clear hpm
  go_loopw [5, 31] (fun x5 x31 wr => ∃ (k : Nat) (bl : Bool), k ≤ m ∧ x31 = .int .i64 k ∧ x5 = .bool bl ∧ Hid (((((pieceL a b).take k).foldl (learnQ n e) (l, false)).2 = bl) ∧ ∃ v, ViewAt (LB w0 B r a b n e) g ((((pieceL a b).take k).foldl (learnQ n e) (l, false)).1) wr v)) (fun _ i _ => m - (intOf i).toNat)
  case atStart => exact ⟨0, false, Nat.zero_le _, rfl, rfl, hid ⟨rfl, _, HV0.out⟩⟩
  case round =>
    obtain ⟨k, bl, hk, rfl, rfl, HR⟩ := hrel
    obtain ⟨LK, hLK⟩ : ∃ LK, ((pieceL a b).take k).foldl (learnQ n e) (l, false) = LK := ⟨_, rfl⟩
    rw [hLK] at HR
    have HLK := hid hLK
    clear hLK
    by_cases hlt : k < m
    · obtain ⟨q, hq⟩ : ∃ q, (pieceL a b)[k]? = some q := ⟨(pieceL a b)[k]'(by rw [HP.out]; exact hlt), List.getElem?_eq_getElem _⟩
      have HQ := hid hq
      clear hq
      obtain ⟨hbl, v1, hv1⟩ := HR.out
      clear HR
      have HBL := hid hbl
      clear hbl
      obtain ⟨p0, p1, p2, p3⟩ := lb_facts hv1 HBR.out HQ.out
      have HRF := hid (hv1.fresh (Nat.le_refl _))
      have h7 := ObjAt.box hv1 (Below.alloc (Below.refl _ _) (Nat.le_refl _) (qO q)) wr.heap.size (qO q) (Nat.le_refl _) (heap_alloc_at _ _ _ rfl)
      have hBr : B ≠ wr.heap.size := by omega
      have HBr := hid hBr
      have HLL := hid (show LK.1.length ≤ 808 from by
        have h1 := learnF_len n e ((pieceL a b).take k) (l, false)
        rw [HLK.out] at h1
        have h2 : ((pieceL a b).take k).length ≤ 2 := by rw [List.length_take]; have := HP.out; omega
        have h3 := HL.out
        simp only at h1
        omega)
      have HV1 := hid hv1
      clear hv1 hBr
      go_wp2_with fail
      refine (cut_is h7 (by have := HLL.out; omega) _).mono ?_
      rintro _ W2 ⟨rfl, v2, hv2⟩
      obtain ⟨f0, f1, f2, f3, f4, f5, f6, f7, f8, f9⟩ := lq_facts hv2 HBR.out HBr.out
      generalize wr.heap.size = R at HRF HBr hv2 f0 f1 f2 f3 f4 f5 f6 f7 f8 f9 ⊢
      clear h7 p0 p1 p2 p3
      rcases Decidable.em (0 < q.2) with d0 | d0
      · have HQC := hid (show cutQ LK.1 q = cutL (cutL LK.1 q.1) q.2 from by unfold cutQ; rw [if_pos d0])
        have d0 := decide_eq_true d0
        go_wp2_with fail
        refine (cut_is hv2 (by have := HLL.out; have := cutL_len LK.1 q.1; omega) _).mono ?_
        rintro _ W3 ⟨rfl, v3, hv3⟩
        obtain ⟨f0, f1, f2, f3, f4, f5, f6, f7, f8, f9⟩ := lq_facts hv3 HBR.out HBr.out
        rw [← HQC.out] at hv3
        obtain ⟨ao, n3, cc, rfl⟩ := owns_form hv3.owns
        obtain ⟨LC, hLC⟩ : ∃ LC, cutQ LK.1 q = LC := ⟨_, rfl⟩
        rw [hLC] at hv3
        have hn3 : LC.length = n3 := by obtain ⟨_, _, ee⟩ := owns_slice hv3.owns; injection ee with _ ee _; exact ee.symm
        have hl3 : n3 ≤ 900 := by have := cutQ_len LK.1 q; rw [hLC] at this; have := HLL.out; omega
        have HLC := hid hLC
        clear hLC
        have HV3 := hid hv3
        clear hv3
        go_wp2_with fail
        go_loopw [5, 51] (fun x5 x51 wr2 => ∃ (j : Nat) (bj : Bool) (lj : List Pt), j ≤ n3 ∧ x51 = .int .i64 j ∧ x5 = .bool bj ∧ Hid (LearnTo q n e bl LC j lj bj) ∧ ViewAt ((LB w0 B r a b n e).with R (qO q)) g lj wr2 (.slice ao n3 cc)) (fun _ i _ => n3 - (intOf i).toNat)
        case atStart => exact ⟨0, bl, LC, Nat.zero_le _, rfl, rfl, hid (LearnTo.zero _ _ _ _ _), HV3.out⟩
        case round =>
          obtain ⟨j, bj, lj, hj, rfl, rfl, HT, hvj⟩ := hrel
          clear f0 f1 f2 f3 f4 f5 f6 f7
          by_cases hjl : j < n3
          · obtain ⟨p, hp⟩ : ∃ p, LC[j]? = some p := ⟨LC[j]'(by omega), List.getElem?_eq_getElem _⟩
            have hpj : lj[j]? = some p := (HT.out.new j (Nat.le_refl _)).trans hp
            obtain ⟨s, hs⟩ : ∃ s, ao = some ⟨s, 0, none⟩ := by
              obtain ⟨s, cap, h2, _, _⟩ := World.ownsRow.form hvj.owns (by rw [HT.out.len]; omega)
              injection h2 with h2 _ _; exact ⟨s, h2⟩
            subst hs
            obtain ⟨c0, c1, c2⟩ := part_cells (by have ho := hvj.owns; rw [HT.out.len, hn3] at ho; exact ho) hpj
            obtain ⟨f0, f1, f2, f3, f4, f5, f6, f7, _, _⟩ := lq_facts hvj HBR.out HBr.out
            have hsl := (hvj.owns.lt s rfl).2
            obtain ⟨scur, _, _, hsr, _, _⟩ := row_open (n := n3) (cap := cc) (xs := flatV lj) (by have ho := owns_zero hvj.owns; rw [HT.out.len, hn3] at ho; exact ho)
            have HSR := hid hsr
            clear hsr
            have HPJ := hid hp
            have HPL := hid hpj
            have HVJ := hid hvj
            have HN3 := hid hn3
            clear hvj hp hpj hn3
            rcases Decidable.em (p.1 < q.1) with dA | dA
            · have dA := decide_eq_true dA
              have HS := hid (show stays q e p = true from by simp [stays, dA] <;> (intros; omega))
              go_wp2_with fail
              go_roundw
              case rel => exact ⟨j + 1, bj, lj, by omega, by go_num, rfl, hid (HT.out.stay HPJ.out HS.out), HVJ.out.on (by repeat' (first | exact Below.refl _ _ | with_reducible assumption | omega | with_reducible refine below_put_fut ?_ ?_ _ | with_reducible refine below_to_put ?_ | with_reducible refine Below.alloc ?_ ?_ _ | with_reducible refine Below.fut ?_ ?_ _ | with_reducible refine Below.drew ?_ | with_reducible refine Below.setCell ?_ ?_ _ | with_reducible refine Below.atPut ?_ ?_ _ | (simp [go_sem]; done) | (simp [go_sem]; omega)))⟩
              case measure => simp [intOf]; omega
            · have dA := decide_eq_false dA
              rcases Decidable.em (q.2 ≤ p.1) with dB | dB
              · have dB := decide_eq_true dB
                have HS := hid (show stays q e p = true from by simp [stays, dA, d0, dB] <;> (intros; omega))
                go_wp2_with fail
                go_roundw
                case rel => exact ⟨j + 1, bj, lj, by omega, by go_num, rfl, hid (HT.out.stay HPJ.out HS.out), HVJ.out.on (by repeat' (first | exact Below.refl _ _ | with_reducible assumption | omega | with_reducible refine below_put_fut ?_ ?_ _ | with_reducible refine below_to_put ?_ | with_reducible refine Below.alloc ?_ ?_ _ | with_reducible refine Below.fut ?_ ?_ _ | with_reducible refine Below.drew ?_ | with_reducible refine Below.setCell ?_ ?_ _ | with_reducible refine Below.atPut ?_ ?_ _ | (simp [go_sem]; done) | (simp [go_sem]; omega)))⟩
                case measure => simp [intOf]; omega
              · have dB := decide_eq_false dB
                rcases Decidable.em (0 ≤ p.2.1) with dN | dN
                · have dN := decide_eq_true dN
                  rcases Decidable.em (e ≤ p.2.2) with dE | dE
                  · have dE := decide_eq_true dE
                    have HS := hid (show stays q e p = true from by simp [stays, dA, d0, dB, dN, dE] <;> (intros; omega))
                    go_wp2_with fail
                    go_roundw
                    case rel => exact ⟨j + 1, bj, lj, by omega, by go_num, rfl, hid (HT.out.stay HPJ.out HS.out), HVJ.out.on (by repeat' (first | exact Below.refl _ _ | with_reducible assumption | omega | with_reducible refine below_put_fut ?_ ?_ _ | with_reducible refine below_to_put ?_ | with_reducible refine Below.alloc ?_ ?_ _ | with_reducible refine Below.fut ?_ ?_ _ | with_reducible refine Below.drew ?_ | with_reducible refine Below.setCell ?_ ?_ _ | with_reducible refine Below.atPut ?_ ?_ _ | (simp [go_sem]; done) | (simp [go_sem]; omega)))⟩
                    case measure => simp [intOf]; omega
                  · have dE := decide_eq_false dE
                    have HS := hid (show stays q e p = false from by simp [stays, dA, d0, dB, dN, dE] <;> (intros; omega))
                    have hfr := fun i => frozen_of HSR.out i
                    go_wp2_with fail
                    go_region
                    all_goals (go_wp2_with fail)
                    refine ⟨⟨j + 1, true, lj.set j (p.1, n, e), by omega, by go_num, rfl, hid (HT.out.turn HPJ.out HS.out), (store_part HVJ.out (Below.refl _ _) HPL.out n e).on (by repeat' (first | exact Below.refl _ _ | with_reducible assumption | omega | with_reducible refine below_put_fut ?_ ?_ _ | with_reducible refine below_to_put ?_ | with_reducible refine Below.alloc ?_ ?_ _ | with_reducible refine Below.fut ?_ ?_ _ | with_reducible refine Below.drew ?_ | with_reducible refine Below.setCell ?_ ?_ _ | with_reducible refine Below.atPut ?_ ?_ _ | (simp [go_sem]; done) | (simp [go_sem]; omega)))⟩, by simp [intOf]; omega⟩
                · have dN := decide_eq_false dN
                  have HS := hid (show stays q e p = false from by simp [stays, dA, d0, dB, dN] <;> (intros; omega))
                  have hfr := fun i => frozen_of HSR.out i
                  go_wp2_with fail
                  go_region
                  all_goals (go_wp2_with fail)
                  refine ⟨⟨j + 1, true, lj.set j (p.1, n, e), by omega, by go_num, rfl, hid (HT.out.turn HPJ.out HS.out), (store_part HVJ.out (Below.refl _ _) HPL.out n e).on (by repeat' (first | exact Below.refl _ _ | with_reducible assumption | omega | with_reducible refine below_put_fut ?_ ?_ _ | with_reducible refine below_to_put ?_ | with_reducible refine Below.alloc ?_ ?_ _ | with_reducible refine Below.fut ?_ ?_ _ | with_reducible refine Below.drew ?_ | with_reducible refine Below.setCell ?_ ?_ _ | with_reducible refine Below.atPut ?_ ?_ _ | (simp [go_sem]; done) | (simp [go_sem]; omega)))⟩, by simp [intOf]; omega⟩
          · obtain rfl : j = n3 := by omega
            have ht := HT.out
            rw [← hn3] at ht
            obtain ⟨x1, x2⟩ := ht.full
            have HE := hid (show ((pieceL a b).take (k + 1)).foldl (learnQ n e) (l, false) = (lj, bj) from by rw [fold_take HQ.out, HLK.out]; unfold learnQ; rw [HLC.out, HBL.out, x1, x2])
            have HVJ := hid hvj
            have HN3 := hid hn3
            clear ht x1 x2 hvj hn3
            go_wp2_with fail
            go_roundw
            case rel => exact ⟨k + 1, bj, by omega, by go_num, rfl, hid (by rw [HE.out]; exact ⟨rfl, _, ObjAt.unlearn (HVJ.out.on (by repeat' (first | exact Below.refl _ _ | with_reducible assumption | omega | with_reducible refine below_put_fut ?_ ?_ _ | with_reducible refine below_to_put ?_ | with_reducible refine Below.alloc ?_ ?_ _ | with_reducible refine Below.fut ?_ ?_ _ | with_reducible refine Below.drew ?_ | with_reducible refine Below.setCell ?_ ?_ _ | with_reducible refine Below.atPut ?_ ?_ _ | (simp [go_sem]; done) | (simp [go_sem]; omega)))) HRF.out⟩)⟩
            case measure => simp [intOf]; omega
      · have HQC := hid (show cutQ LK.1 q = cutL LK.1 q.1 from by unfold cutQ; rw [if_neg d0])
        have d0 := decide_eq_false d0
        rw [← HQC.out] at hv2
        obtain ⟨ao, n3, cc, rfl⟩ := owns_form hv2.owns
        obtain ⟨LC, hLC⟩ : ∃ LC, cutQ LK.1 q = LC := ⟨_, rfl⟩
        rw [hLC] at hv2
        have hn3 : LC.length = n3 := by obtain ⟨_, _, ee⟩ := owns_slice hv2.owns; injection ee with _ ee _; exact ee.symm
        have hl3 : n3 ≤ 900 := by have := cutQ_len LK.1 q; rw [hLC] at this; have := HLL.out; omega
        have HLC := hid hLC
        clear hLC
        have HV3 := hid hv2
        clear hv2
        go_wp2_with fail
        go_loopw [5, 51] (fun x5 x51 wr2 => ∃ (j : Nat) (bj : Bool) (lj : List Pt), j ≤ n3 ∧ x51 = .int .i64 j ∧ x5 = .bool bj ∧ Hid (LearnTo q n e bl LC j lj bj) ∧ ViewAt ((LB w0 B r a b n e).with R (qO q)) g lj wr2 (.slice ao n3 cc)) (fun _ i _ => n3 - (intOf i).toNat)
        case atStart => exact ⟨0, bl, LC, Nat.zero_le _, rfl, rfl, hid (LearnTo.zero _ _ _ _ _), HV3.out⟩
        case round =>
          obtain ⟨j, bj, lj, hj, rfl, rfl, HT, hvj⟩ := hrel
          clear f0 f1 f2 f3 f4 f5 f6 f7
          by_cases hjl : j < n3
          · obtain ⟨p, hp⟩ : ∃ p, LC[j]? = some p := ⟨LC[j]'(by omega), List.getElem?_eq_getElem _⟩
            have hpj : lj[j]? = some p := (HT.out.new j (Nat.le_refl _)).trans hp
            obtain ⟨s, hs⟩ : ∃ s, ao = some ⟨s, 0, none⟩ := by
              obtain ⟨s, cap, h2, _, _⟩ := World.ownsRow.form hvj.owns (by rw [HT.out.len]; omega)
              injection h2 with h2 _ _; exact ⟨s, h2⟩
            subst hs
            obtain ⟨c0, c1, c2⟩ := part_cells (by have ho := hvj.owns; rw [HT.out.len, hn3] at ho; exact ho) hpj
            obtain ⟨f0, f1, f2, f3, f4, f5, f6, f7, _, _⟩ := lq_facts hvj HBR.out HBr.out
            have hsl := (hvj.owns.lt s rfl).2
            obtain ⟨scur, _, _, hsr, _, _⟩ := row_open (n := n3) (cap := cc) (xs := flatV lj) (by have ho := owns_zero hvj.owns; rw [HT.out.len, hn3] at ho; exact ho)
            have HSR := hid hsr
            clear hsr
            have HPJ := hid hp
            have HPL := hid hpj
            have HVJ := hid hvj
            have HN3 := hid hn3
            clear hvj hp hpj hn3
            rcases Decidable.em (p.1 < q.1) with dA | dA
            · have dA := decide_eq_true dA
              have HS := hid (show stays q e p = true from by simp [stays, dA] <;> (intros; omega))
              go_wp2_with fail
              go_roundw
              case rel => exact ⟨j + 1, bj, lj, by omega, by go_num, rfl, hid (HT.out.stay HPJ.out HS.out), HVJ.out.on (by repeat' (first | exact Below.refl _ _ | with_reducible assumption | omega | with_reducible refine below_put_fut ?_ ?_ _ | with_reducible refine below_to_put ?_ | with_reducible refine Below.alloc ?_ ?_ _ | with_reducible refine Below.fut ?_ ?_ _ | with_reducible refine Below.drew ?_ | with_reducible refine Below.setCell ?_ ?_ _ | with_reducible refine Below.atPut ?_ ?_ _ | (simp [go_sem]; done) | (simp [go_sem]; omega)))⟩
              case measure => simp [intOf]; omega
            · have dA := decide_eq_false dA
              rcases Decidable.em (0 ≤ p.2.1) with dN | dN
              · have dN := decide_eq_true dN
                rcases Decidable.em (e ≤ p.2.2) with dE | dE
                · have dE := decide_eq_true dE
                  have HS := hid (show stays q e p = true from by simp [stays, dA, d0, dN, dE] <;> (intros; omega))
                  go_wp2_with fail
                  go_roundw
                  case rel => exact ⟨j + 1, bj, lj, by omega, by go_num, rfl, hid (HT.out.stay HPJ.out HS.out), HVJ.out.on (by repeat' (first | exact Below.refl _ _ | with_reducible assumption | omega | with_reducible refine below_put_fut ?_ ?_ _ | with_reducible refine below_to_put ?_ | with_reducible refine Below.alloc ?_ ?_ _ | with_reducible refine Below.fut ?_ ?_ _ | with_reducible refine Below.drew ?_ | with_reducible refine Below.setCell ?_ ?_ _ | with_reducible refine Below.atPut ?_ ?_ _ | (simp [go_sem]; done) | (simp [go_sem]; omega)))⟩
                  case measure => simp [intOf]; omega
                · have dE := decide_eq_false dE
                  have HS := hid (show stays q e p = false from by simp [stays, dA, d0, dN, dE] <;> (intros; omega))
                  have hfr := fun i => frozen_of HSR.out i
                  go_wp2_with fail
                  go_region
                  all_goals (go_wp2_with fail)
                  refine ⟨⟨j + 1, true, lj.set j (p.1, n, e), by omega, by go_num, rfl, hid (HT.out.turn HPJ.out HS.out), (store_part HVJ.out (Below.refl _ _) HPL.out n e).on (by repeat' (first | exact Below.refl _ _ | with_reducible assumption | omega | with_reducible refine below_put_fut ?_ ?_ _ | with_reducible refine below_to_put ?_ | with_reducible refine Below.alloc ?_ ?_ _ | with_reducible refine Below.fut ?_ ?_ _ | with_reducible refine Below.drew ?_ | with_reducible refine Below.setCell ?_ ?_ _ | with_reducible refine Below.atPut ?_ ?_ _ | (simp [go_sem]; done) | (simp [go_sem]; omega)))⟩, by simp [intOf]; omega⟩
              · have dN := decide_eq_false dN
                have HS := hid (show stays q e p = false from by simp [stays, dA, d0, dN] <;> (intros; omega))
                have hfr := fun i => frozen_of HSR.out i
                go_wp2_with fail
                go_region
                all_goals (go_wp2_with fail)
                refine ⟨⟨j + 1, true, lj.set j (p.1, n, e), by omega, by go_num, rfl, hid (HT.out.turn HPJ.out HS.out), (store_part HVJ.out (Below.refl _ _) HPL.out n e).on (by repeat' (first | exact Below.refl _ _ | with_reducible assumption | omega | with_reducible refine below_put_fut ?_ ?_ _ | with_reducible refine below_to_put ?_ | with_reducible refine Below.alloc ?_ ?_ _ | with_reducible refine Below.fut ?_ ?_ _ | with_reducible refine Below.drew ?_ | with_reducible refine Below.setCell ?_ ?_ _ | with_reducible refine Below.atPut ?_ ?_ _ | (simp [go_sem]; done) | (simp [go_sem]; omega)))⟩, by simp [intOf]; omega⟩
          · obtain rfl : j = n3 := by omega
            have ht := HT.out
            rw [← hn3] at ht
            obtain ⟨x1, x2⟩ := ht.full
            have HE := hid (show ((pieceL a b).take (k + 1)).foldl (learnQ n e) (l, false) = (lj, bj) from by rw [fold_take HQ.out, HLK.out]; unfold learnQ; rw [HLC.out, HBL.out, x1, x2])
            have HVJ := hid hvj
            have HN3 := hid hn3
            clear ht x1 x2 hvj hn3
            go_wp2_with fail
            go_roundw
            case rel => exact ⟨k + 1, bj, by omega, by go_num, rfl, hid (by rw [HE.out]; exact ⟨rfl, _, ObjAt.unlearn (HVJ.out.on (by repeat' (first | exact Below.refl _ _ | with_reducible assumption | omega | with_reducible refine below_put_fut ?_ ?_ _ | with_reducible refine below_to_put ?_ | with_reducible refine Below.alloc ?_ ?_ _ | with_reducible refine Below.fut ?_ ?_ _ | with_reducible refine Below.drew ?_ | with_reducible refine Below.setCell ?_ ?_ _ | with_reducible refine Below.atPut ?_ ?_ _ | (simp [go_sem]; done) | (simp [go_sem]; omega)))) HRF.out⟩)⟩
            case measure => simp [intOf]; omega
    · obtain rfl : k = m := by omega
      obtain ⟨hbl, v1, hv1⟩ := HR.out
      have HE := hid (show learnAll l (a, b, n, e) = LK from by
        have h1 := HLK.out
        rw [← HP.out, List.take_length] at h1
        unfold learnAll
        rw [if_neg HNE.out]
        exact h1)
      have HBL := hid hbl
      have HV1 := hid hv1
      clear HR hbl hv1
      go_wp2_with fail
      go_ret
      rw [HE.out]
      exact ⟨by rw [HBL.out]; simp, v1, (lb_bare HV1.out HBR.out HF1.out HF2.out).on (by repeat' (first | exact Below.refl _ _ | with_reducible assumption | omega | with_reducible refine below_put_fut ?_ ?_ _ | with_reducible refine below_to_put ?_ | with_reducible refine Below.alloc ?_ ?_ _ | with_reducible refine Below.fut ?_ ?_ _ | with_reducible refine Below.drew ?_ | with_reducible refine Below.setCell ?_ ?_ _ | with_reducible refine Below.atPut ?_ ?_ _ | (simp [go_sem]; done) | (simp [go_sem]; omega)))⟩
end Go.Proofs.Ythgajbfgolcpkaa
