import Derived.Test.YthgajbfgolcpkaaVw2
/- A view: a part begins at a point. -/
namespace Go.Proofs.Ythgajbfgolcpkaa
open Go.RowKit
set_option linter.unusedVariables false
set_option linter.unusedSimpArgs false
theorem insert_row (W : World) (v : Value) (n : Nat) (xs : List Value) (hi : Row W 106 3 v n xs) (hn : n ≤ 1000) (h1 : ∀ u ∈ xs, u.oneCell' = true) (i : Nat) (hin : i ≤ n)
    (a : Nat) (news : List Value) (hnl : news.length = 3) (hn1 : ∀ u ∈ news, u.oneCell' = true) (ha : W.heap[a]? = some (.cells news.toArray 106)) (hne : v.ownBlock ≠ some a) :
    Calls Try.prog 68 #[v, .int .i64 i, .slice (some ⟨a, 0, none⟩) 1 1] W fun en W' => ∃ v', en = .returned v' ∧ Row W' 106 3 v' (n + 1) (xs.take (i * 3) ++ news ++ xs.drop (i * 3)) ∧ Chg (fun k => blk v k ≠ 0) W W' ∧ (∀ k, k < W.heap.size → blk v' k ≤ blk v k) := by
  rcases Nat.lt_or_ge i n with h | h
  · obtain ⟨r, cap, rfl⟩ := Row.some_of hi (by omega)
    have hra : a ≠ r := fun e => hne (by subst e; rfl)
    have hb : ∀ k, one r k = blk (.slice (some ⟨r, 0, none⟩) n cap) k := fun k => (blk_at _ _ _ _ _ none).symm
    have hm : ∀ W', Chg (fun k => k = r) W W' → Chg (fun k => blk (.slice (some ⟨r, 0, none⟩) n cap) k ≠ 0) W W' := fun W' h => h.mono fun k _ e => by rw [← hb, e]; simp [one]
    rcases Nat.lt_or_ge cap (n + 1) with c | c
    · refine (insert_part_grow W r cap n xs hi hn h1 i h c a news hnl hn1 ha).mono ?_
      rintro _ _ ⟨v', h1, h2, h3, h4⟩
      exact ⟨v', h1, h2, hm _ h3, fun k hk => hb k ▸ h4 k hk⟩
    · refine (insert_part_room W r cap n xs hi hn h1 i h c a news hnl hn1 ha hra).mono ?_
      rintro _ _ ⟨v', h1, h2, h3, h4⟩
      exact ⟨v', h1, h2, hm _ h3, fun k hk => hb k ▸ h4 k hk⟩
  · obtain rfl : i = n := by omega
    have e1 : xs.take (i * 3) = xs := List.take_of_length_le (by rw [hi.1]; omega)
    have e2 : xs.drop (i * 3) = [] := List.drop_eq_nil_of_le (by rw [hi.1]; omega)
    rw [e1, e2, List.append_nil]
    exact insert_part_end W v i xs hi hn a news hnl hn1 ha
/-- A part laid into a view's row, which the view then takes. -/
theorem insert_obj {w0 : Base} {g : Nat} {l : List Pt} {W : World} {v : Value} (h : ViewAt w0 g l W v) (hn : l.length ≤ 1000) (i : Nat) (hin : i ≤ l.length) (p : Pt) (W2 : World) (hb : Below W.heap.size W W2) (a : Nat) (ha : W2.heap[a]? = some (.cells (ptl p).toArray 106)) (hal : W.heap.size ≤ a) :
    Calls Try.prog 68 #[v, .int .i64 i, .slice (some ⟨a, 0, none⟩) 1 1] W2 fun en W' => ∃ v' W3, en = .returned v' ∧ W' = put W3 g (viewObj v) ∧ g < W3.heap.size ∧ ViewAt w0 g (l.take i ++ p :: l.drop i) (put W3 g (viewObj v')) v' := by
  have h2 := h.on hb
  have hlt : ∀ k, v.ownBlock = some k → w0.heap.size ≤ k ∧ k < W.heap.size := h.owns.lt
  refine (insert_row W2 v l.length (flatV l) (owns_zero h2.owns) hn (flatV_one l) i hin a (ptl p) rfl (by intro u hu; simp [ptl] at hu; rcases hu with rfl | rfl | rfl <;> rfl) ha (fun e => by have := (hlt a e).2; omega)).mono ?_
  rintro _ W' ⟨v', rfl, hr, hc, hl⟩
  have hgl := h2.lt
  have hv : v'.ownBlock = v.ownBlock ∨ ∀ k, v'.ownBlock = some k → W2.heap.size ≤ k := by
    cases ho : v'.ownBlock with
    | none => exact .inr fun k hk => by cases hk
    | some k =>
      rcases Nat.lt_or_ge k W2.heap.size with c | c
      · have := hl k c
        refine .inl ?_
        have h1 : blk v' k = 1 := by unfold blk; rw [if_pos ho]
        rw [h1] at this
        exact (blk_ne (v := v) (k := k) (by omega)).symm
      · exact .inr fun j hj => by cases hj; exact c
  have hne : v'.ownBlock ≠ some g := by
    rcases hv with e | e
    · rw [e]; exact h2.ne
    · intro hg; have := e g hg; omega
  have hg3 : W'.heap[g]? = some (viewObj v) := (hc.block g hgl (fun e => h2.ne (blk_ne e))).trans h2.heap
  refine ⟨v', W', rfl, (put_self hg3).symm, lt_of_heap hg3, ?_⟩
  have hch : Chg (fun k => k = g ∨ v.ownBlock = some k) W2 (put W' g (viewObj v')) := (hc.mono fun k _ e => .inr (blk_ne e)).put (fun _ => .inl rfl) _
  have e : flatV (l.take i ++ p :: l.drop i) = (flatV l).take (i * 3) ++ ptl p ++ (flatV l).drop (i * 3) := by rw [flatV_append, flatV_take, flatV_drop]; simp [flatV]
  have el : (l.take i ++ p :: l.drop i).length = l.length + 1 := by simp; omega
  unfold ViewAt
  rw [e, el]
  refine ObjAt.step h2 hch (heap_put_at _ _ _ (lt_of_heap hg3)) (owns_put (owns_base hr fun k hk => ?_) hne _) hv
  rcases hv with c | c
  · exact (hlt k (c ▸ hk)).1
  · have := c k hk; have := h2.size; omega
/-- What the parts are after a cut, of which there are some. -/
def cutS (l : List Pt) (x : Int) : List Pt :=
  match l[placeTo x l l.length]? with
  | some p => if p.1 = x then l else l.take (placeTo x l l.length + 1) ++ (x, p.2.1, p.2.2) :: l.drop (placeTo x l l.length + 1)
  | none => l
def cutL (l : List Pt) (x : Int) : List Pt := cutS (if l = [] then [(0, -1, 0)] else l) x
theorem placeTo_lt (x : Int) (l : List Pt) : ∀ k, k ≤ l.length → 0 < l.length → placeTo x l k < l.length
  | 0, _, h => h
  | k + 1, hk, h => by
    have := placeTo_lt x l k (by omega) h
    unfold placeTo
    split
    · split <;> omega
    · exact this
theorem view_fresh {w0 : Base} {g : Nat} {W : World} {v : Value} (h : ViewAt w0 g [] W v) (W2 : World) (hb : Below W.heap.size W W2) (a : Nat) (p : Pt) (ha : W2.heap[a]? = some (.cells (ptl p).toArray 106)) (hal : W.heap.size ≤ a) :
    ViewAt w0 g [p] (put W2 g (viewObj (.slice (some ⟨a, 0, none⟩) 1 1))) (.slice (some ⟨a, 0, none⟩) 1 1) := by
  have h2 := h.on hb
  have hg := h.lt
  have hgl := h2.lt
  have hne : (Value.slice (some ⟨a, 0, none⟩) 1 1).ownBlock ≠ some g := fun e => by
    have : a = g := Option.some.inj e
    omega
  have hr : W2.ownsRow w0.heap.size 106 3 (.slice (some ⟨a, 0, none⟩) 1 1) 1 (ptl p) :=
    ⟨rfl, .inr ⟨a, 1, _, rfl, by have := h.size; omega, ha, Nat.le_refl _, by unfold maxLen; omega, rfl, rfl⟩⟩
  refine ⟨Below.atPut h2.below h2.base _, heap_put_at _ _ _ hgl, owns_put (by simpa [flatV] using hr) hne _, h2.base, hne, fun k q hk => ?_⟩
  obtain ⟨k1, k2, k3⟩ := h.kept k q hk
  have hl := lt_of_heap k1
  obtain ⟨j1, j2, _⟩ := h2.kept k q hk
  exact ⟨by rw [heap_put_other _ _ _ _ j2]; exact j1, j2, fun e => by have : a = k := Option.some.inj e; omega⟩
theorem owns_form {W : World} {base : Nat} {e : TypeId} {size n : Nat} {v : Value} {xs : List Value} (h : W.ownsRow base e size v n xs) : ∃ a n c, v = .slice a n c := by
  obtain ⟨a, c, e⟩ := owns_slice h
  exact ⟨a, _, c, e⟩
set_option maxRecDepth 100000 in
set_option maxHeartbeats 4000000 in
theorem cut_some {w0 : Base} {g : Nat} {l : List Pt} {W : World} {v : Value} (h : ViewAt w0 g l W v) (n : Nat) (hn : l.length = n) (hl : n ≤ 900) (hp : 0 < n) (x : Int) :
    Calls Try.prog 56 #[.pointer (some ⟨g, 0, none⟩), .int .u64 x] W fun en W' => en = .returned (.tuple #[]) ∧ ∃ v', ViewAt w0 g (cutS l x) W' v' := by
  obtain ⟨r, cc, rfl⟩ := Row.some_of (owns_zero h.owns) (by omega)
  rw [hn] at h
  have hpl := placeTo_lt x l n (by omega) (by omega)
  obtain ⟨k, hk⟩ : ∃ k, placeTo x l n = k := ⟨_, rfl⟩
  have hplace := place_is h n hn (by omega) x
  rw [hk] at hplace hpl
  obtain ⟨p, hpk⟩ : ∃ p, l[k]? = some p := ⟨l[k], List.getElem?_eq_getElem _⟩
  have hcl : cutS l x = if p.1 = x then l else l.take (k + 1) ++ (x, p.2.1, p.2.2) :: l.drop (k + 1) := by unfold cutS; rw [hn, hk, hpk]
  have hins := insert_obj h (by omega) (k + 1) (by omega) (x, p.2.1, p.2.2)
  have hc := cell_of_row W g 0 _ _ (0, 0) h.heap
  have hw : ((k + 1 : Nat) : Int) = IntKind.i64.wrap ((k : Int) + 1) := by rw [IntKind.wrap_i64]; omega
  rw [hw] at hins
  have hlr := (h.owns.lt r rfl).2
  obtain ⟨c0, c1, c2⟩ := part_cells (by have ho := h.owns; rw [hn] at ho; exact ho) hpk
  have H := hid h
  have HC := hid hcl
  have HI := hid hins
  have hg := h.lt
  have hkn : k < n := by omega
  clear h hcl hins hpl hk hpk
  have hn' := hid hn
  clear hn
  rcases Decidable.em (p.1 = x) with e | e
  · rw [if_pos e] at HC
    have eb : (p.1 != x) = false := by simp [e]
    go_enter Try.func56, Try.ntmps56
    go_wp2_with ((with_reducible refine hplace.mono ?_); rintro _ _ ⟨rfl, u, rfl⟩)
    refine bodyPost_end (results_none rfl _ _ _) rfl ?_
    exact ⟨rfl, _, HC.out ▸ H.out.on (by repeat' (first | exact Below.refl _ _ | with_reducible assumption | omega | with_reducible refine below_put_fut ?_ ?_ _ | with_reducible refine below_to_put ?_ | with_reducible refine Below.alloc ?_ ?_ _ | with_reducible refine Below.fut ?_ ?_ _ | with_reducible refine Below.drew ?_ | with_reducible refine Below.setCell ?_ ?_ _ | with_reducible refine Below.atPut ?_ ?_ _ | (simp [go_sem]; done) | (simp [go_sem]; omega)))⟩
  · have eb : (p.1 != x) = true := by simp [e]
    go_enter Try.func56, Try.ntmps56
    go_wp2_with ((with_reducible refine hplace.mono ?_); rintro _ _ ⟨rfl, u, rfl⟩)
    refine wp_region_any (by kernel_rfl) ?_
    change wpAny _ _ _ _ _ _ _ (World.drew _)
    refine wpAny_take (i := 0) (v := ?_) rfl (by kernel_rfl) (by kernel_rfl) (by kernel_rfl) (fun _ _ _ h => h) (Or.inl ⟨by rfl, ?_⟩) ?_
    rotate_left
    · (intro w; go_simp; try with_reducible rfl)
    refine wpAny_take (i := 1) (v := ?_) rfl (by kernel_rfl) (by kernel_rfl) (by kernel_rfl) (fun _ _ _ h => h) (Or.inl ⟨by rfl, ?_⟩) ?_
    rotate_left
    · (intro w; go_simp; try with_reducible rfl)
    refine wpAny_take (i := 2) (v := ?_) rfl (by kernel_rfl) (by kernel_rfl) (by kernel_rfl) (fun _ _ _ h => h) (Or.inl ⟨by rfl, ?_⟩) ?_
    rotate_left
    · (intro w; go_simp; try with_reducible rfl)
    refine wpAny_take (i := 3) (v := ?_) rfl (by kernel_rfl) (by kernel_rfl) (by kernel_rfl) (fun _ _ _ h => h) (Or.inl ⟨by rfl, ?_⟩) ?_
    rotate_left
    · (intro w; go_simp; try with_reducible rfl)
    refine wpAny_take (i := 5) (v := ?_) rfl (by kernel_rfl) (by kernel_rfl) (by kernel_rfl) (fun _ _ _ h => h) (Or.inl ⟨by rfl, ?_⟩) ?_
    rotate_left
    · (intro w; go_simp; try with_reducible rfl)
    refine wpAny_take (i := 6) (v := ?_) rfl (by kernel_rfl) (by kernel_rfl) (by kernel_rfl) (fun _ _ _ h => h) (Or.inl ⟨by rfl, ?_⟩) ?_
    rotate_left
    · (intro w; go_simp; try with_reducible rfl)
    refine wpAny_ready (rs := [4, 7]) (by kernel_rfl) (by simp) ?_
    refine AllReady.cons (i := 4) rfl (fun K hK => ?_) ?_
    · go_simp
      refine hK _ _ ?_
      clear hK K
      refine wpAny_ready (rs := [7]) (by kernel_rfl) (by simp) ?_
      refine AllReady.cons (i := 7) rfl (fun K hK => ?_) ?_
      · go_simp
        refine hK _ _ ?_
        clear hK K
        refine wpAny_ready (rs := [8]) (by kernel_rfl) (by simp) ?_
        refine AllReady.cons (i := 8) rfl (fun K hK => ?_) ?_
        · go_simp
          refine hK _ _ ?_
          clear hK K
          refine wpAny_ready (rs := [9]) (by kernel_rfl) (by simp) ?_
          refine AllReady.cons (i := 9) rfl (fun K hK => ?_) AllReady.nil
          go_simp
          refine (HI.out _ (by repeat' (first | exact Below.refl _ _ | with_reducible assumption | omega | with_reducible refine below_put_fut ?_ ?_ _ | with_reducible refine below_to_put ?_ | with_reducible refine Below.alloc ?_ ?_ _ | with_reducible refine Below.fut ?_ ?_ _ | with_reducible refine Below.drew ?_ | with_reducible refine Below.setCell ?_ ?_ _ | with_reducible refine Below.atPut ?_ ?_ _ | (simp [go_sem]; done) | (simp [go_sem]; omega))) (W.heap.size + u.n + 1) (by repeat' (first | rfl | assumption | (with_reducible refine (heap_drew_eq _ _).trans ?_) | (refine (Fut.heap _ _ ?_).trans ?_ ; focus (first | assumption | omega | (simp [go_sem]; done) | (simp [go_sem]; omega))) | (refine (heap_put_at _ _ _ ?_).trans ?_ ; focus (first | assumption | omega | (simp [go_sem]; done) | (simp [go_sem]; omega))) | (refine (heap_put_other _ _ _ _ ?_).trans ?_ ; focus (first | assumption | omega | (simp [go_sem]; done) | (simp [go_sem]; omega))) | (refine (heap_alloc_other _ _ _ ?_).trans ?_ ; focus (first | assumption | omega | (simp [go_sem]; done) | (simp [go_sem]; omega))) | (refine (heap_alloc_at _ _ _ ?_).trans ?_ ; focus (first | assumption | omega | (simp [go_sem]; done) | (simp [go_sem]; omega))) | (simp [go_sem]; done) | (simp [go_sem]; omega))) (by omega)).mono ?_
          rintro _ _ ⟨v', W3, rfl, rfl, hg3, hV⟩
          obtain ⟨ao', n', cc', rfl⟩ := owns_form hV.owns
          try go_simp
          refine hK _ _ ?_
          clear hK K
          refine wpAny_take (i := 10) (v := ?_) rfl (by kernel_rfl) (by kernel_rfl) (by kernel_rfl) (fun _ _ _ h => h) (Or.inl ⟨by rfl, ?_⟩) ?_
          rotate_left
          · (intro w; go_simp; try with_reducible rfl)
          refine wpAny_take (i := 11) (v := ?_) rfl (by kernel_rfl) (by kernel_rfl) (by kernel_rfl) (fun _ _ _ h => h) (Or.inl ⟨by rfl, ?_⟩) ?_
          rotate_left
          · (intro w; go_simp; try with_reducible rfl)
          refine wpAny_ready (rs := [12]) (by kernel_rfl) (by simp) ?_
          refine AllReady.cons (i := 12) rfl (fun K hK => ?_) AllReady.nil
          have HV := hid hV
          clear hV
          simp only [viewObj]
          go_simp
          refine hK _ _ ?_
          clear hK K
          refine wpAny_done (by kernel_rfl) ?_ _
          go_wp2_with fail
          refine bodyPost_end (results_none rfl _ _ _) rfl ?_
          rw [if_neg e] at HC
          rw [HC.out]
          exact ⟨rfl, _, HV.out⟩
        exact AllReady.nil
      exact AllReady.nil
    refine AllReady.cons (i := 7) rfl (fun K hK => ?_) ?_
    · go_simp
      refine hK _ _ ?_
      clear hK K
      refine wpAny_ready (rs := [4, 8]) (by kernel_rfl) (by simp) ?_
      refine AllReady.cons (i := 4) rfl (fun K hK => ?_) ?_
      · go_simp
        refine hK _ _ ?_
        clear hK K
        refine wpAny_ready (rs := [8]) (by kernel_rfl) (by simp) ?_
        refine AllReady.cons (i := 8) rfl (fun K hK => ?_) ?_
        · go_simp
          refine hK _ _ ?_
          clear hK K
          refine wpAny_ready (rs := [9]) (by kernel_rfl) (by simp) ?_
          refine AllReady.cons (i := 9) rfl (fun K hK => ?_) AllReady.nil
          go_simp
          refine (HI.out _ (by repeat' (first | exact Below.refl _ _ | with_reducible assumption | omega | with_reducible refine below_put_fut ?_ ?_ _ | with_reducible refine below_to_put ?_ | with_reducible refine Below.alloc ?_ ?_ _ | with_reducible refine Below.fut ?_ ?_ _ | with_reducible refine Below.drew ?_ | with_reducible refine Below.setCell ?_ ?_ _ | with_reducible refine Below.atPut ?_ ?_ _ | (simp [go_sem]; done) | (simp [go_sem]; omega))) (W.heap.size + u.n + 1) (by repeat' (first | rfl | assumption | (with_reducible refine (heap_drew_eq _ _).trans ?_) | (refine (Fut.heap _ _ ?_).trans ?_ ; focus (first | assumption | omega | (simp [go_sem]; done) | (simp [go_sem]; omega))) | (refine (heap_put_at _ _ _ ?_).trans ?_ ; focus (first | assumption | omega | (simp [go_sem]; done) | (simp [go_sem]; omega))) | (refine (heap_put_other _ _ _ _ ?_).trans ?_ ; focus (first | assumption | omega | (simp [go_sem]; done) | (simp [go_sem]; omega))) | (refine (heap_alloc_other _ _ _ ?_).trans ?_ ; focus (first | assumption | omega | (simp [go_sem]; done) | (simp [go_sem]; omega))) | (refine (heap_alloc_at _ _ _ ?_).trans ?_ ; focus (first | assumption | omega | (simp [go_sem]; done) | (simp [go_sem]; omega))) | (simp [go_sem]; done) | (simp [go_sem]; omega))) (by omega)).mono ?_
          rintro _ _ ⟨v', W3, rfl, rfl, hg3, hV⟩
          obtain ⟨ao', n', cc', rfl⟩ := owns_form hV.owns
          try go_simp
          refine hK _ _ ?_
          clear hK K
          refine wpAny_take (i := 10) (v := ?_) rfl (by kernel_rfl) (by kernel_rfl) (by kernel_rfl) (fun _ _ _ h => h) (Or.inl ⟨by rfl, ?_⟩) ?_
          rotate_left
          · (intro w; go_simp; try with_reducible rfl)
          refine wpAny_take (i := 11) (v := ?_) rfl (by kernel_rfl) (by kernel_rfl) (by kernel_rfl) (fun _ _ _ h => h) (Or.inl ⟨by rfl, ?_⟩) ?_
          rotate_left
          · (intro w; go_simp; try with_reducible rfl)
          refine wpAny_ready (rs := [12]) (by kernel_rfl) (by simp) ?_
          refine AllReady.cons (i := 12) rfl (fun K hK => ?_) AllReady.nil
          have HV := hid hV
          clear hV
          simp only [viewObj]
          go_simp
          refine hK _ _ ?_
          clear hK K
          refine wpAny_done (by kernel_rfl) ?_ _
          go_wp2_with fail
          refine bodyPost_end (results_none rfl _ _ _) rfl ?_
          rw [if_neg e] at HC
          rw [HC.out]
          exact ⟨rfl, _, HV.out⟩
        exact AllReady.nil
      refine AllReady.cons (i := 8) rfl (fun K hK => ?_) ?_
      · go_simp
        refine hK _ _ ?_
        clear hK K
        refine wpAny_ready (rs := [4]) (by kernel_rfl) (by simp) ?_
        refine AllReady.cons (i := 4) rfl (fun K hK => ?_) ?_
        · go_simp
          refine hK _ _ ?_
          clear hK K
          refine wpAny_ready (rs := [9]) (by kernel_rfl) (by simp) ?_
          refine AllReady.cons (i := 9) rfl (fun K hK => ?_) AllReady.nil
          go_simp
          refine (HI.out _ (by repeat' (first | exact Below.refl _ _ | with_reducible assumption | omega | with_reducible refine below_put_fut ?_ ?_ _ | with_reducible refine below_to_put ?_ | with_reducible refine Below.alloc ?_ ?_ _ | with_reducible refine Below.fut ?_ ?_ _ | with_reducible refine Below.drew ?_ | with_reducible refine Below.setCell ?_ ?_ _ | with_reducible refine Below.atPut ?_ ?_ _ | (simp [go_sem]; done) | (simp [go_sem]; omega))) (W.heap.size + u.n + 1) (by repeat' (first | rfl | assumption | (with_reducible refine (heap_drew_eq _ _).trans ?_) | (refine (Fut.heap _ _ ?_).trans ?_ ; focus (first | assumption | omega | (simp [go_sem]; done) | (simp [go_sem]; omega))) | (refine (heap_put_at _ _ _ ?_).trans ?_ ; focus (first | assumption | omega | (simp [go_sem]; done) | (simp [go_sem]; omega))) | (refine (heap_put_other _ _ _ _ ?_).trans ?_ ; focus (first | assumption | omega | (simp [go_sem]; done) | (simp [go_sem]; omega))) | (refine (heap_alloc_other _ _ _ ?_).trans ?_ ; focus (first | assumption | omega | (simp [go_sem]; done) | (simp [go_sem]; omega))) | (refine (heap_alloc_at _ _ _ ?_).trans ?_ ; focus (first | assumption | omega | (simp [go_sem]; done) | (simp [go_sem]; omega))) | (simp [go_sem]; done) | (simp [go_sem]; omega))) (by omega)).mono ?_
          rintro _ _ ⟨v', W3, rfl, rfl, hg3, hV⟩
          obtain ⟨ao', n', cc', rfl⟩ := owns_form hV.owns
          try go_simp
          refine hK _ _ ?_
          clear hK K
          refine wpAny_take (i := 10) (v := ?_) rfl (by kernel_rfl) (by kernel_rfl) (by kernel_rfl) (fun _ _ _ h => h) (Or.inl ⟨by rfl, ?_⟩) ?_
          rotate_left
          · (intro w; go_simp; try with_reducible rfl)
          refine wpAny_take (i := 11) (v := ?_) rfl (by kernel_rfl) (by kernel_rfl) (by kernel_rfl) (fun _ _ _ h => h) (Or.inl ⟨by rfl, ?_⟩) ?_
          rotate_left
          · (intro w; go_simp; try with_reducible rfl)
          refine wpAny_ready (rs := [12]) (by kernel_rfl) (by simp) ?_
          refine AllReady.cons (i := 12) rfl (fun K hK => ?_) AllReady.nil
          have HV := hid hV
          clear hV
          simp only [viewObj]
          go_simp
          refine hK _ _ ?_
          clear hK K
          refine wpAny_done (by kernel_rfl) ?_ _
          go_wp2_with fail
          refine bodyPost_end (results_none rfl _ _ _) rfl ?_
          rw [if_neg e] at HC
          rw [HC.out]
          exact ⟨rfl, _, HV.out⟩
        exact AllReady.nil
      exact AllReady.nil
    exact AllReady.nil
set_option maxRecDepth 100000 in
set_option maxHeartbeats 4000000 in
theorem cut_none {w0 : Base} {g : Nat} {W0 : World} {v : Value} (h0 : ViewAt w0 g [] W0 v) (x : Int) :
    Calls Try.prog 56 #[.pointer (some ⟨g, 0, none⟩), .int .u64 x] W0 fun en W' => en = .returned (.tuple #[]) ∧ ∃ v', ViewAt w0 g (cutS [(0, -1, 0)] x) W' v' := by
  obtain ⟨l, hl1⟩ : ∃ l : List Pt, l = [(0, -1, 0)] := ⟨_, rfl⟩
  rw [← hl1]
  have h1 := view_fresh h0 (W0.alloc (.cells #[.int .u64 0, .int .i64 (-1), .int .i64 0] 106)) (by exact Below.alloc (Below.refl _ _) (Nat.le_refl _) _) W0.heap.size (0, -1, 0) (heap_alloc_at _ _ _ rfl) (Nat.le_refl _)
  have hc := cell_of_row W0 g 0 _ _ (0, 0) h0.heap
  obtain ⟨ao, c0, rfl⟩ := owns_slice h0.owns
  have hg := h0.lt
  rw [← put_self h0.heap]
  clear h0
  simp only [viewObj] at h1 ⊢
  go_enter Try.func56, Try.ntmps56
  go_wp2_with fail
  generalize W0.heap.size = r at h1 hg ⊢
  generalize hW : put _ _ _ = W at h1 ⊢
  obtain ⟨n, hn1⟩ : ∃ n : Nat, n = 1 := ⟨1, rfl⟩
  obtain ⟨cc, hcc⟩ : ∃ cc : Nat, cc = 1 := ⟨1, rfl⟩
  have h : ViewAt w0 g l W (.slice (some ⟨r, 0, none⟩) n cc) := by rw [hn1, hcc, hl1]; exact h1
  have hn : l.length = n := by rw [hn1, hl1]; rfl
  have hl : n ≤ 900 := by omega
  have hp : 0 < n := by omega
  clear h1 hW hl1 hn1 hc hg hcc
  have hpl := placeTo_lt x l n (by omega) (by omega)
  obtain ⟨k, hk⟩ : ∃ k, placeTo x l n = k := ⟨_, rfl⟩
  have hplace := place_is h n hn (by omega) x
  rw [hk] at hplace hpl
  obtain ⟨p, hpk⟩ : ∃ p, l[k]? = some p := ⟨l[k], List.getElem?_eq_getElem _⟩
  have hcl : cutS l x = if p.1 = x then l else l.take (k + 1) ++ (x, p.2.1, p.2.2) :: l.drop (k + 1) := by unfold cutS; rw [hn, hk, hpk]
  have hins := insert_obj h (by omega) (k + 1) (by omega) (x, p.2.1, p.2.2)
  have hc := cell_of_row W g 0 _ _ (0, 0) h.heap
  have hw : ((k + 1 : Nat) : Int) = IntKind.i64.wrap ((k : Int) + 1) := by rw [IntKind.wrap_i64]; omega
  rw [hw] at hins
  have hlr := (h.owns.lt r rfl).2
  obtain ⟨c0, c1, c2⟩ := part_cells (by have ho := h.owns; rw [hn] at ho; exact ho) hpk
  have H := hid h
  have HC := hid hcl
  have HI := hid hins
  have hg := h.lt
  have hkn : k < n := by omega
  clear h hcl hins hpl hk hpk
  have hn' := hid hn
  clear hn
  rcases Decidable.em (p.1 = x) with e | e
  · rw [if_pos e] at HC
    have eb : (p.1 != x) = false := by simp [e]
    refine hplace.mono ?_
    rintro _ _ ⟨rfl, u, rfl⟩
    go_wp2_with fail
    refine bodyPost_end (results_none rfl _ _ _) rfl ?_
    exact ⟨rfl, _, HC.out ▸ H.out.on (by repeat' (first | exact Below.refl _ _ | with_reducible assumption | omega | with_reducible refine below_put_fut ?_ ?_ _ | with_reducible refine below_to_put ?_ | with_reducible refine Below.alloc ?_ ?_ _ | with_reducible refine Below.fut ?_ ?_ _ | with_reducible refine Below.drew ?_ | with_reducible refine Below.setCell ?_ ?_ _ | with_reducible refine Below.atPut ?_ ?_ _ | (simp [go_sem]; done) | (simp [go_sem]; omega)))⟩
  · have eb : (p.1 != x) = true := by simp [e]
    refine hplace.mono ?_
    rintro _ _ ⟨rfl, u, rfl⟩
    go_wp2_with fail
    refine wp_region_any (by kernel_rfl) ?_
    change wpAny _ _ _ _ _ _ _ (World.drew _)
    refine wpAny_take (i := 0) (v := ?_) rfl (by kernel_rfl) (by kernel_rfl) (by kernel_rfl) (fun _ _ _ h => h) (Or.inl ⟨by rfl, ?_⟩) ?_
    rotate_left
    · (intro w; go_simp; try with_reducible rfl)
    refine wpAny_take (i := 1) (v := ?_) rfl (by kernel_rfl) (by kernel_rfl) (by kernel_rfl) (fun _ _ _ h => h) (Or.inl ⟨by rfl, ?_⟩) ?_
    rotate_left
    · (intro w; go_simp; try with_reducible rfl)
    refine wpAny_take (i := 2) (v := ?_) rfl (by kernel_rfl) (by kernel_rfl) (by kernel_rfl) (fun _ _ _ h => h) (Or.inl ⟨by rfl, ?_⟩) ?_
    rotate_left
    · (intro w; go_simp; try with_reducible rfl)
    refine wpAny_take (i := 3) (v := ?_) rfl (by kernel_rfl) (by kernel_rfl) (by kernel_rfl) (fun _ _ _ h => h) (Or.inl ⟨by rfl, ?_⟩) ?_
    rotate_left
    · (intro w; go_simp; try with_reducible rfl)
    refine wpAny_take (i := 5) (v := ?_) rfl (by kernel_rfl) (by kernel_rfl) (by kernel_rfl) (fun _ _ _ h => h) (Or.inl ⟨by rfl, ?_⟩) ?_
    rotate_left
    · (intro w; go_simp; try with_reducible rfl)
    refine wpAny_take (i := 6) (v := ?_) rfl (by kernel_rfl) (by kernel_rfl) (by kernel_rfl) (fun _ _ _ h => h) (Or.inl ⟨by rfl, ?_⟩) ?_
    rotate_left
    · (intro w; go_simp; try with_reducible rfl)
    refine wpAny_ready (rs := [4, 7]) (by kernel_rfl) (by simp) ?_
    refine AllReady.cons (i := 4) rfl (fun K hK => ?_) ?_
    · go_simp
      refine hK _ _ ?_
      clear hK K
      refine wpAny_ready (rs := [7]) (by kernel_rfl) (by simp) ?_
      refine AllReady.cons (i := 7) rfl (fun K hK => ?_) ?_
      · go_simp
        refine hK _ _ ?_
        clear hK K
        refine wpAny_ready (rs := [8]) (by kernel_rfl) (by simp) ?_
        refine AllReady.cons (i := 8) rfl (fun K hK => ?_) ?_
        · go_simp
          refine hK _ _ ?_
          clear hK K
          refine wpAny_ready (rs := [9]) (by kernel_rfl) (by simp) ?_
          refine AllReady.cons (i := 9) rfl (fun K hK => ?_) AllReady.nil
          go_simp
          refine (HI.out _ (by repeat' (first | exact Below.refl _ _ | with_reducible assumption | omega | with_reducible refine below_put_fut ?_ ?_ _ | with_reducible refine below_to_put ?_ | with_reducible refine Below.alloc ?_ ?_ _ | with_reducible refine Below.fut ?_ ?_ _ | with_reducible refine Below.drew ?_ | with_reducible refine Below.setCell ?_ ?_ _ | with_reducible refine Below.atPut ?_ ?_ _ | (simp [go_sem]; done) | (simp [go_sem]; omega))) (W.heap.size + u.n + 1) (by repeat' (first | rfl | assumption | (with_reducible refine (heap_drew_eq _ _).trans ?_) | (refine (Fut.heap _ _ ?_).trans ?_ ; focus (first | assumption | omega | (simp [go_sem]; done) | (simp [go_sem]; omega))) | (refine (heap_put_at _ _ _ ?_).trans ?_ ; focus (first | assumption | omega | (simp [go_sem]; done) | (simp [go_sem]; omega))) | (refine (heap_put_other _ _ _ _ ?_).trans ?_ ; focus (first | assumption | omega | (simp [go_sem]; done) | (simp [go_sem]; omega))) | (refine (heap_alloc_other _ _ _ ?_).trans ?_ ; focus (first | assumption | omega | (simp [go_sem]; done) | (simp [go_sem]; omega))) | (refine (heap_alloc_at _ _ _ ?_).trans ?_ ; focus (first | assumption | omega | (simp [go_sem]; done) | (simp [go_sem]; omega))) | (simp [go_sem]; done) | (simp [go_sem]; omega))) (by omega)).mono ?_
          rintro _ _ ⟨v', W3, rfl, rfl, hg3, hV⟩
          obtain ⟨ao', n', cc', rfl⟩ := owns_form hV.owns
          try go_simp
          refine hK _ _ ?_
          clear hK K
          refine wpAny_take (i := 10) (v := ?_) rfl (by kernel_rfl) (by kernel_rfl) (by kernel_rfl) (fun _ _ _ h => h) (Or.inl ⟨by rfl, ?_⟩) ?_
          rotate_left
          · (intro w; go_simp; try with_reducible rfl)
          refine wpAny_take (i := 11) (v := ?_) rfl (by kernel_rfl) (by kernel_rfl) (by kernel_rfl) (fun _ _ _ h => h) (Or.inl ⟨by rfl, ?_⟩) ?_
          rotate_left
          · (intro w; go_simp; try with_reducible rfl)
          refine wpAny_ready (rs := [12]) (by kernel_rfl) (by simp) ?_
          refine AllReady.cons (i := 12) rfl (fun K hK => ?_) AllReady.nil
          have HV := hid hV
          clear hV
          simp only [viewObj]
          go_simp
          refine hK _ _ ?_
          clear hK K
          refine wpAny_done (by kernel_rfl) ?_ _
          go_wp2_with fail
          refine bodyPost_end (results_none rfl _ _ _) rfl ?_
          rw [if_neg e] at HC
          rw [HC.out]
          exact ⟨rfl, _, HV.out⟩
        exact AllReady.nil
      exact AllReady.nil
    refine AllReady.cons (i := 7) rfl (fun K hK => ?_) ?_
    · go_simp
      refine hK _ _ ?_
      clear hK K
      refine wpAny_ready (rs := [4, 8]) (by kernel_rfl) (by simp) ?_
      refine AllReady.cons (i := 4) rfl (fun K hK => ?_) ?_
      · go_simp
        refine hK _ _ ?_
        clear hK K
        refine wpAny_ready (rs := [8]) (by kernel_rfl) (by simp) ?_
        refine AllReady.cons (i := 8) rfl (fun K hK => ?_) ?_
        · go_simp
          refine hK _ _ ?_
          clear hK K
          refine wpAny_ready (rs := [9]) (by kernel_rfl) (by simp) ?_
          refine AllReady.cons (i := 9) rfl (fun K hK => ?_) AllReady.nil
          go_simp
          refine (HI.out _ (by repeat' (first | exact Below.refl _ _ | with_reducible assumption | omega | with_reducible refine below_put_fut ?_ ?_ _ | with_reducible refine below_to_put ?_ | with_reducible refine Below.alloc ?_ ?_ _ | with_reducible refine Below.fut ?_ ?_ _ | with_reducible refine Below.drew ?_ | with_reducible refine Below.setCell ?_ ?_ _ | with_reducible refine Below.atPut ?_ ?_ _ | (simp [go_sem]; done) | (simp [go_sem]; omega))) (W.heap.size + u.n + 1) (by repeat' (first | rfl | assumption | (with_reducible refine (heap_drew_eq _ _).trans ?_) | (refine (Fut.heap _ _ ?_).trans ?_ ; focus (first | assumption | omega | (simp [go_sem]; done) | (simp [go_sem]; omega))) | (refine (heap_put_at _ _ _ ?_).trans ?_ ; focus (first | assumption | omega | (simp [go_sem]; done) | (simp [go_sem]; omega))) | (refine (heap_put_other _ _ _ _ ?_).trans ?_ ; focus (first | assumption | omega | (simp [go_sem]; done) | (simp [go_sem]; omega))) | (refine (heap_alloc_other _ _ _ ?_).trans ?_ ; focus (first | assumption | omega | (simp [go_sem]; done) | (simp [go_sem]; omega))) | (refine (heap_alloc_at _ _ _ ?_).trans ?_ ; focus (first | assumption | omega | (simp [go_sem]; done) | (simp [go_sem]; omega))) | (simp [go_sem]; done) | (simp [go_sem]; omega))) (by omega)).mono ?_
          rintro _ _ ⟨v', W3, rfl, rfl, hg3, hV⟩
          obtain ⟨ao', n', cc', rfl⟩ := owns_form hV.owns
          try go_simp
          refine hK _ _ ?_
          clear hK K
          refine wpAny_take (i := 10) (v := ?_) rfl (by kernel_rfl) (by kernel_rfl) (by kernel_rfl) (fun _ _ _ h => h) (Or.inl ⟨by rfl, ?_⟩) ?_
          rotate_left
          · (intro w; go_simp; try with_reducible rfl)
          refine wpAny_take (i := 11) (v := ?_) rfl (by kernel_rfl) (by kernel_rfl) (by kernel_rfl) (fun _ _ _ h => h) (Or.inl ⟨by rfl, ?_⟩) ?_
          rotate_left
          · (intro w; go_simp; try with_reducible rfl)
          refine wpAny_ready (rs := [12]) (by kernel_rfl) (by simp) ?_
          refine AllReady.cons (i := 12) rfl (fun K hK => ?_) AllReady.nil
          have HV := hid hV
          clear hV
          simp only [viewObj]
          go_simp
          refine hK _ _ ?_
          clear hK K
          refine wpAny_done (by kernel_rfl) ?_ _
          go_wp2_with fail
          refine bodyPost_end (results_none rfl _ _ _) rfl ?_
          rw [if_neg e] at HC
          rw [HC.out]
          exact ⟨rfl, _, HV.out⟩
        exact AllReady.nil
      refine AllReady.cons (i := 8) rfl (fun K hK => ?_) ?_
      · go_simp
        refine hK _ _ ?_
        clear hK K
        refine wpAny_ready (rs := [4]) (by kernel_rfl) (by simp) ?_
        refine AllReady.cons (i := 4) rfl (fun K hK => ?_) ?_
        · go_simp
          refine hK _ _ ?_
          clear hK K
          refine wpAny_ready (rs := [9]) (by kernel_rfl) (by simp) ?_
          refine AllReady.cons (i := 9) rfl (fun K hK => ?_) AllReady.nil
          go_simp
          refine (HI.out _ (by repeat' (first | exact Below.refl _ _ | with_reducible assumption | omega | with_reducible refine below_put_fut ?_ ?_ _ | with_reducible refine below_to_put ?_ | with_reducible refine Below.alloc ?_ ?_ _ | with_reducible refine Below.fut ?_ ?_ _ | with_reducible refine Below.drew ?_ | with_reducible refine Below.setCell ?_ ?_ _ | with_reducible refine Below.atPut ?_ ?_ _ | (simp [go_sem]; done) | (simp [go_sem]; omega))) (W.heap.size + u.n + 1) (by repeat' (first | rfl | assumption | (with_reducible refine (heap_drew_eq _ _).trans ?_) | (refine (Fut.heap _ _ ?_).trans ?_ ; focus (first | assumption | omega | (simp [go_sem]; done) | (simp [go_sem]; omega))) | (refine (heap_put_at _ _ _ ?_).trans ?_ ; focus (first | assumption | omega | (simp [go_sem]; done) | (simp [go_sem]; omega))) | (refine (heap_put_other _ _ _ _ ?_).trans ?_ ; focus (first | assumption | omega | (simp [go_sem]; done) | (simp [go_sem]; omega))) | (refine (heap_alloc_other _ _ _ ?_).trans ?_ ; focus (first | assumption | omega | (simp [go_sem]; done) | (simp [go_sem]; omega))) | (refine (heap_alloc_at _ _ _ ?_).trans ?_ ; focus (first | assumption | omega | (simp [go_sem]; done) | (simp [go_sem]; omega))) | (simp [go_sem]; done) | (simp [go_sem]; omega))) (by omega)).mono ?_
          rintro _ _ ⟨v', W3, rfl, rfl, hg3, hV⟩
          obtain ⟨ao', n', cc', rfl⟩ := owns_form hV.owns
          try go_simp
          refine hK _ _ ?_
          clear hK K
          refine wpAny_take (i := 10) (v := ?_) rfl (by kernel_rfl) (by kernel_rfl) (by kernel_rfl) (fun _ _ _ h => h) (Or.inl ⟨by rfl, ?_⟩) ?_
          rotate_left
          · (intro w; go_simp; try with_reducible rfl)
          refine wpAny_take (i := 11) (v := ?_) rfl (by kernel_rfl) (by kernel_rfl) (by kernel_rfl) (fun _ _ _ h => h) (Or.inl ⟨by rfl, ?_⟩) ?_
          rotate_left
          · (intro w; go_simp; try with_reducible rfl)
          refine wpAny_ready (rs := [12]) (by kernel_rfl) (by simp) ?_
          refine AllReady.cons (i := 12) rfl (fun K hK => ?_) AllReady.nil
          have HV := hid hV
          clear hV
          simp only [viewObj]
          go_simp
          refine hK _ _ ?_
          clear hK K
          refine wpAny_done (by kernel_rfl) ?_ _
          go_wp2_with fail
          refine bodyPost_end (results_none rfl _ _ _) rfl ?_
          rw [if_neg e] at HC
          rw [HC.out]
          exact ⟨rfl, _, HV.out⟩
        exact AllReady.nil
      exact AllReady.nil
    exact AllReady.nil
end Go.Proofs.Ythgajbfgolcpkaa
