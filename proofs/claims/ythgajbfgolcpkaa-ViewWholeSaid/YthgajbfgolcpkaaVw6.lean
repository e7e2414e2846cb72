import Derived.Test.YthgajbfgolcpkaaVw5
import Derived.BigQuiet
/- The arcs of a view. -/
namespace Go.Proofs.Ythgajbfgolcpkaa
open Go.RowKit
set_option linter.unusedVariables false
set_option linter.unusedSimpArgs false
theorem owned_info : (Try.prog.info? 71).map (fun i => (i.zero, i.size, i.bytes)) = some (some (.agg #[.int .u64 0, .int .u64 0, .int .i64 0, .int .i64 0]), 4, 32) := by kernel_rfl
/-- A part more, where it is not like the last one. -/
def ded (acc : List Pt) (p : Pt) : List Pt :=
  match acc[acc.length - 1]? with
  | none => acc ++ [p]
  | some q => if q.2 = p.2 then acc else acc ++ [p]
def flatO : List Ow → List Value
  | [] => []
  | p :: l => owl p ++ flatO l
theorem flatO_append : ∀ a b : List Ow, flatO (a ++ b) = flatO a ++ flatO b
  | [], _ => rfl
  | p :: a, b => by simp [flatO, flatO_append a b]
theorem flatO_length : ∀ a : List Ow, (flatO a).length = a.length * 4
  | [] => rfl
  | p :: a => by simp [flatO, owl, flatO_length a]; omega
theorem flatO_one : ∀ (a : List Ow), ∀ u ∈ flatO a, u.oneCell' = true
  | [], u, h => by simp [flatO] at h
  | p :: a, u, h => by
    rcases List.mem_append.1 h with h | h
    · simp [owl] at h; rcases h with rfl | rfl | rfl | rfl <;> rfl
    · exact flatO_one a u h
theorem flatO_at : ∀ {a : List Ow} {i : Nat} {p : Ow}, a[i]? = some p → ∀ (j : Nat) (u : Value), (owl p)[j]? = some u → (flatO a)[i * 4 + j]? = some u
  | [], i, p, h, _, _, _ => by cases h
  | x :: a, 0, p, h, j, u, hu => by
    cases h
    have hj : j < 4 := (List.getElem?_eq_some_iff.1 hu).1
    rw [flatO, List.getElem?_append_left (by simp [owl]; omega)]
    simpa using hu
  | x :: a, i + 1, p, h, j, u, hu => by
    rw [flatO, List.getElem?_append_right (by simp [owl]; omega)]
    have := flatO_at (a := a) (i := i) (p := p) (by simpa using h) j u hu
    rw [← this]
    congr 1
    simp [owl]; omega
theorem wpList_append_ex {P : Program} {w : World} {ops : Array Oper} {rest : List Oper} {o : Oper} {a : Act} {Q : Exit → Act → World → Prop} {R : Value → World → Prop} (hgd : o.guard = none) (s x : Operand) (t : TypeId)
    (ho : o.op = .call { callee := .builtin .append, args := #[s, x], argTypes := #[t, t] }) (v sv : Value) (hs : a.eval s = v) (hx : a.eval x = sv)
    (hrun : ∃ v' w', (Builtin.append_ #[t, t] o.type #[v, sv]).run P w = .ok v' w' ∧ R v' w') (h : ∀ v' w', R v' w' → wpList P ops Q rest (a.put o.dst v') w') : wpList P ops Q (o :: rest) a w := by
  obtain ⟨v', w', hr, hR⟩ := hrun
  exact wpList_append_run hgd s x t ho v sv hs hx v' w' hr (h v' w' hR)
/-- An element more in a row of one's own. -/
theorem append_own {P : Program} {base : Nat} {W W2 : World} {t ty e : TypeId} {i : TypeInfo} {z : Value} {size bytes : Nat} (ht : P.underlying t = some (.slice e)) (hi : P.info? e = some i) (hz : i.zero = some z)
    (hsize : i.size = size) (hby : i.bytes = bytes) (hzs : z.cells.size = size) (hsz : 0 < size) {v : Value} {n : Nat} {xs : List Value} (h : W.ownsRow base e size v n xs) (hb : Below W.heap.size W W2) (hB : base ≤ W.heap.size)
    (hn : n ≤ 2000) (h32 : bytes ≤ 1000) {a : Nat} {news : List Value} (hl : news.length = size) (h1 : ∀ u ∈ news, u.oneCell' = true) (ha : W2.heap[a]? = some (.cells news.toArray e)) :
    ∃ v' W', (Builtin.append_ #[t, t] ty #[v, .slice (some ⟨a, 0, none⟩) 1 1]).run P W2 = .ok v' W' ∧ (∃ ao c, v' = .slice ao (n + 1) c ∧ W'.ownsRow base e size v' (n + 1) (xs ++ news) ∧ Below base W W') := by
  have h2 := owns_below h hb
  have hby2 : (n + 1) * bytes ≤ 140737488355328 := by
    have : (n + 1) * bytes ≤ 2001 * 1000 := Nat.mul_le_mul (by omega) h32
    omega
  obtain ⟨v', W', hrun, hown, hgrow, _, hw⟩ := run_append_own_at (P := P) W2 base t ty e i z size bytes ht hi hz hsize hby hzs hsz v n xs h2 ⟨a, 0, none⟩ 1 1 news (by rw [hl]; omega) (news_at ha 0 news (by simp)) h1 (by unfold maxLen; omega) hby2 (Nat.le_trans hB hb.size)
  obtain ⟨ao, c, e⟩ := owns_slice hown
  refine ⟨v', W', hrun, ao, c, e, hown, ?_⟩
  exact ((hb.mono hB).grown hgrow (Nat.le_trans hB hb.size) fun k hk => (h.lt k hk).1)
theorem ptl_one (p : Pt) : ∀ u ∈ ptl p, u.oneCell' = true := by intro u hu; simp [ptl] at hu; rcases hu with rfl | rfl | rfl <;> rfl
theorem owl_one (p : Ow) : ∀ u ∈ owl p, u.oneCell' = true := by intro u hu; simp [owl] at hu; rcases hu with rfl | rfl | rfl | rfl <;> rfl
def nextOf (D : List Pt) (k : Nat) : Int := match D[(k + 1) % D.length]? with | some p => p.1 | none => 0
def outL (D : List Pt) : Nat → List Ow
  | 0 => []
  | k + 1 => match D[k]? with
    | some p => if 0 ≤ p.2.1 then outL D k ++ [(p.1, nextOf D k, p.2.1, p.2.2)] else outL D k
    | none => outL D k
theorem outL_yes {D : List Pt} {k : Nat} {p : Pt} (h : D[k]? = some p) (hp : 0 ≤ p.2.1) : outL D (k + 1) = outL D k ++ [(p.1, nextOf D k, p.2.1, p.2.2)] := by simp [outL, h, hp]
theorem outL_no {D : List Pt} {k : Nat} {p : Pt} (h : D[k]? = some p) (hp : ¬ 0 ≤ p.2.1) : outL D (k + 1) = outL D k := by simp [outL, h, hp]
/-- The last arc goes on in the first one. -/
def joinL (out : List Ow) : List Ow :=
  match out[0]?, out[out.length - 1]? with
  | some a, some z => (out.set (out.length - 1) (z.1, a.2.1, z.2.2.1, z.2.2.2)).drop 1
  | _, _ => out
def mergeL (D : List Pt) (out : List Ow) : List Ow :=
  if 1 < D.length then
    match D[0]?, D[D.length - 1]? with
    | some p, some q => if 0 ≤ p.2.1 then (if p.2 = q.2 then joinL out else out) else out
    | _, _ => out
  else out
def arcsL (l : List Pt) : List Ow := mergeL (l.foldl ded []) (outL (l.foldl ded []) (l.foldl ded []).length)
/-- A slice of arcs, none of whose blocks was there before. -/
def ArcsAt (B : Nat) (W : World) (v : Value) (L : List Ow) : Prop :=
  (∃ c, v = .slice none 0 c ∧ L = []) ∨ ∃ r o c, v = .slice (some ⟨r, o, none⟩) L.length c ∧ B ≤ r ∧ r < W.heap.size ∧ ∀ j u, (flatO L)[j]? = some u → W.cell? ⟨r, o + j, none⟩ = some u
theorem outL_pos {D : List Pt} {p : Pt} (h : D[0]? = some p) (hp : 0 ≤ p.2.1) : ∀ k, 1 ≤ k → 1 ≤ (outL D k).length
  | 0, h => by omega
  | 1, _ => by simp [outL, h, hp]
  | k + 2, _ => by
    have := outL_pos h hp (k + 1) (by omega)
    rw [outL]
    split
    · split
      · rw [List.length_append]; omega
      · exact this
    · exact this
theorem flatO_drop : ∀ (l : List Ow), flatO (l.drop 1) = (flatO l).drop 4
  | [] => rfl
  | p :: l => by simp [flatO, owl]
theorem flatO_set : ∀ (l : List Ow) (k : Nat) (z : Ow) (t : Int), l[k]? = some z → flatO (l.set k (z.1, t, z.2.2.1, z.2.2.2)) = (flatO l).set (k * 4 + 1) (.int .u64 t)
  | [], k, z, t, h => by cases h
  | p :: l, 0, z, t, h => by cases h; simp [flatO, owl]
  | p :: l, k + 1, z, t, h => by
    have e := flatO_set l k z t (by simpa using h)
    rw [List.set_cons_succ, flatO, e, flatO]
    simp [owl]
    rw [show (k + 1) * 4 = k * 4 + 1 + 1 + 1 + 1 from by omega]
    simp
theorem join_cells {B : Nat} {X : World} {s6 m3 c6 : Nat} {out : List Ow} {Z : Ow} (h : X.ownsRow B 71 4 (.slice (some ⟨s6, 0, none⟩) (m3 + 1) c6) (m3 + 1) (flatO out)) (hl : out.length = m3 + 1) (hZ : out[m3]? = some Z) (t : Int) (j : Nat) (u : Value)
    (hu : (flatO ((out.set m3 (Z.1, t, Z.2.2.1, Z.2.2.2)).drop 1))[j]? = some u) : (X.setCell ⟨s6, m3 * 4 + 1, none⟩ (.int .u64 t)).cell? ⟨s6, 4 + j, none⟩ = some u := by
  rw [flatO_drop, flatO_set _ _ _ _ hZ, List.getElem?_drop, List.getElem?_set] at hu
  have hc := h.cells (g := s6) rfl
  by_cases e : m3 * 4 + 1 = 4 + j
  · have h1 := hc _ _ (flatO_at hZ 1 _ rfl)
    rw [add_none, Nat.zero_add] at h1
    rw [if_pos e] at hu
    split at hu
    · cases hu
      rw [← e]
      rw [World.cell?_setCell_same _ _ _ h1]
    · cases hu
  · rw [if_neg e] at hu
    rw [World.cell?_setCell_other]
    · have h1 := hc _ _ hu
      rw [add_none, Nat.zero_add] at h1
      exact h1
    · intro e2
      injection e2 with _ e3
      exact e (by omega)
theorem arcs_of_row {B B' : Nat} {W : World} {a : Option Addr} {n c : Nat} {L : List Ow} (h : W.ownsRow B 71 4 (.slice a n c) n (flatO L)) (hL : L.length = n) (hB : B' ≤ B) : ArcsAt B' W (.slice a n c) L := by
  rcases h.2 with ⟨h1, h2⟩ | ⟨g, c', cur, h1, hb1, _⟩
  · injection h1 with h1 h3 h4
    subst h1 h3 h4
    exact .inl ⟨_, rfl, List.eq_nil_of_length_eq_zero hL⟩
  · have hc := h.cells (g := g) (by rw [h1]; rfl)
    have hlt := (h.lt g (by rw [h1]; rfl)).2
    injection h1 with h1
    refine .inr ⟨g, 0, c, by rw [h1, hL], Nat.le_trans hB hb1, hlt, fun j u hu => ?_⟩
    have := hc j u hu
    rwa [add_none] at this
set_option maxRecDepth 100000 in
set_option maxHeartbeats 8000000 in
theorem arcs_is {w0 : Base} {g : Nat} {l : List Pt} {W : World} {v : Value} (h : ViewAt w0 g l W v) (n : Nat) (hn : l.length = n) (hl : n ≤ 900) :
    Calls Try.prog 62 #[.pointer (some ⟨g, 0, none⟩)] W fun en W' => ∃ v', en = .returned v' ∧ ArcsAt W.heap.size W' v' (arcsL l) ∧ Below W.heap.size W W' := by
  obtain ⟨i0, hi0, hz0, hz1, hz2⟩ := info_parts part_info
  obtain ⟨i1, hi1, hy0, hy1, hy2⟩ := info_parts owned_info
  have hc := cell_of_row W g 0 _ _ (0, 0) h.heap
  have ho := h.owns
  obtain ⟨ao, cc, rfl⟩ := owns_slice ho
  have hrl : ∀ r, ao = some ⟨r, 0, none⟩ → r < W.heap.size := fun r hr => by subst hr; exact (ho.lt r rfl).2
  rw [hn] at ho hc
  have HRL := hid hrl
  have HO := hid ho
  have HN := hid hn
  have hg := h.lt
  have HI0 := hid hi0
  have HZ0 := hid hz0
  have HZ1 := hid hz1
  have HZ2 := hid hz2
  have HI1 := hid hi1
  have HY0 := hid hy0
  have HY1 := hid hy1
  have HY2 := hid hy2
  clear h ho hn hrl hi0 hz0 hz1 hz2 hi1 hy0 hy1 hy2
  go_enter Try.func62, Try.ntmps62
  go_wp2_with fail
  go_loopw [3, 18] (fun x3 x18 wr => ∃ (k : Nat) (acc : List Pt) (m : Nat) (a3 : Option Addr) (c3 : Nat), k ≤ n ∧ x18 = .int .i64 k ∧ x3 = .slice a3 m c3 ∧ m ≤ k ∧ Hid (acc.length = m ∧ acc = (l.take k).foldl ded [] ∧ wr.ownsRow W.heap.size 106 3 (.slice a3 m c3) m (flatV acc)) ∧ ∃ u : Fut W, wr = u.val) (fun _ i _ => n - (intOf i).toNat)
  case atStart => exact ⟨0, [], 0, none, 0, Nat.zero_le _, rfl, rfl, Nat.le_refl _, hid ⟨rfl, rfl, World.ownsRow_nil _ _ _ _⟩, ⟨⟨_, (by repeat' (first | exact Below.refl _ _ | with_reducible assumption | omega | with_reducible refine below_put_fut ?_ ?_ _ | with_reducible refine below_to_put ?_ | with_reducible refine Below.alloc ?_ ?_ _ | with_reducible refine Below.fut ?_ ?_ _ | with_reducible refine Below.drew ?_ | with_reducible refine Below.setCell ?_ ?_ _ | with_reducible refine Below.atPut ?_ ?_ _ | (simp [go_sem]; done) | (simp [go_sem]; omega)))⟩, rfl⟩⟩
  case round =>
    obtain ⟨k, acc, m, a3, c3, hk, rfl, rfl, hmk, HA, u, rfl⟩ := hrel
    by_cases hlt : k < n
    · obtain ⟨p, hp⟩ : ∃ p, l[k]? = some p := ⟨l[k]'(by rw [HN.out]; exact hlt), List.getElem?_eq_getElem _⟩
      obtain ⟨r, rfl⟩ : ∃ r, ao = some ⟨r, 0, none⟩ := by
        obtain ⟨r, cap, h2, _, _⟩ := World.ownsRow.form HO.out (by omega)
        injection h2 with h2; exact ⟨r, h2⟩
      obtain ⟨p0, p1, p2⟩ := part_cells HO.out hp
      have hl2 := HRL.out r rfl
      have HP := hid hp
      clear hp
      obtain ⟨ha1, ha2, ha3⟩ := HA.out
      rcases Nat.eq_zero_or_pos m with hm | hm
      · have e0 : ((m : Int) == 0) = true := by simp [hm]
        have HE := hid (show ded acc p = acc ++ [p] from by
          have : acc = [] := List.eq_nil_of_length_eq_zero (by omega)
          subst this; rfl)
        have HA1 := hid ha1
        have HA2 := hid ha2
        clear ha1 ha2
        have HM := hid hm
        clear hm
        have HO3 := hid ha3
        clear ha3
        go_wp2_with (first | (((with_reducible refine wp_region_fut_lit (by kernel_rfl) (by kernel_rfl) ?_)); (repeat (go_big_quiet_step ((first | (go_at_call 71; with_reducible exact Calls.fut_of (alike_is p p _)))))); ((with_reducible refine wpQuiet_nil ?_)); rintro _ ⟨u2, rfl⟩) | (at_builtin; refine wpList_append_ex (by rfl) _ _ _ (by rfl) _ _ (by rfl) (by rfl) (append_own (bytes := 24) (by kernel_rfl) HI0.out HZ0.out HZ1.out HZ2.out rfl (by omega) HO3.out (by repeat' (first | exact Below.refl _ _ | with_reducible assumption | omega | with_reducible refine below_put_fut ?_ ?_ _ | with_reducible refine below_to_put ?_ | with_reducible refine Below.alloc ?_ ?_ _ | with_reducible refine Below.fut ?_ ?_ _ | with_reducible refine Below.drew ?_ | with_reducible refine Below.setCell ?_ ?_ _ | with_reducible refine Below.atPut ?_ ?_ _ | (simp [go_sem]; done) | (simp [go_sem]; omega))) (by simp [go_sem]) (by omega) (by omega) (a := _) (news := (ptl p)) rfl (ptl_one p) (by repeat' (first | rfl | assumption | (with_reducible refine (heap_drew_eq _ _).trans ?_) | (refine (Fut.heap _ _ ?_).trans ?_ ; focus (first | assumption | omega | (simp [go_sem]; done) | (simp [go_sem]; omega))) | (refine (heap_put_at _ _ _ ?_).trans ?_ ; focus (first | assumption | omega | (simp [go_sem]; done) | (simp [go_sem]; omega))) | (refine (heap_put_other _ _ _ _ ?_).trans ?_ ; focus (first | assumption | omega | (simp [go_sem]; done) | (simp [go_sem]; omega))) | (refine (heap_alloc_other _ _ _ ?_).trans ?_ ; focus (first | assumption | omega | (simp [go_sem]; done) | (simp [go_sem]; omega))) | (refine (heap_alloc_at _ _ _ ?_).trans ?_ ; focus (first | assumption | omega | (simp [go_sem]; done) | (simp [go_sem]; omega))) | (simp [go_sem]; done) | (simp [go_sem]; omega)))) ?_; rintro v4 W4 ⟨ao4, c4, rfl, ho4, hb4⟩))
        refine ⟨⟨k + 1, acc ++ [p], m + 1, ao4, c4, by omega, by go_num, rfl, by omega, hid ⟨by rw [List.length_append, HA1.out]; rfl, by rw [fold_take HP.out, ← HA2.out, HE.out], by rw [flatV_append]; simpa [flatV] using ho4⟩, ⟨⟨W4, u.below.trans hb4⟩, rfl⟩⟩, by simp [intOf]; omega⟩
      · obtain ⟨m', rfl⟩ : ∃ m', m = m' + 1 := ⟨m - 1, by omega⟩
        have e0 : (((m' : Int) + 1) == 0) = false := by simp; omega
        obtain ⟨q, hq⟩ : ∃ q, acc[m']? = some q := ⟨acc[m']'(by omega), List.getElem?_eq_getElem _⟩
        obtain ⟨s, rfl⟩ : ∃ s, a3 = some ⟨s, 0, none⟩ := by
          obtain ⟨s, cap, h2, _, _⟩ := World.ownsRow.form ha3 (by omega)
          injection h2 with h2; exact ⟨s, h2⟩
        obtain ⟨q0, q1, q2⟩ := part_cells ha3 hq
        have hsl := (ha3.lt s rfl).2
        have hsl1 : s < W.heap.size + u.n := by have := u.size; omega
        have hsl2 : s < W.heap.size + u.n + 1 := by omega
        have hw : IntKind.i64.wrap (m' : Int) = (m' : Int) := by rw [IntKind.wrap_i64]; omega
        have HD := hid (show ded acc p = if q.2 = p.2 then acc else acc ++ [p] from by unfold ded; rw [ha1, Nat.add_sub_cancel, hq])
        have HA1 := hid ha1
        have HA2 := hid ha2
        have HO3 := hid ha3
        clear ha1 ha2 ha3 hq hm
        rcases Decidable.em (q.2 = p.2) with e | e
        · have HE := hid (show ded acc p = acc from by rw [HD.out, if_pos e])
          have e1 : decide (q.2 = p.2) = true := by simp [e]
          have HEE := hid e
          clear e HD
          go_wp2_with (first | (((with_reducible refine wp_region_fut_lit (by kernel_rfl) (by kernel_rfl) ?_)); (repeat (go_big_quiet_step ((first | (go_at_call 71; with_reducible exact Calls.fut_of (alike_is q p _)))))); ((with_reducible refine wpQuiet_nil ?_)); rintro _ ⟨u2, rfl⟩))
          refine ⟨⟨k + 1, acc, m' + 1, some ⟨s, 0, none⟩, c3, by omega, by go_num, rfl, by omega, hid ⟨HA1.out, by rw [fold_take HP.out, ← HA2.out, HE.out], owns_below HO3.out (by repeat' (first | exact Below.refl _ _ | with_reducible assumption | omega | with_reducible refine below_put_fut ?_ ?_ _ | with_reducible refine below_to_put ?_ | with_reducible refine Below.alloc ?_ ?_ _ | with_reducible refine Below.fut ?_ ?_ _ | with_reducible refine Below.drew ?_ | with_reducible refine Below.setCell ?_ ?_ _ | with_reducible refine Below.atPut ?_ ?_ _ | (simp [go_sem]; done) | (simp [go_sem]; omega)))⟩, ⟨⟨_, (by repeat' (first | exact Below.refl _ _ | with_reducible assumption | omega | with_reducible refine below_put_fut ?_ ?_ _ | with_reducible refine below_to_put ?_ | with_reducible refine Below.alloc ?_ ?_ _ | with_reducible refine Below.fut ?_ ?_ _ | with_reducible refine Below.drew ?_ | with_reducible refine Below.setCell ?_ ?_ _ | with_reducible refine Below.atPut ?_ ?_ _ | (simp [go_sem]; done) | (simp [go_sem]; omega)))⟩, rfl⟩⟩, by simp [intOf]; omega⟩
        · have HE := hid (show ded acc p = acc ++ [p] from by rw [HD.out, if_neg e])
          have e1 : decide (q.2 = p.2) = false := by simp [e]
          have HEE := hid e
          clear e HD
          go_wp2_with (first | (((with_reducible refine wp_region_fut_lit (by kernel_rfl) (by kernel_rfl) ?_)); (repeat (go_big_quiet_step ((first | (go_at_call 71; with_reducible exact Calls.fut_of (alike_is q p _)))))); ((with_reducible refine wpQuiet_nil ?_)); rintro _ ⟨u2, rfl⟩) | (at_builtin; refine wpList_append_ex (by rfl) _ _ _ (by rfl) _ _ (by rfl) (by rfl) (append_own (bytes := 24) (by kernel_rfl) HI0.out HZ0.out HZ1.out HZ2.out rfl (by omega) HO3.out (by repeat' (first | exact Below.refl _ _ | with_reducible assumption | omega | with_reducible refine below_put_fut ?_ ?_ _ | with_reducible refine below_to_put ?_ | with_reducible refine Below.alloc ?_ ?_ _ | with_reducible refine Below.fut ?_ ?_ _ | with_reducible refine Below.drew ?_ | with_reducible refine Below.setCell ?_ ?_ _ | with_reducible refine Below.atPut ?_ ?_ _ | (simp [go_sem]; done) | (simp [go_sem]; omega))) (by simp [go_sem]) (by omega) (by omega) (a := _) (news := (ptl p)) rfl (ptl_one p) (by repeat' (first | rfl | assumption | (with_reducible refine (heap_drew_eq _ _).trans ?_) | (refine (Fut.heap _ _ ?_).trans ?_ ; focus (first | assumption | omega | (simp [go_sem]; done) | (simp [go_sem]; omega))) | (refine (heap_put_at _ _ _ ?_).trans ?_ ; focus (first | assumption | omega | (simp [go_sem]; done) | (simp [go_sem]; omega))) | (refine (heap_put_other _ _ _ _ ?_).trans ?_ ; focus (first | assumption | omega | (simp [go_sem]; done) | (simp [go_sem]; omega))) | (refine (heap_alloc_other _ _ _ ?_).trans ?_ ; focus (first | assumption | omega | (simp [go_sem]; done) | (simp [go_sem]; omega))) | (refine (heap_alloc_at _ _ _ ?_).trans ?_ ; focus (first | assumption | omega | (simp [go_sem]; done) | (simp [go_sem]; omega))) | (simp [go_sem]; done) | (simp [go_sem]; omega)))) ?_; rintro v4 W4 ⟨ao4, c4, rfl, ho4, hb4⟩))
          refine ⟨⟨k + 1, acc ++ [p], m' + 1 + 1, ao4, c4, by omega, by go_num, rfl, by omega, hid ⟨by rw [List.length_append, HA1.out]; rfl, by rw [fold_take HP.out, ← HA2.out, HE.out], by rw [flatV_append]; simpa [flatV] using ho4⟩, ⟨⟨W4, u.below.trans hb4⟩, rfl⟩⟩, by simp [intOf]; omega⟩
    · obtain rfl : k = n := by omega
      obtain ⟨ha1, ha2, ha3⟩ := HA.out
      have HD := hid (show acc = l.foldl ded [] from by rw [ha2, ← HN.out, List.take_length])
      have HA1 := hid ha1
      have HO3 := hid ha3
      have hrl3 : ∀ s, a3 = some ⟨s, 0, none⟩ → s < u.val.heap.size := fun s hs => by subst hs; exact (ha3.lt s rfl).2
      have HRL3 := hid hrl3
      clear HA ha1 ha2 ha3 hrl3
      go_wp2_with fail
      go_loopw [6, 43] (fun x6 x43 wr => ∃ (k2 : Nat) (out : List Ow) (m2 : Nat) (a6 : Option Addr) (c6 : Nat), k2 ≤ m ∧ x43 = .int .i64 k2 ∧ x6 = .slice a6 m2 c6 ∧ m2 ≤ k2 ∧ Hid (out.length = m2 ∧ out = outL acc k2 ∧ wr.ownsRow u.val.heap.size 71 4 (.slice a6 m2 c6) m2 (flatO out)) ∧ ∃ u3 : Fut u.val, wr = u3.val) (fun _ i _ => m - (intOf i).toNat)
      case atStart => exact ⟨0, [], 0, none, 0, Nat.zero_le _, rfl, rfl, Nat.le_refl _, hid ⟨rfl, rfl, World.ownsRow_nil _ _ _ _⟩, ⟨⟨_, (by repeat' (first | exact Below.refl _ _ | with_reducible assumption | omega | with_reducible refine below_put_fut ?_ ?_ _ | with_reducible refine below_to_put ?_ | with_reducible refine Below.alloc ?_ ?_ _ | with_reducible refine Below.fut ?_ ?_ _ | with_reducible refine Below.drew ?_ | with_reducible refine Below.setCell ?_ ?_ _ | with_reducible refine Below.atPut ?_ ?_ _ | (simp [go_sem]; done) | (simp [go_sem]; omega)))⟩, rfl⟩⟩
      case round =>
        obtain ⟨k2, out, m2, a6, c6, hk2, rfl, rfl, hm2, HB, u3, rfl⟩ := hrel
        by_cases hlt : k2 < m
        · obtain ⟨p, hp⟩ : ∃ p, acc[k2]? = some p := ⟨acc[k2]'(by rw [HA1.out]; exact hlt), List.getElem?_eq_getElem _⟩
          obtain ⟨t, ht⟩ : ∃ t, (k2 + 1) % m = t := ⟨_, rfl⟩
          have htm : t < m := by rw [← ht]; exact Nat.mod_lt _ (by omega)
          obtain ⟨q, hq⟩ : ∃ q, acc[t]? = some q := ⟨acc[t]'(by rw [HA1.out]; exact htm), List.getElem?_eq_getElem _⟩
          have HNX := hid (show nextOf acc k2 = q.1 from by unfold nextOf; rw [HA1.out, ht, hq])
          obtain ⟨s, rfl⟩ : ∃ s, a3 = some ⟨s, 0, none⟩ := by
            obtain ⟨s, cap, h2, _, _⟩ := World.ownsRow.form HO3.out (by omega)
            injection h2 with h2; exact ⟨s, h2⟩
          obtain ⟨p0, p1, p2⟩ := part_cells HO3.out hp
          obtain ⟨q0, q1, q2⟩ := part_cells HO3.out hq
          have hsl := HRL3.out s rfl
          have hsl1 : s < W.heap.size + u.n := by have := u.size; omega
          have HP := hid hp
          have htI : ((k2 : Int) + 1) % (m : Int) = (t : Int) := by rw [← ht]; simp
          clear hp hq
          obtain ⟨hb1, hb2, hb3⟩ := HB.out
          have HB1 := hid hb1
          have HB2 := hid hb2
          have HB3 := hid hb3
          clear HB hb1 hb2 hb3
          rcases Decidable.em (0 ≤ p.2.1) with e | e
          · have e1 : decide (0 ≤ p.2.1) = true := by simp [e]
            have HE := hid ((outL_yes HP.out e).trans (by rw [HNX.out]))
            go_wp2_with (first | (at_builtin; refine wpList_append_ex (by rfl) _ _ _ (by rfl) _ _ (by rfl) (by rfl) (append_own (bytes := 32) (by kernel_rfl) HI1.out HY0.out HY1.out HY2.out rfl (by omega) HB3.out (by repeat' (first | exact Below.refl _ _ | with_reducible assumption | omega | with_reducible refine below_put_fut ?_ ?_ _ | with_reducible refine below_to_put ?_ | with_reducible refine Below.alloc ?_ ?_ _ | with_reducible refine Below.fut ?_ ?_ _ | with_reducible refine Below.drew ?_ | with_reducible refine Below.setCell ?_ ?_ _ | with_reducible refine Below.atPut ?_ ?_ _ | (simp [go_sem]; done) | (simp [go_sem]; omega))) (by simp [go_sem]) (by omega) (by omega) (a := _) (news := (owl (p.1, q.1, p.2.1, p.2.2))) rfl (owl_one _) (by repeat' (first | rfl | assumption | (with_reducible refine (heap_drew_eq _ _).trans ?_) | (refine (Fut.heap _ _ ?_).trans ?_ ; focus (first | assumption | omega | (simp [go_sem]; done) | (simp [go_sem]; omega))) | (refine (heap_put_at _ _ _ ?_).trans ?_ ; focus (first | assumption | omega | (simp [go_sem]; done) | (simp [go_sem]; omega))) | (refine (heap_put_other _ _ _ _ ?_).trans ?_ ; focus (first | assumption | omega | (simp [go_sem]; done) | (simp [go_sem]; omega))) | (refine (heap_alloc_other _ _ _ ?_).trans ?_ ; focus (first | assumption | omega | (simp [go_sem]; done) | (simp [go_sem]; omega))) | (refine (heap_alloc_at _ _ _ ?_).trans ?_ ; focus (first | assumption | omega | (simp [go_sem]; done) | (simp [go_sem]; omega))) | (simp [go_sem]; done) | (simp [go_sem]; omega)))) ?_; rintro v4 W4 ⟨ao4, c4, rfl, ho4, hb4⟩))
            refine ⟨⟨k2 + 1, out ++ [(p.1, q.1, p.2.1, p.2.2)], m2 + 1, ao4, c4, by omega, by go_num, rfl, by omega, hid ⟨by rw [List.length_append, HB1.out]; rfl, by rw [HE.out, HB2.out], by rw [flatO_append]; simpa [flatO] using ho4⟩, ⟨⟨W4, u3.below.trans hb4⟩, rfl⟩⟩, by simp [intOf]; omega⟩
          · have e1 : decide (0 ≤ p.2.1) = false := by simp; omega
            have HE := hid (outL_no HP.out e)
            go_wp2_with fail
            refine ⟨⟨k2 + 1, out, m2, a6, c6, by omega, by go_num, rfl, by omega, hid ⟨HB1.out, by rw [HE.out]; exact HB2.out, owns_below HB3.out (Below.alloc (Below.refl _ _) (Nat.le_refl _) _)⟩, ⟨⟨u3.val.alloc _, Below.alloc u3.below u3.below.size _⟩, rfl⟩⟩, by simp [intOf]; omega⟩
        · obtain rfl : k2 = m := by omega
          obtain ⟨hb1, hb2, hb3⟩ := HB.out
          have HB1 := hid hb1
          have HB2 := hid hb2
          have HB3 := hid hb3
          have hw : IntKind.i64.wrap ((k2 : Int) - 1) = (k2 : Int) - 1 := by rw [IntKind.wrap_i64]; omega
          clear HB hb1 hb2 hb3
          have HAL0 := hid (show arcsL l = mergeL acc out from by unfold arcsL; rw [← HD.out, HA1.out, ← HB2.out])
          rcases Decidable.em (2 ≤ k2) with hm | hm
          · obtain ⟨m1, rfl⟩ : ∃ m1, k2 = m1 + 1 := ⟨k2 - 1, by omega⟩
            have hm1 : 0 < m1 := by omega
            have hw2 : IntKind.i64.wrap (m1 : Int) = (m1 : Int) := by rw [IntKind.wrap_i64]; omega
            have e0 : decide ((0 : Int) < (m1 : Int)) = true := by simp; omega
            obtain ⟨p, hp⟩ : ∃ p, acc[0]? = some p := ⟨acc[0]'(by rw [HA1.out]; omega), List.getElem?_eq_getElem _⟩
            obtain ⟨q, hq⟩ : ∃ q, acc[m1]? = some q := ⟨acc[m1]'(by rw [HA1.out]; omega), List.getElem?_eq_getElem _⟩
            have hme : mergeL acc out = if 0 ≤ p.2.1 then (if p.2 = q.2 then joinL out else out) else out := by
              unfold mergeL
              rw [HA1.out, if_pos (by omega), Nat.add_sub_cancel, hp, hq]
            rw [hme] at HAL0
            have HPA := hid hp
            obtain ⟨s, rfl⟩ : ∃ s, a3 = some ⟨s, 0, none⟩ := by
              obtain ⟨s, cap, h2, _, _⟩ := World.ownsRow.form HO3.out (by omega)
              injection h2 with h2; exact ⟨s, h2⟩
            obtain ⟨p0, p1, p2⟩ := part_cells HO3.out hp
            simp only [Nat.zero_mul, Nat.zero_add] at p0 p1 p2
            obtain ⟨q0, q1, q2⟩ := part_cells HO3.out hq
            have hsl := HRL3.out s rfl
            have hsl1 : s < W.heap.size + u.n := by have := u.size; omega
            have hsl2 : s < W.heap.size + u.n + u3.n := by omega
            clear hm hw hp hq hme
            rcases Decidable.em (0 ≤ p.2.1) with e | e
            · have e1 : decide (0 ≤ p.2.1) = true := by simp [e]
              rw [if_pos e] at HAL0
              rcases Decidable.em (p.2 = q.2) with ee | ee
              · have e2 : decide (p.2 = q.2) = true := by simp [ee]
                rw [if_pos ee] at HAL0
                have HEE := hid ee
                clear ee
                obtain ⟨m3, rfl⟩ : ∃ m3, m2 = m3 + 1 := ⟨m2 - 1, by have := outL_pos HPA.out e (m1 + 1) (by omega); rw [← HB2.out, HB1.out] at this; omega⟩
                obtain ⟨A, hA⟩ : ∃ A, out[0]? = some A := ⟨out[0]'(by rw [HB1.out]; omega), List.getElem?_eq_getElem _⟩
                obtain ⟨Z, hZ⟩ : ∃ Z, out[m3]? = some Z := ⟨out[m3]'(by rw [HB1.out]; omega), List.getElem?_eq_getElem _⟩
                obtain ⟨s6, rfl⟩ : ∃ s, a6 = some ⟨s, 0, none⟩ := by
                  obtain ⟨s, cap, h2, _, _⟩ := World.ownsRow.form HB3.out (by omega)
                  injection h2 with h2; exact ⟨s, h2⟩
                have hj : joinL out = (out.set m3 (Z.1, A.2.1, Z.2.2.1, Z.2.2.2)).drop 1 := by unfold joinL; rw [HB1.out, Nat.add_sub_cancel, hA, hZ]
                rw [hj] at HAL0
                have hA1 := HB3.out.cells (g := s6) rfl _ _ (flatO_at hA 1 _ rfl)
                rw [add_none] at hA1
                simp only [Nat.zero_mul, Nat.zero_add] at hA1
                have hZ1 := HB3.out.cells (g := s6) rfl _ _ (flatO_at hZ 1 _ rfl)
                rw [add_none] at hZ1
                simp only [Nat.zero_add] at hZ1
                have hs6 := (HB3.out.lt s6 rfl).2
                have hs61 : s6 < W.heap.size + u.n + u3.n := by have := u.size; have := u3.size; omega
                have hw3 : IntKind.i64.wrap (m3 : Int) = (m3 : Int) := by rw [IntKind.wrap_i64]; omega
                obtain ⟨scur, _, _, hsr, _, _⟩ := row_open (owns_zero HB3.out)
                have hfr := fun i => frozen_of hsr i
                have HSR := hid hsr
                have HAZ := hid hA
                have HZZ := hid hZ
                clear hA hZ hj hsr
                have hc6 : m3 + 1 ≤ c6 := by
                  rcases HB3.out.2 with ⟨h1, _⟩ | ⟨_, _, _, h1, _, _, h2, _⟩
                  · cases h1
                  · (injection h1 with _ h3 h4) <;> omega
                have HL1 := hid (show ((out.set m3 (Z.1, A.2.1, Z.2.2.1, Z.2.2.2)).drop 1).length = m3 from by rw [List.length_drop, List.length_set, HB1.out, Nat.add_sub_cancel])
                have hin := (HB3.out.lt s6 rfl).1
                have hWs : W.heap.size ≤ s6 := Nat.le_trans u.below.size hin
                go_wp2_with (first | (((with_reducible refine wp_region_fut_lit (by kernel_rfl) (by kernel_rfl) ?_)); (repeat (go_big_quiet_step ((first | (go_at_call 71; with_reducible exact Calls.fut_of (alike_is p q _)))))); ((with_reducible refine wpQuiet_nil ?_)); rintro _ ⟨u2, rfl⟩))
                · go_ret
                  refine ⟨_, rfl, .inr ⟨s6, 0, _, by rw [HAL0.out, HL1.out]; simp; rfl, hWs, (by first | assumption | (simp [go_sem]; done) | (simp [go_sem]; omega)), fun j x hx => ?_⟩, (by repeat' (first | exact Below.refl _ _ | with_reducible assumption | omega | with_reducible refine below_put_fut ?_ ?_ _ | with_reducible refine below_to_put ?_ | with_reducible refine Below.alloc ?_ ?_ _ | with_reducible refine Below.fut ?_ ?_ _ | with_reducible refine Below.drew ?_ | with_reducible refine Below.setCell ?_ ?_ _ | with_reducible refine Below.atPut ?_ ?_ _ | (simp [go_sem]; done) | (simp [go_sem]; omega)))⟩
                  rw [HAL0.out, List.eq_nil_of_length_eq_zero (HL1.out.trans (by omega))] at hx
                  cases hx
                · go_ret
                  refine ⟨_, rfl, .inr ⟨s6, 4, _, by rw [HAL0.out, HL1.out]; simp; rfl, hWs, (by first | assumption | (simp [go_sem]; done) | (simp [go_sem]; omega)), fun j x hx => ?_⟩, (by repeat' (first | exact Below.refl _ _ | with_reducible assumption | omega | with_reducible refine below_put_fut ?_ ?_ _ | with_reducible refine below_to_put ?_ | with_reducible refine Below.alloc ?_ ?_ _ | with_reducible refine Below.fut ?_ ?_ _ | with_reducible refine Below.drew ?_ | with_reducible refine Below.setCell ?_ ?_ _ | with_reducible refine Below.atPut ?_ ?_ _ | (simp [go_sem]; done) | (simp [go_sem]; omega)))⟩
                  rw [HAL0.out] at hx
                  exact join_cells (owns_below HB3.out u2.below) HB1.out HZZ.out A.2.1 j x hx
              · have e2 : decide (p.2 = q.2) = false := by simp [ee]
                rw [if_neg ee] at HAL0
                have HAL := HAL0
                have HEE := hid ee
                clear ee
                go_wp2_with (first | (((with_reducible refine wp_region_fut_lit (by kernel_rfl) (by kernel_rfl) ?_)); (repeat (go_big_quiet_step ((first | (go_at_call 71; with_reducible exact Calls.fut_of (alike_is p q _)))))); ((with_reducible refine wpQuiet_nil ?_)); rintro _ ⟨u2, rfl⟩))
                go_ret
                exact ⟨_, rfl, HAL.out ▸ arcs_of_row (owns_below HB3.out (by repeat' (first | exact Below.refl _ _ | with_reducible assumption | omega | with_reducible refine below_put_fut ?_ ?_ _ | with_reducible refine below_to_put ?_ | with_reducible refine Below.alloc ?_ ?_ _ | with_reducible refine Below.fut ?_ ?_ _ | with_reducible refine Below.drew ?_ | with_reducible refine Below.setCell ?_ ?_ _ | with_reducible refine Below.atPut ?_ ?_ _ | (simp [go_sem]; done) | (simp [go_sem]; omega)))) HB1.out u.below.size, (by repeat' (first | exact Below.refl _ _ | with_reducible assumption | omega | with_reducible refine below_put_fut ?_ ?_ _ | with_reducible refine below_to_put ?_ | with_reducible refine Below.alloc ?_ ?_ _ | with_reducible refine Below.fut ?_ ?_ _ | with_reducible refine Below.drew ?_ | with_reducible refine Below.setCell ?_ ?_ _ | with_reducible refine Below.atPut ?_ ?_ _ | (simp [go_sem]; done) | (simp [go_sem]; omega)))⟩
            · have e1 : decide (0 ≤ p.2.1) = false := by simp; omega
              rw [if_neg e] at HAL0
              have HAL := HAL0
              go_wp2_with (first | (((with_reducible refine wp_region_fut_lit (by kernel_rfl) (by kernel_rfl) ?_)); (repeat (go_big_quiet_step (fail))); ((with_reducible refine wpQuiet_nil ?_)); rintro _ ⟨u2, rfl⟩))
              go_ret
              exact ⟨_, rfl, HAL.out ▸ arcs_of_row (owns_below HB3.out (by repeat' (first | exact Below.refl _ _ | with_reducible assumption | omega | with_reducible refine below_put_fut ?_ ?_ _ | with_reducible refine below_to_put ?_ | with_reducible refine Below.alloc ?_ ?_ _ | with_reducible refine Below.fut ?_ ?_ _ | with_reducible refine Below.drew ?_ | with_reducible refine Below.setCell ?_ ?_ _ | with_reducible refine Below.atPut ?_ ?_ _ | (simp [go_sem]; done) | (simp [go_sem]; omega)))) HB1.out u.below.size, (by repeat' (first | exact Below.refl _ _ | with_reducible assumption | omega | with_reducible refine below_put_fut ?_ ?_ _ | with_reducible refine below_to_put ?_ | with_reducible refine Below.alloc ?_ ?_ _ | with_reducible refine Below.fut ?_ ?_ _ | with_reducible refine Below.drew ?_ | with_reducible refine Below.setCell ?_ ?_ _ | with_reducible refine Below.atPut ?_ ?_ _ | (simp [go_sem]; done) | (simp [go_sem]; omega)))⟩
          · have e0 : decide ((0 : Int) < (k2 : Int) - 1) = false := by simp; omega
            have e0' : decide ((1 : Int) < (k2 : Int)) = false := by simp; omega
            have HAL := hid (show arcsL l = out from by rw [HAL0.out]; unfold mergeL; rw [HA1.out, if_neg (by omega)])
            clear hm
            go_wp2_with (first | (((with_reducible refine wp_region_fut_lit (by kernel_rfl) (by kernel_rfl) ?_)); (repeat (go_big_quiet_step (fail))); ((with_reducible refine wpQuiet_nil ?_)); rintro _ ⟨u2, rfl⟩))
            go_ret
            exact ⟨_, rfl, HAL.out ▸ arcs_of_row (owns_below HB3.out (by repeat' (first | exact Below.refl _ _ | with_reducible assumption | omega | with_reducible refine below_put_fut ?_ ?_ _ | with_reducible refine below_to_put ?_ | with_reducible refine Below.alloc ?_ ?_ _ | with_reducible refine Below.fut ?_ ?_ _ | with_reducible refine Below.drew ?_ | with_reducible refine Below.setCell ?_ ?_ _ | with_reducible refine Below.atPut ?_ ?_ _ | (simp [go_sem]; done) | (simp [go_sem]; omega)))) HB1.out u.below.size, (by repeat' (first | exact Below.refl _ _ | with_reducible assumption | omega | with_reducible refine below_put_fut ?_ ?_ _ | with_reducible refine below_to_put ?_ | with_reducible refine Below.alloc ?_ ?_ _ | with_reducible refine Below.fut ?_ ?_ _ | with_reducible refine Below.drew ?_ | with_reducible refine Below.setCell ?_ ?_ _ | with_reducible refine Below.atPut ?_ ?_ _ | (simp [go_sem]; done) | (simp [go_sem]; omega)))⟩
end Go.Proofs.Ythgajbfgolcpkaa
