import Derived.Test.YthgajbfgolcpkaaVwP
/- The plain law of a view's arcs. -/
namespace Go.Proofs.Ythgajbfgolcpkaa
open Go.RowKit
set_option linter.unusedVariables false
set_option linter.unusedSimpArgs false
theorem ded_cases (acc : List Pt) (p : Pt) : (acc = [] ∧ ded acc p = [p]) ∨ ∃ A q, acc = A ++ [q] ∧ ((q.2 = p.2 ∧ ded acc p = acc) ∨ (q.2 ≠ p.2 ∧ ded acc p = acc ++ [p])) := by
  rcases List.eq_nil_or_concat acc with rfl | ⟨A, q, rfl⟩
  · exact .inl ⟨rfl, rfl⟩
  · refine .inr ⟨A, q, by simp, ?_⟩
    have hg : (A ++ [q])[(A ++ [q]).length - 1]? = some q := by simp
    have hd : ded (A ++ [q]) p = if q.2 = p.2 then A ++ [q] else A ++ [q] ++ [p] := by unfold ded; rw [hg]
    rw [List.concat_eq_append, hd]
    by_cases e : q.2 = p.2
    · rw [if_pos e]; exact .inl ⟨e, rfl⟩
    · rw [if_neg e]; exact .inr ⟨e, rfl⟩
/-- No two parts that lie side by side say the same. -/
def Adj (D : List Pt) : Prop := ∀ i p q, D[i]? = some p → D[i + 1]? = some q → p.2 ≠ q.2
theorem Adj.snoc {A : List Pt} {q p : Pt} (h : Adj (A ++ [q])) (hne : q.2 ≠ p.2) : Adj (A ++ [q] ++ [p]) := by
  intro i a b ha hb
  rcases Nat.lt_or_ge (i + 1) (A ++ [q]).length with c | c
  · rw [List.getElem?_append_left (by omega)] at ha
    rw [List.getElem?_append_left c] at hb
    exact h i a b ha hb
  · have hb2 := (List.getElem?_eq_some_iff.1 hb).1
    simp only [List.length_append, List.length_singleton] at hb2 c
    have hi : i = A.length := by omega
    subst hi
    have e1 : (A ++ [q] ++ [p])[A.length]? = some q := by simp
    have e2 : (A ++ [q] ++ [p])[A.length + 1]? = some p := by simp
    rw [e1] at ha; rw [e2] at hb
    cases ha; cases hb; exact hne
/-- Parts that say the same as the one ahead of them are left out. -/
theorem dedF_law : ∀ (l acc : List Pt), (acc ++ l).Pairwise (fun p q => p.1 < q.1) → Adj acc →
    (∀ y, semF (l.foldl ded acc) y = semF (acc ++ l) y) ∧ Adj (l.foldl ded acc) ∧ (l.foldl ded acc).Sublist (acc ++ l) ∧ (l.foldl ded acc)[0]? = (acc ++ l)[0]?
  | [], acc, h, ha => by simp [ha]
  | p :: l, acc, h, ha => by
    rw [List.foldl_cons]
    rcases ded_cases acc p with ⟨rfl, e⟩ | ⟨A, q, rfl, ⟨hq, e⟩ | ⟨hq, e⟩⟩
    · rw [e]
      exact dedF_law l [p] h (by intro i a b ha hb; cases i <;> simp at hb)
    · rw [e]
      have hsub : (A ++ [q] ++ l).Sublist (A ++ [q] ++ p :: l) := (List.sublist_cons_self p l).append_left _
      obtain ⟨h1, h2, h3, h4⟩ := dedF_law l (A ++ [q]) (h.sublist hsub) ha
      refine ⟨fun y => (h1 y).trans ?_, h2, h3.trans hsub, h4.trans ?_⟩
      · rw [semF_append (A ++ [q]) l, semF_append (A ++ [q]) (p :: l), List.foldl_cons]
        by_cases c : p.1 ≤ y
        · rw [if_pos c]
          have hqp : q.1 < p.1 := (List.pairwise_append.1 h).2.2 q (by simp) p (by simp)
          rw [semF_parted (B := []) (by omega) (by simp), hq]
        · rw [if_neg c]
      · cases A <;> simp
    · rw [e]
      have e2 : A ++ [q] ++ p :: l = A ++ [q] ++ [p] ++ l := by simp
      rw [e2] at h ⊢
      exact dedF_law l (A ++ [q] ++ [p]) h (ha.snoc hq)
theorem GoodL.ded {l : List Pt} (h : GoodL l) : GoodL (l.foldl Go.Proofs.Ythgajbfgolcpkaa.ded []) ∧ (∀ y, semF (l.foldl Go.Proofs.Ythgajbfgolcpkaa.ded []) y = semF l y) ∧ Adj (l.foldl Go.Proofs.Ythgajbfgolcpkaa.ded []) ∧ (l ≠ [] → l.foldl Go.Proofs.Ythgajbfgolcpkaa.ded [] ≠ []) := by
  obtain ⟨h1, h2, h3, h4⟩ := dedF_law l [] (by simpa using h.rise) (by intro i a b ha hb; cases hb)
  rw [List.nil_append] at h3 h4
  refine ⟨⟨fun p hp => h.zero p (h4 ▸ hp), h.rise.sublist h3, fun p hp => h.top p (h3.subset hp)⟩, fun y => by simpa using h1 y, h2, fun hne e => ?_⟩
  rw [e] at h4
  cases l with
  | nil => exact hne rfl
  | cons a l => simp at h4
/-- The part behind a part begins behind it, or there is none. -/
theorem next_is_D {D : List Pt} {k : Nat} (hk : k < D.length) : nextOf D k = if k + 1 < D.length then ((D[k + 1]?).getD (0, 0, 0)).1 else ((D[0]?).getD (0, 0, 0)).1 := by
  unfold nextOf
  by_cases c : k + 1 < D.length
  · rw [if_pos c, Nat.mod_eq_of_lt c, List.getElem?_eq_getElem c]; rfl
  · have e : k + 1 = D.length := by omega
    rw [if_neg c, e, Nat.mod_self, List.getElem?_eq_getElem (by omega)]; rfl
theorem GoodL.lt {l : List Pt} (h : GoodL l) {i j : Nat} {p q : Pt} (hp : l[i]? = some p) (hq : l[j]? = some q) (hij : i < j) : p.1 < q.1 := by
  obtain ⟨hil, rfl⟩ := List.getElem?_eq_some_iff.1 hp
  obtain ⟨hjl, rfl⟩ := List.getElem?_eq_some_iff.1 hq
  exact List.pairwise_iff_getElem.1 h.rise i j hil hjl hij
theorem GoodL.next {D : List Pt} (h : GoodL D) {k : Nat} {q : Pt} (hq : D[k]? = some q) : (k + 1 < D.length ∧ ∃ r, D[k + 1]? = some r ∧ nextOf D k = r.1 ∧ q.1 < r.1 ∧ r.1 < 18446744073709551616) ∨ (k + 1 = D.length ∧ nextOf D k = 0) := by
  have hk := (List.getElem?_eq_some_iff.1 hq).1
  rw [next_is_D hk]
  by_cases c : k + 1 < D.length
  · have hr := List.getElem?_eq_getElem c
    refine .inl ⟨c, D[k + 1], hr, by rw [if_pos c, hr]; rfl, h.lt hq hr (by omega), h.top _ (List.getElem_mem c)⟩
  · refine .inr ⟨by omega, ?_⟩
    have h0 := List.getElem?_eq_getElem (show 0 < D.length by omega)
    rw [if_neg c, h0]
    exact h.zero _ h0
theorem pieceL_one {a b : Int} (h : b = 0 ∨ a < b) : pieceL a b = [(a, b)] := by
  unfold pieceL
  by_cases c : b = 0
  · rw [if_pos c]
  · rw [if_neg c, if_pos (h.resolve_left c)]
/-- Which part's arc holds a point. -/
theorem seg_in {A B : List Pt} {p : Pt} (h : GoodL (A ++ p :: B)) {y : Int} (hy : 0 ≤ y) (hy2 : y < 18446744073709551616) (hpy : p.1 ≤ y) (hB : ∀ q ∈ B, y < q.1) {k : Nat} {q : Pt} (hq : (A ++ p :: B)[k]? = some q) :
    inB q.1 (nextOf (A ++ p :: B) k) y = decide (k = A.length) := by
  have hq0 := h.ge q (List.mem_of_getElem? hq)
  have hqt := h.top q (List.mem_of_getElem? hq)
  have hp : (A ++ p :: B)[A.length]? = some p := by simp
  have hL : (A ++ p :: B).length = A.length + B.length + 1 := by simp; omega
  have hBk : ∀ i r, A.length < i → (A ++ p :: B)[i]? = some r → y < r.1 := by
    intro i r hi hr
    rw [List.getElem?_append_right (by omega)] at hr
    obtain ⟨j, hj⟩ : ∃ j, i - A.length = j + 1 := ⟨i - A.length - 1, by omega⟩
    rw [hj, List.getElem?_cons_succ] at hr
    exact hB r (List.mem_of_getElem? hr)
  rcases h.next hq with ⟨c, r, hr, e, hqr, hrt⟩ | ⟨c, e⟩
  · rw [e, ← pieces_in hq0 hqt (by omega) hrt hy hy2, pieceL_one (.inr hqr)]
    have hr0 : ¬ r.1 = 0 := by omega
    rcases Nat.lt_trichotomy k A.length with d | d | d
    · have : r.1 ≤ p.1 := by
        rcases Nat.lt_or_ge (k + 1) A.length with f | f
        · exact Int.le_of_lt (h.lt hr hp f)
        · have : k + 1 = A.length := by omega
          rw [this, hp] at hr; cases hr; exact Int.le_refl _
      have d2 : ¬ k = A.length := by omega
      simp [inQ, hr0, d2]; omega
    · subst d
      rw [hp] at hq; cases hq
      have := hBk _ r (by omega) hr
      simp [inQ, hr0]; omega
    · have := hBk k q d hq
      have d2 : ¬ k = A.length := by omega
      simp [inQ, hr0, d2]; omega
  · rw [e, ← pieces_in hq0 hqt (by omega) (by omega) hy hy2, pieceL_one (.inl rfl)]
    rcases Nat.lt_trichotomy k A.length with d | d | d
    · omega
    · subst d
      rw [hp] at hq; cases hq
      simp [inQ]; omega
    · have := hBk k q d hq
      have d2 : ¬ k = A.length := by omega
      simp [inQ, d2]; omega
/-- The arcs around a point. -/
def atL (L : List Ow) (y : Int) : List Ow := L.filter fun o => inB o.1 o.2.1 y
theorem atL_append (a b : List Ow) (y : Int) : atL (a ++ b) y = atL a y ++ atL b y := List.filter_append ..
theorem out_at {A B : List Pt} {p : Pt} (h : GoodL (A ++ p :: B)) {y : Int} (hy : 0 ≤ y) (hy2 : y < 18446744073709551616) (hpy : p.1 ≤ y) (hB : ∀ q ∈ B, y < q.1) :
    ∀ k, k ≤ (A ++ p :: B).length → atL (outL (A ++ p :: B) k) y = if A.length < k ∧ 0 ≤ p.2.1 then [(p.1, nextOf (A ++ p :: B) A.length, p.2.1, p.2.2)] else []
  | 0, _ => by simp [outL, atL]
  | k + 1, hk => by
    have ih := out_at h hy hy2 hpy hB k (by omega)
    obtain ⟨q, hq⟩ : ∃ q, (A ++ p :: B)[k]? = some q := ⟨_, List.getElem?_eq_getElem (by omega)⟩
    have hs := seg_in h hy hy2 hpy hB hq
    have hp : (A ++ p :: B)[A.length]? = some p := by simp
    by_cases c : 0 ≤ q.2.1
    · rw [outL_yes hq c, atL_append, ih]
      by_cases d : k = A.length
      · subst d
        rw [hp] at hq; cases hq
        have : inB p.1 (nextOf (A ++ p :: B) A.length) y = true := by rw [hs]; simp
        simp [atL, this, c]
      · have d2 : decide (k = A.length) = false := by simp [d]
        rw [d2] at hs
        have : (A.length < k) ↔ (A.length < k + 1) := by omega
        simp [atL, hs, this]
    · rw [outL_no hq c, ih]
      by_cases d : k = A.length
      · subst d
        rw [hp] at hq; cases hq
        simp [c]
      · have : (A.length < k) ↔ (A.length < k + 1) := by omega
        simp [this]
/-- The first arc, and the last one, where the first and the last part are known. -/
theorem outL_first {D : List Pt} {p : Pt} (h : D[0]? = some p) (hp : 0 ≤ p.2.1) : ∀ k, 1 ≤ k → (outL D k)[0]? = some (p.1, nextOf D 0, p.2.1, p.2.2)
  | 0, h => by omega
  | 1, _ => by simp [outL, h, hp]
  | k + 2, _ => by
    have ih := outL_first h hp (k + 1) (by omega)
    rw [outL]
    split
    · split
      · rw [List.getElem?_append_left (List.getElem?_eq_some_iff.1 ih).1]; exact ih
      · exact ih
    · exact ih
theorem split_ends {L : List Ow} {a : Ow} (h0 : L[0]? = some a) (h2 : 2 ≤ L.length) : ∃ M z, L = a :: M ++ [z] := by
  cases L with
  | nil => cases h0
  | cons b L =>
    cases h0
    rcases List.eq_nil_or_concat L with rfl | ⟨M, z, rfl⟩
    · simp at h2
    · exact ⟨M, z, by simp⟩
theorem join_split (a z : Ow) (M : List Ow) : joinL (a :: M ++ [z]) = M ++ [(z.1, a.2.1, z.2.2.1, z.2.2.2)] := by
  unfold joinL
  have e0 : (a :: M ++ [z])[0]? = some a := rfl
  have e1 : (a :: M ++ [z])[(a :: M ++ [z]).length - 1]? = some z := by simp
  rw [e0, e1]
  simp
/-- Where the first and the last part say the same the arcs are those of all parts but these, and one over the end. -/
theorem merged {D : List Pt} (h : GoodL D) (ha : Adj D) {p q : Pt} (h0 : D[0]? = some p) (hl : D[D.length - 1]? = some q) (h1 : 1 < D.length) (hp : 0 ≤ p.2.1) (he : p.2 = q.2) :
    ∃ M r, outL D D.length = (0, r, p.2.1, p.2.2) :: M ++ [(q.1, 0, q.2.1, q.2.2)] ∧ mergeL D (outL D D.length) = M ++ [(q.1, r, q.2.1, q.2.2)] ∧ 0 < r ∧ r < q.1 ∧ q.1 < 18446744073709551616 := by
  have hm : 2 < D.length := by
    rcases Nat.lt_or_ge 2 D.length with c | c
    · exact c
    · have e : D.length = 2 := by omega
      rw [e] at hl
      exact absurd he (ha 0 p q h0 hl)
  have hq2 : 0 ≤ q.2.1 := by rw [← he]; exact hp
  have z0 := h.zero p h0
  have hf := outL_first h0 hp D.length (by omega)
  obtain ⟨k, hk⟩ : ∃ k, D.length = k + 1 := ⟨D.length - 1, by omega⟩
  have hlk : D[k]? = some q := by rw [← hl]; congr 1; omega
  have hy := outL_yes hlk hq2
  have hnx : nextOf D k = 0 := by
    rcases h.next hlk with ⟨c, _⟩ | ⟨_, e⟩
    · omega
    · exact e
  rw [hnx] at hy
  have hlen : 1 ≤ (outL D k).length := outL_pos h0 hp k (by omega)
  obtain ⟨r, hr, hnr, hr0, hrt⟩ : ∃ r, D[1]? = some r ∧ nextOf D 0 = r.1 ∧ p.1 < r.1 ∧ r.1 < 18446744073709551616 := by
    rcases h.next h0 with ⟨c, r, h1, h2, h3, h4⟩ | ⟨c, _⟩
    · exact ⟨r, h1, h2, h3, h4⟩
    · omega
  rw [← hk] at hy
  obtain ⟨M, z, hM⟩ := split_ends hf (by rw [hy]; simp; omega)
  have hz : z = (q.1, 0, q.2.1, q.2.2) := by
    rw [hy] at hM
    have := (List.append_inj' hM rfl).2
    simpa using this.symm
  subst hz
  rw [z0, hnr] at hM
  refine ⟨M, r.1, hM, ?_, by omega, h.lt hr hlk (by omega), h.top q (List.mem_of_getElem? hlk)⟩
  unfold mergeL
  rw [if_pos h1, h0, hl]
  dsimp only
  rw [if_pos hp, if_pos he, hM, join_split]
theorem merge_not {D : List Pt} {out : List Ow} (h : ¬ (1 < D.length ∧ ∃ p q, D[0]? = some p ∧ D[D.length - 1]? = some q ∧ 0 ≤ p.2.1 ∧ p.2 = q.2)) : mergeL D out = out := by
  unfold mergeL
  split
  · rename_i c
    split
    · rename_i p q hp hq
      split
      · split
        · exact absurd ⟨c, p, q, hp, hq, by assumption, by assumption⟩ h
        · rfl
      · rfl
    · rfl
  · rfl
/-- The arc over the end. -/
theorem wrap_in {z t y : Int} (h0 : 0 < t) (h1 : t < z) (hz : z < 18446744073709551616) (hy : 0 ≤ y) (hy2 : y < 18446744073709551616) : inB z t y = (inB 0 t y || inB z 0 y) := by
  rw [← pieces_in (by omega) hz (by omega) (by omega) hy hy2, ← pieces_in (by omega) (by omega) (by omega) (by omega) hy hy2, ← pieces_in (by omega) hz (by omega) (by omega) hy hy2]
  rw [pieceL_one (a := 0) (b := t) (.inr h0), pieceL_one (a := z) (b := 0) (.inl rfl)]
  have e : pieceL z t = [(0, t), (z, 0)] := by
    unfold pieceL
    rw [if_neg (by omega), if_neg (by omega), if_neg (by omega)]
  rw [e]
  simp
/-- Each point of which something is known is in one arc, and no other is in any. -/
theorem arcs_at {l : List Pt} (h : GoodL l) {y : Int} (hy : 0 ≤ y) (hy2 : y < 18446744073709551616) :
    (l = [] → arcsL l = []) ∧ (l ≠ [] → if 0 ≤ (semF l y).1 then ∃ o, atL (arcsL l) y = [o] ∧ o.2.2 = semF l y else atL (arcsL l) y = []) := by
  refine ⟨fun e => by subst e; rfl, fun hne => ?_⟩
  obtain ⟨hg, hs, ha, hn⟩ := h.ded
  have hDne := hn hne
  rw [← hs y]
  unfold arcsL
  generalize l.foldl Go.Proofs.Ythgajbfgolcpkaa.ded [] = D at hg ha hDne ⊢
  obtain ⟨A, p, B, hD, -, hpy, hB⟩ := parted hg hDne hy
  have hsem : semF D y = p.2 := by rw [hD]; exact semF_parted hpy hB
  have hout : atL (outL D D.length) y = if 0 ≤ p.2.1 then [(p.1, nextOf D A.length, p.2.1, p.2.2)] else [] := by
    have := out_at (hD ▸ hg) hy hy2 hpy hB (A ++ p :: B).length (Nat.le_refl _)
    rw [← hD] at this
    rw [this]
    have : A.length < D.length := by rw [hD]; simp
    simp [this]
  rw [hsem]
  by_cases c : 1 < D.length ∧ ∃ p q, D[0]? = some p ∧ D[D.length - 1]? = some q ∧ 0 ≤ p.2.1 ∧ p.2 = q.2
  · obtain ⟨h1, p0, q0, hp0, hq0, hp1, he⟩ := c
    obtain ⟨M, r, hO, hM, hr0, hrq, hqt⟩ := merged hg ha hp0 hq0 h1 hp1 he
    rw [hM]
    rw [hO, List.cons_append, ← List.singleton_append, atL_append, atL_append] at hout
    rw [atL_append]
    have hw := wrap_in hr0 hrq hqt hy hy2
    have s1 : ∀ o : Ow, atL [o] y = if inB o.1 o.2.1 y = true then [o] else [] := by intro o; simp [atL, List.filter_cons]
    rw [s1] at hout ⊢
    rw [s1] at hout
    dsimp only at hout ⊢
    rw [hw]
    have hnil : ∀ (T : List Ow) (x u : Ow), T ++ [x] = [u] → T = [] ∧ x = u := by
      intro T x u h
      cases T with
      | nil => exact ⟨rfl, by simpa using h⟩
      | cons a T => have := congrArg List.length h; simp at this
    by_cases k : 0 ≤ p.2.1
    · rw [if_pos k] at hout ⊢
      cases b1 : inB 0 r y <;> cases b2 : inB q0.1 0 y <;> rw [b1, b2] at hout <;> simp only [Bool.false_eq_true, reduceIte, List.nil_append, List.append_nil, Bool.or_false, Bool.or_true, Bool.false_or, Bool.true_or] at hout ⊢
      · exact ⟨_, hout, rfl⟩
      · obtain ⟨hM0, hq⟩ := hnil _ _ _ hout
        rw [hM0]
        exact ⟨_, rfl, congrArg (fun o : Ow => o.2.2) hq⟩
      · have hc := congrArg List.length hout
        rw [List.length_append, List.length_singleton, List.length_singleton] at hc
        have hM0 : atL M y = [] := List.eq_nil_of_length_eq_zero (by omega)
        rw [hM0] at hout ⊢
        refine ⟨_, rfl, ?_⟩
        have hq := (List.cons.inj hout).1
        show q0.2 = p.2
        rw [← he]
        exact congrArg (fun o : Ow => o.2.2) hq
      · have hc := congrArg List.length hout
        simp at hc
    · rw [if_neg k] at hout ⊢
      cases b1 : inB 0 r y <;> cases b2 : inB q0.1 0 y <;> rw [b1, b2] at hout <;> simp only [Bool.false_eq_true, reduceIte, List.nil_append, List.append_nil, Bool.or_false, Bool.or_true, Bool.false_or, Bool.true_or] at hout ⊢
      · exact hout
      · have hc := congrArg List.length hout
        simp at hc
      · have hc := congrArg List.length hout
        simp at hc
      · have hc := congrArg List.length hout
        simp at hc
  · rw [merge_not c, hout]
    by_cases k : 0 ≤ p.2.1
    · rw [if_pos k, if_pos k]; exact ⟨_, rfl, rfl⟩
    · rw [if_neg k, if_neg k]
theorem hasA_inB (a b x : Int) : hasA a b x = inB a b x := by
  unfold hasA inB
  by_cases h : a = b
  · subst h; simp
  · have : (a == b) = false := by simp [h]
    simp [h, this]
theorem ownerL_at (x : Int) (L : List Ow) : ownerL x L = (atL L x).head? := by
  unfold ownerL atL
  rw [List.head?_filter]
  simp only [hasA_inB]
/-- Arcs are of the numbers of the machine. -/
theorem outL_ok {D : List Pt} (h : GoodL D) : ∀ k, ∀ o ∈ outL D k, OkA o.1 o.2.1
  | 0, o, ho => by simp [outL] at ho
  | k + 1, o, ho => by
    rw [outL] at ho
    split at ho
    · rename_i p hp
      split at ho
      · rcases List.mem_append.1 ho with ho | ho
        · exact outL_ok h k o ho
        · rw [List.mem_singleton] at ho
          subst ho
          have hm := List.mem_of_getElem? hp
          rcases h.next hp with ⟨_, r, hr, e, _, _⟩ | ⟨_, e⟩
          · have hr2 := List.mem_of_getElem? hr
            exact ⟨h.ge p hm, h.top p hm, by show 0 ≤ nextOf D k; rw [e]; exact h.ge r hr2, by show nextOf D k < _; rw [e]; exact h.top r hr2⟩
          · exact ⟨h.ge p hm, h.top p hm, by show 0 ≤ nextOf D k; omega, by show nextOf D k < _; omega⟩
      · exact outL_ok h k o ho
    · exact outL_ok h k o ho
theorem arcs_ok {l : List Pt} (h : GoodL l) : ∀ o ∈ arcsL l, OkA o.1 o.2.1 := by
  obtain ⟨hg, hs, ha, hn⟩ := h.ded
  unfold arcsL
  generalize l.foldl Go.Proofs.Ythgajbfgolcpkaa.ded [] = D at hg ha
  by_cases c : 1 < D.length ∧ ∃ p q, D[0]? = some p ∧ D[D.length - 1]? = some q ∧ 0 ≤ p.2.1 ∧ p.2 = q.2
  · obtain ⟨h1, p0, q0, hp0, hq0, hp1, he⟩ := c
    obtain ⟨M, r, hO, hM, hr0, hrq, hqt⟩ := merged hg ha hp0 hq0 h1 hp1 he
    rw [hM]
    intro o ho
    rcases List.mem_append.1 ho with ho | ho
    · exact outL_ok hg D.length o (by rw [hO]; simp [ho])
    · rw [List.mem_singleton] at ho
      subst ho
      exact ⟨by show 0 ≤ q0.1; omega, hqt, by show 0 ≤ r; omega, by show r < _; omega⟩
  · rw [merge_not c]
    exact outL_ok hg D.length
/-- An arc holds where it begins. -/
theorem inB_from {a b : Int} (h : OkA a b) : inB a b a = true := by
  obtain ⟨a0, a1, b0, b1⟩ := h
  unfold inB
  by_cases e : a = b
  · subst e; simp
  · rw [IntKind.wrap_u64, IntKind.wrap_u64]
    simp
    right
    omega
theorem atL_uniq {L : List Ow} {y : Int} {o : Ow} (h : atL L y = [o]) : ∃ i : Nat, L[i]? = some o ∧ inB o.1 o.2.1 y = true ∧ ∀ (j : Nat) (u : Ow), L[j]? = some u → inB u.1 u.2.1 y = true → j = i := by
  unfold atL at h
  obtain ⟨A, B, rfl, hA, ho, hB⟩ := List.filter_eq_cons_iff.1 h
  rw [List.filter_eq_nil_iff] at hB
  refine ⟨A.length, by simp, ho, fun j u hj hu => ?_⟩
  rcases Nat.lt_trichotomy j A.length with c | c | c
  · rw [List.getElem?_append_left c] at hj
    exact absurd hu (hA u (List.mem_of_getElem? hj))
  · exact c
  · rw [List.getElem?_append_right (by omega)] at hj
    obtain ⟨k, hk⟩ : ∃ k, j - A.length = k + 1 := ⟨j - A.length - 1, by omega⟩
    rw [hk, List.getElem?_cons_succ] at hj
    exact absurd hu (hB u (List.mem_of_getElem? hj))
theorem atL_le {l : List Pt} (h : GoodL l) {y : Int} (hy : 0 ≤ y) (hy2 : y < 18446744073709551616) : atL (arcsL l) y = [] ∨ ∃ o, atL (arcsL l) y = [o] ∧ o.2.2 = semF l y := by
  obtain ⟨h1, h2⟩ := arcs_at h hy hy2
  by_cases e : l = []
  · rw [h1 e]; exact .inl rfl
  · have := h2 e
    split at this
    · exact .inr this
    · exact .inl this
/-- The arcs of a view are apart. -/
theorem arcs_apart {l : List Pt} (h : GoodL l) {i k : Nat} {a b : Ow} (ha : (arcsL l)[i]? = some a) (hb : (arcsL l)[k]? = some b) (hik : i ≠ k) : apartB a.1 a.2.1 b.1 b.2.1 = true := by
  have oa := arcs_ok h a (List.mem_of_getElem? ha)
  have ob := arcs_ok h b (List.mem_of_getElem? hb)
  have key : ∀ {i k : Nat} {a b : Ow}, (arcsL l)[i]? = some a → (arcsL l)[k]? = some b → i ≠ k → OkA b.1 b.2.1 → inB a.1 a.2.1 b.1 = false := by
    intro i k a b ha hb hik ob
    cases hc : inB a.1 a.2.1 b.1
    · rfl
    · exfalso
      have hbb := inB_from ob
      rcases atL_le h ob.a0 ob.a1 with e | ⟨o, e, _⟩
      · unfold atL at e
        rw [List.filter_eq_nil_iff] at e
        exact e b (List.mem_of_getElem? hb) hbb
      · obtain ⟨m, _, _, hu⟩ := atL_uniq e
        exact hik ((hu i a ha hc).trans (hu k b hb hbb).symm)
  unfold apartB
  rw [key ha hb hik ob, key hb ha (Ne.symm hik) oa]
  rfl
theorem outL_all {D : List Pt} (h : ∀ p ∈ D, 0 ≤ p.2.1) : ∀ k, k ≤ D.length → (outL D k).length = k ∧ ∀ i p, i < k → D[i]? = some p → (outL D k)[i]? = some (p.1, nextOf D i, p.2.1, p.2.2)
  | 0, _ => ⟨rfl, fun i p hi => by omega⟩
  | k + 1, hk => by
    obtain ⟨h1, h2⟩ := outL_all h k (by omega)
    obtain ⟨q, hq⟩ : ∃ q, D[k]? = some q := ⟨_, List.getElem?_eq_getElem (by omega)⟩
    rw [outL_yes hq (h q (List.mem_of_getElem? hq))]
    refine ⟨by simp [h1], fun i p hi hp => ?_⟩
    rcases Nat.lt_or_ge i k with c | c
    · rw [List.getElem?_append_left (by omega)]; exact h2 i p c hp
    · obtain rfl : i = k := by omega
      rw [hq] at hp; cases hp
      rw [List.getElem?_append_right (by omega), h1, Nat.sub_self]; rfl
/-- Where all is known each arc ends where the one behind it begins, around the ring. -/
theorem arcs_round {l : List Pt} (h : GoodL l) (hne : l ≠ []) (hk : gapL l = false) :
    1 ≤ (arcsL l).length ∧ ∀ i o, (arcsL l)[i]? = some o → ∃ u, (arcsL l)[(i + 1) % (arcsL l).length]? = some u ∧ o.2.1 = u.1 := by
  obtain ⟨hg, hs, ha, hn⟩ := h.ded
  have hDne := hn hne
  have hall : ∀ p ∈ l.foldl Go.Proofs.Ythgajbfgolcpkaa.ded [], 0 ≤ p.2.1 := by
    intro p hp
    have h1 := hg.self hp
    rw [hs] at h1
    obtain ⟨q, hq, _, _, h2, _⟩ := h.at_ hne (hg.ge p hp)
    rw [← h1, h2]
    unfold gapL at hk
    rw [List.any_eq_false] at hk
    have := hk q hq
    simp at this
    exact this
  unfold arcsL
  generalize l.foldl Go.Proofs.Ythgajbfgolcpkaa.ded [] = D at hg ha hDne hall ⊢
  have hDl := List.length_pos_iff.2 hDne
  obtain ⟨o1, o2⟩ := outL_all hall D.length (Nat.le_refl _)
  have hget : ∀ i, i < D.length → ∃ p, D[i]? = some p ∧ (outL D D.length)[i]? = some (p.1, nextOf D i, p.2.1, p.2.2) := by
    intro i hi
    exact ⟨D[i], List.getElem?_eq_getElem hi, o2 i _ hi (List.getElem?_eq_getElem hi)⟩
  have hnx : ∀ i p, D[(i + 1) % D.length]? = some p → nextOf D i = p.1 := by
    intro i p hp
    unfold nextOf
    rw [hp]
  by_cases c : 1 < D.length ∧ ∃ p q, D[0]? = some p ∧ D[D.length - 1]? = some q ∧ 0 ≤ p.2.1 ∧ p.2 = q.2
  · obtain ⟨h1, p0, q0, hp0, hq0, hp1, he⟩ := c
    obtain ⟨M, r, hO, hM, hr0, hrq, hqt⟩ := merged hg ha hp0 hq0 h1 hp1 he
    have hml : M.length + 2 = D.length := by
      have := congrArg List.length hO
      simp at this; omega
    have hr : nextOf D 0 = r := by
      obtain ⟨p, hp, hp2⟩ := hget 0 hDl
      rw [hO] at hp2
      simp at hp2
      exact hp2.2.1.symm
    rw [hM]
    have hMi : ∀ i, i < M.length → ∃ p, D[i + 1]? = some p ∧ M[i]? = some (p.1, nextOf D (i + 1), p.2.1, p.2.2) := by
      intro i hi
      obtain ⟨p, hp, hp2⟩ := hget (i + 1) (by omega)
      refine ⟨p, hp, ?_⟩
      rw [hO, List.cons_append, List.getElem?_cons_succ, List.getElem?_append_left hi] at hp2
      exact hp2
    have hql : D[M.length + 1]? = some q0 := by rw [← hq0]; congr 1; omega
    refine ⟨by simp, fun i o ho => ?_⟩
    have hi := (List.getElem?_eq_some_iff.1 ho).1
    rw [List.length_append, List.length_singleton] at hi ⊢
    rcases Nat.lt_or_ge i M.length with d | d
    · obtain ⟨p, hp, hp2⟩ := hMi i d
      rw [List.getElem?_append_left d, hp2] at ho
      cases ho
      rw [Nat.mod_eq_of_lt (by omega)]
      rcases Nat.lt_or_ge (i + 1) M.length with f | f
      · obtain ⟨p', hp', hp2'⟩ := hMi (i + 1) f
        exact ⟨_, by rw [List.getElem?_append_left f]; exact hp2', hnx (i + 1) p' (by rw [Nat.mod_eq_of_lt (by omega)]; exact hp')⟩
      · have e : i + 1 = M.length := by omega
        refine ⟨(q0.1, r, q0.2.1, q0.2.2), by rw [e]; simp, hnx (i + 1) q0 ?_⟩
        rw [Nat.mod_eq_of_lt (by omega), e]
        exact hql
    · obtain rfl : i = M.length := by omega
      have e : (M ++ [(q0.1, r, q0.2.1, q0.2.2)])[M.length]? = some (q0.1, r, q0.2.1, q0.2.2) := by simp
      rw [e] at ho
      cases ho
      rw [Nat.mod_self]
      have h0 : 0 < M.length := by
        rcases Nat.eq_zero_or_pos M.length with z | z
        · exfalso
          have hD2 : D.length = 2 := by omega
          rw [hD2] at hq0
          exact ha 0 p0 q0 hp0 hq0 he
        · exact z
      obtain ⟨p, hp, hp2⟩ := hMi 0 h0
      refine ⟨_, by rw [List.getElem?_append_left h0]; exact hp2, ?_⟩
      show r = p.1
      rw [← hr]
      exact hnx 0 p (by rw [Nat.mod_eq_of_lt (by omega)]; exact hp)
  · rw [merge_not c]
    refine ⟨by omega, fun i o ho => ?_⟩
    have hi := (List.getElem?_eq_some_iff.1 ho).1
    obtain ⟨p, hp, hp2⟩ := hget i (by omega)
    rw [hp2] at ho
    cases ho
    obtain ⟨u, hu, hu2⟩ := hget ((i + 1) % D.length) (Nat.mod_lt _ hDl)
    exact ⟨_, by rw [o1]; exact hu2, hnx i u hu⟩
end Go.Proofs.Ythgajbfgolcpkaa
