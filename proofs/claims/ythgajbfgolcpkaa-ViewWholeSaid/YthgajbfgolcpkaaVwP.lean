import Derived.Test.YthgajbfgolcpkaaVw9
/- The plain law of views: what is known at a point. No program in sight. -/
namespace Go.Proofs.Ythgajbfgolcpkaa
open Go.RowKit
set_option linter.unusedVariables false
set_option linter.unusedSimpArgs false
/-- What is known at a point: node and epoch. -/
def semF (l : List Pt) (x : Int) : Int × Int := l.foldl (fun acc p => if p.1 ≤ x then p.2 else acc) (-1, 0)
/-- Parts begin at 0 and rise; they are of the numbers of the machine. -/
structure GoodL (l : List Pt) : Prop where
  zero : ∀ p, l[0]? = some p → p.1 = 0
  rise : l.Pairwise (fun p q => p.1 < q.1)
  top : ∀ p ∈ l, p.1 < 18446744073709551616
theorem GoodL.nil : GoodL [] := ⟨fun p h => by simp at h, List.Pairwise.nil, fun p h => by simp at h⟩
theorem GoodL.ge {l : List Pt} (h : GoodL l) : ∀ p ∈ l, 0 ≤ p.1 := by
  intro p hp
  cases l with
  | nil => cases hp
  | cons a l =>
    have h0 := h.zero a rfl
    rcases List.mem_cons.1 hp with rfl | hp
    · omega
    · have := (List.pairwise_cons.1 h.rise).1 p hp; omega
theorem semF_append (a b : List Pt) (x : Int) : semF (a ++ b) x = b.foldl (fun acc p => if p.1 ≤ x then p.2 else acc) (semF a x) := by simp [semF, List.foldl_append]
theorem fold_above {x : Int} : ∀ (b : List Pt) (s : Int × Int), (∀ p ∈ b, x < p.1) → b.foldl (fun acc p => if p.1 ≤ x then p.2 else acc) s = s
  | [], s, _ => rfl
  | p :: b, s, h => by
    have h1 : ¬ p.1 ≤ x := by have := h p (by simp); omega
    rw [List.foldl_cons, if_neg h1]
    exact fold_above b s fun q hq => h q (by simp [hq])
/-- Where a point lies in a list that rises. -/
theorem placeTo_split {l : List Pt} {x : Int} (hr : l.Pairwise (fun p q => p.1 < q.1)) : ∀ k, k ≤ l.length → (∃ p, l[0]? = some p ∧ p.1 ≤ x) → 0 < k → (∃ p, l[placeTo x l k]? = some p ∧ p.1 ≤ x) ∧ placeTo x l k < k ∧ ∀ i p, placeTo x l k < i → i < k → l[i]? = some p → x < p.1
  | 0, _, _, h => by omega
  | k + 1, hk, h0, _ => by
    obtain ⟨q, hq⟩ : ∃ q, l[k]? = some q := ⟨l[k], List.getElem?_eq_getElem (by omega)⟩
    rcases Int.lt_or_le x q.1 with c | c
    · rw [placeTo_no hq c]
      rcases Nat.eq_zero_or_pos k with e | e
      · subst e
        obtain ⟨p, hp, hpx⟩ := h0
        rw [hp] at hq; cases hq; omega
      · obtain ⟨h1, h2, h3⟩ := placeTo_split hr k (by omega) h0 e
        refine ⟨h1, by omega, fun i p hi hik hp => ?_⟩
        rcases Nat.lt_or_ge i k with d | d
        · exact h3 i p hi d hp
        · obtain rfl : i = k := by omega
          rw [hp] at hq; cases hq; exact c
    · rw [placeTo_yes hq c]
      exact ⟨⟨q, hq, c⟩, by omega, fun i p hi hik hp => by omega⟩
/-- A list that rises, parted at a point. -/
theorem parted {l : List Pt} {x : Int} (h : GoodL l) (hne : l ≠ []) (hx : 0 ≤ x) : ∃ A p B, l = A ++ p :: B ∧ placeTo x l l.length = A.length ∧ p.1 ≤ x ∧ ∀ q ∈ B, x < q.1 := by
  obtain ⟨a, ha⟩ : ∃ a, l[0]? = some a := by
    cases l with
    | nil => exact absurd rfl hne
    | cons a l => exact ⟨a, rfl⟩
  have hl : 0 < l.length := List.length_pos_iff.2 hne
  have ha0 := h.zero a ha
  have hax : a.1 ≤ x := by omega
  obtain ⟨⟨p, hp, hpx⟩, h2, h3⟩ := placeTo_split h.rise l.length (Nat.le_refl _) ⟨a, ha, hax⟩ hl
  generalize hk : placeTo x l l.length = k at hp h2 h3
  obtain ⟨hkl, hpe⟩ := List.getElem?_eq_some_iff.1 hp
  refine ⟨l.take k, p, l.drop (k + 1), ?_, ?_, hpx, ?_⟩
  · rw [← hpe]; simp
  · rw [List.length_take]; omega
  · intro q hq
    obtain ⟨i, hi⟩ := List.mem_iff_getElem?.1 hq
    rw [List.getElem?_drop] at hi
    exact h3 _ q (by omega) (List.getElem?_eq_some_iff.1 hi).1 hi
theorem GoodL.cut {l : List Pt} {x : Int} (h : GoodL l) (hne : l ≠ []) (hx : 0 ≤ x) (ht : x < 18446744073709551616) :
    GoodL (cutS l x) ∧ cutS l x ≠ [] ∧ (∀ y, semF (cutS l x) y = semF l y) ∧ (∃ p ∈ cutS l x, p.1 = x) ∧ ∀ p ∈ l, ∃ q ∈ cutS l x, q.1 = p.1 := by
  obtain ⟨A, p, B, rfl, hk, hpx, hB⟩ := parted h hne hx
  have hg : (A ++ p :: B)[A.length]? = some p := by simp
  have hcl : cutS (A ++ p :: B) x = if p.1 = x then A ++ p :: B else A ++ p :: (x, p.2.1, p.2.2) :: B := by
    unfold cutS
    rw [hk, hg]
    have e1 : (A ++ p :: B).take (A.length + 1) = A ++ [p] := by rw [List.take_length_add_append]; simp
    have e2 : (A ++ p :: B).drop (A.length + 1) = B := by rw [List.drop_length_add_append]; simp
    rw [e1, e2]
    simp
  by_cases e : p.1 = x
  · rw [hcl, if_pos e]
    exact ⟨h, hne, fun _ => rfl, ⟨p, by simp, e⟩, fun q hq => ⟨q, hq, rfl⟩⟩
  · rw [hcl, if_neg e]
    have hr := h.rise
    rw [List.pairwise_append] at hr
    obtain ⟨r1, r2, r3⟩ := hr
    obtain ⟨r4, r5⟩ := List.pairwise_cons.1 r2
    refine ⟨⟨?_, ?_, ?_⟩, by simp, fun y => ?_, ⟨(x, p.2.1, p.2.2), by simp, rfl⟩, fun q hq => ⟨q, by simp at hq ⊢; rcases hq with hq | hq | hq <;> simp [hq], rfl⟩⟩
    · intro q hq
      refine h.zero q ?_
      cases A <;> simpa using hq
    · rw [List.pairwise_append]
      refine ⟨r1, ?_, ?_⟩
      · rw [List.pairwise_cons, List.pairwise_cons]
        refine ⟨?_, ?_, r5⟩
        · intro q hq
          rcases List.mem_cons.1 hq with rfl | hq
          · show p.1 < x; omega
          · exact r4 q hq
        · exact hB
      · intro q hq s hs
        have hqp := r3 q hq p (by simp)
        rcases List.mem_cons.1 hs with rfl | hs
        · exact hqp
        · rcases List.mem_cons.1 hs with rfl | hs
          · show q.1 < x; omega
          · exact r3 q hq s (by simp [hs])
    · intro q hq
      rcases List.mem_append.1 hq with hq | hq
      · exact h.top q (by simp [hq])
      · rcases List.mem_cons.1 hq with rfl | hq
        · exact h.top q (by simp)
        · rcases List.mem_cons.1 hq with rfl | hq
          · exact ht
          · exact h.top q (by simp [hq])
    · rw [semF_append, semF_append]
      simp only [List.foldl_cons]
      by_cases c : x ≤ y
      · have c2 : p.1 ≤ y := by omega
        rw [if_pos c2, if_pos c]
      · rw [if_neg c]
theorem GoodL.start : GoodL [(0, -1, 0)] := ⟨fun p h => by cases h; rfl, List.pairwise_singleton _ _, fun p h => by simp at h; subst h; decide⟩
theorem GoodL.cutL {l : List Pt} {x : Int} (h : GoodL l) (hx : 0 ≤ x) (ht : x < 18446744073709551616) :
    GoodL (cutL l x) ∧ cutL l x ≠ [] ∧ (∀ y, 0 ≤ y → semF (cutL l x) y = semF l y) ∧ (∃ p ∈ cutL l x, p.1 = x) ∧ ∀ p ∈ l, ∃ q ∈ cutL l x, q.1 = p.1 := by
  unfold Go.Proofs.Ythgajbfgolcpkaa.cutL
  by_cases e : l = []
  · rw [if_pos e]
    obtain ⟨h1, h2, h3, h4, h5⟩ := GoodL.start.cut (x := x) (by simp) hx ht
    refine ⟨h1, h2, fun y hy => ?_, h4, fun p hp => by rw [e] at hp; cases hp⟩
    rw [h3, e]
    simp [semF, hy]
  · rw [if_neg e]
    obtain ⟨h1, h2, h3, h4, h5⟩ := h.cut e hx ht
    exact ⟨h1, h2, fun y _ => h3 y, h4, h5⟩
theorem semF_parted {A B : List Pt} {p : Pt} {y : Int} (hp : p.1 ≤ y) (hB : ∀ q ∈ B, y < q.1) : semF (A ++ p :: B) y = p.2 := by
  rw [semF_append, List.foldl_cons, if_pos hp, fold_above B _ hB]
/-- The part in which a point is. -/
theorem GoodL.at_ {l : List Pt} {y : Int} (h : GoodL l) (hne : l ≠ []) (hy : 0 ≤ y) : ∃ p ∈ l, p.1 ≤ y ∧ (∀ q ∈ l, q.1 ≤ y → q.1 ≤ p.1) ∧ semF l y = p.2 ∧ ∀ f : Pt → Pt, (∀ q, (f q).1 = q.1) → semF (l.map f) y = (f p).2 := by
  obtain ⟨A, p, B, rfl, _, hpx, hB⟩ := parted h hne hy
  refine ⟨p, by simp, hpx, fun q hq hqy => ?_, semF_parted hpx hB, fun f hf => ?_⟩
  · rcases List.mem_append.1 hq with hq | hq
    · have := (List.pairwise_append.1 h.rise).2.2 q hq p (by simp); omega
    · rcases List.mem_cons.1 hq with rfl | hq
      · exact Int.le_refl _
      · have := hB q hq; omega
  · rw [List.map_append, List.map_cons]
    refine semF_parted (by rw [hf]; exact hpx) fun q hq => ?_
    obtain ⟨r, hr, rfl⟩ := List.mem_map.1 hq
    rw [hf]; exact hB r hr
theorem GoodL.map {l : List Pt} (h : GoodL l) (f : Pt → Pt) (hf : ∀ q, (f q).1 = q.1) : GoodL (l.map f) := by
  refine ⟨fun p hp => ?_, ?_, fun p hp => ?_⟩
  · rw [List.getElem?_map] at hp
    cases hl : l[0]? with
    | none => rw [hl] at hp; cases hp
    | some q => rw [hl] at hp; cases hp; rw [hf]; exact h.zero q hl
  · rw [List.pairwise_map]
    exact h.rise.imp fun {a b} hab => by rw [hf, hf]; exact hab
  · obtain ⟨q, hq, rfl⟩ := List.mem_map.1 hp
    rw [hf]; exact h.top q hq
theorem learnP_fst (q : Int × Int) (n e : Int) (p : Pt) : (learnP q n e p).1 = p.1 := by unfold learnP; split <;> rfl
/-- A piece holds a point. -/
def inQ (q : Int × Int) (y : Int) : Bool := decide (q.1 ≤ y) && (decide (q.2 = 0) || decide (y < q.2))
/-- What is known suffices. -/
def kept (e : Int) (s : Int × Int) : Bool := decide (0 ≤ s.1) && decide (e ≤ s.2)
structure OkQ (q : Int × Int) : Prop where
  a : 0 ≤ q.1
  b : q.1 < 18446744073709551616
  c : 0 ≤ q.2
  d : q.2 < 18446744073709551616
theorem GoodL.cutQ {l : List Pt} {q : Int × Int} (h : GoodL l) (hq : OkQ q) :
    GoodL (cutQ l q) ∧ cutQ l q ≠ [] ∧ (∀ y, 0 ≤ y → semF (cutQ l q) y = semF l y) ∧ (∃ p ∈ cutQ l q, p.1 = q.1) ∧ (0 < q.2 → ∃ p ∈ cutQ l q, p.1 = q.2) := by
  obtain ⟨h1, h2, h3, ⟨p, hp, hpx⟩, h5⟩ := h.cutL hq.a hq.b
  unfold Go.Proofs.Ythgajbfgolcpkaa.cutQ
  by_cases c : 0 < q.2
  · rw [if_pos c]
    obtain ⟨g1, g2, g3, g4, g5⟩ := h1.cutL hq.c hq.d
    obtain ⟨r, hr, hrp⟩ := g5 p hp
    exact ⟨g1, g2, fun y hy => (g3 y hy).trans (h3 y hy), ⟨r, hr, by omega⟩, fun _ => g4⟩
  · rw [if_neg c]
    exact ⟨h1, h2, h3, ⟨p, hp, hpx⟩, fun e => absurd e c⟩
/-- A part at whose ends a piece begins or ends stays as its points say. -/
theorem stays_at {l : List Pt} {q : Int × Int} (hq : OkQ q) (e : Int) (hc : ∃ p ∈ l, p.1 = q.1) (hd : 0 < q.2 → ∃ p ∈ l, p.1 = q.2) {p : Pt} {y : Int} (hpy : p.1 ≤ y) (hm : ∀ r ∈ l, r.1 ≤ y → r.1 ≤ p.1) :
    stays q e p = (!inQ q y || kept e p.2) := by
  obtain ⟨r, hr, hr1⟩ := hc
  have k1 : decide (p.1 < q.1) = decide (y < q.1) := by
    by_cases c : y < q.1
    · have : p.1 < q.1 := by omega
      simp [c, this]
    · have := hm r hr (by omega)
      have h2 : ¬ p.1 < q.1 := by omega
      simp [c, h2]
  by_cases c : 0 < q.2
  · obtain ⟨s, hs, hs1⟩ := hd c
    have k2 : decide (q.2 ≤ p.1) = decide (q.2 ≤ y) := by
      by_cases d : q.2 ≤ y
      · have := hm s hs (by omega)
        have h2 : q.2 ≤ p.1 := by omega
        simp [d, h2]
      · have h2 : ¬ q.2 ≤ p.1 := by omega
        simp [d, h2]
    unfold stays inQ kept
    rw [k1, k2]
    by_cases d1 : y < q.1 <;> by_cases d2 : q.2 ≤ y <;> simp [d1, d2, c] <;> omega
  · have c0 : q.2 = 0 := by have := hq.c; omega
    unfold stays inQ kept
    rw [k1]
    by_cases d1 : y < q.1 <;> simp [d1, c0] <;> omega
theorem GoodL.uniq {l : List Pt} (h : GoodL l) {p q : Pt} (hp : p ∈ l) (hq : q ∈ l) (e : p.1 = q.1) : p = q := by
  obtain ⟨i, hi⟩ := List.mem_iff_getElem?.1 hp
  obtain ⟨j, hj⟩ := List.mem_iff_getElem?.1 hq
  obtain ⟨hil, rfl⟩ := List.getElem?_eq_some_iff.1 hi
  obtain ⟨hjl, rfl⟩ := List.getElem?_eq_some_iff.1 hj
  rcases Nat.lt_trichotomy i j with c | c | c
  · have := List.pairwise_iff_getElem.1 h.rise i j hil hjl c; omega
  · subst c; rfl
  · have := List.pairwise_iff_getElem.1 h.rise j i hjl hil c; omega
theorem GoodL.self {l : List Pt} (h : GoodL l) {p : Pt} (hp : p ∈ l) : semF l p.1 = p.2 := by
  obtain ⟨r, hr, h1, h2, h3, _⟩ := h.at_ (y := p.1) (fun e => by rw [e] at hp; cases hp) (h.ge p hp)
  have := h2 p hp (Int.le_refl _)
  rw [h3, h.uniq hp hr (by omega)]
/-- What is told counts where it is newer. -/
def newer (n e : Int) (b : Bool) (s : Int × Int) : Int × Int := if b = true ∧ kept e s = false then (n, e) else s
theorem good_learnQ {s : List Pt × Bool} {q : Int × Int} (h : GoodL s.1) (hq : OkQ q) (n e : Int) :
    GoodL (learnQ n e s q).1 ∧ (learnQ n e s q).1 ≠ [] ∧ (∀ y, 0 ≤ y → semF (learnQ n e s q).1 y = newer n e (inQ q y) (semF s.1 y)) ∧ ((∀ y, 0 ≤ y → y < 18446744073709551616 → inQ q y = true → kept e (semF s.1 y) = true) → (learnQ n e s q).2 = s.2) := by
  obtain ⟨h1, h2, h3, h4, h5⟩ := h.cutQ hq
  unfold Go.Proofs.Ythgajbfgolcpkaa.learnQ
  refine ⟨h1.map _ (learnP_fst q n e), by simpa using h2, fun y hy => ?_, fun hk => ?_⟩
  · obtain ⟨p, hp, hpy, hm, hs, hf⟩ := h1.at_ h2 hy
    have hst := stays_at hq e h4 h5 hpy hm
    dsimp only
    rw [hf _ (learnP_fst q n e), ← h3 y hy, hs]
    unfold learnP newer
    rw [hst]
    cases inQ q y <;> cases kept e p.2 <;> simp
  · have : (Go.Proofs.Ythgajbfgolcpkaa.cutQ s.1 q).any (fun p => !stays q e p) = false := by
      rw [List.any_eq_false]
      intro p hp
      have hy := h1.ge p hp
      have hst := stays_at hq e h4 h5 (p := p) (y := p.1) (Int.le_refl _) (fun r _ hr => hr)
      rw [hst]
      cases hin : inQ q p.1
      · simp
      · have := hk p.1 hy (h1.top p hp) hin
        rw [← h3 _ hy, h1.self hp] at this
        simp [this]
    dsimp only
    rw [this, Bool.or_false]
/-- An arc holds a point: by its pieces. -/
theorem pieces_in {a b y : Int} (ha : 0 ≤ a) (ha2 : a < 18446744073709551616) (hb : 0 ≤ b) (hb2 : b < 18446744073709551616) (hy : 0 ≤ y) (hy2 : y < 18446744073709551616) : (pieceL a b).any (fun q => inQ q y) = inB a b y := by
  unfold pieceL inB
  have w1 : IntKind.u64.wrap (y - a) = if a ≤ y then y - a else y - a + 18446744073709551616 := by
    rw [IntKind.wrap_u64]; split <;> omega
  have w2 : IntKind.u64.wrap (b - a) = if a ≤ b then b - a else b - a + 18446744073709551616 := by
    rw [IntKind.wrap_u64]; split <;> omega
  rw [w1, w2]
  by_cases h0 : b = 0
  · subst h0
    by_cases hz : a = 0
    · subst hz; simp [inQ]; omega
    · have e1 : ¬ a ≤ 0 := by omega
      by_cases c : a ≤ y <;> simp [inQ, e1, c, hz] <;> omega
  · by_cases h1 : a < b
    · have e1 : a ≤ b := by omega
      have e2 : ¬ a = b := by omega
      by_cases c : a ≤ y <;> simp [inQ, h0, h1, e1, e2, c] <;> omega
    · by_cases h2 : a = b
      · subst h2; simp [inQ, h0]; omega
      · have e1 : ¬ a ≤ b := by omega
        rw [if_neg h0, if_neg h1, if_neg h2, if_neg e1]
        have e3 : (a == b) = false := by simp [h2]
        by_cases c : a ≤ y
        · have e4 : y - a < b - a + 18446744073709551616 := by omega
          rw [if_pos c]
          simp [inQ, c, e4]
        · have e5 : decide (y - a + 18446744073709551616 < b - a + 18446744073709551616) = decide (y < b) := by
            by_cases d : y < b
            · have : y - a + 18446744073709551616 < b - a + 18446744073709551616 := by omega
              simp [d, this]
            · have : ¬ y - a + 18446744073709551616 < b - a + 18446744073709551616 := by omega
              simp [d, this]
          rw [if_neg c, e3, e5]
          have e6 : decide (a ≤ y) = false := by simp; omega
          have e7 : decide (0 ≤ y) = true := by simp [hy]
          have e8 : decide (b = 0) = false := by simp [h0]
          simp only [List.any_cons, List.any_nil, inQ, e6, e7, e8, Bool.true_and, Bool.false_or, Bool.false_and, Bool.or_false]
theorem newer_newer {n e : Int} (hn : 0 ≤ n) (b c : Bool) (s : Int × Int) : newer n e c (newer n e b s) = newer n e (b || c) s := by
  have hk : kept e (n, e) = true := by simp [kept, hn]
  unfold newer
  cases b <;> cases c <;> cases h : kept e s <;> simp [h, hk]
theorem newer_kept {n e : Int} {b : Bool} {s : Int × Int} (h : b = true → kept e s = true) : newer n e b s = s := by
  unfold newer
  cases b
  · simp
  · simp [h rfl]
theorem good_learnF {n e : Int} (hn : 0 ≤ n) : ∀ (qs : List (Int × Int)) (s : List Pt × Bool), GoodL s.1 → (∀ q ∈ qs, OkQ q) →
    GoodL (qs.foldl (learnQ n e) s).1 ∧ (qs ≠ [] → (qs.foldl (learnQ n e) s).1 ≠ []) ∧ (∀ y, 0 ≤ y → semF (qs.foldl (learnQ n e) s).1 y = newer n e (qs.any fun q => inQ q y) (semF s.1 y)) ∧ ((∀ y, 0 ≤ y → y < 18446744073709551616 → (qs.any fun q => inQ q y) = true → kept e (semF s.1 y) = true) → (qs.foldl (learnQ n e) s).2 = s.2)
  | [], s, h, _ => ⟨h, fun e => absurd rfl e, fun y _ => by simp [newer], fun _ => rfl⟩
  | q :: qs, s, h, hq => by
    obtain ⟨h1, h2, h3, h4⟩ := good_learnQ h (hq q (by simp)) n e
    obtain ⟨g1, g2, g3, g4⟩ := good_learnF hn qs (Go.Proofs.Ythgajbfgolcpkaa.learnQ n e s q) h1 fun r hr => hq r (by simp [hr])
    rw [List.foldl_cons]
    refine ⟨g1, fun _ => ?_, fun y hy => ?_, fun hk => ?_⟩
    · cases qs with
      | nil => exact h2
      | cons r qs => exact g2 (by simp)
    · rw [g3 y hy, h3 y hy, newer_newer hn, List.any_cons]
    · rw [g4 ?_, h4 ?_]
      · intro y hy hy2 hi
        exact hk y hy hy2 (by rw [List.any_cons, hi, Bool.true_or])
      · intro y hy hy2 hi
        have hky := hk y hy hy2 (by rw [List.any_cons, hi, Bool.or_true])
        rw [h3 y hy, newer_kept fun _ => hky]
        exact hky
structure OkA (a b : Int) : Prop where
  a0 : 0 ≤ a
  a1 : a < 18446744073709551616
  b0 : 0 ≤ b
  b1 : b < 18446744073709551616
theorem pieceL_ok {a b : Int} (h : OkA a b) : ∀ q ∈ pieceL a b, OkQ q := by
  obtain ⟨a0, a1, b0, b1⟩ := h
  intro q hq
  unfold pieceL at hq
  split at hq
  · simp at hq; subst hq; exact ⟨a0, a1, b0, b1⟩
  · split at hq
    · simp at hq; subst hq; exact ⟨a0, a1, b0, b1⟩
    · split at hq
      · simp at hq; subst hq; exact ⟨by decide, by decide, by decide, by decide⟩
      · simp at hq; rcases hq with rfl | rfl
        · exact ⟨Int.le_refl _, by show (0 : Int) < _; omega, b0, b1⟩
        · exact ⟨a0, a1, Int.le_refl _, by show (0 : Int) < _; omega⟩
theorem pieceL_ne (a b : Int) : pieceL a b ≠ [] := by unfold pieceL; repeat (first | split | simp)
/-- What is told is told of a node, at an epoch. -/
def valid (o : Ow) : Bool := decide (0 ≤ o.2.2.2) && decide (0 ≤ o.2.2.1) && decide (o.2.2.1 ≤ 255)
theorem good_learn {l : List Pt} (h : GoodL l) {o : Ow} (ho : OkA o.1 o.2.1) :
    GoodL (learnAll l o).1 ∧ (valid o = true → (learnAll l o).1 ≠ []) ∧ (∀ y, 0 ≤ y → y < 18446744073709551616 → semF (learnAll l o).1 y = newer o.2.2.1 o.2.2.2 (valid o && inB o.1 o.2.1 y) (semF l y)) ∧ ((∀ y, 0 ≤ y → y < 18446744073709551616 → inB o.1 o.2.1 y = true → kept o.2.2.2 (semF l y) = true) → (learnAll l o).2 = false) := by
  unfold learnAll
  by_cases hv : o.2.2.2 < 0 ∨ o.2.2.1 < 0 ∨ 255 < o.2.2.1
  · have hvl : valid o = false := by unfold valid; rcases hv with hv | hv | hv <;> simp <;> omega
    rw [if_pos hv, hvl]
    exact ⟨h, fun e => by simp at e, fun y _ _ => by simp [newer], fun _ => rfl⟩
  · have hvl : valid o = true := by unfold valid; simp; omega
    rw [if_neg hv, hvl]
    obtain ⟨g1, g2, g3, g4⟩ := good_learnF (n := o.2.2.1) (e := o.2.2.2) (by omega) (pieceL o.1 o.2.1) (l, false) h (pieceL_ok ho)
    refine ⟨g1, fun _ => g2 (pieceL_ne _ _), fun y hy hy2 => ?_, fun hk => g4 fun y hy hy2 hi => ?_⟩
    · rw [g3 y hy, pieces_in ho.a0 ho.a1 ho.b0 ho.b1 hy hy2, Bool.true_and]
    · exact hk y hy hy2 (by rw [← pieces_in ho.a0 ho.a1 ho.b0 ho.b1 hy hy2]; exact hi)
end Go.Proofs.Ythgajbfgolcpkaa
