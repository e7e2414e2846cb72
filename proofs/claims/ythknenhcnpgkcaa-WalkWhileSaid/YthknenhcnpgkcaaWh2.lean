/- WalkWhile's function: what it does at each item. -/
import Derived.Test.YthknenhcnpgkcaaWh1
import Derived.Test.YthknenhcnpgkcaaWkNsW
import Derived.Deep.RegionHeld3
namespace Go.Proofs.Ythknenhcnpgkcaa
open Go.RowKit Go.Shelf
set_option linter.unusedVariables false
set_option linter.unusedSimpArgs false
theorem below_put_alloc (X : World) (b : Nat) (o o' : Obj) (hb : b < X.heap.size) : Below (put X b o).heap.size (put X b o) (put (X.alloc o') b o) := by
  refine ⟨rfl, rfl, rfl, by rw [size_put, size_put, World.size_alloc]; omega, fun k hk => ?_⟩
  rw [size_put] at hk
  by_cases e : k = b
  · subst e
    rw [heap_put_at _ _ _ (by rw [World.size_alloc]; omega), heap_put_at _ _ _ hb]
  · rw [heap_put_other _ _ _ _ e, heap_put_other _ _ _ _ e]
    exact heap_alloc_other _ _ _ hk
/-- What holds where i items have been told: G are blocks that nobody changes, S is the row that is gone through. -/
structure WSt (w V : World) (xs : List It) (gs Bn Bout : Nat) (G S : Nat → Prop) (i : Nat) (X : World) : Prop where
  fix : ∀ k, G k → X.heap[k]? = V.heap[k]?
  num : X.heap[Bn]? = some (.cells #[.int .i64 i] 3)
  notS : ¬ S Bn ∧ ¬ S Bout
  out : ∃ oa oc ys, X.heap[Bout]? = some (.cells #[.slice oa i oc] 28) ∧ Row X 34 2 (.slice oa i oc) i (flat (xs.take i)) ∧ (∀ k, blk (.slice oa i oc) k ≠ 0 → ¬ G k ∧ ¬ S k ∧ k ≠ Bn ∧ k ≠ Bout ∧ w.heap.size ≤ k) ∧
    Held w X (fun k => G k ∨ S k ∨ k = Bn ∨ k = Bout ∨ blk (.slice oa i oc) k ≠ 0) ys gs
theorem WSt.on {w V : World} {xs : List It} {gs Bn Bout : Nat} {G S : Nat → Prop} {i : Nat} {X Y : World} (h : WSt w V xs gs Bn Bout G S i X) (hb : Below X.heap.size X Y) : WSt w V xs gs Bn Bout G S i Y := by
  obtain ⟨h1, h2, hs, oa, oc, ys, h3, h4, h5, h6⟩ := h
  refine ⟨fun k hk => ?_, (hb.block _ (lt_of_heap h2)).trans h2, hs, oa, oc, ys, (hb.block _ (lt_of_heap h3)).trans h3, h4.keep fun k hk => hb.block k (h4.lt hk), h5, h6.on hb⟩
  obtain ⟨_, _, _, c, top, _, q, _⟩ := h6
  exact (hb.block k (q k (.inl hk)).2).trans (h1 k hk)
/-- The shelf has changed, and nothing else. -/
theorem WSt.shelf {w V : World} {xs : List It} {gs Bn Bout : Nat} {G S : Nat → Prop} {i : Nat} {X Y : World} {oa : Option Addr} {oc : Nat} {ys' : List It} (h1 : ∀ k, G k → X.heap[k]? = V.heap[k]?) (h2 : X.heap[Bn]? = some (.cells #[.int .i64 i] 3)) (hs : ¬ S Bn ∧ ¬ S Bout)
    (h3 : X.heap[Bout]? = some (.cells #[.slice oa i oc] 28)) (h4 : Row X 34 2 (.slice oa i oc) i (flat (xs.take i))) (h5 : ∀ k, blk (.slice oa i oc) k ≠ 0 → ¬ G k ∧ ¬ S k ∧ k ≠ Bn ∧ k ≠ Bout ∧ w.heap.size ≤ k)
    (h6 : Held w Y (fun k => G k ∨ S k ∨ k = Bn ∨ k = Bout ∨ blk (.slice oa i oc) k ≠ 0) ys' gs) (h7 : ∀ k, (G k ∨ S k ∨ k = Bn ∨ k = Bout ∨ blk (.slice oa i oc) k ≠ 0) → Y.heap[k]? = X.heap[k]?) : WSt w V xs gs Bn Bout G S i Y :=
  ⟨fun k hk => (h7 k (.inl hk)).trans (h1 k hk), (h7 _ (.inr (.inr (.inl rfl)))).trans h2, hs, oa, oc, ys', (h7 _ (.inr (.inr (.inr (.inl rfl))))).trans h3, h4.keep fun k hk => h7 k (.inr (.inr (.inr (.inr hk)))), h5, h6⟩
theorem WSt.next {w V : World} {xs : List It} {gs Bn Bout : Nat} {G S : Nat → Prop} {i : Nat} {X W4 : World} {oa a4 : Option Addr} {oc c4 : Nat} {ys : List It} {x : It} (hb1 : w.heap.size ≤ Bn) (hb2 : w.heap.size ≤ Bout) (hne : Bn ≠ Bout) (hg1 : ¬ G Bn) (hg2 : ¬ G Bout) (h1 : ∀ k, G k → X.heap[k]? = V.heap[k]?) (h2 : X.heap[Bn]? = some (.cells #[.int .i64 i] 3)) (hs : ¬ S Bn ∧ ¬ S Bout)
    (h3 : X.heap[Bout]? = some (.cells #[.slice oa i oc] 28)) (h4 : Row X 34 2 (.slice oa i oc) i (flat (xs.take i))) (h5 : ∀ k, blk (.slice oa i oc) k ≠ 0 → ¬ G k ∧ ¬ S k ∧ k ≠ Bn ∧ k ≠ Bout ∧ w.heap.size ≤ k)
    (h6 : Held w X (fun k => G k ∨ S k ∨ k = Bn ∨ k = Bout ∨ blk (.slice oa i oc) k ≠ 0) ys gs) (hx : xs[i]? = some x)
    (hr4 : Row W4 34 2 (.slice a4 (i + 1) c4) (i + 1) (flat (xs.take i ++ [x]))) (hc4 : Chg (fun k => blk (.slice oa i oc) k ≠ 0) (put X Bn (.cells #[.int .i64 (i + 1 : Nat)] 3)) W4) (hb4 : ∀ k, k < (put X Bn (.cells #[.int .i64 (i + 1 : Nat)] 3)).heap.size → blk (.slice a4 (i + 1) c4) k ≤ blk (.slice oa i oc) k) :
    WSt w V xs gs Bn Bout G S (i + 1) (put W4 Bout (.cells #[.slice a4 (i + 1) c4] 28)) ∧ ∀ r, S r → r < X.heap.size → (put W4 Bout (.cells #[.slice a4 (i + 1) c4] 28)).heap[r]? = X.heap[r]? := by
  have hl1 := lt_of_heap h2
  have hl2 := lt_of_heap h3
  have hc : Chg (fun k => k = Bn ∨ blk (.slice oa i oc) k ≠ 0 ∨ k = Bout) X (put W4 Bout (.cells #[.slice a4 (i + 1) c4] 28)) := by
    refine Chg.put (g := Bout) ?_ (fun _ => .inr (.inr rfl)) _
    exact (Chg.put (g := Bn) (Chg.refl _ X) (fun _ => .inl rfl) _).trans hc4 fun k _ h => .inr (.inl h)
  have hl4 : X.heap.size ≤ W4.heap.size := by have := hc4.size; rwa [size_put] at this
  have hst : ∀ k, k < X.heap.size → ¬ (k = Bn ∨ blk (.slice oa i oc) k ≠ 0 ∨ k = Bout) → (put W4 Bout (.cells #[.slice a4 (i + 1) c4] 28)).heap[k]? = X.heap[k]? := fun k hk hn => hc.block k hk hn
  have hG : ∀ k, G k → ¬ (k = Bn ∨ blk (.slice oa i oc) k ≠ 0 ∨ k = Bout) := fun k hk h => by
    rcases h with rfl | h | rfl
    · exact hg1 hk
    · exact (h5 k h).1 hk
    · exact hg2 hk
  have hS : ∀ k, S k → ¬ (k = Bn ∨ blk (.slice oa i oc) k ≠ 0 ∨ k = Bout) := fun k hk h => by
    rcases h with rfl | h | rfl
    · exact hs.1 hk
    · exact (h5 k h).2.1 hk
    · exact hs.2 hk
  have hF : ∀ k, (G k ∨ S k ∨ k = Bn ∨ k = Bout ∨ blk (.slice oa i oc) k ≠ 0) → k < X.heap.size := fun k hk => by
    obtain ⟨_, _, _, c, top, _, q, _⟩ := h6
    exact (q k hk).2
  have hold : ∀ k, blk (.slice a4 (i + 1) c4) k ≠ 0 → k < X.heap.size → blk (.slice oa i oc) k ≠ 0 := fun k hk hl => by
    have := hb4 k (by rw [size_put]; exact hl)
    omega
  have hn4 : W4.heap[Bn]? = some (.cells #[.int .i64 (i + 1 : Nat)] 3) := (hc4.block Bn (by rw [size_put]; exact hl1) (fun h => (h5 Bn h).2.2.1 rfl)).trans (heap_put_at _ _ _ hl1)
  refine ⟨⟨fun k hk => (hst k (hF k (.inl hk)) (hG k hk)).trans (h1 k hk), (heap_put_other _ _ _ _ hne).trans hn4, hs, a4, c4, ys, heap_put_at _ _ _ (by omega), ?_, fun k hk => ?_, h6.turn (hc.mono fun k hk h => ?_) fun k hk => ?_⟩, fun r hr hl => hst r hl (hS r hr)⟩
  · have e : xs.take i ++ [x] = xs.take (i + 1) := by
      obtain ⟨hl, rfl⟩ := List.getElem?_eq_some_iff.1 hx
      exact (List.take_succ_eq_append_getElem hl).symm
    rw [← e]
    refine hr4.keep fun k hk => heap_put_other _ _ _ _ fun e => ?_
    have hk2 : k = Bout := by first | exact e | exact e.symm
    exact (h5 k (hold k hk (by rw [hk2]; exact hl2))).2.2.2.1 hk2
  · rcases Nat.lt_or_ge k X.heap.size with e | e
    · exact h5 k (hold k hk e)
    · refine ⟨fun h => ?_, fun h => ?_, by omega, by omega, ?_⟩
      · have := hF k (.inl h); omega
      · have := hF k (.inr (.inl h)); omega
      · have := h6.2.1; omega
  · refine ⟨?_, ?_⟩
    · rcases h with h | h | h
      · exact .inr (.inr (.inl h))
      · exact .inr (.inr (.inr (.inr h)))
      · exact .inr (.inr (.inr (.inl h)))
    · rcases h with h | h | h
      · omega
      · exact (h5 k h).2.2.2.2
      · omega
  · rw [size_put]
    rcases hk with hk | hk | hk | hk | hk
    · exact ⟨Nat.lt_of_lt_of_le (hF k (.inl hk)) hl4, fun _ => .inl hk⟩
    · exact ⟨Nat.lt_of_lt_of_le (hF k (.inr (.inl hk))) hl4, fun _ => .inr (.inl hk)⟩
    · exact ⟨by omega, fun _ => .inr (.inr (.inl hk))⟩
    · exact ⟨by omega, fun _ => .inr (.inr (.inr (.inl hk)))⟩
    · exact ⟨hr4.lt hk, fun h => .inr (.inr (.inr (.inr (hold k hk h))))⟩
set_option maxRecDepth 100000 in
set_option maxHeartbeats 4000000 in
theorem while1_is (w V : World) (xs : List It) (m gs gr Bn Bout Bat Bs Bmore Br : Nat) (v : Value) (at_ : Int) (more : ByteArray) (G S : Nat → Prop) (hm : xs.length = m) (hle : m ≤ 60) (hsm : ∀ x ∈ xs, x.1.size ≤ maxLen) (hb1 : w.heap.size ≤ Bn) (hb2 : w.heap.size ≤ Bout) (hne : Bn ≠ Bout) (hg1 : ¬ G Bn) (hg2 : ¬ G Bout)
    (g1 : G Bat) (g2 : G Bs) (g3 : G Bmore) (g4 : G Br) (g5 : G gr) (g6 : ∀ k, blk v k ≠ 0 → G k) (v1 : V.heap[Bat]? = some (.cells #[.int .i64 at_] 3)) (v2 : V.heap[Bs]? = some (.cells #[.pointer (some ⟨gs, 0, none⟩)] 23)) (v3 : V.heap[Bmore]? = some (.cells #[.string more] 9)) (v4 : V.heap[Br]? = some (.cells #[.pointer (some ⟨gr, 0, none⟩)] 39))
    (v5 : V.heap[gr]? = some (refObj 200 v)) (v6 : Row V 34 2 v m (flat xs)) (i : Nat) (x : It) (hx : xs[i]? = some x) (X : World) (h : WSt w V xs gs Bn Bout G S i X) :
    Calls Try.prog 59 #[.string x.1, .string x.2, .pointer (some ⟨Bn, 0, none⟩), .pointer (some ⟨Bat, 0, none⟩), .pointer (some ⟨Bs, 0, none⟩), .pointer (some ⟨Bmore, 0, none⟩), .pointer (some ⟨Br, 0, none⟩), .pointer (some ⟨Bout, 0, none⟩)] X
      fun e X' => e = .returned (.bool true) ∧ WSt w V xs gs Bn Bout G S (i + 1) X' ∧ ∀ r, S r → r < X.heap.size → X'.heap[r]? = X.heap[r]? := by
  have him : i < m := by rw [← hm]; exact (List.getElem?_eq_some_iff.1 hx).1
  have HV := hid (fun (Y : World) (hY : ∀ k, G k → Y.heap[k]? = V.heap[k]?) => show Y.heap[Bat]? = some (.cells #[.int .i64 at_] 3) ∧ Y.heap[Bs]? = some (.cells #[.pointer (some ⟨gs, 0, none⟩)] 23) ∧ Y.heap[Bmore]? = some (.cells #[.string more] 9) ∧ Y.heap[Br]? = some (.cells #[.pointer (some ⟨gr, 0, none⟩)] 39) ∧ Y.heap[gr]? = some (refObj 200 v) ∧ Row Y 34 2 v m (flat xs) from
    ⟨(hY _ g1).trans v1, (hY _ g2).trans v2, (hY _ g3).trans v3, (hY _ g4).trans v4, (hY _ g5).trans v5, v6.keep fun k hk => hY k (g6 k hk)⟩)
  have HNX := hid (fun (X W4 : World) oa a4 oc c4 ys => WSt.next (w := w) (V := V) (xs := xs) (gs := gs) (S := S) (i := i) (X := X) (W4 := W4) (oa := oa) (a4 := a4) (oc := oc) (c4 := c4) (ys := ys) (x := x) hb1 hb2 hne hg1 hg2)
  have HX := hid hx
  have HSM := hid hsm
  have HM := hid hm
  obtain ⟨va, vc, rfl⟩ := owns_slice v6
  obtain ⟨q1, q2, q3, q4, q5, q6⟩ := HV.out X h.fix
  have h2 := h.num
  have e1 := fun i => cell_of_row X Bat i _ _ (0, 0) q1
  have e2 := fun i => cell_of_row X Bs i _ _ (0, 0) q2
  have e3 := fun i => cell_of_row X Bmore i _ _ (0, 0) q3
  have e6 := fun i => cell_of_row X Bn i _ _ (0, 0) h2
  have l1 := lt_of_heap q1
  have l2 := lt_of_heap q2
  have l3 := lt_of_heap q3
  have l6 := lt_of_heap h2
  have H := hid h
  have ew : IntKind.i64.wrap ((i : Int) + 1) = (i : Int) + 1 := IntWalk.i64_in _ (by omega)
  have d5 : decide ((i : Int) + 1 < 500) = true := by simp; omega
  have hab : ((⟨Bout, 0, none⟩ : Addr) = ⟨Bn, 0, none⟩) = False := by simp only [Addr.mk.injEq, eq_iff_iff, iff_false]; omega
  have hab2 : ((⟨Bn, 0, none⟩ : Addr) = ⟨Bout, 0, none⟩) = False := by simp only [Addr.mk.injEq, eq_iff_iff, iff_false]; omega
  clear h h2 q1 q2 q3 q4 q5 q6 v1 v2 v3 v4 v5 v6 g6 hx hsm hm
  go_enter Try.func59, Try.ntmps59
  by_cases c : (i : Int) = at_
  · have hc : ((i : Int) == at_) = true := by simp [c]
    have c' := c
    subst c
    go_wp2_with fail
    obtain ⟨h1, h2, hs, oa, oc, ys, h3, h4, h5, h6⟩ := H.out
    go_at_call 26
    refine (held_put h6 more ⟨#[110, 101, 119]⟩).mono ?_
    rintro _ X2 ⟨rfl, hh2, hk2⟩
    have HS2 := hid (show ∀ r, S r → r < X2.heap.size ∧ X2.heap[r]? = X.heap[r]? from fun r hr => ⟨(by obtain ⟨_, _, _, c, top, _, q, _⟩ := hh2; exact (q r (.inr (.inl hr))).2), hk2 r (.inr (.inl hr))⟩)
    have H2 := hid (WSt.shelf h1 h2 hs h3 h4 h5 hh2 hk2)
    obtain ⟨q1, q2, q3, q4, q5, q6⟩ := HV.out X2 H2.out.fix
    clear h1 h2 hs h3 h4 h5 h6 hh2 hk2 e1 e2 e3 e6 l1 l2 l3 l6 H
    obtain ⟨p, rfl⟩ : ∃ p, m = p + 1 := ⟨m - 1, by omega⟩
    obtain ⟨y, hy⟩ : ∃ y, xs[p]? = some y := ⟨xs[p]'(by rw [HM.out]; omega), List.getElem?_eq_getElem _⟩
    obtain ⟨rb, rfl, c1, c2, lr⟩ := item_cell q6 hy HM.out
    have HY := hid (HSM.out y (List.mem_of_getElem? hy))
    have e2 := fun i => cell_of_row X2 Bs i _ _ (0, 0) q2
    have e4 := fun i => cell_of_row X2 Br i _ _ (0, 0) q4
    have e5 := fun i => cell_of_row X2 gr i _ _ (0, 0) q5
    have l2 := lt_of_heap q2
    have l4 := lt_of_heap q4
    have l5 := lt_of_heap q5
    have d0 : decide ((0 : Int) < (p : Int) + 1) = true := decide_eq_true (by omega)
    have d0n : (0 : Int) < (p : Int) + 1 := by omega
    have e9 : IntKind.i64.wrap ((p : Int) + 1 - 1) = (p : Int) := by rw [show (p : Int) + 1 - 1 = (p : Int) by omega]; exact IntWalk.i64_in _ (by omega)
    have e10 : IntKind.i64.wrap (p : Int) = (p : Int) := IntWalk.i64_in _ (by omega)
    have hpI : (p : Int) < (p : Int) + 1 := by omega
    have HYY := hid hy
    clear hy q1 q2 q3 q4 q5 q6 c2
    go_wp2_with fail
    have HCELL := hid (fun (Y : World) (hY : ∀ k, G k → Y.heap[k]? = V.heap[k]?) => show Y.cell? ⟨Bs, 0, none⟩ = some (.pointer (some ⟨gs, 0, none⟩)) ∧ Y.cell? ⟨Br, 0, none⟩ = some (.pointer (some ⟨gr, 0, none⟩)) ∧ Y.cell? ⟨gr, 1, none⟩ = some (.slice (some ⟨rb, 0, none⟩) (p + 1) vc) ∧ Y.cell? ⟨rb, p * 2, none⟩ = some (.string y.1) from by
      obtain ⟨q1, q2, q3, q4, q5, q6⟩ := HV.out Y hY
      obtain ⟨rb', hrb', d1, d2, dr⟩ := item_cell q6 HYY.out HM.out
      obtain rfl : rb' = rb := by injection hrb' with h; injection h with h; exact h.symm
      exact ⟨cell_of_row Y Bs 0 _ _ (0, 0) q2, cell_of_row Y Br 0 _ _ (0, 0) q4, cell_of_row Y gr 1 _ _ (0, 0) q5, d1⟩)
    obtain ⟨s1, s2, s3, s4⟩ := HCELL.out X2 H2.out.fix
    have HD := hid (H2.out.on ((Below.refl _ X2).drew))
    clear H2 e2 e4 e5 c1
    go_region_held3 (fun w' => w'.cell? ⟨Bs, 0, none⟩ = some (.pointer (some ⟨gs, 0, none⟩)) ∧ w'.cell? ⟨Br, 0, none⟩ = some (.pointer (some ⟨gr, 0, none⟩)) ∧ w'.cell? ⟨gr, 1, none⟩ = some (.slice (some ⟨rb, 0, none⟩) (p + 1) vc) ∧ w'.cell? ⟨rb, p * 2, none⟩ = some (.string y.1)) (go_keep) (first | (go_at_call 51; obtain ⟨h1, h2, hs, oa, oc, ys, h3, h4, h5, h6⟩ := HD.out; refine (held_del h6 y.1 HY.out).mono ?_; rintro _ X3 ⟨rfl, hh3, hk3⟩; have HS3 := hid (show ∀ r, S r → r < X3.heap.size ∧ X3.heap[r]? = X2.heap[r]? from fun r hr => ⟨(by obtain ⟨_, _, _, c, top, _, q, _⟩ := hh3; exact (q r (.inr (.inl hr))).2), hk3 r (.inr (.inl hr))⟩); have H3 := hid (WSt.shelf h1 h2 hs h3 h4 h5 hh3 hk3); clear h1 h2 hs h3 h4 h5 h6 hh3 hk3; obtain ⟨s1, s2, s3, s4⟩ := HCELL.out X3 H3.out.fix))
    obtain ⟨h1, h2, hs, oa, oc, ys, h3, h4, h5, h6⟩ := H3.out
    have e7 := fun i => cell_of_row X3 Bout i _ _ (0, 0) h3
    have l7 := lt_of_heap h3
    have l6b := lt_of_heap h2
    have hr3 : Row (put X3 Bn (.cells #[.int .i64 ((i : Int) + 1)] 3)) 34 2 (.slice oa i oc) i (flat (xs.take i)) := h4.keep fun k hk => heap_put_other _ _ _ _ fun e => (h5 k hk).2.2.1 (by first | exact e | exact e.symm)
    have h3' : (put X3 Bn (.cells #[.int .i64 ((i : Int) + 1)] 3)).heap[Bout]? = some (.cells #[.slice oa i oc] 28) := (heap_put_other _ _ _ _ hne.symm).trans h3
    have HR3 := hid hr3
    have hbo : ¬ blk (.slice oa i oc) Bout ≠ 0 := fun h => (h5 Bout h).2.2.2.1 rfl
    rw [← put_self h2]
    have HA := hid (And.intro h1 (And.intro h2 (And.intro hs (And.intro h3 (And.intro h4 (And.intro h5 h6))))))
    clear hr3 h1 h4 h5 h6
    go_wp2_with (first | (at_builtin; refine wpList_append_ex (by rfl) _ _ _ (by rfl) _ _ (by rfl) (by rfl) (append_one (x := x) HR3.out (below_put_alloc _ _ _ _ (lt_of_heap h2)) (by omega) (by repeat' (first | rfl | assumption | (with_reducible refine (heap_drew_eq _ _).trans ?_) | (refine (Fut.heap _ _ ?_).trans ?_ ; focus (first | assumption | omega | (simp [go_sem]; done) | (simp [go_sem]; omega))) | (refine (heap_put_at _ _ _ ?_).trans ?_ ; focus (first | assumption | omega | (simp [go_sem]; done) | (simp [go_sem]; omega))) | (refine (heap_put_other _ _ _ _ ?_).trans ?_ ; focus (first | assumption | omega | (simp [go_sem]; done) | (simp [go_sem]; omega))) | (refine (heap_alloc_other _ _ _ ?_).trans ?_ ; focus (first | assumption | omega | (simp [go_sem]; done) | (simp [go_sem]; omega))) | (refine (heap_alloc_at _ _ _ ?_).trans ?_ ; focus (first | assumption | omega | (simp [go_sem]; done) | (simp [go_sem]; omega))) | (simp [go_sem]; done) | (simp [go_sem]; omega)))) ?_; rintro v4 w4 ⟨⟨a4, c4, rfl⟩, hr4, hc4, hb4⟩; have hp4 := (hc4.block Bout (by rw [size_put]; exact l7) hbo).trans h3'; have hl4 := lt_of_heap hp4; have hpn := (hc4.block Bn (by rw [size_put]; exact lt_of_heap h2) (fun h => (HA.out.2.2.2.2.2.1 Bn h).2.2.1 rfl)).trans (heap_put_at _ _ _ (lt_of_heap h2)); have hln := lt_of_heap hpn; have HR4 := hid hr4; have HC4 := hid hc4; have HB4 := hid hb4; have en := fun i => cell_of_row w4 Bn i _ _ (0, 0) hpn; clear hr4 hc4 hb4; rw [← put_self hp4]))
    go_ret
    obtain ⟨h1, h2, hs, h3, h4, h5, h6⟩ := HA.out
    obtain ⟨n1, n2⟩ := HNX.out X3 w4 oa a4 oc c4 ys h1 h2 hs h3 h4 h5 h6 HX.out HR4.out HC4.out HB4.out
    exact ⟨rfl, n1, fun r hr hl => (n2 r hr (HS3.out r hr).1).trans ((HS3.out r hr).2.trans (HS2.out r hr).2)⟩
  · have hc : ((i : Int) == at_) = false := by simp [c]
    go_upto_region 5 with fail
    obtain ⟨h1, h2, hs, oa, oc, ys, h3, h4, h5, h6⟩ := H.out
    have e7 := fun i => cell_of_row X Bout i _ _ (0, 0) h3
    have l7 := lt_of_heap h3
    have l6b := lt_of_heap h2
    have hr3 : Row (put X Bn (.cells #[.int .i64 ((i : Int) + 1)] 3)) 34 2 (.slice oa i oc) i (flat (xs.take i)) := h4.keep fun k hk => heap_put_other _ _ _ _ fun e => (h5 k hk).2.2.1 (by first | exact e | exact e.symm)
    have h3' : (put X Bn (.cells #[.int .i64 ((i : Int) + 1)] 3)).heap[Bout]? = some (.cells #[.slice oa i oc] 28) := (heap_put_other _ _ _ _ hne.symm).trans h3
    have HR3 := hid hr3
    have hbo : ¬ blk (.slice oa i oc) Bout ≠ 0 := fun h => (h5 Bout h).2.2.2.1 rfl
    rw [← put_self h2]
    have HA := hid (And.intro h1 (And.intro h2 (And.intro hs (And.intro h3 (And.intro h4 (And.intro h5 h6))))))
    clear hr3 h1 h4 h5 h6
    go_wp2_with (first | (at_builtin; refine wpList_append_ex (by rfl) _ _ _ (by rfl) _ _ (by rfl) (by rfl) (append_one (x := x) HR3.out (below_put_alloc _ _ _ _ (lt_of_heap h2)) (by omega) (by repeat' (first | rfl | assumption | (with_reducible refine (heap_drew_eq _ _).trans ?_) | (refine (Fut.heap _ _ ?_).trans ?_ ; focus (first | assumption | omega | (simp [go_sem]; done) | (simp [go_sem]; omega))) | (refine (heap_put_at _ _ _ ?_).trans ?_ ; focus (first | assumption | omega | (simp [go_sem]; done) | (simp [go_sem]; omega))) | (refine (heap_put_other _ _ _ _ ?_).trans ?_ ; focus (first | assumption | omega | (simp [go_sem]; done) | (simp [go_sem]; omega))) | (refine (heap_alloc_other _ _ _ ?_).trans ?_ ; focus (first | assumption | omega | (simp [go_sem]; done) | (simp [go_sem]; omega))) | (refine (heap_alloc_at _ _ _ ?_).trans ?_ ; focus (first | assumption | omega | (simp [go_sem]; done) | (simp [go_sem]; omega))) | (simp [go_sem]; done) | (simp [go_sem]; omega)))) ?_; rintro v4 w4 ⟨⟨a4, c4, rfl⟩, hr4, hc4, hb4⟩; have hp4 := (hc4.block Bout (by rw [size_put]; exact l7) hbo).trans h3'; have hl4 := lt_of_heap hp4; have hpn := (hc4.block Bn (by rw [size_put]; exact lt_of_heap h2) (fun h => (HA.out.2.2.2.2.2.1 Bn h).2.2.1 rfl)).trans (heap_put_at _ _ _ (lt_of_heap h2)); have hln := lt_of_heap hpn; have HR4 := hid hr4; have HC4 := hid hc4; have HB4 := hid hb4; have en := fun i => cell_of_row w4 Bn i _ _ (0, 0) hpn; clear hr4 hc4 hb4; rw [← put_self hp4]))
    go_ret
    obtain ⟨h1, h2, hs, h3, h4, h5, h6⟩ := HA.out
    obtain ⟨n1, n2⟩ := HNX.out X w4 oa a4 oc c4 ys h1 h2 hs h3 h4 h5 h6 HX.out HR4.out HC4.out HB4.out
    exact ⟨rfl, n1, n2⟩
end Go.Proofs.Ythknenhcnpgkcaa
