import Derived.Test.YthknenhcnpgkcaaWkA
import Derived.Test.YthknenhcnpgkcaaWkR
/- Package walk: Middle. -/
namespace Go.Proofs.Ythknenhcnpgkcaa
open Go.RowKit Go.Shelf
attribute [local go_sem] Oper.semAt_some
set_option linter.unusedVariables false
set_option linter.unusedSimpArgs false
theorem alloc7 (W : World) (o0 o1 o2 o3 o4 o5 o6 : Obj) : (((((((W.alloc o0).alloc o1).alloc o2).alloc o3).alloc o4).alloc o5).alloc o6).heap[W.heap.size]? = some o0 ∧ (((((((W.alloc o0).alloc o1).alloc o2).alloc o3).alloc o4).alloc o5).alloc o6).heap[W.heap.size + 1]? = some o1 ∧ (((((((W.alloc o0).alloc o1).alloc o2).alloc o3).alloc o4).alloc o5).alloc o6).heap[W.heap.size + 1 + 1]? = some o2 ∧ (((((((W.alloc o0).alloc o1).alloc o2).alloc o3).alloc o4).alloc o5).alloc o6).heap[W.heap.size + 1 + 1 + 1]? = some o3 ∧ (((((((W.alloc o0).alloc o1).alloc o2).alloc o3).alloc o4).alloc o5).alloc o6).heap[W.heap.size + 1 + 1 + 1 + 1]? = some o4 ∧ (((((((W.alloc o0).alloc o1).alloc o2).alloc o3).alloc o4).alloc o5).alloc o6).heap[W.heap.size + 1 + 1 + 1 + 1 + 1]? = some o5 ∧ (((((((W.alloc o0).alloc o1).alloc o2).alloc o3).alloc o4).alloc o5).alloc o6).heap[W.heap.size + 1 + 1 + 1 + 1 + 1 + 1]? = some o6 :=
  ⟨(heap_alloc_other _ _ _ (by simp only [World.size_alloc]; omega)).trans ((heap_alloc_other _ _ _ (by simp only [World.size_alloc]; omega)).trans ((heap_alloc_other _ _ _ (by simp only [World.size_alloc]; omega)).trans ((heap_alloc_other _ _ _ (by simp only [World.size_alloc]; omega)).trans ((heap_alloc_other _ _ _ (by simp only [World.size_alloc]; omega)).trans ((heap_alloc_other _ _ _ (by simp only [World.size_alloc]; omega)).trans (heap_alloc_at _ _ _ (by simp))))))), (heap_alloc_other _ _ _ (by simp only [World.size_alloc]; omega)).trans ((heap_alloc_other _ _ _ (by simp only [World.size_alloc]; omega)).trans ((heap_alloc_other _ _ _ (by simp only [World.size_alloc]; omega)).trans ((heap_alloc_other _ _ _ (by simp only [World.size_alloc]; omega)).trans ((heap_alloc_other _ _ _ (by simp only [World.size_alloc]; omega)).trans (heap_alloc_at _ _ _ (by simp)))))), (heap_alloc_other _ _ _ (by simp only [World.size_alloc]; omega)).trans ((heap_alloc_other _ _ _ (by simp only [World.size_alloc]; omega)).trans ((heap_alloc_other _ _ _ (by simp only [World.size_alloc]; omega)).trans ((heap_alloc_other _ _ _ (by simp only [World.size_alloc]; omega)).trans (heap_alloc_at _ _ _ (by simp))))), (heap_alloc_other _ _ _ (by simp only [World.size_alloc]; omega)).trans ((heap_alloc_other _ _ _ (by simp only [World.size_alloc]; omega)).trans ((heap_alloc_other _ _ _ (by simp only [World.size_alloc]; omega)).trans (heap_alloc_at _ _ _ (by simp)))), (heap_alloc_other _ _ _ (by simp only [World.size_alloc]; omega)).trans ((heap_alloc_other _ _ _ (by simp only [World.size_alloc]; omega)).trans (heap_alloc_at _ _ _ (by simp))), (heap_alloc_other _ _ _ (by simp only [World.size_alloc]; omega)).trans (heap_alloc_at _ _ _ (by simp)), heap_alloc_at _ _ _ (by simp)⟩
/-- The address of the last one of the first h. -/
def lastOf {α : Type} (ad : α → Int) (h : Nat) (p : List α) : Int := ((p.take h).map ad).getLast?.getD 0
theorem lastOf_few {α : Type} (ad : α → Int) {h : Nat} {p : List α} {y : α} (hp : p.length < h) : lastOf ad h (p ++ [y]) = ad y := by
  unfold lastOf
  rw [List.take_of_length_le (by rw [List.length_append]; simp; omega)]
  simp
theorem lastOf_many {α : Type} (ad : α → Int) {h : Nat} {p : List α} (y : List α) (hp : h ≤ p.length) : lastOf ad h (p ++ y) = lastOf ad h p := by
  unfold lastOf
  rw [List.take_append_of_le_length hp]
theorem lastOf_getD {α : Type} (ad : α → Int) {h : Nat} {p : List α} (h1 : 1 ≤ h) (hp : h ≤ p.length) : (p.map ad).getD (h - 1) 0 = lastOf ad h p := by
  unfold lastOf
  rw [List.getLast?_eq_getElem?, List.getD_eq_getElem?_getD, List.length_map, List.length_take, List.map_take, List.getElem?_take, if_pos (by omega)]
  congr 2
  omega
theorem mid_none {α : Type} (ad : α → Int) {L : List α} (hC : ∀ x ∈ L.drop ((L.length + 1) / 2), ad x = lastOf ad ((L.length + 1) / 2) L) : midL (L.map ad) = none := by
  unfold midL
  rw [List.length_map, List.find?_eq_none]
  intro x hx
  rw [← List.map_drop] at hx
  obtain ⟨y, hy, rfl⟩ := List.mem_map.1 hx
  have hl : 0 < L.length := by
    have := List.length_pos_of_mem hy
    rw [List.length_drop] at this; omega
  rw [lastOf_getD ad (by omega) (by omega), hC y hy]
  simp
theorem mid_some {α : Type} (ad : α → Int) {L p R : List α} {y : α} (hL : L = p ++ y :: R) (hp : (L.length + 1) / 2 ≤ p.length) (hC : ∀ x ∈ p.drop ((L.length + 1) / 2), ad x = lastOf ad ((L.length + 1) / 2) p) (hy : ad y ≠ lastOf ad ((L.length + 1) / 2) p) : midL (L.map ad) = some (ad y) := by
  have hl : 0 < L.length := by rw [hL, List.length_append, List.length_cons]; omega
  unfold midL
  rw [List.length_map, lastOf_getD ad (by omega) (by omega)]
  generalize (L.length + 1) / 2 = h at hp hC hy
  have e : lastOf ad h L = lastOf ad h p := by rw [hL, lastOf_many ad _ hp]
  rw [e, hL, List.map_append, List.drop_append_of_le_length (by rw [List.length_map]; exact hp), List.find?_append, ← List.map_drop, List.find?_eq_none.2, List.map_cons, List.find?_cons_of_pos]
  · rfl
  · simpa using hy
  · intro x hx
    obtain ⟨z, hz, rfl⟩ := List.mem_map.1 hx
    rw [hC z hz]; simp
set_option maxRecDepth 100000 in
set_option maxHeartbeats 4000000 in
theorem middle_is {α : Type} (L : List α) (f : α → It) (hL : L.length ≤ 900) (hsm : ∀ y, (f y).1.size ≤ maxLen) (g : Option Addr) (a b : Int) (W : World)
    (hcount : ∀ V, Below W.heap.size W V → Calls Try.prog 40 #[.pointer g, .agg #[.int .u64 a, .int .u64 b]] V (Makes (.int .i64 (L.length : Nat)) V))
    (hseq : ∀ (V : World) (s : Nat) (S : Nat → Prop), Below W.heap.size W V → V.heap[s]? = some (.cells #[.pointer g] 23) → V.heap[s + 1]? = some (.cells #[.int .u64 a, .int .u64 b] 38) → (∀ k, S k → k < V.heap.size) → (∀ k, S k → W.heap.size ≤ k) → ¬ S s → ¬ S (s + 1) →
      SeqStopsK Fence.wide 8 Try.prog 80 #[.pointer (some ⟨s, 0, none⟩), .pointer (some ⟨s + 1, 0, none⟩)] (fun x : α => #[.string (f x).1, .string (f x).2]) (KpS S) (fun ys => ys = L) (fun pre => ∃ k, k ≤ L.length ∧ pre = L.take k) L.length V) :
    Calls Try.prog 37 #[.pointer g, .agg #[.int .u64 a, .int .u64 b]] W (Makes (.tuple #[.int .u64 ((midL (L.map fun y => adr (f y))).getD 0), .bool (midL (L.map fun y => adr (f y))).isSome]) W) := by
  refine callsIn_wide.1 (callsIn_of_wp_marks (n := 9) Try.func37 rfl trivial ?_ rfl)
  rw [wpIn_wide]
  simp only [Try.ntmps37, List.size_toArray, List.length_cons, List.length_nil, Nat.reduceAdd, Nat.reduceSub, Array.replicate_succ, Array.replicate_zero, List.push_toArray, List.append_toArray, List.nil_append, List.cons_append]
  obtain ⟨n, hn⟩ : ∃ n, L.length = n := ⟨_, rfl⟩
  have HN := hid hn
  have HCT := hid hcount
  have HSQ := hid hseq
  rw [hn] at hL
  rw [hn] at HCT
  clear hn hcount hseq
  go_wp2_with fail
  go_step3
  go_wp2_with fail
  (((with_reducible refine (HCT.out _ (by repeat' (first | exact Below.refl _ _ | with_reducible assumption | omega | with_reducible refine below_put_fut ?_ ?_ _ | with_reducible refine below_to_put ?_ | with_reducible refine Below.alloc ?_ ?_ _ | with_reducible refine Below.fut ?_ ?_ _ | with_reducible refine Below.drew ?_ | with_reducible refine Below.setCell ?_ ?_ _ | with_reducible refine Below.atPut ?_ ?_ _ | (simp [go_sem]; done) | (simp [go_sem]; omega)))).mono ?_)); rintro _ _ ⟨rfl, u, rfl⟩)
  have e1 : IntKind.i64.wrap ((n : Int) + 1) = (n : Int) + 1 := IntWalk.i64_in _ (by omega)
  have e2 : ((n : Int) + 1).tdiv 2 = (((n + 1) / 2 : Nat) : Int) := by rw [Int.tdiv_eq_ediv_of_nonneg (by omega)]; omega
  have hbu : Below W.heap.size W u.val := (by repeat' (first | exact Below.refl _ _ | with_reducible assumption | omega | with_reducible refine below_put_fut ?_ ?_ _ | with_reducible refine below_to_put ?_ | with_reducible refine Below.alloc ?_ ?_ _ | with_reducible refine Below.fut ?_ ?_ _ | with_reducible refine Below.drew ?_ | with_reducible refine Below.setCell ?_ ?_ _ | with_reducible refine Below.atPut ?_ ?_ _ | (simp [go_sem]; done) | (simp [go_sem]; omega)))
  have hc3 : u.val.heap[W.heap.size]? = some (.cells #[.int .u64 a, .int .u64 b] 38) := (u.below.block _ (by simp)).trans (heap_alloc_at _ _ _ rfl)
  have e3 := fun i => cell_of_row u.val _ i _ _ (0, 0) hc3
  have l3 := lt_of_heap hc3
  generalize u.val = V0 at hbu e3 l3 ⊢
  clear hc3
  obtain ⟨h, hh⟩ : ∃ h : Nat, ((n : Int) + 1) / 2 = (h : Int) := ⟨(n + 1) / 2, by omega⟩
  have HH := hid (show h = (n + 1) / 2 by omega)
  go_wp2_with fail

  clear hh e1 e2
  go_step3
  go_wp2_with fail
  (((with_reducible refine (walkArc_is g a b _).mono ?_)); rintro _ _ ⟨rfl, rfl⟩)
  go_wp2_with fail
  have hz0 := hbu.size
  obtain ⟨k0, k1, k2, k3, k4, k5, k6⟩ := alloc7 V0 (.cells #[.int .i64 (h : Nat)] 3) (.cells #[.int .i64 0] 3) (.cells #[.int .u64 0] 36) (.cells #[.int .u64 0] 36) (.cells #[.bool false] 4) (.cells #[.pointer g] 23) (.cells #[.int .u64 a, .int .u64 b] 38)
  have hbV : Below W.heap.size W (((((((V0.alloc (.cells #[.int .i64 (h : Nat)] 3)).alloc (.cells #[.int .i64 0] 3)).alloc (.cells #[.int .u64 0] 36)).alloc (.cells #[.int .u64 0] 36)).alloc (.cells #[.bool false] 4)).alloc (.cells #[.pointer g] 23)).alloc (.cells #[.int .u64 a, .int .u64 b] 38)) := (by repeat' (first | exact Below.refl _ _ | with_reducible assumption | omega | with_reducible refine below_put_fut ?_ ?_ _ | with_reducible refine below_to_put ?_ | with_reducible refine Below.alloc ?_ ?_ _ | with_reducible refine Below.fut ?_ ?_ _ | with_reducible refine Below.drew ?_ | with_reducible refine Below.setCell ?_ ?_ _ | with_reducible refine Below.atPut ?_ ?_ _ | (simp [go_sem]; done) | (simp [go_sem]; omega)))
  generalize (((((((V0.alloc (.cells #[.int .i64 (h : Nat)] 3)).alloc (.cells #[.int .i64 0] 3)).alloc (.cells #[.int .u64 0] 36)).alloc (.cells #[.int .u64 0] 36)).alloc (.cells #[.bool false] 4)).alloc (.cells #[.pointer g] 23)).alloc (.cells #[.int .u64 a, .int .u64 b] 38)) = V at k0 k1 k2 k3 k4 k5 k6 hbV ⊢
  have hV6 := lt_of_heap k6
  have hVs := hbV.size
  generalize V0.heap.size = B at k0 k1 k2 k3 k4 k5 k6 hV6 hz0 ⊢
  refine wpIn_wide.1 (wpIn_rangeFunc_ownH (F := Fence.wide) (n := 9) rfl (by omega) (gf := 80) (lb := #[.pointer (some ⟨B + 1 + 1 + 1 + 1 + 1, 0, none⟩), .pointer (some ⟨B + 1 + 1 + 1 + 1 + 1 + 1, 0, none⟩)]) rfl trivial (enters_of Try.func80 (by kernel_rfl) rfl)
    (HSQ.out V (B + 1 + 1 + 1 + 1 + 1) (fun k => k = B + 1 ∨ k = B + 1 + 1 ∨ k = B + 1 + 1 + 1 ∨ k = B + 1 + 1 + 1 + 1) hbV k5 k6 (fun k hk => by omega) (fun k hk => by omega) (by omega) (by omega)) (fun h k => h.trans k) (fun X q o o' hq hX hc _ => KpS.putObj _ X q o o' hX hc) (Below.refl _ _) (fun _ => rfl)
    (fun pre X => ((X.heap[B]? = some (.cells #[.int .i64 (h : Nat)] 3) ∧ X.heap[B + 1]? = some (.cells #[.int .i64 (pre.length : Nat)] 3) ∧ X.heap[B + 1 + 1]? = some (.cells #[.int .u64 (lastOf (fun y => adr (f y)) h pre)] 36) ∧ X.heap[B + 1 + 1 + 1]? = some (.cells #[.int .u64 0] 36) ∧ X.heap[B + 1 + 1 + 1 + 1]? = some (.cells #[.bool false] 4)) ∧ Below W.heap.size W X) ∧ ∀ x ∈ pre.drop h, adr (f x) = lastOf (fun y => adr (f y)) h pre)
    (fun c pre X => (c = .exit 0 ∧ ∃ p y, pre = p ++ [y] ∧ h ≤ p.length ∧ (∀ x ∈ p.drop h, adr (f x) = lastOf (fun y => adr (f y)) h p) ∧ adr (f y) ≠ lastOf (fun y => adr (f y)) h p ∧ X.heap[B + 1 + 1 + 1]? = some (.cells #[.int .u64 (adr (f y))] 36) ∧ X.heap[B + 1 + 1 + 1 + 1]? = some (.cells #[.bool true] 4)) ∧ Below W.heap.size W X)
    ?hI ?hIx ⟨⟨⟨k0, k1, by simpa [lastOf] using k2, k3, k4⟩, hbV⟩, by simp⟩
    (fun y a' X => a' = { tmps := #[.pointer g, .agg #[.int .u64 a, .int .u64 b], undef, .pointer (some ⟨W.heap.size, 0, none⟩), .int .u64 0, .bool false, .pointer (some ⟨B, 0, none⟩), .pointer (some ⟨B + 1, 0, none⟩), .pointer (some ⟨B + 1 + 1, 0, none⟩), .pointer (some ⟨B + 1 + 1 + 1, 0, none⟩), .pointer (some ⟨B + 1 + 1 + 1 + 1, 0, none⟩), .string (f y).1, undef, .pointer g, .agg #[.int .u64 a, .int .u64 b], .int .i64 n, .int .i64 (n + 1), .int .i64 h, .pointer g, .agg #[.int .u64 a, .int .u64 b], .func (.func 80) #[] #[.pointer (some ⟨B + 1 + 1 + 1 + 1 + 1, 0, none⟩), .pointer (some ⟨B + 1 + 1 + 1 + 1 + 1 + 1, 0, none⟩)], .string (f y).1, .string (f y).2, undef, undef, undef, undef, undef, undef, undef, undef, undef, undef, undef, undef, undef, undef, undef, undef], defers := [] })
    (fun x a' s X Y row hs hg hr => hs) ?assign ?body ?done ?stop)
  case hI => exact OwnFrom.and (OwnFrom.and (OwnFrom.and (ownFrom_heap _ _ (fun _ => #[.int .i64 (h : Nat)]) _ _) (OwnFrom.and (ownFrom_heap _ _ (fun pre : List α => #[.int .i64 (pre.length : Nat)]) _ _) (OwnFrom.and (ownFrom_heap _ _ (fun pre : List α => #[.int .u64 (lastOf (fun y => adr (f y)) h pre)]) _ _) (OwnFrom.and (ownFrom_heap _ _ (fun pre : List α => #[.int .u64 0]) _ _) (ownFrom_heap _ _ (fun pre : List α => #[.bool false]) _ _))))) (ownFrom_below (Nat.le_refl _) hVs)) (fun _ _ _ _ hs _ _ => hs)
  case hIx =>
    exact fun c => OwnFrom.and (fun s X Y row hs hg hr => by
      obtain ⟨h1, p, y, h2, h3, h4, h5, h6, h7⟩ := hs
      exact ⟨h1, p, y, h2, h3, h4, h5, (grownBy_keeps_cells hg (fun r e => (hr r e).2) h6 rfl).trans h6, (grownBy_keeps_cells hg (fun r e => (hr r e).2) h7 rfl).trans h7⟩) (ownFrom_below (Nat.le_refl _) hVs)
  case assign =>
    rintro ll pre y X K ⟨⟨hi, iB⟩, iC⟩ hK
    have HI := hid hi
    have HB := hid iB
    have HC := hid iC
    have HK := hid hK
    clear hi iB iC hK
    gi_wp2_with fail
    exact HK.out _ _ (KeepsFrom.chg (S := fun _ => False) (Chg.refl _ _) (fun k hk => hk.elim)) (KpS.refl _ _) ⟨⟨HI.out, HB.out⟩, HC.out⟩ (by simp)
  case body =>
    rintro ll pre y a' X hll hr ⟨⟨⟨i0, i1, i2, i3, i4⟩, iB⟩, iC⟩ rfl hlen
    have hXs := iB.size
    have IB := hid iB
    have IC := hid iC
    have I1 := hid i1
    have I2 := hid i2
    have l1 := lt_of_heap i1
    have l4 := lt_of_heap i4
    obtain ⟨ad, had⟩ : ∃ ad, addrN (f y).1.data.toList = ad := ⟨_, rfl⟩
    have HAD := hid (show adr (f y) = ad by unfold adr; rw [had])
    have I0 := hid i0
    have I3 := hid i3
    have I4 := hid i4
    clear hr iB iC i0 i1 i2 i3 i4
    gi_wp2_with fail
    refine ⟨trivial, CallsIn.inRound _ (callsIn_wide.2 ((addr_any _ (hsm y) ad had _).mono ?_))⟩
    rintro _ _ ⟨rfl, u, rfl⟩
    have hbu := u.below
    have i0 := (hbu.block _ (lt_of_heap I0.out)).trans I0.out
    have i1 := (hbu.block _ (lt_of_heap I1.out)).trans I1.out
    have i2 := (hbu.block _ (lt_of_heap I2.out)).trans I2.out
    have i3 := (hbu.block _ (lt_of_heap I3.out)).trans I3.out
    have i4 := (hbu.block _ (lt_of_heap I4.out)).trans I4.out
    have HBU := hid hbu
    have hzu := hbu.size
    have hbW := hid (IB.out.trans (hbu.mono hXs))
    generalize u.val = Y at HBU hzu hbW i0 i1 i2 i3 i4 ⊢
    clear hbu had I0 I1 I2 I3 I4
    have hlB : B + 1 + 1 + 1 + 1 < Y.heap.size := lt_of_heap i4
    have e0 := fun i => cell_of_row Y B i _ _ (0, 0) i0
    have e1' := fun i => cell_of_row Y (B + 1) i _ _ (0, 0) i1
    have e2' := fun i => cell_of_row Y (B + 1 + 1) i _ _ (0, 0) i2
    have ew : IntKind.i64.wrap ((pre.length : Int) + 1) = (pre.length : Int) + 1 := IntWalk.i64_in _ (by have := HN.out; omega)
    obtain ⟨S, hS⟩ : ∃ S : Nat → Prop, S = fun k => k = B + 1 ∨ k = B + 1 + 1 ∨ k = B + 1 + 1 + 1 ∨ k = B + 1 + 1 + 1 + 1 := ⟨_, rfl⟩
    have HS := hid hS
    have HCH := hid (fun (k1 k2 : Nat) (o1 o2 : Obj) (h1 : S k1) (h2 : S k2) => ((Chg.of_below (S := S) HBU.out).put (g := k1) (fun _ => h1) o1).put (g := k2) (fun _ => h2) o2)
    have HCH1 := hid (fun (k1 : Nat) (o1 : Obj) (h1 : S k1) => ((Chg.of_below (S := S) HBU.out).put (g := k1) (fun _ => h1) o1))
    have HKF := hid (fun k (hk : S k) => show k < V.heap.size by rw [hS] at hk; omega)
    have l0 := lt_of_heap i0
    have hB0 : W.heap.size ≤ B := by omega
    by_cases c : pre.length < h
    · have d1 : decide ((pre.length : Int) < (h : Int)) = true := decide_eq_true (by omega)
      have HY2 := hid (show put (put Y (B + 1 + 1) (.cells #[.int .u64 (lastOf (fun y => adr (f y)) h pre)] 36)) (B + 1) (.cells #[.int .i64 (pre.length : Nat)] 3) = Y by rw [put_self i2, put_self i1])
      have HCC := hid c
      have I0 := hid i0
      have I3 := hid i3
      have I4 := hid i4
      clear i0 i1 i2 i3 i4 c e1' e2' hS
      rw [← HY2.out]
      gi_wp2_with fail
      refine ⟨KeepsFrom.chg (HCH.out _ _ _ _ (by rw [HS.out]; omega) (by rw [HS.out]; omega)) HKF.out, KpS.chg (by rw [← HS.out]; exact HCH.out _ _ _ _ (by rw [HS.out]; omega) (by rw [HS.out]; omega)), ⟨⟨?_, ?_, ?_, ?_, ?_⟩, ?_⟩, ?_⟩
      · rw [heap_put_other _ _ _ _ (by omega), heap_put_other _ _ _ _ (by omega)]; exact I0.out
      · rw [List.length_append]; exact heap_put_at _ _ _ (by rw [size_put]; omega)
      · rw [heap_put_other _ _ _ _ (by omega), lastOf_few _ HCC.out, HAD.out]; exact heap_put_at _ _ _ (by omega)
      · rw [heap_put_other _ _ _ _ (by omega), heap_put_other _ _ _ _ (by omega)]; exact I3.out
      · rw [heap_put_other _ _ _ _ (by omega), heap_put_other _ _ _ _ (by omega)]; exact I4.out
      · exact Below.atPut (Below.atPut hbW.out (by omega) _) (by omega) _
      · intro x hx
        rw [List.drop_eq_nil_of_le (by rw [List.length_append]; have := HCC.out; simp; omega)] at hx
        cases hx
    · have d1 : decide ((pre.length : Int) < (h : Int)) = false := decide_eq_false (by omega)
      have d1n : decide (pre.length < h) = false := decide_eq_false c
      have HCC := hid (show h ≤ pre.length by omega)
      by_cases q : (ad : Int) = lastOf (fun y => adr (f y)) h pre
      · have HY2 := hid (show put Y (B + 1) (.cells #[.int .i64 (pre.length : Nat)] 3) = Y by rw [put_self i1])
        have HQ := hid q
        obtain ⟨la, hla⟩ : ∃ la, lastOf (fun y => adr (f y)) h pre = la := ⟨_, rfl⟩
        have HLA := hid hla
        rw [hla] at e2' i2 q
        subst q
        have I0 := hid i0
        have I2 := hid i2
        have I3 := hid i3
        have I4 := hid i4
        clear i0 i1 i2 i3 i4 c hS e1' hla
        rw [← HY2.out]
        gi_wp2_with fail
        refine ⟨KeepsFrom.chg (HCH1.out _ _ (by rw [HS.out]; omega)) HKF.out, KpS.chg (by rw [← HS.out]; exact HCH1.out _ _ (by rw [HS.out]; omega)), ⟨⟨?_, ?_, ?_, ?_, ?_⟩, ?_⟩, ?_⟩
        · rw [heap_put_other _ _ _ _ (by omega)]; exact I0.out
        · rw [List.length_append]; exact heap_put_at _ _ _ (by omega)
        · rw [heap_put_other _ _ _ _ (by omega), lastOf_many _ _ HCC.out, HLA.out]; exact I2.out
        · rw [heap_put_other _ _ _ _ (by omega)]; exact I3.out
        · rw [heap_put_other _ _ _ _ (by omega)]; exact I4.out
        · exact Below.atPut hbW.out (by omega) _
        · intro x hx
          rw [List.drop_append_of_le_length HCC.out] at hx
          rw [lastOf_many _ _ HCC.out]
          rcases List.mem_append.1 hx with hx | hx
          · exact IC.out x hx
          · obtain rfl := List.mem_singleton.1 hx
            rw [HAD.out, HLA.out]
      · have HY2 := hid (show put (put Y (B + 1 + 1 + 1) (.cells #[.int .u64 0] 36)) (B + 1 + 1 + 1 + 1) (.cells #[.bool false] 4) = Y by rw [put_self i3, put_self i4])
        obtain ⟨la, hla⟩ : ∃ la, lastOf (fun y => adr (f y)) h pre = la := ⟨_, rfl⟩
        have HLA := hid hla
        rw [hla] at e2' i2 q
        have q1 : ((ad : Int) == la) = false := by simpa using q
        have q2 : ((ad : Int) != la) = true := by simpa using q
        have HQ := hid q
        clear i0 i1 i2 i3 i4 c hS q hla
        rw [← HY2.out]
        gi_wp2_with fail
        refine ⟨KeepsFrom.chg (HCH.out _ _ _ _ (by rw [HS.out]; omega) (by rw [HS.out]; omega)) HKF.out, ⟨rfl, pre, y, rfl, HCC.out, IC.out, by rw [HAD.out, HLA.out]; exact HQ.out, ?_, ?_⟩, ?_⟩
        · rw [heap_put_other _ _ _ _ (by omega), HAD.out]; exact heap_put_at _ _ _ (by omega)
        · exact heap_put_at _ _ _ (by rw [size_put]; omega)
        · exact Below.atPut (Below.atPut hbW.out (by omega) _) (by omega) _
  case done =>
    rintro D ys X hD hys ⟨⟨⟨i0, i1, i2, i3, i4⟩, iB⟩, iC⟩ hK
    have hys : L = ys := hys.symm
    subst hys
    have hx4 := lt_of_heap i4
    have hXs := iB.size
    have e3' := fun i => cell_of_row X (B + 1 + 1 + 1) i _ _ (0, 0) i3
    have e4' := fun i => cell_of_row X (B + 1 + 1 + 1 + 1) i _ _ (0, 0) i4
    have HM := hid (show midL (L.map fun y => adr (f y)) = none from mid_none (fun y => adr (f y)) (by rw [HN.out, ← HH.out]; exact iC))
    have IB := hid iB
    have HK := hid hK
    clear i0 i1 i2 i3 i4 iB iC hK
    have hx3 : B + 1 + 1 + 1 < X.heap.size := by omega
    go_wp2_with (first | (((with_reducible refine wp_region_fut_lit (by kernel_rfl) (by kernel_rfl) ?_)); (repeat (go_big_quiet_step ((first | fail)))); ((with_reducible refine wpQuiet_nil ?_)); rintro _ ⟨u, rfl⟩; (try (rw [Fut.put_self u (by first | assumption | (simp [go_sem]; done) | (simp [go_sem]; omega))]))))
    have hbX := u.below
    have hDX := (hbX.block _ (lt_of_heap HK.out)).trans HK.out
    generalize u.val = X2 at hbX hDX ⊢
    try rw [Exit.noGoto_ret]
    refine ⟨by simp, .inl ⟨_, _, rfl, run_takeDeferred hDX, ?_⟩⟩
    exact ⟨.tuple #[.int .u64 ((midL (L.map fun y => adr (f y))).getD 0), .bool (midL (L.map fun y => adr (f y))).isSome], by rw [HM.out]; simp [results, Try.results37, go_sem], .mk rfl (IB.out.trans ((hbX.mono IB.out.size).trans (belowK_b (w := W) (Nat.le_refl _) X2 D _ _ (by omega) hDX rfl rfl)))⟩
  case stop =>
    rintro D c pre X hD ⟨q, hq, rfl⟩ ⟨⟨rfl, p, y, hp, h3, h4, h5, i3, i4⟩, iB⟩ hK
    have hx4 := lt_of_heap i4
    have e3' := fun i => cell_of_row X (B + 1 + 1 + 1) i _ _ (0, 0) i3
    have e4' := fun i => cell_of_row X (B + 1 + 1 + 1 + 1) i _ _ (0, 0) i4
    have HM := hid (show midL (L.map fun y => adr (f y)) = some (adr (f y)) from mid_some (fun y => adr (f y)) (p := p) (R := L.drop q) (by rw [List.append_cons, ← hp, List.take_append_drop]) (by rw [HN.out, ← HH.out]; exact h3) (by rw [HN.out, ← HH.out]; exact h4) (by rw [HN.out, ← HH.out]; exact h5))
    have IB := hid iB
    have HK := hid hK
    obtain ⟨ad, had⟩ : ∃ ad, adr (f y) = ad := ⟨_, rfl⟩
    rw [had] at e3'
    have HAD := hid had
    clear i3 i4 iB hK h4 h5
    have hx3 : B + 1 + 1 + 1 < X.heap.size := by omega
    subst had
    rw [wpIn_wide]
    go_wp2_with (first | (((with_reducible refine wp_region_fut_lit (by kernel_rfl) (by kernel_rfl) ?_)); (repeat (go_big_quiet_step ((first | fail)))); ((with_reducible refine wpQuiet_nil ?_)); rintro _ ⟨u, rfl⟩; (try (rw [Fut.put_self u (by first | assumption | (simp [go_sem]; done) | (simp [go_sem]; omega))]))))
    have hbX := u.below
    have hDX := (hbX.block _ (lt_of_heap HK.out)).trans HK.out
    generalize u.val = X2 at hbX hDX ⊢
    try rw [Exit.noGoto_ret]
    refine ⟨by simp, .inl ⟨_, _, rfl, run_takeDeferred hDX, ?_⟩⟩
    exact ⟨.tuple #[.int .u64 ((midL (L.map fun y => adr (f y))).getD 0), .bool (midL (L.map fun y => adr (f y))).isSome], by rw [HM.out]; simp [results, Try.results37, go_sem], .mk rfl (IB.out.trans ((hbX.mono IB.out.size).trans (belowK_b (w := W) (Nat.le_refl _) X2 D _ _ (by omega) hDX rfl rfl)))⟩
end Go.Proofs.Ythknenhcnpgkcaa
