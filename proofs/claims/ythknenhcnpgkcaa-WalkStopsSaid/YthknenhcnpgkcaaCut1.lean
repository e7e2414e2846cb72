/- Package cut: Page. -/
import Derived.Test.YthknenhcnpgkcaaWkRgW
import Derived.BigRegion
namespace Go.Proofs.Ythknenhcnpgkcaa
open Go.RowKit Go.Shelf
attribute [local go_sem] Oper.semAt_some
set_option linter.unusedVariables false
set_option linter.unusedSimpArgs false
set_option maxRecDepth 100000 in
set_option maxHeartbeats 4000000 in
theorem page_own {α : Type} (L : List α) (f : α → It) (hN : L.length ≤ 900) (N : Nat) (hN9 : N ≤ 900) (g : Option Addr) (u v : ByteArray) (W : World)
    (hseq : ∀ (V : World) (A s : Nat), Below W.heap.size W V → A < s → W.heap.size ≤ A → ownOf A V = none → V.heap[s]? = some (.cells #[.pointer g] 23) → V.heap[s + 1]? = some (.cells #[.string u] 9) → V.heap[s + 1 + 1]? = some (.cells #[.string v] 9) →
      SeqOwn Fence.wide 8 Try.prog 82 #[.pointer (some ⟨s, 0, none⟩), .pointer (some ⟨s + 1, 0, none⟩), .pointer (some ⟨s + 1 + 1, 0, none⟩)] (fun x : α => #[.string (f x).1, .string (f x).2]) (KpO A) (fun ys => ys = L) (fun pre => ∃ k, k ≤ L.length ∧ pre = L.take k) N V)
    (most : Nat) (hm2 : most ≤ 2000) :
    Calls Try.prog 61 #[.pointer g, .string u, .string v, .int .i64 most] W fun e W' => ∃ ao n c, e = .returned (.tuple #[.slice ao n c, .bool (decide (most < L.length)), .string (((L.map f)[most]?).map (·.1) |>.getD ⟨#[]⟩)]) ∧ Row W' 34 2 (.slice ao n c) n (flat ((L.map f).take most)) ∧ n = min L.length most ∧ Below W.heap.size W W' ∧ ∀ k, k < W.heap.size → blk (.slice ao n c) k = 0 := by
  refine callsIn_wide.1 (callsIn_of_wp_marks (n := 9) Try.func61 rfl trivial ?_ rfl)
  rw [wpIn_wide]
  simp only [Try.ntmps61, List.size_toArray, List.length_cons, List.length_nil, Nat.reduceAdd, Nat.reduceSub, Array.replicate_succ, Array.replicate_zero, List.push_toArray, List.append_toArray, List.nil_append, List.cons_append]
  go_wp2_with fail
  go_step3
  go_wp2_with fail
  go_step3
  go_wp2_with fail
  (((with_reducible refine (walkRange_is g u v _).mono ?_)); rintro _ _ ⟨rfl, rfl⟩)
  go_wp2_with fail
  have hbV : Below W.heap.size W (((((((W.alloc (.cells #[.int .i64 (most : Nat)] 3)).alloc (.cells #[.slice none 0 0] 28)).alloc (.cells #[.bool false] 4)).alloc (.cells #[.string ⟨#[]⟩] 9)).alloc (.cells #[.pointer g] 23)).alloc (.cells #[.string u] 9)).alloc (.cells #[.string v] 9)) := (by repeat' (first | exact Below.refl _ _ | with_reducible assumption | omega | with_reducible refine below_put_fut ?_ ?_ _ | with_reducible refine below_to_put ?_ | with_reducible refine Below.alloc ?_ ?_ _ | with_reducible refine Below.fut ?_ ?_ _ | with_reducible refine Below.drew ?_ | with_reducible refine Below.setCell ?_ ?_ _ | with_reducible refine Below.atPut ?_ ?_ _ | (simp [go_sem]; done) | (simp [go_sem]; omega)))
  have h0 : ((((((((W.alloc (.cells #[.int .i64 (most : Nat)] 3)).alloc (.cells #[.slice none 0 0] 28)).alloc (.cells #[.bool false] 4)).alloc (.cells #[.string ⟨#[]⟩] 9)).alloc (.cells #[.pointer g] 23)).alloc (.cells #[.string u] 9)).alloc (.cells #[.string v] 9))).heap[W.heap.size]? = some (.cells #[.int .i64 (most : Nat)] 3) := (by repeat' (first | rfl | assumption | (with_reducible refine (heap_drew_eq _ _).trans ?_) | (refine (Fut.heap _ _ ?_).trans ?_ ; focus (first | assumption | omega | (simp [go_sem]; done) | (simp [go_sem]; omega))) | (refine (heap_put_at _ _ _ ?_).trans ?_ ; focus (first | assumption | omega | (simp [go_sem]; done) | (simp [go_sem]; omega))) | (refine (heap_put_other _ _ _ _ ?_).trans ?_ ; focus (first | assumption | omega | (simp [go_sem]; done) | (simp [go_sem]; omega))) | (refine (heap_alloc_other _ _ _ ?_).trans ?_ ; focus (first | assumption | omega | (simp [go_sem]; done) | (simp [go_sem]; omega))) | (refine (heap_alloc_at _ _ _ ?_).trans ?_ ; focus (first | assumption | omega | (simp [go_sem]; done) | (simp [go_sem]; omega))) | (simp [go_sem]; done) | (simp [go_sem]; omega)))
  have hA : ((((((((W.alloc (.cells #[.int .i64 (most : Nat)] 3)).alloc (.cells #[.slice none 0 0] 28)).alloc (.cells #[.bool false] 4)).alloc (.cells #[.string ⟨#[]⟩] 9)).alloc (.cells #[.pointer g] 23)).alloc (.cells #[.string u] 9)).alloc (.cells #[.string v] 9))).heap[W.heap.size + 1]? = some (.cells #[.slice none 0 0] 28) := (by repeat' (first | rfl | assumption | (with_reducible refine (heap_drew_eq _ _).trans ?_) | (refine (Fut.heap _ _ ?_).trans ?_ ; focus (first | assumption | omega | (simp [go_sem]; done) | (simp [go_sem]; omega))) | (refine (heap_put_at _ _ _ ?_).trans ?_ ; focus (first | assumption | omega | (simp [go_sem]; done) | (simp [go_sem]; omega))) | (refine (heap_put_other _ _ _ _ ?_).trans ?_ ; focus (first | assumption | omega | (simp [go_sem]; done) | (simp [go_sem]; omega))) | (refine (heap_alloc_other _ _ _ ?_).trans ?_ ; focus (first | assumption | omega | (simp [go_sem]; done) | (simp [go_sem]; omega))) | (refine (heap_alloc_at _ _ _ ?_).trans ?_ ; focus (first | assumption | omega | (simp [go_sem]; done) | (simp [go_sem]; omega))) | (simp [go_sem]; done) | (simp [go_sem]; omega)))
  have h2 : ((((((((W.alloc (.cells #[.int .i64 (most : Nat)] 3)).alloc (.cells #[.slice none 0 0] 28)).alloc (.cells #[.bool false] 4)).alloc (.cells #[.string ⟨#[]⟩] 9)).alloc (.cells #[.pointer g] 23)).alloc (.cells #[.string u] 9)).alloc (.cells #[.string v] 9))).heap[W.heap.size + 1 + 1]? = some (.cells #[.bool false] 4) := (by repeat' (first | rfl | assumption | (with_reducible refine (heap_drew_eq _ _).trans ?_) | (refine (Fut.heap _ _ ?_).trans ?_ ; focus (first | assumption | omega | (simp [go_sem]; done) | (simp [go_sem]; omega))) | (refine (heap_put_at _ _ _ ?_).trans ?_ ; focus (first | assumption | omega | (simp [go_sem]; done) | (simp [go_sem]; omega))) | (refine (heap_put_other _ _ _ _ ?_).trans ?_ ; focus (first | assumption | omega | (simp [go_sem]; done) | (simp [go_sem]; omega))) | (refine (heap_alloc_other _ _ _ ?_).trans ?_ ; focus (first | assumption | omega | (simp [go_sem]; done) | (simp [go_sem]; omega))) | (refine (heap_alloc_at _ _ _ ?_).trans ?_ ; focus (first | assumption | omega | (simp [go_sem]; done) | (simp [go_sem]; omega))) | (simp [go_sem]; done) | (simp [go_sem]; omega)))
  have h3 : ((((((((W.alloc (.cells #[.int .i64 (most : Nat)] 3)).alloc (.cells #[.slice none 0 0] 28)).alloc (.cells #[.bool false] 4)).alloc (.cells #[.string ⟨#[]⟩] 9)).alloc (.cells #[.pointer g] 23)).alloc (.cells #[.string u] 9)).alloc (.cells #[.string v] 9))).heap[W.heap.size + 1 + 1 + 1]? = some (.cells #[.string ⟨#[]⟩] 9) := (by repeat' (first | rfl | assumption | (with_reducible refine (heap_drew_eq _ _).trans ?_) | (refine (Fut.heap _ _ ?_).trans ?_ ; focus (first | assumption | omega | (simp [go_sem]; done) | (simp [go_sem]; omega))) | (refine (heap_put_at _ _ _ ?_).trans ?_ ; focus (first | assumption | omega | (simp [go_sem]; done) | (simp [go_sem]; omega))) | (refine (heap_put_other _ _ _ _ ?_).trans ?_ ; focus (first | assumption | omega | (simp [go_sem]; done) | (simp [go_sem]; omega))) | (refine (heap_alloc_other _ _ _ ?_).trans ?_ ; focus (first | assumption | omega | (simp [go_sem]; done) | (simp [go_sem]; omega))) | (refine (heap_alloc_at _ _ _ ?_).trans ?_ ; focus (first | assumption | omega | (simp [go_sem]; done) | (simp [go_sem]; omega))) | (simp [go_sem]; done) | (simp [go_sem]; omega)))
  have h4 : ((((((((W.alloc (.cells #[.int .i64 (most : Nat)] 3)).alloc (.cells #[.slice none 0 0] 28)).alloc (.cells #[.bool false] 4)).alloc (.cells #[.string ⟨#[]⟩] 9)).alloc (.cells #[.pointer g] 23)).alloc (.cells #[.string u] 9)).alloc (.cells #[.string v] 9))).heap[W.heap.size + 1 + 1 + 1 + 1]? = some (.cells #[.pointer g] 23) := (by repeat' (first | rfl | assumption | (with_reducible refine (heap_drew_eq _ _).trans ?_) | (refine (Fut.heap _ _ ?_).trans ?_ ; focus (first | assumption | omega | (simp [go_sem]; done) | (simp [go_sem]; omega))) | (refine (heap_put_at _ _ _ ?_).trans ?_ ; focus (first | assumption | omega | (simp [go_sem]; done) | (simp [go_sem]; omega))) | (refine (heap_put_other _ _ _ _ ?_).trans ?_ ; focus (first | assumption | omega | (simp [go_sem]; done) | (simp [go_sem]; omega))) | (refine (heap_alloc_other _ _ _ ?_).trans ?_ ; focus (first | assumption | omega | (simp [go_sem]; done) | (simp [go_sem]; omega))) | (refine (heap_alloc_at _ _ _ ?_).trans ?_ ; focus (first | assumption | omega | (simp [go_sem]; done) | (simp [go_sem]; omega))) | (simp [go_sem]; done) | (simp [go_sem]; omega)))
  have h5 : ((((((((W.alloc (.cells #[.int .i64 (most : Nat)] 3)).alloc (.cells #[.slice none 0 0] 28)).alloc (.cells #[.bool false] 4)).alloc (.cells #[.string ⟨#[]⟩] 9)).alloc (.cells #[.pointer g] 23)).alloc (.cells #[.string u] 9)).alloc (.cells #[.string v] 9))).heap[W.heap.size + 1 + 1 + 1 + 1 + 1]? = some (.cells #[.string u] 9) := (by repeat' (first | rfl | assumption | (with_reducible refine (heap_drew_eq _ _).trans ?_) | (refine (Fut.heap _ _ ?_).trans ?_ ; focus (first | assumption | omega | (simp [go_sem]; done) | (simp [go_sem]; omega))) | (refine (heap_put_at _ _ _ ?_).trans ?_ ; focus (first | assumption | omega | (simp [go_sem]; done) | (simp [go_sem]; omega))) | (refine (heap_put_other _ _ _ _ ?_).trans ?_ ; focus (first | assumption | omega | (simp [go_sem]; done) | (simp [go_sem]; omega))) | (refine (heap_alloc_other _ _ _ ?_).trans ?_ ; focus (first | assumption | omega | (simp [go_sem]; done) | (simp [go_sem]; omega))) | (refine (heap_alloc_at _ _ _ ?_).trans ?_ ; focus (first | assumption | omega | (simp [go_sem]; done) | (simp [go_sem]; omega))) | (simp [go_sem]; done) | (simp [go_sem]; omega)))
  have h6 : ((((((((W.alloc (.cells #[.int .i64 (most : Nat)] 3)).alloc (.cells #[.slice none 0 0] 28)).alloc (.cells #[.bool false] 4)).alloc (.cells #[.string ⟨#[]⟩] 9)).alloc (.cells #[.pointer g] 23)).alloc (.cells #[.string u] 9)).alloc (.cells #[.string v] 9))).heap[W.heap.size + 1 + 1 + 1 + 1 + 1 + 1]? = some (.cells #[.string v] 9) := (by repeat' (first | rfl | assumption | (with_reducible refine (heap_drew_eq _ _).trans ?_) | (refine (Fut.heap _ _ ?_).trans ?_ ; focus (first | assumption | omega | (simp [go_sem]; done) | (simp [go_sem]; omega))) | (refine (heap_put_at _ _ _ ?_).trans ?_ ; focus (first | assumption | omega | (simp [go_sem]; done) | (simp [go_sem]; omega))) | (refine (heap_put_other _ _ _ _ ?_).trans ?_ ; focus (first | assumption | omega | (simp [go_sem]; done) | (simp [go_sem]; omega))) | (refine (heap_alloc_other _ _ _ ?_).trans ?_ ; focus (first | assumption | omega | (simp [go_sem]; done) | (simp [go_sem]; omega))) | (refine (heap_alloc_at _ _ _ ?_).trans ?_ ; focus (first | assumption | omega | (simp [go_sem]; done) | (simp [go_sem]; omega))) | (simp [go_sem]; done) | (simp [go_sem]; omega)))
  generalize (((((((W.alloc (.cells #[.int .i64 (most : Nat)] 3)).alloc (.cells #[.slice none 0 0] 28)).alloc (.cells #[.bool false] 4)).alloc (.cells #[.string ⟨#[]⟩] 9)).alloc (.cells #[.pointer g] 23)).alloc (.cells #[.string u] 9)).alloc (.cells #[.string v] 9)) = V at hbV h0 hA h2 h3 h4 h5 h6 ⊢
  have hV6 := lt_of_heap h6
  have hVs := hbV.size
  have HSQ := hseq V (W.heap.size + 1) (W.heap.size + 1 + 1 + 1 + 1) hbV (by omega) (by omega) (by unfold ownOf; rw [hA]; rfl) h4 h5 h6
  clear hseq
  refine wpIn_wide.1 (wpIn_range_own (F := Fence.wide) (n := 9) rfl (by omega) (gf := 82) (lb := #[.pointer (some ⟨W.heap.size + 1 + 1 + 1 + 1, 0, none⟩), .pointer (some ⟨W.heap.size + 1 + 1 + 1 + 1 + 1, 0, none⟩), .pointer (some ⟨W.heap.size + 1 + 1 + 1 + 1 + 1 + 1, 0, none⟩)]) rfl trivial (enters_of Try.func82 (by kernel_rfl) rfl)
    HSQ (fun h k => h.trans k) (fun X q o o' hq hX hc => KpO.putObj _ hX hc (by omega)) (Below.refl _ _) (fun _ => rfl)
    (fun pre X => ((∃ v, ItemsIn (W.heap.size + 1) (pre.map f) X v) ∧ X.heap[W.heap.size]? = some (.cells #[.int .i64 (most : Nat)] 3) ∧ X.heap[W.heap.size + 1 + 1]? = some (.cells #[.bool false] 4) ∧ X.heap[W.heap.size + 1 + 1 + 1]? = some (.cells #[.string ⟨#[]⟩] 9) ∧ Below W.heap.size W X) ∧ pre.length ≤ most)
    (fun c pre X => ∃ p y, ((∃ v, ItemsIn (W.heap.size + 1) (p.map f) X v) ∧ X.heap[W.heap.size + 1 + 1]? = some (.cells #[.bool true] 4) ∧ X.heap[W.heap.size + 1 + 1 + 1]? = some (.cells #[.string (f y).1] 9) ∧ Below W.heap.size W X) ∧ pre = p ++ [y] ∧ c = .exit 0 ∧ p.length = most)
    ?hI ?hIx ⟨⟨⟨_, ⟨hA, World.ownsRow_nil _ _ _ _⟩⟩, h0, h2, h3, hbV⟩, by simp⟩
    (fun y a' => a' = { tmps := #[.pointer g, .string u, .string v, .int .i64 (most : Nat), undef, undef, undef, .pointer (some ⟨W.heap.size, 0, none⟩), .slice none 0 0, .bool false, .string ⟨#[]⟩, .pointer (some ⟨W.heap.size + 1, 0, none⟩), .pointer (some ⟨W.heap.size + 1 + 1, 0, none⟩), .pointer (some ⟨W.heap.size + 1 + 1 + 1, 0, none⟩), .string (f y).1, .string (f y).2, .pointer g, .string u, .string v, .func (.func 82) #[] #[.pointer (some ⟨W.heap.size + 1 + 1 + 1 + 1, 0, none⟩), .pointer (some ⟨W.heap.size + 1 + 1 + 1 + 1 + 1, 0, none⟩), .pointer (some ⟨W.heap.size + 1 + 1 + 1 + 1 + 1 + 1, 0, none⟩)], .string (f y).1, .string (f y).2, undef, undef, undef, undef, undef, undef, undef, undef, undef, undef, undef, undef, undef, undef], defers := [] })
    ?assign ?body ?done ?stop)
  case hI => exact OwnFrom.and (OwnFrom.and (ItemsIn.from f _ _) (OwnFrom.and (ownFrom_heap _ _ (fun _ => #[.int .i64 (most : Nat)]) _ _) (OwnFrom.and (ownFrom_heap _ _ (fun _ => #[.bool false]) _ _) (OwnFrom.and (ownFrom_heap _ _ (fun _ => #[.string ⟨#[]⟩]) _ _) (ownFrom_below (Nat.le_refl _) hVs))))) (fun _ _ _ _ hs _ _ => hs)
  case hIx =>
    exact fun c s X Y row ⟨p, y, h, e⟩ hg hr => ⟨p, y, (OwnFrom.and (ItemsIn.from f _ _) (OwnFrom.and (ownFrom_heap _ _ (fun _ => #[.bool true]) _ _) (OwnFrom.and (ownFrom_heap _ _ (fun _ => #[.string (f y).1]) _ _) (ownFrom_below (Nat.le_refl _) hVs)))) p X Y row h hg hr, e⟩
  case assign =>
    rintro ll pre y X K ⟨⟨iv, i3, i4, i5, iB⟩, iL⟩ hK
    have hA3 : W.heap.size + 1 < X.heap.size := by obtain ⟨v, hv⟩ := iv; exact lt_of_heap hv.heap
    have HK := hid hK
    clear hK iv i3 i4 i5 iB
    gi_wp2_with fail
    exact HK.out _ (by simp)
  case body =>
    rintro ll pre y a' X ⟨⟨⟨vi, iv⟩, i3, i4, i5, iB⟩, iL⟩ rfl hlen
    have hx3 := lt_of_heap i3
    have hx4 := lt_of_heap i4
    have hx5 := lt_of_heap i5
    have hxA := lt_of_heap iv.heap
    have hXs := iB.size
    have eA := fun i => cell_of_row X (W.heap.size + 1) i _ _ (0, 0) iv.heap
    have e3 := fun i => cell_of_row X W.heap.size i _ _ (0, 0) i3
    have HI := hid iv
    have HB := hid iB
    have H3 := hid i3
    have H4 := hid i4
    have H5 := hid i5
    have HPL := hid (show (pre.map f).length ≤ 900 by rw [List.length_map]; omega)
    obtain ⟨ao, cc, rfl⟩ := owns_slice HI.out.row
    obtain ⟨b, he⟩ : ∃ b, decide ((most : Int) ≤ ((pre.map f).length : Int)) = b := ⟨_, rfl⟩
    have hb : (b = true ↔ pre.length = most) := by rw [← he]; simp; omega
    have HBB := hid hb
    clear iv iB i3 i4 i5 hb
    have hpl := HPL.out
    generalize hnl : (pre.map f).length = n at HI hpl eA he ⊢
    have hnn : pre.length = n := by rw [← hnl, List.length_map]
    clear hnl
    cases b
    · have hnm : ¬ most ≤ n := by simpa using he
      have hnmI : ¬ (most : Int) ≤ (n : Int) := by omega
      gi_wp2_with (first | (gi_at_builtin; refine wpListIn_append_ex (by rfl) _ _ _ (by rfl) _ _ (by rfl) (by rfl) (HI.out.app (by repeat' (first | exact Below.refl _ _ | with_reducible assumption | omega | with_reducible refine below_put_fut ?_ ?_ _ | with_reducible refine below_to_put ?_ | with_reducible refine Below.alloc ?_ ?_ _ | with_reducible refine Below.fut ?_ ?_ _ | with_reducible refine Below.drew ?_ | with_reducible refine Below.setCell ?_ ?_ _ | with_reducible refine Below.atPut ?_ ?_ _ | (simp [go_sem]; done) | (simp [go_sem]; omega))) HPL.out (f y) (by repeat' (first | rfl | assumption | (with_reducible refine (heap_drew_eq _ _).trans ?_) | (refine (Fut.heap _ _ ?_).trans ?_ ; focus (first | assumption | omega | (simp [go_sem]; done) | (simp [go_sem]; omega))) | (refine (heap_put_at _ _ _ ?_).trans ?_ ; focus (first | assumption | omega | (simp [go_sem]; done) | (simp [go_sem]; omega))) | (refine (heap_put_other _ _ _ _ ?_).trans ?_ ; focus (first | assumption | omega | (simp [go_sem]; done) | (simp [go_sem]; omega))) | (refine (heap_alloc_other _ _ _ ?_).trans ?_ ; focus (first | assumption | omega | (simp [go_sem]; done) | (simp [go_sem]; omega))) | (refine (heap_alloc_at _ _ _ ?_).trans ?_ ; focus (first | assumption | omega | (simp [go_sem]; done) | (simp [go_sem]; omega))) | (simp [go_sem]; done) | (simp [go_sem]; omega)))) ?_; rintro v4 w4 ⟨hAb, hAl, hin, hkp, hbl, hkf⟩; obtain ⟨ao4, cc4, rfl⟩ := owns_slice hin.row; generalize (List.map f pre ++ [f y]).length = n4 at hin hkp hbl hkf ⊢; have HIN := hid hin; have HKP := hid hkp; have HBL := hid hbl; have HKF := hid hkf; clear hin hkp hbl hkf; rw [← put_self hAb]; clear hAb))
      have hk3 := (HKP.out.typ _ _ _ _ H3.out (by decide) (by omega) (fun h => h)).trans H3.out
      have hk4 := (HKP.out.typ _ _ _ _ H4.out (by decide) (by omega) (fun h => h)).trans H4.out
      have hk5 := (HKP.out.typ _ _ _ _ H5.out (by decide) (by omega) (fun h => h)).trans H5.out
      exact ⟨HKF.out _, HKP.out, ⟨⟨⟨_, by rw [List.map_append]; exact HIN.out⟩, hk3, hk4, hk5, HB.out.trans (HBL.out.mono (by omega))⟩, by rw [List.length_append]; simp; omega⟩⟩
    · have hnm : most ≤ n := by simpa using he
      have hnmI : (most : Int) ≤ (n : Int) := by omega
      have e4 := fun i => cell_of_row X (W.heap.size + 1 + 1) i _ _ (0, 0) H4.out
      have e5 := fun i => cell_of_row X (W.heap.size + 1 + 1 + 1) i _ _ (0, 0) H5.out
      have f4 := fun i => frozen_of H4.out i
      have f5 := fun i => frozen_of H5.out i
      gi_wp2_with fail
      have h5' : (put X (W.heap.size + 1 + 1) (.cells #[.bool true] 4)).heap[W.heap.size + 1 + 1 + 1]? = some (.cells #[.string ⟨#[]⟩] 9) := (heap_put_other _ _ _ _ (by omega)).trans H5.out
      have ew : (X.setCell ⟨W.heap.size + 1 + 1, 0, none⟩ (.bool true)).setCell ⟨W.heap.size + 1 + 1 + 1, 0, none⟩ (.string (f y).1) = put (put X (W.heap.size + 1 + 1) (.cells #[.bool true] 4)) (W.heap.size + 1 + 1 + 1) (.cells #[.string (f y).1] 9) := by
        rw [setCell_row H4.out, show (#[Value.bool false].setIfInBounds 0 (.bool true)) = #[.bool true] from rfl, setCell_row h5']
        rfl
      rw [ew]
      have hch : Chg (fun k => k = W.heap.size + 1 + 1 ∨ k = W.heap.size + 1 + 1 + 1) X (put (put X (W.heap.size + 1 + 1) (.cells #[.bool true] 4)) (W.heap.size + 1 + 1 + 1) (.cells #[.string (f y).1] 9)) := (((Chg.refl _ X).put (fun _ => .inl rfl) _).put (fun _ => .inr rfl) _)
      refine ⟨KeepsFrom.chg hch (fun k hk => by omega), pre, y, ⟨⟨_, ⟨(hch.block _ (by omega) (by omega)).trans HI.out.heap, ?_⟩⟩, ?_, heap_put_at _ _ _ (by rw [size_put]; omega), HB.out.trans (hch.below (by omega) fun k hk => by omega)⟩, rfl, rfl, by omega⟩
      · refine owns_heap HI.out.row fun k hk => hch.block k ?_ ?_
        · exact (HI.out.row.lt k hk).2
        · intro h
          have := (HI.out.row.lt k hk).1
          rcases HI.out.row.2 with ⟨e, _⟩ | ⟨r, cap, cur, e, _, hh, _⟩
          · rw [e] at hk; simp [Value.ownBlock] at hk
          · rw [e] at hk
            have : r = k := by simpa [Value.ownBlock] using hk
            subst this
            rcases h with rfl | rfl
            · have := hh.symm.trans H4.out; cases this
            · have := hh.symm.trans H5.out; cases this
      · exact (heap_put_other _ _ _ _ (by omega)).trans (heap_put_at _ _ _ (by omega))
  case done =>
    rintro D ys X hD hys ⟨⟨⟨vi, iv⟩, i3, i4, i5, iB⟩, iL⟩ hK
    have hys : L = ys := hys.symm
    subst hys
    clear i3
    obtain ⟨ao, cc, rfl⟩ := owns_slice iv.row
    have hxA := lt_of_heap iv.heap
    have hx4 := lt_of_heap i4
    have hx5 := lt_of_heap i5
    have eA := fun i => cell_of_row X (W.heap.size + 1) i _ _ (0, 0) iv.heap
    have e4 := fun i => cell_of_row X (W.heap.size + 1 + 1) i _ _ (0, 0) i4
    have e5 := fun i => cell_of_row X (W.heap.size + 1 + 1 + 1) i _ _ (0, 0) i5
    have hfin := hid (fun o' => (show ItemsIn (W.heap.size + 1) (L.map f) X.drew (.slice ao (L.map f).length cc) from ⟨iv.heap, iv.row⟩).fin (show X.drew.heap[D]? = _ from hK) o')
    have hfrs : ∀ k, k < W.heap.size → blk (.slice ao (L.map f).length cc) k = 0 := fun k hk => by
      rcases Nat.eq_zero_or_pos (blk (.slice ao (L.map f).length cc) k) with e | e
      · exact e
      · have := (iv.row.lt k (blk_ne (by omega))).1
        omega
    have HB := hid iB
    have HK := hid hK
    have HT := hid (show (L.map f).take most = L.map f by exact List.take_of_length_le (by rw [List.length_map]; omega))
    have HMO := hid (show decide (most < L.length) = false by simp; omega)
    have HNX := hid (show (((L.map f)[most]?).map (·.1)).getD ⟨#[]⟩ = (⟨#[]⟩ : ByteArray) by rw [List.getElem?_eq_none (by rw [List.length_map]; omega)]; rfl)
    obtain ⟨n, hnl⟩ : ∃ n, (L.map f).length = n := ⟨_, rfl⟩
    have HN := hid (show n = min L.length most by rw [← hnl, List.length_map]; omega)
    rw [hnl] at hfin eA hfrs
    have HFRS := hid hfrs
    clear iv iB hK hnl hfrs i4 i5
    go_wp2_with fail
    go_region
    go_wp2_with fail
    refine ⟨by simp, .inl ⟨_, _, rfl, run_takeDeferred (show X.drew.heap[D]? = _ from HK.out), ?_⟩⟩
    exact ⟨.tuple #[.slice ao n cc, .bool false, .string ⟨#[]⟩], by simp [results, Try.results61, go_sem], ao, n, cc, by rw [HMO.out, HNX.out], by rw [HT.out]; exact hfin.out _, HN.out, HB.out.drew.trans (belowK_b (w := W) (Nat.le_refl _) X.drew D _ _ (by omega) (show X.drew.heap[D]? = _ from HK.out) rfl rfl), HFRS.out⟩
  case stop =>
    rintro D c pre X hD ⟨q, hq, rfl⟩ ⟨p, y, ⟨⟨vi, iv⟩, i4, i5, iB⟩, hpy, rfl, iL⟩ hK
    have hsplit : L = p ++ y :: L.drop q := by
      conv => lhs; rw [← List.take_append_drop q L, hpy]
      simp
    obtain ⟨ao, cc, rfl⟩ := owns_slice iv.row
    have hxA := lt_of_heap iv.heap
    have hx4 := lt_of_heap i4
    have hx5 := lt_of_heap i5
    have eA := fun i => cell_of_row X (W.heap.size + 1) i _ _ (0, 0) iv.heap
    have e4 := fun i => cell_of_row X (W.heap.size + 1 + 1) i _ _ (0, 0) i4
    have e5 := fun i => cell_of_row X (W.heap.size + 1 + 1 + 1) i _ _ (0, 0) i5
    have hfin := hid (fun o' => (show ItemsIn (W.heap.size + 1) (p.map f) X.drew (.slice ao (p.map f).length cc) from ⟨iv.heap, iv.row⟩).fin (show X.drew.heap[D]? = _ from hK) o')
    have hfrs : ∀ k, k < W.heap.size → blk (.slice ao (p.map f).length cc) k = 0 := fun k hk => by
      rcases Nat.eq_zero_or_pos (blk (.slice ao (p.map f).length cc) k) with e | e
      · exact e
      · have := (iv.row.lt k (blk_ne (by omega))).1
        omega
    have HB := hid iB
    have HK := hid hK
    have HT := hid (show (L.map f).take most = p.map f by rw [hsplit, List.map_append, List.take_left' (by rw [List.length_map]; exact iL)])
    have HMO := hid (show decide (most < L.length) = true by rw [hsplit]; simp; omega)
    have HNX := hid (show (((L.map f)[most]?).map (·.1)).getD ⟨#[]⟩ = (f y).1 by rw [hsplit, List.map_append, List.getElem?_append_right (by rw [List.length_map]; omega), List.length_map, iL]; simp)
    obtain ⟨n, hnl⟩ : ∃ n, (p.map f).length = n := ⟨_, rfl⟩
    have HN := hid (show n = min L.length most by have h1 := HMO.out; simp at h1; rw [← hnl, List.length_map]; omega)
    rw [hnl] at hfin eA hfrs
    have HFRS := hid hfrs
    clear iv iB hK hnl hfrs i4 i5 hpy hsplit
    rw [wpIn_wide]
    go_wp2_with fail
    go_region
    go_wp2_with fail
    refine ⟨by simp, .inl ⟨_, _, rfl, run_takeDeferred (show X.drew.heap[D]? = _ from HK.out), ?_⟩⟩
    exact ⟨.tuple #[.slice ao n cc, .bool true, .string (f y).1], by simp [results, Try.results61, go_sem], ao, n, cc, by rw [HMO.out, HNX.out], by rw [HT.out]; exact hfin.out _, HN.out, HB.out.drew.trans (belowK_b (w := W) (Nat.le_refl _) X.drew D _ _ (by omega) (show X.drew.heap[D]? = _ from HK.out) rfl rfl), HFRS.out⟩
end Go.Proofs.Ythknenhcnpgkcaa
