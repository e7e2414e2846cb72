import Derived.Test.YthgajbfgolcpkaaScan5
/- Contracts of package scan: Result. -/
namespace Go.Proofs.Ythgajbfgolcpkaa
open Go.RowKit
set_option maxRecDepth 100000 in
set_option maxHeartbeats 4000000 in
theorem result_is (s : Sc) (w0 : Base) (g n : Nat) (xs : List Value) (W : World) (v : Value) (h : ScanAt s w0 g n xs W v) (hov : s.over = true) (hn : n ≤ 1000) (h1 : ∀ u ∈ xs, u.oneCell' = true) :
    Calls Try.prog 31 #[.pointer (some ⟨g, 0, none⟩)] W fun en W' => ∃ ao cc, en = .returned (.tuple #[.slice ao n cc, .bool s.more, .int .i64 s.e, .bool true]) ∧ W'.ownsRow W.heap.size 53 2 (.slice ao n cc) n xs ∧ ScanAt s w0 g n xs W' v := by
  cases s
  simp only at hov
  subst hov
  rename_i me nodes id tried op key val to am most at_ old waits on more e
  have hg := h.lt
  have hb := h.size
  have hobj := fun o' => h.upd (o' := o') (Below.refl _ _)
  rw [← put_self h.heap]
  clear h
  simp only [Sc.obj, size_put] at hobj ⊢
  have how : ∀ o', (put W g o').drew.ownsRow w0.heap.size 53 2 v n xs := fun o' => (hobj o').owns
  have hsz := fun o' => Nat.le_of_eq (size_put W g o').symm
  go_enter Try.func31, Try.ntmps31
  go_wp2
  go_region_law (go_simp; (refine Calls.mono (clone_is w0.heap.size v n xs _ (how (Obj.cells _ _)) hn h1 W.heap.size (hsz (Obj.cells _ _))) ?_); rintro _ w1 ⟨cv, rfl, hB, hO⟩; obtain ⟨ao, cc, rfl⟩ := owns_slice hO; have hz := ObjAt.on (ObjAt.drew_put (hobj (Obj.cells _ _))) hB; rw [← put_self hz.heap]; have hg1 := hz.lt; have hO2 := fun o' => owns_put hO (g := g) (fun e => by have := (hO.lt _ e).1; omega) o'; have hz2 := fun o' => hz.upd (o' := o') (Below.refl _ _))
  all_goals
    go_wp2
    refine bodyPost_ret (v := .tuple #[.slice ao n cc, .bool more, .int .i64 e, .bool true]) (by simp [results, Try.results31, go_sem]) rfl ⟨ao, cc, rfl, ?_, ?_⟩
    · simpa [go_sem] using hO2 _
    · exact hz2 _
end Go.Proofs.Ythgajbfgolcpkaa
