import Derived.Test.YthknenhcnpgkcaaWk4
/- arc.Pieces, as package walk meets it. -/
namespace Go.Proofs.Ythknenhcnpgkcaa
open Go.RowKit Go.Shelf
set_option linter.unusedVariables false
set_option linter.unusedSimpArgs false
/-- The pieces of an arc, in its order: none goes round the ring's end. -/
def piecesA (a b : Int) : List (Int × Int) := if b = 0 then [(a, b)] else if a < b then [(a, b)] else [(a, 0), (0, b)]
def flatC : List (Int × Int) → List Value
  | [] => []
  | p :: l => .int .u64 p.1 :: .int .u64 p.2 :: flatC l
theorem piecesA_len (a b : Int) : (piecesA a b).length ≤ 2 := by unfold piecesA; repeat (first | split | simp)
set_option maxRecDepth 100000 in
theorem arcPieces_is (a b : Int) (W : World) :
    Calls Try.prog 81 #[.agg #[.int .u64 a, .int .u64 b]] W fun en W' => ∃ r, W.heap.size ≤ r ∧ en = .returned (.slice (some ⟨r, 0, none⟩) (piecesA a b).length (piecesA a b).length) ∧ Below W.heap.size W W' ∧ W'.heap[r]? = some (.cells (flatC (piecesA a b)).toArray 38) := by
  by_cases h0 : b = 0
  · have e : piecesA a b = [(a, b)] := by unfold piecesA; rw [if_pos h0]
    rw [e]
    clear e
    have e0 : (b == 0) = true := by simp [h0]
    clear h0
    go_enter Try.func81, Try.ntmps81
    go_wp2_with fail
    go_ret
    refine ⟨_, ?_, rfl, (by repeat' (first | exact Below.refl _ _ | with_reducible assumption | omega | with_reducible refine below_put_fut ?_ ?_ _ | with_reducible refine below_to_put ?_ | with_reducible refine Below.alloc ?_ ?_ _ | with_reducible refine Below.fut ?_ ?_ _ | with_reducible refine Below.drew ?_ | with_reducible refine Below.setCell ?_ ?_ _ | with_reducible refine Below.atPut ?_ ?_ _ | (simp [go_sem]; done) | (simp [go_sem]; omega))), (by repeat' (first | rfl | assumption | (with_reducible refine (heap_drew_eq _ _).trans ?_) | (refine (Fut.heap _ _ ?_).trans ?_ ; focus (first | assumption | omega | (simp [go_sem]; done) | (simp [go_sem]; omega))) | (refine (heap_put_at _ _ _ ?_).trans ?_ ; focus (first | assumption | omega | (simp [go_sem]; done) | (simp [go_sem]; omega))) | (refine (heap_put_other _ _ _ _ ?_).trans ?_ ; focus (first | assumption | omega | (simp [go_sem]; done) | (simp [go_sem]; omega))) | (refine (heap_alloc_other _ _ _ ?_).trans ?_ ; focus (first | assumption | omega | (simp [go_sem]; done) | (simp [go_sem]; omega))) | (refine (heap_alloc_at _ _ _ ?_).trans ?_ ; focus (first | assumption | omega | (simp [go_sem]; done) | (simp [go_sem]; omega))) | (simp [go_sem]; done) | (simp [go_sem]; omega)))⟩
    simp [go_sem]
  · have e0 : (b == 0) = false := by simp [h0]
    by_cases h1 : a < b
    · have e : piecesA a b = [(a, b)] := by unfold piecesA; rw [if_neg h0, if_pos h1]
      rw [e]
      clear e h0
      have e1 : decide (a < b) = true := by simp [h1]
      go_enter Try.func81, Try.ntmps81
      go_wp2_with fail
      go_ret
      refine ⟨_, ?_, rfl, (by repeat' (first | exact Below.refl _ _ | with_reducible assumption | omega | with_reducible refine below_put_fut ?_ ?_ _ | with_reducible refine below_to_put ?_ | with_reducible refine Below.alloc ?_ ?_ _ | with_reducible refine Below.fut ?_ ?_ _ | with_reducible refine Below.drew ?_ | with_reducible refine Below.setCell ?_ ?_ _ | with_reducible refine Below.atPut ?_ ?_ _ | (simp [go_sem]; done) | (simp [go_sem]; omega))), (by repeat' (first | rfl | assumption | (with_reducible refine (heap_drew_eq _ _).trans ?_) | (refine (Fut.heap _ _ ?_).trans ?_ ; focus (first | assumption | omega | (simp [go_sem]; done) | (simp [go_sem]; omega))) | (refine (heap_put_at _ _ _ ?_).trans ?_ ; focus (first | assumption | omega | (simp [go_sem]; done) | (simp [go_sem]; omega))) | (refine (heap_put_other _ _ _ _ ?_).trans ?_ ; focus (first | assumption | omega | (simp [go_sem]; done) | (simp [go_sem]; omega))) | (refine (heap_alloc_other _ _ _ ?_).trans ?_ ; focus (first | assumption | omega | (simp [go_sem]; done) | (simp [go_sem]; omega))) | (refine (heap_alloc_at _ _ _ ?_).trans ?_ ; focus (first | assumption | omega | (simp [go_sem]; done) | (simp [go_sem]; omega))) | (simp [go_sem]; done) | (simp [go_sem]; omega)))⟩
      simp [go_sem]
    · have e1 : decide (a < b) = false := by simp; omega
      have e : piecesA a b = [(a, 0), (0, b)] := by unfold piecesA; rw [if_neg h0, if_neg h1]
      rw [e]
      clear e h0 h1
      go_enter Try.func81, Try.ntmps81
      go_wp2_with fail
      go_ret
      refine ⟨_, ?_, rfl, (by repeat' (first | exact Below.refl _ _ | with_reducible assumption | omega | with_reducible refine below_put_fut ?_ ?_ _ | with_reducible refine below_to_put ?_ | with_reducible refine Below.alloc ?_ ?_ _ | with_reducible refine Below.fut ?_ ?_ _ | with_reducible refine Below.drew ?_ | with_reducible refine Below.setCell ?_ ?_ _ | with_reducible refine Below.atPut ?_ ?_ _ | (simp [go_sem]; done) | (simp [go_sem]; omega))), (by repeat' (first | rfl | assumption | (with_reducible refine (heap_drew_eq _ _).trans ?_) | (refine (Fut.heap _ _ ?_).trans ?_ ; focus (first | assumption | omega | (simp [go_sem]; done) | (simp [go_sem]; omega))) | (refine (heap_put_at _ _ _ ?_).trans ?_ ; focus (first | assumption | omega | (simp [go_sem]; done) | (simp [go_sem]; omega))) | (refine (heap_put_other _ _ _ _ ?_).trans ?_ ; focus (first | assumption | omega | (simp [go_sem]; done) | (simp [go_sem]; omega))) | (refine (heap_alloc_other _ _ _ ?_).trans ?_ ; focus (first | assumption | omega | (simp [go_sem]; done) | (simp [go_sem]; omega))) | (refine (heap_alloc_at _ _ _ ?_).trans ?_ ; focus (first | assumption | omega | (simp [go_sem]; done) | (simp [go_sem]; omega))) | (simp [go_sem]; done) | (simp [go_sem]; omega)))⟩
      simp [go_sem]
end Go.Proofs.Ythknenhcnpgkcaa
