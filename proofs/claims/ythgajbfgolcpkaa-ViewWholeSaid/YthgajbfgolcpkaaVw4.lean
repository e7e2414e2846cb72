import Derived.Test.YthgajbfgolcpkaaVw3
/- A view: the pieces of an arc; has, alike. -/
namespace Go.Proofs.Ythgajbfgolcpkaa
open Go.RowKit
set_option linter.unusedVariables false
set_option linter.unusedSimpArgs false
theorem cut_is {w0 : Base} {g : Nat} {l : List Pt} {W : World} {v : Value} (h : ViewAt w0 g l W v) (hl : l.length ≤ 900) (x : Int) :
    Calls Try.prog 56 #[.pointer (some ⟨g, 0, none⟩), .int .u64 x] W fun en W' => en = .returned (.tuple #[]) ∧ ∃ v', ViewAt w0 g (cutL l x) W' v' := by
  cases l with
  | nil => exact cut_none h x
  | cons p l => exact cut_some h _ rfl hl (by simp) x
/-- The pieces of an arc. -/
def pieceL (a b : Int) : List (Int × Int) := if b = 0 then [(a, b)] else if a < b then [(a, b)] else if a = b then [(0, 0)] else [(0, b), (a, 0)]
def flatC : List (Int × Int) → List Value
  | [] => []
  | p :: l => .int .u64 p.1 :: .int .u64 p.2 :: flatC l
theorem pieceL_len (a b : Int) : (pieceL a b).length ≤ 2 := by unfold pieceL; repeat (first | split | simp)
set_option maxRecDepth 100000 in
theorem pieces_is (a b : Int) (W : World) :
    Calls Try.prog 55 #[.agg #[.int .u64 a, .int .u64 b]] W fun en W' => ∃ r, W.heap.size ≤ r ∧ en = .returned (.slice (some ⟨r, 0, none⟩) (pieceL a b).length (pieceL a b).length) ∧ Below W.heap.size W W' ∧ W'.heap[r]? = some (.cells (flatC (pieceL a b)).toArray 103) := by
  by_cases h0 : b = 0
  · have e : pieceL a b = [(a, b)] := by unfold pieceL; rw [if_pos h0]
    rw [e]
    clear e
    have e0 : (b == 0) = true := by simp [h0]
    clear h0
    go_enter Try.func55, Try.ntmps55
    go_wp2_with fail
    go_ret
    refine ⟨_, ?_, rfl, (by repeat' (first | exact Below.refl _ _ | with_reducible assumption | omega | with_reducible refine below_put_fut ?_ ?_ _ | with_reducible refine below_to_put ?_ | with_reducible refine Below.alloc ?_ ?_ _ | with_reducible refine Below.fut ?_ ?_ _ | with_reducible refine Below.drew ?_ | with_reducible refine Below.setCell ?_ ?_ _ | with_reducible refine Below.atPut ?_ ?_ _ | (simp [go_sem]; done) | (simp [go_sem]; omega))), (by repeat' (first | rfl | assumption | (with_reducible refine (heap_drew_eq _ _).trans ?_) | (refine (Fut.heap _ _ ?_).trans ?_ ; focus (first | assumption | omega | (simp [go_sem]; done) | (simp [go_sem]; omega))) | (refine (heap_put_at _ _ _ ?_).trans ?_ ; focus (first | assumption | omega | (simp [go_sem]; done) | (simp [go_sem]; omega))) | (refine (heap_put_other _ _ _ _ ?_).trans ?_ ; focus (first | assumption | omega | (simp [go_sem]; done) | (simp [go_sem]; omega))) | (refine (heap_alloc_other _ _ _ ?_).trans ?_ ; focus (first | assumption | omega | (simp [go_sem]; done) | (simp [go_sem]; omega))) | (refine (heap_alloc_at _ _ _ ?_).trans ?_ ; focus (first | assumption | omega | (simp [go_sem]; done) | (simp [go_sem]; omega))) | (simp [go_sem]; done) | (simp [go_sem]; omega)))⟩
    simp [go_sem]
  · have e0 : (b == 0) = false := by simp [h0]
    by_cases h1 : a < b
    · have e : pieceL a b = [(a, b)] := by unfold pieceL; rw [if_neg h0, if_pos h1]
      rw [e]
      clear e h0
      have e1 : decide (a < b) = true := by simp [h1]
      go_enter Try.func55, Try.ntmps55
      go_wp2_with fail
      go_ret
      refine ⟨_, ?_, rfl, (by repeat' (first | exact Below.refl _ _ | with_reducible assumption | omega | with_reducible refine below_put_fut ?_ ?_ _ | with_reducible refine below_to_put ?_ | with_reducible refine Below.alloc ?_ ?_ _ | with_reducible refine Below.fut ?_ ?_ _ | with_reducible refine Below.drew ?_ | with_reducible refine Below.setCell ?_ ?_ _ | with_reducible refine Below.atPut ?_ ?_ _ | (simp [go_sem]; done) | (simp [go_sem]; omega))), (by repeat' (first | rfl | assumption | (with_reducible refine (heap_drew_eq _ _).trans ?_) | (refine (Fut.heap _ _ ?_).trans ?_ ; focus (first | assumption | omega | (simp [go_sem]; done) | (simp [go_sem]; omega))) | (refine (heap_put_at _ _ _ ?_).trans ?_ ; focus (first | assumption | omega | (simp [go_sem]; done) | (simp [go_sem]; omega))) | (refine (heap_put_other _ _ _ _ ?_).trans ?_ ; focus (first | assumption | omega | (simp [go_sem]; done) | (simp [go_sem]; omega))) | (refine (heap_alloc_other _ _ _ ?_).trans ?_ ; focus (first | assumption | omega | (simp [go_sem]; done) | (simp [go_sem]; omega))) | (refine (heap_alloc_at _ _ _ ?_).trans ?_ ; focus (first | assumption | omega | (simp [go_sem]; done) | (simp [go_sem]; omega))) | (simp [go_sem]; done) | (simp [go_sem]; omega)))⟩
      simp [go_sem]
    · have e1 : decide (a < b) = false := by simp; omega
      by_cases h2 : a = b
      · have e : pieceL a b = [(0, 0)] := by unfold pieceL; rw [if_neg h0, if_neg h1, if_pos h2]
        have e2 : (a == b) = true := by simp [h2]
        rw [e]
        clear e h0 h1 h2
        go_enter Try.func55, Try.ntmps55
        go_wp2_with fail
        go_ret
        refine ⟨_, ?_, rfl, (by repeat' (first | exact Below.refl _ _ | with_reducible assumption | omega | with_reducible refine below_put_fut ?_ ?_ _ | with_reducible refine below_to_put ?_ | with_reducible refine Below.alloc ?_ ?_ _ | with_reducible refine Below.fut ?_ ?_ _ | with_reducible refine Below.drew ?_ | with_reducible refine Below.setCell ?_ ?_ _ | with_reducible refine Below.atPut ?_ ?_ _ | (simp [go_sem]; done) | (simp [go_sem]; omega))), (by repeat' (first | rfl | assumption | (with_reducible refine (heap_drew_eq _ _).trans ?_) | (refine (Fut.heap _ _ ?_).trans ?_ ; focus (first | assumption | omega | (simp [go_sem]; done) | (simp [go_sem]; omega))) | (refine (heap_put_at _ _ _ ?_).trans ?_ ; focus (first | assumption | omega | (simp [go_sem]; done) | (simp [go_sem]; omega))) | (refine (heap_put_other _ _ _ _ ?_).trans ?_ ; focus (first | assumption | omega | (simp [go_sem]; done) | (simp [go_sem]; omega))) | (refine (heap_alloc_other _ _ _ ?_).trans ?_ ; focus (first | assumption | omega | (simp [go_sem]; done) | (simp [go_sem]; omega))) | (refine (heap_alloc_at _ _ _ ?_).trans ?_ ; focus (first | assumption | omega | (simp [go_sem]; done) | (simp [go_sem]; omega))) | (simp [go_sem]; done) | (simp [go_sem]; omega)))⟩
        simp [go_sem]
      · have e : pieceL a b = [(0, b), (a, 0)] := by unfold pieceL; rw [if_neg h0, if_neg h1, if_neg h2]
        have e2 : (a == b) = false := by simp [h2]
        rw [e]
        clear e h0 h1 h2
        go_enter Try.func55, Try.ntmps55
        go_wp2_with fail
        go_ret
        refine ⟨_, ?_, rfl, (by repeat' (first | exact Below.refl _ _ | with_reducible assumption | omega | with_reducible refine below_put_fut ?_ ?_ _ | with_reducible refine below_to_put ?_ | with_reducible refine Below.alloc ?_ ?_ _ | with_reducible refine Below.fut ?_ ?_ _ | with_reducible refine Below.drew ?_ | with_reducible refine Below.setCell ?_ ?_ _ | with_reducible refine Below.atPut ?_ ?_ _ | (simp [go_sem]; done) | (simp [go_sem]; omega))), (by repeat' (first | rfl | assumption | (with_reducible refine (heap_drew_eq _ _).trans ?_) | (refine (Fut.heap _ _ ?_).trans ?_ ; focus (first | assumption | omega | (simp [go_sem]; done) | (simp [go_sem]; omega))) | (refine (heap_put_at _ _ _ ?_).trans ?_ ; focus (first | assumption | omega | (simp [go_sem]; done) | (simp [go_sem]; omega))) | (refine (heap_put_other _ _ _ _ ?_).trans ?_ ; focus (first | assumption | omega | (simp [go_sem]; done) | (simp [go_sem]; omega))) | (refine (heap_alloc_other _ _ _ ?_).trans ?_ ; focus (first | assumption | omega | (simp [go_sem]; done) | (simp [go_sem]; omega))) | (refine (heap_alloc_at _ _ _ ?_).trans ?_ ; focus (first | assumption | omega | (simp [go_sem]; done) | (simp [go_sem]; omega))) | (simp [go_sem]; done) | (simp [go_sem]; omega)))⟩
        simp [go_sem]
set_option maxRecDepth 100000 in
theorem alike_is (p q : Pt) (W : World) :
    Calls Try.prog 71 #[.agg #[.int .u64 p.1, .int .i64 p.2.1, .int .i64 p.2.2], .agg #[.int .u64 q.1, .int .i64 q.2.1, .int .i64 q.2.2]] W (Makes (.bool (decide (p.2 = q.2))) W) := by
  obtain ⟨a, b, c⟩ := p
  obtain ⟨a', b', c'⟩ := q
  by_cases h : b = b'
  · have e1 : (b == b') = true := by simp [h]
    by_cases h2 : c = c'
    · have e : decide ((b, c) = (b', c')) = true := by simp [h, h2]
      have e2 : (c == c') = true := by simp [h2]
      simp only [e]
      clear h h2 e
      go_enter Try.func71, Try.ntmps71
      go_wp2_with fail
      go_ret; exact .mk (by first | rfl | (simp; done) | (simp; omega)) (by repeat' (first | exact Below.refl _ _ | with_reducible assumption | omega | with_reducible refine below_put_fut ?_ ?_ _ | with_reducible refine below_to_put ?_ | with_reducible refine Below.alloc ?_ ?_ _ | with_reducible refine Below.fut ?_ ?_ _ | with_reducible refine Below.drew ?_ | with_reducible refine Below.setCell ?_ ?_ _ | with_reducible refine Below.atPut ?_ ?_ _ | (simp [go_sem]; done) | (simp [go_sem]; omega)))
    · have e : decide ((b, c) = (b', c')) = false := by simp [h2]
      have e2 : (c == c') = false := by simp [h2]
      simp only [e]
      clear h h2 e
      go_enter Try.func71, Try.ntmps71
      go_wp2_with fail
      go_ret; exact .mk (by first | rfl | (simp; done) | (simp; omega)) (by repeat' (first | exact Below.refl _ _ | with_reducible assumption | omega | with_reducible refine below_put_fut ?_ ?_ _ | with_reducible refine below_to_put ?_ | with_reducible refine Below.alloc ?_ ?_ _ | with_reducible refine Below.fut ?_ ?_ _ | with_reducible refine Below.drew ?_ | with_reducible refine Below.setCell ?_ ?_ _ | with_reducible refine Below.atPut ?_ ?_ _ | (simp [go_sem]; done) | (simp [go_sem]; omega)))
  · have e : decide ((b, c) = (b', c')) = false := by simp [h]
    have e1 : (b == b') = false := by simp [h]
    simp only [e]
    clear h e
    go_enter Try.func71, Try.ntmps71
    go_wp2_with fail
    go_ret; exact .mk (by first | rfl | (simp; done) | (simp; omega)) (by repeat' (first | exact Below.refl _ _ | with_reducible assumption | omega | with_reducible refine below_put_fut ?_ ?_ _ | with_reducible refine below_to_put ?_ | with_reducible refine Below.alloc ?_ ?_ _ | with_reducible refine Below.fut ?_ ?_ _ | with_reducible refine Below.drew ?_ | with_reducible refine Below.setCell ?_ ?_ _ | with_reducible refine Below.atPut ?_ ?_ _ | (simp [go_sem]; done) | (simp [go_sem]; omega)))
/-- Whether a point is in an arc. -/
def hasA (a b x : Int) : Bool := decide (a = b) || decide (IntKind.u64.wrap (x - a) < IntKind.u64.wrap (b - a))
set_option maxRecDepth 100000 in
theorem has_is (a b x : Int) (W : World) :
    Calls Try.prog 58 #[.agg #[.int .u64 a, .int .u64 b], .int .u64 x] W (Makes (.bool (hasA a b x)) W) := by
  by_cases h : a = b
  · have e : hasA a b x = true := by simp [hasA, h]
    have e1 : (a == b) = true := by simp [h]
    rw [e]
    clear h e
    go_enter Try.func58, Try.ntmps58
    go_wp2_with fail
    go_ret; exact .mk (by first | rfl | (simp; done) | (simp; omega)) (by repeat' (first | exact Below.refl _ _ | with_reducible assumption | omega | with_reducible refine below_put_fut ?_ ?_ _ | with_reducible refine below_to_put ?_ | with_reducible refine Below.alloc ?_ ?_ _ | with_reducible refine Below.fut ?_ ?_ _ | with_reducible refine Below.drew ?_ | with_reducible refine Below.setCell ?_ ?_ _ | with_reducible refine Below.atPut ?_ ?_ _ | (simp [go_sem]; done) | (simp [go_sem]; omega)))
  · have e : hasA a b x = decide (IntKind.u64.wrap (x - a) < IntKind.u64.wrap (b - a)) := by simp [hasA, h]
    have e1 : (a == b) = false := by simp [h]
    rw [e]
    clear h e
    go_enter Try.func58, Try.ntmps58
    go_wp2_with fail
    go_ret; exact .mk (by first | rfl | (simp; done) | (simp; omega)) (by repeat' (first | exact Below.refl _ _ | with_reducible assumption | omega | with_reducible refine below_put_fut ?_ ?_ _ | with_reducible refine below_to_put ?_ | with_reducible refine Below.alloc ?_ ?_ _ | with_reducible refine Below.fut ?_ ?_ _ | with_reducible refine Below.drew ?_ | with_reducible refine Below.setCell ?_ ?_ _ | with_reducible refine Below.atPut ?_ ?_ _ | (simp [go_sem]; done) | (simp [go_sem]; omega)))
end Go.Proofs.Ythgajbfgolcpkaa
