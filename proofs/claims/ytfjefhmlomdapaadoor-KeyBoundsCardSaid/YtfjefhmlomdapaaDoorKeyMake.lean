import Derived.Test.YtfjefhmlomdapaaDoorKeyAlive
import Derived.Test.YtfjefhmlomdapaaDoorCFrame
import Derived.Laws.BytesArg
import Derived.Deep.OwnRows
namespace Go.Proofs.YtfjefhmlomdapaaDoor
open Go.ChangeShapes Go.WideShapes Go.ChangeAt Go.RowKit Go.Joins Go.Deep
set_option linter.unusedVariables false
set_option linter.unusedSimpArgs false
theorem make_bytes (w : World) (k : Nat) (h : k ≤ 100) : (Instr.makeSlice 30 (.int .i64 k) (.int .i64 k)).run Tryd.prog w = .ok (.slice (some ⟨w.heap.size, 0, none⟩) k k) (w.alloc (.cells ((List.replicate k (0 : Int)).map (Value.int .u8)).toArray 5)) := by
  rw [run_make_row' (P := Tryd.prog) 30 5 (.int .u8 0) 1 Tryd.underlying30 (by kernel_rfl) rfl .i64 .i64 k (by omega) (by omega) w]
  have e : madeCells #[Value.int .u8 0] k = ((List.replicate k (0 : Int)).map (Value.int .u8)).toArray := by
    apply Array.toList_inj.1
    rw [toList_madeCells_one]; simp
  rw [e]
theorem conv_bytes (w : World) (xs : List Int) : (convert 30 9 (.slice (some ⟨w.heap.size, 0, none⟩) xs.length xs.length)).run Tryd.prog (w.alloc (.cells (xs.map (Value.int .u8)).toArray 5)) = .ok (.string (strOfNums xs)) (w.alloc (.cells (xs.map (Value.int .u8)).toArray 5)) := by
  refine run_convert_bytes_arg (P := Tryd.prog) _ 30 5 Tryd.underlying30 Tryd.underlying5 w.heap.size 0 _ _ xs rfl (fun i hi => ?_) _ Tryd.underlying9
  rw [World.cell?_alloc_new]
  simp [List.getElem?_eq_getElem (show i < xs.length from hi)]
theorem conv_fut (w : World) (xs : List Int) (u : Fut (w.alloc (.cells (xs.map (Value.int .u8)).toArray 5))) : (convert 30 9 (.slice (some ⟨w.heap.size, 0, none⟩) xs.length xs.length)).run Tryd.prog u.val = .ok (.string (strOfNums xs)) u.val := by
  refine run_convert_bytes_arg (P := Tryd.prog) _ 30 5 Tryd.underlying30 Tryd.underlying5 w.heap.size 0 _ _ xs rfl (fun i hi => ?_) _ Tryd.underlying9
  rw [Fut.cell _ _ _ (by simp), World.cell?_alloc_new]
  simp [List.getElem?_eq_getElem (show i < xs.length from hi)]
theorem zerosN (k : Nat) : strOfNums (List.replicate k 0) = bytesOf (List.replicate k 0) := by
  unfold strOfNums bytesOf; congr 2; rw [List.map_replicate]; rfl
theorem zeros_arr (k : Nat) : ((List.replicate k (0 : Int)).map (Value.int .u8)).toArray = Array.replicate k (Value.int .u8 0) := by simp
theorem conv_zeros (w : World) (k : Nat) : (convert 30 9 (.slice (some ⟨w.heap.size, 0, none⟩) k k)).run Tryd.prog (w.alloc (.cells (Array.replicate k (Value.int .u8 0)) 5)) = .ok (.string (strOfNums (List.replicate k 0))) (w.alloc (.cells (Array.replicate k (Value.int .u8 0)) 5)) := by
  have := conv_bytes w (List.replicate k 0)
  rw [zeros_arr, List.length_replicate] at this
  exact this
theorem make_zeros (w : World) (k : Nat) (h : k ≤ 100) : (Instr.makeSlice 30 (.int .i64 k) (.int .i64 k)).run Tryd.prog w = .ok (.slice (some ⟨w.heap.size, 0, none⟩) k k) (w.alloc (.cells (Array.replicate k (Value.int .u8 0)) 5)) := by
  rw [make_bytes w k h, zeros_arr]
theorem conv_zeros_at (w : World) (k : Nat) (b : Nat) (hb : w.heap.size = b) : (convert 30 9 (.slice (some ⟨b, 0, none⟩) k k)).run Tryd.prog (w.alloc (.cells (Array.replicate k (Value.int .u8 0)) 5)) = .ok (.string (strOfNums (List.replicate k 0))) (w.alloc (.cells (Array.replicate k (Value.int .u8 0)) 5)) := by
  subst hb; exact conv_zeros w k
theorem conv_bytes_at (w : World) (xs : List Int) (n b : Nat) (hn : xs.length = n) (hb : w.heap.size = b) : (convert 30 9 (.slice (some ⟨b, 0, none⟩) n n)).run Tryd.prog (w.alloc (.cells (xs.map (Value.int .u8)).toArray 5)) = .ok (.string (strOfNums xs)) (w.alloc (.cells (xs.map (Value.int .u8)).toArray 5)) := by
  subst hb hn; exact conv_bytes w xs
theorem conv_fut_at (w : World) (xs : List Int) (n b : Nat) (hn : xs.length = n) (hb : w.heap.size = b) (u : Fut (w.alloc (.cells (xs.map (Value.int .u8)).toArray 5))) : (convert 30 9 (.slice (some ⟨b, 0, none⟩) n n)).run Tryd.prog u.val = .ok (.string (strOfNums xs)) u.val := by
  subst hb hn; exact conv_fut w xs u
end Go.Proofs.YtfjefhmlomdapaaDoor
