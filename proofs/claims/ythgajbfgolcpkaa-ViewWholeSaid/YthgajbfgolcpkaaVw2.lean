import Derived.Test.YthgajbfgolcpkaaObj
/- A view: its parts as cells; place. -/
namespace Go.Proofs.Ythgajbfgolcpkaa
open Go.RowKit
set_option linter.unusedVariables false
set_option linter.unusedSimpArgs false
/-- A part: where it begins, who has it (-1: nobody), since when. -/
abbrev Pt := Int × Int × Int
def ptl (p : Pt) : List Value := [.int .u64 p.1, .int .i64 p.2.1, .int .i64 p.2.2]
def flatV : List Pt → List Value
  | [] => []
  | p :: l => ptl p ++ flatV l
theorem flatV_append : ∀ a b : List Pt, flatV (a ++ b) = flatV a ++ flatV b
  | [], _ => rfl
  | p :: a, b => by simp [flatV, flatV_append a b]
theorem flatV_length : ∀ a : List Pt, (flatV a).length = a.length * 3
  | [] => rfl
  | p :: a => by simp [flatV, ptl, flatV_length a]; omega
theorem flatV_one : ∀ (a : List Pt), ∀ u ∈ flatV a, u.oneCell' = true
  | [], u, h => by simp [flatV] at h
  | p :: a, u, h => by
    rcases List.mem_append.1 h with h | h
    · simp [ptl] at h; rcases h with rfl | rfl | rfl <;> rfl
    · exact flatV_one a u h
theorem flatV_take : ∀ (a : List Pt) (i : Nat), (flatV a).take (i * 3) = flatV (a.take i)
  | _, 0 => by simp [flatV]
  | [], i + 1 => by simp [flatV]
  | p :: a, i + 1 => by
    rw [show (i + 1) * 3 = (ptl p).length + i * 3 from by simp [ptl]; omega, flatV, List.take_length_add_append, flatV_take a i]; rfl
theorem flatV_drop : ∀ (a : List Pt) (i : Nat), (flatV a).drop (i * 3) = flatV (a.drop i)
  | _, 0 => by simp
  | [], i + 1 => by simp [flatV]
  | p :: a, i + 1 => by
    rw [show (i + 1) * 3 = (ptl p).length + i * 3 from by simp [ptl]; omega, flatV, List.drop_length_add_append, flatV_drop a i]; rfl
theorem flatV_at {a : List Pt} {i : Nat} {p : Pt} (h : a[i]? = some p) (j : Nat) (u : Value) (hu : (ptl p)[j]? = some u) : (flatV a)[i * 3 + j]? = some u := by
  have hj : j < 3 := (List.getElem?_eq_some_iff.1 hu).1
  obtain ⟨hl, rfl⟩ := List.getElem?_eq_some_iff.1 h
  have e : a = a.take i ++ (a[i] :: a.drop (i + 1)) := by simp
  rw [e, flatV_append, List.getElem?_append_right (by rw [flatV_length, List.length_take]; omega), flatV_length, List.length_take, Nat.min_eq_left (by omega), flatV, List.getElem?_append_left (by simp [ptl]; omega)]
  rw [show i * 3 + j - i * 3 = j from by omega]; exact hu
@[reducible] def viewObj (v : Value) : Obj := .cells #[v] 75
/-- Block g is a view of the parts l. -/
abbrev ViewAt (w0 : Base) (g : Nat) (l : List Pt) (W : World) (v : Value) : Prop := ObjAt (viewObj v) 106 3 w0 g l.length (flatV l) W v
theorem part_cells {W : World} {b r n cap : Nat} {l : List Pt} (h : W.ownsRow b 106 3 (.slice (some ⟨r, 0, none⟩) n cap) n (flatV l)) {k : Nat} {p : Pt} (hp : l[k]? = some p) :
    W.cell? ⟨r, k * 3, none⟩ = some (.int .u64 p.1) ∧ W.cell? ⟨r, k * 3 + 1, none⟩ = some (.int .i64 p.2.1) ∧ W.cell? ⟨r, k * 3 + 2, none⟩ = some (.int .i64 p.2.2) := by
  have hc := h.cells (g := r) rfl
  have h0 := hc _ _ (flatV_at hp 0 _ rfl)
  have h1 := hc _ _ (flatV_at hp 1 _ rfl)
  have h2 := hc _ _ (flatV_at hp 2 _ rfl)
  rw [add_none] at h0 h1 h2
  simp only [Nat.zero_add, Nat.add_zero] at h0 h1 h2
  exact ⟨h0, h1, h2⟩
/-- Where a point lies, of the first k parts. -/
def placeTo (x : Int) (l : List Pt) : Nat → Nat
  | 0 => 0
  | k + 1 => match l[k]? with
    | some p => if p.1 ≤ x then k else placeTo x l k
    | none => placeTo x l k
theorem placeTo_yes {x : Int} {l : List Pt} {k : Nat} {p : Pt} (h : l[k]? = some p) (hx : p.1 ≤ x) : placeTo x l (k + 1) = k := by simp [placeTo, h, hx]
theorem placeTo_no {x : Int} {l : List Pt} {k : Nat} {p : Pt} (h : l[k]? = some p) (hx : x < p.1) : placeTo x l (k + 1) = placeTo x l k := by
  have : ¬ p.1 ≤ x := by omega
  simp [placeTo, h, this]
set_option maxRecDepth 100000 in
set_option maxHeartbeats 4000000 in
theorem place_is {w0 : Base} {g : Nat} {l : List Pt} {W : World} {v : Value} (h : ViewAt w0 g l W v) (n : Nat) (hn : l.length = n) (hl : n ≤ 1000) (x : Int) :
    Calls Try.prog 67 #[.pointer (some ⟨g, 0, none⟩), .int .u64 x] W (Makes (.int .i64 (placeTo x l n : Nat)) W) := by
  have hc := cell_of_row W g 0 _ _ (0, 0) h.heap
  have ho := h.owns
  obtain ⟨ao, cc, rfl⟩ := owns_slice ho
  have hrl : ∀ r, ao = some ⟨r, 0, none⟩ → r < W.heap.size := fun r hr => by subst hr; exact (ho.lt r rfl).2
  rw [hn] at ho hc
  have HRL := hid hrl
  have HO := hid ho
  have HN := hid hn
  have hg := h.lt
  clear h ho hn hrl
  go_enter Try.func67, Try.ntmps67
  go_wp2_with fail
  go_loopw [5, 13] (fun a i wr => ∃ k : Nat, k ≤ n ∧ i = .int .i64 k ∧ a = .int .i64 (placeTo x l k : Nat) ∧ ∃ u : Fut W, wr = u.val) (fun _ i _ => n - (intOf i).toNat)
  case atStart => exact ⟨0, Nat.zero_le _, rfl, rfl, ⟨⟨_, (by repeat' (first | exact Below.refl _ _ | with_reducible assumption | omega | with_reducible refine below_put_fut ?_ ?_ _ | with_reducible refine below_to_put ?_ | with_reducible refine Below.alloc ?_ ?_ _ | with_reducible refine Below.fut ?_ ?_ _ | with_reducible refine Below.drew ?_ | with_reducible refine Below.setCell ?_ ?_ _ | with_reducible refine Below.atPut ?_ ?_ _ | (simp [go_sem]; done) | (simp [go_sem]; omega)))⟩, rfl⟩⟩
  case round =>
    obtain ⟨k, hk, rfl, rfl, u, rfl⟩ := hrel
    by_cases hlt : k < n
    · obtain ⟨p, hp⟩ : ∃ p, l[k]? = some p := ⟨l[k]'(by rw [HN.out]; exact hlt), List.getElem?_eq_getElem _⟩
      obtain ⟨r, rfl⟩ : ∃ r, ao = some ⟨r, 0, none⟩ := by
        obtain ⟨r, cap, h2, _, _⟩ := World.ownsRow.form HO.out (by omega)
        injection h2 with h2; exact ⟨r, h2⟩
      obtain ⟨c0, c1, c2⟩ := part_cells HO.out hp
      have hl2 := HRL.out r rfl
      rcases Int.lt_or_le x p.1 with cx | cx
      · have HP := hid (placeTo_no hp cx)
        clear hp
        go_wp2_with (first | (((with_reducible refine wp_region_fut_lit (by kernel_rfl) (by kernel_rfl) ?_)); (repeat (go_big_quiet_step ((first | fail)))); ((with_reducible refine wpQuiet_nil ?_)); rintro _ ⟨u, rfl⟩; (try (rw [Fut.put_self u (by first | assumption | (simp [go_sem]; done) | (simp [go_sem]; omega))]))))
        go_roundw
        case rel => exact ⟨k + 1, by omega, by go_num, by rw [HP.out], ⟨⟨u.val.alloc _, Below.alloc u.below u.below.size _⟩, rfl⟩⟩
        case measure => simp [intOf]; omega
      · have HP := hid (placeTo_yes hp cx)
        clear hp
        go_wp2_with (first | (((with_reducible refine wp_region_fut_lit (by kernel_rfl) (by kernel_rfl) ?_)); (repeat (go_big_quiet_step ((first | fail)))); ((with_reducible refine wpQuiet_nil ?_)); rintro _ ⟨u, rfl⟩; (try (rw [Fut.put_self u (by first | assumption | (simp [go_sem]; done) | (simp [go_sem]; omega))]))))
        go_roundw
        case rel => exact ⟨k + 1, by omega, by go_num, by rw [HP.out], ⟨⟨u.val.alloc _, Below.alloc u.below u.below.size _⟩, rfl⟩⟩
        case measure => simp [intOf]; omega
    · obtain rfl : k = n := by omega
      go_wp2_with (first | (((with_reducible refine wp_region_fut_lit (by kernel_rfl) (by kernel_rfl) ?_)); (repeat (go_big_quiet_step ((first | fail)))); ((with_reducible refine wpQuiet_nil ?_)); rintro _ ⟨u, rfl⟩; (try (rw [Fut.put_self u (by first | assumption | (simp [go_sem]; done) | (simp [go_sem]; omega))]))))
      go_ret; exact .mk (by first | rfl | (simp; done) | (simp; omega)) (by repeat' (first | exact Below.refl _ _ | with_reducible assumption | omega | with_reducible refine below_put_fut ?_ ?_ _ | with_reducible refine below_to_put ?_ | with_reducible refine Below.alloc ?_ ?_ _ | with_reducible refine Below.fut ?_ ?_ _ | with_reducible refine Below.drew ?_ | with_reducible refine Below.setCell ?_ ?_ _ | with_reducible refine Below.atPut ?_ ?_ _ | (simp [go_sem]; done) | (simp [go_sem]; omega)))
end Go.Proofs.Ythgajbfgolcpkaa
