/- Texts of this proof, merged: Dl9, DlA, DlB, DlC, DlD, DlE. -/
import Derived.Test.YthknenhcnpgkcaaMe
import Derived.Deep.LoopGhost
import Derived.Test.YthknenhcnpgkcaaMn
import Derived.Test.YthknenhcnpgkcaaMp
/- Contracts of package shelf: last. -/
namespace Go.Proofs.Ythknenhcnpgkcaa
set_option linter.unusedVariables false
set_option linter.unusedSimpArgs false
open Go.RowKit
/-- From a node on the way down to the last item. -/
def Down (k : Nat) (W : World) (q s : Kid) : Prop := ∃ lo pre, At k lo W s ∧ 1 ≤ lo ∧ q.xs = pre ++ s.xs
theorem Down.next {k : Nat} {W : World} {q s r : Kid} {its : List It} {kids : List Kid} (h : Down (k + 1) W q s) (hG : Good (k + 1) W its kids s.xs) (hr : kids[its.length]? = some r) : Down k W q r := by
  obtain ⟨lo, pre, _, _, hx⟩ := h
  obtain ⟨hl, hxs, hk⟩ := hG
  obtain ⟨L, R, rfl, hL⟩ := mid_of hr
  obtain rfl : R = [] := by
    cases R with
    | nil => rfl
    | cons a R => simp at hl; omega
  refine ⟨3, pre ++ wpre Kid.xs L its, hk r (by simp), by omega, ?_⟩
  have h2 := weave_split Kid.xs L its r [] [] hL rfl
  rw [List.append_nil] at h2
  rw [hx, hxs, h2, List.append_assoc]
  simp [wpost]
set_option maxRecDepth 100000 in
set_option maxHeartbeats 4000000 in
theorem last_is (d lo : Nat) (W : World) (q : Kid) (hq : At d lo W q) (hlo : 1 ≤ lo) :
    Calls Try.prog 123 #[.pointer (some ⟨q.p, 0, none⟩)] W fun e W' => ∃ x : It, e = .returned (.agg #[.string x.1, .string x.2]) ∧ Hid (∃ pre, q.xs = pre ++ [x]) ∧ ∃ u : Fut W, W' = u.val := by
  have HA := hid hq
  clear hq
  go_enter Try.func123, Try.ntmps123
  go_wp2_with fail
  go_loopg [0] d (fun k x0 wr => ∃ s : Kid, x0 = .pointer (some ⟨s.p, 0, none⟩) ∧ Hid (Down k W q s) ∧ ∃ u : Fut (W.alloc (.cells #[.string ⟨#[]⟩, .string ⟨#[]⟩] 34)), wr = u.val)
  case atStart => exact ⟨q, rfl, hid ⟨lo, [], HA.out, hlo, rfl⟩, ⟨⟨_, (by repeat' (first | exact Below.refl _ _ | with_reducible assumption | omega | with_reducible refine below_put_fut ?_ ?_ _ | with_reducible refine below_to_put ?_ | with_reducible refine Below.alloc ?_ ?_ _ | with_reducible refine Below.fut ?_ ?_ _ | with_reducible refine Below.drew ?_ | with_reducible refine Below.setCell ?_ ?_ _ | with_reducible refine Below.atPut ?_ ?_ _ | (simp [go_sem]; done) | (simp [go_sem]; omega)))⟩, rfl⟩⟩
  case round =>
    obtain ⟨s, rfl, HD, u, rfl⟩ := hrel
    obtain ⟨lo', pre, hat, hlo', hpre⟩ := HD.out
    obtain ⟨iv, bv, its, kids, hN, hl1, hl2, hG⟩ := hat.node
    obtain ⟨io, ic, rfl⟩ := owns_slice hN.items
    obtain ⟨bo, cb, rfl⟩ := owns_slice hN.below
    have hlt := hat.lt
    have hon := hid (fun W' (hB : Below W.heap.size W W') => hN.on hlt hB)
    have hrl := hN.lt
    have HN := hid hN
    have HG := hid hG
    have HX := hid hpre
    have hc2 := fun i => cell_of_row W s.p i _ _ (0, 0) HN.out.heap
    clear hN hG hat hlt hpre
    cases gk with
    | zero =>
      obtain ⟨hk, hx⟩ := HG.out
      obtain rfl : kids = [] := hk
      have HXX := hid hx
      clear hx
      obtain ⟨n, hn⟩ : ∃ n, its.length = n + 1 := ⟨its.length - 1, by omega⟩
      obtain ⟨A, x, hA, hAl, hxa⟩ := last_at hn
      have hit := HN.out.items
      rw [hn] at hit hon hc2
      obtain ⟨ri, rfl, x1, x2, lx⟩ := item_cell hit hxa hn
      have HAA := hid hA
      have HAL := hid hAl
      have en : IntKind.i64.wrap (((n + 1 : Nat) : Int) - 1) = (n : Int) := by rw [show ((n + 1 : Nat) : Int) - 1 = (n : Int) by omega]; exact IntWalk.i64_in _ (by omega)
      have en2 : IntKind.i64.wrap (n : Int) = (n : Int) := IntWalk.i64_in _ (by omega)
      have hnI : (n : Int) < ((n + 1 : Nat) : Int) := by omega
      have HLF := hid (show ((([] : List Kid).length : Int) == 0) = true from rfl)
      clear hn hA hAl hxa hit
      go_wp2_with fail
      (((with_reducible refine (leaf_is _ s.p _ _ _ _ (hon.out _ (by repeat' (first | exact Below.refl _ _ | with_reducible assumption | omega | with_reducible refine below_put_fut ?_ ?_ _ | with_reducible refine below_to_put ?_ | with_reducible refine Below.alloc ?_ ?_ _ | with_reducible refine Below.fut ?_ ?_ _ | with_reducible refine Below.drew ?_ | with_reducible refine Below.setCell ?_ ?_ _ | with_reducible refine Below.atPut ?_ ?_ _ | (simp [go_sem]; done) | (simp [go_sem]; omega)))).heap true HLF.out).mono ?_)); rintro _ _ ⟨rfl, u2, rfl⟩)
      go_wp2_with fail
      go_region
      go_wp2_with fail
      refine bodyPost_ret (v := .agg #[.string x.1, .string x.2]) (by simp [results, Try.results123, go_sem]) rfl ⟨x, rfl, hid ⟨pre ++ A, by rw [HX.out, HXX.out, HAA.out, List.append_assoc]⟩, ?_⟩
      have hb : Below W.heap.size W u2.val := by
        have h1 : Below W.heap.size W (W.alloc (.cells #[.string ⟨#[]⟩, .string ⟨#[]⟩] 34)) := (Below.refl _ _).alloc (Nat.le_refl _) _
        exact Below.fut (Below.fut h1 (by rw [World.size_alloc]; omega) u) (by rw [Fut.size, World.size_alloc]; omega) u2
      exact ⟨⟨_, ((hb.setCell (by simp) _).setCell (by simp) _).drew⟩, rfl⟩
    | succ k =>
      have hkl : kids.length = its.length + 1 := HG.out.1
      obtain ⟨r, hr⟩ : ∃ r, kids[its.length]? = some r := ⟨_, List.getElem?_eq_getElem (by omega)⟩
      have HDN := hid (HD.out.next HG.out hr)
      have hbel := HN.out.below
      rw [hkl] at hbel hon hc2
      obtain ⟨rb, rfl, k1, lk⟩ := kid_cell hbel hr hkl
      have en : IntKind.i64.wrap (((its.length + 1 : Nat) : Int) - 1) = (its.length : Int) := by rw [show ((its.length + 1 : Nat) : Int) - 1 = (its.length : Int) by omega]; exact IntWalk.i64_in _ (by omega)
      have hnI : (its.length : Int) < ((its.length + 1 : Nat) : Int) := by omega
      have HLF := hid (show (((its.length + 1 : Nat) : Int) == 0) = false by simp; omega)
      clear hkl hr hbel
      generalize its.length = n at *
      go_wp2_with fail
      (((with_reducible refine (leaf_is _ s.p _ _ _ _ (hon.out _ (by repeat' (first | exact Below.refl _ _ | with_reducible assumption | omega | with_reducible refine below_put_fut ?_ ?_ _ | with_reducible refine below_to_put ?_ | with_reducible refine Below.alloc ?_ ?_ _ | with_reducible refine Below.fut ?_ ?_ _ | with_reducible refine Below.drew ?_ | with_reducible refine Below.setCell ?_ ?_ _ | with_reducible refine Below.atPut ?_ ?_ _ | (simp [go_sem]; done) | (simp [go_sem]; omega)))).heap false HLF.out).mono ?_)); rintro _ _ ⟨rfl, u2, rfl⟩)
      go_wp2_with fail
      go_region
      go_wp2_with fail
      go_roundg k
      case measure => omega
      case rel => exact ⟨r, rfl, HDN, ⟨u2.val.drew, (Below.fut u.below u.below.size u2).drew⟩, rfl⟩
end Go.Proofs.Ythknenhcnpgkcaa

/- A key taken away from a sorted list. Plain lists. -/
namespace Go.Proofs.Ythknenhcnpgkcaa
set_option linter.unusedVariables false
open Go.RowKit
theorem delL_append (k : ByteArray) (a b : List It) : delL k (a ++ b) = delL k a ++ delL k b := List.filter_append ..
theorem delL_id {k : ByteArray} {xs : List It} (h : ∀ x ∈ xs, x.1 ≠ k) : delL k xs = xs := by
  unfold delL
  exact List.filter_eq_self.2 fun x hx => by simpa using h x hx
theorem del_mid {k v : ByteArray} {A B : List It} (h : Rises (A ++ (k, v) :: B)) : delL k (A ++ (k, v) :: B) = A ++ B := by
  obtain ⟨h1, h2, _, _⟩ := h.mid
  rw [delL_append, delL_id (fun x hx => lt_ne (h1 x hx))]
  have e : delL k ((k, v) :: B) = delL k B := by simp [delL]
  rw [e, delL_id (fun x hx e => lt_ne (h2 x hx) e.symm)]
theorem del_last {P : List It} {x : It} (h : Rises (P ++ [x])) : delL x.1 (P ++ [x]) = P := by
  have := del_mid (k := x.1) (v := x.2) (B := []) h
  simpa using this
theorem delL_within {k : ByteArray} {P xs Q : List It} (hP : ∀ x ∈ P, x.1 ≠ k) (hQ : ∀ x ∈ Q, x.1 ≠ k) : delL k (P ++ (xs ++ Q)) = P ++ (delL k xs ++ Q) := by
  rw [delL_append, delL_append, delL_id hP, delL_id hQ]
end Go.Proofs.Ythknenhcnpgkcaa

/- Contracts of package shelf: del. -/
namespace Go.Proofs.Ythknenhcnpgkcaa
set_option linter.unusedVariables false
set_option linter.unusedSimpArgs false
open Go.RowKit
/-- What del says. -/
def DelPost (d lo : Nat) (W : World) (q : Kid) (k : ByteArray) (e : Ending) (W' : World) : Prop :=
  (valueOf k q.xs = none ∧ e = .returned (.bool false) ∧ ∃ u : Fut W, W' = u.val) ∨
    ∃ v c', valueOf k q.xs = some v ∧ e = .returned (.bool true) ∧ At d (lo - 1) W' ⟨q.p, delL k q.xs, c'⟩ ∧ Upd W W' q.c c'
/-- Behind the child's del: fill, and what the node holds then. -/
theorem fill_back {d lo : Nat} {W1 W5 : World} {p : Nat} {iv bv : Value} {A B : List It} {L R : List Kid} {r : Kid} {c c' : Cnt} {ys : List It} (hN : Node W1 p iv bv (A ++ B) (L ++ r :: R) c) (hlt : ∀ k, c k ≠ 0 → k < W1.heap.size) (hlo : 1 ≤ lo) (h1 : lo ≤ (A ++ B).length) (h6 : (A ++ B).length ≤ 6)
    (hL : L.length = A.length) (hR : R.length = B.length) (hg : ∀ s, s ∈ L ∨ s ∈ R → At d 3 W1 s) (hu : Upd W1 W5 r.c c') (hat : At d 2 W5 ⟨r.p, ys, c'⟩) :
    Calls Try.prog 124 #[.pointer (some ⟨p, 0, none⟩), .int .i64 L.length] W5 fun e W6 => e = .returned (.tuple #[]) ∧ ∃ c6, At (d + 1) (lo - 1) W6 ⟨p, wpre Kid.xs L A ++ (ys ++ wpost Kid.xs B R), c6⟩ ∧ Upd W1 W6 c c6 := by
  obtain ⟨n1, n2, n3⟩ := hN.setKid (r5 := ⟨r.p, ys, c'⟩) hlt hu rfl (fun k => Nat.le_refl _)
  have hkeep : ∀ s, s ∈ L ∨ s ∈ R → At d 3 W5 s := fun s hs => (hg s hs).keep fun k hk => n3 k ((hg s hs).lt k hk) (by
    have e1 := hN.cnt k; have e2 := hN.le k
    rw [sumC_mid] at e1
    rcases hs with hs | hs
    · have e3 := sumC_mem hs k; omega
    · have e3 := sumC_mem hs k; omega)
  have hlt5 : ∀ k, one p k + (blk iv k + (blk bv k + sumC (L ++ ⟨r.p, ys, c'⟩ :: R) k)) ≠ 0 → k < W5.heap.size := fun k hk => by
    rcases Nat.lt_or_ge k W1.heap.size with h | h
    · exact Nat.lt_of_lt_of_le h n2.chg.size
    · rw [sumC_mid] at hk
      have e0 : c k = 0 := by
        rcases Nat.eq_zero_or_pos (c k) with e | e
        · exact e
        · exact absurd (hlt k (by omega)) (by omega)
      have e1 := hN.cnt k
      rw [sumC_mid] at e1
      exact hat.lt k (by show c' k ≠ 0; have : (⟨r.p, ys, c'⟩ : Kid).c k = c' k := rfl; omega)
  refine (fill_is (d := d) n1 hlt5 (by omega) h6 (by simp; omega) L.length ⟨r.p, ys, c'⟩ (by simp) hat (fun j s hj hs => ?_)).mono ?_
  · rcases Nat.lt_or_ge j L.length with h | h
    · rw [List.getElem?_append_left h] at hs
      exact hkeep s (.inl (List.mem_of_getElem? hs))
    · rw [List.getElem?_append_right h] at hs
      obtain ⟨m, hm⟩ : ∃ m, j - L.length = m + 1 := ⟨j - L.length - 1, by omega⟩
      rw [hm, List.getElem?_cons_succ] at hs
      exact hkeep s (.inr (List.mem_of_getElem? hs))
  · rintro e W6 ⟨rfl, iv6, bv6, its6, kids6, c6, q1, q2, q3, q4, q5⟩
    rw [weave_split Kid.xs L A _ R B hL hR] at q2
    exact ⟨rfl, c6, At.of_node (q := ⟨p, _, c6⟩) q1 (by omega) (by omega) q2, n2.trans q5⟩
end Go.Proofs.Ythknenhcnpgkcaa

/- Contracts of package shelf: del, walked. -/
namespace Go.Proofs.Ythknenhcnpgkcaa
set_option linter.unusedVariables false
set_option linter.unusedSimpArgs false
open Go.RowKit
set_option maxRecDepth 100000 in
set_option maxHeartbeats 4000000 in
theorem del_leaf_no (W : World) (p : Nat) (iv bv : Value) (its : List It) (c : Cnt) (k : ByteArray) (hN : Node W p iv bv its [] c) (hlt : ∀ j, c j ≠ 0 → j < W.heap.size) (hn : its.length ≤ 6) (hk : k.size ≤ maxLen) (hs : ∀ i ∈ its, i.1.size ≤ maxLen) (at_ : Nat) (hp : placeOf k its = (at_, false)) :
    Calls Try.prog 83 #[.pointer (some ⟨p, 0, none⟩), .string k] W (Makes (.bool false) W) := by
  obtain ⟨bo, cb, rfl⟩ := owns_slice hN.below
  have hon := hid (fun W' (hB : Below W.heap.size W W') => hN.on hlt hB)
  have HP := hid hp
  have HS := hid hs
  clear hp hs hN hlt
  go_enter Try.func83, Try.ntmps83
  go_wp2_with (first | (go_at_call 116; ((with_reducible refine (place_is _ p _ _ its k (hon.out _ (by repeat' (first | exact Below.refl _ _ | with_reducible assumption | omega | with_reducible refine below_put_fut ?_ ?_ _ | with_reducible refine below_to_put ?_ | with_reducible refine Below.alloc ?_ ?_ _ | with_reducible refine Below.fut ?_ ?_ _ | with_reducible refine Below.drew ?_ | with_reducible refine Below.setCell ?_ ?_ _ | with_reducible refine Below.atPut ?_ ?_ _ | (simp [go_sem]; done) | (simp [go_sem]; omega)))).heap (hon.out _ (by repeat' (first | exact Below.refl _ _ | with_reducible assumption | omega | with_reducible refine below_put_fut ?_ ?_ _ | with_reducible refine below_to_put ?_ | with_reducible refine Below.alloc ?_ ?_ _ | with_reducible refine Below.fut ?_ ?_ _ | with_reducible refine Below.drew ?_ | with_reducible refine Below.setCell ?_ ?_ _ | with_reducible refine Below.atPut ?_ ?_ _ | (simp [go_sem]; done) | (simp [go_sem]; omega)))).items (by omega) hk HS.out at_ false HP.out).mono ?_)); rintro _ _ ⟨rfl, u1, rfl⟩) | (go_at_call 75; ((with_reducible refine (leaf_is _ p _ _ _ _ (hon.out _ (by repeat' (first | exact Below.refl _ _ | with_reducible assumption | omega | with_reducible refine below_put_fut ?_ ?_ _ | with_reducible refine below_to_put ?_ | with_reducible refine Below.alloc ?_ ?_ _ | with_reducible refine Below.fut ?_ ?_ _ | with_reducible refine Below.drew ?_ | with_reducible refine Below.setCell ?_ ?_ _ | with_reducible refine Below.atPut ?_ ?_ _ | (simp [go_sem]; done) | (simp [go_sem]; omega)))).heap true rfl).mono ?_)); rintro _ _ ⟨rfl, u2, rfl⟩))
  go_ret
  exact ⟨rfl, ⟨⟨_, (by repeat' (first | exact Below.refl _ _ | with_reducible assumption | omega | with_reducible refine below_put_fut ?_ ?_ _ | with_reducible refine below_to_put ?_ | with_reducible refine Below.alloc ?_ ?_ _ | with_reducible refine Below.fut ?_ ?_ _ | with_reducible refine Below.drew ?_ | with_reducible refine Below.setCell ?_ ?_ _ | with_reducible refine Below.atPut ?_ ?_ _ | (simp [go_sem]; done) | (simp [go_sem]; omega)))⟩, rfl⟩⟩
theorem del_leaf_yes (W : World) (p : Nat) (iv bv : Value) (its : List It) (n : Nat) (hl : its.length = n + 1) (c : Cnt) (k : ByteArray) (hN : Node W p iv bv its [] c) (hlt : ∀ j, c j ≠ 0 → j < W.heap.size) (hn : n ≤ 5) (hk : k.size ≤ maxLen) (hs : ∀ i ∈ its, i.1.size ≤ maxLen) (at_ : Nat) (hp : placeOf k its = (at_, true)) (hat : at_ ≤ n) (Q : World → Prop)
    (hQ : ∀ (W1 W5 : World) (ri ic : Nat), iv = .slice (some ⟨ri, 0, none⟩) (n + 1) ic → Below W.heap.size W W1 → Row W5 34 2 (.slice (some ⟨ri, 0, none⟩) n ic) n (flat (its.take at_ ++ its.drop (at_ + 1))) → Chg (fun j => j = ri) W1 W5 → Q (put W5 p (.cells #[.slice (some ⟨ri, 0, none⟩) n ic, bv] 118))) :
    Calls Try.prog 83 #[.pointer (some ⟨p, 0, none⟩), .string k] W fun e W' => e = .returned (.bool true) ∧ Q W' := by
  obtain ⟨bo, cb, rfl⟩ := owns_slice hN.below
  have hit := hN.items
  rw [hl] at hit
  obtain ⟨ri, ic, rfl⟩ := Row.some_of hit (by omega)
  have hcp := hN.cnt p
  have hle := hN.le p
  rw [one_self, blk_at (s := none)] at hcp
  have hne : p ≠ ri := fun e => by rw [e, one_self] at hcp; rw [e] at hle; omega
  have hrow := hid (fun (W' : World) (hB : Below W.heap.size W W') => (show Row W' _ 2 _ (n + 1) _ from by have := (hN.on hlt hB).items; rw [hl] at this; exact this))
  have hon := hid (fun W' (hB : Below W.heap.size W W') => hN.on hlt hB)
  have HP := hid hp
  have HS := hid hs
  have HL := hid hl
  have HQ := hid hQ
  have hpl := hN.lt
  have hcel := fun i => cell_of_row W p i _ _ (0, 0) hN.heap
  have e1 : IntKind.i64.wrap ((at_ : Int) + 1) = (at_ : Int) + 1 := IntWalk.i64_in _ (by omega)
  clear hp hs hN hlt hl hit hcp hle hQ
  go_enter Try.func83, Try.ntmps83
  go_wp2_with (first | (go_at_call 116; ((with_reducible refine (place_is _ p _ _ its k (hon.out _ (by repeat' (first | exact Below.refl _ _ | with_reducible assumption | omega | with_reducible refine below_put_fut ?_ ?_ _ | with_reducible refine below_to_put ?_ | with_reducible refine Below.alloc ?_ ?_ _ | with_reducible refine Below.fut ?_ ?_ _ | with_reducible refine Below.drew ?_ | with_reducible refine Below.setCell ?_ ?_ _ | with_reducible refine Below.atPut ?_ ?_ _ | (simp [go_sem]; done) | (simp [go_sem]; omega)))).heap (hon.out _ (by repeat' (first | exact Below.refl _ _ | with_reducible assumption | omega | with_reducible refine below_put_fut ?_ ?_ _ | with_reducible refine below_to_put ?_ | with_reducible refine Below.alloc ?_ ?_ _ | with_reducible refine Below.fut ?_ ?_ _ | with_reducible refine Below.drew ?_ | with_reducible refine Below.setCell ?_ ?_ _ | with_reducible refine Below.atPut ?_ ?_ _ | (simp [go_sem]; done) | (simp [go_sem]; omega)))).items (by have := HL.out; omega) hk HS.out at_ true HP.out).mono ?_)); rintro _ _ ⟨rfl, u1, rfl⟩) | (go_at_call 75; ((with_reducible refine (leaf_is _ p _ _ _ _ (hon.out _ (by repeat' (first | exact Below.refl _ _ | with_reducible assumption | omega | with_reducible refine below_put_fut ?_ ?_ _ | with_reducible refine below_to_put ?_ | with_reducible refine Below.alloc ?_ ?_ _ | with_reducible refine Below.fut ?_ ?_ _ | with_reducible refine Below.drew ?_ | with_reducible refine Below.setCell ?_ ?_ _ | with_reducible refine Below.atPut ?_ ?_ _ | (simp [go_sem]; done) | (simp [go_sem]; omega)))).heap true rfl).mono ?_)); rintro _ _ ⟨rfl, u2, rfl⟩))
  go_at_call 122
  refine (delete_item1 _ ri ic n its (hrow.out _ (by repeat' (first | exact Below.refl _ _ | with_reducible assumption | omega | with_reducible refine below_put_fut ?_ ?_ _ | with_reducible refine below_to_put ?_ | with_reducible refine Below.alloc ?_ ?_ _ | with_reducible refine Below.fut ?_ ?_ _ | with_reducible refine Below.drew ?_ | with_reducible refine Below.setCell ?_ ?_ _ | with_reducible refine Below.atPut ?_ ?_ _ | (simp [go_sem]; done) | (simp [go_sem]; omega)))) (by omega) at_ hat).mono ?_
  rintro _ W5 ⟨rfl, hr5, hc5⟩
  have hp5 := (hc5.block p (by first | assumption | (simp [go_sem]; done) | (simp [go_sem]; omega)) hne).trans (hon.out _ (show Below W.heap.size W u2.val from (by repeat' (first | exact Below.refl _ _ | with_reducible assumption | omega | with_reducible refine below_put_fut ?_ ?_ _ | with_reducible refine below_to_put ?_ | with_reducible refine Below.alloc ?_ ?_ _ | with_reducible refine Below.fut ?_ ?_ _ | with_reducible refine Below.drew ?_ | with_reducible refine Below.setCell ?_ ?_ _ | with_reducible refine Below.atPut ?_ ?_ _ | (simp [go_sem]; done) | (simp [go_sem]; omega))))).heap
  have HW := hid (HQ.out _ W5 ri ic rfl (show Below W.heap.size W u2.val from (by repeat' (first | exact Below.refl _ _ | with_reducible assumption | omega | with_reducible refine below_put_fut ?_ ?_ _ | with_reducible refine below_to_put ?_ | with_reducible refine Below.alloc ?_ ?_ _ | with_reducible refine Below.fut ?_ ?_ _ | with_reducible refine Below.drew ?_ | with_reducible refine Below.setCell ?_ ?_ _ | with_reducible refine Below.atPut ?_ ?_ _ | (simp [go_sem]; done) | (simp [go_sem]; omega)))) hr5 hc5)
  have hl5 := lt_of_heap hp5
  rw [← put_self hp5]
  clear hr5 hc5
  go_wp2_with fail
  go_ret
  exact ⟨rfl, HW.out⟩
set_option maxRecDepth 100000 in
set_option maxHeartbeats 4000000 in
theorem del_in (d lo : Nat) (W : World) (p : Nat) (iv bv : Value) (A B : List It) (L R : List Kid) (r : Kid) (c : Cnt) (k : ByteArray) (hN : Node W p iv bv (A ++ B) (L ++ r :: R) c) (hlt : ∀ j, c j ≠ 0 → j < W.heap.size) (hlo : 1 ≤ lo) (h1 : lo ≤ (A ++ B).length) (h6 : (A ++ B).length ≤ 6) (hL : L.length = A.length) (hR : R.length = B.length) (hg : ∀ s, s ∈ L ∨ s ∈ R → At d 3 W s) (hr : At d 3 W r)
    (hk : k.size ≤ maxLen) (hs : ∀ i ∈ A ++ B, i.1.size ≤ maxLen) (hp : placeOf k (A ++ B) = (L.length, false)) (ih : ∀ W', At d 3 W' r → Calls Try.prog 83 #[.pointer (some ⟨r.p, 0, none⟩), .string k] W' (DelPost d 3 W' r k)) :
    Calls Try.prog 83 #[.pointer (some ⟨p, 0, none⟩), .string k] W fun e W' => Hid ((valueOf k r.xs = none ∧ e = .returned (.bool false) ∧ ∃ u : Fut W, W' = u.val) ∨
      ∃ v c', valueOf k r.xs = some v ∧ e = .returned (.bool true) ∧ At (d + 1) (lo - 1) W' ⟨p, wpre Kid.xs L A ++ (delL k r.xs ++ wpost Kid.xs B R), c'⟩ ∧ Upd W W' c c') := by
  have hkl : (L ++ r :: R).length = L.length + R.length + 1 := by simp; omega
  obtain ⟨bo, cb, rfl⟩ := owns_slice hN.below
  obtain ⟨rb, rfl, k1, lk⟩ := kid_cell hN.below (i := L.length) (q := r) (by simp) rfl
  have hon := hid (fun W' (hB : Below W.heap.size W W') => hN.on hlt hB)
  have hpl := hN.lt
  have hcel := fun i => cell_of_row W p i _ _ (0, 0) hN.heap
  rw [hkl] at hcel
  have HP := hid hp
  have HS := hid hs
  have HN := hid hN
  have HLT := hid hlt
  have HL := hid hL
  have HR := hid hR
  have HG := hid hg
  have HRR := hid hr
  have HIH := hid ih
  have hml : (L.length : Int) < ((L.length + R.length + 1 : Nat) : Int) := by omega
  have HLF := hid (show (((L ++ r :: R).length : Int) == 0) = false by rw [hkl]; simp; omega)
  clear hp hs hN hlt hL hR hg hr ih hkl
  generalize hll : L.length = m at *
  have HM := hid hll
  clear hll
  go_enter Try.func83, Try.ntmps83
  go_wp2_with (first | (go_at_call 116; ((with_reducible refine (place_is _ p _ _ _ k (hon.out _ (by repeat' (first | exact Below.refl _ _ | with_reducible assumption | omega | with_reducible refine below_put_fut ?_ ?_ _ | with_reducible refine below_to_put ?_ | with_reducible refine Below.alloc ?_ ?_ _ | with_reducible refine Below.fut ?_ ?_ _ | with_reducible refine Below.drew ?_ | with_reducible refine Below.setCell ?_ ?_ _ | with_reducible refine Below.atPut ?_ ?_ _ | (simp [go_sem]; done) | (simp [go_sem]; omega)))).heap (hon.out _ (by repeat' (first | exact Below.refl _ _ | with_reducible assumption | omega | with_reducible refine below_put_fut ?_ ?_ _ | with_reducible refine below_to_put ?_ | with_reducible refine Below.alloc ?_ ?_ _ | with_reducible refine Below.fut ?_ ?_ _ | with_reducible refine Below.drew ?_ | with_reducible refine Below.setCell ?_ ?_ _ | with_reducible refine Below.atPut ?_ ?_ _ | (simp [go_sem]; done) | (simp [go_sem]; omega)))).items (by omega) hk HS.out m false HP.out).mono ?_)); rintro _ _ ⟨rfl, u1, rfl⟩) | (go_at_call 75; ((with_reducible refine (leaf_is _ p _ _ _ _ (hon.out _ (by repeat' (first | exact Below.refl _ _ | with_reducible assumption | omega | with_reducible refine below_put_fut ?_ ?_ _ | with_reducible refine below_to_put ?_ | with_reducible refine Below.alloc ?_ ?_ _ | with_reducible refine Below.fut ?_ ?_ _ | with_reducible refine Below.drew ?_ | with_reducible refine Below.setCell ?_ ?_ _ | with_reducible refine Below.atPut ?_ ?_ _ | (simp [go_sem]; done) | (simp [go_sem]; omega)))).heap false HLF.out).mono ?_)); rintro _ _ ⟨rfl, u2, rfl⟩))
  have hb2 : Below W.heap.size W u2.val := (by repeat' (first | exact Below.refl _ _ | with_reducible assumption | omega | with_reducible refine below_put_fut ?_ ?_ _ | with_reducible refine below_to_put ?_ | with_reducible refine Below.alloc ?_ ?_ _ | with_reducible refine Below.fut ?_ ?_ _ | with_reducible refine Below.drew ?_ | with_reducible refine Below.setCell ?_ ?_ _ | with_reducible refine Below.atPut ?_ ?_ _ | (simp [go_sem]; done) | (simp [go_sem]; omega)))
  have hru : At d 3 u2.val r := HRR.out.keep (fun j hj => hb2.block j (HRR.out.lt j hj))
  have hlt2 : ∀ j, c j ≠ 0 → j < u2.val.heap.size := fun j hj => Nat.lt_of_lt_of_le (HLT.out j hj) hb2.size
  have HFB := hid (fun (W5 : World) (c' : Cnt) (hu : Upd u2.val W5 r.c c') (hat : At d 2 W5 ⟨r.p, delL k r.xs, c'⟩) => by
    have hf := fill_back (d := d) (lo := lo) (hon.out _ hb2) hlt2 hlo h1 h6 (HM.out.trans HL.out) HR.out (fun s hs => (HG.out s hs).keep (fun j hj => hb2.block j ((HG.out s hs).lt j hj))) hu hat
    rw [HM.out] at hf
    exact hf)
  have HB2 := hid hb2
  go_at_call 83
  refine (HIH.out u2.val hru).mono ?_
  clear hb2 hru hlt2
  rintro e W5 hd
  rcases hd with ⟨hv, rfl, u5, rfl⟩ | ⟨v, c', hv, rfl, hat, hu⟩
  · have HV := hid hv
    clear hv
    go_wp2_with fail
    go_ret
    exact hid (.inl ⟨HV.out, rfl, ⟨⟨_, (by repeat' (first | exact Below.refl _ _ | with_reducible assumption | omega | with_reducible refine below_put_fut ?_ ?_ _ | with_reducible refine below_to_put ?_ | with_reducible refine Below.alloc ?_ ?_ _ | with_reducible refine Below.fut ?_ ?_ _ | with_reducible refine Below.drew ?_ | with_reducible refine Below.setCell ?_ ?_ _ | with_reducible refine Below.atPut ?_ ?_ _ | (simp [go_sem]; done) | (simp [go_sem]; omega)))⟩, rfl⟩⟩)
  · have HV := hid hv
    have HC := hid (HFB.out W5 c' hu hat)
    clear hv hat hu
    go_wp2_with fail
    go_at_call 124
    refine HC.out.mono ?_
    rintro _ W6 ⟨rfl, c6, q1, q2⟩
    have HQ := hid (And.intro q1 q2)
    clear q1 q2
    go_wp2_with fail
    go_ret
    exact hid (.inr ⟨v, c6, HV.out, rfl, HQ.out.1, Upd.of_below HB2.out HQ.out.2⟩)
end Go.Proofs.Ythknenhcnpgkcaa

/- Contracts of package shelf: del, where the key is among a node's own items. -/
namespace Go.Proofs.Ythknenhcnpgkcaa
set_option linter.unusedVariables false
set_option linter.unusedSimpArgs false
open Go.RowKit
/-- An item of a node is another one. -/
theorem Node.setItem {W : World} {p ri n ic : Nat} {bv : Value} {its its' : List It} {kids : List Kid} {c : Cnt} {cur : Array Value} (h : Node W p (.slice (some ⟨ri, 0, none⟩) n ic) bv its kids c) (hl : its'.length = its.length)
    (hrow : Row (put W ri (.cells cur 34)) 34 2 (.slice (some ⟨ri, 0, none⟩) n ic) n (flat its')) (hn : its.length = n) :
    Node (put W ri (.cells cur 34)) p (.slice (some ⟨ri, 0, none⟩) n ic) bv its' kids c ∧ (∀ k, sumC kids k ≠ 0 → k ≠ ri) ∧ c ri ≠ 0 := by
  have hc := h.cnt ri
  have hle := h.le ri
  rw [blk_at (s := none), one_self] at hc
  have hne : p ≠ ri := fun e => by rw [e, one_self] at hc; omega
  have hb : ∀ k, blk bv k ≠ 0 → k ≠ ri := fun k hk e => by subst e; omega
  refine ⟨⟨(heap_put_other _ _ _ _ hne).trans h.heap, by rw [hl, hn]; exact hrow, h.below.keep fun k hk => heap_put_other _ _ _ _ (hb k hk), h.cnt, h.le⟩, fun k hk e => by subst e; omega, by omega⟩
set_option maxRecDepth 100000 in
set_option maxHeartbeats 4000000 in
theorem del_hit (d lo : Nat) (W : World) (p : Nat) (iv bv : Value) (A B : List It) (y : It) (L R : List Kid) (r : Kid) (c : Cnt) (k : ByteArray) (hN : Node W p iv bv (A ++ y :: B) (L ++ r :: R) c) (hlt : ∀ j, c j ≠ 0 → j < W.heap.size) (hlo : 1 ≤ lo) (h1 : lo ≤ (A ++ y :: B).length) (h6 : (A ++ y :: B).length ≤ 6) (hL : L.length = A.length) (hR : R.length = (y :: B).length) (hg : ∀ s, s ∈ L ∨ s ∈ R → At d 3 W s) (hr : At d 3 W r)
    (hrr : Rises r.xs) (hrs : ∀ i ∈ r.xs, i.1.size ≤ maxLen)
    (hk : k.size ≤ maxLen) (hs : ∀ i ∈ A ++ y :: B, i.1.size ≤ maxLen) (hp : placeOf k (A ++ y :: B) = (L.length, true)) (ih : ∀ W' (k' : ByteArray), k'.size ≤ maxLen → At d 3 W' r → Calls Try.prog 83 #[.pointer (some ⟨r.p, 0, none⟩), .string k'] W' (DelPost d 3 W' r k')) :
    Calls Try.prog 83 #[.pointer (some ⟨p, 0, none⟩), .string k] W fun e W' => Hid (∃ pre x c', r.xs = pre ++ [x] ∧ e = .returned (.bool true) ∧ At (d + 1) (lo - 1) W' ⟨p, wpre Kid.xs L A ++ (pre ++ wpost Kid.xs (x :: B) R), c'⟩ ∧ Upd W W' c c') := by
  have hkl : (L ++ r :: R).length = L.length + R.length + 1 := by simp; omega
  obtain ⟨n, hil⟩ : ∃ n, n = (A ++ y :: B).length := ⟨_, rfl⟩
  obtain ⟨bo, cb, rfl⟩ := owns_slice hN.below
  have hitems := hN.items
  rw [← hil] at hitems h1 h6
  have hrow0 := hitems
  obtain ⟨io, ic, rfl⟩ := owns_slice hitems
  obtain ⟨ri, rfl, y1, y2, ly⟩ := item_cell hitems (i := L.length) (x := y) (by rw [hL]; simp) hil.symm
  obtain ⟨rb, rfl, k1, lk⟩ := kid_cell hN.below (i := L.length) (q := r) (by simp) rfl
  have hon := hid (fun W' (hB : Below W.heap.size W W') => hN.on hlt hB)
  have hrow := hid (fun W' (hB : Below W.heap.size W W') => by have := (hN.on hlt hB).items; rw [← hil] at this; exact this)
  have hcel := fun i => cell_of_row W p i _ _ (0, 0) hN.heap
  rw [hkl] at hcel
  have HP := hid hp
  have HS := hid hs
  have HN := hid hN
  have HLT := hid hlt
  have HL := hid hL
  have HR := hid hR
  have HG := hid hg
  have HRR := hid hr
  have HRI := hid hrr
  have HRS := hid hrs
  have HIH := hid ih
  have HIL := hid hil
  have hml : (L.length : Int) < ((L.length + R.length + 1 : Nat) : Int) := by omega
  have hmn : (L.length : Int) < (n : Int) := by rw [hil, hL]; simp; omega
  have HLF := hid (show (((L ++ r :: R).length : Int) == 0) = false by rw [hkl]; simp; omega)
  have hpl := hN.lt
  clear hp hs hN hlt hL hR hg hr ih hkl hrr hrs hil hitems hrow0
  generalize hll : L.length = m at *
  have HM := hid hll
  clear hll
  go_enter Try.func83, Try.ntmps83
  go_wp2_with (first | (go_at_call 116; ((with_reducible refine (place_is _ p _ _ _ k (hon.out _ (by repeat' (first | exact Below.refl _ _ | with_reducible assumption | omega | with_reducible refine below_put_fut ?_ ?_ _ | with_reducible refine below_to_put ?_ | with_reducible refine Below.alloc ?_ ?_ _ | with_reducible refine Below.fut ?_ ?_ _ | with_reducible refine Below.drew ?_ | with_reducible refine Below.setCell ?_ ?_ _ | with_reducible refine Below.atPut ?_ ?_ _ | (simp [go_sem]; done) | (simp [go_sem]; omega)))).heap (hon.out _ (by repeat' (first | exact Below.refl _ _ | with_reducible assumption | omega | with_reducible refine below_put_fut ?_ ?_ _ | with_reducible refine below_to_put ?_ | with_reducible refine Below.alloc ?_ ?_ _ | with_reducible refine Below.fut ?_ ?_ _ | with_reducible refine Below.drew ?_ | with_reducible refine Below.setCell ?_ ?_ _ | with_reducible refine Below.atPut ?_ ?_ _ | (simp [go_sem]; done) | (simp [go_sem]; omega)))).items (by have := HIL.out; omega) hk HS.out m true HP.out).mono ?_)); rintro _ _ ⟨rfl, u1, rfl⟩) | (go_at_call 75; ((with_reducible refine (leaf_is _ p _ _ _ _ (hon.out _ (by repeat' (first | exact Below.refl _ _ | with_reducible assumption | omega | with_reducible refine below_put_fut ?_ ?_ _ | with_reducible refine below_to_put ?_ | with_reducible refine Below.alloc ?_ ?_ _ | with_reducible refine Below.fut ?_ ?_ _ | with_reducible refine Below.drew ?_ | with_reducible refine Below.setCell ?_ ?_ _ | with_reducible refine Below.atPut ?_ ?_ _ | (simp [go_sem]; done) | (simp [go_sem]; omega)))).heap false HLF.out).mono ?_)); rintro _ _ ⟨rfl, u2, rfl⟩))
  go_at_call 123
  have hb2 : Below W.heap.size W u2.val := (by repeat' (first | exact Below.refl _ _ | with_reducible assumption | omega | with_reducible refine below_put_fut ?_ ?_ _ | with_reducible refine below_to_put ?_ | with_reducible refine Below.alloc ?_ ?_ _ | with_reducible refine Below.fut ?_ ?_ _ | with_reducible refine Below.drew ?_ | with_reducible refine Below.setCell ?_ ?_ _ | with_reducible refine Below.atPut ?_ ?_ _ | (simp [go_sem]; done) | (simp [go_sem]; omega)))
  refine (last_is d 3 u2.val r (HRR.out.keep fun j hj => hb2.block j (HRR.out.lt j hj)) (by omega)).mono ?_
  rintro _ _ ⟨x, rfl, HPRE, u3, rfl⟩
  clear hb2
  have hfr := fun j => World.ownsRow.frozenAt (hrow.out W (Below.refl _ _)) j
  go_wp2_with fail
  go_region
  have hb7 : Below W.heap.size W u3.val := (by repeat' (first | exact Below.refl _ _ | with_reducible assumption | omega | with_reducible refine below_put_fut ?_ ?_ _ | with_reducible refine below_to_put ?_ | with_reducible refine Below.alloc ?_ ?_ _ | with_reducible refine Below.fut ?_ ?_ _ | with_reducible refine Below.drew ?_ | with_reducible refine Below.setCell ?_ ?_ _ | with_reducible refine Below.atPut ?_ ?_ _ | (simp [go_sem]; done) | (simp [go_sem]; omega)))
  obtain ⟨cur, ecur, hrow7⟩ := store_item2 (hrow.out _ hb7) HIL.out.symm m x (by omega)
  rw [ecur]
  have hset : (A ++ y :: B).set m x = A ++ x :: B := by rw [HL.out]; exact set_mid A B y x
  rw [hset] at hrow7
  obtain ⟨n7, hs7, hcr⟩ := (hon.out _ hb7).setItem (its' := A ++ x :: B) (cur := cur) (by simp) hrow7 HIL.out.symm
  have hlt7 : ∀ j, c j ≠ 0 → j < (put u3.val ri (.cells cur 34)).heap.size := fun j hj => by rw [size_put]; exact Nat.lt_of_lt_of_le (HLT.out j hj) hb7.size
  have hbd : Below (put u3.val ri (.cells cur 34)).heap.size (put u3.val ri (.cells cur 34)) ((put u3.val ri (.cells cur 34)).alloc (.cells #[.string x.1, .string x.2] 34)).drew := ((Below.refl _ _).alloc (Nat.le_refl _) _).drew
  have hsz : (put u3.val ri (.cells cur 34)).heap.size = W.heap.size + u1.n + u2.n + u3.n := by simp [go_sem]
  have hxd : ((put u3.val ri (.cells cur 34)).alloc (.cells #[.string x.1, .string x.2] 34)).drew.heap[W.heap.size + u1.n + u2.n + u3.n]? = some (.cells #[.string x.1, .string x.2] 34) := heap_alloc_at _ _ _ hsz.symm
  have hcd : Chg (fun j => c j ≠ 0) W ((put u3.val ri (.cells cur 34)).alloc (.cells #[.string x.1, .string x.2] 34)).drew := ((Chg.put (g := ri) (Chg.of_below (S := fun j => c j ≠ 0) hb7) (fun _ => hcr) _).alloc _).drew
  have n8 := n7.on hlt7 hbd
  have hlt8 : ∀ j, c j ≠ 0 → j < ((put u3.val ri (.cells cur 34)).alloc (.cells #[.string x.1, .string x.2] 34)).drew.heap.size := fun j hj => Nat.lt_of_lt_of_le (hlt7 j hj) hbd.size
  have hkeep : ∀ s, s ∈ L ++ r :: R → At d 3 W s → At d 3 ((put u3.val ri (.cells cur 34)).alloc (.cells #[.string x.1, .string x.2] 34)).drew s := fun s hs ha => ha.keep fun j hj => (hbd.block j (by rw [size_put]; exact Nat.lt_of_lt_of_le (ha.lt j hj) hb7.size)).trans ((heap_put_other _ _ _ _ (hs7 j (by have := sumC_mem hs j; omega))).trans (hb7.block j (ha.lt j hj)))
  obtain ⟨wd, hwd⟩ : ∃ wd, wd = ((put u3.val ri (.cells cur 34)).alloc (.cells #[.string x.1, .string x.2] 34)).drew := ⟨_, rfl⟩
  rw [← hwd] at hbd hxd hcd n8 hlt8 hkeep ⊢
  have hrd := hkeep r (by simp) HRR.out
  have hgd : ∀ s, s ∈ L ∨ s ∈ R → At d 3 wd s := fun s hs => hkeep s (by rcases hs with h | h <;> simp [h]) (HG.out s hs)
  obtain ⟨rb', hrb', k9, lk9⟩ := kid_cell n8.below (i := m) (q := r) (by rw [← HM.out]; simp) rfl
  obtain rfl : rb' = rb := by injection hrb' with h; injection h with h; exact h.symm
  have hcel9 := fun i => cell_of_row wd p i _ _ (0, 0) n8.heap
  have hpl9 := lt_of_heap n8.heap
  have hcx := fun i => cell_of_row wd (W.heap.size + u1.n + u2.n + u3.n) i _ _ (0, 0) hxd
  have hlx := lt_of_heap hxd
  have hkl9 : (L ++ r :: R).length = m + R.length + 1 := by have := HM.out; simp; omega
  rw [hkl9] at hcel9
  obtain ⟨pre, hpre⟩ := HPRE.out
  have hvx : valueOf x.1 r.xs ≠ none := fun e => valueOf_none_iff.1 e x (by rw [hpre]; simp) rfl
  have hdx : delL x.1 r.xs = pre := by have := HRI.out; rw [hpre] at this ⊢; exact del_last this
  have HPR := hid hpre
  have HDEL := hid (fun (X : World) (hb : Below wd.heap.size wd X) => show Calls Try.prog 83 #[.pointer (some ⟨r.p, 0, none⟩), .string x.1] X (fun e W' => e = .returned (.bool true) ∧ Hid (∃ c', At d 2 W' ⟨r.p, pre, c'⟩ ∧ Upd wd W' r.c c')) from
    (HIH.out X x.1 (HRS.out x (by rw [hpre]; simp)) (hrd.keep fun j hj => hb.block j (hrd.lt j hj))).mono fun e W' hd => by
      rcases hd with ⟨hv, _⟩ | ⟨v, c', hv, rfl, hat, hu⟩
      · exact absurd hv hvx
      · rw [hdx] at hat
        exact ⟨rfl, hid ⟨c', hat, Upd.of_below hb hu⟩⟩)
  have HFB := hid (fun (W5 : World) (c' : Cnt) (hu : Upd wd W5 r.c c') (hat : At d 2 W5 ⟨r.p, pre, c'⟩) => by
    have hf := fill_back (d := d) (lo := lo) n8 hlt8 hlo (by rw [HIL.out] at h1; simpa using h1) (by rw [HIL.out] at h6; simpa using h6) (HM.out.trans HL.out) HR.out hgd hu hat
    rw [HM.out] at hf
    exact hf)
  have HCD := hid hcd
  clear hb7 ecur hrow7 hset n7 hs7 hcr hlt7 hbd hsz hxd hcd n8 hlt8 hkeep hwd hrd hgd hrb' hkl9 hpre hvx hdx hcel y1 y2 k1 hfr hpl ly lk
  go_upto_region 9 with fail
  go_region_with (go_at_call 83; go_must (refine (HDEL.out _ (by repeat' (first | exact Below.refl _ _ | with_reducible assumption | omega | with_reducible refine below_put_fut ?_ ?_ _ | with_reducible refine below_to_put ?_ | with_reducible refine Below.alloc ?_ ?_ _ | with_reducible refine Below.fut ?_ ?_ _ | with_reducible refine Below.drew ?_ | with_reducible refine Below.setCell ?_ ?_ _ | with_reducible refine Below.atPut ?_ ?_ _ | (simp [go_sem]; done) | (simp [go_sem]; omega)))).mono ?_; rintro _ W9 ⟨rfl, HD9⟩))
  all_goals
    obtain ⟨c', hat, hu⟩ := HD9.out
    have HC := hid (HFB.out W9 c' hu hat)
    clear hat hu HD9
    go_wp2_with fail
    go_at_call 124
    refine HC.out.mono ?_
    rintro _ W6 ⟨rfl, c6, q1, q2⟩
    have HQ := hid (And.intro q1 q2)
    clear q1 q2
    go_wp2_with fail
    go_ret
    exact hid ⟨pre, x, c6, HPR.out, rfl, HQ.out.1, HQ.out.2.pre HCD.out fun _ _ => Nat.le_refl _⟩
end Go.Proofs.Ythknenhcnpgkcaa

/- Contracts of package shelf: del, of any tree. -/
namespace Go.Proofs.Ythknenhcnpgkcaa
set_option linter.unusedVariables false
set_option linter.unusedSimpArgs false
open Go.RowKit
theorem wpost_cons {α : Type} (X : α → List It) (x y : It) (B : List It) (R : List α) (h : R.length = B.length + 1) : ∃ rest, wpost X (x :: B) R = x :: rest ∧ wpost X (y :: B) R = y :: rest := by
  cases R with
  | nil => simp at h
  | cons q R => exact ⟨_, rfl, rfl⟩
theorem del_leaf_post {lo n : Nat} {W W1 W5 : World} {q : Kid} {bv : Value} {A R : List It} {x : It} {ri ic : Nat} (hx : q.xs = A ++ x :: R) (hn : Node W q.p (.slice (some ⟨ri, 0, none⟩) (n + 1) ic) bv q.xs [] q.c) (hl : q.xs.length = n + 1) (h1 : lo ≤ q.xs.length) (h2 : q.xs.length ≤ 6)
    (hB : Below W.heap.size W W1) (hr : Row W5 34 2 (.slice (some ⟨ri, 0, none⟩) n ic) n (flat (A ++ R))) (hc : Chg (fun j => j = ri) W1 W5) (hlt : ∀ j, q.c j ≠ 0 → j < W.heap.size) :
    ∃ c', At 0 (lo - 1) (put W5 q.p (.cells #[.slice (some ⟨ri, 0, none⟩) n ic, bv] 118)) ⟨q.p, A ++ R, c'⟩ ∧ Upd W (put W5 q.p (.cells #[.slice (some ⟨ri, 0, none⟩) n ic, bv] 118)) q.c c' := by
  have hlen : (A ++ R).length = n := by rw [hx] at hl; simp at hl ⊢; omega
  have hch : Chg (fun j => blk (.slice (some ⟨ri, 0, none⟩) (n + 1) ic) j ≠ 0) W W5 := (Chg.of_below hB).trans hc fun k _ hk => by subst hk; rw [blk_at (s := none), one_self]; omega
  obtain ⟨n1, n2, _⟩ := hn.setItems (its' := A ++ R) (v' := .slice (some ⟨ri, 0, none⟩) n ic) (W6 := put W5 q.p (.cells #[.slice (some ⟨ri, 0, none⟩) n ic, bv] 118)) hlt hch (by rw [hlen]; exact hr) (fun k _ => by rw [blk_at (s := none), blk_at (s := none)]; omega) (Below.refl _ _)
  exact ⟨_, At.of_node (d := 0) n1 (by show lo - 1 ≤ (A ++ R).length; omega) (by omega) ⟨rfl, rfl⟩, n2⟩
set_option maxHeartbeats 1000000 in
theorem del_is : ∀ (d lo : Nat) (W : World) (q : Kid) (k : ByteArray), At d lo W q → 1 ≤ lo → Rises q.xs → (∀ i ∈ q.xs, i.1.size ≤ maxLen) → k.size ≤ maxLen →
    Calls Try.prog 83 #[.pointer (some ⟨q.p, 0, none⟩), .string k] W (DelPost d lo W q k)
  | 0, lo, W, q, k, hq, hlo, hr, hs, hk => by
    have hlt := hq.lt
    obtain ⟨iv, bv, hn, h1, h2⟩ := hq
    obtain ⟨A, B, hx, hA, hAl, hB⟩ := placeOf_split k q.xs hr
    rcases hB with ⟨hp, v, R, rfl⟩ | ⟨hp, hB⟩
    · obtain ⟨n, hl⟩ : ∃ n, q.xs.length = n + 1 := ⟨q.xs.length - 1, by omega⟩
      refine (del_leaf_yes W q.p iv bv q.xs n hl q.c k hn hlt (by omega) hk hs A.length (by rw [hA, ← hp]) (by rw [hx] at hl; simp at hl; omega) (fun W' => ∃ c', At 0 (lo - 1) W' ⟨q.p, delL k q.xs, c'⟩ ∧ Upd W W' q.c c') ?_).mono ?_
      · intro W1 W5 ri ic hiv hB1 hrow hch
        subst hiv
        have hcut := cut_one A R (k, v)
        rw [← hx] at hcut
        rw [hcut] at hrow
        have hd : delL k q.xs = A ++ R := by rw [hx] at hr ⊢; exact del_mid hr
        rw [hd]
        exact del_leaf_post hx hn hl h1 h2 hB1 hrow hch hlt
      · rintro e W' ⟨rfl, c', e1, e2⟩
        exact .inr ⟨v, c', valueOf_mem hr (by rw [hx]; simp), rfl, e1, e2⟩
    · refine (del_leaf_no W q.p iv bv q.xs q.c k hn hlt h2 hk hs A.length (by rw [hA, ← hp])).mono ?_
      rintro e W' ⟨rfl, u, rfl⟩
      refine .inl ⟨valueOf_none fun x hxm => ?_, rfl, u, rfl⟩
      rw [hx] at hxm
      rcases List.mem_append.1 hxm with h | h
      · exact lt_ne (hAl x h)
      · exact fun e => lt_ne (hB x h) e.symm
  | d + 1, lo, W, q, k, hq, hlo, hr, hs, hk => by
    have hlt := hq.lt
    obtain ⟨iv, bv, its, kids, hn, h1, h2, hG⟩ := hq.node
    have hri := hG.rises hr
    obtain ⟨hkl, hxs, hkd⟩ := hG
    obtain ⟨A, B, hx, hA, hAl, hB⟩ := placeOf_split k its hri
    have hplace : placeOf k its = (A.length, (placeOf k its).2) := by rw [hA]
    obtain ⟨r0, hr0⟩ : ∃ r, kids[A.length]? = some r := ⟨_, List.getElem?_eq_getElem (by rw [hkl, hx]; simp; omega)⟩
    obtain ⟨L, R, rfl, hL⟩ := mid_of hr0
    subst hx
    have hRl : R.length = B.length := by simp at hkl; omega
    rw [weave_split Kid.xs L A r0 R B hL hRl] at hxs
    have hrr := hr
    rw [hxs] at hrr
    obtain ⟨hr1, hr2, hr3⟩ := Rises.append.1 hrr
    obtain ⟨hr4, hr5, hr6⟩ := Rises.append.1 hr2
    have hss : ∀ i ∈ r0.xs, i.1.size ≤ maxLen := fun i hi => hs i (by rw [hxs]; simp [hi])
    have hsi : ∀ i ∈ A ++ B, i.1.size ≤ maxLen := fun i hi => hs i (by
      rw [hxs, ← weave_split Kid.xs L A r0 R B hL hRl]
      exact (weave_items Kid.xs _ _ hkl).subset hi)
    have hgr : At d 3 W r0 := hkd r0 (by simp)
    have hgs : ∀ s, s ∈ L ∨ s ∈ R → At d 3 W s := fun s h => hkd s (by rcases h with h | h <;> simp [h])
    rcases hB with ⟨hp, v, B', rfl⟩ | ⟨hp, hB⟩
    · obtain ⟨rest, e1, e2⟩ := wpost_cons Kid.xs (k, v) (k, v) B' R (by simpa using hRl)
      rw [hp] at hplace
      refine (del_hit d lo W q.p iv bv A B' (k, v) L R r0 q.c k hn hlt hlo h1 h2 hL hRl hgs hgr hr4 hss hk hsi (by rw [hL]; exact hplace) (fun W' k' hk' hat => del_is d 3 W' r0 k' hat (by omega) hr4 hss hk')).mono ?_
      rintro e W' hh
      obtain ⟨pre, x, c', hpre, rfl, g1, g2⟩ := hh.out
      have e3 : q.xs = (wpre Kid.xs L A ++ r0.xs) ++ (k, v) :: rest := by rw [hxs, e1, List.append_assoc]
      refine .inr ⟨v, c', valueOf_mem hr (by rw [e3]; simp), rfl, ?_, g2⟩
      have e4 : delL k q.xs = wpre Kid.xs L A ++ (pre ++ wpost Kid.xs (x :: B') R) := by
        obtain ⟨rest', f1, f2⟩ := wpost_cons Kid.xs (k, v) x B' R (by simpa using hRl)
        rw [e1] at f1
        injection f1 with _ f1
        subst f1
        rw [f2]
        rw [e3] at hr ⊢
        rw [del_mid hr, hpre]
        simp
      rw [e4]
      exact g1
    · rw [hp] at hplace
      have hP := wpre_less Kid.xs k L A hL hr1 hAl
      have hQ := wpost_more Kid.xs k B R hr5 hB
      have hP' : ∀ x ∈ wpre Kid.xs L A, x.1 ≠ k := fun x hx => lt_ne (hP x hx)
      have hQ' : ∀ x ∈ wpost Kid.xs B R, x.1 ≠ k := fun x hx e => lt_ne (hQ x hx) e.symm
      have hv : valueOf k q.xs = valueOf k r0.xs := by rw [hxs, valueOf_skip hP', valueOf_drop hQ']
      have hd : delL k q.xs = wpre Kid.xs L A ++ (delL k r0.xs ++ wpost Kid.xs B R) := by rw [hxs, delL_within hP' hQ']
      refine (del_in d lo W q.p iv bv A B L R r0 q.c k hn hlt hlo h1 h2 hL hRl hgs hgr hk hsi (by rw [hL]; exact hplace) (fun W' hat => del_is d 3 W' r0 k hat (by omega) hr4 hss hk)).mono ?_
      rintro e W' hh
      rcases hh.out with ⟨g1, rfl, u, rfl⟩ | ⟨v, c', g1, rfl, g2, g3⟩
      · exact .inl ⟨by rw [hv]; exact g1, rfl, u, rfl⟩
      · exact .inr ⟨v, c', by rw [hv]; exact g1, rfl, by rw [hd]; exact g2, g3⟩
end Go.Proofs.Ythknenhcnpgkcaa
