/- Texts of this proof, merged: Sh3, Sh4, Sh5. -/
import Derived.Test.YthknenhcnpgkcaaGreatMn
import Derived.Test.YthknenhcnpgkcaaGreatMs
import Derived.IntWalk
import Derived.Deep.RegionWith
import Derived.Deep.DeepMust
import Derived.Lib.Strings
import Derived.Lib.Walk
import Derived.Lib.BufferWrite
import Derived.Lib.UnsafeStr
import Derived.Laws.MakeOwn
import Derived.WalkKit
/- Contracts of package shelf: find, Len, Depth, all. -/
namespace Go.Proofs.YthknenhcnpgkcaaGreat
open Go.RowKit
set_option linter.unusedVariables false
set_option linter.unusedSimpArgs false
@[reducible] def shfObj (most : Int) (n : Nat) (top : Value) : Obj := .cells #[.int .i64 most, .int .i64 n, top] 94
/-- The tree of a shelf. -/
inductive Top (W : World) (g : Nat) (xs : List It) (c : Cnt) : Value → Prop
  | none (hx : xs = []) (hc : ∀ k, c k = one g k) : Top W g xs c (.pointer none)
  | some (d : Nat) (q : Kid) (h : At d 1 W q) (hx : q.xs = xs) (hg : q.c g = 0) (hc : ∀ k, c k = one g k + q.c k) : Top W g xs c (.pointer (some ⟨q.p, 0, none⟩))
/-- Block g is a shelf for so many items that holds xs; its blocks are c. -/
structure Shf (most : Int) (xs : List It) (W : World) (g : Nat) (c : Cnt) (top : Value) : Prop where
  heap : W.heap[g]? = .some (shfObj most xs.length top)
  rises : Rises xs
  small : Small xs
  top : Top W g xs c top
theorem Shf.lt {most : Int} {xs : List It} {W : World} {g : Nat} {c : Cnt} {top : Value} (h : Shf most xs W g c top) : ∀ k, c k ≠ 0 → k < W.heap.size := by
  intro k hk
  cases h.top with
  | none hx hc =>
    rw [hc] at hk
    rw [one_ne hk]; exact lt_of_heap h.heap
  | some d q ha hx hg hc =>
    rw [hc] at hk
    by_cases e : one g k = 0
    · exact ha.lt k (by omega)
    · rw [one_ne e]; exact lt_of_heap h.heap
theorem Shf.le {most : Int} {xs : List It} {W : World} {g : Nat} {c : Cnt} {top : Value} (h : Shf most xs W g c top) : ∀ k, c k ≤ 1 := by
  intro k
  cases h.top with
  | none hx hc => rw [hc]; exact one_le _ _
  | some d q ha hx hg hc =>
    rw [hc]
    have := ha.le k
    by_cases e : one g k = 0
    · omega
    · rw [one_ne e] at this ⊢
      rw [hg, one_self]; omega
theorem Shf.keep {most : Int} {xs : List It} {W W' : World} {g : Nat} {c : Cnt} {top : Value} (h : Shf most xs W g c top) (hh : ∀ k, c k ≠ 0 → W'.heap[k]? = W.heap[k]?) : Shf most xs W' g c top := by
  refine ⟨?_, h.rises, h.small, ?_⟩
  · rw [hh g]; · exact h.heap
    cases h.top with
    | none hx hc => rw [hc, one_self]; omega
    | some d q ha hx hg hc => rw [hc, one_self]; omega
  · cases h.top with
    | none hx hc => exact .none hx hc
    | some d q ha hx hg hc => exact .some d q (ha.keep fun k hk => hh k (by rw [hc]; omega)) hx hg hc
theorem Shf.on {most : Int} {xs : List It} {W W' : World} {g : Nat} {c : Cnt} {top : Value} (h : Shf most xs W g c top) (hb : Below W.heap.size W W') : Shf most xs W' g c top :=
  h.keep fun k hk => hb.block k (h.lt k hk)
theorem new_is (W : World) (m : Int) (r : Int) (hr : min (max m 0) 200 = r) : Calls Tryz.prog 20 #[.int .i64 m] W fun e W' => e = .returned (.pointer (some ⟨W.heap.size, 0, none⟩)) ∧ W' = W.alloc (shfObj r 0 (.pointer none)) := by
  subst hr
  go_enter Tryz.func20, Tryz.ntmps20
  go_wp2_with fail
  all_goals go_ret
  all_goals refine ⟨rfl, ?_⟩
  all_goals congr 3
  all_goals simp
  all_goals omega
theorem shf_new (most : Int) {W : World} {g : Nat} (h : W.heap[g]? = some (shfObj most 0 (.pointer none))) : Shf most [] W g (one g) (.pointer none) :=
  ⟨h, List.Pairwise.nil, fun i hi => by (cases hi), .none rfl (fun _ => rfl)⟩
theorem len_is {most : Int} {xs : List It} {W : World} {g : Nat} {c : Cnt} {top : Value} (h : Shf most xs W g c top) (n : Nat) (hn : xs.length = n) : Calls Tryz.prog 64 #[.pointer (some ⟨g, 0, none⟩)] W (Makes (.int .i64 n) W) := by
  have hc := fun i => cell_of_row W g i _ _ (0, 0) h.heap
  have hl := lt_of_heap h.heap
  rw [hn] at hc
  clear h
  go_enter Tryz.func64, Tryz.ntmps64
  go_wp2_with (first | (((with_reducible refine wp_region_fut_lit (by kernel_rfl) (by kernel_rfl) ?_)); (repeat (go_big_quiet_step ((first | fail)))); ((with_reducible refine wpQuiet_nil ?_)); rintro _ ⟨u, rfl⟩; (try (rw [Fut.put_self u (by first | assumption | (simp [go_sem]; done) | (simp [go_sem]; omega))]))))
  go_ret; exact .mk (by first | rfl | (simp; done) | (simp; omega)) (by repeat' (first | exact Below.refl _ _ | with_reducible assumption | omega | with_reducible refine below_put_fut ?_ ?_ _ | with_reducible refine below_to_put ?_ | with_reducible refine Below.alloc ?_ ?_ _ | with_reducible refine Below.fut ?_ ?_ _ | with_reducible refine Below.drew ?_ | with_reducible refine Below.setCell ?_ ?_ _ | with_reducible refine Below.atPut ?_ ?_ _ | (simp [go_sem]; done) | (simp [go_sem]; omega)))
theorem Node.on {W W' : World} {p : Nat} {iv bv : Value} {its : List It} {kids : List Kid} {c : Cnt} (h : Node W p iv bv its kids c) (hlt : ∀ k, c k ≠ 0 → k < W.heap.size) (hb : Below W.heap.size W W') : Node W' p iv bv its kids c :=
  h.keep fun k hk => hb.block k (hlt k hk)
theorem least {P : Nat → Prop} (h : ∃ n, P n) : ∃ m, P m ∧ ∀ n, P n → m ≤ n := by
  classical
  obtain ⟨n, hn⟩ := h
  induction n using Nat.strongRecOn with
  | _ n ih =>
    by_cases c : ∃ m, m < n ∧ P m
    · obtain ⟨m, hm, hp⟩ := c
      exact ih m hm hp
    · refine ⟨n, hn, fun m hm => ?_⟩
      rcases Nat.lt_or_ge m n with e | e
      · exact absurd ⟨m, e, hm⟩ c
      · exact e
theorem way_least (d : Nat) (W : World) (q : Kid) (k : ByteArray) : ∃ D : Value → Nat, (∀ v n lo' r, v = .pointer (some ⟨Kid.p r, 0, none⟩) → Way d 1 W q k n lo' r → ∃ lo' r, v = .pointer (some ⟨Kid.p r, 0, none⟩) ∧ Way d 1 W q k (D v) lo' r) ∧ (∀ v n lo' r, v = .pointer (some ⟨Kid.p r, 0, none⟩) → Way d 1 W q k n lo' r → D v ≤ n) := by
  classical
  have key : ∀ v : Value, ∃ m : Nat, (∀ n lo' r, v = .pointer (some ⟨Kid.p r, 0, none⟩) → Way d 1 W q k n lo' r → ∃ lo' r, v = .pointer (some ⟨Kid.p r, 0, none⟩) ∧ Way d 1 W q k m lo' r) ∧ (∀ n lo' r, v = .pointer (some ⟨Kid.p r, 0, none⟩) → Way d 1 W q k n lo' r → m ≤ n) := by
    intro v
    by_cases h : ∃ n, ∃ lo' r, v = .pointer (some ⟨Kid.p r, 0, none⟩) ∧ Way d 1 W q k n lo' r
    · obtain ⟨m, h1, h2⟩ := least h
      exact ⟨m, fun _ _ _ _ _ => h1, fun n lo' r h3 h4 => h2 n ⟨lo', r, h3, h4⟩⟩
    · exact ⟨0, fun n lo' r h1 h2 => absurd ⟨n, lo', r, h1, h2⟩ h, fun n lo' r h1 h2 => absurd ⟨n, lo', r, h1, h2⟩ h⟩
  exact ⟨fun v => Classical.choose (key v), fun v => (Classical.choose_spec (key v)).1, fun v => (Classical.choose_spec (key v)).2⟩
/-- What find says. -/
def Found (d : Nat) (W : World) (q : Kid) (k : ByteArray) (en : Ending) : Prop :=
  (en = .returned (.tuple #[.pointer none, .int .i64 0]) ∧ valueOf k q.xs = none) ∨ ∃ v p at_, en = .returned (.tuple #[.pointer (some ⟨p, 0, none⟩), .int .i64 (at_ : Nat)]) ∧ Spot d 1 W q k v p at_
set_option maxRecDepth 100000 in
set_option maxHeartbeats 4000000 in
theorem find_is {d : Nat} {W : World} {q : Kid} (h : At d 1 W q) (hr : Rises q.xs) (hs : Small q.xs) (k : ByteArray) (hk : k.size ≤ maxLen) (g : Nat) (a b : Value) (hg : W.heap[g]? = some (.cells #[a, b, .pointer (some ⟨q.p, 0, none⟩)] 94)) :
    Calls Tryz.prog 68 #[.pointer (some ⟨g, 0, none⟩), .string k] W fun en W' => Found d W q k en ∧ ∃ u : Fut W, W' = u.val := by
  have hc := fun i => cell_of_row W g i _ _ (0, 0) hg
  have hl := lt_of_heap hg
  have HW := hid (Way.start h hr hs k)
  have HLT := hid h.lt
  obtain ⟨D, hD1, hD2⟩ := way_least d W q k
  have HD1 := hid hD1
  have HD2 := hid hD2
  clear h hr hs hg hD1 hD2
  go_enter Tryz.func68, Tryz.ntmps68
  go_wp2_with fail
  go_step3
  go_wp2_with fail
  go_step3
  go_wp2_with fail
  go_loopw [6] (fun x wr => ∃ (d' lo' : Nat) (r : Kid), x = .pointer (some ⟨r.p, 0, none⟩) ∧ Hid (Way d 1 W q k d' lo' r) ∧ D x = d' ∧ ∃ u : Fut W, wr = u.val) (fun x _ => D x)
  case atStart =>
    obtain ⟨lo', r, h1, h2⟩ := HD1.out _ d 1 q rfl HW.out
    exact ⟨_, lo', r, h1, hid h2, rfl, ⟨⟨_, (by repeat' (first | exact Below.refl _ _ | with_reducible assumption | omega | with_reducible refine below_put_fut ?_ ?_ _ | with_reducible refine below_to_put ?_ | with_reducible refine Below.alloc ?_ ?_ _ | with_reducible refine Below.fut ?_ ?_ _ | with_reducible refine Below.drew ?_ | with_reducible refine Below.setCell ?_ ?_ _ | with_reducible refine Below.atPut ?_ ?_ _ | (simp [go_sem]; done) | (simp [go_sem]; omega)))⟩, rfl⟩⟩
  case round =>
    obtain ⟨d', lo', r, rfl, hw, hD, u, rfl⟩ := hrel
    obtain ⟨iv, bv, its, kids, hN, hl1, hl2, hG⟩ := hw.out.at_.node
    obtain ⟨at_, is, hp⟩ : ∃ a b, placeOf k its = (a, b) := ⟨_, _, rfl⟩
    have hat := placeOf_le k its
    rw [hp] at hat
    dsimp only at hat
    obtain ⟨bo, cb, rfl⟩ := owns_slice hN.below
    have hon := hid (fun W' (hB : Below W.heap.size W W') => hN.on hw.out.at_.lt hB)
    have hmi : ∀ i ∈ its, i ∈ r.xs := fun i hi => by
      cases d' with
      | zero => obtain ⟨_, e⟩ := hG; rw [e]; exact hi
      | succ d' => obtain ⟨g1, e, _⟩ := hG; rw [e]; exact (weave_items _ _ _ g1).subset hi
    have HS := hid (show ∀ i ∈ its, i.1.size ≤ maxLen from fun i hi => (hw.out.small i (hmi i hi)).1)
    have HP := hid hp
    have HN := hid hN
    have HG := hid hG
    have hrl := hN.lt
    clear hN hG hp hmi
    cases is with
    | true =>
      obtain ⟨v, hsp⟩ := hw.out.spot HN.out hl1 hl2 HG.out HP.out
      have HSP := hid hsp
      clear hsp
      go_wp2_with fail
      (((with_reducible refine (place_is _ r.p _ _ its k (hon.out _ (by repeat' (first | exact Below.refl _ _ | with_reducible assumption | omega | with_reducible refine below_put_fut ?_ ?_ _ | with_reducible refine below_to_put ?_ | with_reducible refine Below.alloc ?_ ?_ _ | with_reducible refine Below.fut ?_ ?_ _ | with_reducible refine Below.drew ?_ | with_reducible refine Below.setCell ?_ ?_ _ | with_reducible refine Below.atPut ?_ ?_ _ | (simp [go_sem]; done) | (simp [go_sem]; omega)))).heap (hon.out _ (by repeat' (first | exact Below.refl _ _ | with_reducible assumption | omega | with_reducible refine below_put_fut ?_ ?_ _ | with_reducible refine below_to_put ?_ | with_reducible refine Below.alloc ?_ ?_ _ | with_reducible refine Below.fut ?_ ?_ _ | with_reducible refine Below.drew ?_ | with_reducible refine Below.setCell ?_ ?_ _ | with_reducible refine Below.atPut ?_ ?_ _ | (simp [go_sem]; done) | (simp [go_sem]; omega)))).items (by omega) hk HS.out at_ true HP.out).mono ?_)); rintro _ _ ⟨rfl, u1, rfl⟩)
      go_wp2_with fail
      (try (rw [Exit.noGoto_ret]))
      go_ret2
      exact ⟨.inr ⟨v, r.p, at_, rfl, HSP.out⟩, ⟨⟨_, (by repeat' (first | exact Below.refl _ _ | with_reducible assumption | omega | with_reducible refine below_put_fut ?_ ?_ _ | with_reducible refine below_to_put ?_ | with_reducible refine Below.alloc ?_ ?_ _ | with_reducible refine Below.fut ?_ ?_ _ | with_reducible refine Below.drew ?_ | with_reducible refine Below.setCell ?_ ?_ _ | with_reducible refine Below.atPut ?_ ?_ _ | (simp [go_sem]; done) | (simp [go_sem]; omega)))⟩, rfl⟩⟩
    | false =>
      obtain ⟨lf, hlf⟩ : ∃ b, ((kids.length : Int) == 0) = b := ⟨_, rfl⟩
      have HLF := hid hlf
      clear hlf
      cases d' with
      | zero =>
        have hkl : kids.length = 0 := by obtain ⟨e, _⟩ := HG.out; rw [e]; rfl
        obtain rfl : lf = true := by rw [← HLF.out, hkl]; rfl
        have HNO := hid (hw.out.none (at_ := at_) (by obtain ⟨_, e⟩ := HG.out; rw [e]; exact HP.out))
        go_wp2_with fail
        (((with_reducible refine (place_is _ r.p _ _ its k (hon.out _ (by repeat' (first | exact Below.refl _ _ | with_reducible assumption | omega | with_reducible refine below_put_fut ?_ ?_ _ | with_reducible refine below_to_put ?_ | with_reducible refine Below.alloc ?_ ?_ _ | with_reducible refine Below.fut ?_ ?_ _ | with_reducible refine Below.drew ?_ | with_reducible refine Below.setCell ?_ ?_ _ | with_reducible refine Below.atPut ?_ ?_ _ | (simp [go_sem]; done) | (simp [go_sem]; omega)))).heap (hon.out _ (by repeat' (first | exact Below.refl _ _ | with_reducible assumption | omega | with_reducible refine below_put_fut ?_ ?_ _ | with_reducible refine below_to_put ?_ | with_reducible refine Below.alloc ?_ ?_ _ | with_reducible refine Below.fut ?_ ?_ _ | with_reducible refine Below.drew ?_ | with_reducible refine Below.setCell ?_ ?_ _ | with_reducible refine Below.atPut ?_ ?_ _ | (simp [go_sem]; done) | (simp [go_sem]; omega)))).items (by omega) hk HS.out at_ false HP.out).mono ?_)); rintro _ _ ⟨rfl, u1, rfl⟩)
        go_wp2_with fail
        (((with_reducible refine (leaf_is _ r.p _ _ _ _ (hon.out _ (by repeat' (first | exact Below.refl _ _ | with_reducible assumption | omega | with_reducible refine below_put_fut ?_ ?_ _ | with_reducible refine below_to_put ?_ | with_reducible refine Below.alloc ?_ ?_ _ | with_reducible refine Below.fut ?_ ?_ _ | with_reducible refine Below.drew ?_ | with_reducible refine Below.setCell ?_ ?_ _ | with_reducible refine Below.atPut ?_ ?_ _ | (simp [go_sem]; done) | (simp [go_sem]; omega)))).heap true HLF.out).mono ?_)); rintro _ _ ⟨rfl, u2, rfl⟩)
        go_wp2_with fail
        (try (rw [Exit.noGoto_ret]))
        go_ret2
        exact ⟨.inl ⟨rfl, HNO.out⟩, ⟨⟨_, (by repeat' (first | exact Below.refl _ _ | with_reducible assumption | omega | with_reducible refine below_put_fut ?_ ?_ _ | with_reducible refine below_to_put ?_ | with_reducible refine Below.alloc ?_ ?_ _ | with_reducible refine Below.fut ?_ ?_ _ | with_reducible refine Below.drew ?_ | with_reducible refine Below.setCell ?_ ?_ _ | with_reducible refine Below.atPut ?_ ?_ _ | (simp [go_sem]; done) | (simp [go_sem]; omega)))⟩, rfl⟩⟩
      | succ d' =>
        obtain ⟨s, hs, hws⟩ := hw.out.down HN.out hl1 hl2 HG.out HP.out
        have hkl : kids.length = its.length + 1 := HG.out.1
        obtain rfl : lf = false := by rw [← HLF.out, hkl]; simp; omega
        obtain ⟨rb, cb', hv, _, hrb⟩ := World.ownsRow.form HN.out.below (by omega)
        obtain rfl : bo = some ⟨rb, 0, none⟩ := by injection hv
        have hcb : W.cell? ⟨rb, at_, none⟩ = some (.pointer (some ⟨s.p, 0, none⟩)) := by
          rw [HN.out.below.cellAt at_ (by omega)]
          simp [ptrs, hs, Kid.v]
        have hc2 := fun i => cell_of_row W r.p i _ _ (0, 0) HN.out.heap
        have HWS := hid hws
        have hat2 : at_ < kids.length := by omega
        have hat3 : (at_ : Int) < kids.length := by omega
        generalize kids.length = kn at *
        clear hws hs hv
        go_wp2_with fail
        (((with_reducible refine (place_is _ r.p _ _ its k (hon.out _ (by repeat' (first | exact Below.refl _ _ | with_reducible assumption | omega | with_reducible refine below_put_fut ?_ ?_ _ | with_reducible refine below_to_put ?_ | with_reducible refine Below.alloc ?_ ?_ _ | with_reducible refine Below.fut ?_ ?_ _ | with_reducible refine Below.drew ?_ | with_reducible refine Below.setCell ?_ ?_ _ | with_reducible refine Below.atPut ?_ ?_ _ | (simp [go_sem]; done) | (simp [go_sem]; omega)))).heap (hon.out _ (by repeat' (first | exact Below.refl _ _ | with_reducible assumption | omega | with_reducible refine below_put_fut ?_ ?_ _ | with_reducible refine below_to_put ?_ | with_reducible refine Below.alloc ?_ ?_ _ | with_reducible refine Below.fut ?_ ?_ _ | with_reducible refine Below.drew ?_ | with_reducible refine Below.setCell ?_ ?_ _ | with_reducible refine Below.atPut ?_ ?_ _ | (simp [go_sem]; done) | (simp [go_sem]; omega)))).items (by omega) hk HS.out at_ false HP.out).mono ?_)); rintro _ _ ⟨rfl, u1, rfl⟩)
        go_wp2_with fail
        (((with_reducible refine (leaf_is _ r.p _ _ _ _ (hon.out _ (by repeat' (first | exact Below.refl _ _ | with_reducible assumption | omega | with_reducible refine below_put_fut ?_ ?_ _ | with_reducible refine below_to_put ?_ | with_reducible refine Below.alloc ?_ ?_ _ | with_reducible refine Below.fut ?_ ?_ _ | with_reducible refine Below.drew ?_ | with_reducible refine Below.setCell ?_ ?_ _ | with_reducible refine Below.atPut ?_ ?_ _ | (simp [go_sem]; done) | (simp [go_sem]; omega)))).heap false HLF.out).mono ?_)); rintro _ _ ⟨rfl, u2, rfl⟩)
        go_wp2_with fail
        obtain ⟨lo2, r2, h1, h2⟩ := HD1.out _ d' 3 s rfl HWS.out
        exact ⟨⟨_, lo2, r2, h1, hid h2, rfl, ⟨⟨_, (by repeat' (first | exact Below.refl _ _ | with_reducible assumption | omega | with_reducible refine below_put_fut ?_ ?_ _ | with_reducible refine below_to_put ?_ | with_reducible refine Below.alloc ?_ ?_ _ | with_reducible refine Below.fut ?_ ?_ _ | with_reducible refine Below.drew ?_ | with_reducible refine Below.setCell ?_ ?_ _ | with_reducible refine Below.atPut ?_ ?_ _ | (simp [go_sem]; done) | (simp [go_sem]; omega)))⟩, rfl⟩⟩, by rw [hD]; have := HD2.out _ d' 3 s rfl HWS.out; omega⟩
theorem wpre_snoc (X : Kid → List It) : ∀ (L : List Kid) (A : List It) (q : Kid) (i : It), L.length = A.length → wpre X (L ++ [q]) (A ++ [i]) = wpre X L A ++ (X q ++ [i])
  | [], [], q, i, _ => by simp [wpre]
  | p :: L, a :: A, q, i, h => by
    have := wpre_snoc X L A q i (by simpa using h)
    simp [wpre, this]
  | [], _ :: _, _, _, h => by cases h
  | _ :: _, [], _, _, h => by cases h
/-- What all has put together behind i items of a node. -/
def preL (d : Nat) (its : List It) (kids : List Kid) (i : Nat) : List It := if d = 0 then its.take i else wpre Kid.xs (kids.take i) (its.take i)
theorem preL_leaf {its : List It} {kids : List Kid} {i : Nat} {x : It} (h : its[i]? = some x) : preL 0 its kids (i + 1) = preL 0 its kids i ++ [x] := by
  obtain ⟨hl, rfl⟩ := List.getElem?_eq_some_iff.1 h
  simp only [preL, if_true]
  exact List.take_succ_eq_append_getElem hl
theorem preL_node {d : Nat} {its : List It} {kids : List Kid} {i : Nat} {x : It} {s : Kid} (h : its[i]? = some x) (hs : kids[i]? = some s) : preL (d + 1) its kids (i + 1) = preL (d + 1) its kids i ++ s.xs ++ [x] := by
  obtain ⟨hl, rfl⟩ := List.getElem?_eq_some_iff.1 h
  obtain ⟨hl2, rfl⟩ := List.getElem?_eq_some_iff.1 hs
  unfold preL
  rw [if_neg (by omega), if_neg (by omega), List.take_succ_eq_append_getElem hl, List.take_succ_eq_append_getElem hl2, wpre_snoc _ _ _ _ _ (by rw [List.length_take, List.length_take]; omega), List.append_assoc]
theorem preL_end {d : Nat} {W : World} {its xs : List It} {kids : List Kid} (h : Good d W its kids xs) : (d = 0 → preL d its kids its.length = xs) ∧ (∀ s, d ≠ 0 → kids[its.length]? = some s → preL d its kids its.length ++ s.xs = xs) := by
  cases d with
  | zero => obtain ⟨_, rfl⟩ := h; exact ⟨fun _ => by simp [preL], fun s h => absurd rfl h⟩
  | succ d =>
    refine ⟨fun h => by omega, fun s _ hs => ?_⟩
    obtain ⟨h1, h2, _⟩ := h
    obtain ⟨hl2, rfl⟩ := List.getElem?_eq_some_iff.1 hs
    have hk : kids.take its.length ++ kids[its.length] :: [] = kids := by
      have := List.take_append_drop its.length kids
      rw [List.drop_eq_getElem_cons hl2, List.drop_of_length_le (by omega)] at this
      exact this
    have hw := weave_split Kid.xs (kids.take its.length) its kids[its.length] [] [] (by rw [List.length_take]; omega) rfl
    rw [hk, List.append_nil] at hw
    rw [h2, hw]
    unfold preL
    rw [if_neg (by omega), List.take_length]
    simp [wpost]
theorem preL_len {d : Nat} {W : World} {its xs : List It} {kids : List Kid} (h : Good d W its kids xs) (i : Nat) (s : Kid) (hi : i < its.length) (hs : d ≠ 0 → kids[i]? = some s) : (preL d its kids i).length + (if d = 0 then 0 else s.xs.length) + 1 ≤ xs.length := by
  have key : ∀ n i, i + n = its.length → (preL d its kids i).length ≤ xs.length := by
    intro n
    induction n with
    | zero =>
      intro i hi
      obtain rfl : i = its.length := by omega
      cases d with
      | zero => rw [(preL_end h).1 rfl]; exact Nat.le_refl _
      | succ d =>
        obtain ⟨s, hs⟩ : ∃ s, kids[its.length]? = some s := ⟨_, List.getElem?_eq_getElem (by have := h.1; omega)⟩
        rw [← (preL_end h).2 s (by omega) hs, List.length_append]; omega
    | succ n ih =>
      intro i hi
      have h1 := ih (i + 1) (by omega)
      obtain ⟨x, hx⟩ : ∃ x, its[i]? = some x := ⟨_, List.getElem?_eq_getElem (by omega)⟩
      cases d with
      | zero => rw [preL_leaf hx, List.length_append] at h1; omega
      | succ d =>
        obtain ⟨s, hs⟩ : ∃ s, kids[i]? = some s := ⟨_, List.getElem?_eq_getElem (by have := h.1; omega)⟩
        rw [preL_node hx hs, List.length_append, List.length_append] at h1; omega
  have h1 := key (its.length - (i + 1)) (i + 1) (by omega)
  obtain ⟨x, hx⟩ : ∃ x, its[i]? = some x := ⟨_, List.getElem?_eq_getElem hi⟩
  cases d with
  | zero => rw [preL_leaf hx, List.length_append] at h1; simpa using h1
  | succ d =>
    rw [preL_node hx (hs (by omega)), List.length_append, List.length_append] at h1
    simpa using h1
end Go.Proofs.YthknenhcnpgkcaaGreat

/- Contracts of package shelf: all, Items. -/
namespace Go.Proofs.YthknenhcnpgkcaaGreat
open Go.RowKit
set_option linter.unusedVariables false
set_option linter.unusedSimpArgs false
theorem wpList_append_ex {P : Program} {w : World} {ops : Array Oper} {rest : List Oper} {o : Oper} {a : Act} {Q : Exit → Act → World → Prop} {R : Value → World → Prop} (hgd : o.guard = none) (s x : Operand) (t : TypeId)
    (ho : o.op = .call { callee := .builtin .append, args := #[s, x], argTypes := #[t, t] }) (v sv : Value) (hs : a.eval s = v) (hx : a.eval x = sv)
    (hrun : ∃ v' w', (Builtin.append_ #[t, t] o.type #[v, sv]).run P w = .ok v' w' ∧ R v' w') (h : ∀ v' w', R v' w' → wpList P ops Q rest (a.put o.dst v') w') : wpList P ops Q (o :: rest) a w := by
  obtain ⟨v', w', hr, hR⟩ := hrun
  exact wpList_append_run hgd s x t ho v sv hs hx v' w' hr (h v' w' hR)
/-- One more item in a list. -/
theorem append_one {W W2 : World} {v : Value} {n : Nat} {ys : List It} (h : Row W 59 2 v n (flat ys)) (hb : Below W.heap.size W W2) (hn : n ≤ 1000) {S : Nat} {x : It} (hS : W2.heap[S]? = some (.cells #[.string x.1, .string x.2] 59)) :
    ∃ v' W', (Builtin.append_ #[22, 22] 22 #[v, .slice (some ⟨S, 0, none⟩) 1 1]).run Tryz.prog W2 = .ok v' W' ∧ (∃ ao c, v' = .slice ao (n + 1) c) ∧ Row W' 59 2 v' (n + 1) (flat (ys ++ [x])) ∧ Chg (fun k => blk v k ≠ 0) W W' ∧ ∀ k, k < W.heap.size → blk v' k ≤ blk v k := by
  obtain ⟨i0, hi0, hz0, hz1, hz2⟩ := info_parts item_info
  obtain ⟨v', W', hrun, hrow, hch, hle⟩ := append_row (P := Tryz.prog) W2 22 22 59 i0 _ 2 32 Tryz.underlying22 hi0 hz0 hz1 hz2 rfl (by omega) v n _ (owns_below h hb) (.slice (some ⟨S, 0, none⟩) 1 1) 1 [.string x.1, .string x.2]
    ⟨rfl, by simp [Value.oneCell'], .inr ⟨⟨S, 0, none⟩, 1, rfl, World.news_of_block hS⟩⟩ (by unfold maxLen; omega) (by omega)
  obtain ⟨ao, c, rfl⟩ := owns_slice hrow
  refine ⟨_, W', hrun, ⟨ao, c, rfl⟩, ?_, (Chg.of_below (S := fun k => blk v k ≠ 0) hb).trans hch (fun _ _ h => h), fun k hk => hle k (Nat.lt_of_lt_of_le hk hb.size)⟩
  rw [flat_append]
  exact hrow
set_option maxRecDepth 100000 in
set_option maxHeartbeats 8000000 in
theorem all_is : ∀ (d lo : Nat) (W : World) (q : Kid) (ov : Value) (m : Nat) (olds : List It), At d lo W q → Row W 59 2 ov m (flat olds) → olds.length = m → m + q.xs.length ≤ 1000 → (∀ k, q.c k ≠ 0 → blk ov k = 0) →
    Calls Tryz.prog 73 #[.pointer (some ⟨q.p, 0, none⟩), ov] W fun en W' => ∃ ao c, en = .returned (.slice ao (m + q.xs.length) c) ∧ Row W' 59 2 (.slice ao (m + q.xs.length) c) (m + q.xs.length) (flat (olds ++ q.xs)) ∧ Chg (fun k => blk ov k ≠ 0) W W' ∧ ∀ k, k < W.heap.size → blk (.slice ao (m + q.xs.length) c) k ≤ blk ov k := by
  intro d
  induction d using Nat.strongRecOn with
  | _ d ih =>
  intro lo W q ov m olds h hrow hol hm hdis
  have IH := hid ih
  clear ih
  obtain ⟨iv, bv, its, kids, hN, hl1, hl2, hG⟩ := h.node
  obtain ⟨oo, oc, rfl⟩ := owns_slice hrow
  obtain ⟨io, ic, rfl⟩ := owns_slice hN.items
  obtain ⟨bo, bc, rfl⟩ := owns_slice hN.below
  obtain ⟨n, hn⟩ : ∃ n, its.length = n := ⟨_, rfl⟩
  obtain ⟨kn, hkn⟩ : ∃ kn, kids.length = kn := ⟨_, rfl⟩
  have HKEEP := hid (show ∀ wr, Chg (fun k => blk (.slice oo m oc) k ≠ 0) W wr → ∀ k, q.c k ≠ 0 → wr.heap[k]? = W.heap[k]? from fun wr hc k hk => hc.block k (h.lt k hk) (by rw [hdis k hk]; simp))
  have hiv := hN.items
  have hbv := hN.below
  rw [hn] at hiv hN hl1 hl2
  rw [hkn] at hbv hN
  have hpl := hN.lt
  have HN := hid hN
  have HH := hid h
  have HROW := hid hrow
  have HOL := hid hol
  have HM := hid hm
  have HDIS := hid hdis
  have HG := hid hG
  have HNN := hid hn
  have HKN := hid hkn
  have HIV := hid hiv
  have HBV := hid hbv
  have hcp := fun i => cell_of_row W q.p i _ _ (0, 0) hN.heap
  have hm0 : m ≤ 1000 := by omega
  obtain ⟨lf, hlf⟩ : ∃ b, ((kn : Int) == 0) = b := ⟨_, rfl⟩
  have HLF := hid hlf
  clear hN h hrow hol hm hdis hG hn hkn hiv hbv hlf
  go_enter Tryz.func73, Tryz.ntmps73
  go_wp2_with fail
  go_loopw [1, 15] (fun o x wr => ∃ (i m' : Nat) (ao : Option Addr) (c : Nat), i ≤ n ∧ x = .int .i64 i ∧ o = .slice ao m' c ∧ m' ≤ 1000 ∧ Hid ((olds ++ preL d its kids i).length = m' ∧ Row wr 59 2 (.slice ao m' c) m' (flat (olds ++ preL d its kids i))) ∧ Hid (Chg (fun k => blk (.slice oo m oc) k ≠ 0) W wr ∧ ∀ k, k < W.heap.size → blk (.slice ao m' c) k ≤ blk (.slice oo m oc) k)) (fun _ x _ => n - (intOf x).toNat)
  case atStart =>
    have e : preL d its kids 0 = [] := by unfold preL; split <;> simp [wpre]
    exact ⟨0, m, oo, oc, Nat.zero_le _, rfl, rfl, hm0, hid (by rw [e, List.append_nil]; exact ⟨HOL.out, HROW.out⟩), hid ⟨Chg.refl _ _, fun _ _ => Nat.le_refl _⟩⟩
  case round =>
    obtain ⟨i, m', ao, c, hi, rfl, rfl, hm', hr, hc⟩ := hrel
    have hpr : wr.heap[q.p]? = some (.cells #[.slice io n ic, .slice bo kn bc] 101) := (HKEEP.out wr hc.out.1 q.p (by have := HN.out.cnt q.p; rw [one_self] at this; omega)).trans HN.out.heap
    have hplr := lt_of_heap hpr
    have hcr := fun i => cell_of_row wr q.p i _ _ (0, 0) hpr
    have HPR := hid hpr
    clear hpr
    by_cases hlt : i < n
    · obtain ⟨x, hx⟩ : ∃ x, its[i]? = some x := ⟨its[i]'(by rw [HNN.out]; exact hlt), List.getElem?_eq_getElem _⟩
      obtain ⟨ri, ci, hv, _, hril⟩ := World.ownsRow.form HIV.out (by omega)
      obtain rfl : io = some ⟨ri, 0, none⟩ := by injection hv
      have hf := flat_at its i x hx
      have hrib : wr.heap[ri]? = W.heap[ri]? := HKEEP.out wr hc.out.1 ri (by have := HN.out.cnt ri; rw [blk_at _ _ _ _ _ none, one_self] at this; omega)
      have q0 : wr.cell? ⟨ri, i * 2, none⟩ = some (.string x.1) := by
        rw [World.cell?_of_block (w := W) (a := ⟨ri, i * 2, none⟩) hrib, HIV.out.cellAt _ (by omega), ← hf.1]; congr 1; omega
      have q1 : wr.cell? ⟨ri, i * 2 + 1, none⟩ = some (.string x.2) := by
        rw [World.cell?_of_block (w := W) (a := ⟨ri, i * 2 + 1, none⟩) hrib, HIV.out.cellAt _ (by omega), ← hf.2]; congr 1; omega
      have hrir := World.block_lt_of_cell? _ _ q0
      have HX := hid hx
      clear hv hf hx hrib
      cases d with
      | zero =>
        have hk0 : kn = 0 := by rw [← HKN.out]; obtain ⟨e, _⟩ := HG.out; rw [e]; rfl
        obtain rfl : lf = true := by rw [← HLF.out, hk0]; rfl
        have HPL := hid (preL_leaf (kids := kids) HX.out)
        have hlen := preL_len HG.out i ⟨0, [], fun _ => 0⟩ (by rw [HNN.out]; exact hlt) (fun e => absurd rfl e)
        have hm2 : m' + 1 ≤ 1000 := by
          have e1 := hr.out.1; have e2 := HOL.out; have e3 := HM.out
          rw [List.length_append] at e1
          simp at hlen
          omega
        go_wp2_with fail
        (((with_reducible refine (leaf_is _ q.p _ _ _ _ ((heap_alloc_other _ _ _ hplr).trans HPR.out) true HLF.out).mono ?_)); rintro _ _ ⟨rfl, u1, rfl⟩)
        go_wp2_with (first | (at_builtin; refine wpList_append_ex (by rfl) _ _ _ (by rfl) _ _ (by rfl) (by rfl) (append_one (x := x) hr.out.2 (by repeat' (first | exact Below.refl _ _ | with_reducible assumption | omega | with_reducible refine below_put_fut ?_ ?_ _ | with_reducible refine below_to_put ?_ | with_reducible refine Below.alloc ?_ ?_ _ | with_reducible refine Below.fut ?_ ?_ _ | with_reducible refine Below.drew ?_ | with_reducible refine Below.setCell ?_ ?_ _ | with_reducible refine Below.atPut ?_ ?_ _ | (simp [go_sem]; done) | (simp [go_sem]; omega))) hm' (by repeat' (first | rfl | assumption | (with_reducible refine (heap_drew_eq _ _).trans ?_) | (refine (Fut.heap _ _ ?_).trans ?_ ; focus (first | assumption | omega | (simp [go_sem]; done) | (simp [go_sem]; omega))) | (refine (heap_put_at _ _ _ ?_).trans ?_ ; focus (first | assumption | omega | (simp [go_sem]; done) | (simp [go_sem]; omega))) | (refine (heap_put_other _ _ _ _ ?_).trans ?_ ; focus (first | assumption | omega | (simp [go_sem]; done) | (simp [go_sem]; omega))) | (refine (heap_alloc_other _ _ _ ?_).trans ?_ ; focus (first | assumption | omega | (simp [go_sem]; done) | (simp [go_sem]; omega))) | (refine (heap_alloc_at _ _ _ ?_).trans ?_ ; focus (first | assumption | omega | (simp [go_sem]; done) | (simp [go_sem]; omega))) | (simp [go_sem]; done) | (simp [go_sem]; omega)))) ?_; rintro v4 w4 ⟨⟨ao4, c4, rfl⟩, hr4, hc4, hb4⟩))
        refine ⟨⟨i + 1, m' + 1, ao4, c4, by omega, by go_num, rfl, hm2, hid ⟨?_, ?_⟩, hid ⟨?_, ?_⟩⟩, by simp [intOf]; omega⟩
        · rw [HPL.out, ← List.append_assoc, List.length_append, hr.out.1]; rfl
        · rw [HPL.out, ← List.append_assoc]; exact hr4
        · exact hc.out.1.trans hc4 (fun k hk h => by have := hc.out.2 k hk; omega)
        · exact fun k hk => Nat.le_trans (hb4 k (Nat.lt_of_lt_of_le hk hc.out.1.size)) (hc.out.2 k hk)
      | succ d =>
        have hk1 : kn = n + 1 := by rw [← HKN.out, ← HNN.out]; exact HG.out.1
        obtain rfl : lf = false := by rw [← HLF.out, hk1]; simp; omega
        obtain ⟨s, hs⟩ : ∃ s, kids[i]? = some s := ⟨_, List.getElem?_eq_getElem (by rw [HKN.out]; omega)⟩
        obtain ⟨rb, cb', hv, _, hrb⟩ := World.ownsRow.form HBV.out (by omega)
        obtain rfl : bo = some ⟨rb, 0, none⟩ := by injection hv
        have hrbb : wr.heap[rb]? = W.heap[rb]? := HKEEP.out wr hc.out.1 rb (by have := HN.out.cnt rb; rw [blk_at rb 0 kn bc rb none, one_self] at this; omega)
        have hcb : wr.cell? ⟨rb, i, none⟩ = some (.pointer (some ⟨s.p, 0, none⟩)) := by
          rw [World.cell?_of_block (w := W) (a := ⟨rb, i, none⟩) hrbb, HBV.out.cellAt i (by omega)]
          simp [ptrs, hs, Kid.v]
        have hrbl := World.block_lt_of_cell? _ _ hcb
        have hsk : At d 3 W s := HG.out.2.2 s (List.mem_of_getElem? hs)
        have HPL := hid (preL_node (d := d) HX.out hs)
        have hlen := preL_len HG.out i s (by rw [HNN.out]; exact hlt) (fun _ => hs)
        have hqs : ∀ k, s.c k ≠ 0 → q.c k ≠ 0 := fun k hk => by have := HN.out.kid (List.mem_of_getElem? hs) k; omega
        have hm2 : m' + s.xs.length + 1 ≤ 1000 := by
          have e1 := hr.out.1; have e2 := HOL.out; have e3 := HM.out
          rw [List.length_append] at e1
          simp at hlen
          omega
        have hin : (i : Int) < kn := by omega
        have HCALL := hid (fun (X : World) (hb : Below wr.heap.size wr X) => IH.out d (by omega) 3 X s (.slice ao m' c) m' (olds ++ preL (d + 1) its kids i) (hsk.keep fun k hk => (hb.block k (Nat.lt_of_lt_of_le (hsk.lt k hk) hc.out.1.size)).trans (HKEEP.out wr hc.out.1 k (hqs k hk))) (owns_below hr.out.2 hb) hr.out.1 (by omega) (fun k hk => by
          have h1 := hc.out.2 k (hsk.lt k hk); have h2 := HDIS.out k (hqs k hk); omega))
        have HBX := hid (show blk (.slice ao m' c) wr.heap.size = 0 from by
          rcases Nat.eq_zero_or_pos (blk (.slice ao m' c) wr.heap.size) with e | e
          · exact e
          · have := hr.out.2.lt (k := wr.heap.size) (by omega); omega)
        clear hlen hqs hsk hs hv hrbb
        go_wp2_with fail
        (((with_reducible refine (leaf_is _ q.p _ _ _ _ ((heap_alloc_other _ _ _ hplr).trans HPR.out) false HLF.out).mono ?_)); rintro _ _ ⟨rfl, u1, rfl⟩)
        go_wp2_with fail
        refine (HCALL.out _ (by repeat' (first | exact Below.refl _ _ | with_reducible assumption | omega | with_reducible refine below_put_fut ?_ ?_ _ | with_reducible refine below_to_put ?_ | with_reducible refine Below.alloc ?_ ?_ _ | with_reducible refine Below.fut ?_ ?_ _ | with_reducible refine Below.drew ?_ | with_reducible refine Below.setCell ?_ ?_ _ | with_reducible refine Below.atPut ?_ ?_ _ | (simp [go_sem]; done) | (simp [go_sem]; omega)))).mono ?_
        rintro _ W5 ⟨ao5, c5, rfl, hr5, hc5, hb5⟩
        have hbu : Below wr.heap.size wr u1.val := (by repeat' (first | exact Below.refl _ _ | with_reducible assumption | omega | with_reducible refine below_put_fut ?_ ?_ _ | with_reducible refine below_to_put ?_ | with_reducible refine Below.alloc ?_ ?_ _ | with_reducible refine Below.fut ?_ ?_ _ | with_reducible refine Below.drew ?_ | with_reducible refine Below.setCell ?_ ?_ _ | with_reducible refine Below.atPut ?_ ?_ _ | (simp [go_sem]; done) | (simp [go_sem]; omega)))
        have h6 : W5.heap[wr.heap.size]? = some (.cells #[.string x.1, .string x.2] 59) := (hc5.block _ (by have := u1.below.size; simp only [World.size_alloc] at this; omega) (by rw [HBX.out]; simp)).trans ((u1.below.block _ (by simp)).trans (heap_alloc_at _ _ _ rfl))
        have hl6 := lt_of_heap h6
        have hcs := fun i => cell_of_row W5 wr.heap.size i _ _ (0, 0) h6
        have HR5 := hid hr5
        have HC5 := hid (hc.out.1.trans ((Chg.of_below (S := fun k => blk (.slice ao m' c) k ≠ 0) hbu).trans hc5 (fun _ _ h => h)) (fun k hk h => by have := hc.out.2 k hk; omega))
        have HB5 := hid (show ∀ k, k < W.heap.size → blk (.slice ao5 (m' + s.xs.length) c5) k ≤ blk (.slice oo m oc) k from fun k hk => Nat.le_trans (hb5 k (Nat.lt_of_lt_of_le hk (Nat.le_trans hc.out.1.size hbu.size))) (hc.out.2 k hk))
        have hz5 : W.heap.size ≤ W5.heap.size := HC5.out.size
        clear hr5 hc5 hb5 h6 hbu
        generalize hsl : s.xs.length = sl at *
        have HSL := hid hsl
        clear hsl
        go_wp2_with (first | (at_builtin; refine wpList_append_ex (by rfl) _ _ _ (by rfl) _ _ (by rfl) (by rfl) (append_one (x := x) HR5.out (by repeat' (first | exact Below.refl _ _ | with_reducible assumption | omega | with_reducible refine below_put_fut ?_ ?_ _ | with_reducible refine below_to_put ?_ | with_reducible refine Below.alloc ?_ ?_ _ | with_reducible refine Below.fut ?_ ?_ _ | with_reducible refine Below.drew ?_ | with_reducible refine Below.setCell ?_ ?_ _ | with_reducible refine Below.atPut ?_ ?_ _ | (simp [go_sem]; done) | (simp [go_sem]; omega))) (by omega) (by repeat' (first | rfl | assumption | (with_reducible refine (heap_drew_eq _ _).trans ?_) | (refine (Fut.heap _ _ ?_).trans ?_ ; focus (first | assumption | omega | (simp [go_sem]; done) | (simp [go_sem]; omega))) | (refine (heap_put_at _ _ _ ?_).trans ?_ ; focus (first | assumption | omega | (simp [go_sem]; done) | (simp [go_sem]; omega))) | (refine (heap_put_other _ _ _ _ ?_).trans ?_ ; focus (first | assumption | omega | (simp [go_sem]; done) | (simp [go_sem]; omega))) | (refine (heap_alloc_other _ _ _ ?_).trans ?_ ; focus (first | assumption | omega | (simp [go_sem]; done) | (simp [go_sem]; omega))) | (refine (heap_alloc_at _ _ _ ?_).trans ?_ ; focus (first | assumption | omega | (simp [go_sem]; done) | (simp [go_sem]; omega))) | (simp [go_sem]; done) | (simp [go_sem]; omega)))) ?_; rintro v4 w4 ⟨⟨ao4, c4, rfl⟩, hr4, hc4, hb4⟩))
        refine ⟨⟨i + 1, m' + sl + 1, ao4, c4, by omega, by go_num, rfl, hm2, hid ⟨?_, ?_⟩, hid ⟨?_, ?_⟩⟩, by simp [intOf]; omega⟩
        · rw [HPL.out, List.length_append, List.length_append, List.length_append, HSL.out]
          have := hr.out.1
          rw [List.length_append] at this
          simp; omega
        · rw [HPL.out, ← List.append_assoc, ← List.append_assoc]; exact hr4
        · exact HC5.out.trans hc4 (fun k hk h => by have := HB5.out k hk; omega)
        · exact fun k hk => Nat.le_trans (hb4 k (Nat.lt_of_lt_of_le hk hz5)) (HB5.out k hk)
    · obtain rfl : i = n := by omega
      cases d with
      | zero =>
        have hk0 : kn = 0 := by rw [← HKN.out]; obtain ⟨e, _⟩ := HG.out; rw [e]; rfl
        obtain rfl : lf = true := by rw [← HLF.out, hk0]; rfl
        have he := (preL_end HG.out).1 rfl
        rw [HNN.out] at he
        have HE := hid he
        clear he
        go_wp2_with fail
        (((with_reducible refine (leaf_is _ q.p _ _ _ _ HPR.out true HLF.out).mono ?_)); rintro _ _ ⟨rfl, u1, rfl⟩)
        go_wp2_with fail
        have hlen := hr.out.1
        rw [HE.out, List.length_append, HOL.out] at hlen
        subst hlen
        go_ret
        have hr2 := hr.out.2
        rw [HE.out] at hr2
        exact ⟨ao, c, rfl, owns_below hr2 u1.below, hc.out.1.trans (Chg.of_below (S := fun k => blk (.slice oo m oc) k ≠ 0) u1.below) (fun _ _ h => h), hc.out.2⟩
      | succ d =>
        have hk1 : kn = i + 1 := by rw [← HKN.out, ← HNN.out]; exact HG.out.1
        obtain rfl : lf = false := by rw [← HLF.out, hk1]; simp; omega
        obtain ⟨s, hs⟩ : ∃ s, kids[i]? = some s := ⟨_, List.getElem?_eq_getElem (by rw [HKN.out]; omega)⟩
        obtain ⟨rb, cb', hv, _, hrb⟩ := World.ownsRow.form HBV.out (by omega)
        obtain rfl : bo = some ⟨rb, 0, none⟩ := by injection hv
        have hrbb : wr.heap[rb]? = W.heap[rb]? := HKEEP.out wr hc.out.1 rb (by have := HN.out.cnt rb; rw [blk_at rb 0 kn bc rb none, one_self] at this; omega)
        have hcb : wr.cell? ⟨rb, i, none⟩ = some (.pointer (some ⟨s.p, 0, none⟩)) := by
          rw [World.cell?_of_block (w := W) (a := ⟨rb, i, none⟩) hrbb, HBV.out.cellAt i (by omega)]
          simp [ptrs, hs, Kid.v]
        have hrbl := World.block_lt_of_cell? _ _ hcb
        have hsk : At d 3 W s := HG.out.2.2 s (List.mem_of_getElem? hs)
        have he := (preL_end HG.out).2 s (by omega) (by rw [HNN.out]; exact hs)
        rw [HNN.out] at he
        have HE := hid he
        have hqs : ∀ k, s.c k ≠ 0 → q.c k ≠ 0 := fun k hk => by have := HN.out.kid (List.mem_of_getElem? hs) k; omega
        have hm2 : m' + s.xs.length = m + q.xs.length := by
          have e1 := hr.out.1; have e2 := HOL.out
          have e3 := congrArg List.length he
          rw [List.length_append] at e1 e3
          omega
        have hm3 := HM.out
        have hin : (i : Int) < kn := by omega
        have HCALL := hid (fun (X : World) (hb : Below wr.heap.size wr X) => IH.out d (by omega) 3 X s (.slice ao m' c) m' (olds ++ preL (d + 1) its kids i) (hsk.keep fun k hk => (hb.block k (Nat.lt_of_lt_of_le (hsk.lt k hk) hc.out.1.size)).trans (HKEEP.out wr hc.out.1 k (hqs k hk))) (owns_below hr.out.2 hb) hr.out.1 (by omega) (fun k hk => by
          have h1 := hc.out.2 k (hsk.lt k hk); have h2 := HDIS.out k (hqs k hk); omega))
        clear he hqs hsk hs hv hrbb
        go_wp2_with fail
        (((with_reducible refine (leaf_is _ q.p _ _ _ _ HPR.out false HLF.out).mono ?_)); rintro _ _ ⟨rfl, u1, rfl⟩)
        go_wp2_with fail
        go_region_with (go_at_call 73; ((with_reducible refine (HCALL.out _ (by repeat' (first | exact Below.refl _ _ | with_reducible assumption | omega | with_reducible refine below_put_fut ?_ ?_ _ | with_reducible refine below_to_put ?_ | with_reducible refine Below.alloc ?_ ?_ _ | with_reducible refine Below.fut ?_ ?_ _ | with_reducible refine Below.drew ?_ | with_reducible refine Below.setCell ?_ ?_ _ | with_reducible refine Below.atPut ?_ ?_ _ | (simp [go_sem]; done) | (simp [go_sem]; omega)))).mono ?_)); rintro _ W5 ⟨ao5, c5, rfl, hr5, hc5, hb5⟩)
        all_goals
          have HR5 := hid hr5
          have hbu : Below wr.heap.size wr u1.val.drew := (by repeat' (first | exact Below.refl _ _ | with_reducible assumption | omega | with_reducible refine below_put_fut ?_ ?_ _ | with_reducible refine below_to_put ?_ | with_reducible refine Below.alloc ?_ ?_ _ | with_reducible refine Below.fut ?_ ?_ _ | with_reducible refine Below.drew ?_ | with_reducible refine Below.setCell ?_ ?_ _ | with_reducible refine Below.atPut ?_ ?_ _ | (simp [go_sem]; done) | (simp [go_sem]; omega)))
          have HC5 := hid (hc.out.1.trans ((Chg.of_below (S := fun k => blk (.slice ao m' c) k ≠ 0) hbu).trans hc5 (fun _ _ h => h)) (fun k hk h => by have := hc.out.2 k hk; omega))
          have HB5 := hid (show ∀ k, k < W.heap.size → blk (.slice ao5 (m' + s.xs.length) c5) k ≤ blk (.slice oo m oc) k from fun k hk => Nat.le_trans (hb5 k (Nat.lt_of_lt_of_le hk (Nat.le_trans hc.out.1.size hbu.size))) (hc.out.2 k hk))
          clear hr5 hc5 hb5 hbu
          go_wp2_with fail
          go_ret
          have h1 := HR5.out
          have h2 := HB5.out
          rw [List.append_assoc, HE.out] at h1
          rw [hm2] at h1 h2
          exact ⟨ao5, c5, (by first | rfl | rw [hm2]), h1, HC5.out, h2⟩
set_option maxRecDepth 100000 in
/-- All items of a shelf. -/
theorem items_is {most : Int} {xs : List It} {W : World} {g : Nat} {c : Cnt} {top : Value} (h : Shf most xs W g c top) (hn : xs.length ≤ 1000) :
    Calls Tryz.prog 25 #[.pointer (some ⟨g, 0, none⟩)] W fun en W' => ∃ ao cc, en = .returned (.slice ao xs.length cc) ∧ Row W' 59 2 (.slice ao xs.length cc) xs.length (flat xs) ∧ Below W.heap.size W W' ∧ ∀ k, k < W.heap.size → blk (.slice ao xs.length cc) k = 0 := by
  have hc := fun i => cell_of_row W g i _ _ (0, 0) h.heap
  have hgl := lt_of_heap h.heap
  cases h.top with
  | none hx hcc =>
    subst hx
    clear h
    go_enter Tryz.func25, Tryz.ntmps25
    go_wp2_with (go_at_call 73; go_in)
    go_ret
    exact ⟨none, 0, rfl, World.ownsRow_nil _ _ _ _, (by repeat' (first | exact Below.refl _ _ | with_reducible assumption | omega | with_reducible refine below_put_fut ?_ ?_ _ | with_reducible refine below_to_put ?_ | with_reducible refine Below.alloc ?_ ?_ _ | with_reducible refine Below.fut ?_ ?_ _ | with_reducible refine Below.drew ?_ | with_reducible refine Below.setCell ?_ ?_ _ | with_reducible refine Below.atPut ?_ ?_ _ | (simp [go_sem]; done) | (simp [go_sem]; omega))), fun k _ => blk_nil _ _ _⟩
  | some d q ha hx hg hcc =>
    have hall := fun (X : World) (hb : Below W.heap.size W X) => all_is d 1 X q (.slice none 0 0) 0 [] (ha.keep fun k hk => hb.block k (ha.lt k hk)) (World.ownsRow_nil _ _ _ _) rfl (by rw [hx]; omega) (fun k _ => blk_nil _ _ _)
    rw [hx] at hall
    have HALL := hid hall
    clear hall h hcc hg ha
    go_enter Tryz.func25, Tryz.ntmps25
    go_wp2_with fail
    refine (HALL.out _ (Below.refl _ _)).mono ?_
    rintro _ W5 ⟨ao5, c5, rfl, hr5, hc5, hb5⟩
    rw [Nat.zero_add] at hr5 hb5 ⊢
    rw [List.nil_append] at hr5
    have HR := hid hr5
    have HC := hid (hc5.below (B := W.heap.size) (Nat.le_refl _) (fun i hi => absurd (blk_nil 0 0 i) (by simp at hi)))
    have HB := hid (fun k hk => Nat.eq_zero_of_le_zero (by have := hb5 k hk; rwa [blk_nil] at this))
    clear hr5 hc5 hb5
    go_wp2_with fail
    go_ret
    exact ⟨ao5, c5, rfl, HR.out, HC.out, HB.out⟩
end Go.Proofs.YthknenhcnpgkcaaGreat

/- strings.Clone (after the kit's proof for internal/stringslite.Clone); what key.Right and key.Value say. -/
namespace Go.Proofs.YthknenhcnpgkcaaGreat
open Go.RowKit
set_option linter.unusedVariables false
set_option linter.unusedSimpArgs false
theorem u8_info : (Tryz.prog.info? 5).map (fun i => (i.zero, i.size, i.bytes)) = some (some (.int .u8 0), 1, 1) := by kernel_rfl
set_option maxHeartbeats 4000000 in
set_option maxRecDepth 100000 in
theorem sclone_is (s : ByteArray) (w : World) (hlim : s.size ≤ 1000) :
    Calls Tryz.prog 87 #[.string s] w (Makes (.string s) w) := by
  by_cases h0 : s.size = 0
  · have hs : s = ⟨#[]⟩ := by
      apply ByteArray.ext
      exact Array.eq_empty_of_size_eq_zero h0
    subst hs
    go_enter Tryz.func87, Tryz.ntmps87
    go_wp2
    go_ret
    exact .mk rfl (Below.refl _ _)
  · obtain ⟨i0, hi, hz0, hz1, hz2⟩ := info_parts u8_info
    have hinfo : (Tryz.prog.info? 5).map (·.size) = some 1 := by rw [hi]; simp [hz1]
    have hco : Tryz.prog.cellsOf 5 = 1 := by simp [Program.cellsOf, hi, hz1]
    obtain ⟨M, hM⟩ : ∃ M, M = madeCells (Value.int .u8 0).cells (((s.size : Nat) : Int).toNat * i0.size) := ⟨_, rfl⟩
    have hMs : M.size = s.size := by rw [hM, size_madeCells, hz1]; simp
    have hmk : ∀ W : World, (Instr.makeSlice 142 (.int .i64 (s.size : Int)) (.int .i64 (s.size : Int))).run Tryz.prog W = .ok (.slice (some ⟨W.heap.size, 0, none⟩) s.size s.size) (W.alloc (.cells M 5)) := fun W => by
      have h := run_make (P := Tryz.prog) W 142 5 i0 (.int .u8 0) Tryz.underlying142 hi hz0 .i64 .i64 (s.size : Int) (s.size : Int) (by omega) (by omega) (by rw [hz2]; omega) (by omega)
      rw [← hM] at h
      simpa using h
    clear hM
    have hcp := Lib.run_copy_row_string (P := Tryz.prog) (w.alloc (.cells M 5)) 142 9 3 5 w.heap.size 0 s.size s.size s M 5 Tryz.underlying142 hinfo (heap_alloc_new w _) (Nat.le_refl _) (by omega)
    obtain ⟨Y, hY⟩ : ∃ Y, Y = (M.toList.take 0 ++ Lib.byteCells s.data.toList ++ M.toList.drop (0 + s.size)).toArray := ⟨_, rfl⟩
    rw [← hY] at hcp
    have hYl : Y.toList = Lib.byteCells s.data.toList := by
      rw [hY, List.toList_toArray, List.take_zero, List.nil_append, List.drop_of_length_le (by rw [Array.length_toList]; omega), List.append_nil]
    have hYs : Y.size = s.size := by rw [← Array.length_toList, hYl, Lib.byteCells_length, ← Lib.size_eq]
    have hgY : ((w.alloc (.cells M 5)).setRow w.heap.size Y).heap[w.heap.size]? = some (.cells Y 5 (0, 0)) := setRow_heap _ _ M _ 5 (0, 0) (heap_alloc_new w _)
    have hne : s.data.toList ≠ [] := fun e => h0 (by rw [Lib.size_eq, e]; rfl)
    have hUS := Lib.run_unsafeString_row (P := Tryz.prog) ((w.alloc (.cells M 5)).setRow w.heap.size Y) 143 3 9 5 Tryz.underlying143 hco w.heap.size Y.size (by unfold World.shape?; rw [hgY]) s.data.toList hne (by rw [← Lib.size_eq]; omega) (by rw [← Lib.size_eq]; omega)
      (fun j x hx => Lib.cells_of_row hgY Y.size j _ (by rw [List.take_of_length_le (by rw [Array.length_toList]; exact Nat.le_refl _), hYl]; simp [Lib.byteCells, hx]))
    rw [← Lib.size_eq] at hUS
    clear hY
    go_enter Tryz.func87, Tryz.ntmps87
    go_wp2
    go_ret
    have hb1 : Below w.heap.size w (w.alloc (.cells M 5)) := (Below.refl _ w).alloc (Nat.le_refl _) _
    have hb2 : Below w.heap.size (w.alloc (.cells M 5)) ((w.alloc (.cells M 5)).setRow w.heap.size Y) := ⟨rfl, rfl, rfl, by simp, fun k hk => setRow_other _ _ _ _ (by omega)⟩
    exact .mk rfl (Lib.below_freeze (hb1.trans hb2) (p := ⟨w.heap.size, 0, none⟩) (Nat.le_refl _) _)
theorem clone_is (s : ByteArray) (w : World) (hlim : s.size ≤ 1000) :
    Calls Tryz.prog 67 #[.string s] w (Makes (.string s) w) := by
  go_enter Tryz.func67, Tryz.ntmps67
  go_wp2_with (first | (go_at_call 87; ((with_reducible refine (sclone_is _ _ hlim).mono ?_)); rintro _ _ ⟨rfl, u, rfl⟩; (try (rw [Fut.put_self u (by first | assumption | (simp [go_sem]; done) | (simp [go_sem]; omega))]))) | (((with_reducible refine wp_region_fut_lit (by kernel_rfl) (by kernel_rfl) ?_)); (repeat (go_big_quiet_step ((first | (go_at_call 87; with_reducible exact Calls.fut_of (sclone_is _ _ hlim)))))); ((with_reducible refine wpQuiet_nil ?_)); rintro _ ⟨u, rfl⟩; (try (rw [Fut.put_self u (by first | assumption | (simp [go_sem]; done) | (simp [go_sem]; omega))]))))
  go_ret; exact .mk (by first | rfl | (simp; done) | (simp; omega)) (by repeat' (first | exact Below.refl _ _ | with_reducible assumption | omega | with_reducible refine below_put_fut ?_ ?_ _ | with_reducible refine below_to_put ?_ | with_reducible refine Below.alloc ?_ ?_ _ | with_reducible refine Below.fut ?_ ?_ _ | with_reducible refine Below.drew ?_ | with_reducible refine Below.setCell ?_ ?_ _ | with_reducible refine Below.atPut ?_ ?_ _ | (simp [go_sem]; done) | (simp [go_sem]; omega)))
def rightN (n : Nat) : Int := if n < 1 ∨ 16 < n then 3 else 0
def valueN (n : Nat) : Int := if 16 < n then 4 else 0
set_option maxHeartbeats 1000000 in
theorem right_any (a : ByteArray) (w : World) :
    Calls Tryz.prog 65 #[.string a] w (Makes (.int .i64 (rightN a.size)) w) := by
  rcases Decidable.em (a.size < 1) with h | h
  · have e : a = ⟨#[]⟩ := by
      have := ByteArray.size_eq_zero_iff.1 (show a.size = 0 by omega)
      rw [this]; rfl
    subst e
    go_enter Tryz.func65, Tryz.ntmps65
    go_wp2_with (first | (((with_reducible refine wp_region_fut_lit (by kernel_rfl) (by kernel_rfl) ?_)); (repeat (go_big_quiet_step ((first | fail)))); ((with_reducible refine wpQuiet_nil ?_)); rintro _ ⟨u, rfl⟩; (try (rw [Fut.put_self u (by first | assumption | (simp [go_sem]; done) | (simp [go_sem]; omega))]))))
    go_ret; exact .mk (by first | rfl | (simp; done) | (simp; omega)) (by repeat' (first | exact Below.refl _ _ | with_reducible assumption | omega | with_reducible refine below_put_fut ?_ ?_ _ | with_reducible refine below_to_put ?_ | with_reducible refine Below.alloc ?_ ?_ _ | with_reducible refine Below.fut ?_ ?_ _ | with_reducible refine Below.drew ?_ | with_reducible refine Below.setCell ?_ ?_ _ | with_reducible refine Below.atPut ?_ ?_ _ | (simp [go_sem]; done) | (simp [go_sem]; omega)))
  · have e2 : (a.toList.isEmpty) = false := by
      rw [ByteArray.toList_eq]
      cases hh : a.data.toList with
      | nil => exfalso; have : a.data.toList.length = 0 := by rw [hh]; rfl
               have h3 : a.data.toList.length = a.size := by simp
               omega
      | cons _ _ => rfl
    rcases Decidable.em (16 < a.size) with g | g
    · have HR := hid (show rightN a.size = 3 by unfold rightN; rw [if_pos (by omega)])
      go_enter Tryz.func65, Tryz.ntmps65
      go_wp2_with (first | (((with_reducible refine wp_region_fut_lit (by kernel_rfl) (by kernel_rfl) ?_)); (repeat (go_big_quiet_step ((first | fail)))); ((with_reducible refine wpQuiet_nil ?_)); rintro _ ⟨u, rfl⟩; (try (rw [Fut.put_self u (by first | assumption | (simp [go_sem]; done) | (simp [go_sem]; omega))]))))
      go_ret
      exact .mk (by rw [HR.out]; rfl) (by repeat' (first | exact Below.refl _ _ | with_reducible assumption | omega | with_reducible refine below_put_fut ?_ ?_ _ | with_reducible refine below_to_put ?_ | with_reducible refine Below.alloc ?_ ?_ _ | with_reducible refine Below.fut ?_ ?_ _ | with_reducible refine Below.drew ?_ | with_reducible refine Below.setCell ?_ ?_ _ | with_reducible refine Below.atPut ?_ ?_ _ | (simp [go_sem]; done) | (simp [go_sem]; omega)))
    · have HR := hid (show rightN a.size = 0 by unfold rightN; rw [if_neg (by omega)])
      go_enter Tryz.func65, Tryz.ntmps65
      go_wp2_with (first | (((with_reducible refine wp_region_fut_lit (by kernel_rfl) (by kernel_rfl) ?_)); (repeat (go_big_quiet_step ((first | fail)))); ((with_reducible refine wpQuiet_nil ?_)); rintro _ ⟨u, rfl⟩; (try (rw [Fut.put_self u (by first | assumption | (simp [go_sem]; done) | (simp [go_sem]; omega))]))))
      go_ret
      exact .mk (by rw [HR.out]; rfl) (by repeat' (first | exact Below.refl _ _ | with_reducible assumption | omega | with_reducible refine below_put_fut ?_ ?_ _ | with_reducible refine below_to_put ?_ | with_reducible refine Below.alloc ?_ ?_ _ | with_reducible refine Below.fut ?_ ?_ _ | with_reducible refine Below.drew ?_ | with_reducible refine Below.setCell ?_ ?_ _ | with_reducible refine Below.atPut ?_ ?_ _ | (simp [go_sem]; done) | (simp [go_sem]; omega)))
set_option maxHeartbeats 1000000 in
theorem value_any (a : ByteArray) (w : World) :
    Calls Tryz.prog 66 #[.string a] w (Makes (.int .i64 (valueN a.size)) w) := by
  rcases Decidable.em (16 < a.size) with g | g
  · have HR := hid (show valueN a.size = 4 by unfold valueN; rw [if_pos (by omega)])
    go_enter Tryz.func66, Tryz.ntmps66
    go_wp2_with (first | (((with_reducible refine wp_region_fut_lit (by kernel_rfl) (by kernel_rfl) ?_)); (repeat (go_big_quiet_step ((first | fail)))); ((with_reducible refine wpQuiet_nil ?_)); rintro _ ⟨u, rfl⟩; (try (rw [Fut.put_self u (by first | assumption | (simp [go_sem]; done) | (simp [go_sem]; omega))]))))
    go_ret
    exact .mk (by rw [HR.out]; rfl) (by repeat' (first | exact Below.refl _ _ | with_reducible assumption | omega | with_reducible refine below_put_fut ?_ ?_ _ | with_reducible refine below_to_put ?_ | with_reducible refine Below.alloc ?_ ?_ _ | with_reducible refine Below.fut ?_ ?_ _ | with_reducible refine Below.drew ?_ | with_reducible refine Below.setCell ?_ ?_ _ | with_reducible refine Below.atPut ?_ ?_ _ | (simp [go_sem]; done) | (simp [go_sem]; omega)))
  · have HR := hid (show valueN a.size = 0 by unfold valueN; rw [if_neg (by omega)])
    go_enter Tryz.func66, Tryz.ntmps66
    go_wp2_with (first | (((with_reducible refine wp_region_fut_lit (by kernel_rfl) (by kernel_rfl) ?_)); (repeat (go_big_quiet_step ((first | fail)))); ((with_reducible refine wpQuiet_nil ?_)); rintro _ ⟨u, rfl⟩; (try (rw [Fut.put_self u (by first | assumption | (simp [go_sem]; done) | (simp [go_sem]; omega))]))))
    go_ret
    exact .mk (by rw [HR.out]; rfl) (by repeat' (first | exact Below.refl _ _ | with_reducible assumption | omega | with_reducible refine below_put_fut ?_ ?_ _ | with_reducible refine below_to_put ?_ | with_reducible refine Below.alloc ?_ ?_ _ | with_reducible refine Below.fut ?_ ?_ _ | with_reducible refine Below.drew ?_ | with_reducible refine Below.setCell ?_ ?_ _ | with_reducible refine Below.atPut ?_ ?_ _ | (simp [go_sem]; done) | (simp [go_sem]; omega)))
end Go.Proofs.YthknenhcnpgkcaaGreat
