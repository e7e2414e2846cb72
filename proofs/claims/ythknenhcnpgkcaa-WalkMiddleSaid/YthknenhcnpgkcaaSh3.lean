import Derived.Test.YthknenhcnpgkcaaSh1
import Derived.Test.YthknenhcnpgkcaaShP
import Derived.Test.YthknenhcnpgkcaaShD
import Derived.Test.YthknenhcnpgkcaaSl3
import Derived.IntWalk
/- Contracts of package shelf: find, Len, Depth, all. -/
namespace Go.Proofs.Ythknenhcnpgkcaa
open Go.RowKit
set_option linter.unusedVariables false
set_option linter.unusedSimpArgs false
@[reducible] def shfObj (most : Int) (n : Nat) (top : Value) : Obj := .cells #[.int .i64 most, .int .i64 n, top] 112
/-- The tree of a shelf. -/
inductive Top (W : World) (g : Nat) (xs : List It) (c : Cnt) : Value → Prop
  | none (hx : xs = []) (hc : ∀ k, c k = one g k) : Top W g xs c (.pointer none)
  | some (d : Nat) (q : Kid) (h : At d 1 W q) (hx : q.xs = xs) (hg : q.c g = 0) (hc : ∀ k, c k = one g k + q.c k) : Top W g xs c (.pointer (some ⟨q.p, 0, none⟩))
/-- Block g is a shelf for so many items that holds xs; its blocks are c. -/
structure Shf (most : Int) (xs : List It) (W : World) (g : Nat) (c : Cnt) (top : Value) : Prop where
  heap : W.heap[g]? = .some (shfObj most xs.length top)
  rises : Rises xs
  small : Small xs
  top : Top W g xs c top
theorem Shf.lt {most : Int} {xs : List It} {W : World} {g : Nat} {c : Cnt} {top : Value} (h : Shf most xs W g c top) : ∀ k, c k ≠ 0 → k < W.heap.size := by
  intro k hk
  cases h.top with
  | none hx hc =>
    rw [hc] at hk
    rw [one_ne hk]; exact lt_of_heap h.heap
  | some d q ha hx hg hc =>
    rw [hc] at hk
    by_cases e : one g k = 0
    · exact ha.lt k (by omega)
    · rw [one_ne e]; exact lt_of_heap h.heap
theorem Shf.le {most : Int} {xs : List It} {W : World} {g : Nat} {c : Cnt} {top : Value} (h : Shf most xs W g c top) : ∀ k, c k ≤ 1 := by
  intro k
  cases h.top with
  | none hx hc => rw [hc]; exact one_le _ _
  | some d q ha hx hg hc =>
    rw [hc]
    have := ha.le k
    by_cases e : one g k = 0
    · omega
    · rw [one_ne e] at this ⊢
      rw [hg, one_self]; omega
theorem Shf.keep {most : Int} {xs : List It} {W W' : World} {g : Nat} {c : Cnt} {top : Value} (h : Shf most xs W g c top) (hh : ∀ k, c k ≠ 0 → W'.heap[k]? = W.heap[k]?) : Shf most xs W' g c top := by
  refine ⟨?_, h.rises, h.small, ?_⟩
  · rw [hh g]; · exact h.heap
    cases h.top with
    | none hx hc => rw [hc, one_self]; omega
    | some d q ha hx hg hc => rw [hc, one_self]; omega
  · cases h.top with
    | none hx hc => exact .none hx hc
    | some d q ha hx hg hc => exact .some d q (ha.keep fun k hk => hh k (by rw [hc]; omega)) hx hg hc
theorem Shf.on {most : Int} {xs : List It} {W W' : World} {g : Nat} {c : Cnt} {top : Value} (h : Shf most xs W g c top) (hb : Below W.heap.size W W') : Shf most xs W' g c top :=
  h.keep fun k hk => hb.block k (h.lt k hk)
theorem new_is (W : World) (m : Int) (r : Int) (hr : min (max m 0) 200 = r) : Calls Try.prog 25 #[.int .i64 m] W fun e W' => e = .returned (.pointer (some ⟨W.heap.size, 0, none⟩)) ∧ W' = W.alloc (shfObj r 0 (.pointer none)) := by
  subst hr
  go_enter Try.func25, Try.ntmps25
  go_wp2_with fail
  all_goals go_ret
  all_goals refine ⟨rfl, ?_⟩
  all_goals congr 3
  all_goals simp
  all_goals omega
theorem shf_new (most : Int) {W : World} {g : Nat} (h : W.heap[g]? = some (shfObj most 0 (.pointer none))) : Shf most [] W g (one g) (.pointer none) :=
  ⟨h, List.Pairwise.nil, fun i hi => by (cases hi), .none rfl (fun _ => rfl)⟩
theorem len_is {most : Int} {xs : List It} {W : World} {g : Nat} {c : Cnt} {top : Value} (h : Shf most xs W g c top) (n : Nat) (hn : xs.length = n) : Calls Try.prog 32 #[.pointer (some ⟨g, 0, none⟩)] W (Makes (.int .i64 n) W) := by
  have hc := fun i => cell_of_row W g i _ _ (0, 0) h.heap
  have hl := lt_of_heap h.heap
  rw [hn] at hc
  clear h
  go_enter Try.func32, Try.ntmps32
  go_wp2_with (first | (((with_reducible refine wp_region_fut_lit (by kernel_rfl) (by kernel_rfl) ?_)); (repeat (go_big_quiet_step ((first | fail)))); ((with_reducible refine wpQuiet_nil ?_)); rintro _ ⟨u, rfl⟩; (try (rw [Fut.put_self u (by first | assumption | (simp [go_sem]; done) | (simp [go_sem]; omega))]))))
  go_ret; exact .mk (by first | rfl | (simp; done) | (simp; omega)) (by repeat' (first | exact Below.refl _ _ | with_reducible assumption | omega | with_reducible refine below_put_fut ?_ ?_ _ | with_reducible refine below_to_put ?_ | with_reducible refine Below.alloc ?_ ?_ _ | with_reducible refine Below.fut ?_ ?_ _ | with_reducible refine Below.drew ?_ | with_reducible refine Below.setCell ?_ ?_ _ | with_reducible refine Below.atPut ?_ ?_ _ | (simp [go_sem]; done) | (simp [go_sem]; omega)))
theorem Node.on {W W' : World} {p : Nat} {iv bv : Value} {its : List It} {kids : List Kid} {c : Cnt} (h : Node W p iv bv its kids c) (hlt : ∀ k, c k ≠ 0 → k < W.heap.size) (hb : Below W.heap.size W W') : Node W' p iv bv its kids c :=
  h.keep fun k hk => hb.block k (hlt k hk)
theorem least {P : Nat → Prop} (h : ∃ n, P n) : ∃ m, P m ∧ ∀ n, P n → m ≤ n := by
  classical
  obtain ⟨n, hn⟩ := h
  induction n using Nat.strongRecOn with
  | _ n ih =>
    by_cases c : ∃ m, m < n ∧ P m
    · obtain ⟨m, hm, hp⟩ := c
      exact ih m hm hp
    · refine ⟨n, hn, fun m hm => ?_⟩
      rcases Nat.lt_or_ge m n with e | e
      · exact absurd ⟨m, e, hm⟩ c
      · exact e
theorem way_least (d : Nat) (W : World) (q : Kid) (k : ByteArray) : ∃ D : Value → Nat, (∀ v n lo' r, v = .pointer (some ⟨Kid.p r, 0, none⟩) → Way d 1 W q k n lo' r → ∃ lo' r, v = .pointer (some ⟨Kid.p r, 0, none⟩) ∧ Way d 1 W q k (D v) lo' r) ∧ (∀ v n lo' r, v = .pointer (some ⟨Kid.p r, 0, none⟩) → Way d 1 W q k n lo' r → D v ≤ n) := by
  classical
  have key : ∀ v : Value, ∃ m : Nat, (∀ n lo' r, v = .pointer (some ⟨Kid.p r, 0, none⟩) → Way d 1 W q k n lo' r → ∃ lo' r, v = .pointer (some ⟨Kid.p r, 0, none⟩) ∧ Way d 1 W q k m lo' r) ∧ (∀ n lo' r, v = .pointer (some ⟨Kid.p r, 0, none⟩) → Way d 1 W q k n lo' r → m ≤ n) := by
    intro v
    by_cases h : ∃ n, ∃ lo' r, v = .pointer (some ⟨Kid.p r, 0, none⟩) ∧ Way d 1 W q k n lo' r
    · obtain ⟨m, h1, h2⟩ := least h
      exact ⟨m, fun _ _ _ _ _ => h1, fun n lo' r h3 h4 => h2 n ⟨lo', r, h3, h4⟩⟩
    · exact ⟨0, fun n lo' r h1 h2 => absurd ⟨n, lo', r, h1, h2⟩ h, fun n lo' r h1 h2 => absurd ⟨n, lo', r, h1, h2⟩ h⟩
  exact ⟨fun v => Classical.choose (key v), fun v => (Classical.choose_spec (key v)).1, fun v => (Classical.choose_spec (key v)).2⟩
/-- What find says. -/
def Found (d : Nat) (W : World) (q : Kid) (k : ByteArray) (en : Ending) : Prop :=
  (en = .returned (.tuple #[.pointer none, .int .i64 0]) ∧ valueOf k q.xs = none) ∨ ∃ v p at_, en = .returned (.tuple #[.pointer (some ⟨p, 0, none⟩), .int .i64 (at_ : Nat)]) ∧ Spot d 1 W q k v p at_
set_option maxRecDepth 100000 in
set_option maxHeartbeats 4000000 in
theorem find_is {d : Nat} {W : World} {q : Kid} (h : At d 1 W q) (hr : Rises q.xs) (hs : Small q.xs) (k : ByteArray) (hk : k.size ≤ maxLen) (g : Nat) (a b : Value) (hg : W.heap[g]? = some (.cells #[a, b, .pointer (some ⟨q.p, 0, none⟩)] 112)) :
    Calls Try.prog 72 #[.pointer (some ⟨g, 0, none⟩), .string k] W fun en W' => Found d W q k en ∧ ∃ u : Fut W, W' = u.val := by
  have hc := fun i => cell_of_row W g i _ _ (0, 0) hg
  have hl := lt_of_heap hg
  have HW := hid (Way.start h hr hs k)
  have HLT := hid h.lt
  obtain ⟨D, hD1, hD2⟩ := way_least d W q k
  have HD1 := hid hD1
  have HD2 := hid hD2
  clear h hr hs hg hD1 hD2
  go_enter Try.func72, Try.ntmps72
  go_wp2_with fail
  go_step3
  go_wp2_with fail
  go_step3
  go_wp2_with fail
  go_loopw [6] (fun x wr => ∃ (d' lo' : Nat) (r : Kid), x = .pointer (some ⟨r.p, 0, none⟩) ∧ Hid (Way d 1 W q k d' lo' r) ∧ D x = d' ∧ ∃ u : Fut W, wr = u.val) (fun x _ => D x)
  case atStart =>
    obtain ⟨lo', r, h1, h2⟩ := HD1.out _ d 1 q rfl HW.out
    exact ⟨_, lo', r, h1, hid h2, rfl, ⟨⟨_, (by repeat' (first | exact Below.refl _ _ | with_reducible assumption | omega | with_reducible refine below_put_fut ?_ ?_ _ | with_reducible refine below_to_put ?_ | with_reducible refine Below.alloc ?_ ?_ _ | with_reducible refine Below.fut ?_ ?_ _ | with_reducible refine Below.drew ?_ | with_reducible refine Below.setCell ?_ ?_ _ | with_reducible refine Below.atPut ?_ ?_ _ | (simp [go_sem]; done) | (simp [go_sem]; omega)))⟩, rfl⟩⟩
  case round =>
    obtain ⟨d', lo', r, rfl, hw, hD, u, rfl⟩ := hrel
    obtain ⟨iv, bv, its, kids, hN, hl1, hl2, hG⟩ := hw.out.at_.node
    obtain ⟨at_, is, hp⟩ : ∃ a b, placeOf k its = (a, b) := ⟨_, _, rfl⟩
    have hat := placeOf_le k its
    rw [hp] at hat
    dsimp only at hat
    obtain ⟨bo, cb, rfl⟩ := owns_slice hN.below
    have hon := hid (fun W' (hB : Below W.heap.size W W') => hN.on hw.out.at_.lt hB)
    have hmi : ∀ i ∈ its, i ∈ r.xs := fun i hi => by
      cases d' with
      | zero => obtain ⟨_, e⟩ := hG; rw [e]; exact hi
      | succ d' => obtain ⟨g1, e, _⟩ := hG; rw [e]; exact (weave_items _ _ _ g1).subset hi
    have HS := hid (show ∀ i ∈ its, i.1.size ≤ maxLen from fun i hi => (hw.out.small i (hmi i hi)).1)
    have HP := hid hp
    have HN := hid hN
    have HG := hid hG
    have hrl := hN.lt
    clear hN hG hp hmi
    cases is with
    | true =>
      obtain ⟨v, hsp⟩ := hw.out.spot HN.out hl1 hl2 HG.out HP.out
      have HSP := hid hsp
      clear hsp
      go_wp2_with fail
      (((with_reducible refine (place_is _ r.p _ _ its k (hon.out _ (by repeat' (first | exact Below.refl _ _ | with_reducible assumption | omega | with_reducible refine below_put_fut ?_ ?_ _ | with_reducible refine below_to_put ?_ | with_reducible refine Below.alloc ?_ ?_ _ | with_reducible refine Below.fut ?_ ?_ _ | with_reducible refine Below.drew ?_ | with_reducible refine Below.setCell ?_ ?_ _ | with_reducible refine Below.atPut ?_ ?_ _ | (simp [go_sem]; done) | (simp [go_sem]; omega)))).heap (hon.out _ (by repeat' (first | exact Below.refl _ _ | with_reducible assumption | omega | with_reducible refine below_put_fut ?_ ?_ _ | with_reducible refine below_to_put ?_ | with_reducible refine Below.alloc ?_ ?_ _ | with_reducible refine Below.fut ?_ ?_ _ | with_reducible refine Below.drew ?_ | with_reducible refine Below.setCell ?_ ?_ _ | with_reducible refine Below.atPut ?_ ?_ _ | (simp [go_sem]; done) | (simp [go_sem]; omega)))).items (by omega) hk HS.out at_ true HP.out).mono ?_)); rintro _ _ ⟨rfl, u1, rfl⟩)
      go_wp2_with fail
      (try (rw [Exit.noGoto_ret]))
      go_ret2
      exact ⟨.inr ⟨v, r.p, at_, rfl, HSP.out⟩, ⟨⟨_, (by repeat' (first | exact Below.refl _ _ | with_reducible assumption | omega | with_reducible refine below_put_fut ?_ ?_ _ | with_reducible refine below_to_put ?_ | with_reducible refine Below.alloc ?_ ?_ _ | with_reducible refine Below.fut ?_ ?_ _ | with_reducible refine Below.drew ?_ | with_reducible refine Below.setCell ?_ ?_ _ | with_reducible refine Below.atPut ?_ ?_ _ | (simp [go_sem]; done) | (simp [go_sem]; omega)))⟩, rfl⟩⟩
    | false =>
      obtain ⟨lf, hlf⟩ : ∃ b, ((kids.length : Int) == 0) = b := ⟨_, rfl⟩
      have HLF := hid hlf
      clear hlf
      cases d' with
      | zero =>
        have hkl : kids.length = 0 := by obtain ⟨e, _⟩ := HG.out; rw [e]; rfl
        obtain rfl : lf = true := by rw [← HLF.out, hkl]; rfl
        have HNO := hid (hw.out.none (at_ := at_) (by obtain ⟨_, e⟩ := HG.out; rw [e]; exact HP.out))
        go_wp2_with fail
        (((with_reducible refine (place_is _ r.p _ _ its k (hon.out _ (by repeat' (first | exact Below.refl _ _ | with_reducible assumption | omega | with_reducible refine below_put_fut ?_ ?_ _ | with_reducible refine below_to_put ?_ | with_reducible refine Below.alloc ?_ ?_ _ | with_reducible refine Below.fut ?_ ?_ _ | with_reducible refine Below.drew ?_ | with_reducible refine Below.setCell ?_ ?_ _ | with_reducible refine Below.atPut ?_ ?_ _ | (simp [go_sem]; done) | (simp [go_sem]; omega)))).heap (hon.out _ (by repeat' (first | exact Below.refl _ _ | with_reducible assumption | omega | with_reducible refine below_put_fut ?_ ?_ _ | with_reducible refine below_to_put ?_ | with_reducible refine Below.alloc ?_ ?_ _ | with_reducible refine Below.fut ?_ ?_ _ | with_reducible refine Below.drew ?_ | with_reducible refine Below.setCell ?_ ?_ _ | with_reducible refine Below.atPut ?_ ?_ _ | (simp [go_sem]; done) | (simp [go_sem]; omega)))).items (by omega) hk HS.out at_ false HP.out).mono ?_)); rintro _ _ ⟨rfl, u1, rfl⟩)
        go_wp2_with fail
        (((with_reducible refine (leaf_is _ r.p _ _ _ _ (hon.out _ (by repeat' (first | exact Below.refl _ _ | with_reducible assumption | omega | with_reducible refine below_put_fut ?_ ?_ _ | with_reducible refine below_to_put ?_ | with_reducible refine Below.alloc ?_ ?_ _ | with_reducible refine Below.fut ?_ ?_ _ | with_reducible refine Below.drew ?_ | with_reducible refine Below.setCell ?_ ?_ _ | with_reducible refine Below.atPut ?_ ?_ _ | (simp [go_sem]; done) | (simp [go_sem]; omega)))).heap true HLF.out).mono ?_)); rintro _ _ ⟨rfl, u2, rfl⟩)
        go_wp2_with fail
        (try (rw [Exit.noGoto_ret]))
        go_ret2
        exact ⟨.inl ⟨rfl, HNO.out⟩, ⟨⟨_, (by repeat' (first | exact Below.refl _ _ | with_reducible assumption | omega | with_reducible refine below_put_fut ?_ ?_ _ | with_reducible refine below_to_put ?_ | with_reducible refine Below.alloc ?_ ?_ _ | with_reducible refine Below.fut ?_ ?_ _ | with_reducible refine Below.drew ?_ | with_reducible refine Below.setCell ?_ ?_ _ | with_reducible refine Below.atPut ?_ ?_ _ | (simp [go_sem]; done) | (simp [go_sem]; omega)))⟩, rfl⟩⟩
      | succ d' =>
        obtain ⟨s, hs, hws⟩ := hw.out.down HN.out hl1 hl2 HG.out HP.out
        have hkl : kids.length = its.length + 1 := HG.out.1
        obtain rfl : lf = false := by rw [← HLF.out, hkl]; simp; omega
        obtain ⟨rb, cb', hv, _, hrb⟩ := World.ownsRow.form HN.out.below (by omega)
        obtain rfl : bo = some ⟨rb, 0, none⟩ := by injection hv
        have hcb : W.cell? ⟨rb, at_, none⟩ = some (.pointer (some ⟨s.p, 0, none⟩)) := by
          rw [HN.out.below.cellAt at_ (by omega)]
          simp [ptrs, hs, Kid.v]
        have hc2 := fun i => cell_of_row W r.p i _ _ (0, 0) HN.out.heap
        have HWS := hid hws
        have hat2 : at_ < kids.length := by omega
        have hat3 : (at_ : Int) < kids.length := by omega
        generalize kids.length = kn at *
        clear hws hs hv
        go_wp2_with fail
        (((with_reducible refine (place_is _ r.p _ _ its k (hon.out _ (by repeat' (first | exact Below.refl _ _ | with_reducible assumption | omega | with_reducible refine below_put_fut ?_ ?_ _ | with_reducible refine below_to_put ?_ | with_reducible refine Below.alloc ?_ ?_ _ | with_reducible refine Below.fut ?_ ?_ _ | with_reducible refine Below.drew ?_ | with_reducible refine Below.setCell ?_ ?_ _ | with_reducible refine Below.atPut ?_ ?_ _ | (simp [go_sem]; done) | (simp [go_sem]; omega)))).heap (hon.out _ (by repeat' (first | exact Below.refl _ _ | with_reducible assumption | omega | with_reducible refine below_put_fut ?_ ?_ _ | with_reducible refine below_to_put ?_ | with_reducible refine Below.alloc ?_ ?_ _ | with_reducible refine Below.fut ?_ ?_ _ | with_reducible refine Below.drew ?_ | with_reducible refine Below.setCell ?_ ?_ _ | with_reducible refine Below.atPut ?_ ?_ _ | (simp [go_sem]; done) | (simp [go_sem]; omega)))).items (by omega) hk HS.out at_ false HP.out).mono ?_)); rintro _ _ ⟨rfl, u1, rfl⟩)
        go_wp2_with fail
        (((with_reducible refine (leaf_is _ r.p _ _ _ _ (hon.out _ (by repeat' (first | exact Below.refl _ _ | with_reducible assumption | omega | with_reducible refine below_put_fut ?_ ?_ _ | with_reducible refine below_to_put ?_ | with_reducible refine Below.alloc ?_ ?_ _ | with_reducible refine Below.fut ?_ ?_ _ | with_reducible refine Below.drew ?_ | with_reducible refine Below.setCell ?_ ?_ _ | with_reducible refine Below.atPut ?_ ?_ _ | (simp [go_sem]; done) | (simp [go_sem]; omega)))).heap false HLF.out).mono ?_)); rintro _ _ ⟨rfl, u2, rfl⟩)
        go_wp2_with fail
        obtain ⟨lo2, r2, h1, h2⟩ := HD1.out _ d' 3 s rfl HWS.out
        exact ⟨⟨_, lo2, r2, h1, hid h2, rfl, ⟨⟨_, (by repeat' (first | exact Below.refl _ _ | with_reducible assumption | omega | with_reducible refine below_put_fut ?_ ?_ _ | with_reducible refine below_to_put ?_ | with_reducible refine Below.alloc ?_ ?_ _ | with_reducible refine Below.fut ?_ ?_ _ | with_reducible refine Below.drew ?_ | with_reducible refine Below.setCell ?_ ?_ _ | with_reducible refine Below.atPut ?_ ?_ _ | (simp [go_sem]; done) | (simp [go_sem]; omega)))⟩, rfl⟩⟩, by rw [hD]; have := HD2.out _ d' 3 s rfl HWS.out; omega⟩
set_option maxRecDepth 100000 in
set_option maxHeartbeats 4000000 in
theorem get_is {most : Int} {xs : List It} {W : World} {g : Nat} {c : Cnt} {top : Value} (h : Shf most xs W g c top) (k : ByteArray) (hk : k.size ≤ maxLen) (r : Option ByteArray) (hr : valueOf k xs = r) :
    Calls Try.prog 52 #[.pointer (some ⟨g, 0, none⟩), .string k] W (Makes (.tuple #[.string (r.getD ⟨#[]⟩), .bool r.isSome]) W) := by
  have hf : Calls Try.prog 72 #[.pointer (some ⟨g, 0, none⟩), .string k] W fun en W' => ((en = .returned (.tuple #[.pointer none, .int .i64 0]) ∧ r = none) ∨ ∃ v p at_ iv bv its, en = .returned (.tuple #[.pointer (some ⟨p, 0, none⟩), .int .i64 (at_ : Nat)]) ∧ r = some v ∧ W.heap[p]? = some (.cells #[iv, bv] 118) ∧ Row W 34 2 iv its.length (flat its) ∧ its[at_]? = some (k, v) ∧ its.length ≤ 6) ∧ ∃ u : Fut W, W' = u.val := by
    have hg := h.heap
    cases h.top with
    | none hx hc =>
      have hcc := fun i => cell_of_row W g i _ _ (0, 0) hg
      have hl := lt_of_heap hg
      have HR := hid (show r = none by rw [← hr, hx]; rfl)
      clear h hr
      generalize xs.length = n at hg hcc
      clear hg
      go_enter Try.func72, Try.ntmps72
      go_wp2_with fail
      go_step3
      go_wp2_with fail
      go_step3
      go_wp2_with fail
      refine wp_loop_rounds 1 ?_
      rw [rounds_succ]
      go_wp2_with fail
      (try (rw [Exit.noGoto_ret]))
      go_ret2
      exact ⟨.inl ⟨rfl, HR.out⟩, ⟨⟨_, (by repeat' (first | exact Below.refl _ _ | with_reducible assumption | omega | with_reducible refine below_put_fut ?_ ?_ _ | with_reducible refine below_to_put ?_ | with_reducible refine Below.alloc ?_ ?_ _ | with_reducible refine Below.fut ?_ ?_ _ | with_reducible refine Below.drew ?_ | with_reducible refine Below.setCell ?_ ?_ _ | with_reducible refine Below.atPut ?_ ?_ _ | (simp [go_sem]; done) | (simp [go_sem]; omega)))⟩, rfl⟩⟩
    | some d q ha hx hgc hc =>
      refine (find_is ha (by rw [hx]; exact h.rises) (by rw [hx]; exact h.small) k hk g _ _ hg).mono ?_
      rintro en W' ⟨⟨rfl, hv⟩ | ⟨v, p, at_, rfl, iv, bv, its, e1, e2, e3, e4, e5, _⟩, hu⟩
      · exact ⟨.inl ⟨rfl, by rw [← hr, ← hx]; exact hv⟩, hu⟩
      · exact ⟨.inr ⟨v, p, at_, iv, bv, its, rfl, by rw [← hr, ← hx]; exact e5, e1, e2, e3, e4⟩, hu⟩
  have hgl := lt_of_heap h.heap
  clear h hr
  go_enter Try.func52, Try.ntmps52
  go_wp2_with fail
  refine hf.mono ?_
  rintro _ _ ⟨⟨rfl, rfl⟩ | ⟨v, p, at_, iv, bv, its, rfl, rfl, e1, e2, e3, e4⟩, u, rfl⟩
  · clear hf
    go_wp2_with fail
    (try (rw [Exit.noGoto_ret]))
    go_ret2
    exact .mk rfl (by repeat' (first | exact Below.refl _ _ | with_reducible assumption | omega | with_reducible refine below_put_fut ?_ ?_ _ | with_reducible refine below_to_put ?_ | with_reducible refine Below.alloc ?_ ?_ _ | with_reducible refine Below.fut ?_ ?_ _ | with_reducible refine Below.drew ?_ | with_reducible refine Below.setCell ?_ ?_ _ | with_reducible refine Below.atPut ?_ ?_ _ | (simp [go_sem]; done) | (simp [go_sem]; omega)))
  · clear hf
    have hpl := lt_of_heap e1
    have hat := (List.getElem?_eq_some_iff.1 e3).1
    obtain ⟨rb, cc, rfl, _, hrb⟩ := World.ownsRow.form e2 (by omega)
    have hfl := flat_at its at_ (k, v) e3
    have q1 : W.cell? ⟨rb, at_ * 2 + 1, none⟩ = some (.string v) := by
      rw [e2.cellAt _ (by omega), ← hfl.2]; congr 1; omega
    have hcp := fun i => cell_of_row W p i _ _ (0, 0) e1
    have hat2 : (at_ : Int) < its.length := by omega
    generalize its.length = n at hcp hat2 hat e4
    clear e1 e2 e3 hfl
    go_wp2_with fail
    (try (rw [Exit.noGoto_ret]))
    go_ret2
    exact .mk rfl (by repeat' (first | exact Below.refl _ _ | with_reducible assumption | omega | with_reducible refine below_put_fut ?_ ?_ _ | with_reducible refine below_to_put ?_ | with_reducible refine Below.alloc ?_ ?_ _ | with_reducible refine Below.fut ?_ ?_ _ | with_reducible refine Below.drew ?_ | with_reducible refine Below.setCell ?_ ?_ _ | with_reducible refine Below.atPut ?_ ?_ _ | (simp [go_sem]; done) | (simp [go_sem]; omega)))
set_option maxRecDepth 100000 in
set_option maxHeartbeats 4000000 in
/-- How many levels a shelf's tree has. -/
theorem depth_is {most : Int} {xs : List It} {W : World} {g : Nat} {c : Cnt} {top : Value} (h : Shf most xs W g c top) (hn : xs.length ≤ 1000) :
    Calls Try.prog 30 #[.pointer (some ⟨g, 0, none⟩)] W fun en W' => (∃ D : Nat, en = .returned (.int .i64 D) ∧ D ≤ deepN xs.length ∧ (D = 0 ↔ xs = []) ∧ D ≤ 1000 ∧ (xs.length = 1 → D = 1)) ∧ ∃ u : Fut W, W' = u.val := by
  have hc := fun i => cell_of_row W g i _ _ (0, 0) h.heap
  have hgl := lt_of_heap h.heap
  cases h.top with
  | none hx hcc =>
    have HX := hid hx
    rw [hx] at hc
    clear h hx
    go_enter Try.func30, Try.ntmps30
    go_wp2_with fail
    go_step3
    go_wp2_with fail
    go_step3
    go_wp2_with fail
    refine wp_loop_rounds 1 ?_
    rw [rounds_succ]
    go_wp2_with fail
    (try (rw [Exit.noGoto_ret]))
    go_ret
    exact ⟨⟨0, rfl, Nat.zero_le _, by simp [HX.out], by omega, by rw [HX.out]; simp⟩, ⟨⟨_, (by repeat' (first | exact Below.refl _ _ | with_reducible assumption | omega | with_reducible refine below_put_fut ?_ ?_ _ | with_reducible refine below_to_put ?_ | with_reducible refine Below.alloc ?_ ?_ _ | with_reducible refine Below.fut ?_ ?_ _ | with_reducible refine Below.drew ?_ | with_reducible refine Below.setCell ?_ ?_ _ | with_reducible refine Below.atPut ?_ ?_ _ | (simp [go_sem]; done) | (simp [go_sem]; omega)))⟩, rfl⟩⟩
  | some d q ha hx hg hcc =>
    have hcount := ha.count (Nat.le_refl _)
    rw [hx] at hcount
    have hp : 1 ≤ 4 ^ d := Nat.pow_pos (by omega)
    have hd4 : d < 4 ^ d := Nat.lt_pow_self (by omega)
    have hd0 : xs.length = 1 → d = 0 := fun e => by
      rcases Nat.eq_zero_or_pos d with f | f
      · exact f
      · have : 4 ^ 1 ≤ 4 ^ d := Nat.pow_le_pow_right (by omega) f
        omega
    have HRES := hid (show d + 1 ≤ deepN xs.length ∧ (d + 1 = 0 ↔ xs = []) ∧ d + 1 ≤ 1000 ∧ (xs.length = 1 → d + 1 = 1) from ⟨deepN_le hcount, ⟨fun e => by omega, fun e => by rw [e] at hcount; simp at hcount⟩, by omega, fun e => by rw [hd0 e]⟩)
    have HA := hid ha
    have hd1 : d ≤ 999 := by omega
    clear hx hcount hp hd4 hd0 ha hcc hg hn
    generalize xs.length = n at h hc HRES ⊢
    clear h
    go_enter Try.func30, Try.ntmps30
    go_wp2_with fail
    go_step3
    go_wp2_with fail
    go_step3
    go_wp2_with fail
    go_loopw [3, 4] (fun a x wr => ∃ (j d' lo' : Nat) (r : Kid), a = .int .i64 j ∧ x = .pointer (some ⟨r.p, 0, none⟩) ∧ j + d' = d ∧ Hid (At d' lo' W r ∧ 1 ≤ lo') ∧ ∃ u : Fut W, wr = u.val) (fun a _ _ => d + 1 - (intOf a).toNat)
    case atStart => exact ⟨0, d, 1, q, rfl, rfl, by omega, hid ⟨HA.out, Nat.le_refl _⟩, ⟨⟨_, (by repeat' (first | exact Below.refl _ _ | with_reducible assumption | omega | with_reducible refine below_put_fut ?_ ?_ _ | with_reducible refine below_to_put ?_ | with_reducible refine Below.alloc ?_ ?_ _ | with_reducible refine Below.fut ?_ ?_ _ | with_reducible refine Below.drew ?_ | with_reducible refine Below.setCell ?_ ?_ _ | with_reducible refine Below.atPut ?_ ?_ _ | (simp [go_sem]; done) | (simp [go_sem]; omega)))⟩, rfl⟩⟩
    case round =>
      obtain ⟨j, d', lo', r, rfl, rfl, hj, hw, u, rfl⟩ := hrel
      obtain ⟨iv, bv, its, kids, hN, hl1, hl2, hG⟩ := hw.out.1.node
      obtain ⟨bo, cb, rfl⟩ := owns_slice hN.below
      have hon := hid (fun W' (hB : Below W.heap.size W W') => hN.on hw.out.1.lt hB)
      have hrl := hN.lt
      have HN := hid hN
      have HG := hid hG
      have e1 : IntKind.i64.wrap ((j : Int) + 1) = (j : Int) + 1 := IntWalk.i64_in _ (by omega)
      clear hN hG
      cases d' with
      | zero =>
        have hkl : kids.length = 0 := by obtain ⟨e, _⟩ := HG.out; rw [e]; rfl
        obtain rfl : j = d := by omega
        have HLF := hid (show ((kids.length : Int) == 0) = true by rw [hkl]; rfl)
        go_wp2_with fail
        (((with_reducible refine (leaf_is _ r.p _ _ _ _ (hon.out _ (by repeat' (first | exact Below.refl _ _ | with_reducible assumption | omega | with_reducible refine below_put_fut ?_ ?_ _ | with_reducible refine below_to_put ?_ | with_reducible refine Below.alloc ?_ ?_ _ | with_reducible refine Below.fut ?_ ?_ _ | with_reducible refine Below.drew ?_ | with_reducible refine Below.setCell ?_ ?_ _ | with_reducible refine Below.atPut ?_ ?_ _ | (simp [go_sem]; done) | (simp [go_sem]; omega)))).heap true HLF.out).mono ?_)); rintro _ _ ⟨rfl, u2, rfl⟩)
        go_wp2_with fail
        (try (rw [Exit.noGoto_ret]))
        go_ret
        exact ⟨⟨j + 1, by simp, HRES.out.1, HRES.out.2.1, HRES.out.2.2.1, HRES.out.2.2.2⟩, ⟨⟨_, (by repeat' (first | exact Below.refl _ _ | with_reducible assumption | omega | with_reducible refine below_put_fut ?_ ?_ _ | with_reducible refine below_to_put ?_ | with_reducible refine Below.alloc ?_ ?_ _ | with_reducible refine Below.fut ?_ ?_ _ | with_reducible refine Below.drew ?_ | with_reducible refine Below.setCell ?_ ?_ _ | with_reducible refine Below.atPut ?_ ?_ _ | (simp [go_sem]; done) | (simp [go_sem]; omega)))⟩, rfl⟩⟩
      | succ d' =>
        have hkl : kids.length = its.length + 1 := HG.out.1
        obtain ⟨s, hs⟩ : ∃ s, kids[0]? = some s := ⟨_, List.getElem?_eq_getElem (by omega)⟩
        have HWS := hid (show At d' 3 W s from HG.out.2.2 s (List.mem_of_getElem? hs))
        obtain ⟨rb, cb', hv, _, hrb⟩ := World.ownsRow.form HN.out.below (by omega)
        obtain rfl : bo = some ⟨rb, 0, none⟩ := by injection hv
        have hcb : W.cell? ⟨rb, 0, none⟩ = some (.pointer (some ⟨s.p, 0, none⟩)) := by
          rw [HN.out.below.cellAt 0 (by omega)]
          simp [ptrs, hs, Kid.v]
        have hc2 := fun i => cell_of_row W r.p i _ _ (0, 0) HN.out.heap
        have HLF := hid (show ((kids.length : Int) == 0) = false by rw [hkl]; simp; omega)
        have hat2 : 0 < kids.length := by omega
        have hat3 : (0 : Int) < kids.length := by omega
        generalize kids.length = kn at *
        clear hs hv
        go_wp2_with fail
        (((with_reducible refine (leaf_is _ r.p _ _ _ _ (hon.out _ (by repeat' (first | exact Below.refl _ _ | with_reducible assumption | omega | with_reducible refine below_put_fut ?_ ?_ _ | with_reducible refine below_to_put ?_ | with_reducible refine Below.alloc ?_ ?_ _ | with_reducible refine Below.fut ?_ ?_ _ | with_reducible refine Below.drew ?_ | with_reducible refine Below.setCell ?_ ?_ _ | with_reducible refine Below.atPut ?_ ?_ _ | (simp [go_sem]; done) | (simp [go_sem]; omega)))).heap false HLF.out).mono ?_)); rintro _ _ ⟨rfl, u2, rfl⟩)
        go_wp2_with fail
        exact ⟨⟨j + 1, d', 3, s, by simp, rfl, by omega, hid ⟨HWS.out, by omega⟩, ⟨⟨_, (by repeat' (first | exact Below.refl _ _ | with_reducible assumption | omega | with_reducible refine below_put_fut ?_ ?_ _ | with_reducible refine below_to_put ?_ | with_reducible refine Below.alloc ?_ ?_ _ | with_reducible refine Below.fut ?_ ?_ _ | with_reducible refine Below.drew ?_ | with_reducible refine Below.setCell ?_ ?_ _ | with_reducible refine Below.atPut ?_ ?_ _ | (simp [go_sem]; done) | (simp [go_sem]; omega)))⟩, rfl⟩⟩, by simp [intOf]; omega⟩
theorem wpre_snoc (X : Kid → List It) : ∀ (L : List Kid) (A : List It) (q : Kid) (i : It), L.length = A.length → wpre X (L ++ [q]) (A ++ [i]) = wpre X L A ++ (X q ++ [i])
  | [], [], q, i, _ => by simp [wpre]
  | p :: L, a :: A, q, i, h => by
    have := wpre_snoc X L A q i (by simpa using h)
    simp [wpre, this]
  | [], _ :: _, _, _, h => by cases h
  | _ :: _, [], _, _, h => by cases h
/-- What all has put together behind i items of a node. -/
def preL (d : Nat) (its : List It) (kids : List Kid) (i : Nat) : List It := if d = 0 then its.take i else wpre Kid.xs (kids.take i) (its.take i)
theorem preL_leaf {its : List It} {kids : List Kid} {i : Nat} {x : It} (h : its[i]? = some x) : preL 0 its kids (i + 1) = preL 0 its kids i ++ [x] := by
  obtain ⟨hl, rfl⟩ := List.getElem?_eq_some_iff.1 h
  simp only [preL, if_true]
  exact List.take_succ_eq_append_getElem hl
theorem preL_node {d : Nat} {its : List It} {kids : List Kid} {i : Nat} {x : It} {s : Kid} (h : its[i]? = some x) (hs : kids[i]? = some s) : preL (d + 1) its kids (i + 1) = preL (d + 1) its kids i ++ s.xs ++ [x] := by
  obtain ⟨hl, rfl⟩ := List.getElem?_eq_some_iff.1 h
  obtain ⟨hl2, rfl⟩ := List.getElem?_eq_some_iff.1 hs
  unfold preL
  rw [if_neg (by omega), if_neg (by omega), List.take_succ_eq_append_getElem hl, List.take_succ_eq_append_getElem hl2, wpre_snoc _ _ _ _ _ (by rw [List.length_take, List.length_take]; omega), List.append_assoc]
theorem preL_end {d : Nat} {W : World} {its xs : List It} {kids : List Kid} (h : Good d W its kids xs) : (d = 0 → preL d its kids its.length = xs) ∧ (∀ s, d ≠ 0 → kids[its.length]? = some s → preL d its kids its.length ++ s.xs = xs) := by
  cases d with
  | zero => obtain ⟨_, rfl⟩ := h; exact ⟨fun _ => by simp [preL], fun s h => absurd rfl h⟩
  | succ d =>
    refine ⟨fun h => by omega, fun s _ hs => ?_⟩
    obtain ⟨h1, h2, _⟩ := h
    obtain ⟨hl2, rfl⟩ := List.getElem?_eq_some_iff.1 hs
    have hk : kids.take its.length ++ kids[its.length] :: [] = kids := by
      have := List.take_append_drop its.length kids
      rw [List.drop_eq_getElem_cons hl2, List.drop_of_length_le (by omega)] at this
      exact this
    have hw := weave_split Kid.xs (kids.take its.length) its kids[its.length] [] [] (by rw [List.length_take]; omega) rfl
    rw [hk, List.append_nil] at hw
    rw [h2, hw]
    unfold preL
    rw [if_neg (by omega), List.take_length]
    simp [wpost]
theorem preL_len {d : Nat} {W : World} {its xs : List It} {kids : List Kid} (h : Good d W its kids xs) (i : Nat) (s : Kid) (hi : i < its.length) (hs : d ≠ 0 → kids[i]? = some s) : (preL d its kids i).length + (if d = 0 then 0 else s.xs.length) + 1 ≤ xs.length := by
  have key : ∀ n i, i + n = its.length → (preL d its kids i).length ≤ xs.length := by
    intro n
    induction n with
    | zero =>
      intro i hi
      obtain rfl : i = its.length := by omega
      cases d with
      | zero => rw [(preL_end h).1 rfl]; exact Nat.le_refl _
      | succ d =>
        obtain ⟨s, hs⟩ : ∃ s, kids[its.length]? = some s := ⟨_, List.getElem?_eq_getElem (by have := h.1; omega)⟩
        rw [← (preL_end h).2 s (by omega) hs, List.length_append]; omega
    | succ n ih =>
      intro i hi
      have h1 := ih (i + 1) (by omega)
      obtain ⟨x, hx⟩ : ∃ x, its[i]? = some x := ⟨_, List.getElem?_eq_getElem (by omega)⟩
      cases d with
      | zero => rw [preL_leaf hx, List.length_append] at h1; omega
      | succ d =>
        obtain ⟨s, hs⟩ : ∃ s, kids[i]? = some s := ⟨_, List.getElem?_eq_getElem (by have := h.1; omega)⟩
        rw [preL_node hx hs, List.length_append, List.length_append] at h1; omega
  have h1 := key (its.length - (i + 1)) (i + 1) (by omega)
  obtain ⟨x, hx⟩ : ∃ x, its[i]? = some x := ⟨_, List.getElem?_eq_getElem hi⟩
  cases d with
  | zero => rw [preL_leaf hx, List.length_append] at h1; simpa using h1
  | succ d =>
    rw [preL_node hx (hs (by omega)), List.length_append, List.length_append] at h1
    simpa using h1
end Go.Proofs.Ythknenhcnpgkcaa
