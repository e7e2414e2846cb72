/- Texts of this proof, merged: ShL, DlF. -/
import Derived.Test.YthknenhcnpgkcaaMg
import Derived.Test.YthknenhcnpgkcaaMo
/- What is under which key behind a Put, behind a Del. Plain lists. -/
namespace Go.Proofs.Ythknenhcnpgkcaa
set_option linter.unusedVariables false
open Go.RowKit
def keysOf (xs : List It) : List ByteArray := xs.map (·.1)
theorem keys_repL (k v : ByteArray) (xs : List It) : keysOf (repL k v xs) = keysOf xs := by
  unfold keysOf repL
  rw [List.map_map]
  congr 1
  funext i
  simp only [Function.comp]
  split
  · rename_i e; exact e.symm
  · rfl
theorem isSome_iff {k : ByteArray} {xs : List It} : (valueOf k xs).isSome = true ↔ k ∈ keysOf xs := by
  constructor
  · intro h
    obtain ⟨v, hv⟩ := Option.isSome_iff_exists.1 h
    exact List.mem_map.2 ⟨_, valueOf_some hv, rfl⟩
  · intro h
    obtain ⟨x, hx, rfl⟩ := List.mem_map.1 h
    cases hv : valueOf x.1 xs with
    | some v => rfl
    | none => exact absurd rfl (valueOf_none_iff.1 hv x hx)
theorem valueOf_cons_ne {k : ByteArray} {x : It} {xs : List It} (h : x.1 ≠ k) : valueOf k (x :: xs) = valueOf k xs := by
  have := valueOf_skip (k := k) (P := [x]) (xs := xs) (by simpa using h)
  simpa using this
theorem valueOf_cons_eq {x : It} {xs : List It} : valueOf x.1 (x :: xs) = some x.2 := valueOf_head
theorem valueOf_delL_self {k : ByteArray} {xs : List It} : valueOf k (delL k xs) = none := by
  rw [valueOf_none_iff]
  intro x hx
  have := (List.mem_filter.1 hx).2
  simpa using this
theorem valueOf_delL_ne {k k' : ByteArray} (h : k ≠ k') : ∀ {xs : List It}, valueOf k (delL k' xs) = valueOf k xs
  | [] => rfl
  | x :: xs => by
    have ih := valueOf_delL_ne h (xs := xs)
    unfold delL at ih ⊢
    by_cases e : x.1 = k'
    · rw [List.filter_cons_of_neg (by simp [e]), ih, valueOf_cons_ne (by rw [e]; exact h.symm)]
    · rw [List.filter_cons_of_pos (by simp [e])]
      by_cases e2 : x.1 = k
      · subst e2; rw [valueOf_cons_eq, valueOf_cons_eq]
      · rw [valueOf_cons_ne e2, valueOf_cons_ne e2, ih]
theorem valueOf_repL_self {k v : ByteArray} : ∀ {xs : List It}, k ∈ keysOf xs → valueOf k (repL k v xs) = some v
  | [], h => by cases h
  | x :: xs, h => by
    unfold repL
    rw [List.map_cons]
    by_cases e : x.1 = k
    · rw [if_pos e]; exact valueOf_head
    · rw [if_neg e, valueOf_cons_ne e]
      refine valueOf_repL_self (xs := xs) ?_
      rcases List.mem_cons.1 h with h | h
      · exact absurd h.symm e
      · exact h
theorem valueOf_repL_ne {k k' v : ByteArray} (h : k ≠ k') : ∀ {xs : List It}, valueOf k (repL k' v xs) = valueOf k xs
  | [] => rfl
  | x :: xs => by
    have ih := valueOf_repL_ne h (v := v) (xs := xs)
    unfold repL at ih ⊢
    rw [List.map_cons]
    by_cases e : x.1 = k'
    · rw [if_pos e, valueOf_cons_ne (show (k', v).1 ≠ k from h.symm), ih, valueOf_cons_ne (by rw [e]; exact h.symm)]
    · rw [if_neg e]
      by_cases e2 : x.1 = k
      · subst e2; rw [valueOf_cons_eq, valueOf_cons_eq]
      · rw [valueOf_cons_ne e2, valueOf_cons_ne e2, ih]
theorem valueOf_insL_self {k v : ByteArray} : ∀ {xs : List It}, valueOf k xs = none → valueOf k (insL (k, v) xs) = some v
  | [], _ => valueOf_head
  | x :: xs, h => by
    have hx : x.1 ≠ k := valueOf_none_iff.1 h x (by simp)
    rw [insL]
    split
    · rw [valueOf_cons_ne hx]
      exact valueOf_insL_self (by rw [← h, valueOf_cons_ne hx])
    · exact valueOf_head
theorem valueOf_insL_ne {k k' v : ByteArray} (h : k ≠ k') : ∀ {xs : List It}, valueOf k (insL (k', v) xs) = valueOf k xs
  | [] => valueOf_cons_ne h.symm
  | x :: xs => by
    rw [insL]
    split
    · by_cases e : x.1 = k
      · subst e; rw [valueOf_cons_eq, valueOf_cons_eq]
      · rw [valueOf_cons_ne e, valueOf_cons_ne e]; exact valueOf_insL_ne h
    · exact valueOf_cons_ne h.symm
theorem split_key {k : ByteArray} {xs : List It} (h : k ∈ keysOf xs) : ∃ A v B, xs = A ++ (k, v) :: B := by
  obtain ⟨x, hx, rfl⟩ := List.mem_map.1 h
  obtain ⟨A, B, rfl⟩ := List.append_of_mem hx
  exact ⟨A, x.2, B, rfl⟩
theorem delL_length {k : ByteArray} {xs : List It} (hr : Rises xs) (h : k ∈ keysOf xs) : (delL k xs).length + 1 = xs.length := by
  obtain ⟨A, v, B, rfl⟩ := split_key h
  rw [del_mid hr]
  simp
  omega
theorem delL_rises {k : ByteArray} {xs : List It} (hr : Rises xs) : Rises (delL k xs) := hr.sub List.filter_sublist
theorem delL_none {k : ByteArray} {xs : List It} (h : valueOf k xs = none) : delL k xs = xs := delL_id (valueOf_none_iff.1 h)
/-- Put of a key and a value that may be. -/
theorem putL_ok {most : Int} {k v : ByteArray} {xs : List It} (h1 : 1 ≤ k.size) (h2 : k.size ≤ 16) (hv : v.size ≤ 16) : putL most k v xs = if (valueOf k xs).isSome then (0, repL k v xs) else if most ≤ xs.length then (5, xs) else (0, insL (k, v) xs) := by
  unfold putL
  rw [if_neg (by omega), if_neg (by omega)]
theorem putL_old {most : Int} {k v : ByteArray} {xs : List It} (h1 : 1 ≤ k.size) (h2 : k.size ≤ 16) (hv : v.size ≤ 16) (h : k ∈ keysOf xs) : putL most k v xs = (0, repL k v xs) := by
  rw [putL_ok h1 h2 hv, if_pos (isSome_iff.2 h)]
end Go.Proofs.Ythknenhcnpgkcaa

/- Contracts of package shelf: Del. -/
namespace Go.Proofs.Ythknenhcnpgkcaa
set_option linter.unusedVariables false
set_option linter.unusedSimpArgs false
open Go.RowKit
theorem upd_top {W W5 W6 : World} {g : Nat} {q c5 c6 c : Cnt} (hu : Upd W W5 q c5) (hg : g < W.heap.size) (hq : q g = 0) (h6 : ∀ k, c6 k ≤ c5 k) (hc : Chg (fun k => k = g) W5 W6) (hcc : ∀ k, c k = one g k + q k) : Upd W W6 c (fun k => one g k + c6 k) := by
  refine ⟨(hu.chg.mono fun k _ h => (by rw [hcc]; omega : c k ≠ 0)).trans hc fun k _ h => by subst h; rw [hcc, one_self]; omega, fun k => ?_, fun k hk => ?_⟩
  · by_cases e : one g k = 0
    · have := h6 k; have := hu.le k; omega
    · have e1 := one_ne e
      subst e1
      have := h6 k; have := hu.old k hg; have := one_le k k; omega
  · have := h6 k; have := hu.old k hk; have := hcc k; omega
/-- What Del leaves. -/
def DelShf (most : Int) (k : ByteArray) (xs : List It) (W : World) (g : Nat) (c : Cnt) (W' : World) : Prop := ∃ c' top', Shf most (delL k xs) W' g c' top' ∧ Upd W W' c c'
theorem small_del {k : ByteArray} {xs : List It} (h : Small xs) : Small (delL k xs) := fun i hi => h i (List.mem_filter.1 hi).1
theorem DelShf.same {most : Int} {xs : List It} {W W' : World} {g : Nat} {c : Cnt} {top : Value} {k : ByteArray} (h : Shf most xs W g c top) (hv : valueOf k xs = none) (hb : Below W.heap.size W W') : DelShf most k xs W g c W' :=
  ⟨c, top, by rw [delL_none hv]; exact h.on hb, Upd.rfl' h.le hb⟩
set_option maxRecDepth 100000 in
set_option maxHeartbeats 4000000 in
theorem del_shf {most : Int} {xs : List It} {W : World} {g : Nat} {c : Cnt} {top : Value} (h : Shf most xs W g c top) (k : ByteArray) (hk : k.size ≤ maxLen) (hn : xs.length ≤ 1000) (b : Bool) (hb : (valueOf k xs).isSome = b) :
    Calls Try.prog 51 #[.pointer (some ⟨g, 0, none⟩), .string k] W fun e W' => e = .returned (.bool b) ∧ DelShf most k xs W g c W' := by
  have hgh := h.heap
  have hgl := lt_of_heap hgh
  have hsame := hid (fun (W' : World) (hv : valueOf k xs = none) (hb : Below W.heap.size W W') => DelShf.same (k := k) h hv hb)
  have hri := h.rises
  have hsm := h.small
  cases h.top with
  | none hx hc =>
    subst hx
    obtain rfl : b = false := hb.symm
    have hcg := fun i => cell_of_row W g i _ _ (0, 0) hgh
    clear h hgh hri hsm hc
    go_enter Try.func51, Try.ntmps51
    go_wp2_with (first | (((with_reducible refine wp_region_fut_lit (by kernel_rfl) (by kernel_rfl) ?_)); (repeat (go_big_quiet_step ((first | fail)))); ((with_reducible refine wpQuiet_nil ?_)); rintro _ ⟨u, rfl⟩; (try (rw [Fut.put_self u (by first | assumption | (simp [go_sem]; done) | (simp [go_sem]; omega))]))))
    go_ret
    exact ⟨rfl, hsame.out _ rfl (by repeat' (first | exact Below.refl _ _ | with_reducible assumption | omega | with_reducible refine below_put_fut ?_ ?_ _ | with_reducible refine below_to_put ?_ | with_reducible refine Below.alloc ?_ ?_ _ | with_reducible refine Below.fut ?_ ?_ _ | with_reducible refine Below.drew ?_ | with_reducible refine Below.setCell ?_ ?_ _ | with_reducible refine Below.atPut ?_ ?_ _ | (simp [go_sem]; done) | (simp [go_sem]; omega)))⟩
  | some d q ha hx hgc hc =>
    have hcg := fun i => cell_of_row W g i _ _ (0, 0) hgh
    have HA := hid ha
    have HGH := hid hgh
    have HX := hid hx
    have HGC := hid hgc
    have HC := hid hc
    have HRI := hid hri
    have HSM := hid hsm
    have HBB := hid hb
    have hpl : q.p < W.heap.size := by obtain ⟨iv, bv, its, kids, hN, _⟩ := ha.node; exact hN.lt
    clear h hgh hx hgc hc ha hri hsm hb
    go_enter Try.func51, Try.ntmps51
    go_wp2_with fail
    go_at_call 83
    refine (del_is d 1 W q k HA.out (Nat.le_refl _) (by rw [HX.out]; exact HRI.out) (fun i hi => (HSM.out i (by rw [← HX.out]; exact hi)).1) hk).mono ?_
    rintro e W5 hd
    rcases hd with ⟨hv, rfl, u5, rfl⟩ | ⟨v, c5, hv, rfl, hat, hu⟩
    · rw [HX.out] at hv
      obtain rfl : b = false := by rw [← HBB.out, hv]; rfl
      have HV := hid hv
      clear hv
      go_wp2_with fail
      go_ret
      exact ⟨rfl, hsame.out _ HV.out (by repeat' (first | exact Below.refl _ _ | with_reducible assumption | omega | with_reducible refine below_put_fut ?_ ?_ _ | with_reducible refine below_to_put ?_ | with_reducible refine Below.alloc ?_ ?_ _ | with_reducible refine Below.fut ?_ ?_ _ | with_reducible refine Below.drew ?_ | with_reducible refine Below.setCell ?_ ?_ _ | with_reducible refine Below.atPut ?_ ?_ _ | (simp [go_sem]; done) | (simp [go_sem]; omega)))⟩
    · rw [HX.out] at hv hat
      obtain rfl : b = true := by rw [← HBB.out, hv]; rfl
      have hlen := delL_length HRI.out (isSome_iff.1 HBB.out)
      obtain ⟨m, hm⟩ : ∃ m, xs.length = m + 1 := ⟨xs.length - 1, by omega⟩
      have hlm : (delL k xs).length = m := by omega
      have HLM := hid hlm
      have em : IntKind.i64.wrap (((m + 1 : Nat) : Int) - 1) = (m : Int) := by rw [show ((m + 1 : Nat) : Int) - 1 = (m : Int) by omega]; exact IntWalk.i64_in _ (by omega)
      have em2 : IntKind.i64.wrap (m : Int) = (m : Int) := IntWalk.i64_in _ (by omega)
      have hg5 : W5.heap[g]? = some (shfObj most (m + 1 : Nat) (.pointer (some ⟨q.p, 0, none⟩))) := (hu.chg.block g hgl (by rw [HGC.out]; simp)).trans (by rw [← hm]; exact HGH.out)
      have hl5 := lt_of_heap hg5
      have hc5g : c5 g = 0 := by have := hu.old g hgl; have := HGC.out; omega
      obtain ⟨iv, bv, its, kids, hN, h1, h2, hG⟩ := hat.node
      obtain ⟨io, ic, rfl⟩ := owns_slice hN.items
      obtain ⟨bo, bc, rfl⟩ := owns_slice hN.below
      have hNh : W5.heap[q.p]? = some (.cells #[.slice io its.length ic, .slice bo kids.length bc] 118) := hN.heap
      have hcp := fun i => cell_of_row W5 q.p i _ _ (0, 0) hNh
      have hlp5 := lt_of_heap hNh
      have hqg : q.p ≠ g := fun e => by
        have e1 := hN.cnt q.p
        rw [one_self] at e1
        have e2 : c5 q.p = 1 + (blk (.slice io its.length ic) q.p + (blk (.slice bo kids.length bc) q.p + sumC kids q.p)) := e1
        rw [e] at e2; omega
      have hne : ((⟨q.p, 0, none⟩ : Addr) = ⟨g, 0, none⟩) = False := by simp only [Addr.mk.injEq, eq_iff_iff, iff_false]; omega
      have HAT := hid hat
      have HU := hid hu
      have HN := hid hN
      have HNH := hid hNh
      have HG := hid hG
      have HC5 := hid hc5g
      have HSD := hid (small_del (k := k) HSM.out)
      have HRD := hid (delL_rises (k := k) HRI.out)
      clear hat hu hN hG hNh hlen hv hlm hc5g
      rw [← put_self hg5]
      by_cases h0 : its.length = 0
      · have d0 : decide ((0 : Int) < (its.length : Int)) = false := by rw [h0]; rfl
        have H0 := hid h0
        have H1 := hid (show its = [] from List.eq_nil_of_length_eq_zero h0)
        rw [h0] at hcp d0
        cases d with
        | zero =>
          obtain ⟨hk0, hx0⟩ := HG.out
          have HK0 := hid hk0
          have HX0 := hid hx0
          have hlf : (((kids.length : Nat) : Int) == 0) = true := by rw [HK0.out]; rfl
          clear h0 hk0 hx0
          go_wp2_with fail
          go_at_call 75
          refine (leaf_is _ q.p _ _ _ _ ((heap_put_other _ _ _ _ hqg).trans HNH.out) true hlf).mono ?_
          rintro _ _ ⟨rfl, u6, rfl⟩
          have hg6 : u6.val.heap[g]? = some (shfObj most m (.pointer (some ⟨q.p, 0, none⟩))) := (u6.below.block g (by rw [size_put]; exact hl5)).trans (heap_put_at _ _ _ hl5)
          have hl6 := lt_of_heap hg6
          have HC6 := hid (show Chg (fun k => k = g) W5 u6.val from ((Chg.refl (fun k => k = g) W5).put (fun _ => rfl) _).trans (Chg.of_below (S := fun k => k = g) u6.below) fun _ _ h => h)
          generalize u6.val = W6 at hg6 hl6 HC6 ⊢
          rw [← put_self hg6]
          clear hg6 hcp
          go_wp2_with fail
          go_ret
          have e0 : delL k xs = [] := by have e1 : delL k xs = its := HX0.out; rw [e1, H1.out]
          have em0 : m = 0 := by have := HLM.out; rw [e0] at this; exact this.symm
          refine ⟨rfl, one g, .pointer none, ?_, ?_⟩
          · rw [e0]
            rw [em0]
            exact shf_new most (heap_put_at _ _ _ hl6)
          · exact upd_top (c6 := fun _ => 0) HU.out hgl HGC.out (fun _ => Nat.zero_le _) (HC6.out.put (g := g) (fun _ => rfl) _) HC.out
        | succ d =>
          obtain ⟨hk0, hx0, hk1⟩ := HG.out
          have hkl : kids.length = 1 := by omega
          obtain ⟨r, rfl⟩ : ∃ r, kids = [r] := by
            cases kids with
            | nil => cases hkl
            | cons r l =>
              cases l with
              | nil => exact ⟨r, rfl⟩
              | cons a l => simp at hkl
          have HX0 := hid hx0
          have HK1 := hid (hk1 r (by simp))
          obtain ⟨rb, rfl, k1, lk⟩ := kid_cell HN.out.below (i := 0) (q := r) rfl rfl
          have hlf : (((([r] : List Kid).length : Nat) : Int) == 0) = false := rfl
          have hne2 : ((⟨rb, 0, none⟩ : Addr) = ⟨g, 0, none⟩) = False := by
            simp only [Addr.mk.injEq, eq_iff_iff, iff_false]
            rintro ⟨e, -⟩
            have e1 := HN.out.cnt rb
            rw [blk_at (s := none), one_self] at e1
            have e2 : c5 rb = one q.p rb + (blk (.slice io its.length ic) rb + (1 + sumC [r] rb)) := e1
            have := HC5.out
            rw [e] at e2; omega
          have HNE := hid hne2
          have hrbg : rb ≠ g := fun e => by rw [e] at hne2; simp at hne2
          clear h0 hk0 hx0 hk1 hkl
          go_wp2_with fail
          go_at_call 75
          refine (leaf_is _ q.p _ _ _ _ ((heap_put_other _ _ _ _ hqg).trans HNH.out) false hlf).mono ?_
          rintro _ _ ⟨rfl, u6, rfl⟩
          have hg6 : u6.val.heap[g]? = some (shfObj most m (.pointer (some ⟨q.p, 0, none⟩))) := (u6.below.block g (by rw [size_put]; exact hl5)).trans (heap_put_at _ _ _ hl5)
          have hp6 : u6.val.heap[q.p]? = some (.cells #[.slice io its.length ic, .slice (some ⟨rb, 0, none⟩) 1 bc] 118) := (u6.below.block q.p (by rw [size_put]; exact hlp5)).trans ((heap_put_other _ _ _ _ hqg).trans HNH.out)
          have hl6 := lt_of_heap hg6
          have hlp6 := lt_of_heap hp6
          obtain ⟨rb', hrb', k6, hl62⟩ := kid_cell (HN.out.below.keep (W' := u6.val) fun j hj => (u6.below.block j (by rw [size_put]; exact HN.out.below.lt hj)).trans (heap_put_other _ _ _ _ fun e => by
            subst e
            have e1 := HN.out.cnt j
            have := HC5.out
            have e2 : c5 j = one q.p j + (blk (.slice (some ⟨rb, 0, none⟩) ([r] : List Kid).length bc) j + blk (.slice io its.length ic) j + sumC [r] j) := by have e3 : c5 j = _ := e1; rw [e3]; omega
            omega)) (i := 0) (q := r) rfl rfl
          obtain rfl : rb' = rb := by injection hrb' with h; injection h with h; exact h.symm
          have HC6 := hid (show Chg (fun k => k = g) W5 u6.val from ((Chg.refl (fun k => k = g) W5).put (fun _ => rfl) _).trans (Chg.of_below (S := fun k => k = g) u6.below) fun _ _ h => h)
          generalize u6.val = W6 at hg6 hl6 HC6 hp6 hlp6 k6 hl62 ⊢
          rw [← put_self hg6]
          have hcp6 := fun i => cell_of_row W6 q.p i _ _ (0, 0) hp6
          clear hg6 hcp k1 lk
          go_wp2_with fail
          go_ret
          have e0 : delL k xs = r.xs := HX0.out.trans (by rw [H1.out]; rfl)
          have hcr : ∀ j, r.c j ≤ c5 j := fun j => HN.out.kid (by simp) j
          have hchg := HC6.out.put (S := fun k => k = g) (g := g) (fun _ => rfl) (shfObj most m (.pointer (some ⟨r.p, 0, none⟩)))
          refine ⟨rfl, fun j => one g j + r.c j, .pointer (some ⟨r.p, 0, none⟩), ⟨?_, HRD.out, HSD.out, ?_⟩, upd_top HU.out hgl HGC.out hcr hchg HC.out⟩
          · rw [HLM.out]; exact heap_put_at _ _ _ hl6
          · refine .some d r ((HK1.out.mono (by omega)).keep fun j hj => hchg.block j (HK1.out.lt j hj) fun e => ?_) e0.symm (by have := hcr g; have := HC5.out; omega) fun _ => rfl
            subst e; have := hcr j; have := HC5.out; omega
      · have d0 : decide ((0 : Int) < (its.length : Int)) = true := by simp; omega
        have H0 := hid h0
        have hpos : 0 < its.length := by omega
        have hposI : (0 : Int) < (its.length : Int) := by omega
        clear h0
        go_wp2_with fail
        go_ret
        have hchg := (Chg.refl (fun k => k = g) W5).put (g := g) (fun _ => rfl) (shfObj most m (.pointer (some ⟨q.p, 0, none⟩)))
        refine ⟨rfl, fun j => one g j + c5 j, .pointer (some ⟨q.p, 0, none⟩), ⟨?_, HRD.out, HSD.out, ?_⟩, upd_top HU.out hgl HGC.out (fun _ => Nat.le_refl _) hchg HC.out⟩
        · rw [HLM.out]; exact heap_put_at _ _ _ hl5
        · have hat1 : At d 1 W5 ⟨q.p, delL k xs, c5⟩ := At.of_node (q := ⟨q.p, delL k xs, c5⟩) HN.out (by have := H0.out; omega) h2 HG.out
          exact .some d ⟨q.p, delL k xs, c5⟩ (hat1.keep fun j hj => hchg.block j (hat1.lt j hj) fun e => by subst e; exact hj HC5.out) rfl HC5.out fun _ => rfl
theorem sh_del {B : Nat} {w0 : World} {most : Int} {xs : List It} {g : Nat} {W : World} (h : Sh B w0 most xs g W) (hn : xs.length ≤ 1000) (k : ByteArray) (hk : k.size ≤ maxLen) (b : Bool) (hb : (valueOf k xs).isSome = b) :
    Calls Try.prog 51 #[.pointer (some ⟨g, 0, none⟩), .string k] W fun e W' => e = .returned (.bool b) ∧ Sh B w0 most (delL k xs) g W' := by
  have hB := h.ge
  obtain ⟨h1, c, top, h2, h3⟩ := h
  refine (del_shf h2 k hk hn b hb).mono ?_
  rintro _ W' ⟨rfl, c', top', h4, h5⟩
  exact ⟨rfl, Sh.upd (xs := xs) h1 h3 hB h4 h5⟩
theorem two_del {B : Nat} {w0 : World} {most : Int} {xs ys : List It} {ga gb : Nat} {W : World} (h : Two B w0 most xs ys ga gb W) (hn : xs.length ≤ 1000) (k : ByteArray) (hk : k.size ≤ maxLen) (b : Bool) (hb : (valueOf k xs).isSome = b) :
    Calls Try.prog 51 #[.pointer (some ⟨ga, 0, none⟩), .string k] W fun e W' => e = .returned (.bool b) ∧ Two B w0 most (delL k xs) ys ga gb W' := by
  have hB := h.left.ge
  obtain ⟨h1, ca, ta, cb, tb, ha, hb', hd, hg⟩ := h
  refine (del_shf ha k hk hn b hb).mono ?_
  rintro _ W' ⟨rfl, c', t', h4, h5⟩
  refine ⟨rfl, h1.trans (h5.chg.below hB fun k hk => hg k (by omega)), c', t', cb, tb, h4, hb'.keep fun k hk => h5.chg.block k (hb'.lt k hk) (fun e => by have := hd k; omega), fun k => ?_, fun k hk => ?_⟩
  · rcases Nat.lt_or_ge k W.heap.size with e | e
    · have := h5.old k e; have := hd k; omega
    · have h0 : cb k = 0 := by
        rcases Nat.eq_zero_or_pos (cb k) with z | z
        · exact z
        · have := hb'.lt k (by omega); omega
      have := h5.le k
      omega
  · rcases Nat.lt_or_ge k W.heap.size with e | e
    · have := h5.old k e; exact hg k (by omega)
    · omega
end Go.Proofs.Ythknenhcnpgkcaa
