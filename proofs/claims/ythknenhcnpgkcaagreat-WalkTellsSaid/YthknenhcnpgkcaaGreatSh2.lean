/- Contracts of package shelf: put. -/
import Derived.Test.YthknenhcnpgkcaaGreatMn
import Derived.Test.YthknenhcnpgkcaaGreatMs
import Derived.Deep.RegionWith
import Derived.Deep.DeepCutAuto
import Derived.Deep.DeepMust
namespace Go.Proofs.YthknenhcnpgkcaaGreat
set_option linter.unusedVariables false
set_option linter.unusedSimpArgs false
open Go.RowKit
theorem insert_item (W : World) (v : Value) (n : Nat) (xs : List Value) (hi : Row W 59 2 v n xs) (hn : n ≤ 1000) (h1 : ∀ u ∈ xs, u.oneCell' = true) (i : Nat) (hin : i ≤ n)
    (a : Nat) (news : List Value) (hnl : news.length = 2) (hn1 : ∀ u ∈ news, u.oneCell' = true) (ha : W.heap[a]? = some (.cells news.toArray 59)) (hne : blk v a = 0) :
    Calls Tryz.prog 90 #[v, .int .i64 i, .slice (some ⟨a, 0, none⟩) 1 1] W fun en W' => ∃ v', en = .returned v' ∧ Row W' 59 2 v' (n + 1) (xs.take (i * 2) ++ news ++ xs.drop (i * 2)) ∧ Chg (fun k => blk v k ≠ 0) W W' ∧ (∀ k, k < W.heap.size → blk v' k ≤ blk v k) := by
  rcases Nat.eq_or_lt_of_le hin with rfl | hlt
  · refine (insert_item_end W v i xs hi hn a news hnl hn1 ha).mono ?_
    rintro en W' ⟨v', rfl, h2, h3, h4⟩
    refine ⟨v', rfl, ?_, h3, h4⟩
    rw [List.take_of_length_le (by rw [hi.1]; exact Nat.le_refl _), List.drop_of_length_le (by rw [hi.1]; exact Nat.le_refl _), List.append_nil]
    exact h2
  · obtain ⟨r, cap, rfl⟩ := Row.some_of hi (by omega)
    have hb : ∀ k, blk (.slice (some ⟨r, 0, none⟩) n cap) k = one r k := fun k => blk_at r 0 n cap k none
    have hch : ∀ W', Chg (fun k => k = r) W W' → Chg (fun k => blk (.slice (some ⟨r, 0, none⟩) n cap) k ≠ 0) W W' := fun W' h => h.mono fun k _ e => by subst e; rw [hb, one_self]; omega
    rcases Nat.lt_or_ge cap (n + 1) with hc | hc
    · refine (insert_item_grow W r cap n xs hi hn h1 i hlt hc a news hnl hn1 ha).mono ?_
      rintro en W' ⟨v', rfl, h2, h3, h4⟩
      exact ⟨v', rfl, h2, hch _ h3, fun k hk => by rw [hb]; exact h4 k hk⟩
    · have hne' : a ≠ r := by rw [hb] at hne; exact one_zero hne
      refine (insert_item_room W r cap n xs hi hn h1 i hlt hc a news hnl hn1 ha hne').mono ?_
      rintro en W' ⟨v', rfl, h2, h3, h4⟩
      exact ⟨v', rfl, h2, hch _ h3, fun k hk => by rw [hb]; exact h4 k hk⟩
theorem insert_ptr (W : World) (v : Value) (n : Nat) (xs : List Value) (hi : Row W 92 1 v n xs) (hn : n ≤ 1000) (h1 : ∀ u ∈ xs, u.oneCell' = true) (i : Nat) (hin : i ≤ n)
    (a : Nat) (news : List Value) (hnl : news.length = 1) (hn1 : ∀ u ∈ news, u.oneCell' = true) (ha : W.heap[a]? = some (.cells news.toArray 92)) (hne : blk v a = 0) :
    Calls Tryz.prog 91 #[v, .int .i64 i, .slice (some ⟨a, 0, none⟩) 1 1] W fun en W' => ∃ v', en = .returned v' ∧ Row W' 92 1 v' (n + 1) (xs.take (i * 1) ++ news ++ xs.drop (i * 1)) ∧ Chg (fun k => blk v k ≠ 0) W W' ∧ (∀ k, k < W.heap.size → blk v' k ≤ blk v k) := by
  rcases Nat.eq_or_lt_of_le hin with rfl | hlt
  · refine (insert_ptr_end W v i xs hi hn a news hnl hn1 ha).mono ?_
    rintro en W' ⟨v', rfl, h2, h3, h4⟩
    refine ⟨v', rfl, ?_, h3, h4⟩
    rw [List.take_of_length_le (by rw [hi.1]; exact Nat.le_refl _), List.drop_of_length_le (by rw [hi.1]; exact Nat.le_refl _), List.append_nil]
    exact h2
  · obtain ⟨r, cap, rfl⟩ := Row.some_of hi (by omega)
    have hb : ∀ k, blk (.slice (some ⟨r, 0, none⟩) n cap) k = one r k := fun k => blk_at r 0 n cap k none
    have hch : ∀ W', Chg (fun k => k = r) W W' → Chg (fun k => blk (.slice (some ⟨r, 0, none⟩) n cap) k ≠ 0) W W' := fun W' h => h.mono fun k _ e => by subst e; rw [hb, one_self]; omega
    rcases Nat.lt_or_ge cap (n + 1) with hc | hc
    · refine (insert_ptr_grow W r cap n xs hi hn h1 i hlt hc a news hnl hn1 ha).mono ?_
      rintro en W' ⟨v', rfl, h2, h3, h4⟩
      exact ⟨v', rfl, h2, hch _ h3, fun k hk => by rw [hb]; exact h4 k hk⟩
    · have hne' : a ≠ r := by rw [hb] at hne; exact one_zero hne
      refine (insert_ptr_room W r cap n xs hi hn h1 i hlt hc a news hnl hn1 ha hne').mono ?_
      rintro en W' ⟨v', rfl, h2, h3, h4⟩
      exact ⟨v', rfl, h2, hch _ h3, fun k hk => by rw [hb]; exact h4 k hk⟩
theorem ptrs_length (l : List Kid) : (ptrs l).length = l.length * 1 := by simp [ptrs]
theorem ptrs_one (l : List Kid) : ∀ u ∈ ptrs l, u.oneCell' = true := by
  intro u hu
  obtain ⟨q, _, rfl⟩ := List.mem_map.1 hu
  rfl
/-- What put says. -/
def PutPost (d lo : Nat) (W : World) (q : Kid) (it : It) (en : Ending) (W' : World) : Prop :=
  ∃ xs', Ins it q.xs xs' ∧ ((∃ c', en = .returned (.tuple #[.agg #[.string ⟨#[]⟩, .string ⟨#[]⟩], .pointer none]) ∧ At d lo W' ⟨q.p, xs', c'⟩ ∧ Upd W W' q.c c') ∨
    (∃ (r : Kid) (xs1 : List It) (c1 : Cnt) (up : It), en = .returned (.tuple #[.agg #[.string up.1, .string up.2], .pointer (some ⟨r.p, 0, none⟩)]) ∧ xs' = xs1 ++ up :: r.xs ∧ At d 3 W' ⟨q.p, xs1, c1⟩ ∧ At d 3 W' r ∧ Upd W W' q.c (fun k => c1 k + r.c k)))
/-- The node with the item in it, before it is asked whether it is too wide. -/
def Mid (d lo : Nat) (W : World) (q : Kid) (it : It) (B4 : Nat) (w : World) : Prop :=
  ∃ iv bv its kids c' xs', Node w q.p iv bv its kids c' ∧ Good d w its kids xs' ∧ Ins it q.xs xs' ∧ Upd W w q.c c' ∧ lo ≤ its.length ∧ its.length ≤ 7 ∧
    w.heap[B4]? = some (.cells #[.string ⟨#[]⟩, .string ⟨#[]⟩] 59) ∧ W.heap.size ≤ B4 ∧ c' B4 = 0
theorem Node.on {W W' : World} {p : Nat} {iv bv : Value} {its : List It} {kids : List Kid} {c : Cnt} (h : Node W p iv bv its kids c) (hlt : ∀ k, c k ≠ 0 → k < W.heap.size) (hb : Below W.heap.size W W') : Node W' p iv bv its kids c :=
  h.keep fun k hk => hb.block k (hlt k hk)
/-- The items of a node are others. -/
theorem Node.setItems {W W5 W6 : World} {p : Nat} {iv bv v' : Value} {its its' : List It} {kids : List Kid} {c : Cnt} (h : Node W p iv bv its kids c) (hlt : ∀ k, c k ≠ 0 → k < W.heap.size) (hch : Chg (fun k => blk iv k ≠ 0) W W5)
    (hrow : Row W5 59 2 v' its'.length (flat its')) (hold : ∀ k, k < W.heap.size → blk v' k ≤ blk iv k) (hW6 : Below W5.heap.size (put W5 p (.cells #[v', bv] 101)) W6) :
    Node W6 p v' bv its' kids (fun k => one p k + (blk v' k + (blk bv k + sumC kids k))) ∧ Upd W W6 c (fun k => one p k + (blk v' k + (blk bv k + sumC kids k))) ∧ (∀ k, k < W.heap.size → blk iv k = 0 → k ≠ p → W6.heap[k]? = W.heap[k]?) := by
  have hp := h.lt
  have hp5 : p < W5.heap.size := Nat.lt_of_lt_of_le hp hch.size
  have hb6 : ∀ k, k < W5.heap.size → k ≠ p → W6.heap[k]? = W5.heap[k]? := fun k hk hne => by rw [hW6.block k hk, heap_put_other _ _ _ _ hne]
  have hpp : W6.heap[p]? = some (.cells #[v', bv] 101) := by rw [hW6.block p hp5, heap_put_at _ _ _ hp5]
  have hsz6 : W5.heap.size ≤ W6.heap.size := by have := hW6.size; rwa [size_put] at this
  have hivp : blk iv p = 0 := by have h1 := h.cnt p; have h2 := h.le p; rw [one_self] at h1; omega
  have hkeep : ∀ k, k < W.heap.size → blk iv k = 0 → k ≠ p → W6.heap[k]? = W.heap[k]? := fun k hk h0 hne => by
    rw [hb6 k (Nat.lt_of_lt_of_le hk hch.size) hne, hch.block k hk (by omega)]
  have hle : ∀ k, one p k + (blk v' k + (blk bv k + sumC kids k)) ≤ 1 := by
    intro k
    rcases Nat.lt_or_ge k W.heap.size with hk | hk
    · have h1 := h.cnt k; have h2 := h.le k; have h3 := hold k hk; omega
    · have h1 := h.cnt k
      have h0 : c k = 0 := by
        rcases Nat.eq_zero_or_pos (c k) with e | e
        · exact e
        · exact absurd (hlt k (by omega)) (by omega)
      have := blk_le v' k; omega
  refine ⟨⟨hpp, hrow.keep fun k hk => ?_, h.below.keep fun k hk => ?_, fun k => rfl, hle⟩, ⟨⟨hW6.os.trans hch.os, hW6.tape.trans hch.tape, hW6.output.trans hch.output, Nat.le_trans hch.size hsz6, fun k hk hn => ?_⟩, hle, fun k hk => ?_⟩, hkeep⟩
  · have hk5 := hrow.lt hk
    refine hb6 k hk5 (fun e => ?_)
    subst e
    have := hold k hp; omega
  · have hkl := h.below.lt hk
    have h1 := h.cnt k; have h2 := h.le k
    exact hkeep k hkl (by omega) (fun e => by subst e; rw [one_self] at h1; omega)
  · have h1 := h.cnt k
    exact hkeep k hk (by omega) (fun e => by subst e; rw [one_self] at h1; omega)
  · have h1 := h.cnt k; have h3 := hold k hk; omega
theorem ins_flat (its : List It) (it : It) (at_ : Nat) : (flat its).take (at_ * 2) ++ [.string it.1, .string it.2] ++ (flat its).drop (at_ * 2) = flat (its.take at_ ++ it :: its.drop at_) := by
  rw [flat_append, flat_take, flat_drop, List.append_assoc]; rfl
theorem ins_length (its : List It) (it : It) (at_ : Nat) (h : at_ ≤ its.length) : (its.take at_ ++ it :: its.drop at_).length = its.length + 1 := by
  simp; omega
theorem ins_place {its : List It} {k : ByteArray} {at_ : Nat} {is : Bool} (h : Rises its) (hp : placeOf k its = (at_, is)) (hno : ∀ y ∈ its, y.1 ≠ k) :
    is = false ∧ (∀ a ∈ its.take at_, lt a.1 k = true) ∧ (∀ b ∈ its.drop at_, lt k b.1 = true) := by
  obtain ⟨A, B, rfl, hl, hA, hB⟩ := placeOf_split k its h
  rw [hp] at hl hB
  simp only at hl hB
  rw [List.take_left' hl, List.drop_left' hl]
  rcases hB with ⟨_, v, R, rfl⟩ | ⟨h1, h2⟩
  · exact absurd rfl (hno (k, v) (by simp))
  · exact ⟨h1, hA, h2⟩
theorem Node.later {W W' : World} {p : Nat} {iv bv : Value} {its : List It} {kids : List Kid} {c : Cnt} (h : Node W p iv bv its kids c) (hk : ∀ r ∈ kids, ∀ k, r.c k ≠ 0 → k < W.heap.size) (hb : Below W.heap.size W W') : Node W' p iv bv its kids c := by
  refine h.on (fun k hc => ?_) hb
  have h1 := h.cnt k
  by_cases e1 : one p k = 0
  · by_cases e2 : blk iv k = 0
    · by_cases e3 : blk bv k = 0
      · obtain ⟨r, hr, h'⟩ := sumC_ne (l := kids) (k := k) (by omega)
        exact hk r hr k h'
      · exact h.below.lt e3
    · exact h.items.lt e2
  · rw [one_ne e1]; exact h.lt
/-- What put says, its answer in one form. -/
def PutForm (d : Nat) (Wc : World) (r : Kid) (it : It) (s1 s2 : ByteArray) (pr : Value) (W5 : World) : Prop :=
  ∃ xs', Ins it r.xs xs' ∧ ((pr = .pointer none ∧ ∃ c', At d 3 W5 ⟨r.p, xs', c'⟩ ∧ Upd Wc W5 r.c c') ∨
    (∃ (rr : Kid) (xs1 : List It) (c1 : Cnt), pr = .pointer (some ⟨rr.p, 0, none⟩) ∧ xs' = xs1 ++ (s1, s2) :: rr.xs ∧ At d 3 W5 ⟨r.p, xs1, c1⟩ ∧ At d 3 W5 rr ∧ Upd Wc W5 r.c (fun k => c1 k + rr.c k)))
theorem PutPost.form {d : Nat} {Wc W5 : World} {r : Kid} {it : It} {en : Ending} (h : PutPost d 3 Wc r it en W5) : ∃ s1 s2 pr, en = .returned (.tuple #[.agg #[.string s1, .string s2], pr]) ∧ Hid (PutForm d Wc r it s1 s2 pr W5) := by
  obtain ⟨xs', hi, ⟨c', rfl, h1, h2⟩ | ⟨rr, xs1, c1, up, rfl, h1, h2, h3, h4⟩⟩ := h
  · exact ⟨_, _, _, rfl, xs', hi, .inl ⟨rfl, c', h1, h2⟩⟩
  · exact ⟨_, _, _, rfl, xs', hi, .inr ⟨rr, xs1, c1, rfl, h1, h2, h3, h4⟩⟩
theorem PutForm.size {d : Nat} {Wc : World} {r : Kid} {it : It} {s1 s2 : ByteArray} {pr : Value} {W5 : World} (h : PutForm d Wc r it s1 s2 pr W5) : Wc.heap.size ≤ W5.heap.size := by
  obtain ⟨xs', _, ⟨_, c', _, h⟩ | ⟨rr, xs1, c1, _, _, _, _, h⟩⟩ := h
  · exact h.chg.size
  · exact h.chg.size
theorem PutForm.bel {d : Nat} {W Wc : World} {r : Kid} {it : It} {s1 s2 : ByteArray} {pr : Value} {W5 : World} (h : PutForm d Wc r it s1 s2 pr W5) (hb : Below W.heap.size W Wc) : Below W.heap.size W Wc := hb
theorem PutForm.block {d : Nat} {Wc : World} {r : Kid} {it : It} {s1 s2 : ByteArray} {pr : Value} {W5 : World} (h : PutForm d Wc r it s1 s2 pr W5) {k : Nat} (hk : k < Wc.heap.size) (h0 : r.c k = 0) : W5.heap[k]? = Wc.heap[k]? := by
  obtain ⟨xs', _, ⟨_, c', _, h⟩ | ⟨rr, xs1, c1, _, _, _, _, h⟩⟩ := h
  · exact h.chg.block k hk (by omega)
  · exact h.chg.block k hk (by omega)
/-- Behind the child's put: what it came to, what stands in the block of 'up', at the world as it is then. -/
def Got4 (d : Nat) (W : World) (r : Kid) (it : It) (wc : World) (s8 s9 : Value) : Prop :=
  ∃ B8 s1 s2 pr c5, s8 = .pointer (some ⟨B8, 0, none⟩) ∧ s9 = pr ∧ wc.heap[B8]? = some (.cells #[.string s1, .string s2] 59) ∧ wc.heap[W.heap.size + 1]? = some (.cells #[.string ⟨#[]⟩, .string ⟨#[]⟩] 59) ∧
    W.heap.size ≤ B8 ∧ c5 (W.heap.size + 1) = 0 ∧ Upd W wc r.c c5 ∧ (∀ k, c5 k ≠ 0 → k < wc.heap.size) ∧
    ∃ xs', Ins it r.xs xs' ∧ ((pr = .pointer none ∧ At d 3 wc ⟨r.p, xs', c5⟩) ∨
      (∃ (rr : Kid) (xs1 : List It) (c1 : Cnt), pr = .pointer (some ⟨rr.p, 0, none⟩) ∧ xs' = xs1 ++ (s1, s2) :: rr.xs ∧ At d 3 wc ⟨r.p, xs1, c1⟩ ∧ At d 3 wc rr ∧ ∀ k, c5 k = c1 k + rr.c k))
theorem Got4.mk {d : Nat} {W Wc W5 W6 : World} {r : Kid} {it : It} {s1 s2 : ByteArray} {pr : Value} {B8 : Nat} (hform : PutForm d Wc r it s1 s2 pr W5) (hb : Below W.heap.size W Wc) (hrl : ∀ k, r.c k ≠ 0 → k < W.heap.size)
    (hos : W6.os = W5.os) (htp : W6.tape = W5.tape) (hout : W6.output = W5.output) (hsz : W5.heap.size ≤ W6.heap.size) (hk : ∀ k, k < W5.heap.size → k ≠ B8 → W6.heap[k]? = W5.heap[k]?) (hB : W.heap.size ≤ B8) (hB2 : B8 < Wc.heap.size ∨ W5.heap.size ≤ B8)
    (h8 : W6.heap[B8]? = some (.cells #[.string s1, .string s2] 59)) (h4 : Wc.heap[W.heap.size + 1]? = some (.cells #[.string ⟨#[]⟩, .string ⟨#[]⟩] 59)) (h48 : B8 ≠ W.heap.size + 1) : Got4 d W r it W6 (.pointer (some ⟨B8, 0, none⟩)) pr := by
  have hz : ∀ k, W.heap.size ≤ k → r.c k = 0 := fun k hk => by
    rcases Nat.eq_zero_or_pos (r.c k) with e | e
    · exact e
    · exact absurd (hrl k (by omega)) (by omega)
  have h4l := lt_of_heap h4
  have key : ∀ c5 : Cnt, Upd Wc W5 r.c c5 → (∀ k, c5 k ≠ 0 → k < W5.heap.size) → c5 B8 = 0 ∧ c5 (W.heap.size + 1) = 0 ∧ Upd W W6 r.c c5 ∧ (∀ k, c5 k ≠ 0 → W6.heap[k]? = W5.heap[k]?) ∧ W6.heap[W.heap.size + 1]? = some (.cells #[.string ⟨#[]⟩, .string ⟨#[]⟩] 59) := by
    intro c5 hu hl
    have h58 : c5 B8 = 0 := by
      rcases hB2 with h | h
      · have := hu.old B8 h; have := hz B8 hB; omega
      · rcases Nat.eq_zero_or_pos (c5 B8) with e | e
        · exact e
        · exact absurd (hl B8 (by omega)) (by omega)
    have h54 : c5 (W.heap.size + 1) = 0 := by have := hu.old _ h4l; have := hz (W.heap.size + 1) (by omega); omega
    have hu' := Upd.of_below hb hu
    have s5 := hu.chg.size
    refine ⟨h58, h54, ⟨⟨hos.trans hu'.chg.os, htp.trans hu'.chg.tape, hout.trans hu'.chg.output, Nat.le_trans hu'.chg.size hsz, fun k hk' hn => ?_⟩, hu.le, hu'.old⟩, fun k hk' => ?_, ?_⟩
    · rw [hk k (Nat.lt_of_lt_of_le hk' hu'.chg.size) (by omega)]; exact hu'.chg.block k hk' hn
    · exact hk k (hl k hk') (fun e => by subst e; omega)
    · rw [hk _ (by omega) (fun e => h48 e.symm), hu.chg.block _ h4l (by have := hz (W.heap.size + 1) (by omega); omega)]; exact h4
  obtain ⟨xs', hi, ⟨rfl, c5, hA, hu⟩ | ⟨rr, xs1, c1, rfl, hx, hA, hA2, hu⟩⟩ := hform
  · obtain ⟨k1, k2, k3, k4, k5⟩ := key c5 hu hA.lt
    exact ⟨B8, s1, s2, _, c5, rfl, rfl, h8, k5, hB, k2, k3, fun k hk' => Nat.lt_of_lt_of_le (hA.lt k hk') hsz, xs', hi, .inl ⟨rfl, hA.keep k4⟩⟩
  · have hl : ∀ k, c1 k + rr.c k ≠ 0 → k < W5.heap.size := fun k hk' => by
      by_cases e : c1 k = 0
      · exact hA2.lt k (by omega)
      · exact hA.lt k e
    obtain ⟨k1, k2, k3, k4, k5⟩ := key _ hu hl
    exact ⟨B8, s1, s2, _, _, rfl, rfl, h8, k5, hB, k2, k3, fun k hk' => Nat.lt_of_lt_of_le (hl k hk') hsz, xs', hi, .inr ⟨rr, xs1, c1, rfl, hx, hA.keep (fun k hk' => k4 k (by show c1 k + rr.c k ≠ 0; have : c1 k ≠ 0 := hk'; omega)), hA2.keep (fun k hk' => k4 k (by show c1 k + rr.c k ≠ 0; omega)), fun k => rfl⟩⟩
theorem Got4.mk2 {d : Nat} {W Wc W5 W6 : World} {r : Kid} {it : It} {s1 s2 : ByteArray} {pr : Value} {B8 : Nat} (hform : PutForm d Wc r it s1 s2 pr W5) (hb : Below W.heap.size W Wc) (hrl : ∀ k, r.c k ≠ 0 → k < W.heap.size)
    (hos : W6.os = W5.os) (htp : W6.tape = W5.tape) (hout : W6.output = W5.output) (hsz : W5.heap.size ≤ W6.heap.size) (hk : ∀ k, k < W5.heap.size → k ≠ B8 → W6.heap[k]? = W5.heap[k]?) (hB : W.heap.size ≤ B8) (hB2 : W5.heap.size ≤ B8)
    (h8 : W6.heap[B8]? = some (.cells #[.string s1, .string s2] 59)) (h4 : Wc.heap[W.heap.size + 1]? = some (.cells #[.string ⟨#[]⟩, .string ⟨#[]⟩] 59)) : Got4 d W r it W6 (.pointer (some ⟨B8, 0, none⟩)) pr :=
  Got4.mk hform hb hrl hos htp hout hsz hk hB (.inr hB2) h8 h4 (by have := lt_of_heap h4; have := hform.size; omega)
theorem ptrs_ins (L R : List Kid) (r r5 rr : Kid) (at_ : Nat) (hl : L.length = at_) (hp : r5.p = r.p) : (ptrs (L ++ r :: R)).take ((at_ + 1) * 1) ++ [.pointer (some ⟨rr.p, 0, none⟩)] ++ (ptrs (L ++ r :: R)).drop ((at_ + 1) * 1) = ptrs (L ++ r5 :: rr :: R) := by
  subst hl
  have e : ptrs (L ++ r :: R) = (ptrs L ++ [r.v]) ++ ptrs R := by simp [ptrs]
  have hlen : (ptrs L ++ [r.v]).length = (L.length + 1) * 1 := by simp [ptrs]
  rw [e, List.take_left' hlen, List.drop_left' hlen]
  simp [ptrs, Kid.v, hp]
theorem split_at {α : Type} : ∀ (l : List α) (i : Nat), i < l.length → ∃ L r R, l = L ++ r :: R ∧ L.length = i
  | x :: l, 0, _ => ⟨[], x, l, rfl, rfl⟩
  | x :: l, i + 1, h => by
    obtain ⟨L, r, R, e, hl⟩ := split_at l i (by simpa using h)
    exact ⟨x :: L, r, R, by rw [e]; rfl, by simp [hl]⟩
theorem insert_ptr_at (W : World) (v : Value) (n : Nat) (xs : List Value) (hi : Row W 92 1 v n xs) (hn : n ≤ 1000) (h1 : ∀ u ∈ xs, u.oneCell' = true) (i : Nat) (hin : i ≤ n) (j : Int) (hj : j = i)
    (a : Nat) (news : List Value) (hnl : news.length = 1) (hn1 : ∀ u ∈ news, u.oneCell' = true) (ha : W.heap[a]? = some (.cells news.toArray 92)) (hne : blk v a = 0) :
    Calls Tryz.prog 91 #[v, .int .i64 j, .slice (some ⟨a, 0, none⟩) 1 1] W fun en W' => ∃ v', en = .returned v' ∧ Row W' 92 1 v' (n + 1) (xs.take (i * 1) ++ news ++ xs.drop (i * 1)) ∧ Chg (fun k => blk v k ≠ 0) W W' ∧ (∀ k, k < W.heap.size → blk v' k ≤ blk v k) := by
  subst hj; exact insert_ptr W v n xs hi hn h1 i hin a news hnl hn1 ha hne
theorem Good.kids_lt {d : Nat} {W : World} {its xs : List It} {kids : List Kid} (h : Good d W its kids xs) : ∀ r ∈ kids, ∀ k, r.c k ≠ 0 → k < W.heap.size := by
  cases d with
  | zero => obtain ⟨rfl, _⟩ := h; intro r hr; cases hr
  | succ d => exact fun r hr => (h.2.2 r hr).lt
theorem Good.mem {d : Nat} {W : World} {its xs : List It} {kids : List Kid} (h : Good d W its kids xs) {i : It} (hi : i ∈ its) : i ∈ xs := by
  cases d with
  | zero => obtain ⟨_, rfl⟩ := h; exact hi
  | succ d => obtain ⟨h1, rfl, _⟩ := h; exact (weave_items _ _ _ h1).subset hi
set_option maxRecDepth 100000 in
set_option maxHeartbeats 0 in
theorem put_is : ∀ (d lo : Nat) (W : World) (q : Kid) (it : It), At d lo W q → Rises q.xs → Small q.xs → it.1.size ≤ maxLen → it.2.size ≤ maxLen → (∀ y ∈ q.xs, y.1 ≠ it.1) → lo ≤ 3 →
    Calls Tryz.prog 69 #[.pointer (some ⟨q.p, 0, none⟩), .agg #[.string it.1, .string it.2]] W (PutPost d lo W q it) := by
  intro d
  induction d using Nat.strongRecOn with
  | _ d ih =>
  intro lo W q it h hr hs h1 h2 hno hlo
  have hlt := h.lt
  obtain ⟨iv, bv, its, kids, hN, hl1, hl2, hG⟩ := h.node
  have hri := hG.rises hr
  obtain ⟨ao, cp, rfl⟩ := owns_slice hN.items
  obtain ⟨bo, cb, rfl⟩ := owns_slice hN.below
  obtain ⟨kn, hkn⟩ : ∃ kn, kn = kids.length := ⟨_, rfl⟩
  rw [← hkn] at hN
  obtain ⟨at_, is, hp⟩ : ∃ a b, placeOf it.1 its = (a, b) := ⟨_, _, rfl⟩
  have hat := placeOf_le it.1 its
  rw [hp] at hat
  obtain ⟨rfl, hA, hB⟩ := ins_place hri hp (fun y hy => hno y (hG.mem hy))
  have HA := hid hA
  have HB := hid hB
  have HKN := hid hkn
  have hon := hid (fun W' (hB : Below W.heap.size W W') => hN.on hlt hB)
  have hsi : ∀ i ∈ its, i.1.size ≤ maxLen := fun i hi => (hs i (hG.mem hi)).1
  obtain ⟨lf, hlf⟩ : ∃ b, ((kn : Int) == 0) = b := ⟨_, rfl⟩
  have HS := hid hsi
  have HP := hid hp
  have hpl := hN.lt
  have hc := fun i => cell_of_row W q.p i _ _ (0, 0) hN.heap
  have HH := hid h
  have HR := hid hr
  have HG := hid hG
  have HLT := hid hlt
  have HNO := hid hno
  have HSM := hid hs
  have HN := hid hN
  have HRI := hid hri
  have IH := hid ih
  have HLF := hid hlf
  have hfr : ∀ a, W.heap.size ≤ a → blk (.slice ao its.length cp) a = 0 := fun a ha => by
    rcases Nat.eq_zero_or_pos (blk (.slice ao its.length cp) a) with e | e
    · exact e
    · have := hN.items.lt (k := a) (by omega); omega
  have hbp : blk (.slice ao its.length cp) q.p = 0 := by have h1 := hN.cnt q.p; have h2 := hN.le q.p; rw [one_self] at h1; omega
  have HST := hid (show ∀ Wc W5, Below W.heap.size W Wc → Chg (fun k => blk (.slice ao its.length cp) k ≠ 0) Wc W5 → W5.heap[q.p]? = some (.cells #[.slice ao its.length cp, .slice bo kn cb] 101) from fun Wc W5 hb hc => by
    rw [hc.block q.p (Nat.lt_of_lt_of_le hpl hb.size) (by rw [hbp]; simp)]; exact (hN.on hlt hb).heap)
  have HZ := hid (show ∀ Wc W5 v5 n5 xs5, Below W.heap.size W Wc → Chg (fun k => blk (.slice ao its.length cp) k ≠ 0) Wc W5 → Row W5 59 2 v5 n5 xs5 → (∀ k, k < Wc.heap.size → blk v5 k ≤ blk (.slice ao its.length cp) k) →
      ∀ W6 its', n5 = its'.length → xs5 = flat its' → Below W5.heap.size (put W5 q.p (.cells #[v5, .slice bo kn cb] 101)) W6 →
        Node W6 q.p v5 (.slice bo kn cb) its' kids (fun k => one q.p k + (blk v5 k + (blk (.slice bo kn cb) k + sumC kids k))) ∧ Upd W W6 q.c (fun k => one q.p k + (blk v5 k + (blk (.slice bo kn cb) k + sumC kids k))) ∧ (∀ k, k < W.heap.size → blk (.slice ao its.length cp) k = 0 → k ≠ q.p → W6.heap[k]? = W.heap[k]?) from by
    intro Wc W5 v5 n5 xs5 hb hc hr ho W6 its' e1 e2 h6
    subst e1 e2
    exact hN.setItems hlt ((Chg.of_below (S := fun k => blk (.slice ao its.length cp) k ≠ 0) hb).trans hc (fun _ _ h => h)) hr (fun k hk => ho k (Nat.lt_of_lt_of_le hk hb.size)) h6)
  have HF := hid hfr
  have HBP := hid hbp
  clear hfr hbp hA hB hkn
  clear h hr hG hlt hno hs hN hri hp ih hsi hlf
  go_enter Tryz.func69, Tryz.ntmps69
  go_upto_if 20 with (first | (go_at_call 88; ((with_reducible refine (place_is _ q.p _ _ its it.1 (hon.out _ (by repeat' (first | exact Below.refl _ _ | with_reducible assumption | omega | with_reducible refine below_put_fut ?_ ?_ _ | with_reducible refine below_to_put ?_ | with_reducible refine Below.alloc ?_ ?_ _ | with_reducible refine Below.fut ?_ ?_ _ | with_reducible refine Below.drew ?_ | with_reducible refine Below.setCell ?_ ?_ _ | with_reducible refine Below.atPut ?_ ?_ _ | (simp [go_sem]; done) | (simp [go_sem]; omega)))).heap (hon.out _ (by repeat' (first | exact Below.refl _ _ | with_reducible assumption | omega | with_reducible refine below_put_fut ?_ ?_ _ | with_reducible refine below_to_put ?_ | with_reducible refine Below.alloc ?_ ?_ _ | with_reducible refine Below.fut ?_ ?_ _ | with_reducible refine Below.drew ?_ | with_reducible refine Below.setCell ?_ ?_ _ | with_reducible refine Below.atPut ?_ ?_ _ | (simp [go_sem]; done) | (simp [go_sem]; omega)))).items (by omega) h1 HS.out at_ false HP.out).mono ?_)); rintro _ _ ⟨rfl, u1, rfl⟩) | (go_at_call 89; ((with_reducible refine (leaf_is _ q.p _ _ _ _ (hon.out _ (by repeat' (first | exact Below.refl _ _ | with_reducible assumption | omega | with_reducible refine below_put_fut ?_ ?_ _ | with_reducible refine below_to_put ?_ | with_reducible refine Below.alloc ?_ ?_ _ | with_reducible refine Below.fut ?_ ?_ _ | with_reducible refine Below.drew ?_ | with_reducible refine Below.setCell ?_ ?_ _ | with_reducible refine Below.atPut ?_ ?_ _ | (simp [go_sem]; done) | (simp [go_sem]; omega)))).heap lf HLF.out).mono ?_)); rintro _ _ ⟨rfl, u2, rfl⟩))
  go_cut [5] (fun s5 wc => s5 = .pointer none ∧ Mid d lo W q it (W.heap.size + 1) wc)
  case first =>
    cases d with
    | zero =>
      obtain ⟨rfl, hx⟩ : kids = [] ∧ q.xs = its := HG.out
      obtain rfl : kn = 0 := HKN.out
      obtain rfl : true = lf := HLF.out
      have HX := hid hx
      clear hx
      go_wp2
      go_region_with (go_at_call 90; go_must (((with_reducible refine (insert_item _ _ _ _ (hon.out _ (by repeat' (first | exact Below.refl _ _ | with_reducible assumption | omega | with_reducible refine below_put_fut ?_ ?_ _ | with_reducible refine below_to_put ?_ | with_reducible refine Below.alloc ?_ ?_ _ | with_reducible refine Below.fut ?_ ?_ _ | with_reducible refine Below.drew ?_ | with_reducible refine Below.setCell ?_ ?_ _ | with_reducible refine Below.atPut ?_ ?_ _ | (simp [go_sem]; done) | (simp [go_sem]; omega)))).items (by omega) (flat_one _) at_ hat _ [.string it.1, .string it.2] rfl (by simp [Value.oneCell']) (by repeat' (first | rfl | assumption | (with_reducible refine (heap_drew_eq _ _).trans ?_) | (refine (Fut.heap _ _ ?_).trans ?_ ; focus (first | assumption | omega | (simp [go_sem]; done) | (simp [go_sem]; omega))) | (refine (heap_put_at _ _ _ ?_).trans ?_ ; focus (first | assumption | omega | (simp [go_sem]; done) | (simp [go_sem]; omega))) | (refine (heap_put_other _ _ _ _ ?_).trans ?_ ; focus (first | assumption | omega | (simp [go_sem]; done) | (simp [go_sem]; omega))) | (refine (heap_alloc_other _ _ _ ?_).trans ?_ ; focus (first | assumption | omega | (simp [go_sem]; done) | (simp [go_sem]; omega))) | (refine (heap_alloc_at _ _ _ ?_).trans ?_ ; focus (first | assumption | omega | (simp [go_sem]; done) | (simp [go_sem]; omega))) | (simp [go_sem]; done) | (simp [go_sem]; omega))) (HF.out _ (by omega))).mono ?_)); rintro _ W5 ⟨v5, rfl, hr5, hch5, ho5⟩; have hp5 := HST.out _ _ (by repeat' (first | exact Below.refl _ _ | with_reducible assumption | omega | with_reducible refine below_put_fut ?_ ?_ _ | with_reducible refine below_to_put ?_ | with_reducible refine Below.alloc ?_ ?_ _ | with_reducible refine Below.fut ?_ ?_ _ | with_reducible refine Below.drew ?_ | with_reducible refine Below.setCell ?_ ?_ _ | with_reducible refine Below.atPut ?_ ?_ _ | (simp [go_sem]; done) | (simp [go_sem]; omega))) hch5; have hl5 := lt_of_heap hp5; have hz5 := HZ.out _ _ _ _ _ (by repeat' (first | exact Below.refl _ _ | with_reducible assumption | omega | with_reducible refine below_put_fut ?_ ?_ _ | with_reducible refine below_to_put ?_ | with_reducible refine Below.alloc ?_ ?_ _ | with_reducible refine Below.fut ?_ ?_ _ | with_reducible refine Below.drew ?_ | with_reducible refine Below.setCell ?_ ?_ _ | with_reducible refine Below.atPut ?_ ?_ _ | (simp [go_sem]; done) | (simp [go_sem]; omega))) hch5 hr5 ho5; have hm5 := (hch5.block (W.heap.size + 1) (by first | assumption | (simp [go_sem]; done) | (simp [go_sem]; omega)) (by rw [HF.out _ (by omega)]; simp)).trans (show _ = some (.cells #[.string ⟨#[]⟩, .string ⟨#[]⟩] 59) from (by repeat' (first | rfl | assumption | (with_reducible refine (heap_drew_eq _ _).trans ?_) | (refine (Fut.heap _ _ ?_).trans ?_ ; focus (first | assumption | omega | (simp [go_sem]; done) | (simp [go_sem]; omega))) | (refine (heap_put_at _ _ _ ?_).trans ?_ ; focus (first | assumption | omega | (simp [go_sem]; done) | (simp [go_sem]; omega))) | (refine (heap_put_other _ _ _ _ ?_).trans ?_ ; focus (first | assumption | omega | (simp [go_sem]; done) | (simp [go_sem]; omega))) | (refine (heap_alloc_other _ _ _ ?_).trans ?_ ; focus (first | assumption | omega | (simp [go_sem]; done) | (simp [go_sem]; omega))) | (refine (heap_alloc_at _ _ _ ?_).trans ?_ ; focus (first | assumption | omega | (simp [go_sem]; done) | (simp [go_sem]; omega))) | (simp [go_sem]; done) | (simp [go_sem]; omega)))); obtain ⟨ai, ci, rfl⟩ := owns_slice hr5; rw [← put_self hp5]))
      all_goals
        obtain ⟨n1, n2, n3⟩ := hz5 _ (its.take at_ ++ it :: its.drop at_) (ins_length its it at_ hat).symm (ins_flat its it at_) (Below.refl _ _)
        have hc4 : q.c (W.heap.size + 1) = 0 := by
          rcases Nat.eq_zero_or_pos (q.c (W.heap.size + 1)) with e | e
          · exact e
          · have := HLT.out (W.heap.size + 1) (by omega); omega
        have hcn := HN.out.cnt (W.heap.size + 1)
        have ho4 := ho5 (W.heap.size + 1) (by first | assumption | (simp [go_sem]; done) | (simp [go_sem]; omega))
        have hil := ins_length its it at_ hat
        go_wp2_with fail
        go_meet
        refine ⟨rfl, _, _, its.take at_ ++ it :: its.drop at_, [], _, its.take at_ ++ it :: its.drop at_, n1, ⟨rfl, rfl⟩, ⟨its.take at_, its.drop at_, by rw [HX.out, List.take_append_drop], rfl, HA.out, HB.out⟩, n2, by omega, by omega, ?_, by omega, ?_⟩
        · rw [heap_put_other _ _ _ _ (by omega)]; exact hm5
        · have hz := HF.out (W.heap.size + 1) (by omega)
          simp only [sumC] at hcn ⊢
          omega
    | succ d =>
      obtain ⟨hkl, hx, hkids⟩ : kids.length = its.length + 1 ∧ q.xs = weave Kid.xs kids its ∧ ∀ r ∈ kids, At d 3 W r := HG.out
      obtain rfl : lf = false := by have hk := HKN.out; rw [← HLF.out, beq_eq_false_iff_ne]; omega
      obtain ⟨L, r, R, rfl, hLl⟩ := split_at kids at_ (by omega)
      have hws := weave_split Kid.xs L (its.take at_) r R (its.drop at_) (by simp; omega) (by simp at hkl ⊢; omega)
      rw [List.take_append_drop, ← hx] at hws
      have hrx := HR.out
      rw [hws] at hrx
      obtain ⟨hr1, hr2, hr3⟩ := Rises.append.1 hrx
      obtain ⟨hr4, hr5, hr6⟩ := Rises.append.1 hr2
      have hPl := wpre_less Kid.xs it.1 L (its.take at_) (by simp; omega) hr1 HA.out
      have hQl := wpost_more Kid.xs it.1 (its.drop at_) R hr5 HB.out
      have hrm : ∀ y ∈ r.xs, y ∈ q.xs := fun y hy => by rw [hws]; simp [hy]
      have HWR := hid (fun xs' (hi : Ins it r.xs xs') => (show Ins it q.xs (wpre Kid.xs L (its.take at_) ++ (xs' ++ wpost Kid.xs (its.drop at_) R)) by rw [hws]; exact hi.wrap hPl hQl))
      have hrk : At d 3 W r := hkids r (by simp)
      have hrlt := hrk.lt
      obtain ⟨rb, cb', hv, _, hrl⟩ := World.ownsRow.form HN.out.below (by omega)
      obtain rfl : bo = some ⟨rb, 0, none⟩ := by injection hv
      have hcb : W.cell? ⟨rb, at_, none⟩ = some (.pointer (some ⟨r.p, 0, none⟩)) := by
        have hbl := HN.out.below
        rw [← HKN.out] at hbl
        rw [hbl.cellAt at_ (by have := HKN.out; omega)]
        simp [ptrs, ← hLl, Kid.v]
      have HK := hid (fun Wc (hb : Below W.heap.size W Wc) => hrk.keep (W' := Wc) (fun k hk => hb.block k (hrlt k hk)))
      have HR4 := hid hr4
      have HS4 := hid (show Small r.xs from fun i hi => HSM.out i (hrm i hi))
      have HN4 := hid (show ∀ y ∈ r.xs, y.1 ≠ it.1 from fun y hy => HNO.out y (hrm y hy))
      have HKL := hid hkl
      have HX := hid hx
      have HWS := hid hws
      have HLL := hid hLl
      have HKD := hid hkids
      have HRL := hid hrlt
      have HRZ := hid (show ∀ k, W.heap.size ≤ k → r.c k = 0 from fun k hk => by
        rcases Nat.eq_zero_or_pos (r.c k) with e | e
        · exact e
        · exact absurd (hrlt k (by omega)) (by omega))
      clear hkl hx hws hrx hr1 hr2 hr3 hr4 hr5 hr6 hPl hQl hrm hrk hrlt hv hLl hkids
      have hat2 : at_ < kn := by rw [HKN.out, HKL.out]; omega
      go_wp2
      go_cut [8, 9] (fun s8 s9 wc => Got4 d W r it wc s8 s9)
      case first =>
        go_region_with (go_at_call 69; ((with_reducible refine (IH.out d (by omega) 3 _ r it (HK.out _ (by repeat' (first | exact Below.refl _ _ | with_reducible assumption | omega | with_reducible refine below_put_fut ?_ ?_ _ | with_reducible refine below_to_put ?_ | with_reducible refine Below.alloc ?_ ?_ _ | with_reducible refine Below.fut ?_ ?_ _ | with_reducible refine Below.drew ?_ | with_reducible refine Below.setCell ?_ ?_ _ | with_reducible refine Below.atPut ?_ ?_ _ | (simp [go_sem]; done) | (simp [go_sem]; omega)))) HR4.out HS4.out h1 h2 HN4.out (by omega)).mono ?_)); rintro en W5 hpost; obtain ⟨s1, s2, pr, rfl, hform⟩ := hpost.form; clear hpost; have hs5 := hform.out.size; have hbw := hid (PutForm.bel (W := W) hform.out (by repeat' (first | exact Below.refl _ _ | with_reducible assumption | omega | with_reducible refine below_put_fut ?_ ?_ _ | with_reducible refine below_to_put ?_ | with_reducible refine Below.alloc ?_ ?_ _ | with_reducible refine Below.fut ?_ ?_ _ | with_reducible refine Below.drew ?_ | with_reducible refine Below.setCell ?_ ?_ _ | with_reducible refine Below.atPut ?_ ?_ _ | (simp [go_sem]; done) | (simp [go_sem]; omega)))); first | (have hA0 : W5.heap[W.heap.size + 1 + 1 + u1.n + u2.n]? = some (.cells #[.string ⟨#[]⟩, .string ⟨#[]⟩] 59) := (hform.out.block (by first | assumption | (simp [go_sem]; done) | (simp [go_sem]; omega)) (HRZ.out _ (by omega))).trans (by repeat' (first | rfl | assumption | (with_reducible refine (heap_drew_eq _ _).trans ?_) | (refine (Fut.heap _ _ ?_).trans ?_ ; focus (first | assumption | omega | (simp [go_sem]; done) | (simp [go_sem]; omega))) | (refine (heap_put_at _ _ _ ?_).trans ?_ ; focus (first | assumption | omega | (simp [go_sem]; done) | (simp [go_sem]; omega))) | (refine (heap_put_other _ _ _ _ ?_).trans ?_ ; focus (first | assumption | omega | (simp [go_sem]; done) | (simp [go_sem]; omega))) | (refine (heap_alloc_other _ _ _ ?_).trans ?_ ; focus (first | assumption | omega | (simp [go_sem]; done) | (simp [go_sem]; omega))) | (refine (heap_alloc_at _ _ _ ?_).trans ?_ ; focus (first | assumption | omega | (simp [go_sem]; done) | (simp [go_sem]; omega))) | (simp [go_sem]; done) | (simp [go_sem]; omega))); have hl0 := lt_of_heap hA0; rw [← put_self hA0]) | skip)
        all_goals
          go_wp2_with fail
          go_meet
          first
            | exact Got4.mk (B8 := W.heap.size + 1 + 1 + u1.n + u2.n) hform hbw.out HRL.out rfl rfl rfl (by rw [size_put]; exact Nat.le_refl _) (fun k _ hne => heap_put_other _ _ _ _ hne) (by omega) (.inl (by first | assumption | (simp [go_sem]; done) | (simp [go_sem]; omega))) (heap_put_at _ _ _ hl0) (by repeat' (first | rfl | assumption | (with_reducible refine (heap_drew_eq _ _).trans ?_) | (refine (Fut.heap _ _ ?_).trans ?_ ; focus (first | assumption | omega | (simp [go_sem]; done) | (simp [go_sem]; omega))) | (refine (heap_put_at _ _ _ ?_).trans ?_ ; focus (first | assumption | omega | (simp [go_sem]; done) | (simp [go_sem]; omega))) | (refine (heap_put_other _ _ _ _ ?_).trans ?_ ; focus (first | assumption | omega | (simp [go_sem]; done) | (simp [go_sem]; omega))) | (refine (heap_alloc_other _ _ _ ?_).trans ?_ ; focus (first | assumption | omega | (simp [go_sem]; done) | (simp [go_sem]; omega))) | (refine (heap_alloc_at _ _ _ ?_).trans ?_ ; focus (first | assumption | omega | (simp [go_sem]; done) | (simp [go_sem]; omega))) | (simp [go_sem]; done) | (simp [go_sem]; omega))) (by omega)
            | exact Got4.mk2 (B8 := W5.heap.size) hform hbw.out HRL.out rfl rfl rfl (by simp) (fun k hk _ => heap_alloc_other _ _ _ hk) (by have := hbw.out.size; omega) (Nat.le_refl _) (heap_alloc_at _ _ _ rfl) (by repeat' (first | rfl | assumption | (with_reducible refine (heap_drew_eq _ _).trans ?_) | (refine (Fut.heap _ _ ?_).trans ?_ ; focus (first | assumption | omega | (simp [go_sem]; done) | (simp [go_sem]; omega))) | (refine (heap_put_at _ _ _ ?_).trans ?_ ; focus (first | assumption | omega | (simp [go_sem]; done) | (simp [go_sem]; omega))) | (refine (heap_put_other _ _ _ _ ?_).trans ?_ ; focus (first | assumption | omega | (simp [go_sem]; done) | (simp [go_sem]; omega))) | (refine (heap_alloc_other _ _ _ ?_).trans ?_ ; focus (first | assumption | omega | (simp [go_sem]; done) | (simp [go_sem]; omega))) | (refine (heap_alloc_at _ _ _ ?_).trans ?_ ; focus (first | assumption | omega | (simp [go_sem]; done) | (simp [go_sem]; omega))) | (simp [go_sem]; done) | (simp [go_sem]; omega)))
      case rest =>
        obtain ⟨B8, s1, s2, pr, c5, rfl, rfl, h8, h4, hB8, h54, hu5, hl5, xs', hins, hcase⟩ := hcut
        have hs5 := hu5.chg.size
        have hrp : r.c q.p = 0 := by
          have e1 := HN.out.cnt q.p; have e2 := HN.out.le q.p; have e3 := HN.out.kid (q := r) (by simp) q.p
          rw [one_self, sumC_mid] at e1; omega
        have hp5 : wc.heap[q.p]? = some (.cells #[.slice ao its.length cp, .slice (some ⟨rb, 0, none⟩) kn cb] 101) := by
          rw [hu5.chg.block q.p hpl (by omega)]; exact HN.out.heap
        have hl4 := lt_of_heap h4
        have HI := hid hins
        have HU := hid hu5
        have HL5 := hid hl5
        have H54 := hid h54
        have H4 := hid h4
        have HRP := hid hrp
        clear hins hu5 hl5 h54 h4 hrp
        rcases hcase with ⟨rfl, hat5⟩ | ⟨rr, xs1, c1, rfl, hxs, hat5, hatr, hc5⟩
        · have HA5 := hid hat5
          clear hat5 hp5 h8
          go_wp2_with fail
          go_meet
          obtain ⟨n1, n2, n3⟩ := HN.out.setKid (r5 := ⟨r.p, xs', c5⟩) HLT.out HU.out rfl (fun k => Nat.le_refl _)
          have hcz : q.c (W.heap.size + 1) = 0 := by
            rcases Nat.eq_zero_or_pos (q.c (W.heap.size + 1)) with e | e
            · exact e
            · have := HLT.out (W.heap.size + 1) (by omega); omega
          refine ⟨rfl, _, _, its, L ++ ⟨r.p, xs', c5⟩ :: R, _, _, n1, ⟨by have := HKL.out; simpa using this, rfl, fun s hs => ?_⟩, ?_, n2, hl1, by omega, H4.out, by omega, ?_⟩
          · rcases List.mem_append.1 hs with hs | hs
            · exact (HKD.out s (by simp [hs])).keep fun k hk => n3 k ((HKD.out s (by simp [hs])).lt k hk) (by
                have e1 := HN.out.cnt k; have e2 := HN.out.le k; have e3 := sumC_mem hs k; rw [sumC_mid] at e1; omega)
            · rcases List.mem_cons.1 hs with rfl | hs
              · exact HA5.out
              · exact (HKD.out s (by simp [hs])).keep fun k hk => n3 k ((HKD.out s (by simp [hs])).lt k hk) (by
                  have e1 := HN.out.cnt k; have e2 := HN.out.le k; have e3 := sumC_mem hs k; rw [sumC_mid] at e1; omega)
          · have hw := weave_split Kid.xs L (its.take at_) ⟨r.p, xs', c5⟩ R (its.drop at_) (by have := HLL.out; simp; omega) (by have := HLL.out; have := HKL.out; simp at this ⊢; omega)
            rw [List.take_append_drop] at hw
            rw [hw]
            exact HWR.out xs' HI.out
          · have e1 := HN.out.cnt (W.heap.size + 1); have e4 := H54.out
            rw [sumC_mid] at e1 ⊢
            show one q.p _ + (_ + (_ + (_ + (c5 _ + _)))) = 0
            omega
        · have hzc : ∀ k, W.heap.size ≤ k → q.c k = 0 := fun k hk => by
            rcases Nat.eq_zero_or_pos (q.c k) with e | e
            · exact e
            · exact absurd (HLT.out k (by omega)) (by omega)
          have hbvz : ∀ k, W.heap.size ≤ k → blk (.slice (some ⟨rb, 0, none⟩) kn cb) k = 0 := fun k hk => by have := HN.out.cnt k; have := hzc k hk; omega
          have hrb1 : blk (.slice (some ⟨rb, 0, none⟩) kn cb) rb = 1 := by rw [blk_at _ _ _ _ _ none, one_self]
          have hrbp : rb ≠ q.p := fun e => by
            have e1 := HN.out.cnt q.p; have e2 := HN.out.le q.p; rw [one_self] at e1; rw [← e] at e1 e2; omega
          have hrbi : blk (.slice ao its.length cp) rb = 0 := by have e1 := HN.out.cnt rb; have e2 := HN.out.le rb; omega
          have hrbr : r.c rb = 0 := by have e1 := HN.out.cnt rb; have e2 := HN.out.le rb; rw [sumC_mid] at e1; omega
          have hivr : Row wc 59 2 (.slice ao its.length cp) its.length (flat its) := HN.out.items.keep fun k hk => HU.out.chg.block k (HN.out.items.lt hk) (by have e1 := HN.out.cnt k; have e2 := HN.out.le k; rw [sumC_mid] at e1; omega)
          have hbl := HN.out.below
          rw [← HKN.out] at hbl
          have HBR := hid (fun (W' : World) (h : W'.heap[rb]? = wc.heap[rb]?) => (hbl.keep (W' := W') fun k hk => by
            rw [blk_at _ _ _ _ _ none] at hk
            have := one_ne hk; subst this
            rw [h]; exact HU.out.chg.block k hrl (by omega)))
          have HIV := hid (fun (Wc : World) (hb : Below wc.heap.size wc Wc) => owns_below hivr hb)
          have HBVZ := hid hbvz
          have HRBI := hid hrbi
          have HBP2 := hid (show blk (.slice (some ⟨rb, 0, none⟩) kn cb) q.p = 0 by rw [blk_at _ _ _ _ _ none]; unfold one; rw [if_neg (fun e => hrbp e.symm)])
          have hc5p := fun i => cell_of_row wc q.p i _ _ (0, 0) hp5
          have hc8p := fun i => cell_of_row wc B8 i _ _ (0, 0) h8
          have hpl5 := lt_of_heap hp5
          have hl8 := lt_of_heap h8
          have hrl5 : rb < wc.heap.size := Nat.lt_of_lt_of_le hrl hs5
          have hknl : kn ≤ 7 := by rw [HKN.out, HKL.out]; omega
          have hbp4 : W.heap.size + 1 ≠ q.p := by omega
          have HXS := hid hxs
          have HA5 := hid hat5
          have HAR := hid hatr
          have HC5 := hid hc5
          have HZC := hid hzc
          have HP5 := hid hp5
          clear hzc hbvz hrb1 hrbi hrbr hivr hbl hxs hat5 hatr hc5 h8
          go_wp2_with fail
          go_region_with (go_at_call 90; go_must (((with_reducible refine (insert_item _ _ _ _ (HIV.out _ (by repeat' (first | exact Below.refl _ _ | with_reducible assumption | omega | with_reducible refine below_put_fut ?_ ?_ _ | with_reducible refine below_to_put ?_ | with_reducible refine Below.alloc ?_ ?_ _ | with_reducible refine Below.fut ?_ ?_ _ | with_reducible refine Below.drew ?_ | with_reducible refine Below.setCell ?_ ?_ _ | with_reducible refine Below.atPut ?_ ?_ _ | (simp [go_sem]; done) | (simp [go_sem]; omega)))) (by omega) (flat_one _) at_ hat _ [.string s1, .string s2] rfl (by simp [Value.oneCell']) (by repeat' (first | rfl | assumption | (with_reducible refine (heap_drew_eq _ _).trans ?_) | (refine (Fut.heap _ _ ?_).trans ?_ ; focus (first | assumption | omega | (simp [go_sem]; done) | (simp [go_sem]; omega))) | (refine (heap_put_at _ _ _ ?_).trans ?_ ; focus (first | assumption | omega | (simp [go_sem]; done) | (simp [go_sem]; omega))) | (refine (heap_put_other _ _ _ _ ?_).trans ?_ ; focus (first | assumption | omega | (simp [go_sem]; done) | (simp [go_sem]; omega))) | (refine (heap_alloc_other _ _ _ ?_).trans ?_ ; focus (first | assumption | omega | (simp [go_sem]; done) | (simp [go_sem]; omega))) | (refine (heap_alloc_at _ _ _ ?_).trans ?_ ; focus (first | assumption | omega | (simp [go_sem]; done) | (simp [go_sem]; omega))) | (simp [go_sem]; done) | (simp [go_sem]; omega))) (HF.out _ (by omega))).mono ?_)); rintro _ W7 ⟨v7, rfl, hr7, hch7, ho7⟩; have hp7 := (hch7.block q.p (by first | assumption | (simp [go_sem]; done) | (simp [go_sem]; omega)) (by rw [HBP.out]; simp)).trans (show _ = some (.cells #[.slice ao its.length cp, .slice (some ⟨rb, 0, none⟩) kn cb] 101) from (by repeat' (first | rfl | assumption | (with_reducible refine (heap_drew_eq _ _).trans ?_) | (refine (Fut.heap _ _ ?_).trans ?_ ; focus (first | assumption | omega | (simp [go_sem]; done) | (simp [go_sem]; omega))) | (refine (heap_put_at _ _ _ ?_).trans ?_ ; focus (first | assumption | omega | (simp [go_sem]; done) | (simp [go_sem]; omega))) | (refine (heap_put_other _ _ _ _ ?_).trans ?_ ; focus (first | assumption | omega | (simp [go_sem]; done) | (simp [go_sem]; omega))) | (refine (heap_alloc_other _ _ _ ?_).trans ?_ ; focus (first | assumption | omega | (simp [go_sem]; done) | (simp [go_sem]; omega))) | (refine (heap_alloc_at _ _ _ ?_).trans ?_ ; focus (first | assumption | omega | (simp [go_sem]; done) | (simp [go_sem]; omega))) | (simp [go_sem]; done) | (simp [go_sem]; omega)))); have hm7 := (hch7.block (W.heap.size + 1) (by first | assumption | (simp [go_sem]; done) | (simp [go_sem]; omega)) (by rw [HF.out _ (by omega)]; simp)).trans (show _ = wc.heap[W.heap.size + 1]? from (by repeat' (first | rfl | assumption | (with_reducible refine (heap_drew_eq _ _).trans ?_) | (refine (Fut.heap _ _ ?_).trans ?_ ; focus (first | assumption | omega | (simp [go_sem]; done) | (simp [go_sem]; omega))) | (refine (heap_put_at _ _ _ ?_).trans ?_ ; focus (first | assumption | omega | (simp [go_sem]; done) | (simp [go_sem]; omega))) | (refine (heap_put_other _ _ _ _ ?_).trans ?_ ; focus (first | assumption | omega | (simp [go_sem]; done) | (simp [go_sem]; omega))) | (refine (heap_alloc_other _ _ _ ?_).trans ?_ ; focus (first | assumption | omega | (simp [go_sem]; done) | (simp [go_sem]; omega))) | (refine (heap_alloc_at _ _ _ ?_).trans ?_ ; focus (first | assumption | omega | (simp [go_sem]; done) | (simp [go_sem]; omega))) | (simp [go_sem]; done) | (simp [go_sem]; omega)))); have hrb7 := (hch7.block rb (by first | assumption | (simp [go_sem]; done) | (simp [go_sem]; omega)) (by rw [HRBI.out]; simp)).trans (show _ = wc.heap[rb]? from (by repeat' (first | rfl | assumption | (with_reducible refine (heap_drew_eq _ _).trans ?_) | (refine (Fut.heap _ _ ?_).trans ?_ ; focus (first | assumption | omega | (simp [go_sem]; done) | (simp [go_sem]; omega))) | (refine (heap_put_at _ _ _ ?_).trans ?_ ; focus (first | assumption | omega | (simp [go_sem]; done) | (simp [go_sem]; omega))) | (refine (heap_put_other _ _ _ _ ?_).trans ?_ ; focus (first | assumption | omega | (simp [go_sem]; done) | (simp [go_sem]; omega))) | (refine (heap_alloc_other _ _ _ ?_).trans ?_ ; focus (first | assumption | omega | (simp [go_sem]; done) | (simp [go_sem]; omega))) | (refine (heap_alloc_at _ _ _ ?_).trans ?_ ; focus (first | assumption | omega | (simp [go_sem]; done) | (simp [go_sem]; omega))) | (simp [go_sem]; done) | (simp [go_sem]; omega)))); have hs7 : wc.heap.size < W7.heap.size := Nat.lt_of_lt_of_le (by first | assumption | (simp [go_sem]; done) | (simp [go_sem]; omega)) hch7.size; have hch7' := hid (show Chg (fun k => blk (.slice ao its.length cp) k ≠ 0) wc W7 from (Chg.of_below (by repeat' (first | exact Below.refl _ _ | with_reducible assumption | omega | with_reducible refine below_put_fut ?_ ?_ _ | with_reducible refine below_to_put ?_ | with_reducible refine Below.alloc ?_ ?_ _ | with_reducible refine Below.fut ?_ ?_ _ | with_reducible refine Below.drew ?_ | with_reducible refine Below.setCell ?_ ?_ _ | with_reducible refine Below.atPut ?_ ?_ _ | (simp [go_sem]; done) | (simp [go_sem]; omega)))).trans hch7 (fun _ _ h => h)); have ho7' := hid (fun (k : Nat) (hk : k < wc.heap.size) => ho7 k (Nat.lt_of_lt_of_le hk (by first | assumption | (simp [go_sem]; done) | (simp [go_sem]; omega)))); clear hch7 ho7; obtain ⟨a7, c7, rfl⟩ := owns_slice hr7; have hl7 := lt_of_heap hp7; rw [← put_self hp7]))
          all_goals
            have HM7 := hid hm7
            have HR7 := hid hr7
            clear hm7 hr7
            go_wp2_with (first | (go_at_call 91; go_must (((with_reducible refine (insert_ptr_at _ _ _ _ (HBR.out _ (by repeat' (first | rfl | assumption | (with_reducible refine (heap_drew_eq _ _).trans ?_) | (refine (Fut.heap _ _ ?_).trans ?_ ; focus (first | assumption | omega | (simp [go_sem]; done) | (simp [go_sem]; omega))) | (refine (heap_put_at _ _ _ ?_).trans ?_ ; focus (first | assumption | omega | (simp [go_sem]; done) | (simp [go_sem]; omega))) | (refine (heap_put_other _ _ _ _ ?_).trans ?_ ; focus (first | assumption | omega | (simp [go_sem]; done) | (simp [go_sem]; omega))) | (refine (heap_alloc_other _ _ _ ?_).trans ?_ ; focus (first | assumption | omega | (simp [go_sem]; done) | (simp [go_sem]; omega))) | (refine (heap_alloc_at _ _ _ ?_).trans ?_ ; focus (first | assumption | omega | (simp [go_sem]; done) | (simp [go_sem]; omega))) | (simp [go_sem]; done) | (simp [go_sem]; omega)))) (by omega) (ptrs_one _) (at_ + 1) (by omega) _ (by omega) _ [.pointer (some ⟨rr.p, 0, none⟩)] rfl (by simp [Value.oneCell']) (by repeat' (first | rfl | assumption | (with_reducible refine (heap_drew_eq _ _).trans ?_) | (refine (Fut.heap _ _ ?_).trans ?_ ; focus (first | assumption | omega | (simp [go_sem]; done) | (simp [go_sem]; omega))) | (refine (heap_put_at _ _ _ ?_).trans ?_ ; focus (first | assumption | omega | (simp [go_sem]; done) | (simp [go_sem]; omega))) | (refine (heap_put_other _ _ _ _ ?_).trans ?_ ; focus (first | assumption | omega | (simp [go_sem]; done) | (simp [go_sem]; omega))) | (refine (heap_alloc_other _ _ _ ?_).trans ?_ ; focus (first | assumption | omega | (simp [go_sem]; done) | (simp [go_sem]; omega))) | (refine (heap_alloc_at _ _ _ ?_).trans ?_ ; focus (first | assumption | omega | (simp [go_sem]; done) | (simp [go_sem]; omega))) | (simp [go_sem]; done) | (simp [go_sem]; omega))) (HBVZ.out _ (by omega))).mono ?_)); rintro _ W8 ⟨v8, rfl, hr8, hch8, ho8⟩; have hp8 := (hch8.block q.p (by first | assumption | (simp [go_sem]; done) | (simp [go_sem]; omega)) (by rw [HBP2.out]; simp)).trans (show _ = some (.cells #[.slice a7 (its.length + 1) c7, .slice (some ⟨rb, 0, none⟩) kn cb] 101) from (by repeat' (first | rfl | assumption | (with_reducible refine (heap_drew_eq _ _).trans ?_) | (refine (Fut.heap _ _ ?_).trans ?_ ; focus (first | assumption | omega | (simp [go_sem]; done) | (simp [go_sem]; omega))) | (refine (heap_put_at _ _ _ ?_).trans ?_ ; focus (first | assumption | omega | (simp [go_sem]; done) | (simp [go_sem]; omega))) | (refine (heap_put_other _ _ _ _ ?_).trans ?_ ; focus (first | assumption | omega | (simp [go_sem]; done) | (simp [go_sem]; omega))) | (refine (heap_alloc_other _ _ _ ?_).trans ?_ ; focus (first | assumption | omega | (simp [go_sem]; done) | (simp [go_sem]; omega))) | (refine (heap_alloc_at _ _ _ ?_).trans ?_ ; focus (first | assumption | omega | (simp [go_sem]; done) | (simp [go_sem]; omega))) | (simp [go_sem]; done) | (simp [go_sem]; omega)))); have hm8 := hid ((hch8.block (W.heap.size + 1) (by first | assumption | (simp [go_sem]; done) | (simp [go_sem]; omega)) (by rw [HBVZ.out _ (by omega)]; simp)).trans (show _ = W7.heap[W.heap.size + 1]? from (by repeat' (first | rfl | assumption | (with_reducible refine (heap_drew_eq _ _).trans ?_) | (refine (Fut.heap _ _ ?_).trans ?_ ; focus (first | assumption | omega | (simp [go_sem]; done) | (simp [go_sem]; omega))) | (refine (heap_put_at _ _ _ ?_).trans ?_ ; focus (first | assumption | omega | (simp [go_sem]; done) | (simp [go_sem]; omega))) | (refine (heap_put_other _ _ _ _ ?_).trans ?_ ; focus (first | assumption | omega | (simp [go_sem]; done) | (simp [go_sem]; omega))) | (refine (heap_alloc_other _ _ _ ?_).trans ?_ ; focus (first | assumption | omega | (simp [go_sem]; done) | (simp [go_sem]; omega))) | (refine (heap_alloc_at _ _ _ ?_).trans ?_ ; focus (first | assumption | omega | (simp [go_sem]; done) | (simp [go_sem]; omega))) | (simp [go_sem]; done) | (simp [go_sem]; omega))))); have ho8' := hid (fun (k : Nat) (hk : k < W7.heap.size) => ho8 k (Nat.lt_of_lt_of_le hk (by first | assumption | (simp [go_sem]; done) | (simp [go_sem]; omega)))); clear ho8; obtain ⟨a8, c8, rfl⟩ := owns_slice hr8; have hl8' := lt_of_heap hp8; have hr8' := hid hr8; have hch8' := hid hch8; clear hr8 hch8; rw [← put_self hp8])))
            go_wp2_with fail
            go_meet
            obtain ⟨n1, n2, n3, n4⟩ := Node.split2 (r5 := ⟨r.p, xs1, c1⟩) (rr := rr) (its' := its.take at_ ++ (s1, s2) :: its.drop at_) HN.out HLT.out HU.out HL5.out HC5.out hch7'.out (by rw [← ins_flat its (s1, s2) at_]; exact HR7.out) (ins_length its (s1, s2) at_ hat).symm ho7'.out ((Chg.of_below (by rw [size_put]; exact (by repeat' (first | exact Below.refl _ _ | with_reducible assumption | omega | with_reducible refine below_put_fut ?_ ?_ _ | with_reducible refine below_to_put ?_ | with_reducible refine Below.alloc ?_ ?_ _ | with_reducible refine Below.fut ?_ ?_ _ | with_reducible refine Below.drew ?_ | with_reducible refine Below.setCell ?_ ?_ _ | with_reducible refine Below.atPut ?_ ?_ _ | (simp [go_sem]; done) | (simp [go_sem]; omega))))).trans hch8'.out (fun _ _ h => h)) (by rw [← ptrs_ins L R r ⟨r.p, xs1, c1⟩ rr at_ HLL.out rfl]; exact hr8'.out) (by have := HKN.out; simp at this ⊢; omega) ho8'.out (Below.refl _ _)
            have hil := ins_length its (s1, s2) at_ hat
            have hkl := HKL.out
            have hll := HLL.out
            refine ⟨rfl, _, _, its.take at_ ++ (s1, s2) :: its.drop at_, L ++ ⟨r.p, xs1, c1⟩ :: rr :: R, _, _, n1, ⟨by simp at hkl hil ⊢; omega, rfl, fun s hs => ?_⟩, ?_, n2, by omega, by omega, ?_, by omega, ?_⟩
            · rcases List.mem_append.1 hs with hs | hs
              · exact (HKD.out s (by simp [hs])).keep fun k hk => n4 k ((HKD.out s (by simp [hs])).lt k hk) (by have := sumC_mem hs k; omega)
              · rcases List.mem_cons.1 hs with rfl | hs
                · exact HA5.out.keep fun k hk => n3 k (by rw [HC5.out]; have : c1 k ≠ 0 := hk; omega)
                · rcases List.mem_cons.1 hs with rfl | hs
                  · exact HAR.out.keep fun k hk => n3 k (by rw [HC5.out]; omega)
                  · exact (HKD.out s (by simp [hs])).keep fun k hk => n4 k ((HKD.out s (by simp [hs])).lt k hk) (by have := sumC_mem hs k; omega)
            · have hw := weave_split Kid.xs L (its.take at_) ⟨r.p, xs1, c1⟩ (rr :: R) ((s1, s2) :: its.drop at_) (by simp; omega) (by simp at hkl ⊢; omega)
              rw [hw]
              have := HWR.out xs' HI.out
              rw [HXS.out] at this
              simpa [wpost] using this
            · rw [heap_put_other _ _ _ _ hbp4, hm8.out, HM7.out]; exact H4.out
            · have e1 := HN.out.cnt (W.heap.size + 1); have e4 := H54.out; have e5 := ho7'.out (W.heap.size + 1) hl4; have e6 := ho8'.out (W.heap.size + 1) (by omega); have e7 := HF.out (W.heap.size + 1) (by omega); have e8 := HBVZ.out (W.heap.size + 1) (by omega); have e9 := HZC.out (W.heap.size + 1) (by omega)
              rw [HC5.out] at e4
              rw [sumC_mid] at e1
              rw [sumC_mid2]
              show one q.p _ + (_ + (_ + (_ + (c1 _ + _)))) = 0
              omega
  case rest =>
    obtain ⟨rfl, iv2, bv2, its2, kids2, c2, xs', hN2, hG2, hins, hU, hlo2, hle2, h4, hB4, hc4⟩ := hcut
    obtain ⟨ai2, ci2, rfl⟩ := owns_slice hN2.items
    obtain ⟨ab2, cb2, rfl⟩ := owns_slice hN2.below
    obtain ⟨kn2, hkn2⟩ : ∃ kn2, kn2 = kids2.length := ⟨_, rfl⟩
    rw [← hkn2] at hN2
    have hc2p := fun i => cell_of_row wc q.p i _ _ (0, 0) hN2.heap
    have hpl2 := hN2.lt
    have hl4 := lt_of_heap h4
    have hne4 : ((⟨q.p, 0, none⟩ : Addr) = ⟨W.heap.size + 1, 0, none⟩) = False := by simp only [Addr.mk.injEq, eq_iff_iff, iff_false]; omega
    have HN2 := hid hN2
    have HG2 := hid hG2
    have HI2 := hid hins
    have HU2 := hid hU
    have H42 := hid h4
    have HC2 := hid hc4
    have HKN2 := hid hkn2
    clear hN2 hG2 hins hU h4 hc4 hkn2
    by_cases hw : its2.length ≤ 6
    · have e4 := put_self H42.out
      rw [← e4]
      have E4 := hid e4
      clear e4
      go_wp2
      refine bodyPost_ret (v := .tuple #[.agg #[.string ⟨#[]⟩, .string ⟨#[]⟩], .pointer none]) (by simp [results, Tryz.results69, go_sem, hl4]) rfl ?_
      rw [E4.out]
      exact ⟨xs', HI2.out, .inl ⟨c2, rfl, At.of_node (q := ⟨q.p, xs', c2⟩) HN2.out hlo2 hw HG2.out, HU2.out⟩⟩
    · obtain ⟨A3, up, B3, rfl, hA3⟩ := split_at its2 3 (by omega)
      have hB3 : B3.length = 3 := by simp at hle2 hw; omega
      have hlen7 : (A3 ++ up :: B3).length = 7 := by simp; omega
      obtain ⟨ri, ci', hv, _, hri⟩ := World.ownsRow.form HN2.out.items (by omega)
      obtain rfl : ai2 = some ⟨ri, 0, none⟩ := by injection hv
      obtain ⟨cur, hcm, hci, hrh, _, _⟩ := row_open HN2.out.items
      unfold maxLen at hcm
      have hit := HN2.out.items
      rw [hlen7] at hit hci
      have hup := flat_at (A3 ++ up :: B3) 3 up (by rw [List.getElem?_append_right (by omega), hA3]; rfl)
      have q6 : wc.cell? ⟨ri, 6, none⟩ = some (.string up.1) := by rw [hit.cellAt 6 (by omega)]; exact hup.1
      have q7 : wc.cell? ⟨ri, 7, none⟩ = some (.string up.2) := by rw [hit.cellAt 7 (by omega)]; exact hup.2
      rw [hlen7] at hc2p
      have HIT := hid hit
      have HN3 := hid (show Node wc q.p (.slice (some ⟨ri, 0, none⟩) 7 ci2) (.slice ab2 kn2 cb2) (A3 ++ up :: B3) kids2 c2 by rw [← hlen7]; exact HN2.out)
      have hci4 : ¬ ci2 = 4 := by omega
      have hc2lt : ∀ k, c2 k ≠ 0 → k < wc.heap.size := by
        have hk := HG2.out.kids_lt
        intro k hck
        have h1 := HN2.out.cnt k
        by_cases e1 : one q.p k = 0
        · by_cases e2 : blk (.slice (some ⟨ri, 0, none⟩) (A3 ++ up :: B3).length ci2) k = 0
          · by_cases e3 : blk (.slice ab2 kn2 cb2) k = 0
            · obtain ⟨r, hr, h'⟩ := sumC_ne (l := kids2) (k := k) (by omega)
              exact hk r hr k h'
            · exact HN2.out.below.lt e3
          · exact HN2.out.items.lt e2
        · rw [one_ne e1]; exact hpl2
      have hp2 := HN3.out.heap
      have HCL := hid hc2lt
      have hcells : ∀ (Wx : World), Below wc.heap.size wc Wx → ∀ j u, (flat (A3 ++ up :: B3))[j]? = some u → Wx.cell? ⟨ri, j, none⟩ = some u := fun Wx hb j u hu => by
        have := World.ownsRow.cells HIT.out (g := ri) rfl j u hu
        rw [add_none, Nat.zero_add] at this
        rw [hb.cell (p := ⟨ri, j, none⟩) hri]; exact this
      have hcells2 : ∀ (Wx : World), Wx.heap[ri]? = wc.heap[ri]? → ∀ j u, (flat (A3 ++ up :: B3))[j]? = some u → Wx.cell? ⟨ri, j, none⟩ = some u := fun Wx hb j u hu => by
        have := World.ownsRow.cells HIT.out (g := ri) rfl j u hu
        rw [add_none, Nat.zero_add] at this
        rw [World.cell?_of_block (w := wc) (a := ⟨ri, j, none⟩) hb]; exact this
      have hfl : flat (A3 ++ up :: B3) = flat A3 ++ (.string up.1 :: .string up.2 :: flat B3) := by rw [flat_append]; rfl
      have HSB := hid (show ∀ (Wx : World), Below wc.heap.size wc Wx → Src Wx 2 (.slice (some ⟨ri, 8, none⟩) 3 (ci2 - 4)) 3 (flat B3) from fun Wx hb => ⟨by rw [flat_length, hB3], flat_one B3, .inr ⟨⟨ri, 8, none⟩, ci2 - 4, rfl, fun j u hu => by
        rw [add_none]
        refine hcells Wx hb (8 + j) u ?_
        rw [hfl, List.getElem?_append_right (by rw [flat_length, hA3]; omega), flat_length, hA3, show 8 + j - 3 * 2 = j + 1 + 1 from by omega]
        simpa using hu⟩⟩)
      have HSA := hid (show ∀ (Wx : World), Below wc.heap.size wc Wx → Src Wx 2 (.slice (some ⟨ri, 0, none⟩) 3 ci2) 3 (flat A3) from fun Wx hb => ⟨by rw [flat_length, hA3], flat_one A3, .inr ⟨⟨ri, 0, none⟩, ci2, rfl, fun j u hu => by
        rw [add_none, Nat.zero_add]
        refine hcells Wx hb j u ?_
        rw [hfl, List.getElem?_append_left (List.getElem?_eq_some_iff.1 hu).1]; exact hu⟩⟩)
      have HSA2 := hid (show ∀ (Wx : World), Wx.heap[ri]? = wc.heap[ri]? → Src Wx 2 (.slice (some ⟨ri, 0, none⟩) 3 ci2) 3 (flat A3) from fun Wx hb => ⟨by rw [flat_length, hA3], flat_one A3, .inr ⟨⟨ri, 0, none⟩, ci2, rfl, fun j u hu => by
        rw [add_none, Nat.zero_add]
        refine hcells2 Wx hb j u ?_
        rw [hfl, List.getElem?_append_left (List.getElem?_eq_some_iff.1 hu).1]; exact hu⟩⟩)
      obtain ⟨KA, KB, xa, xb, hKK, hxx, hK0, hK1, hKG, hKL⟩ := HG2.out.cut
      have HK2 := hid hKK
      have HX2 := hid hxx
      have HKG := hid hKG
      have HK0 := hid hK0
      have HK1 := hid hK1
      have hneT : ((⟨wc.heap.size, 0, none⟩ : Addr) = ⟨q.p, 0, none⟩) = False := by simp only [Addr.mk.injEq, eq_iff_iff, iff_false]; omega
      have hneT4 : ((⟨wc.heap.size, 0, none⟩ : Addr) = ⟨W.heap.size + 1, 0, none⟩) = False := by simp only [Addr.mk.injEq, eq_iff_iff, iff_false]; omega
      have hne4' : ((⟨W.heap.size + 1, 0, none⟩ : Addr) = ⟨q.p, 0, none⟩) = False := by simp only [Addr.mk.injEq, eq_iff_iff, iff_false]; omega
      clear hit hup hv hw HN2 hc2lt hcells hcells2 hfl hKK hxx hK0 hK1 hKG hKL
      go_wp2_with fail
      (((with_reducible refine (clone_item _ _ 3 (flat B3) (HSB.out _ (by repeat' (first | exact Below.refl _ _ | with_reducible assumption | omega | with_reducible refine below_put_fut ?_ ?_ _ | with_reducible refine below_to_put ?_ | with_reducible refine Below.alloc ?_ ?_ _ | with_reducible refine Below.fut ?_ ?_ _ | with_reducible refine Below.drew ?_ | with_reducible refine Below.setCell ?_ ?_ _ | with_reducible refine Below.atPut ?_ ?_ _ | (simp [go_sem]; done) | (simp [go_sem]; omega)))) (by omega)).mono ?_)); rintro _ W10 ⟨cv1, rfl, hr10, hb10, hf10⟩)
      obtain ⟨a10, c10, rfl⟩ := owns_slice hr10
      have hz10 := hb10.size
      simp only [World.size_alloc] at hz10
      have hB10 : Below wc.heap.size wc W10 := ((Below.refl _ wc).alloc (Nat.le_refl _) _).trans (hb10.mono (by simp))
      have HR10 := hid hr10
      have HF10 := hid (fun (k : Nat) (hk : k < wc.heap.size + 1) => hf10 k (by simpa using hk))
      have hT10 : W10.heap[wc.heap.size]? = some (.cells #[.string up.1, .string up.2] 59) := (hb10.block wc.heap.size (by simp)).trans (heap_alloc_at _ _ _ rfl)
      clear hr10 hf10 hb10
      have hp10 : W10.heap[q.p]? = some (.cells #[.slice (some ⟨ri, 0, none⟩) 7 ci2, .slice ab2 kn2 cb2] 101) := (hB10.block q.p hpl2).trans hp2
      have h410 : W10.heap[W.heap.size + 1]? = some (.cells #[.string ⟨#[]⟩, .string ⟨#[]⟩] 59) := (hB10.block _ hl4).trans H42.out
      have hc10p := fun i => cell_of_row W10 q.p i _ _ (0, 0) hp10
      have hpl10 : q.p < W10.heap.size + 1 := by omega
      have hl410 : W.heap.size + 1 < W10.heap.size + 1 := by omega
      have hlT10 : wc.heap.size < W10.heap.size + 1 := by omega
      have hpm10 : q.p < W10.heap.size := by omega
      have hm410 : W.heap.size + 1 < W10.heap.size := by omega
      have hmT10 : wc.heap.size < W10.heap.size := by omega
      cases d with
      | zero =>
        obtain ⟨hKA0, hKB0⟩ := HK0.out rfl
        obtain rfl : kn2 = 0 := by rw [HKN2.out, HK2.out, hKA0, hKB0]; rfl
        go_wp2_with (first | (go_at_call 89; ((with_reducible refine (leaf_is _ q.p (.slice (some ⟨ri, 0, none⟩) 7 ci2) ab2 0 cb2 (by repeat' (first | rfl | assumption | (with_reducible refine (heap_drew_eq _ _).trans ?_) | (refine (Fut.heap _ _ ?_).trans ?_ ; focus (first | assumption | omega | (simp [go_sem]; done) | (simp [go_sem]; omega))) | (refine (heap_put_at _ _ _ ?_).trans ?_ ; focus (first | assumption | omega | (simp [go_sem]; done) | (simp [go_sem]; omega))) | (refine (heap_put_other _ _ _ _ ?_).trans ?_ ; focus (first | assumption | omega | (simp [go_sem]; done) | (simp [go_sem]; omega))) | (refine (heap_alloc_other _ _ _ ?_).trans ?_ ; focus (first | assumption | omega | (simp [go_sem]; done) | (simp [go_sem]; omega))) | (refine (heap_alloc_at _ _ _ ?_).trans ?_ ; focus (first | assumption | omega | (simp [go_sem]; done) | (simp [go_sem]; omega))) | (simp [go_sem]; done) | (simp [go_sem]; omega))) true rfl).mono ?_)); rintro _ _ ⟨rfl, u3, rfl⟩))
        (((with_reducible refine (clone_item _ _ 3 (flat A3) (HSA.out _ (by repeat' (first | exact Below.refl _ _ | with_reducible assumption | omega | with_reducible refine below_put_fut ?_ ?_ _ | with_reducible refine below_to_put ?_ | with_reducible refine Below.alloc ?_ ?_ _ | with_reducible refine Below.fut ?_ ?_ _ | with_reducible refine Below.drew ?_ | with_reducible refine Below.setCell ?_ ?_ _ | with_reducible refine Below.atPut ?_ ?_ _ | (simp [go_sem]; done) | (simp [go_sem]; omega)))) (by omega)).mono ?_)); rintro _ W11 ⟨cv2, rfl, hr11, hb11, hf11⟩)
        obtain ⟨a11, c11, rfl⟩ := owns_slice hr11
        have hs3 := u3.size
        simp only [World.size_alloc] at hs3
        have hB11 : Below wc.heap.size wc W11 := (show Below wc.heap.size wc u3.val from (by repeat' (first | exact Below.refl _ _ | with_reducible assumption | omega | with_reducible refine below_put_fut ?_ ?_ _ | with_reducible refine below_to_put ?_ | with_reducible refine Below.alloc ?_ ?_ _ | with_reducible refine Below.fut ?_ ?_ _ | with_reducible refine Below.drew ?_ | with_reducible refine Below.setCell ?_ ?_ _ | with_reducible refine Below.atPut ?_ ?_ _ | (simp [go_sem]; done) | (simp [go_sem]; omega)))).trans (hb11.mono (by omega))
        have hz11 : W10.heap.size + 1 ≤ W11.heap.size := by have := hb11.size; omega
        have hp11 := (hB11.block q.p hpl2).trans hp2
        have h411 := (hB11.block _ hl4).trans H42.out
        have hW10 := hid (show ∀ k, k < W10.heap.size → W11.heap[k]? = W10.heap[k]? from fun k hk => (hb11.block k (by omega)).trans ((Fut.heap u3 k (by simp only [World.size_alloc]; omega)).trans (heap_alloc_other _ _ _ hk)))
        have hR11 : W11.heap[W10.heap.size]? = some (.cells #[.slice a10 3 c10, .slice none 0 0] 101) := (hb11.block _ (by omega)).trans ((Fut.heap u3 _ (by simp only [World.size_alloc]; omega)).trans (heap_alloc_at _ _ _ rfl))
        have hT11 : W11.heap[wc.heap.size]? = some (.cells #[.string up.1, .string up.2] 59) := (hW10.out _ hmT10).trans hT10
        have HR11 := hid hr11
        have HF11 := hid (fun (k : Nat) (hk : k < W10.heap.size + 1) => hf11 k (by omega))
        clear hr11 hf11 hb11 hs3
        have hcT := fun i => cell_of_row W11 wc.heap.size i _ _ (0, 0) hT11
        have hl11 := lt_of_heap hp11
        have hl411 := lt_of_heap h411
        have hlT11 := lt_of_heap hT11
        have hp11' : (put W11 (W.heap.size + 1) (.cells #[.string ⟨#[]⟩, .string ⟨#[]⟩] 59)).heap[q.p]? = some (.cells #[.slice (some ⟨ri, 0, none⟩) 7 ci2, .slice ab2 0 cb2] 101) := by
          rw [heap_put_other _ _ _ _ (by omega)]; exact hp11
        have e11 := put_self h411
        have e12 := put_self hp11'
        rw [← e11, ← e12]
        have E11 := hid e11
        have E12 := hid e12
        clear e11 e12 hp11'
        go_wp2
        refine bodyPost_ret (v := .tuple #[.agg #[.string up.1, .string up.2], .pointer (some ⟨W10.heap.size, 0, none⟩)]) (by simp [results, Tryz.results69, go_sem, hl4, hl411, hne4']) rfl ?_
        have hkp : ∀ (X Y : Obj) (k : Nat), k ≠ q.p → k ≠ W.heap.size + 1 → (put (put W11 (W.heap.size + 1) X) q.p Y).heap[k]? = W11.heap[k]? := fun X Y k h1 h2 => by rw [heap_put_other _ _ _ _ h1, heap_put_other _ _ _ _ h2]
        have hbz : ∀ k, wc.heap.size ≤ k → blk (.slice ab2 0 cb2) k = 0 := fun k hk => by
          have := HN3.out.cnt k
          rcases Nat.eq_zero_or_pos (c2 k) with e | e
          · omega
          · have := HCL.out k (by omega); omega
        have hb0 : ∀ k, blk (.slice ab2 0 cb2) k ≠ 0 → k ≠ q.p ∧ k ≠ W.heap.size + 1 ∧ k < wc.heap.size := fun k hk => by
          have h1 := HN3.out.cnt k; have h2 := HN3.out.le k; have h3 := HC2.out
          refine ⟨fun e => by subst e; rw [one_self] at h1; omega, fun e => by subst e; omega, HCL.out k (by omega)⟩
        have hrb := HN3.out.below
        rw [HK2.out, hKA0, hKB0] at hrb
        have hA10 : ∀ k, blk (.slice a10 3 c10) k ≠ 0 → wc.heap.size + 1 ≤ k ∧ k < W10.heap.size := fun k hk => ⟨by
          rcases Nat.lt_or_ge k (wc.heap.size + 1) with h | h
          · exact absurd (HF10.out k h) hk
          · exact h, HR10.out.lt hk⟩
        have hA11 : ∀ k, blk (.slice a11 3 c11) k ≠ 0 → W10.heap.size + 1 ≤ k := fun k hk => by
          rcases Nat.lt_or_ge k (W10.heap.size + 1) with h | h
          · exact absurd (HF11.out k h) hk
          · exact h
        have hcnt : ∀ k, (blk (.slice a10 3 c10) k = 0 ∨ (wc.heap.size + 1 ≤ k ∧ k < W10.heap.size)) ∧ (blk (.slice a11 3 c11) k = 0 ∨ W10.heap.size + 1 ≤ k) ∧ (one W10.heap.size k = 0 ∨ k = W10.heap.size) := fun k => by
          refine ⟨?_, ?_, ?_⟩
          · by_cases e : blk (.slice a10 3 c10) k = 0
            · exact .inl e
            · exact .inr (hA10 k e)
          · by_cases e : blk (.slice a11 3 c11) k = 0
            · exact .inl e
            · exact .inr (hA11 k e)
          · by_cases e : one W10.heap.size k = 0
            · exact .inl e
            · exact .inr (one_ne e)
        obtain ⟨c1, cr, f1, f2, f3⟩ := split_fin (d := 0) (lo := lo) (W' := put (put W11 (W.heap.size + 1) (.cells #[.string up.1, .string up.2] 59)) q.p (.cells #[.slice a11 3 c11, .slice ab2 0 cb2] 101)) (R2 := W10.heap.size) (cvA := .slice a11 3 c11) (bvA := .slice ab2 0 cb2) (cvB := .slice a10 3 c10) (bvB := .slice none 0 0) (KA := KA) (KB := KB)
          HN3.out HU2.out HCL.out hpl hB4 HC2.out HK2.out HKG.out HX2.out hA3 hB3 hlo hB11.os hB11.tape hB11.output (by simp only [size_put]; omega)
          (fun k hk h1 h2 => by rw [hkp _ _ k h1 h2]; exact hB11.block k hk) (heap_put_at _ _ _ (by rw [size_put]; exact hl11)) (by rw [hkp _ _ _ (by omega) (by omega)]; exact hR11)
          (HR11.out.keep fun k hk => by have := hA11 k hk; exact hkp _ _ k (by omega) (by omega))
          (HR10.out.keep fun k hk => by have := hA10 k hk; rw [hkp _ _ k (by omega) (by omega)]; exact hW10.out k (by omega))
          (by rw [hKA0]; exact hrb.keep fun k hk => by have := hb0 k hk; rw [hkp _ _ k (by omega) (by omega)]; exact hB11.block k (by omega))
          (by rw [hKB0]; exact World.ownsRow_nil _ _ _ _)
          (fun k hk => by have := hcnt k; rw [blk_nil]; omega)
          (fun k hk => by have := hcnt k; have := hbz k hk; have := blk_le (.slice a10 3 c10) k; have := blk_le (.slice a11 3 c11) k; have := one_le W10.heap.size k; rw [blk_nil]; omega)
        exact ⟨xs', HI2.out, .inr ⟨⟨W10.heap.size, xb, cr⟩, xa, c1, up, rfl, HX2.out, f1, f2, f3⟩⟩
      | succ d =>
        obtain ⟨hKAl, hKBl⟩ := HK1.out (Nat.succ_ne_zero d)
        obtain rfl : kn2 = 8 := by rw [HKN2.out, HK2.out, List.length_append]; omega
        have hbw := HN3.out.below
        rw [← HKN2.out] at hbw
        obtain ⟨rk, ck', hvk, _, hrk⟩ := World.ownsRow.form hbw (by omega)
        obtain rfl : ab2 = some ⟨rk, 0, none⟩ := by injection hvk
        obtain ⟨curk, hcmk, hcik, hrhk, _, _⟩ := row_open hbw
        unfold maxLen at hcmk
        have hkcells : ∀ (Wx : World), Wx.heap[rk]? = wc.heap[rk]? → ∀ j u, (ptrs (KA ++ KB))[j]? = some u → Wx.cell? ⟨rk, j, none⟩ = some u := fun Wx hb j u hu => by
          have := World.ownsRow.cells hbw (g := rk) rfl j u (by rw [HK2.out]; exact hu)
          rw [add_none, Nat.zero_add] at this
          rw [World.cell?_of_block (w := wc) (a := ⟨rk, j, none⟩) hb]; exact this
        have hKA4 : KA.length = 4 := by omega
        have hKB4 : KB.length = 4 := by omega
        have HSKB := hid (show ∀ (Wx : World), Wx.heap[rk]? = wc.heap[rk]? → Src Wx 1 (.slice (some ⟨rk, 4, none⟩) 4 (cb2 - 4)) 4 (ptrs KB) from fun Wx hb => ⟨by rw [ptrs_length, hKB4], ptrs_one KB, .inr ⟨⟨rk, 4, none⟩, cb2 - 4, rfl, fun j u hu => by
          rw [add_none]
          refine hkcells Wx hb (4 + j) u ?_
          rw [ptrs_append, List.getElem?_append_right (by rw [ptrs_length, hKA4]; omega), ptrs_length, hKA4, show 4 + j - 4 * 1 = j from by omega]
          exact hu⟩⟩)
        have HSKA := hid (show ∀ (Wx : World), Wx.heap[rk]? = wc.heap[rk]? → Src Wx 1 (.slice (some ⟨rk, 0, none⟩) 4 cb2) 4 (ptrs KA) from fun Wx hb => ⟨by rw [ptrs_length, hKA4], ptrs_one KA, .inr ⟨⟨rk, 0, none⟩, cb2, rfl, fun j u hu => by
          rw [add_none, Nat.zero_add]
          refine hkcells Wx hb j u ?_
          rw [ptrs_append, List.getElem?_append_left (List.getElem?_eq_some_iff.1 hu).1]; exact hu⟩⟩)
        have hcn := fun k => HN3.out.cnt k
        have hcl := fun k => HN3.out.le k
        have hrkb : blk (.slice (some ⟨rk, 0, none⟩) 8 cb2) rk = 1 := by rw [blk_at _ _ _ _ _ none, one_self]
        have hrib : blk (.slice (some ⟨ri, 0, none⟩) 7 ci2) ri = 1 := by rw [blk_at _ _ _ _ _ none, one_self]
        have hrkp : rk ≠ q.p := fun e => by have h1 := hcn q.p; have h2 := hcl q.p; rw [one_self] at h1; rw [← e] at h1 h2; omega
        have hrip : ri ≠ q.p := fun e => by have h1 := hcn q.p; have h2 := hcl q.p; rw [one_self] at h1; rw [← e] at h1 h2; omega
        have hrk4 : rk ≠ W.heap.size + 1 := fun e => by have h1 := hcn rk; have h3 := HC2.out; rw [← e] at h3; omega
        have hri4 : ri ≠ W.heap.size + 1 := fun e => by have h1 := hcn ri; have h3 := HC2.out; rw [← e] at h3; omega
        have hcb4 : ¬ cb2 = 4 := by omega
        have hkA4 : 4 ≤ cb2 := by omega
        clear hcn hcl hrkb hrib hvk hrhk hkcells hbw
        go_wp2_with (first | (go_at_call 89; ((with_reducible refine (leaf_is _ q.p (.slice (some ⟨ri, 0, none⟩) 7 ci2) (some ⟨rk, 0, none⟩) 8 cb2 (by repeat' (first | rfl | assumption | (with_reducible refine (heap_drew_eq _ _).trans ?_) | (refine (Fut.heap _ _ ?_).trans ?_ ; focus (first | assumption | omega | (simp [go_sem]; done) | (simp [go_sem]; omega))) | (refine (heap_put_at _ _ _ ?_).trans ?_ ; focus (first | assumption | omega | (simp [go_sem]; done) | (simp [go_sem]; omega))) | (refine (heap_put_other _ _ _ _ ?_).trans ?_ ; focus (first | assumption | omega | (simp [go_sem]; done) | (simp [go_sem]; omega))) | (refine (heap_alloc_other _ _ _ ?_).trans ?_ ; focus (first | assumption | omega | (simp [go_sem]; done) | (simp [go_sem]; omega))) | (refine (heap_alloc_at _ _ _ ?_).trans ?_ ; focus (first | assumption | omega | (simp [go_sem]; done) | (simp [go_sem]; omega))) | (simp [go_sem]; done) | (simp [go_sem]; omega))) false rfl).mono ?_)); rintro _ _ ⟨rfl, u3, rfl⟩))
        have hs3 := u3.size
        simp only [World.size_alloc] at hs3
        have hu3 := hid (show ∀ k, k < W10.heap.size → u3.val.heap[k]? = W10.heap[k]? from fun k hk => (Fut.heap u3 k (by simp only [World.size_alloc]; omega)).trans (heap_alloc_other _ _ _ hk))
        (((with_reducible refine (clone_ptr _ _ 4 (ptrs KB) (HSKB.out _ ((hu3.out _ (by omega)).trans (hB10.block _ hrk))) (by omega)).mono ?_)); rintro _ W12 ⟨cvB, rfl, hr12, hb12, hf12⟩)
        obtain ⟨a12, c12, rfl⟩ := owns_slice hr12
        have hz12 : W10.heap.size + 1 ≤ W12.heap.size := by have := hb12.size; omega
        have h12 := hid (show ∀ k, k < W10.heap.size → W12.heap[k]? = W10.heap[k]? from fun k hk => (hb12.block k (by omega)).trans (hu3.out k hk))
        have hR12 : W12.heap[W10.heap.size]? = some (.cells #[.slice a10 3 c10, .slice none 0 0] 101) := (hb12.block _ (by omega)).trans ((Fut.heap u3 _ (by simp only [World.size_alloc]; omega)).trans (heap_alloc_at _ _ _ rfl))
        have hB12 : Below wc.heap.size wc W12 := (show Below wc.heap.size wc u3.val from (by repeat' (first | exact Below.refl _ _ | with_reducible assumption | omega | with_reducible refine below_put_fut ?_ ?_ _ | with_reducible refine below_to_put ?_ | with_reducible refine Below.alloc ?_ ?_ _ | with_reducible refine Below.fut ?_ ?_ _ | with_reducible refine Below.drew ?_ | with_reducible refine Below.setCell ?_ ?_ _ | with_reducible refine Below.atPut ?_ ?_ _ | (simp [go_sem]; done) | (simp [go_sem]; omega)))).trans (hb12.mono (by omega))
        have HR12 := hid hr12
        have HF12 := hid (fun (k : Nat) (hk : k < W10.heap.size + 1) => hf12 k (by omega))
        have hp12 := (h12.out _ hpm10).trans hp10
        have hc12p := fun i => cell_of_row W12 q.p i _ _ (0, 0) hp12
        have hlR12 := lt_of_heap hR12
        have hlp12 := lt_of_heap hp12
        have hneR : ((⟨q.p, 0, none⟩ : Addr) = ⟨W10.heap.size, 0, none⟩) = False := by simp only [Addr.mk.injEq, eq_iff_iff, iff_false]; omega
        clear hr12 hf12 hb12 hs3
        have e12 := put_self hR12
        rw [← e12]
        clear e12
        go_wp2_with fail
        (((with_reducible refine (clone_ptr _ _ 4 (ptrs KA) (HSKA.out _ ((heap_put_other _ _ _ _ (by omega)).trans ((h12.out _ (by omega)).trans (hB10.block _ hrk)))) (by omega)).mono ?_)); rintro _ W13 ⟨cvA, rfl, hr13, hb13, hf13⟩)
        obtain ⟨a13, c13, rfl⟩ := owns_slice hr13
        have hz13 : W12.heap.size ≤ W13.heap.size := by have := hb13.size; rwa [size_put] at this
        have h13 := hid (show ∀ k, k < W12.heap.size → k ≠ W10.heap.size → W13.heap[k]? = W12.heap[k]? from fun k hk hne => (hb13.block k (by rw [size_put]; exact hk)).trans (heap_put_other _ _ _ _ hne))
        have hR13 : W13.heap[W10.heap.size]? = some (.cells #[.slice a10 3 c10, .slice a12 4 c12] 101) := (hb13.block _ (by rw [size_put]; exact hlR12)).trans (heap_put_at _ _ _ hlR12)
        have HR13 := hid hr13
        have HF13 := hid (fun (k : Nat) (hk : k < W12.heap.size) => hf13 k (by rw [size_put]; exact hk))
        have hos13 := hb13.os
        have htp13 := hb13.tape
        have hou13 := hb13.output
        have hp13 := (h13.out _ hlp12 (by omega)).trans hp12
        have hlp13 := lt_of_heap hp13
        clear hr13 hf13 hb13
        have e13 := put_self hp13
        rw [← e13]
        clear e13
        go_wp2_with fail
        (((with_reducible refine (clone_item _ _ 3 (flat A3) (HSA2.out _ ((heap_put_other _ _ _ _ hrip).trans ((h13.out _ (by omega) (by omega)).trans ((h12.out _ (by omega)).trans (hB10.block _ hri))))) (by omega)).mono ?_)); rintro _ W14 ⟨cv2, rfl, hr14, hb14, hf14⟩)
        obtain ⟨a14, c14, rfl⟩ := owns_slice hr14
        have hz14 : W13.heap.size ≤ W14.heap.size := by have := hb14.size; rwa [size_put] at this
        have h14 := hid (show ∀ k, k < W13.heap.size → k ≠ q.p → W14.heap[k]? = W13.heap[k]? from fun k hk hne => (hb14.block k (by rw [size_put]; exact hk)).trans (heap_put_other _ _ _ _ hne))
        have hp14 : W14.heap[q.p]? = some (.cells #[.slice (some ⟨ri, 0, none⟩) 7 ci2, .slice a13 4 c13] 101) := (hb14.block _ (by rw [size_put]; exact hlp13)).trans (heap_put_at _ _ _ hlp13)
        have HR14 := hid hr14
        have HF14 := hid (fun (k : Nat) (hk : k < W13.heap.size) => hf14 k (by rw [size_put]; exact hk))
        have hos14 := hb14.os
        have htp14 := hb14.tape
        have hou14 := hb14.output
        have hw14 := hid (show ∀ k, k < wc.heap.size → k ≠ q.p → W14.heap[k]? = wc.heap[k]? from fun k hk hne => (h14.out k (by omega) hne).trans ((h13.out k (by omega) (by omega)).trans ((h12.out k (by omega)).trans (hB10.block k hk))))
        have h414 := (hw14.out _ hl4 (by omega)).trans H42.out
        have hT14 : W14.heap[wc.heap.size]? = some (.cells #[.string up.1, .string up.2] 59) := (h14.out _ (by omega) (by omega)).trans ((h13.out _ (by omega) (by omega)).trans ((h12.out _ hmT10).trans hT10))
        have hR14 : W14.heap[W10.heap.size]? = some (.cells #[.slice a10 3 c10, .slice a12 4 c12] 101) := (h14.out _ (by omega) (by omega)).trans hR13
        clear hr14 hf14 hb14
        have hcT := fun i => cell_of_row W14 wc.heap.size i _ _ (0, 0) hT14
        have hl14 := lt_of_heap hp14
        have hl414 := lt_of_heap h414
        have hlT14 := lt_of_heap hT14
        have hp14' : (put W14 (W.heap.size + 1) (.cells #[.string ⟨#[]⟩, .string ⟨#[]⟩] 59)).heap[q.p]? = some (.cells #[.slice (some ⟨ri, 0, none⟩) 7 ci2, .slice a13 4 c13] 101) := by
          rw [heap_put_other _ _ _ _ (by omega)]; exact hp14
        have e11 := put_self h414
        have e12 := put_self hp14'
        rw [← e11, ← e12]
        clear e11 e12 hp14'
        go_wp2
        refine bodyPost_ret (v := .tuple #[.agg #[.string up.1, .string up.2], .pointer (some ⟨W10.heap.size, 0, none⟩)]) (by simp [results, Tryz.results69, go_sem, hl4, hl414, hne4']) rfl ?_
        have hkp : ∀ (X Y : Obj) (k : Nat), k ≠ q.p → k ≠ W.heap.size + 1 → (put (put W14 (W.heap.size + 1) X) q.p Y).heap[k]? = W14.heap[k]? := fun X Y k h1 h2 => by rw [heap_put_other _ _ _ _ h1, heap_put_other _ _ _ _ h2]
        have iv : ∀ (v : Value) (a b : Nat), (∀ k, k < a → blk v k = 0) → (∀ k, blk v k ≠ 0 → k < b) → ∀ k, blk v k = 0 ∨ (a ≤ k ∧ k < b) := fun v a b h1 h2 k => by
          by_cases e : blk v k = 0
          · exact .inl e
          · refine .inr ⟨?_, h2 k e⟩
            rcases Nat.lt_or_ge k a with h | h
            · exact absurd (h1 k h) e
            · exact h
        have i10 := iv _ _ _ HF10.out (fun k hk => HR10.out.lt hk)
        have i12 := iv _ _ _ HF12.out (fun k hk => HR12.out.lt hk)
        have i13 := iv _ _ _ HF13.out (fun k hk => HR13.out.lt hk)
        have i14 := iv _ _ _ HF14.out (fun k hk => HR14.out.lt hk)
        have iR : ∀ k, one W10.heap.size k = 0 ∨ k = W10.heap.size := fun k => by
          by_cases e : one W10.heap.size k = 0
          · exact .inl e
          · exact .inr (one_ne e)
        have hsum : ∀ k, one W10.heap.size k + (blk (.slice a14 3 c14) k + (blk (.slice a10 3 c10) k + (blk (.slice a13 4 c13) k + blk (.slice a12 4 c12) k))) ≤ 1 ∧ (k < wc.heap.size → one W10.heap.size k + (blk (.slice a14 3 c14) k + (blk (.slice a10 3 c10) k + (blk (.slice a13 4 c13) k + blk (.slice a12 4 c12) k))) = 0) := fun k => by
          have := i10 k; have := i12 k; have := i13 k; have := i14 k; have := iR k
          have := blk_le (.slice a10 3 c10) k; have := blk_le (.slice a12 4 c12) k; have := blk_le (.slice a13 4 c13) k; have := blk_le (.slice a14 3 c14) k; have := one_le W10.heap.size k
          constructor
          · omega
          · intro hk; omega
        have k14 : ∀ k, wc.heap.size ≤ k → k < W13.heap.size → W14.heap[k]? = W13.heap[k]? := fun k h1 h2 => h14.out k h2 (by omega)
        have k13 : ∀ k, wc.heap.size ≤ k → k < W12.heap.size → k ≠ W10.heap.size → W14.heap[k]? = W12.heap[k]? := fun k h1 h2 h3 => (k14 k h1 (by omega)).trans (h13.out k h2 h3)
        obtain ⟨c1, cr, f1, f2, f3⟩ := split_fin (d := d + 1) (lo := lo) (W' := put (put W14 (W.heap.size + 1) (.cells #[.string up.1, .string up.2] 59)) q.p (.cells #[.slice a14 3 c14, .slice a13 4 c13] 101)) (R2 := W10.heap.size) (cvA := .slice a14 3 c14) (bvA := .slice a13 4 c13) (cvB := .slice a10 3 c10) (bvB := .slice a12 4 c12) (KA := KA) (KB := KB)
          HN3.out HU2.out HCL.out hpl hB4 HC2.out HK2.out HKG.out HX2.out hA3 hB3 hlo (hos14.trans (hos13.trans hB12.os)) (htp14.trans (htp13.trans hB12.tape)) (hou14.trans (hou13.trans hB12.output)) (by simp only [size_put]; omega)
          (fun k hk h1 h2 => by rw [hkp _ _ k h1 h2]; exact hw14.out k hk h1) (heap_put_at _ _ _ (by rw [size_put]; exact hl14)) (by rw [hkp _ _ _ (by omega) (by omega)]; exact hR14)
          (HR14.out.keep fun k hk => by have := i14 k; exact hkp _ _ k (by omega) (by omega))
          (HR10.out.keep fun k hk => by have := i10 k; rw [hkp _ _ k (by omega) (by omega), k13 k (by omega) (by omega) (by omega)]; exact h12.out k (by omega))
          (by rw [hKA4]; exact HR13.out.keep fun k hk => by have := i13 k; rw [hkp _ _ k (by omega) (by omega)]; exact k14 k (by omega) (by omega))
          (by rw [hKB4]; exact HR12.out.keep fun k hk => by have := i12 k; rw [hkp _ _ k (by omega) (by omega)]; exact k13 k (by omega) (by omega) (by omega))
          (fun k hk => by have := (hsum k).2 hk; omega)
          (fun k hk => (hsum k).1)
        exact ⟨xs', HI2.out, .inr ⟨⟨W10.heap.size, xb, cr⟩, xa, c1, up, rfl, HX2.out, f1, f2, f3⟩⟩
end Go.Proofs.YthknenhcnpgkcaaGreat
