/- Texts of this proof, merged: Node, Node2, Node3, Node4, ShP, ShD, Sh1. -/
import Derived.Test.YthknenhcnpgkcaaGreatMb
/- The tree in memory: a node, what is below it, whose blocks are whose. -/
namespace Go.Proofs.YthknenhcnpgkcaaGreat
open Go.RowKit
/-- What is below a node at one place: where it lies, the items, whose blocks. -/
structure Kid where
  p : Nat
  xs : List It
  c : Cnt
def Kid.v (q : Kid) : Value := .pointer (some ⟨q.p, 0, none⟩)
def sumC : List Kid → Cnt
  | [], _ => 0
  | q :: r, k => q.c k + sumC r k
theorem sumC_append : ∀ (a b : List Kid) (k : Nat), sumC (a ++ b) k = sumC a k + sumC b k
  | [], _, _ => by simp [sumC]
  | q :: a, b, k => by simp [sumC, sumC_append a b k]; omega
theorem sumC_mem {q : Kid} : ∀ {l : List Kid}, q ∈ l → ∀ k, q.c k ≤ sumC l k
  | r :: l, h, k => by
    simp only [sumC]
    rcases List.mem_cons.1 h with rfl | h
    · omega
    · have := sumC_mem h k; omega
def ptrs (l : List Kid) : List Value := l.map Kid.v
/-- A node in memory. -/
structure Node (W : World) (p : Nat) (iv bv : Value) (its : List It) (kids : List Kid) (c : Cnt) : Prop where
  heap : W.heap[p]? = some (.cells #[iv, bv] 101)
  items : Row W 59 2 iv its.length (flat its)
  below : Row W 92 1 bv kids.length (ptrs kids)
  cnt : ∀ k, c k = one p k + (blk iv k + (blk bv k + sumC kids k))
  le : ∀ k, c k ≤ 1
/-- A tree of depth d below q: at least so many items in its first node. -/
def At : Nat → Nat → World → Kid → Prop
  | 0, lo, W, q => ∃ iv bv, Node W q.p iv bv q.xs [] q.c ∧ lo ≤ q.xs.length ∧ q.xs.length ≤ 6
  | d + 1, lo, W, q => ∃ iv bv its kids, Node W q.p iv bv its kids q.c ∧ kids.length = its.length + 1 ∧ lo ≤ its.length ∧ its.length ≤ 6 ∧ q.xs = weave Kid.xs kids its ∧ ∀ r ∈ kids, At d 3 W r
theorem Node.lt {W : World} {p : Nat} {iv bv : Value} {its : List It} {kids : List Kid} {c : Cnt} (h : Node W p iv bv its kids c) : p < W.heap.size := lt_of_heap h.heap
theorem Node.keep {W W' : World} {p : Nat} {iv bv : Value} {its : List It} {kids : List Kid} {c : Cnt} (h : Node W p iv bv its kids c) (hh : ∀ k, c k ≠ 0 → W'.heap[k]? = W.heap[k]?) : Node W' p iv bv its kids c :=
  ⟨by rw [hh p (by have := h.cnt p; rw [one_self] at this; omega)]; exact h.heap, h.items.keep fun k hk => hh k (by have := h.cnt k; omega), h.below.keep fun k hk => hh k (by have := h.cnt k; omega), h.cnt, h.le⟩
theorem Node.kid {W : World} {p : Nat} {iv bv : Value} {its : List It} {kids : List Kid} {c : Cnt} (h : Node W p iv bv its kids c) {q : Kid} (hq : q ∈ kids) (k : Nat) : q.c k ≤ c k := by
  have := sumC_mem hq k; have := h.cnt k; omega
theorem At.keep : ∀ {d lo : Nat} {W W' : World} {q : Kid}, At d lo W q → (∀ k, q.c k ≠ 0 → W'.heap[k]? = W.heap[k]?) → At d lo W' q
  | 0, lo, W, W', q, ⟨iv, bv, h, h1, h2⟩, hh => ⟨iv, bv, h.keep hh, h1, h2⟩
  | d + 1, lo, W, W', q, ⟨iv, bv, its, kids, h, h1, h2, h3, h4, h5⟩, hh => ⟨iv, bv, its, kids, h.keep hh, h1, h2, h3, h4, fun r hr => At.keep (h5 r hr) fun k hk => hh k (by have := h.kid hr k; omega)⟩
theorem At.le : ∀ {d lo : Nat} {W : World} {q : Kid}, At d lo W q → ∀ k, q.c k ≤ 1
  | 0, _, _, _, ⟨_, _, h, _, _⟩, k => h.le k
  | _ + 1, _, _, _, ⟨_, _, _, _, h, _⟩, k => h.le k
theorem sumC_ne : ∀ {l : List Kid} {k : Nat}, sumC l k ≠ 0 → ∃ q ∈ l, q.c k ≠ 0
  | [], k, h => (h rfl).elim
  | q :: l, k, h => by
    by_cases e : q.c k = 0
    · obtain ⟨r, hr, h'⟩ := sumC_ne (l := l) (k := k) (by simp only [sumC] at h; omega)
      exact ⟨r, by simp [hr], h'⟩
    · exact ⟨q, by simp, e⟩
theorem At.lt : ∀ {d lo : Nat} {W : World} {q : Kid}, At d lo W q → ∀ k, q.c k ≠ 0 → k < W.heap.size
  | 0, lo, W, q, ⟨iv, bv, h, _, _⟩, k, hk => by
    have := h.cnt k
    simp only [sumC] at this
    by_cases e1 : one q.p k = 0
    · by_cases e2 : blk iv k = 0
      · exact h.below.lt (k := k) (by omega)
      · exact h.items.lt e2
    · rw [one_ne e1]; exact h.lt
  | d + 1, lo, W, q, ⟨iv, bv, its, kids, h, _, _, _, _, h5⟩, k, hk => by
    have := h.cnt k
    by_cases e1 : one q.p k = 0
    · by_cases e2 : blk iv k = 0
      · by_cases e3 : blk bv k = 0
        · obtain ⟨r, hr, h'⟩ := sumC_ne (l := kids) (k := k) (by omega)
          exact At.lt (h5 r hr) k h'
        · exact h.below.lt e3
      · exact h.items.lt e2
    · rw [one_ne e1]; exact h.lt
theorem At.mono {d lo lo' : Nat} {W : World} {q : Kid} (h : At d lo W q) (hl : lo' ≤ lo) : At d lo' W q := by
  cases d with
  | zero => obtain ⟨iv, bv, h, h1, h2⟩ := h; exact ⟨iv, bv, h, by omega, h2⟩
  | succ d => obtain ⟨iv, bv, its, kids, h, h1, h2, h3⟩ := h; exact ⟨iv, bv, its, kids, h, h1, by omega, h3⟩
/-- What is in a node, whether it is a leaf or not: d tells. -/
def Good : Nat → World → List It → List Kid → List It → Prop
  | 0, _, its, kids, xs => kids = [] ∧ xs = its
  | d + 1, W, its, kids, xs => kids.length = its.length + 1 ∧ xs = weave Kid.xs kids its ∧ ∀ r ∈ kids, At d 3 W r
theorem At.node {d lo : Nat} {W : World} {q : Kid} (h : At d lo W q) : ∃ iv bv its kids, Node W q.p iv bv its kids q.c ∧ lo ≤ its.length ∧ its.length ≤ 6 ∧ Good d W its kids q.xs := by
  cases d with
  | zero => obtain ⟨iv, bv, h, h1, h2⟩ := h; exact ⟨iv, bv, q.xs, [], h, h1, h2, rfl, rfl⟩
  | succ d => obtain ⟨iv, bv, its, kids, h, h1, h2, h3, h4, h5⟩ := h; exact ⟨iv, bv, its, kids, h, h2, h3, h1, h4, h5⟩
theorem At.of_node {d lo : Nat} {W : World} {q : Kid} {iv bv : Value} {its : List It} {kids : List Kid} (h : Node W q.p iv bv its kids q.c) (h1 : lo ≤ its.length) (h2 : its.length ≤ 6) (h3 : Good d W its kids q.xs) : At d lo W q := by
  cases d with
  | zero => obtain ⟨rfl, e⟩ := h3; subst e; exact ⟨iv, bv, h, h1, h2⟩
  | succ d => exact ⟨iv, bv, its, kids, h, h3.1, h1, h2, h3.2.1, h3.2.2⟩
theorem Good.rises {d : Nat} {W : World} {its xs : List It} {kids : List Kid} (h : Good d W its kids xs) (hr : Rises xs) : Rises its := by
  cases d with
  | zero => obtain ⟨_, rfl⟩ := h; exact hr
  | succ d => obtain ⟨h1, rfl, _⟩ := h; exact hr.sub (weave_items _ _ _ h1)
end Go.Proofs.YthknenhcnpgkcaaGreat

/- A node whose child has changed, or has become two. -/
namespace Go.Proofs.YthknenhcnpgkcaaGreat
open Go.RowKit
theorem Upd.of_below {W Wc W5 : World} {c c5 : Cnt} (hb : Below W.heap.size W Wc) (hu : Upd Wc W5 c c5) : Upd W W5 c c5 :=
  ⟨(Chg.of_below hb).trans hu.chg (fun _ _ h => h), hu.le, fun k hk => hu.old k (Nat.lt_of_lt_of_le hk hb.size)⟩
theorem Upd.below {W W5 W6 : World} {c c5 : Cnt} (hu : Upd W W5 c c5) (hb : Below W5.heap.size W5 W6) : Upd W W6 c c5 :=
  ⟨hu.chg.trans (Chg.of_below (S := fun k => c k ≠ 0) hb) (fun _ _ h => h), hu.le, hu.old⟩
theorem sumC_mid (L R : List Kid) (r : Kid) (k : Nat) : sumC (L ++ r :: R) k = sumC L k + (r.c k + sumC R k) := by rw [sumC_append]; rfl
theorem sumC_mid2 (L R : List Kid) (r s : Kid) (k : Nat) : sumC (L ++ r :: s :: R) k = sumC L k + (r.c k + (s.c k + sumC R k)) := by rw [sumC_append]; rfl
theorem ptrs_mid (L R : List Kid) (r r' : Kid) (h : r'.p = r.p) : ptrs (L ++ r' :: R) = ptrs (L ++ r :: R) := by simp [ptrs, Kid.v, h]
theorem Node.setKid {W W5 : World} {p : Nat} {iv bv : Value} {its : List It} {L R : List Kid} {r r5 : Kid} {c c5 : Cnt} (h : Node W p iv bv its (L ++ r :: R) c) (hlt : ∀ k, c k ≠ 0 → k < W.heap.size) (hu : Upd W W5 r.c c5) (hp : r5.p = r.p) (hc : ∀ k, r5.c k ≤ c5 k) :
    Node W5 p iv bv its (L ++ r5 :: R) (fun k => one p k + (blk iv k + (blk bv k + sumC (L ++ r5 :: R) k))) ∧ Upd W W5 c (fun k => one p k + (blk iv k + (blk bv k + sumC (L ++ r5 :: R) k))) ∧ (∀ k, k < W.heap.size → r.c k = 0 → W5.heap[k]? = W.heap[k]?) := by
  have hcnt : ∀ k, c k = one p k + (blk iv k + (blk bv k + (sumC L k + (r.c k + sumC R k)))) := fun k => by rw [h.cnt k, sumC_mid]
  have hkeep : ∀ k, k < W.heap.size → r.c k = 0 → W5.heap[k]? = W.heap[k]? := fun k hk h0 => hu.chg.block k hk (by omega)
  have h0 : ∀ k, W.heap.size ≤ k → c k = 0 := fun k hk => by
    rcases Nat.eq_zero_or_pos (c k) with e | e
    · exact e
    · exact absurd (hlt k (by omega)) (by omega)
  have hle : ∀ k, one p k + (blk iv k + (blk bv k + sumC (L ++ r5 :: R) k)) ≤ 1 := by
    intro k
    rw [sumC_mid]
    have h1 := hcnt k; have h2 := h.le k; have h3 := hc k; have h4 := hu.le k
    rcases Nat.lt_or_ge k W.heap.size with hk | hk
    · have h5 := hu.old k hk; omega
    · have h5 := h0 k hk; omega
  refine ⟨⟨?_, h.items.keep fun k hk => ?_, ?_, fun k => rfl, hle⟩, ⟨?_, hle, fun k hk => ?_⟩, hkeep⟩
  · have h1 := hcnt p; have h2 := h.le p; rw [one_self] at h1
    rw [hkeep p h.lt (by omega)]; exact h.heap
  · have h1 := hcnt k; have h2 := h.le k
    exact hkeep k (h.items.lt hk) (by omega)
  · rw [ptrs_mid L R r r5 hp]
    have e : (L ++ r5 :: R).length = (L ++ r :: R).length := by simp
    rw [e]
    exact h.below.keep fun k hk => by
      have h1 := hcnt k; have h2 := h.le k
      exact hkeep k (h.below.lt hk) (by omega)
  · exact hu.chg.mono fun k _ hk => by have h1 := hcnt k; omega
  · simp only [sumC_mid]
    have h1 := hcnt k; have h3 := hc k; have h5 := hu.old k hk; omega
theorem Node.split2 {W W5 W6 W8 W9 : World} {p : Nat} {iv bv iv' bv' : Value} {its its' : List It} {L R : List Kid} {r r5 rr : Kid} {c c5 : Cnt} {n6 n8 : Nat}
    (h : Node W p iv bv its (L ++ r :: R) c) (hlt : ∀ k, c k ≠ 0 → k < W.heap.size) (hu : Upd W W5 r.c c5) (hl5 : ∀ k, c5 k ≠ 0 → k < W5.heap.size) (hc : ∀ k, c5 k = r5.c k + rr.c k)
    (h6 : Chg (fun k => blk iv k ≠ 0) W5 W6) (hr6 : Row W6 59 2 iv' n6 (flat its')) (hn6 : n6 = its'.length) (ho6 : ∀ k, k < W5.heap.size → blk iv' k ≤ blk iv k)
    (h8 : Chg (fun k => blk bv k ≠ 0) (put W6 p (.cells #[iv', bv] 101)) W8) (hr8 : Row W8 92 1 bv' n8 (ptrs (L ++ r5 :: rr :: R))) (hn8 : n8 = (L ++ r5 :: rr :: R).length) (ho8 : ∀ k, k < W6.heap.size → blk bv' k ≤ blk bv k)
    (h9 : Below W8.heap.size (put W8 p (.cells #[iv', bv'] 101)) W9) :
    Node W9 p iv' bv' its' (L ++ r5 :: rr :: R) (fun k => one p k + (blk iv' k + (blk bv' k + sumC (L ++ r5 :: rr :: R) k))) ∧ Upd W W9 c (fun k => one p k + (blk iv' k + (blk bv' k + sumC (L ++ r5 :: rr :: R) k))) ∧
      (∀ k, c5 k ≠ 0 → W9.heap[k]? = W5.heap[k]?) ∧ (∀ k, k < W.heap.size → sumC L k + sumC R k ≠ 0 → W9.heap[k]? = W.heap[k]?) := by
  subst hn6 hn8
  have hcnt : ∀ k, c k = one p k + (blk iv k + (blk bv k + (sumC L k + (r.c k + sumC R k)))) := fun k => by rw [h.cnt k, sumC_mid]
  have h0 : ∀ k, W.heap.size ≤ k → c k = 0 := fun k hk => by
    rcases Nat.eq_zero_or_pos (c k) with e | e
    · exact e
    · exact absurd (hlt k (by omega)) (by omega)
  have s5 := hu.chg.size
  have s6 := h6.size
  have s8 := h8.size
  have s9 := h9.size
  rw [size_put] at s8 s9
  have hp := h.lt
  have e9 : ∀ k, k < W8.heap.size → k ≠ p → W9.heap[k]? = W8.heap[k]? := fun k hk hne => by rw [h9.block k hk, heap_put_other _ _ _ _ hne]
  have e8 : ∀ k, k < W6.heap.size → k ≠ p → blk bv k = 0 → W8.heap[k]? = W6.heap[k]? := fun k hk hne hb => by rw [h8.block k (by rw [size_put]; exact hk) (by omega), heap_put_other _ _ _ _ hne]
  have e6 : ∀ k, k < W5.heap.size → blk iv k = 0 → W6.heap[k]? = W5.heap[k]? := fun k hk hb => h6.block k hk (by omega)
  have e5 : ∀ k, k < W.heap.size → r.c k = 0 → W5.heap[k]? = W.heap[k]? := fun k hk hb => hu.chg.block k hk (by omega)
  have e95 : ∀ k, k < W5.heap.size → k ≠ p → blk iv k = 0 → blk bv k = 0 → W9.heap[k]? = W5.heap[k]? := fun k hk hne h1 h2 => by
    rw [e9 k (by omega) hne, e8 k (by omega) hne h2, e6 k hk h1]
  have hpc := hcnt p
  rw [one_self] at hpc
  have hpl := h.le p
  have hone : ∀ k, k ≠ p → one p k = 0 := fun k hk => by unfold one; rw [if_neg hk]
  have i6 : ∀ k, blk iv' k ≠ 0 → k < W6.heap.size := fun k hk => hr6.lt hk
  have hle : ∀ k, one p k + (blk iv' k + (blk bv' k + sumC (L ++ r5 :: rr :: R) k)) ≤ 1 := by
    intro k
    rw [sumC_mid2]
    have h1 := hcnt k; have h2 := h.le k; have h3 := hc k; have h4 := hu.le k
    rcases Nat.lt_or_ge k W.heap.size with hk | hk
    · have h5 := hu.old k hk; have h6 := ho6 k (by omega); have h8 := ho8 k (by omega); omega
    · have h5 := h0 k hk
      rcases Nat.lt_or_ge k W5.heap.size with hk5 | hk5
      · have h6 := ho6 k hk5; have h8 := ho8 k (by omega); omega
      · have hc0 : c5 k = 0 := by
          rcases Nat.eq_zero_or_pos (c5 k) with e | e
          · exact e
          · exact absurd (hl5 k (by omega)) (by omega)
        rcases Nat.lt_or_ge k W6.heap.size with hk6 | hk6
        · have h8 := ho8 k hk6; have := blk_le iv' k; omega
        · have hi0 : blk iv' k = 0 := by
            rcases Nat.eq_zero_or_pos (blk iv' k) with e | e
            · exact e
            · exact absurd (i6 k (by omega)) (by omega)
          have := blk_le bv' k; omega
  refine ⟨⟨?_, hr6.keep fun k hk => ?_, hr8.keep fun k hk => ?_, fun k => rfl, hle⟩, ⟨⟨h9.os.trans (h8.os.trans (h6.os.trans hu.chg.os)), h9.tape.trans (h8.tape.trans (h6.tape.trans hu.chg.tape)), h9.output.trans (h8.output.trans (h6.output.trans hu.chg.output)), by omega, fun k hk hn => ?_⟩, hle, fun k hk => ?_⟩, fun k hk => ?_, fun k hk hne => ?_⟩
  · rw [h9.block p (by omega), heap_put_at _ _ _ (by omega)]
  · have hk6 := i6 k hk
    have hkp : k ≠ p := fun e => by subst e; have := ho6 k (by omega); omega
    have hb0 : blk bv k = 0 := by
      rcases Nat.lt_or_ge k W5.heap.size with hk5 | hk5
      · have h6 := ho6 k hk5; have h1 := hcnt k; have h2 := h.le k; omega
      · have h1 := hcnt k; have h2 := h0 k (by omega); omega
    rw [e9 k (by omega) hkp, e8 k hk6 hkp hb0]
  · have hk8 := hr8.lt hk
    have hkp : k ≠ p := fun e => by subst e; have := ho8 k (by omega); omega
    exact e9 k hk8 hkp
  · have h1 := hcnt k
    have hkp : k ≠ p := fun e => by subst e; rw [one_self] at h1; omega
    rw [e95 k (by omega) hkp (by omega) (by omega), e5 k hk (by omega)]
  · simp only [sumC_mid2]
    have h1 := hcnt k; have h3 := hc k; have h5 := hu.old k hk; have h6 := ho6 k (by omega); have h8 := ho8 k (by omega); omega
  · have hk5 := hl5 k hk
    have h1 := hcnt k; have h2 := h.le k
    rcases Nat.lt_or_ge k W.heap.size with hkw | hkw
    · have h5 := hu.old k hkw
      exact e95 k hk5 (fun e => by subst e; rw [one_self] at h1; omega) (by omega) (by omega)
    · have h3 := h0 k hkw
      exact e95 k hk5 (fun e => by omega) (by omega) (by omega)
  · have h1 := hcnt k; have h2 := h.le k
    rw [e95 k (by omega) (fun e => by subst e; rw [one_self] at h1; omega) (by omega) (by omega), e5 k hk (by omega)]
end Go.Proofs.YthknenhcnpgkcaaGreat

/- A node that is too wide is cut in two. -/
namespace Go.Proofs.YthknenhcnpgkcaaGreat
set_option linter.unusedVariables false
set_option linter.unusedSimpArgs false
open Go.RowKit
theorem weave_cut {α : Type} (X : α → List It) (u : It) : ∀ (KA : List α) (A : List It) (KB : List α) (B : List It), KA.length = A.length + 1 → weave X (KA ++ KB) (A ++ u :: B) = weave X KA A ++ u :: weave X KB B
  | [], _, _, _, h => by simp at h
  | [q], [], [], B, _ => by cases B <;> simp [weave]
  | [q], [], k :: KB, B, _ => by simp [weave]
  | [q], _ :: _, _, _, h => by simp at h
  | q :: r :: KA, [], _, _, h => by simp at h
  | q :: r :: KA, a :: A, KB, B, h => by
    have := weave_cut X u (r :: KA) A KB B (by simpa using h)
    simp only [List.cons_append] at this ⊢
    simp [weave, this]
theorem ptrs_append (a b : List Kid) : ptrs (a ++ b) = ptrs a ++ ptrs b := by simp [ptrs]
/-- d tells whether there are children: of the two halves. -/
theorem Good.cut {d : Nat} {W : World} {A B : List It} {u : It} {kids : List Kid} {xs : List It} (h : Good d W (A ++ u :: B) kids xs) :
    ∃ KA KB xa xb, kids = KA ++ KB ∧ xs = xa ++ u :: xb ∧ (d = 0 → KA = [] ∧ KB = []) ∧ (d ≠ 0 → KA.length = A.length + 1 ∧ KB.length = B.length + 1) ∧
      (∀ W', (∀ r ∈ kids, ∀ k, r.c k ≠ 0 → W'.heap[k]? = W.heap[k]?) → Good d W' A KA xa ∧ Good d W' B KB xb) ∧ (∀ r ∈ kids, ∀ k, r.c k ≠ 0 → k < W.heap.size) := by
  cases d with
  | zero =>
    obtain ⟨rfl, rfl⟩ := h
    exact ⟨[], [], A, B, rfl, rfl, fun _ => ⟨rfl, rfl⟩, fun h => absurd rfl h, fun W' _ => ⟨⟨rfl, rfl⟩, ⟨rfl, rfl⟩⟩, fun r hr => by cases hr⟩
  | succ d =>
    obtain ⟨hl, rfl, hk⟩ := h
    have hl' : kids.length = A.length + 1 + (B.length + 1) := by simp at hl; omega
    refine ⟨kids.take (A.length + 1), kids.drop (A.length + 1), weave Kid.xs (kids.take (A.length + 1)) A, weave Kid.xs (kids.drop (A.length + 1)) B, (List.take_append_drop _ _).symm, ?_, fun h => absurd h (Nat.succ_ne_zero d), fun _ => ⟨by rw [List.length_take]; omega, by rw [List.length_drop]; omega⟩, fun W' hW => ⟨⟨by rw [List.length_take]; omega, rfl, fun r hr => ?_⟩, ⟨by rw [List.length_drop]; omega, rfl, fun r hr => ?_⟩⟩, fun r hr => (hk r hr).lt⟩
    · rw [← weave_cut Kid.xs u _ _ _ _ (by rw [List.length_take]; omega), List.take_append_drop]
    · exact (hk r (List.mem_of_mem_take hr)).keep (hW r (List.mem_of_mem_take hr))
    · exact (hk r (List.mem_of_mem_drop hr)).keep (hW r (List.mem_of_mem_drop hr))
/-- The two nodes, when all is done. -/
theorem split_fin {d lo : Nat} {W wc W' : World} {q : Kid} {iv bv cvA bvA cvB bvB : Value} {A B : List It} {u : It} {kids KA KB : List Kid} {c xs' : _} {xa xb : List It} {B4 R2 : Nat}
    (hN : Node wc q.p iv bv (A ++ u :: B) kids c) (hU : Upd W wc q.c c) (hlt : ∀ k, c k ≠ 0 → k < wc.heap.size) (hpW : q.p < W.heap.size) (hB4 : W.heap.size ≤ B4) (hc4 : c B4 = 0) (hk : kids = KA ++ KB)
    (hG : ∀ W', (∀ r ∈ kids, ∀ k, r.c k ≠ 0 → W'.heap[k]? = wc.heap[k]?) → Good d W' A KA xa ∧ Good d W' B KB xb) (_hx : xs' = xa ++ u :: xb) (hA : A.length = 3) (hB : B.length = 3) (_ : lo ≤ 3)
    (hos : W'.os = wc.os) (htp : W'.tape = wc.tape) (hout : W'.output = wc.output) (hsz : wc.heap.size ≤ W'.heap.size) (hkeep : ∀ k, k < wc.heap.size → k ≠ q.p → k ≠ B4 → W'.heap[k]? = wc.heap[k]?)
    (hp : W'.heap[q.p]? = some (.cells #[cvA, bvA] 101)) (hR : W'.heap[R2]? = some (.cells #[cvB, bvB] 101))
    (rA : Row W' 59 2 cvA 3 (flat A)) (rB : Row W' 59 2 cvB 3 (flat B)) (rKA : Row W' 92 1 bvA KA.length (ptrs KA)) (rKB : Row W' 92 1 bvB KB.length (ptrs KB))
    (hold : ∀ k, k < wc.heap.size → one R2 k + (blk cvA k + (blk cvB k + (blk bvA k + blk bvB k))) ≤ blk bv k) (hone : ∀ k, wc.heap.size ≤ k → one R2 k + (blk cvA k + (blk cvB k + (blk bvA k + blk bvB k))) ≤ 1) :
    ∃ c1 cr, At d 3 W' ⟨q.p, xa, c1⟩ ∧ At d 3 W' ⟨R2, xb, cr⟩ ∧ Upd W W' q.c (fun k => c1 k + cr k) := by
  subst hk
  have hcnt : ∀ k, c k = one q.p k + (blk iv k + (blk bv k + (sumC KA k + sumC KB k))) := fun k => by rw [hN.cnt k, sumC_append]
  have hz : ∀ k, wc.heap.size ≤ k → c k = 0 := fun k hk => by
    rcases Nat.eq_zero_or_pos (c k) with e | e
    · exact e
    · exact absurd (hlt k (by omega)) (by omega)
  have hle : ∀ k, (one q.p k + (blk cvA k + (blk bvA k + sumC KA k))) + (one R2 k + (blk cvB k + (blk bvB k + sumC KB k))) ≤ 1 := by
    intro k
    have h1 := hcnt k; have h2 := hN.le k
    rcases Nat.lt_or_ge k wc.heap.size with hk | hk
    · have := hold k hk; omega
    · have := hone k hk; have := hz k hk; omega
  have hkids : ∀ r ∈ KA ++ KB, ∀ k, r.c k ≠ 0 → W'.heap[k]? = wc.heap[k]? := fun r hr k hk => by
    have h1 := hcnt k; have h2 := hN.le k; have h3 := sumC_mem hr k
    rw [sumC_append] at h3
    exact hkeep k (hlt k (by omega)) (fun e => by subst e; rw [one_self] at h1; omega) (fun e => by subst e; omega)
  obtain ⟨gA, gB⟩ := hG W' hkids
  refine ⟨_, _, At.of_node (q := ⟨q.p, xa, _⟩) ⟨hp, by rw [hA]; exact rA, rKA, fun k => rfl, fun k => Nat.le_trans (Nat.le_add_right _ _) (hle k)⟩ (by omega) (by omega) gA, At.of_node (q := ⟨R2, xb, _⟩) ⟨hR, by rw [hB]; exact rB, rKB, fun k => rfl, fun k => Nat.le_trans (Nat.le_add_left _ _) (hle k)⟩ (by omega) (by omega) gB, ⟨⟨hos.trans hU.chg.os, htp.trans hU.chg.tape, hout.trans hU.chg.output, Nat.le_trans hU.chg.size hsz, fun k hk hn => ?_⟩, fun k => hle k, fun k hk => ?_⟩⟩
  · have h1 := hcnt k
    have h5 := hU.old k hk
    rw [hkeep k (Nat.lt_of_lt_of_le hk hU.chg.size) (fun e => by subst e; rw [one_self] at h1; omega) (by omega)]
    exact hU.chg.block k hk hn
  · have h1 := hcnt k; have h5 := hU.old k hk; have := hold k (Nat.lt_of_lt_of_le hk hU.chg.size)
    show (one q.p k + _) + (one R2 k + _) ≤ _
    omega
end Go.Proofs.YthknenhcnpgkcaaGreat

/- A key is looked for in a tree; its value is replaced. -/
namespace Go.Proofs.YthknenhcnpgkcaaGreat
open Go.RowKit
set_option linter.unusedVariables false
/-- Items small enough. -/
def Small (xs : List It) : Prop := ∀ i ∈ xs, i.1.size ≤ maxLen ∧ i.2.size ≤ maxLen
/-- The value of key k is v' now. -/
def Rep (k v' : ByteArray) (xs xs' : List It) : Prop := ∃ A v B, xs = A ++ (k, v) :: B ∧ xs' = A ++ (k, v') :: B
theorem Rep.wrap {k v' : ByteArray} {xs xs' : List It} (h : Rep k v' xs xs') (P Q : List It) : Rep k v' (P ++ (xs ++ Q)) (P ++ (xs' ++ Q)) := by
  obtain ⟨A, v, B, rfl, rfl⟩ := h
  exact ⟨P ++ A, v, B ++ Q, by simp, by simp⟩
theorem Rep.length {k v' : ByteArray} {xs xs' : List It} (h : Rep k v' xs xs') : xs'.length = xs.length := by
  obtain ⟨A, v, B, rfl, rfl⟩ := h
  simp
theorem rises_map {xs : List It} : Rises xs ↔ (xs.map (·.1)).Pairwise fun a b => lt a b = true := by
  unfold Rises
  rw [List.pairwise_map]
theorem Rep.rises {k v' : ByteArray} {xs xs' : List It} (h : Rep k v' xs xs') (hr : Rises xs) : Rises xs' := by
  obtain ⟨A, v, B, rfl, rfl⟩ := h
  rw [rises_map] at hr ⊢
  simpa using hr
theorem Rep.small {k v' : ByteArray} {xs xs' : List It} (h : Rep k v' xs xs') (hs : Small xs) (hv : v'.size ≤ maxLen) : Small xs' := by
  obtain ⟨A, v, B, rfl, rfl⟩ := h
  intro i hi
  rcases List.mem_append.1 hi with hi | hi
  · exact hs i (by simp [hi])
  · rcases List.mem_cons.1 hi with rfl | hi
    · exact ⟨(hs (k, v) (by simp)).1, hv⟩
    · exact hs i (by simp [hi])
theorem weave_item {kids : List Kid} {A B : List It} {k v : ByteArray} (h : kids.length = (A ++ (k, v) :: B).length + 1) : ∃ P Q, ∀ w, weave Kid.xs kids (A ++ (k, w) :: B) = P ++ (k, w) :: Q := by
  have hl : kids.length = A.length + 1 + (B.length + 1) := by simp at h; omega
  refine ⟨weave Kid.xs (kids.take (A.length + 1)) A, weave Kid.xs (kids.drop (A.length + 1)) B, fun w => ?_⟩
  rw [← weave_cut Kid.xs (k, w) _ _ _ _ (by rw [List.length_take]; omega), List.take_append_drop]
/-- What lies below r may be replaced, in the tree q. -/
def Wand (d lo : Nat) (W : World) (q : Kid) (d' lo' : Nat) (r : Kid) (k : ByteArray) : Prop :=
  ∀ W' xs' v', At d' lo' W' ⟨r.p, xs', r.c⟩ → Upd W W' r.c r.c → Rep k v' r.xs xs' → ∃ ys, At d lo W' ⟨q.p, ys, q.c⟩ ∧ Upd W W' q.c q.c ∧ Rep k v' q.xs ys
theorem Wand.refl (d lo : Nat) (W : World) (q : Kid) (k : ByteArray) : Wand d lo W q d lo q k := fun W' xs' v' h1 h2 h3 => ⟨xs', h1, h2, h3⟩
theorem Wand.step {d lo : Nat} {W : World} {q r s : Kid} {d' lo' : Nat} {k : ByteArray} {iv bv : Value} {its : List It} {L R : List Kid} (h : Wand d lo W q (d' + 1) lo' r k) (hr : At (d' + 1) lo' W r)
    (hN : Node W r.p iv bv its (L ++ s :: R) r.c) (hl1 : lo' ≤ its.length) (hl2 : its.length ≤ 6) (hG : Good (d' + 1) W its (L ++ s :: R) r.xs) (hL : L.length ≤ its.length) : Wand d lo W q d' 3 s k := by
  intro W' xs' v' h1 h2 h3
  obtain ⟨n1, n2, n3⟩ := hN.setKid (r5 := ⟨s.p, xs', s.c⟩) hr.lt h2 rfl (fun k => Nat.le_refl _)
  have hc : (fun k => one r.p k + (blk iv k + (blk bv k + sumC (L ++ ⟨s.p, xs', s.c⟩ :: R) k))) = r.c := by
    funext k
    rw [hN.cnt k, sumC_mid, sumC_mid]
  rw [hc] at n1 n2
  obtain ⟨g1, g2, g3⟩ := hG
  have hl : R.length = (its.drop L.length).length := by simp at g1 ⊢; omega
  have hl3 : L.length = (its.take L.length).length := by simp; omega
  have hw := weave_split Kid.xs L (its.take L.length) s R (its.drop L.length) hl3 hl
  have hw' := weave_split Kid.xs L (its.take L.length) ⟨s.p, xs', s.c⟩ R (its.drop L.length) hl3 hl
  rw [List.take_append_drop] at hw hw'
  refine h W' (weave Kid.xs (L ++ ⟨s.p, xs', s.c⟩ :: R) its) v' ?_ n2 ?_
  · refine At.of_node (q := ⟨r.p, weave Kid.xs (L ++ ⟨s.p, xs', s.c⟩ :: R) its, r.c⟩) n1 hl1 hl2 ⟨by simpa using g1, rfl, fun t ht => ?_⟩
    rcases List.mem_append.1 ht with ht | ht
    · exact (g3 t (by simp [ht])).keep fun k hk => n3 k ((g3 t (by simp [ht])).lt k hk) (by
        have e1 := hN.cnt k; have e2 := hN.le k; have e3 := sumC_mem ht k; rw [sumC_mid] at e1; omega)
    · rcases List.mem_cons.1 ht with rfl | ht
      · exact h1
      · exact (g3 t (by simp [ht])).keep fun k hk => n3 k ((g3 t (by simp [ht])).lt k hk) (by
          have e1 := hN.cnt k; have e2 := hN.le k; have e3 := sumC_mem ht k; rw [sumC_mid] at e1; omega)
  · rw [g2, hw, hw']
    exact h3.wrap _ _
/-- On the way to a key. -/
structure Way (d lo : Nat) (W : World) (q : Kid) (k : ByteArray) (d' lo' : Nat) (r : Kid) : Prop where
  at_ : At d' lo' W r
  rises : Rises r.xs
  small : Small r.xs
  wand : Wand d lo W q d' lo' r k
  value : valueOf k q.xs = valueOf k r.xs
theorem Way.start {d lo : Nat} {W : World} {q : Kid} (h : At d lo W q) (hr : Rises q.xs) (hs : Small q.xs) (k : ByteArray) : Way d lo W q k d lo q := ⟨h, hr, hs, .refl _ _ _ _ _, rfl⟩
/-- The place of a value. -/
def Spot (d lo : Nat) (W : World) (q : Kid) (k v : ByteArray) (p at_ : Nat) : Prop :=
  ∃ iv bv its, W.heap[p]? = some (.cells #[iv, bv] 101) ∧ Row W 59 2 iv its.length (flat its) ∧ its[at_]? = some (k, v) ∧ its.length ≤ 6 ∧ valueOf k q.xs = some v ∧
    ∀ W' v', Chg (fun k => blk iv k ≠ 0) W W' → Row W' 59 2 iv its.length (flat (its.set at_ (k, v'))) → ∃ ys, At d lo W' ⟨q.p, ys, q.c⟩ ∧ Upd W W' q.c q.c ∧ Rep k v' q.xs ys
theorem Way.spot {d lo : Nat} {W : World} {q : Kid} {k : ByteArray} {d' lo' : Nat} {r : Kid} (h : Way d lo W q k d' lo' r) {iv bv : Value} {its : List It} {kids : List Kid} (hN : Node W r.p iv bv its kids r.c) (hl1 : lo' ≤ its.length) (hl2 : its.length ≤ 6) (hG : Good d' W its kids r.xs) {at_ : Nat} (hp : placeOf k its = (at_, true)) :
    ∃ v, Spot d lo W q k v r.p at_ := by
  obtain ⟨A, B, hAB, hA, _, hB⟩ := placeOf_split k its (hG.rises h.rises)
  rw [hp] at hA hB
  dsimp only at hA
  rcases hB with ⟨_, v, R, rfl⟩ | ⟨e, _⟩
  · subst hAB
    have hitm : (k, v) ∈ A ++ (k, v) :: R := by simp
    have hmem : (k, v) ∈ r.xs := by
      cases d' with
      | zero => obtain ⟨_, e⟩ := hG; rw [e]; exact hitm
      | succ d' => obtain ⟨h1, e, _⟩ := hG; rw [e]; exact (weave_items _ _ _ h1).subset hitm
    refine ⟨v, iv, bv, _, hN.heap, hN.items, by rw [← hA]; simp, hl2, by rw [h.value]; exact valueOf_mem h.rises hmem, fun W' v' hc hrow => ?_⟩
    have hset : (A ++ (k, v) :: R).set at_ (k, v') = A ++ (k, v') :: R := by rw [← hA]; simp
    rw [hset] at hrow
    have hlen : (A ++ (k, v') :: R).length = (A ++ (k, v) :: R).length := by simp
    have hkeep : ∀ j, j < W.heap.size → blk iv j = 0 → W'.heap[j]? = W.heap[j]? := fun j hj h0 => hc.block j hj (by omega)
    have hN' : Node W' r.p iv bv (A ++ (k, v') :: R) kids r.c := by
      refine ⟨?_, by rw [hlen]; exact hrow, hN.below.keep fun j hj => ?_, hN.cnt, hN.le⟩
      · have e1 := hN.cnt r.p; have e2 := hN.le r.p; rw [one_self] at e1
        rw [hkeep r.p hN.lt (by omega)]; exact hN.heap
      · have e1 := hN.cnt j; have e2 := hN.le j
        exact hkeep j (hN.below.lt hj) (by omega)
    have hu : Upd W W' r.c r.c := ⟨hc.mono fun j _ hj => by have e1 := hN.cnt j; omega, hN.le, fun _ _ => Nat.le_refl _⟩
    cases d' with
    | zero =>
      obtain ⟨rfl, e⟩ := hG
      refine h.wand W' (A ++ (k, v') :: R) v' ⟨iv, bv, hN', by rw [hlen]; exact hl1, by rw [hlen]; exact hl2⟩ hu ⟨A, v, R, e, rfl⟩
    | succ d' =>
      obtain ⟨g1, g2, g3⟩ := hG
      obtain ⟨P, Q, hPQ⟩ := weave_item g1
      refine h.wand W' (weave Kid.xs kids (A ++ (k, v') :: R)) v' ⟨iv, bv, A ++ (k, v') :: R, kids, hN', by rw [hlen]; exact g1, by rw [hlen]; exact hl1, by rw [hlen]; exact hl2, rfl, fun s hs => ?_⟩ hu ⟨P, v, Q, by rw [g2, hPQ], hPQ v'⟩
      refine (g3 s hs).keep fun j hj => hkeep j ((g3 s hs).lt j hj) ?_
      have e1 := hN.cnt j; have e2 := hN.le j; have e3 := sumC_mem hs j; omega
  · cases e
/-- The child on the way. -/
theorem Way.down {d lo : Nat} {W : World} {q : Kid} {k : ByteArray} {d' lo' : Nat} {r : Kid} (h : Way d lo W q k (d' + 1) lo' r) {iv bv : Value} {its : List It} {kids : List Kid} (hN : Node W r.p iv bv its kids r.c) (hl1 : lo' ≤ its.length) (hl2 : its.length ≤ 6) (hG : Good (d' + 1) W its kids r.xs) {at_ : Nat} (hp : placeOf k its = (at_, false)) :
    ∃ s, kids[at_]? = some s ∧ Way d lo W q k d' 3 s := by
  obtain ⟨g1, g2, g3⟩ := hG
  have hat := placeOf_le k its
  rw [hp] at hat
  dsimp only at hat
  obtain ⟨A, B, hAB, hA, hA1, hB⟩ := placeOf_split k its (Good.rises (d := d' + 1) ⟨g1, g2, g3⟩ h.rises)
  rw [hp] at hA hB
  dsimp only at hA hB
  have hB1 : ∀ b ∈ B, lt k b.1 = true := by
    rcases hB with ⟨e, _⟩ | ⟨_, e⟩
    · cases e
    · exact e
  subst hAB
  have hk : kids.take A.length ++ (kids[A.length]'(by simp at g1; omega)) :: kids.drop (A.length + 1) = kids := by simp
  obtain ⟨s, hs⟩ : ∃ s, kids[A.length]'(by simp at g1; omega) = s := ⟨_, rfl⟩
  rw [hs] at hk
  obtain ⟨L, hL⟩ : ∃ L, kids.take A.length = L := ⟨_, rfl⟩
  obtain ⟨R, hR⟩ : ∃ R, kids.drop (A.length + 1) = R := ⟨_, rfl⟩
  have hLl : L.length = A.length := by rw [← hL, List.length_take]; simp at g1; omega
  rw [hL, hR] at hk
  subst hk
  have hRl : R.length = B.length := by simp at g1; omega
  have hw := weave_split Kid.xs L A s R B hLl hRl
  rw [← g2] at hw
  have hrx := h.rises
  rw [hw] at hrx
  obtain ⟨hr1, hr2, hr3⟩ := Rises.append.1 hrx
  obtain ⟨hr4, hr5, hr6⟩ := Rises.append.1 hr2
  have hPl := wpre_less Kid.xs k L A hLl hr1 hA1
  have hQl := wpost_more Kid.xs k B R hr5 hB1
  refine ⟨s, by rw [← hA, ← hLl]; simp, g3 s (by simp), hr4, fun i hi => h.small i (by rw [hw]; simp [hi]), ?_, ?_⟩
  · exact h.wand.step h.at_ hN hl1 hl2 ⟨g1, g2, g3⟩ (by rw [hLl]; simp)
  · rw [h.value, hw, valueOf_skip (fun x hx => lt_ne (hPl x hx)), valueOf_drop (fun x hx e => lt_ne (hQl x hx) e.symm)]
theorem Way.none {d lo : Nat} {W : World} {q : Kid} {k : ByteArray} {lo' : Nat} {r : Kid} (h : Way d lo W q k 0 lo' r) {at_ : Nat} (hp : placeOf k r.xs = (at_, false)) : valueOf k q.xs = Option.none := by
  obtain ⟨A, B, hAB, hA, hA1, hB⟩ := placeOf_split k r.xs h.rises
  rw [hp] at hB
  rw [h.value, hAB]
  refine valueOf_none fun x hx e => ?_
  rcases hB with ⟨e, _⟩ | ⟨_, e2⟩
  · cases e
  · rcases List.mem_append.1 hx with hx | hx
    · exact lt_ne (hA1 x hx) e
    · exact lt_ne (e2 x hx) e.symm
end Go.Proofs.YthknenhcnpgkcaaGreat

/- What a shelf holds, as a list: put in, replaced, taken away. Plain lists. -/
namespace Go.Proofs.YthknenhcnpgkcaaGreat
open Go.RowKit
set_option linter.unusedVariables false
def repL (k v : ByteArray) (xs : List It) : List It := xs.map fun i => if i.1 = k then (k, v) else i
def insL (it : It) : List It → List It
  | [] => [it]
  | x :: xs => if lt x.1 it.1 = true then x :: insL it xs else it :: x :: xs
def delL (k : ByteArray) (xs : List It) : List It := xs.filter fun i => decide (i.1 ≠ k)
theorem map_none {k v : ByteArray} {xs : List It} (h : ∀ x ∈ xs, x.1 ≠ k) : xs.map (fun i => if i.1 = k then (k, v) else i) = xs := by
  induction xs with
  | nil => rfl
  | cons x xs ih =>
    rw [List.map_cons, if_neg (h x (by simp)), ih fun y hy => h y (by simp [hy])]
theorem Rep.eq {k v : ByteArray} {xs xs' : List It} (h : Rep k v xs xs') (hr : Rises xs) : xs' = repL k v xs := by
  obtain ⟨A, w, B, rfl, rfl⟩ := h
  obtain ⟨h1, h2, _, _⟩ := hr.mid
  unfold repL
  rw [List.map_append, List.map_cons, map_none (fun x hx => lt_ne (h1 x hx)), map_none (fun x hx e => lt_ne (h2 x hx) e.symm), if_pos rfl]
theorem insL_split {it : It} : ∀ {A B : List It}, (∀ a ∈ A, lt a.1 it.1 = true) → (∀ b ∈ B, lt it.1 b.1 = true) → insL it (A ++ B) = A ++ it :: B
  | [], [], _, _ => rfl
  | [], b :: B, _, hB => by
    rw [List.nil_append, insL, if_neg (by rw [lt_asymm (hB b (by simp))]; simp)]; rfl
  | a :: A, B, hA, hB => by
    rw [List.cons_append, insL, if_pos (hA a (by simp)), insL_split (fun x hx => hA x (by simp [hx])) hB]; rfl
theorem Ins.eq {it : It} {xs xs' : List It} (h : Ins it xs xs') : xs' = insL it xs := by
  obtain ⟨A, B, rfl, rfl, hA, hB⟩ := h
  exact (insL_split hA hB).symm
theorem insL_ins {it : It} {xs : List It} (hr : Rises xs) (hn : ∀ x ∈ xs, x.1 ≠ it.1) : Ins it xs (insL it xs) := by
  induction xs with
  | nil => exact ⟨[], [], rfl, rfl, by simp, by simp⟩
  | cons x xs ih =>
    obtain ⟨h1, h2⟩ := Rises.cons.1 hr
    by_cases c : lt x.1 it.1 = true
    · rw [insL, if_pos c]
      obtain ⟨A, B, e1, e2, hA, hB⟩ := ih h2 fun y hy => hn y (by simp [hy])
      refine ⟨x :: A, B, by rw [e1]; rfl, by rw [e2]; rfl, fun a ha => ?_, hB⟩
      rcases List.mem_cons.1 ha with rfl | ha
      · exact c
      · exact hA a ha
    · rw [insL, if_neg c]
      have hx : lt it.1 x.1 = true := lt_of_not (by simpa using c) (hn x (by simp))
      refine ⟨[], x :: xs, rfl, rfl, by simp, fun b hb => ?_⟩
      rcases List.mem_cons.1 hb with rfl | hb
      · exact hx
      · exact lt_trans hx (h1 b hb)
theorem valueOf_none_iff {k : ByteArray} {xs : List It} : valueOf k xs = none ↔ ∀ x ∈ xs, x.1 ≠ k := by
  refine ⟨fun h x hx e => ?_, valueOf_none⟩
  unfold valueOf at h
  cases hf : xs.find? (fun i => decide (i.1 = k)) with
  | none =>
    rw [List.find?_eq_none] at hf
    exact hf x hx (by simp [e])
  | some i => rw [hf] at h; cases h
theorem insL_length (it : It) (xs : List It) : (insL it xs).length = xs.length + 1 := by
  induction xs with
  | nil => rfl
  | cons x xs ih => rw [insL]; split <;> simp [ih]
theorem repL_length (k v : ByteArray) (xs : List It) : (repL k v xs).length = xs.length := by simp [repL]
/-- What Put says, and what lies there then. -/
def putL (most : Int) (k v : ByteArray) (xs : List It) : Int × List It :=
  if k.size < 1 ∨ 16 < k.size then (3, xs)
  else if 16 < v.size then (4, xs)
  else if (valueOf k xs).isSome then (0, repL k v xs)
  else if most ≤ xs.length then (5, xs)
  else (0, insL (k, v) xs)
theorem putL_rises {most : Int} {k v : ByteArray} {xs : List It} (hr : Rises xs) : Rises (putL most k v xs).2 := by
  unfold putL
  split
  · exact hr
  · split
    · exact hr
    · split
      · rw [rises_map] at hr ⊢
        unfold repL
        rw [List.map_map]
        have : ((fun i : It => i.1) ∘ fun i : It => if i.1 = k then (k, v) else i) = fun i : It => i.1 := by
          funext i
          simp only [Function.comp]
          split
          · rename_i e; exact e.symm
          · rfl
        rw [this]; exact hr
      · split
        · exact hr
        · rename_i hn _
          have : valueOf k xs = none := by
            cases h : valueOf k xs with
            | none => rfl
            | some v => rw [h] at hn; simp at hn
          exact (insL_ins (it := (k, v)) hr (valueOf_none_iff.1 this)).rises hr
end Go.Proofs.YthknenhcnpgkcaaGreat

/- How deep a tree is. Plain. -/
namespace Go.Proofs.YthknenhcnpgkcaaGreat
open Go.RowKit
set_option linter.unusedVariables false
theorem weave_len (X : Kid → List It) (m : Nat) : ∀ (L : List Kid) (A : List It), L.length = A.length + 1 → (∀ q ∈ L, m ≤ (X q).length) → A.length + L.length * m ≤ (weave X L A).length
  | [], _, h, _ => by simp at h
  | [q], [], _, h => by have := h q (by simp); simp [weave]; omega
  | q :: r :: L, [], h, _ => by simp at h
  | [q], _ :: _, h, _ => by simp at h
  | q :: r :: L, i :: A, h, hm => by
    have ih := weave_len X m (r :: L) A (by simpa using h) fun s hs => hm s (by simp [hs])
    have := hm q (by simp)
    simp only [weave, List.length_append, List.length_cons] at ih ⊢
    rw [Nat.add_mul (L.length + 1) 1 m]
    omega
theorem At.count3 : ∀ {d lo : Nat} {W : World} {q : Kid}, At d lo W q → 3 ≤ lo → 4 ^ (d + 1) ≤ q.xs.length + 1
  | 0, lo, W, q, ⟨iv, bv, h, h1, h2⟩, hl => by omega
  | d + 1, lo, W, q, ⟨iv, bv, its, kids, h, h1, h2, h3, h4, h5⟩, hl => by
    have hk : ∀ r ∈ kids, 4 ^ (d + 1) - 1 ≤ r.xs.length := fun r hr => by have := At.count3 (h5 r hr) (Nat.le_refl _); omega
    have hw := weave_len Kid.xs (4 ^ (d + 1) - 1) kids its h1 hk
    rw [← h4] at hw
    have hp : 0 < 4 ^ (d + 1) := Nat.pow_pos (by omega)
    have h6 : 4 * (4 ^ (d + 1) - 1) ≤ kids.length * (4 ^ (d + 1) - 1) := Nat.mul_le_mul_right _ (by omega)
    rw [show d + 1 + 1 = (d + 1) + 1 from rfl, Nat.pow_succ 4 (d + 1)]
    omega
/-- A tree of depth d, whose first node is not empty, has at least 4 ^ d items. -/
theorem At.count {d lo : Nat} {W : World} {q : Kid} (h : At d lo W q) (hl : 1 ≤ lo) : 4 ^ d ≤ q.xs.length := by
  cases d with
  | zero => obtain ⟨iv, bv, h, h1, h2⟩ := h; simp; omega
  | succ d =>
    obtain ⟨iv, bv, its, kids, h, h1, h2, h3, h4, h5⟩ := h
    have hk : ∀ r ∈ kids, 4 ^ (d + 1) - 1 ≤ r.xs.length := fun r hr => by have := At.count3 (h5 r hr) (Nat.le_refl _); omega
    have hw := weave_len Kid.xs (4 ^ (d + 1) - 1) kids its h1 hk
    rw [← h4] at hw
    have hp : 0 < 4 ^ (d + 1) := Nat.pow_pos (by omega)
    have h6 : 2 * (4 ^ (d + 1) - 1) ≤ kids.length * (4 ^ (d + 1) - 1) := Nat.mul_le_mul_right _ (by omega)
    omega
/-- The most levels of so many items. -/
def deepUp : Nat → Nat → Nat
  | 0, _ => 1
  | f + 1, n => if n < 4 then 1 else deepUp f (n / 4) + 1
def deepN (n : Nat) : Nat := if n = 0 then 0 else deepUp n n
theorem deepUp_le : ∀ (d f n : Nat), 4 ^ d ≤ n → d ≤ f → d + 1 ≤ deepUp f n
  | 0, f, n, _, _ => by
    cases f with
    | zero => simp [deepUp]
    | succ f => rw [deepUp]; split <;> omega
  | d + 1, 0, n, _, h => by omega
  | d + 1, f + 1, n, h, hf => by
    have hp : 1 ≤ 4 ^ d := Nat.pow_pos (by omega)
    rw [Nat.pow_succ] at h
    rw [deepUp, if_neg (by omega)]
    have := deepUp_le d f (n / 4) (by omega) (by omega)
    omega
theorem deepN_le {d n : Nat} (h : 4 ^ d ≤ n) : d + 1 ≤ deepN n := by
  have hp : 1 ≤ 4 ^ d := Nat.pow_pos (by omega)
  unfold deepN
  rw [if_neg (by omega)]
  refine deepUp_le d n n h ?_
  have : d < 4 ^ d := Nat.lt_pow_self (by omega)
  omega
end Go.Proofs.YthknenhcnpgkcaaGreat

/- Contracts of package shelf: leaf, place. -/
namespace Go.Proofs.YthknenhcnpgkcaaGreat
open Go.RowKit
theorem less_is (a b : ByteArray) (ha : a.size ≤ maxLen) (hb : b.size ≤ maxLen) (r : Bool) (hr : Op.bytesLess a.data.toList b.data.toList = r) (w : World) :
    Calls Tryz.prog 27 #[.string a, .string b] w (Makes (.bool r) w) := by subst hr; exact less_any a b ha hb w
theorem leaf_is (W : World) (p : Nat) (iv : Value) (ao : Option Addr) (n c : Nat) (hp : W.heap[p]? = some (.cells #[iv, .slice ao n c] 101)) (r : Bool) (hr : ((n : Int) == 0) = r) :
    Calls Tryz.prog 89 #[.pointer (some ⟨p, 0, none⟩)] W (Makes (.bool r) W) := by
  have hc := fun i => cell_of_row W p i _ _ (0, 0) hp
  cases r
  all_goals
    go_enter Tryz.func89, Tryz.ntmps89
    go_wp2_with (first | (((with_reducible refine wp_region_fut_lit (by kernel_rfl) (by kernel_rfl) ?_)); (repeat (go_big_quiet_step ((first | fail)))); ((with_reducible refine wpQuiet_nil ?_)); rintro _ ⟨u, rfl⟩; (try (rw [Fut.put_self u (by first | assumption | (simp [go_sem]; done) | (simp [go_sem]; omega))]))))
    go_ret; exact .mk (by first | rfl | (simp; done) | (simp; omega)) (by repeat' (first | exact Below.refl _ _ | with_reducible assumption | omega | with_reducible refine below_put_fut ?_ ?_ _ | with_reducible refine below_to_put ?_ | with_reducible refine Below.alloc ?_ ?_ _ | with_reducible refine Below.fut ?_ ?_ _ | with_reducible refine Below.drew ?_ | with_reducible refine Below.setCell ?_ ?_ _ | with_reducible refine Below.atPut ?_ ?_ _ | (simp [go_sem]; done) | (simp [go_sem]; omega)))
def PlaceAt (k : ByteArray) (its : List It) (i : Nat) : Prop := placeOf k its = ((placeOf k (its.drop i)).1 + i, (placeOf k (its.drop i)).2)
theorem PlaceAt.zero (k : ByteArray) (its : List It) : PlaceAt k its 0 := by simp [PlaceAt]
theorem PlaceAt.stop {k : ByteArray} {its : List It} (h : PlaceAt k its its.length) : placeOf k its = (its.length, false) := by
  unfold PlaceAt at h
  rw [List.drop_length] at h
  simpa [placeOf] using h
theorem PlaceAt.here {k : ByteArray} {its : List It} {i : Nat} {x : It} (h : PlaceAt k its i) (hx : its[i]? = some x) (e : x.1 = k) : placeOf k its = (i, true) := by
  unfold PlaceAt at h
  obtain ⟨hl, rfl⟩ := List.getElem?_eq_some_iff.1 hx
  rw [List.drop_eq_getElem_cons hl, placeOf, if_pos e] at h
  simpa using h
theorem PlaceAt.ahead {k : ByteArray} {its : List It} {i : Nat} {x : It} (h : PlaceAt k its i) (hx : its[i]? = some x) (e : x.1 ≠ k) (hl : lt k x.1 = true) : placeOf k its = (i, false) := by
  unfold PlaceAt at h
  obtain ⟨hl', rfl⟩ := List.getElem?_eq_some_iff.1 hx
  rw [List.drop_eq_getElem_cons hl', placeOf, if_neg e, if_pos hl] at h
  simpa using h
theorem PlaceAt.succ {k : ByteArray} {its : List It} {i : Nat} {x : It} (h : PlaceAt k its i) (hx : its[i]? = some x) (e : x.1 ≠ k) (hl : lt k x.1 = false) : PlaceAt k its (i + 1) := by
  unfold PlaceAt at *
  obtain ⟨hl', rfl⟩ := List.getElem?_eq_some_iff.1 hx
  rw [List.drop_eq_getElem_cons hl', placeOf, if_neg e, if_neg (by simp [hl])] at h
  rw [h, Nat.add_right_comm]; rfl
set_option maxRecDepth 100000 in
set_option maxHeartbeats 4000000 in
theorem place_is (W : World) (p : Nat) (iv bv : Value) (its : List It) (k : ByteArray) (hp : W.heap[p]? = some (.cells #[iv, bv] 101)) (hi : Row W 59 2 iv its.length (flat its))
    (hn : its.length ≤ 1000) (hk : k.size ≤ maxLen) (hs : ∀ i ∈ its, i.1.size ≤ maxLen) (at_ : Nat) (is : Bool) (hr : placeOf k its = (at_, is)) :
    Calls Tryz.prog 88 #[.pointer (some ⟨p, 0, none⟩), .string k] W (Makes (.tuple #[.int .i64 at_, .bool is]) W) := by
  obtain ⟨ao, cap, rfl⟩ := owns_slice hi
  have hc := fun i => cell_of_row W p i _ _ (0, 0) hp
  have hpl := lt_of_heap hp
  have HR := hid hr
  have HS := hid hs
  have HI := hid hi
  clear hp hi hr hs
  generalize hlen : its.length = len at hn HI hc ⊢
  have HL := hid hlen
  clear hlen
  go_enter Tryz.func88, Tryz.ntmps88
  go_wp2
  go_step3
  go_wp2
  go_step3
  go_wp2
  go_loopw [6, 7, 20] (fun a b x wr => ∃ i : Nat, i ≤ len ∧ x = .int .i64 i ∧ a = .int .i64 len ∧ b = .bool false ∧ Hid (PlaceAt k its i) ∧ ∃ u : Fut W, wr = u.val) (fun _ _ x _ => len - (intOf x).toNat)
  case atStart => exact ⟨0, Nat.zero_le _, rfl, rfl, rfl, hid (.zero k its), ⟨⟨_, (by repeat' (first | exact Below.refl _ _ | with_reducible assumption | omega | with_reducible refine below_put_fut ?_ ?_ _ | with_reducible refine below_to_put ?_ | with_reducible refine Below.alloc ?_ ?_ _ | with_reducible refine Below.fut ?_ ?_ _ | with_reducible refine Below.drew ?_ | with_reducible refine Below.setCell ?_ ?_ _ | with_reducible refine Below.atPut ?_ ?_ _ | (simp [go_sem]; done) | (simp [go_sem]; omega)))⟩, rfl⟩⟩
  case round =>
    obtain ⟨i, hi, rfl, rfl, rfl, hP, u, rfl⟩ := hrel
    by_cases hlt : i < len
    · obtain ⟨x, hx⟩ : ∃ x, its[i]? = some x := ⟨its[i]'(by rw [HL.out]; exact hlt), List.getElem?_eq_getElem _⟩
      have hsx := HS.out x (List.mem_of_getElem? hx)
      obtain ⟨r, cap', hv, _, hrl⟩ := HI.out.form (by omega)
      obtain rfl : ao = some ⟨r, 0, none⟩ := by injection hv
      have hf := flat_at its i x hx
      have q0 : W.cell? ⟨r, i * 2, none⟩ = some (.string x.1) := by
        rw [HI.out.cellAt _ (by omega), ← hf.1]; congr 1; omega
      have q1 : W.cell? ⟨r, i * 2 + 1, none⟩ = some (.string x.2) := by
        rw [HI.out.cellAt _ (by omega), ← hf.2]; congr 1; omega
      have HX := hid hx
      clear hf hx hv
      obtain ⟨a, b⟩ := x
      simp only at q0 q1 hsx
      by_cases e : a = k
      · have HR2 := hid (hP.out.here HX.out e)
        subst e
        clear hP
        go_wp2_with (first | (((with_reducible refine wp_region_fut_lit (by kernel_rfl) (by kernel_rfl) ?_)); (repeat (go_big_quiet_step ((first | fail)))); ((with_reducible refine wpQuiet_nil ?_)); rintro _ ⟨u, rfl⟩; (try (rw [Fut.put_self u (by first | assumption | (simp [go_sem]; done) | (simp [go_sem]; omega))]))))
        (try (rw [Exit.noGoto_ret]))
        go_ret2
        rw [HR2.out] at HR
        obtain ⟨rfl, rfl⟩ := Prod.mk.inj HR.out
        exact .mk rfl (by repeat' (first | exact Below.refl _ _ | with_reducible assumption | omega | with_reducible refine below_put_fut ?_ ?_ _ | with_reducible refine below_to_put ?_ | with_reducible refine Below.alloc ?_ ?_ _ | with_reducible refine Below.fut ?_ ?_ _ | with_reducible refine Below.drew ?_ | with_reducible refine Below.setCell ?_ ?_ _ | with_reducible refine Below.atPut ?_ ?_ _ | (simp [go_sem]; done) | (simp [go_sem]; omega)))
      · have e1 : (a.toList == k.toList) = false := by
          rw [ByteArray.toList_eq, ByteArray.toList_eq]
          simpa using fun h => e (ba_ext h)
        cases hlt2 : lt k a
        · have HR2 := hid (hP.out.succ HX.out e hlt2)
          have hq : Op.bytesLess k.data.toList a.data.toList = false := hlt2
          clear hP e hlt2
          go_wp2_with (first | (go_at_call 27; ((with_reducible refine (less_is _ _ hk hsx _ hq _).mono ?_)); rintro _ _ ⟨rfl, u, rfl⟩; (try (rw [Fut.put_self u (by first | assumption | (simp [go_sem]; done) | (simp [go_sem]; omega))]))) | (((with_reducible refine wp_region_fut_lit (by kernel_rfl) (by kernel_rfl) ?_)); (repeat (go_big_quiet_step ((first | (go_at_call 27; with_reducible exact Calls.fut_of (less_is _ _ hk hsx _ hq _)))))); ((with_reducible refine wpQuiet_nil ?_)); rintro _ ⟨u, rfl⟩; (try (rw [Fut.put_self u (by first | assumption | (simp [go_sem]; done) | (simp [go_sem]; omega))]))))
          go_roundw
          case rel => exact ⟨i + 1, by omega, by go_num, rfl, rfl, HR2, ⟨⟨_, (by repeat' (first | exact Below.refl _ _ | with_reducible assumption | omega | with_reducible refine below_put_fut ?_ ?_ _ | with_reducible refine below_to_put ?_ | with_reducible refine Below.alloc ?_ ?_ _ | with_reducible refine Below.fut ?_ ?_ _ | with_reducible refine Below.drew ?_ | with_reducible refine Below.setCell ?_ ?_ _ | with_reducible refine Below.atPut ?_ ?_ _ | (simp [go_sem]; done) | (simp [go_sem]; omega)))⟩, rfl⟩⟩
          case measure => simp [intOf]; omega
        · have HR2 := hid (hP.out.ahead HX.out e hlt2)
          have hq : Op.bytesLess k.data.toList a.data.toList = true := hlt2
          clear hP e hlt2
          go_wp2_with (first | (go_at_call 27; ((with_reducible refine (less_is _ _ hk hsx _ hq _).mono ?_)); rintro _ _ ⟨rfl, u, rfl⟩; (try (rw [Fut.put_self u (by first | assumption | (simp [go_sem]; done) | (simp [go_sem]; omega))]))) | (((with_reducible refine wp_region_fut_lit (by kernel_rfl) (by kernel_rfl) ?_)); (repeat (go_big_quiet_step ((first | (go_at_call 27; with_reducible exact Calls.fut_of (less_is _ _ hk hsx _ hq _)))))); ((with_reducible refine wpQuiet_nil ?_)); rintro _ ⟨u, rfl⟩; (try (rw [Fut.put_self u (by first | assumption | (simp [go_sem]; done) | (simp [go_sem]; omega))]))))
          (try (rw [Exit.noGoto_ret]))
          go_ret2
          rw [HR2.out] at HR
          obtain ⟨rfl, rfl⟩ := Prod.mk.inj HR.out
          exact .mk rfl (by repeat' (first | exact Below.refl _ _ | with_reducible assumption | omega | with_reducible refine below_put_fut ?_ ?_ _ | with_reducible refine below_to_put ?_ | with_reducible refine Below.alloc ?_ ?_ _ | with_reducible refine Below.fut ?_ ?_ _ | with_reducible refine Below.drew ?_ | with_reducible refine Below.setCell ?_ ?_ _ | with_reducible refine Below.atPut ?_ ?_ _ | (simp [go_sem]; done) | (simp [go_sem]; omega)))
    · obtain rfl : i = len := by omega
      have HR2 := hid (show placeOf k its = (i, false) by
        have := hP.out
        have hl := HL.out
        rw [← hl] at this ⊢
        exact this.stop)
      clear hP
      go_wp2_with (first | (((with_reducible refine wp_region_fut_lit (by kernel_rfl) (by kernel_rfl) ?_)); (repeat (go_big_quiet_step ((first | fail)))); ((with_reducible refine wpQuiet_nil ?_)); rintro _ ⟨u, rfl⟩; (try (rw [Fut.put_self u (by first | assumption | (simp [go_sem]; done) | (simp [go_sem]; omega))]))))
      (try (rw [Exit.noGoto_ret]))
      go_ret2
      rw [HR2.out] at HR
      obtain ⟨rfl, rfl⟩ := Prod.mk.inj HR.out
      exact .mk rfl (by repeat' (first | exact Below.refl _ _ | with_reducible assumption | omega | with_reducible refine below_put_fut ?_ ?_ _ | with_reducible refine below_to_put ?_ | with_reducible refine Below.alloc ?_ ?_ _ | with_reducible refine Below.fut ?_ ?_ _ | with_reducible refine Below.drew ?_ | with_reducible refine Below.setCell ?_ ?_ _ | with_reducible refine Below.atPut ?_ ?_ _ | (simp [go_sem]; done) | (simp [go_sem]; omega)))
end Go.Proofs.YthknenhcnpgkcaaGreat
