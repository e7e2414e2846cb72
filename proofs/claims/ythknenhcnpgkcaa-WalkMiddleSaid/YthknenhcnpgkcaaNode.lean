import Derived.Test.YthknenhcnpgkcaaCnt
import Derived.Test.YthknenhcnpgkcaaFlat
/- The tree in memory: a node, what is below it, whose blocks are whose. -/
namespace Go.Proofs.Ythknenhcnpgkcaa
open Go.RowKit
/-- What is below a node at one place: where it lies, the items, whose blocks. -/
structure Kid where
  p : Nat
  xs : List It
  c : Cnt
def Kid.v (q : Kid) : Value := .pointer (some ⟨q.p, 0, none⟩)
def sumC : List Kid → Cnt
  | [], _ => 0
  | q :: r, k => q.c k + sumC r k
theorem sumC_append : ∀ (a b : List Kid) (k : Nat), sumC (a ++ b) k = sumC a k + sumC b k
  | [], _, _ => by simp [sumC]
  | q :: a, b, k => by simp [sumC, sumC_append a b k]; omega
theorem sumC_mem {q : Kid} : ∀ {l : List Kid}, q ∈ l → ∀ k, q.c k ≤ sumC l k
  | r :: l, h, k => by
    simp only [sumC]
    rcases List.mem_cons.1 h with rfl | h
    · omega
    · have := sumC_mem h k; omega
def ptrs (l : List Kid) : List Value := l.map Kid.v
/-- A node in memory. -/
structure Node (W : World) (p : Nat) (iv bv : Value) (its : List It) (kids : List Kid) (c : Cnt) : Prop where
  heap : W.heap[p]? = some (.cells #[iv, bv] 118)
  items : Row W 34 2 iv its.length (flat its)
  below : Row W 110 1 bv kids.length (ptrs kids)
  cnt : ∀ k, c k = one p k + (blk iv k + (blk bv k + sumC kids k))
  le : ∀ k, c k ≤ 1
/-- A tree of depth d below q: at least so many items in its first node. -/
def At : Nat → Nat → World → Kid → Prop
  | 0, lo, W, q => ∃ iv bv, Node W q.p iv bv q.xs [] q.c ∧ lo ≤ q.xs.length ∧ q.xs.length ≤ 6
  | d + 1, lo, W, q => ∃ iv bv its kids, Node W q.p iv bv its kids q.c ∧ kids.length = its.length + 1 ∧ lo ≤ its.length ∧ its.length ≤ 6 ∧ q.xs = weave Kid.xs kids its ∧ ∀ r ∈ kids, At d 3 W r
theorem Node.lt {W : World} {p : Nat} {iv bv : Value} {its : List It} {kids : List Kid} {c : Cnt} (h : Node W p iv bv its kids c) : p < W.heap.size := lt_of_heap h.heap
theorem Node.keep {W W' : World} {p : Nat} {iv bv : Value} {its : List It} {kids : List Kid} {c : Cnt} (h : Node W p iv bv its kids c) (hh : ∀ k, c k ≠ 0 → W'.heap[k]? = W.heap[k]?) : Node W' p iv bv its kids c :=
  ⟨by rw [hh p (by have := h.cnt p; rw [one_self] at this; omega)]; exact h.heap, h.items.keep fun k hk => hh k (by have := h.cnt k; omega), h.below.keep fun k hk => hh k (by have := h.cnt k; omega), h.cnt, h.le⟩
theorem Node.kid {W : World} {p : Nat} {iv bv : Value} {its : List It} {kids : List Kid} {c : Cnt} (h : Node W p iv bv its kids c) {q : Kid} (hq : q ∈ kids) (k : Nat) : q.c k ≤ c k := by
  have := sumC_mem hq k; have := h.cnt k; omega
theorem At.keep : ∀ {d lo : Nat} {W W' : World} {q : Kid}, At d lo W q → (∀ k, q.c k ≠ 0 → W'.heap[k]? = W.heap[k]?) → At d lo W' q
  | 0, lo, W, W', q, ⟨iv, bv, h, h1, h2⟩, hh => ⟨iv, bv, h.keep hh, h1, h2⟩
  | d + 1, lo, W, W', q, ⟨iv, bv, its, kids, h, h1, h2, h3, h4, h5⟩, hh => ⟨iv, bv, its, kids, h.keep hh, h1, h2, h3, h4, fun r hr => At.keep (h5 r hr) fun k hk => hh k (by have := h.kid hr k; omega)⟩
theorem At.le : ∀ {d lo : Nat} {W : World} {q : Kid}, At d lo W q → ∀ k, q.c k ≤ 1
  | 0, _, _, _, ⟨_, _, h, _, _⟩, k => h.le k
  | _ + 1, _, _, _, ⟨_, _, _, _, h, _⟩, k => h.le k
theorem sumC_ne : ∀ {l : List Kid} {k : Nat}, sumC l k ≠ 0 → ∃ q ∈ l, q.c k ≠ 0
  | [], k, h => (h rfl).elim
  | q :: l, k, h => by
    by_cases e : q.c k = 0
    · obtain ⟨r, hr, h'⟩ := sumC_ne (l := l) (k := k) (by simp only [sumC] at h; omega)
      exact ⟨r, by simp [hr], h'⟩
    · exact ⟨q, by simp, e⟩
theorem At.lt : ∀ {d lo : Nat} {W : World} {q : Kid}, At d lo W q → ∀ k, q.c k ≠ 0 → k < W.heap.size
  | 0, lo, W, q, ⟨iv, bv, h, _, _⟩, k, hk => by
    have := h.cnt k
    simp only [sumC] at this
    by_cases e1 : one q.p k = 0
    · by_cases e2 : blk iv k = 0
      · exact h.below.lt (k := k) (by omega)
      · exact h.items.lt e2
    · rw [one_ne e1]; exact h.lt
  | d + 1, lo, W, q, ⟨iv, bv, its, kids, h, _, _, _, _, h5⟩, k, hk => by
    have := h.cnt k
    by_cases e1 : one q.p k = 0
    · by_cases e2 : blk iv k = 0
      · by_cases e3 : blk bv k = 0
        · obtain ⟨r, hr, h'⟩ := sumC_ne (l := kids) (k := k) (by omega)
          exact At.lt (h5 r hr) k h'
        · exact h.below.lt e3
      · exact h.items.lt e2
    · rw [one_ne e1]; exact h.lt
theorem At.mono {d lo lo' : Nat} {W : World} {q : Kid} (h : At d lo W q) (hl : lo' ≤ lo) : At d lo' W q := by
  cases d with
  | zero => obtain ⟨iv, bv, h, h1, h2⟩ := h; exact ⟨iv, bv, h, by omega, h2⟩
  | succ d => obtain ⟨iv, bv, its, kids, h, h1, h2, h3⟩ := h; exact ⟨iv, bv, its, kids, h, h1, by omega, h3⟩
/-- What is in a node, whether it is a leaf or not: d tells. -/
def Good : Nat → World → List It → List Kid → List It → Prop
  | 0, _, its, kids, xs => kids = [] ∧ xs = its
  | d + 1, W, its, kids, xs => kids.length = its.length + 1 ∧ xs = weave Kid.xs kids its ∧ ∀ r ∈ kids, At d 3 W r
theorem At.node {d lo : Nat} {W : World} {q : Kid} (h : At d lo W q) : ∃ iv bv its kids, Node W q.p iv bv its kids q.c ∧ lo ≤ its.length ∧ its.length ≤ 6 ∧ Good d W its kids q.xs := by
  cases d with
  | zero => obtain ⟨iv, bv, h, h1, h2⟩ := h; exact ⟨iv, bv, q.xs, [], h, h1, h2, rfl, rfl⟩
  | succ d => obtain ⟨iv, bv, its, kids, h, h1, h2, h3, h4, h5⟩ := h; exact ⟨iv, bv, its, kids, h, h2, h3, h1, h4, h5⟩
theorem At.of_node {d lo : Nat} {W : World} {q : Kid} {iv bv : Value} {its : List It} {kids : List Kid} (h : Node W q.p iv bv its kids q.c) (h1 : lo ≤ its.length) (h2 : its.length ≤ 6) (h3 : Good d W its kids q.xs) : At d lo W q := by
  cases d with
  | zero => obtain ⟨rfl, e⟩ := h3; subst e; exact ⟨iv, bv, h, h1, h2⟩
  | succ d => exact ⟨iv, bv, its, kids, h, h3.1, h1, h2, h3.2.1, h3.2.2⟩
theorem Good.rises {d : Nat} {W : World} {its xs : List It} {kids : List Kid} (h : Good d W its kids xs) (hr : Rises xs) : Rises its := by
  cases d with
  | zero => obtain ⟨_, rfl⟩ := h; exact hr
  | succ d => obtain ⟨h1, rfl, _⟩ := h; exact hr.sub (weave_items _ _ _ h1)
end Go.Proofs.Ythknenhcnpgkcaa
