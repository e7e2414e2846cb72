import Derived.Test.YthknenhcnpgkcaaNode2
/- A node that is too wide is cut in two. -/
namespace Go.Proofs.Ythknenhcnpgkcaa
set_option linter.unusedVariables false
set_option linter.unusedSimpArgs false
open Go.RowKit
theorem weave_cut {α : Type} (X : α → List It) (u : It) : ∀ (KA : List α) (A : List It) (KB : List α) (B : List It), KA.length = A.length + 1 → weave X (KA ++ KB) (A ++ u :: B) = weave X KA A ++ u :: weave X KB B
  | [], _, _, _, h => by simp at h
  | [q], [], [], B, _ => by cases B <;> simp [weave]
  | [q], [], k :: KB, B, _ => by simp [weave]
  | [q], _ :: _, _, _, h => by simp at h
  | q :: r :: KA, [], _, _, h => by simp at h
  | q :: r :: KA, a :: A, KB, B, h => by
    have := weave_cut X u (r :: KA) A KB B (by simpa using h)
    simp only [List.cons_append] at this ⊢
    simp [weave, this]
theorem ptrs_append (a b : List Kid) : ptrs (a ++ b) = ptrs a ++ ptrs b := by simp [ptrs]
/-- d tells whether there are children: of the two halves. -/
theorem Good.cut {d : Nat} {W : World} {A B : List It} {u : It} {kids : List Kid} {xs : List It} (h : Good d W (A ++ u :: B) kids xs) :
    ∃ KA KB xa xb, kids = KA ++ KB ∧ xs = xa ++ u :: xb ∧ (d = 0 → KA = [] ∧ KB = []) ∧ (d ≠ 0 → KA.length = A.length + 1 ∧ KB.length = B.length + 1) ∧
      (∀ W', (∀ r ∈ kids, ∀ k, r.c k ≠ 0 → W'.heap[k]? = W.heap[k]?) → Good d W' A KA xa ∧ Good d W' B KB xb) ∧ (∀ r ∈ kids, ∀ k, r.c k ≠ 0 → k < W.heap.size) := by
  cases d with
  | zero =>
    obtain ⟨rfl, rfl⟩ := h
    exact ⟨[], [], A, B, rfl, rfl, fun _ => ⟨rfl, rfl⟩, fun h => absurd rfl h, fun W' _ => ⟨⟨rfl, rfl⟩, ⟨rfl, rfl⟩⟩, fun r hr => by cases hr⟩
  | succ d =>
    obtain ⟨hl, rfl, hk⟩ := h
    have hl' : kids.length = A.length + 1 + (B.length + 1) := by simp at hl; omega
    refine ⟨kids.take (A.length + 1), kids.drop (A.length + 1), weave Kid.xs (kids.take (A.length + 1)) A, weave Kid.xs (kids.drop (A.length + 1)) B, (List.take_append_drop _ _).symm, ?_, fun h => absurd h (Nat.succ_ne_zero d), fun _ => ⟨by rw [List.length_take]; omega, by rw [List.length_drop]; omega⟩, fun W' hW => ⟨⟨by rw [List.length_take]; omega, rfl, fun r hr => ?_⟩, ⟨by rw [List.length_drop]; omega, rfl, fun r hr => ?_⟩⟩, fun r hr => (hk r hr).lt⟩
    · rw [← weave_cut Kid.xs u _ _ _ _ (by rw [List.length_take]; omega), List.take_append_drop]
    · exact (hk r (List.mem_of_mem_take hr)).keep (hW r (List.mem_of_mem_take hr))
    · exact (hk r (List.mem_of_mem_drop hr)).keep (hW r (List.mem_of_mem_drop hr))
/-- The two nodes, when all is done. -/
theorem split_fin {d lo : Nat} {W wc W' : World} {q : Kid} {iv bv cvA bvA cvB bvB : Value} {A B : List It} {u : It} {kids KA KB : List Kid} {c xs' : _} {xa xb : List It} {B4 R2 : Nat}
    (hN : Node wc q.p iv bv (A ++ u :: B) kids c) (hU : Upd W wc q.c c) (hlt : ∀ k, c k ≠ 0 → k < wc.heap.size) (hpW : q.p < W.heap.size) (hB4 : W.heap.size ≤ B4) (hc4 : c B4 = 0) (hk : kids = KA ++ KB)
    (hG : ∀ W', (∀ r ∈ kids, ∀ k, r.c k ≠ 0 → W'.heap[k]? = wc.heap[k]?) → Good d W' A KA xa ∧ Good d W' B KB xb) (_hx : xs' = xa ++ u :: xb) (hA : A.length = 3) (hB : B.length = 3) (_ : lo ≤ 3)
    (hos : W'.os = wc.os) (htp : W'.tape = wc.tape) (hout : W'.output = wc.output) (hsz : wc.heap.size ≤ W'.heap.size) (hkeep : ∀ k, k < wc.heap.size → k ≠ q.p → k ≠ B4 → W'.heap[k]? = wc.heap[k]?)
    (hp : W'.heap[q.p]? = some (.cells #[cvA, bvA] 118)) (hR : W'.heap[R2]? = some (.cells #[cvB, bvB] 118))
    (rA : Row W' 34 2 cvA 3 (flat A)) (rB : Row W' 34 2 cvB 3 (flat B)) (rKA : Row W' 110 1 bvA KA.length (ptrs KA)) (rKB : Row W' 110 1 bvB KB.length (ptrs KB))
    (hold : ∀ k, k < wc.heap.size → one R2 k + (blk cvA k + (blk cvB k + (blk bvA k + blk bvB k))) ≤ blk bv k) (hone : ∀ k, wc.heap.size ≤ k → one R2 k + (blk cvA k + (blk cvB k + (blk bvA k + blk bvB k))) ≤ 1) :
    ∃ c1 cr, At d 3 W' ⟨q.p, xa, c1⟩ ∧ At d 3 W' ⟨R2, xb, cr⟩ ∧ Upd W W' q.c (fun k => c1 k + cr k) := by
  subst hk
  have hcnt : ∀ k, c k = one q.p k + (blk iv k + (blk bv k + (sumC KA k + sumC KB k))) := fun k => by rw [hN.cnt k, sumC_append]
  have hz : ∀ k, wc.heap.size ≤ k → c k = 0 := fun k hk => by
    rcases Nat.eq_zero_or_pos (c k) with e | e
    · exact e
    · exact absurd (hlt k (by omega)) (by omega)
  have hle : ∀ k, (one q.p k + (blk cvA k + (blk bvA k + sumC KA k))) + (one R2 k + (blk cvB k + (blk bvB k + sumC KB k))) ≤ 1 := by
    intro k
    have h1 := hcnt k; have h2 := hN.le k
    rcases Nat.lt_or_ge k wc.heap.size with hk | hk
    · have := hold k hk; omega
    · have := hone k hk; have := hz k hk; omega
  have hkids : ∀ r ∈ KA ++ KB, ∀ k, r.c k ≠ 0 → W'.heap[k]? = wc.heap[k]? := fun r hr k hk => by
    have h1 := hcnt k; have h2 := hN.le k; have h3 := sumC_mem hr k
    rw [sumC_append] at h3
    exact hkeep k (hlt k (by omega)) (fun e => by subst e; rw [one_self] at h1; omega) (fun e => by subst e; omega)
  obtain ⟨gA, gB⟩ := hG W' hkids
  refine ⟨_, _, At.of_node (q := ⟨q.p, xa, _⟩) ⟨hp, by rw [hA]; exact rA, rKA, fun k => rfl, fun k => Nat.le_trans (Nat.le_add_right _ _) (hle k)⟩ (by omega) (by omega) gA, At.of_node (q := ⟨R2, xb, _⟩) ⟨hR, by rw [hB]; exact rB, rKB, fun k => rfl, fun k => Nat.le_trans (Nat.le_add_left _ _) (hle k)⟩ (by omega) (by omega) gB, ⟨⟨hos.trans hU.chg.os, htp.trans hU.chg.tape, hout.trans hU.chg.output, Nat.le_trans hU.chg.size hsz, fun k hk hn => ?_⟩, fun k => hle k, fun k hk => ?_⟩⟩
  · have h1 := hcnt k
    have h5 := hU.old k hk
    rw [hkeep k (Nat.lt_of_lt_of_le hk hU.chg.size) (fun e => by subst e; rw [one_self] at h1; omega) (by omega)]
    exact hU.chg.block k hk hn
  · have h1 := hcnt k; have h5 := hU.old k hk; have := hold k (Nat.lt_of_lt_of_le hk hU.chg.size)
    show (one q.p k + _) + (one R2 k + _) ≤ _
    omega
end Go.Proofs.Ythknenhcnpgkcaa
