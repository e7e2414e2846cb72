import Derived.Test.YthknenhcnpgkcaaNode
/- A node whose child has changed, or has become two. -/
namespace Go.Proofs.Ythknenhcnpgkcaa
open Go.RowKit
theorem Upd.of_below {W Wc W5 : World} {c c5 : Cnt} (hb : Below W.heap.size W Wc) (hu : Upd Wc W5 c c5) : Upd W W5 c c5 :=
  ⟨(Chg.of_below hb).trans hu.chg (fun _ _ h => h), hu.le, fun k hk => hu.old k (Nat.lt_of_lt_of_le hk hb.size)⟩
theorem Upd.below {W W5 W6 : World} {c c5 : Cnt} (hu : Upd W W5 c c5) (hb : Below W5.heap.size W5 W6) : Upd W W6 c c5 :=
  ⟨hu.chg.trans (Chg.of_below (S := fun k => c k ≠ 0) hb) (fun _ _ h => h), hu.le, hu.old⟩
theorem sumC_mid (L R : List Kid) (r : Kid) (k : Nat) : sumC (L ++ r :: R) k = sumC L k + (r.c k + sumC R k) := by rw [sumC_append]; rfl
theorem sumC_mid2 (L R : List Kid) (r s : Kid) (k : Nat) : sumC (L ++ r :: s :: R) k = sumC L k + (r.c k + (s.c k + sumC R k)) := by rw [sumC_append]; rfl
theorem ptrs_mid (L R : List Kid) (r r' : Kid) (h : r'.p = r.p) : ptrs (L ++ r' :: R) = ptrs (L ++ r :: R) := by simp [ptrs, Kid.v, h]
theorem Node.setKid {W W5 : World} {p : Nat} {iv bv : Value} {its : List It} {L R : List Kid} {r r5 : Kid} {c c5 : Cnt} (h : Node W p iv bv its (L ++ r :: R) c) (hlt : ∀ k, c k ≠ 0 → k < W.heap.size) (hu : Upd W W5 r.c c5) (hp : r5.p = r.p) (hc : ∀ k, r5.c k ≤ c5 k) :
    Node W5 p iv bv its (L ++ r5 :: R) (fun k => one p k + (blk iv k + (blk bv k + sumC (L ++ r5 :: R) k))) ∧ Upd W W5 c (fun k => one p k + (blk iv k + (blk bv k + sumC (L ++ r5 :: R) k))) ∧ (∀ k, k < W.heap.size → r.c k = 0 → W5.heap[k]? = W.heap[k]?) := by
  have hcnt : ∀ k, c k = one p k + (blk iv k + (blk bv k + (sumC L k + (r.c k + sumC R k)))) := fun k => by rw [h.cnt k, sumC_mid]
  have hkeep : ∀ k, k < W.heap.size → r.c k = 0 → W5.heap[k]? = W.heap[k]? := fun k hk h0 => hu.chg.block k hk (by omega)
  have h0 : ∀ k, W.heap.size ≤ k → c k = 0 := fun k hk => by
    rcases Nat.eq_zero_or_pos (c k) with e | e
    · exact e
    · exact absurd (hlt k (by omega)) (by omega)
  have hle : ∀ k, one p k + (blk iv k + (blk bv k + sumC (L ++ r5 :: R) k)) ≤ 1 := by
    intro k
    rw [sumC_mid]
    have h1 := hcnt k; have h2 := h.le k; have h3 := hc k; have h4 := hu.le k
    rcases Nat.lt_or_ge k W.heap.size with hk | hk
    · have h5 := hu.old k hk; omega
    · have h5 := h0 k hk; omega
  refine ⟨⟨?_, h.items.keep fun k hk => ?_, ?_, fun k => rfl, hle⟩, ⟨?_, hle, fun k hk => ?_⟩, hkeep⟩
  · have h1 := hcnt p; have h2 := h.le p; rw [one_self] at h1
    rw [hkeep p h.lt (by omega)]; exact h.heap
  · have h1 := hcnt k; have h2 := h.le k
    exact hkeep k (h.items.lt hk) (by omega)
  · rw [ptrs_mid L R r r5 hp]
    have e : (L ++ r5 :: R).length = (L ++ r :: R).length := by simp
    rw [e]
    exact h.below.keep fun k hk => by
      have h1 := hcnt k; have h2 := h.le k
      exact hkeep k (h.below.lt hk) (by omega)
  · exact hu.chg.mono fun k _ hk => by have h1 := hcnt k; omega
  · simp only [sumC_mid]
    have h1 := hcnt k; have h3 := hc k; have h5 := hu.old k hk; omega
theorem Node.split2 {W W5 W6 W8 W9 : World} {p : Nat} {iv bv iv' bv' : Value} {its its' : List It} {L R : List Kid} {r r5 rr : Kid} {c c5 : Cnt} {n6 n8 : Nat}
    (h : Node W p iv bv its (L ++ r :: R) c) (hlt : ∀ k, c k ≠ 0 → k < W.heap.size) (hu : Upd W W5 r.c c5) (hl5 : ∀ k, c5 k ≠ 0 → k < W5.heap.size) (hc : ∀ k, c5 k = r5.c k + rr.c k)
    (h6 : Chg (fun k => blk iv k ≠ 0) W5 W6) (hr6 : Row W6 34 2 iv' n6 (flat its')) (hn6 : n6 = its'.length) (ho6 : ∀ k, k < W5.heap.size → blk iv' k ≤ blk iv k)
    (h8 : Chg (fun k => blk bv k ≠ 0) (put W6 p (.cells #[iv', bv] 118)) W8) (hr8 : Row W8 110 1 bv' n8 (ptrs (L ++ r5 :: rr :: R))) (hn8 : n8 = (L ++ r5 :: rr :: R).length) (ho8 : ∀ k, k < W6.heap.size → blk bv' k ≤ blk bv k)
    (h9 : Below W8.heap.size (put W8 p (.cells #[iv', bv'] 118)) W9) :
    Node W9 p iv' bv' its' (L ++ r5 :: rr :: R) (fun k => one p k + (blk iv' k + (blk bv' k + sumC (L ++ r5 :: rr :: R) k))) ∧ Upd W W9 c (fun k => one p k + (blk iv' k + (blk bv' k + sumC (L ++ r5 :: rr :: R) k))) ∧
      (∀ k, c5 k ≠ 0 → W9.heap[k]? = W5.heap[k]?) ∧ (∀ k, k < W.heap.size → sumC L k + sumC R k ≠ 0 → W9.heap[k]? = W.heap[k]?) := by
  subst hn6 hn8
  have hcnt : ∀ k, c k = one p k + (blk iv k + (blk bv k + (sumC L k + (r.c k + sumC R k)))) := fun k => by rw [h.cnt k, sumC_mid]
  have h0 : ∀ k, W.heap.size ≤ k → c k = 0 := fun k hk => by
    rcases Nat.eq_zero_or_pos (c k) with e | e
    · exact e
    · exact absurd (hlt k (by omega)) (by omega)
  have s5 := hu.chg.size
  have s6 := h6.size
  have s8 := h8.size
  have s9 := h9.size
  rw [size_put] at s8 s9
  have hp := h.lt
  have e9 : ∀ k, k < W8.heap.size → k ≠ p → W9.heap[k]? = W8.heap[k]? := fun k hk hne => by rw [h9.block k hk, heap_put_other _ _ _ _ hne]
  have e8 : ∀ k, k < W6.heap.size → k ≠ p → blk bv k = 0 → W8.heap[k]? = W6.heap[k]? := fun k hk hne hb => by rw [h8.block k (by rw [size_put]; exact hk) (by omega), heap_put_other _ _ _ _ hne]
  have e6 : ∀ k, k < W5.heap.size → blk iv k = 0 → W6.heap[k]? = W5.heap[k]? := fun k hk hb => h6.block k hk (by omega)
  have e5 : ∀ k, k < W.heap.size → r.c k = 0 → W5.heap[k]? = W.heap[k]? := fun k hk hb => hu.chg.block k hk (by omega)
  have e95 : ∀ k, k < W5.heap.size → k ≠ p → blk iv k = 0 → blk bv k = 0 → W9.heap[k]? = W5.heap[k]? := fun k hk hne h1 h2 => by
    rw [e9 k (by omega) hne, e8 k (by omega) hne h2, e6 k hk h1]
  have hpc := hcnt p
  rw [one_self] at hpc
  have hpl := h.le p
  have hone : ∀ k, k ≠ p → one p k = 0 := fun k hk => by unfold one; rw [if_neg hk]
  have i6 : ∀ k, blk iv' k ≠ 0 → k < W6.heap.size := fun k hk => hr6.lt hk
  have hle : ∀ k, one p k + (blk iv' k + (blk bv' k + sumC (L ++ r5 :: rr :: R) k)) ≤ 1 := by
    intro k
    rw [sumC_mid2]
    have h1 := hcnt k; have h2 := h.le k; have h3 := hc k; have h4 := hu.le k
    rcases Nat.lt_or_ge k W.heap.size with hk | hk
    · have h5 := hu.old k hk; have h6 := ho6 k (by omega); have h8 := ho8 k (by omega); omega
    · have h5 := h0 k hk
      rcases Nat.lt_or_ge k W5.heap.size with hk5 | hk5
      · have h6 := ho6 k hk5; have h8 := ho8 k (by omega); omega
      · have hc0 : c5 k = 0 := by
          rcases Nat.eq_zero_or_pos (c5 k) with e | e
          · exact e
          · exact absurd (hl5 k (by omega)) (by omega)
        rcases Nat.lt_or_ge k W6.heap.size with hk6 | hk6
        · have h8 := ho8 k hk6; have := blk_le iv' k; omega
        · have hi0 : blk iv' k = 0 := by
            rcases Nat.eq_zero_or_pos (blk iv' k) with e | e
            · exact e
            · exact absurd (i6 k (by omega)) (by omega)
          have := blk_le bv' k; omega
  refine ⟨⟨?_, hr6.keep fun k hk => ?_, hr8.keep fun k hk => ?_, fun k => rfl, hle⟩, ⟨⟨h9.os.trans (h8.os.trans (h6.os.trans hu.chg.os)), h9.tape.trans (h8.tape.trans (h6.tape.trans hu.chg.tape)), h9.output.trans (h8.output.trans (h6.output.trans hu.chg.output)), by omega, fun k hk hn => ?_⟩, hle, fun k hk => ?_⟩, fun k hk => ?_, fun k hk hne => ?_⟩
  · rw [h9.block p (by omega), heap_put_at _ _ _ (by omega)]
  · have hk6 := i6 k hk
    have hkp : k ≠ p := fun e => by subst e; have := ho6 k (by omega); omega
    have hb0 : blk bv k = 0 := by
      rcases Nat.lt_or_ge k W5.heap.size with hk5 | hk5
      · have h6 := ho6 k hk5; have h1 := hcnt k; have h2 := h.le k; omega
      · have h1 := hcnt k; have h2 := h0 k (by omega); omega
    rw [e9 k (by omega) hkp, e8 k hk6 hkp hb0]
  · have hk8 := hr8.lt hk
    have hkp : k ≠ p := fun e => by subst e; have := ho8 k (by omega); omega
    exact e9 k hk8 hkp
  · have h1 := hcnt k
    have hkp : k ≠ p := fun e => by subst e; rw [one_self] at h1; omega
    rw [e95 k (by omega) hkp (by omega) (by omega), e5 k hk (by omega)]
  · simp only [sumC_mid2]
    have h1 := hcnt k; have h3 := hc k; have h5 := hu.old k hk; have h6 := ho6 k (by omega); have h8 := ho8 k (by omega); omega
  · have hk5 := hl5 k hk
    have h1 := hcnt k; have h2 := h.le k
    rcases Nat.lt_or_ge k W.heap.size with hkw | hkw
    · have h5 := hu.old k hkw
      exact e95 k hk5 (fun e => by subst e; rw [one_self] at h1; omega) (by omega) (by omega)
    · have h3 := h0 k hkw
      exact e95 k hk5 (fun e => by omega) (by omega) (by omega)
  · have h1 := hcnt k; have h2 := h.le k
    rw [e95 k (by omega) (fun e => by subst e; rw [one_self] at h1; omega) (by omega) (by omega), e5 k hk (by omega)]
end Go.Proofs.Ythknenhcnpgkcaa
