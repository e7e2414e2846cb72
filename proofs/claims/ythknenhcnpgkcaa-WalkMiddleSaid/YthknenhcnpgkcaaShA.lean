import Derived.Test.YthknenhcnpgkcaaSh9
/- A shelf as the statements meet it. -/
namespace Go.Proofs.Ythknenhcnpgkcaa
open Go.RowKit
set_option linter.unusedVariables false
set_option linter.unusedSimpArgs false
/-- Block g is a shelf that holds xs; its blocks, and all that has changed since w0, lie behind B. -/
def Sh (B : Nat) (w0 : World) (most : Int) (xs : List It) (g : Nat) (W : World) : Prop := Below B w0 W ∧ ∃ c top, Shf most xs W g c top ∧ ∀ k, c k ≠ 0 → B ≤ k
theorem Sh.on {B : Nat} {w0 : World} {most : Int} {xs : List It} {g : Nat} {W W' : World} (h : Sh B w0 most xs g W) (hb : Below W.heap.size W W') (hB : B ≤ W.heap.size) : Sh B w0 most xs g W' := by
  obtain ⟨h1, c, top, h2, h3⟩ := h
  exact ⟨h1.trans (hb.mono hB), c, top, h2.on hb, h3⟩
theorem Sh.lt {B : Nat} {w0 : World} {most : Int} {xs : List It} {g : Nat} {W : World} (h : Sh B w0 most xs g W) : g < W.heap.size := by
  obtain ⟨h1, c, top, h2, h3⟩ := h
  exact lt_of_heap h2.heap
theorem Shf.g_ne {most : Int} {xs : List It} {W : World} {g : Nat} {c : Cnt} {top : Value} (h : Shf most xs W g c top) : c g = 1 := by
  cases h.top with
  | none hx hc => rw [hc, one_self]
  | some d q ha hx hg hc => rw [hc, one_self, hg]
theorem Sh.ge {B : Nat} {w0 : World} {most : Int} {xs : List It} {g : Nat} {W : World} (h : Sh B w0 most xs g W) : B ≤ W.heap.size := by
  obtain ⟨h1, c, top, h2, h3⟩ := h
  have := h3 g (by rw [h2.g_ne]; omega)
  have := lt_of_heap h2.heap
  omega
theorem Sh.upd {B : Nat} {w0 : World} {most : Int} {xs xs' : List It} {g : Nat} {W W' : World} {c c' : Cnt} {top' : Value} (h1 : Below B w0 W) (h3 : ∀ k, c k ≠ 0 → B ≤ k) (hB : B ≤ W.heap.size) (h : Shf most xs' W' g c' top') (hu : Upd W W' c c') : Sh B w0 most xs' g W' := by
  refine ⟨h1.trans (hu.chg.below hB h3), c', top', h, fun k hk => ?_⟩
  rcases Nat.lt_or_ge k W.heap.size with e | e
  · exact h3 k (by have := hu.old k e; omega)
  · omega
theorem sh_new (B : Nat) (w0 : World) (most m : Int) (hm : min (max most 0) 200 = m) (W : World) (hb : Below B w0 W) (hB : B ≤ W.heap.size) :
    Calls Try.prog 25 #[.int .i64 most] W fun e W' => e = .returned (.pointer (some ⟨W.heap.size, 0, none⟩)) ∧ Sh B w0 m [] W.heap.size W' := by
  refine (new_is W most m hm).mono ?_
  rintro _ _ ⟨rfl, rfl⟩
  exact ⟨rfl, hb.trans (Below.mono ((Below.refl _ _).alloc (Nat.le_refl _) _) hB), _, _, shf_new m (heap_alloc_at _ _ _ rfl), fun k hk => by rw [one_ne hk]; exact hB⟩
theorem sh_put {B : Nat} {w0 : World} {most : Int} {xs : List It} {g : Nat} {W : World} (h : Sh B w0 most xs g W) (hn : xs.length ≤ 1000) (k v : ByteArray) (r : Int) (xs' : List It) (he : putL most k v xs = (r, xs')) :
    Calls Try.prog 26 #[.pointer (some ⟨g, 0, none⟩), .string k, .string v] W fun e W' => e = .returned (.int .i64 r) ∧ Sh B w0 most xs' g W' := by
  have hB := h.ge
  obtain ⟨h1, c, top, h2, h3⟩ := h
  refine (put_shf h2 k v hn).mono ?_
  rintro _ W' ⟨c', top', rfl, h4, h5⟩
  rw [he] at h4 ⊢
  exact ⟨rfl, Sh.upd (xs := xs) h1 h3 hB h4 h5⟩
theorem sh_get {B : Nat} {w0 : World} {most : Int} {xs : List It} {g : Nat} {W : World} (h : Sh B w0 most xs g W) (k : ByteArray) (hk : k.size ≤ maxLen) (v : ByteArray) (b : Bool) (h1 : (valueOf k xs).getD ⟨#[]⟩ = v) (h2 : (valueOf k xs).isSome = b) :
    Calls Try.prog 52 #[.pointer (some ⟨g, 0, none⟩), .string k] W (Makes (.tuple #[.string v, .bool b]) W) := by
  obtain ⟨_, c, top, h3, _⟩ := h
  subst h1 h2
  exact get_is h3 k hk _ rfl
theorem sh_len {B : Nat} {w0 : World} {most : Int} {xs : List It} {g : Nat} {W : World} (h : Sh B w0 most xs g W) (n : Nat) (hn : xs.length = n) :
    Calls Try.prog 32 #[.pointer (some ⟨g, 0, none⟩)] W (Makes (.int .i64 n) W) := by
  obtain ⟨_, c, top, h3, _⟩ := h
  exact len_is h3 n hn
theorem sh_depth {B : Nat} {w0 : World} {most : Int} {xs : List It} {g : Nat} {W : World} (h : Sh B w0 most xs g W) (hn : xs.length ≤ 1000) :
    Calls Try.prog 30 #[.pointer (some ⟨g, 0, none⟩)] W fun en W' => (∃ D : Nat, en = .returned (.int .i64 D) ∧ D ≤ deepN xs.length ∧ (D = 0 ↔ xs = []) ∧ D ≤ 1000 ∧ (xs.length = 1 → D = 1)) ∧ ∃ u : Fut W, W' = u.val := by
  obtain ⟨_, c, top, h3, _⟩ := h
  exact depth_is h3 hn
theorem sh_items {B : Nat} {w0 : World} {most : Int} {xs : List It} {g : Nat} {W : World} (h : Sh B w0 most xs g W) (hn : xs.length ≤ 1000) :
    Calls Try.prog 28 #[.pointer (some ⟨g, 0, none⟩)] W fun en W' => ∃ ao cc, en = .returned (.slice ao xs.length cc) ∧ Row W' 34 2 (.slice ao xs.length cc) xs.length (flat xs) ∧ Below W.heap.size W W' ∧ ∀ k, k < W.heap.size → blk (.slice ao xs.length cc) k = 0 := by
  obtain ⟨_, c, top, h3, _⟩ := h
  exact items_is h3 hn
set_option maxRecDepth 100000 in
set_option maxHeartbeats 4000000 in
theorem shAlive_any (w : World) : Calls Try.prog 24 #[] w (Makes (.bool true) w) := by
  go_enter Try.func24, Try.ntmps24
  go_wp2_with fail
  (((with_reducible refine (sh_new w.heap.size w 2 2 (by decide) _ (Below.refl _ _) (Nat.le_refl _)).mono ?_)); rintro _ W1 ⟨rfl, h1⟩)
  go_wp2_with fail
  (((with_reducible refine (sh_put h1 (by decide) ⟨#[98]⟩ ⟨#[49]⟩ 0 [(⟨#[98]⟩, ⟨#[49]⟩)] (by decide)).mono ?_)); rintro _ W2 ⟨rfl, h2⟩)
  go_wp2_with fail
  (((with_reducible refine (sh_put h2 (by decide) ⟨#[97]⟩ ⟨#[50]⟩ 0 [(⟨#[97]⟩, ⟨#[50]⟩), (⟨#[98]⟩, ⟨#[49]⟩)] (by decide)).mono ?_)); rintro _ W3 ⟨rfl, h3⟩)
  go_wp2_with fail
  (((with_reducible refine (sh_put h3 (by decide) ⟨#[99]⟩ ⟨#[]⟩ 5 [(⟨#[97]⟩, ⟨#[50]⟩), (⟨#[98]⟩, ⟨#[49]⟩)] (by decide)).mono ?_)); rintro _ W4 ⟨rfl, h4⟩)
  go_wp2_with fail
  (((with_reducible refine (sh_put h4 (by decide) ⟨#[]⟩ ⟨#[]⟩ 3 [(⟨#[97]⟩, ⟨#[50]⟩), (⟨#[98]⟩, ⟨#[49]⟩)] (by decide)).mono ?_)); rintro _ W5 ⟨rfl, h5⟩)
  go_wp2_with fail
  refine (sh_items h5 (by decide)).mono ?_
  rintro _ W6 ⟨ao, cc, rfl, hr, hb6, -⟩
  have h6 := h5.on hb6 h5.ge
  have hr2 : Row W6 34 2 (.slice ao 2 cc) 2 (flat [(⟨#[97]⟩, ⟨#[50]⟩), (⟨#[98]⟩, ⟨#[49]⟩)]) := hr
  obtain ⟨rb, cb, hv, _, hrl⟩ := World.ownsRow.form hr2 (by omega)
  obtain rfl : ao = some ⟨rb, 0, none⟩ := by injection hv
  have q0 : W6.cell? ⟨rb, 0, none⟩ = some (.string ⟨#[97]⟩) := by rw [hr2.cellAt _ (by omega)]; rfl
  have q3 : W6.cell? ⟨rb, 3, none⟩ = some (.string ⟨#[49]⟩) := by rw [hr2.cellAt _ (by omega)]; rfl
  have H6 := hid h6
  clear h1 h2 h3 h4 h5 h6 hr hr2 hb6 hv
  go_wp2_with fail
  refine (sh_depth H6.out (by decide)).mono ?_
  rintro _ _ ⟨⟨D, rfl, hD, hD0, _, _⟩, u7, rfl⟩
  have hD1 : D = 1 := by
    have e1 : deepN 2 = 1 := by decide
    have h1 : D ≤ deepN 2 := hD
    have h2 : ¬ D = 0 := fun e => by have := hD0.1 e; cases this
    omega
  subst hD1
  have hbw := H6.out.1
  have hz := hbw.size
  clear hD hD0
  go_wp2_with fail
  go_ret
  exact .mk rfl (by repeat' (first | exact Below.refl _ _ | with_reducible assumption | omega | with_reducible refine below_put_fut ?_ ?_ _ | with_reducible refine below_to_put ?_ | with_reducible refine Below.alloc ?_ ?_ _ | with_reducible refine Below.fut ?_ ?_ _ | with_reducible refine Below.drew ?_ | with_reducible refine Below.setCell ?_ ?_ _ | with_reducible refine Below.atPut ?_ ?_ _ | (simp [go_sem]; done) | (simp [go_sem]; omega)))
end Go.Proofs.Ythknenhcnpgkcaa
