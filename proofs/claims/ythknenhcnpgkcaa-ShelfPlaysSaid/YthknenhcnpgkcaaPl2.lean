/- A shelf, the document's, and the book, side by side: more acts. -/
import Derived.Test.YthknenhcnpgkcaaPl1
namespace Go.Proofs.Ythknenhcnpgkcaa
open Go.RowKit
set_option linter.unusedVariables false
set_option linter.unusedSimpArgs false
theorem Play.refp {T : Nat → Prop} {w0 : World} {most : Int} {xs ys ys' : List It} {gs gr bk : Nat} {es : List Kept} {W W' : World} (h1 : Chg T w0 W) {c c2 cb : Cnt} {top v iv wv : Value} (h2 : Shf most xs W gs c top) (h3 : Rest most ys gr bk es W c2 v iv wv cb) (h4 : ∀ k, c k + c2 k ≤ 1) (h5 : ∀ k, k < w0.heap.size → c k + c2 k ≠ 0 → T k) (hr : Rises ys')
    (hp : RefP most gr v W ys' W') : Play T w0 most xs ys' gs gr bk es W' := by
  obtain ⟨v', k1, k2, k3, k4⟩ := hp
  have hg0 : c2 gr ≠ 0 := by have := h3.cnt gr; rw [one_self] at this; omega
  have hold : ∀ k, k < W.heap.size → one gr k + (blk v' k + cb k) ≤ c2 k := fun k hk => by have := h3.cnt k; have := k4 k hk; omega
  have hnew : ∀ k, W.heap.size ≤ k → one gr k = 0 ∧ cb k = 0 ∧ c k = 0 := fun k hk => by
    have hgl := lt_of_heap h3.ref
    refine ⟨?_, ?_, ?_⟩
    · unfold one; rw [if_neg (by omega)]
    · rcases Nat.eq_zero_or_pos (cb k) with z | z
      · exact z
      · have := h3.book.lt (k := k) (by omega); omega
    · rcases Nat.eq_zero_or_pos (c k) with z | z
      · exact z
      · have := h2.lt k (by omega); omega
  have hbk : ∀ k, cb k ≠ 0 → k ≠ gr := fun k hk e => by subst e; have h6 := h3.cnt k; have h7 := h3.le k; rw [one_self] at h6; omega
  refine ⟨h1.trans k3 (fun k hk e => by subst e; exact h5 k hk (by omega)), c, top, fun k => one gr k + (blk v' k + cb k), v', iv, wv, cb, h2.keep fun k hk => k3.block k (h2.lt k hk) (fun e => by subst e; have := h4 k; omega), ⟨k1, k2, hr, h3.book.chg k3 (fun k hk e => hbk k hk e), fun _ => rfl, fun k => ?_⟩, fun k => ?_, fun k hw hk => ?_⟩
  all_goals (try dsimp only at *)
  · rcases Nat.lt_or_ge k W.heap.size with e | e
    · have := hold k e; have := h3.le k; omega
    · obtain ⟨z1, z2, _⟩ := hnew k e; have := blk_le v' k; omega
  · rcases Nat.lt_or_ge k W.heap.size with e | e
    · have := hold k e; have := h4 k; omega
    · obtain ⟨z1, z2, z3⟩ := hnew k e; have := blk_le v' k; omega
  · have := h1.size; have := hold k (by omega); exact h5 k hw (by omega)
theorem Rest.vg {most : Int} {ys : List It} {gr bk : Nat} {es : List Kept} {W : World} {c : Cnt} {v iv wv : Value} {cb : Cnt} (h : Rest most ys gr bk es W c v iv wv cb) : blk v gr = 0 := by
  have h1 := h.cnt gr; have h2 := h.le gr; rw [one_self] at h1; omega
theorem play_rput {T : Nat → Prop} {w0 : World} {most : Int} {xs ys : List It} {gs gr bk : Nat} {es : List Kept} {W : World} (h : Play T w0 most xs ys gs gr bk es W) (hn : ys.length ≤ 1000) (k v : ByteArray) (r : Int) (ys' : List It) (he : putL most k v ys = (r, ys')) (hr : Rises ys') :
    Calls Try.prog 54 #[.pointer (some ⟨gr, 0, none⟩), .string k, .string v] W fun e W' => e = .returned (.int .i64 r) ∧ Play T w0 most xs ys' gs gr bk es W' := by
  obtain ⟨h1, c, top, c2, w, iv, wv, cb, h2, h3, h4, h5⟩ := h
  refine (refPut_is W gr most w ys ys.length rfl hn h3.ref h3.row h3.vg h3.rises k v r ys' he).mono ?_
  rintro e W' ⟨rfl, hp⟩
  exact ⟨rfl, Play.refp h1 h2 h3 h4 h5 hr hp⟩
theorem play_rdel {T : Nat → Prop} {w0 : World} {most : Int} {xs ys : List It} {gs gr bk : Nat} {es : List Kept} {W : World} (h : Play T w0 most xs ys gs gr bk es W) (hn : ys.length ≤ 900) (k : ByteArray) (b : Bool) (hb : (valueOf k ys).isSome = b) :
    Calls Try.prog 55 #[.pointer (some ⟨gr, 0, none⟩), .string k] W fun e W' => e = .returned (.bool b) ∧ Play T w0 most xs (delL k ys) gs gr bk es W' := by
  obtain ⟨h1, c, top, c2, w, iv, wv, cb, h2, h3, h4, h5⟩ := h
  refine (refDel_is W gr most w ys ys.length rfl hn h3.ref h3.row h3.vg h3.rises k b hb).mono ?_
  rintro e W' ⟨rfl, hp⟩
  exact ⟨rfl, Play.refp h1 h2 h3 h4 h5 (delL_rises h3.rises) hp⟩
/-- An old shelf at go, beside. -/
def Play3 (T : Nat → Prop) (w0 : World) (most : Int) (zs xs ys : List It) (go gs gr bk : Nat) (es : List Kept) (W : World) : Prop :=
  Chg T w0 W ∧ ∃ c0 top0 c top c2 v iv wv cb, Shf most zs W go c0 top0 ∧ Shf most xs W gs c top ∧ Rest most ys gr bk es W c2 v iv wv cb ∧ (∀ k, c0 k + (c k + c2 k) ≤ 1) ∧ ∀ k, k < w0.heap.size → c0 k + (c k + c2 k) ≠ 0 → T k
theorem Play3.drop {T : Nat → Prop} {w0 : World} {most : Int} {zs xs ys : List It} {go gs gr bk : Nat} {es : List Kept} {W : World} (h : Play3 T w0 most zs xs ys go gs gr bk es W) : Play T w0 most xs ys gs gr bk es W := by
  obtain ⟨h1, c0, top0, c, top, c2, v, iv, wv, cb, h2, h3, h4, h5, h6⟩ := h
  exact ⟨h1, c, top, c2, v, iv, wv, cb, h3, h4, fun k => by have := h5 k; omega, fun k hw hk => h6 k hw (by omega)⟩
theorem Play3.shelf {T : Nat → Prop} {w0 : World} {most : Int} {zs' xs ys : List It} {go gs gr bk : Nat} {es : List Kept} {W W' : World} (h1 : Chg T w0 W) {c0 c0' c c2 cb : Cnt} {top0' top v iv wv : Value} (h2 : Shf most xs W gs c top) (h3 : Rest most ys gr bk es W c2 v iv wv cb) (h4 : ∀ k, c0 k + (c k + c2 k) ≤ 1) (h5 : ∀ k, k < w0.heap.size → c0 k + (c k + c2 k) ≠ 0 → T k)
    (hs : Shf most zs' W' go c0' top0') (hu : Upd W W' c0 c0') : Play3 T w0 most zs' xs ys go gs gr bk es W' := by
  refine ⟨h1.trans hu.chg (fun k hk h => h5 k hk (by omega)), c0', top0', c, top, c2, v, iv, wv, cb, hs, h2.keep fun k hk => hu.chg.block k (h2.lt k hk) (by have := h4 k; omega), h3.chg hu.chg (fun k hk h => by have := h4 k; omega), fun k => ?_, fun k hw hk => ?_⟩
  · rcases Nat.lt_or_ge k W.heap.size with e | e
    · have := hu.old k e; have := h4 k; omega
    · have h0 : c2 k = 0 := by
        rcases Nat.eq_zero_or_pos (c2 k) with z | z
        · exact z
        · have := h3.lt (k := k) (by omega); omega
      have h0' : c k = 0 := by
        rcases Nat.eq_zero_or_pos (c k) with z | z
        · exact z
        · have := h2.lt k (by omega); omega
      have := hu.le k
      omega
  · have := h1.size; have := hu.old k (by omega); exact h5 k hw (by omega)
theorem play_copy {T : Nat → Prop} {w0 : World} {most : Int} {xs ys : List It} {gs gr bk : Nat} {es : List Kept} {W : World} (h : Play T w0 most xs ys gs gr bk es W) :
    Calls Try.prog 56 #[.pointer (some ⟨gs, 0, none⟩)] W fun e W' => ∃ g', e = .returned (.pointer (some ⟨g', 0, none⟩)) ∧ Play3 T w0 most xs xs ys gs g' gr bk es W' := by
  obtain ⟨h1, c, top, c2, w, iv, wv, cb, h2, h3, h4, h5⟩ := h
  refine (copy_shf h2).mono ?_
  rintro e W' ⟨g', c', top', rfl, k1, k2, k3⟩
  refine ⟨g', rfl, h1.trans (Chg.of_below (S := T) k3) (fun _ _ h => h), c, top, c', top', c2, w, iv, wv, cb, h2.on k3, k1, h3.keep fun k hk => k3.block k (h3.lt hk), fun k => ?_, fun k hw hk => ?_⟩
  · rcases Nat.lt_or_ge k W.heap.size with e | e
    · have := k2 k e; have := h4 k; omega
    · have h0 : c k = 0 := by
        rcases Nat.eq_zero_or_pos (c k) with z | z
        · exact z
        · have := h2.lt k (by omega); omega
      have h0' : c2 k = 0 := by
        rcases Nat.eq_zero_or_pos (c2 k) with z | z
        · exact z
        · have := h3.lt (k := k) (by omega); omega
      have := k1.le k
      omega
  · have := h1.size; have := k2 k (by omega); exact h5 k hw (by omega)
theorem play3_put {T : Nat → Prop} {w0 : World} {most : Int} {zs xs ys : List It} {go gs gr bk : Nat} {es : List Kept} {W : World} (h : Play3 T w0 most zs xs ys go gs gr bk es W) (hn : zs.length ≤ 1000) (k v : ByteArray) :
    Calls Try.prog 26 #[.pointer (some ⟨go, 0, none⟩), .string k, .string v] W fun e W' => ∃ r, e = .returned (.int .i64 r) ∧ Play3 T w0 most (putL most k v zs).2 xs ys go gs gr bk es W' := by
  obtain ⟨h1, c0, top0, c, top, c2, w, iv, wv, cb, h2, h3, h4, h5, h6⟩ := h
  refine (put_shf h2 k v hn).mono ?_
  rintro _ W' ⟨c', top', rfl, k1, k2⟩
  exact ⟨_, rfl, Play3.shelf h1 h3 h4 h5 h6 k1 k2⟩
theorem play3_del {T : Nat → Prop} {w0 : World} {most : Int} {zs xs ys : List It} {go gs gr bk : Nat} {es : List Kept} {W : World} (h : Play3 T w0 most zs xs ys go gs gr bk es W) (hn : zs.length ≤ 1000) (k : ByteArray) (hk : k.size ≤ maxLen) :
    Calls Try.prog 51 #[.pointer (some ⟨go, 0, none⟩), .string k] W fun e W' => ∃ b, e = .returned (.bool b) ∧ Play3 T w0 most (delL k zs) xs ys go gs gr bk es W' := by
  obtain ⟨h1, c0, top0, c, top, c2, w, iv, wv, cb, h2, h3, h4, h5, h6⟩ := h
  refine (del_shf h2 k hk hn _ rfl).mono ?_
  rintro _ W' ⟨rfl, c', top', k1, k2⟩
  exact ⟨_, rfl, Play3.shelf h1 h3 h4 h5 h6 k1 k2⟩
/-- .. and a list of the items, that is nobody else's. -/
def PlayV (T : Nat → Prop) (w0 : World) (most : Int) (xs ys : List It) (gs gr bk : Nat) (es : List Kept) (a : Value) (W : World) : Prop :=
  Chg T w0 W ∧ ∃ c top c2 v iv wv cb, Shf most xs W gs c top ∧ Rest most ys gr bk es W c2 v iv wv cb ∧ (∀ k, c k + c2 k ≤ 1) ∧ (∀ k, k < w0.heap.size → c k + c2 k ≠ 0 → T k) ∧ Row W 34 2 a xs.length (flat xs) ∧ ∀ k, blk a k ≠ 0 → c k + c2 k = 0 ∧ (k < w0.heap.size → T k)
theorem play_items {T : Nat → Prop} {w0 : World} {most : Int} {xs ys : List It} {gs gr bk : Nat} {es : List Kept} {W : World} (h : Play T w0 most xs ys gs gr bk es W) (n : Nat) (hl : xs.length = n) (hn : n ≤ 900) :
    Calls Try.prog 28 #[.pointer (some ⟨gs, 0, none⟩)] W fun e W' => ∃ ao cc, e = .returned (.slice ao n cc) ∧ PlayV T w0 most xs ys gs gr bk es (.slice ao n cc) W' := by
  subst hl
  obtain ⟨h1, c, top, c2, w, iv, wv, cb, h2, h3, h4, h5⟩ := h
  refine (items_is h2 (by omega)).mono ?_
  rintro _ W' ⟨ao, cc, rfl, k1, k2, k3⟩
  refine ⟨ao, cc, rfl, h1.trans (Chg.of_below (S := T) k2) (fun _ _ h => h), c, top, c2, w, iv, wv, cb, h2.on k2, h3.keep fun k hk => k2.block k (h3.lt hk), h4, h5, k1, fun k hk => ?_⟩
  have hge : W.heap.size ≤ k := Nat.le_of_not_lt fun e => hk (k3 k e)
  refine ⟨?_, fun hw => by have := h1.size; omega⟩
  have h0 : c k = 0 := by
    rcases Nat.eq_zero_or_pos (c k) with z | z
    · exact z
    · have := h2.lt k (by omega); omega
  have h0' : c2 k = 0 := by
    rcases Nat.eq_zero_or_pos (c2 k) with z | z
    · exact z
    · have := h3.lt (k := k) (by omega); omega
  omega
theorem play_keep {T : Nat → Prop} {w0 : World} {most : Int} {xs ys : List It} {gs gr bk : Nat} {es : List Kept} {a : Value} {W : World} (h : PlayV T w0 most xs ys gs gr bk es a W) (hn : xs.length ≤ 900) (he : es.length < 250) :
    Calls Try.prog 57 #[.pointer (some ⟨bk, 0, none⟩), a] W fun e W' => e = .returned (.tuple #[]) ∧ ∃ q, Play T w0 most xs ys gs gr bk (es ++ [q]) W' ∧ Src W' 2 a xs.length (flat xs) := by
  obtain ⟨h1, c, top, c2, w, iv, wv, cb, h2, h3, h4, h5, h6, h7⟩ := h
  refine (bookItems_is h3.book he h6 rfl hn (fun k hk => by have := h3.cnt k; have := (h7 k hk).1; omega)).mono ?_
  rintro _ W' ⟨rfl, iv', wv', w', cb', k1, k2, k3⟩
  have cbc : ∀ k, cb k ≤ c2 k := fun k => by have := h3.cnt k; omega
  have hgr : cb gr = 0 := by have h8 := h3.cnt gr; have h9 := h3.le gr; rw [one_self] at h8; omega
  have hold : ∀ k, k < W.heap.size → one gr k + (blk w k + cb' k) ≤ c2 k + blk a k := fun k hk => by have := h3.cnt k; have := k3 k hk; omega
  have hnew : ∀ k, W.heap.size ≤ k → one gr k = 0 ∧ blk w k = 0 ∧ c k = 0 := fun k hk => by
    have hgl := lt_of_heap h3.ref
    refine ⟨?_, ?_, ?_⟩
    · unfold one; rw [if_neg (by omega)]
    · rcases Nat.eq_zero_or_pos (blk w k) with z | z
      · exact z
      · have := h3.row.lt (k := k) (by omega); omega
    · rcases Nat.eq_zero_or_pos (c k) with z | z
      · exact z
      · have := h2.lt k (by omega); omega
  refine ⟨rfl, ⟨a, w', xs⟩, ⟨h1.trans k2 (fun k hk h => h5 k hk (by have := cbc k; omega)), c, top, fun k => one gr k + (blk w k + cb' k), w, iv', wv', cb', h2.keep fun k hk => k2.block k (h2.lt k hk) (by have := h4 k; have := cbc k; omega), ⟨(k2.block gr (lt_of_heap h3.ref) (by rw [hgr]; simp)).trans h3.ref, h3.row.chg k2 (fun k hk h => by have := h3.cnt k; have := h3.le k; omega), h3.rises, k1, fun _ => rfl, fun k => ?_⟩, fun k => ?_, fun k hw hk => ?_⟩, ((k1.each ⟨a, w', xs⟩ (by simp)).2.1).src (flat_one _)⟩
  all_goals (try dsimp only at *)
  · rcases Nat.lt_or_ge k W.heap.size with e | e
    · have := hold k e
      have := h3.le k
      by_cases z : blk a k = 0
      · omega
      · have := (h7 k z).1; have := blk_le a k; omega
    · obtain ⟨z1, z2, _⟩ := hnew k e; have := k1.le k; omega
  · rcases Nat.lt_or_ge k W.heap.size with e | e
    · have := hold k e
      have := h4 k
      by_cases z : blk a k = 0
      · omega
      · have := (h7 k z).1; have := blk_le a k; omega
    · obtain ⟨z1, z2, z3⟩ := hnew k e; have := k1.le k; omega
  · have := h1.size
    have := hold k (by omega)
    by_cases z : blk a k = 0
    · exact h5 k hw (by omega)
    · exact (h7 k z).2 hw
theorem play_apart {T : Nat → Prop} {w0 : World} {most : Int} {xs ys : List It} {gs gr bk : Nat} {es : List Kept} {W : World} (h : Play T w0 most xs ys gs gr bk es W) (he : es.length ≤ 250) :
    Calls Try.prog 58 #[.pointer (some ⟨bk, 0, none⟩)] W fun e W' => e = .returned (.bool true) ∧ Chg T w0 W' := by
  obtain ⟨h1, c, top, c2, w, iv, wv, cb, h2, h3, h4, h5⟩ := h
  refine (apart_is h3.book he).mono ?_
  rintro _ W' ⟨rfl, k1⟩
  exact ⟨rfl, h1.trans k1 (fun k hk h => h5 k hk (by have := h3.cnt k; omega))⟩
/-- From now on. -/
theorem Play.rebase {T : Nat → Prop} {w0 : World} {most : Int} {xs ys : List It} {gs gr bk : Nat} {es : List Kept} {W W3 : World} (h : Play T w0 most xs ys gs gr bk es W) (hb : Below W.heap.size W W3) :
    ∃ T', Play T' W3 most xs ys gs gr bk es W3 ∧ ∀ k, T' k → k < W.heap.size ∧ (k < w0.heap.size → T k) := by
  obtain ⟨h1, c, top, c2, w, iv, wv, cb, h2, h3, h4, h5⟩ := h
  refine ⟨fun k => c k + c2 k ≠ 0, ⟨Chg.refl _ _, c, top, c2, w, iv, wv, cb, h2.on hb, h3.keep fun k hk => hb.block k (h3.lt hk), h4, fun k _ hk => hk⟩, fun k hk => ⟨?_, fun hw => h5 k hw hk⟩⟩
  by_cases e : c k = 0
  · exact h3.lt (k := k) (by omega)
  · exact h2.lt k e
theorem Play.back {T T' : Nat → Prop} {w0 W3 : World} {most : Int} {xs ys : List It} {gs gr bk : Nat} {es : List Kept} {W : World} (h : Play T' W3 most xs ys gs gr bk es W) (hc : Chg T w0 W3) (hT : ∀ k, k < w0.heap.size → T' k → T k) : Play T w0 most xs ys gs gr bk es W := by
  obtain ⟨h1, c, top, c2, w, iv, wv, cb, h2, h3, h4, h5⟩ := h
  exact ⟨hc.trans h1 hT, c, top, c2, w, iv, wv, cb, h2, h3, h4, fun k hk h => hT k hk (h5 k (Nat.lt_of_lt_of_le hk hc.size) h)⟩
theorem Play.rises {T : Nat → Prop} {w0 : World} {most : Int} {xs ys : List It} {gs gr bk : Nat} {es : List Kept} {W : World} (h : Play T w0 most xs ys gs gr bk es W) : Rises xs := by
  obtain ⟨h1, c, top, c2, w, iv, wv, cb, h2, h3, h4, h5⟩ := h
  exact h2.rises
theorem play_get {T : Nat → Prop} {w0 : World} {most : Int} {xs ys : List It} {gs gr bk : Nat} {es : List Kept} {W : World} (h : Play T w0 most xs ys gs gr bk es W) (k : ByteArray) (hk : k.size ≤ maxLen) (v : ByteArray) (b : Bool) (h1 : (valueOf k xs).getD ⟨#[]⟩ = v) (h2 : (valueOf k xs).isSome = b) :
    Calls Try.prog 52 #[.pointer (some ⟨gs, 0, none⟩), .string k] W (Makes (.tuple #[.string v, .bool b]) W) := by
  obtain ⟨_, c, top, c2, w, iv, wv, cb, k2, k3, k4, k5⟩ := h
  subst h1 h2
  exact get_is k2 k hk _ rfl
theorem play_len {T : Nat → Prop} {w0 : World} {most : Int} {xs ys : List It} {gs gr bk : Nat} {es : List Kept} {W : World} (h : Play T w0 most xs ys gs gr bk es W) (n : Nat) (hn : xs.length = n) :
    Calls Try.prog 32 #[.pointer (some ⟨gs, 0, none⟩)] W (Makes (.int .i64 n) W) := by
  obtain ⟨_, c, top, c2, w, iv, wv, cb, k2, k3, k4, k5⟩ := h
  exact len_is k2 n hn
theorem play_depth {T : Nat → Prop} {w0 : World} {most : Int} {xs ys : List It} {gs gr bk : Nat} {es : List Kept} {W : World} (h : Play T w0 most xs ys gs gr bk es W) (hn : xs.length ≤ 1000) :
    ∃ D : Nat, D ≤ deepN xs.length ∧ (D = 0 ↔ xs = []) ∧ D ≤ 1000 ∧ ∀ Y, Below W.heap.size W Y → Calls Try.prog 30 #[.pointer (some ⟨gs, 0, none⟩)] Y (Makes (.int .i64 D) Y) := by
  obtain ⟨_, c, top, c2, w, iv, wv, cb, k2, k3, k4, k5⟩ := h
  exact depth_fix k2 hn
theorem Play.refw {T : Nat → Prop} {w0 : World} {most : Int} {xs ys : List It} {gs gr bk : Nat} {es : List Kept} {W : World} (h : Play T w0 most xs ys gs gr bk es W) : ∃ v, W.heap[gr]? = some (refObj most v) ∧ Src W 2 v ys.length (flat ys) ∧ Rises ys := by
  obtain ⟨_, c, top, c2, w, iv, wv, cb, k2, k3, k4, k5⟩ := h
  exact ⟨w, k3.ref, k3.row.src (flat_one _), k3.rises⟩
end Go.Proofs.Ythknenhcnpgkcaa
