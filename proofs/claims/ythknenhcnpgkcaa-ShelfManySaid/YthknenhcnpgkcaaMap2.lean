/- A shelf and a map side by side; the numbers in their order. -/
import Derived.Test.YthknenhcnpgkcaaMap1
namespace Go.Proofs.Ythknenhcnpgkcaa
set_option linter.unusedVariables false
set_option linter.unusedSimpArgs false
open Go.RowKit
/-- Block g is a shelf that holds xs, block b a map that has the numbers of ys; they share nothing. -/
def ShMap (B : Nat) (w0 : World) (xs ys : List It) (g b : Nat) (W : World) : Prop := Below B w0 W ∧ B ≤ b ∧ Had W b ys ∧ ∃ c top, Shf 200 xs W g c top ∧ c b = 0 ∧ ∀ k, c k ≠ 0 → B ≤ k
theorem ShMap.left {B : Nat} {w0 : World} {xs ys : List It} {g b : Nat} {W : World} (h : ShMap B w0 xs ys g b W) : Sh B w0 200 xs g W := by
  obtain ⟨h1, _, _, c, top, h2, _, h3⟩ := h
  exact ⟨h1, c, top, h2, h3⟩
theorem ShMap.had {B : Nat} {w0 : World} {xs ys : List It} {g b : Nat} {W : World} (h : ShMap B w0 xs ys g b W) : Had W b ys := h.2.2.1
theorem ShMap.on {B : Nat} {w0 : World} {xs ys : List It} {g b : Nat} {W W' : World} (h : ShMap B w0 xs ys g b W) (hb : Below W.heap.size W W') : ShMap B w0 xs ys g b W' := by
  have hB := h.left.ge
  obtain ⟨h1, h2, h3, c, top, h4, h5, h6⟩ := h
  exact ⟨h1.trans (hb.mono hB), h2, h3.keep (hb.block b h3.lt), c, top, h4.on hb, h5, h6⟩
theorem ShMap.made {B : Nat} {w0 : World} {g : Nat} {W : World} (h : Sh B w0 200 [] g W) : ShMap B w0 [] [] g W.heap.size (W.alloc (.map #[] 0)) := by
  have hB := h.ge
  obtain ⟨h1, c, top, h2, h3⟩ := h
  have hb : Below W.heap.size W (W.alloc (.map #[] 0)) := (Below.refl _ _).alloc (Nat.le_refl _) _
  refine ⟨h1.trans (hb.mono hB), hB, had_made W, c, top, h2.on hb, ?_, h3⟩
  rcases Nat.eq_zero_or_pos (c W.heap.size) with z | z
  · exact z
  · have := h2.lt W.heap.size (by omega); omega
theorem ShMap.upd {B : Nat} {w0 : World} {xs xs' ys : List It} {g b : Nat} {W W' : World} {c c' : Cnt} {top' : Value} (h1 : Below B w0 W) (hB : B ≤ W.heap.size) (h2 : B ≤ b) (h3 : Had W b ys) (h5 : c b = 0) (h6 : ∀ k, c k ≠ 0 → B ≤ k) (h : Shf 200 xs' W' g c' top') (hu : Upd W W' c c') : ShMap B w0 xs' ys g b W' := by
  refine ⟨h1.trans (hu.chg.below hB h6), h2, h3.keep (hu.chg.block b h3.lt (by rw [h5]; simp)), c', top', h, ?_, fun k hk => ?_⟩
  · have := hu.old b h3.lt; omega
  · rcases Nat.lt_or_ge k W.heap.size with e | e
    · exact h6 k (by have := hu.old k e; omega)
    · omega
theorem map_put {B : Nat} {w0 : World} {xs ys : List It} {g b : Nat} {W : World} (h : ShMap B w0 xs ys g b W) (hn : xs.length ≤ 1000) (k v : ByteArray) (r : Int) (xs' : List It) (he : putL 200 k v xs = (r, xs')) :
    Calls Try.prog 26 #[.pointer (some ⟨g, 0, none⟩), .string k, .string v] W fun e W' => e = .returned (.int .i64 r) ∧ ShMap B w0 xs' ys g b W' := by
  have hB := h.left.ge
  obtain ⟨h1, h2, h3, c, top, h4, h5, h6⟩ := h
  refine (put_shf h4 k v hn).mono ?_
  rintro _ W' ⟨c', top', rfl, q1, q2⟩
  rw [he] at q1 ⊢
  exact ⟨rfl, ShMap.upd (xs := xs) h1 hB h2 h3 h5 h6 q1 q2⟩
theorem map_del {B : Nat} {w0 : World} {xs ys : List It} {g b : Nat} {W : World} (h : ShMap B w0 xs ys g b W) (hn : xs.length ≤ 1000) (k : ByteArray) (hk : k.size ≤ maxLen) (r : Bool) (hr : (valueOf k xs).isSome = r) :
    Calls Try.prog 51 #[.pointer (some ⟨g, 0, none⟩), .string k] W fun e W' => e = .returned (.bool r) ∧ ShMap B w0 (delL k xs) ys g b W' := by
  have hB := h.left.ge
  obtain ⟨h1, h2, h3, c, top, h4, h5, h6⟩ := h
  refine (del_shf h4 k hk hn r hr).mono ?_
  rintro _ W' ⟨rfl, c', top', q1, q2⟩
  exact ⟨rfl, ShMap.upd (xs := xs) h1 hB h2 h3 h5 h6 q1 q2⟩
theorem ShMap.turn {B : Nat} {w0 : World} {xs ys ys' : List It} {g b : Nat} {W W' : World} (h : ShMap B w0 xs ys g b W) (hc : Chg (fun k => k = b) W W') (hh : Had W' b ys') : ShMap B w0 xs ys' g b W' := by
  have hB := h.left.ge
  obtain ⟨h1, h2, h3, c, top, h4, h5, h6⟩ := h
  exact ⟨h1.trans (hc.below hB fun k hk => by subst hk; exact h2), h2, hh, c, top, h4.keep fun k hk => hc.block k (h4.lt k hk) fun e => by subst e; exact hk h5, h5, h6⟩
theorem map_store {B : Nat} {w0 : World} {xs ys ys' : List It} {g b : Nat} {W : World} (h : ShMap B w0 xs ys g b W) (hn : ys.length ≤ 1000) (j : Nat) (hj : j ≤ 996) (hp : putL 200 (keyOf j) ⟨#[118]⟩ ys = (0, ys')) :
    ∃ W', (Instr.mapUpdate 74 (.map (some b)) (.int .i64 (j : Int)) (.bool true)).run Try.prog W = .ok () W' ∧ ShMap B w0 xs ys' g b W' := by
  obtain ⟨W', h1, h2, h3⟩ := h.had.store hn j hj hp
  exact ⟨W', h1, h.turn h3 h2⟩
theorem map_drop {B : Nat} {w0 : World} {xs ys : List It} {g b : Nat} {W : World} (h : ShMap B w0 xs ys g b W) (hr : Rises ys) (j : Nat) (hj : j ≤ 996) (ty : TypeId) :
    ∃ W', (Builtin.delete_ #[74, 3] ty #[.map (some b), .int .i64 (j : Int)]).run Try.prog W = .ok (.tuple #[]) W' ∧ ShMap B w0 xs (delL (keyOf j) ys) g b W' := by
  obtain ⟨W', h1, h2, h3⟩ := h.had.drop hr j hj ty
  exact ⟨W', h1, h.turn h3 h2⟩
/-- A list of keys of numbers, as long as it may be. -/
structure Nums (m : Nat) (xs : List It) : Prop where
  rises : Rises xs
  len : xs.length ≤ m
  num : ∀ x ∈ xs, ∃ j, j ≤ 996 ∧ x.1 = keyOf j
theorem Nums.nil (m : Nat) : Nums m [] := ⟨List.Pairwise.nil, Nat.zero_le _, by simp⟩
theorem Nums.put {m : Nat} {xs : List It} (h : Nums m xs) (hm : m < 200) (j : Nat) (hj : j ≤ 996) : ∃ xs', putL 200 (keyOf j) ⟨#[118]⟩ xs = (0, xs') ∧ Nums (m + 1) xs' := by
  have s1 : (keyOf j).size = 3 := rfl
  have hr := putL_rises (most := 200) (k := keyOf j) (v := ⟨#[118]⟩) h.rises
  have hl := h.len
  refine ⟨(putL 200 (keyOf j) ⟨#[118]⟩ xs).2, ?_, hr, ?_, ?_⟩
  all_goals rw [putL_ok (by omega) (by omega) (by decide)]
  all_goals split
  · rfl
  · rw [if_neg (by omega)]
  · show (repL _ _ _).length ≤ _
    rw [repL_length]; omega
  · rw [if_neg (by omega)]
    show (insL _ _).length ≤ _
    rw [insL_length]; omega
  · intro x hx
    have hx : x.1 ∈ keysOf (repL (keyOf j) ⟨#[118]⟩ xs) := List.mem_map.2 ⟨x, hx, rfl⟩
    rw [keys_repL] at hx
    obtain ⟨y, hy, e⟩ := List.mem_map.1 hx
    obtain ⟨i, hi, e2⟩ := h.num y hy
    exact ⟨i, hi, by rw [← e2, ← e]⟩
  · rw [if_neg (by omega)]
    intro x hx
    rcases mem_insL.1 hx with rfl | hx
    · exact ⟨j, hj, rfl⟩
    · exact h.num x hx
theorem Nums.del {m : Nat} {xs : List It} (h : Nums m xs) (k : ByteArray) : Nums m (delL k xs) :=
  ⟨delL_rises h.rises, Nat.le_trans (List.length_filter_le _ _) h.len, fun x hx => h.num x (List.mem_filter.1 hx).1⟩
theorem keyOf_lt {a b : Nat} (ha : a ≤ 996) (hb : b ≤ 996) (h : a < b) : lt (keyOf a) (keyOf b) = true := by
  unfold lt keyOf strOfNums
  simp only [List.map_cons, List.map_nil]
  rw [less_cons, less_cons, less_cons]
  simp only [UInt8.toNat_ofNat', Bool.or_eq_true, Bool.and_eq_true, decide_eq_true_eq]
  rcases Nat.lt_or_ge (a / 256) (b / 256) with c | c
  · exact .inr ⟨trivial, .inl (by omega)⟩
  · exact .inr ⟨trivial, .inr ⟨by omega, .inl (by omega)⟩⟩
/-- The first so many have numbers below k, the others not. -/
def Cut (k a : Nat) (xs : List It) : Prop := ∃ A B, xs = A ++ B ∧ A.length = a ∧ (∀ x ∈ A, ∃ j, j < k ∧ x.1 = keyOf j) ∧ ∀ x ∈ B, ∃ j, k ≤ j ∧ j ≤ 996 ∧ x.1 = keyOf j
theorem Cut.start {m : Nat} {xs : List It} (h : Nums m xs) : Cut 0 0 xs := ⟨[], xs, rfl, rfl, by simp, fun x hx => by obtain ⟨j, h1, h2⟩ := h.num x hx; exact ⟨j, Nat.zero_le _, h1, h2⟩⟩
theorem Cut.miss {k a : Nat} {xs : List It} (h : Cut k a xs) (hk : k ≤ 996) (hv : valueOf (keyOf k) xs = none) : Cut (k + 1) a xs := by
  obtain ⟨A, B, rfl, h1, h2, h3⟩ := h
  refine ⟨A, B, rfl, h1, fun x hx => ?_, fun x hx => ?_⟩
  · obtain ⟨j, q1, q2⟩ := h2 x hx; exact ⟨j, by omega, q2⟩
  · obtain ⟨j, q1, q2, q3⟩ := h3 x hx
    have := valueOf_none_iff.1 hv x (by simp [hx])
    refine ⟨j, ?_, q2, q3⟩
    rcases Nat.lt_or_ge k j with c | c
    · exact c
    · exact absurd (by rw [q3]; congr 1; omega) this
theorem Cut.hit {k a : Nat} {xs : List It} (h : Cut k a xs) (hr : Rises xs) (hk : k ≤ 996) (hv : (valueOf (keyOf k) xs).isSome = true) : ∃ x, xs[a]? = some x ∧ x.1 = keyOf k ∧ Cut (k + 1) (a + 1) xs := by
  obtain ⟨A, B, rfl, h1, h2, h3⟩ := h
  obtain ⟨x, hx, hxk⟩ := List.mem_map.1 (isSome_iff.1 hv)
  obtain ⟨_, hrB, _⟩ := Rises.append.1 hr
  have hxB : x ∈ B := by
    rcases List.mem_append.1 hx with h | h
    · obtain ⟨j, q1, q2⟩ := h2 x h
      rw [q2] at hxk
      have := keyOf_inj (by omega) hk hxk
      omega
    · exact h
  cases B with
  | nil => cases hxB
  | cons y B =>
    obtain ⟨hyB, _⟩ := Rises.cons.1 hrB
    obtain ⟨j, j1, j2, j3⟩ := h3 y (by simp)
    have hyk : y.1 = keyOf k := by
      rcases List.mem_cons.1 hxB with rfl | hxB
      · exact hxk
      · have hl := hyB x hxB
        rw [j3, hxk] at hl
        rcases Nat.lt_or_ge k j with c | c
        · have := keyOf_lt hk j2 c
          rw [lt_asymm this] at hl; cases hl
        · rw [j3]; congr 1; omega
    refine ⟨y, by rw [← h1]; simp, hyk, A ++ [y], B, by simp, by simp [h1], fun z hz => ?_, fun z hz => ?_⟩
    · rcases List.mem_append.1 hz with hz | hz
      · obtain ⟨i, q1, q2⟩ := h2 z hz; exact ⟨i, by omega, q2⟩
      · obtain rfl : z = y := by simpa using hz
        exact ⟨k, by omega, hyk⟩
    · obtain ⟨i, q1, q2, q3⟩ := h3 z (by simp [hz])
      refine ⟨i, ?_, q2, q3⟩
      have hl := hyB z hz
      rw [hyk, q3] at hl
      rcases Nat.lt_or_ge k i with c | c
      · exact c
      · obtain rfl : i = k := by omega
        rw [lt_irrefl] at hl; cases hl
end Go.Proofs.Ythknenhcnpgkcaa
