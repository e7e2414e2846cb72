import Derived.Test.YthknenhcnpgkcaaWkM
/- Package walk on a shelf that holds items: Count, Middle, Collect of All and of Arc. -/
namespace Go.Proofs.Ythknenhcnpgkcaa
open Go.RowKit Go.Shelf
set_option linter.unusedVariables false
set_option linter.unusedSimpArgs false
theorem fut_mk {W W' : World} (h : Below W.heap.size W W') : ∃ u : Fut W, W' = u.val := ⟨⟨W', h⟩, rfl⟩
theorem attach_filter (xs : List It) (p : It → Bool) : (xs.attach.filter fun y => p y.1).map Subtype.val = xs.filter p := by
  have h := List.filter_map (f := (Subtype.val : {x // x ∈ xs} → It)) (p := p) (l := xs.attach)
  rw [List.attach_map_subtype_val] at h
  rw [h]
  rfl
theorem arcL_attach (a b : Int) (xs : List It) : (((piecesA a b).flatMap fun p => xs.attach.filter fun y => inP p y.1).map Subtype.val) = arcL a b xs := by
  unfold arcL
  rw [List.map_flatMap]
  congr 1
  funext p
  exact attach_filter xs (inP p)
theorem arcL_attach_len (a b : Int) (xs : List It) : ((piecesA a b).flatMap fun p => xs.attach.filter fun y => inP p y.1).length = (arcL a b xs).length := by
  rw [← arcL_attach, List.length_map]
section
variable {B0 : Nat} {w0 : World} {most : Int} {xs : List It} {g : Nat} {W : World}
set_option maxRecDepth 100000 in
set_option maxHeartbeats 400000 in
theorem sh_count (h : Sh B0 w0 most xs g W) (hn : xs.length ≤ 900) {a b : Int} (ha : 0 ≤ a) (ha2 : a < 18446744073709551616) (hb : 0 ≤ b) (hb2 : b < 18446744073709551616) (n : Nat) (hl : (arcL a b xs).length = n) :
    Calls Try.prog 40 #[.pointer (some ⟨g, 0, none⟩), .agg #[.int .u64 a, .int .u64 b]] W (Makes (.int .i64 n) W) := by
  have hle := arcL_len_le ha ha2 hb hb2 xs
  rw [hl] at hle
  have := count_is ((piecesA a b).flatMap fun p => xs.attach.filter fun y => inP p y.1) Subtype.val (by rw [arcL_attach_len, hl]; omega) (some ⟨g, 0, none⟩) a b W
    (fun V s C hbV hS hab hC hC2 hs1 hs2 => by
      have hF : FenA V.heap.size (KpS fun k => k = C) (fun r _ => ¬ (r = C)) := fenA_S (S := fun k => k = C) (fun k hk => by subst hk; exact hC)
      have hfr : ∀ (W' : World) (r : Nat), Below V.heap.size V W' → W'.heap.size ≤ r → ¬ (r = C) := fun W' r hb hr e => by have := hb.size; omega
      exact walkArc1_stops 8 (h.on hbV h.ge) hn s hS a b hb hab xs.attach Subtype.val (List.attach_map_subtype_val xs) hF hfr)
  rwa [arcL_attach_len, hl] at this
set_option maxRecDepth 100000 in
set_option maxHeartbeats 400000 in
theorem sh_middle (h : Sh B0 w0 most xs g W) (hn : xs.length ≤ 900) {a b : Int} (ha : 0 ≤ a) (ha2 : a < 18446744073709551616) (hb : 0 ≤ b) (hb2 : b < 18446744073709551616) (m : Int) (is : Bool) (h1 : (midL ((arcL a b xs).map adr)).getD 0 = m) (h2 : (midL ((arcL a b xs).map adr)).isSome = is) :
    Calls Try.prog 37 #[.pointer (some ⟨g, 0, none⟩), .agg #[.int .u64 a, .int .u64 b]] W (Makes (.tuple #[.int .u64 m, .bool is]) W) := by
  have hle := arcL_len_le ha ha2 hb hb2 xs
  have := middle_is ((piecesA a b).flatMap fun p => xs.attach.filter fun y => inP p y.1) Subtype.val (by rw [arcL_attach_len]; omega) (fun y => sh_small h y.1 y.2) (some ⟨g, 0, none⟩) a b W
    (fun V hbV => by rw [arcL_attach_len]; exact sh_count (h.on hbV h.ge) hn ha ha2 hb hb2 _ rfl)
    (fun V s S hbV hS hab hS1 hS2 hs1 hs2 => by
      have hF : FenA V.heap.size (KpS S) (fun r _ => ¬ S r) := fenA_S hS1
      have hfr : ∀ (W' : World) (r : Nat), Below V.heap.size V W' → W'.heap.size ≤ r → ¬ S r := fun W' r hb hr e => by have := hb.size; have := hS1 r e; omega
      exact walkArc1_stops 8 (h.on hbV h.ge) hn s hS a b hb hab xs.attach Subtype.val (List.attach_map_subtype_val xs) hF hfr)
  have e : (List.map (fun y => adr (Subtype.val y)) ((piecesA a b).flatMap fun p => xs.attach.filter fun y => inP p y.1)) = (arcL a b xs).map adr := by
    rw [← arcL_attach, List.map_map]; rfl
  rw [e, h1, h2] at this
  exact this
theorem sh_collectArc (h : Sh B0 w0 most xs g W) (hn : xs.length ≤ 900) {a b : Int} (ha : 0 ≤ a) (ha2 : a < 18446744073709551616) (hb : 0 ≤ b) (hb2 : b < 18446744073709551616) (s : Nat) (hS : W.heap[s]? = some (.cells #[.pointer (some ⟨g, 0, none⟩)] 23)) (hab : W.heap[s + 1]? = some (.cells #[.int .u64 a, .int .u64 b] 38)) (m : Nat) (hm : 1 ≤ m) (hm2 : m ≤ 2000) :
    Calls Try.prog 46 #[.func (.func 80) #[] #[.pointer (some ⟨s, 0, none⟩), .pointer (some ⟨s + 1, 0, none⟩)], .int .i64 m] W fun e W' => ∃ ao n c, e = .returned (.slice ao n c) ∧ Row W' 34 2 (.slice ao n c) n (flat ((arcL a b xs).take m)) ∧ n = min (arcL a b xs).length m ∧ Below W.heap.size W W' := by
  have hle := arcL_len_le ha ha2 hb hb2 xs
  have := collect_is ((piecesA a b).flatMap fun p => xs.attach.filter fun y => inP p y.1) Subtype.val (by rw [arcL_attach_len]; omega) 80 #[.pointer (some ⟨s, 0, none⟩), .pointer (some ⟨s + 1, 0, none⟩)] W (enters_of Try.func80 (by kernel_rfl) rfl)
    (fun V A hbV hA hA0 => walkArc1_stops 8 (h.on hbV h.ge) hn s ((hbV.block _ (lt_of_heap hS)).trans hS) a b hb ((hbV.block _ (lt_of_heap hab)).trans hab) xs.attach Subtype.val (List.attach_map_subtype_val xs) (fenA_OS (S := fun _ => False) hA (fun _ h => h.elim)) (fun W' r hb hr => fresh_O hA (fun r e => by rw [hA0] at e; cases e) W' r hb hr))
    m hm hm2
  rwa [arcL_attach, arcL_attach_len] at this
theorem sh_collectAll (h : Sh B0 w0 most xs g W) (hn : xs.length ≤ 900) (s : Nat) (hS : W.heap[s]? = some (.cells #[.pointer (some ⟨g, 0, none⟩)] 23)) (m : Nat) (hm : 1 ≤ m) (hm2 : m ≤ 2000) :
    Calls Try.prog 46 #[.func (.func 78) #[] #[.pointer (some ⟨s, 0, none⟩)], .int .i64 m] W fun e W' => ∃ ao n c, e = .returned (.slice ao n c) ∧ Row W' 34 2 (.slice ao n c) n (flat (xs.take m)) ∧ n = min xs.length m ∧ Below W.heap.size W W' := by
  have := collect_is xs.attach Subtype.val (by rw [List.length_attach]; omega) 78 #[.pointer (some ⟨s, 0, none⟩)] W (enters_of Try.func78 (by kernel_rfl) rfl)
    (fun V A hbV hA hA0 => walkAll1_stops 8 (h.on hbV h.ge) hn s (cell_of_row _ _ 0 _ _ (0, 0) ((hbV.block _ (lt_of_heap hS)).trans hS)) xs.attach Subtype.val (List.attach_map_subtype_val xs) (fen_O A) (fun W' r hb hr => fresh_O hA (fun r e => by rw [hA0] at e; cases e) W' r hb hr))
    m hm hm2
  rwa [List.attach_map_subtype_val, List.length_attach] at this
end
theorem count_nil (W : World) (a b : Int) (hb : 0 ≤ b) : Calls Try.prog 40 #[.pointer none, .agg #[.int .u64 a, .int .u64 b]] W (Makes (.int .i64 0) W) := by
  have e : ((piecesA a b).flatMap fun p => ([] : List It).filter fun y => inP p (id y)) = [] := by simp
  have := count_is (α := It) ((piecesA a b).flatMap fun p => ([] : List It).filter fun y => inP p (id y)) id (by rw [e]; simp) none a b W
    (fun V s C hbV hS hab hC hC2 hs1 hs2 => by
      have hF : FenA V.heap.size (KpS fun k => k = C) (fun r _ => ¬ (r = C)) := fenA_S (S := fun k => k = C) (fun k hk => by subst hk; exact hC)
      have hfr : ∀ (W' : World) (r : Nat), Below V.heap.size V W' → W'.heap.size ≤ r → ¬ (r = C) := fun W' r hb hr e => by have := hb.size; omega
      exact walkArc1_gen 8 (gives_nil V) (by simp) (fun x hx => by cases hx) s hS a b hb hab [] id rfl hF hfr)
  rw [e] at this
  exact this
theorem middle_nil (W : World) (a b : Int) (hb : 0 ≤ b) : Calls Try.prog 37 #[.pointer none, .agg #[.int .u64 a, .int .u64 b]] W (Makes (.tuple #[.int .u64 0, .bool false]) W) := by
  have e : ((piecesA a b).flatMap fun p => ([] : List {x : It // x.1.size ≤ maxLen}).filter fun y => inP p (Subtype.val y)) = [] := by simp
  have := middle_is (α := {x : It // x.1.size ≤ maxLen}) ((piecesA a b).flatMap fun p => ([] : List {x : It // x.1.size ≤ maxLen}).filter fun y => inP p (Subtype.val y)) Subtype.val (by rw [e]; simp) (fun y => y.2) none a b W
    (fun V hbV => by rw [e]; exact count_nil V a b hb)
    (fun V s S hbV hS hab hS1 hS2 hs1 hs2 => by
      have hF : FenA V.heap.size (KpS S) (fun r _ => ¬ S r) := fenA_S hS1
      have hfr : ∀ (W' : World) (r : Nat), Below V.heap.size V W' → W'.heap.size ≤ r → ¬ S r := fun W' r hb hr e => by have := hb.size; have := hS1 r e; omega
      exact walkArc1_gen 8 (gives_nil V) (by simp) (fun x hx => by cases hx) s hS a b hb hab [] Subtype.val rfl hF hfr)
  rw [e] at this
  exact this
end Go.Proofs.Ythknenhcnpgkcaa
