/- Package cut: Page of a shelf; Out. -/
import Derived.Test.YthknenhcnpgkcaaCut1
import Derived.Test.YthknenhcnpgkcaaWh1
namespace Go.Proofs.Ythknenhcnpgkcaa
open Go.RowKit Go.Shelf
set_option linter.unusedVariables false
set_option linter.unusedSimpArgs false
theorem sh_page {B0 : Nat} {w0 : World} {most : Int} {xs : List It} {g : Nat} {W : World} (h : Sh B0 w0 most xs g W) (hn : xs.length ≤ 200) (u v : ByteArray) (hu : u.size ≤ maxLen) (hv : v.size ≤ maxLen) (q : Nat) (hq : q ≤ 2000) :
    Calls Try.prog 61 #[.pointer (some ⟨g, 0, none⟩), .string u, .string v, .int .i64 q] W fun e W' => ∃ ao n c, e = .returned (.tuple #[.slice ao n c, .bool (decide (q < (rangeL u v xs).length)), .string (((rangeL u v xs)[q]?).map (·.1) |>.getD ⟨#[]⟩)]) ∧ Row W' 34 2 (.slice ao n c) n (flat ((rangeL u v xs).take q)) ∧ n = min (rangeL u v xs).length q ∧ Below W.heap.size W W' ∧ ∀ k, k < W.heap.size → blk (.slice ao n c) k = 0 := by
  have hal : (xs.attach.filter fun y => inR u v y.1).length = (rangeL u v xs).length := by rw [rangeL_inR, ← attach_filter, List.length_map]
  have hle : (xs.attach.filter fun y => inR u v y.1).length ≤ xs.attach.length := List.length_filter_le _ _
  rw [List.length_attach] at hle
  have key := page_own (xs.attach.filter fun y => inR u v y.1) Subtype.val (by omega) xs.attach.length (by rw [List.length_attach]; omega) (some ⟨g, 0, none⟩) u v W
    (fun V A s hbV hAs hWA hA0 hS hU hV => by
      have hA : A < V.heap.size := by have := lt_of_heap hS; omega
      have hF : FenZ V.heap.size (fun k => k = s + 1 ∨ k = s + 1 + 1) (KpOS A (fun _ => False)) (fun r X => A < X.heap.size ∧ r ≠ A ∧ ¬ False ∧ ownOf A X ≠ some r) := fenZ_OS (S := fun _ => False) hA (fun _ h => h.elim) (fun k hk => ⟨by omega, fun h => h⟩)
      have hfr : ∀ (W' : World) (r : Nat), Below V.heap.size V W' → W'.heap.size ≤ r → (A < W'.heap.size ∧ r ≠ A ∧ ¬ False ∧ ownOf A W' ≠ some r) := fun W' r hb hr => fresh_O hA (fun r e => by rw [hA0] at e; cases e) W' r hb hr
      exact walkRange1_own 8 (by omega) ((h.on hbV h.ge).gives (by omega)) (by omega) (sh_rises h) s (s + 1) (s + 1 + 1) hS u v hu hv hU hV xs.attach Subtype.val (fun y => sh_small h y.1 y.2) (List.attach_map_subtype_val xs) hF hfr)
    q hq
  refine key.mono ?_
  rintro _ W' ⟨ao, n, c, rfl, hr, hk, hb', hf⟩
  rw [attach_filter, ← rangeL_inR] at hr
  rw [hal] at hk
  exact ⟨ao, n, c, by rw [attach_filter, ← rangeL_inR, hal], hr, hk, hb', hf⟩
end Go.Proofs.Ythknenhcnpgkcaa
