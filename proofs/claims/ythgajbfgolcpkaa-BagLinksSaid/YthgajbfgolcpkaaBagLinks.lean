/- BagLinks answers true for every list of numbers, and leaves it as it was. No condition. -/
import Derived.Test.YthgajbfgolcpkaaBag7
import Derived.Test.YthgajbfgolcpkaaInts
import Derived.Test.YthgajbfgolcpkaaFrame
import Derived.IntWalk
namespace Go.Proofs.Ythgajbfgolcpkaa
open Go.ChangeShapes Go.WideShapes Go.ChangeAt Go.RowKit Go.Joins
set_option linter.unusedVariables false
set_option linter.unusedSimpArgs false
def Low (p : Pk) : Prop := 0 ≤ p.1 ∧ p.1 ≤ 3 ∧ 0 ≤ p.2.1 ∧ p.2.1 ≤ 3
theorem and3 (x : Int) : 0 ≤ bits .and .i64 x 3 ∧ bits .and .i64 x 3 ≤ 3 := by
  have h : (BitVec.ofInt 64 x &&& BitVec.ofInt 64 3).toNat ≤ 3 := by
    rw [BitVec.toNat_and]
    exact Nat.le_trans Nat.and_le_right (by decide)
  have e : bits .and .i64 x 3 = IntKind.i64.wrap ((BitVec.ofInt 64 x &&& BitVec.ofInt 64 3).toNat : Int) := rfl
  rw [e, IntKind.wrap_i64]
  omega
def ahead (i j : Int) (p : Pk) : Bool := decide (p.1 < i) || (p.1 == i && decide (p.2.1 < j))
/-- How many are on a link that comes ahead of one. -/
def cl (i j : Int) (l : List Pk) : Nat := (l.filter (ahead i j)).length
theorem cl_le (i j : Int) (l : List Pk) : cl i j l ≤ l.length := List.length_filter_le _ _
theorem ahead_step (i j : Int) (p : Pk) : ahead i (j + 1) p = (ahead i j p || isOn i j p) ∧ (ahead i j p && isOn i j p) = false := by
  unfold ahead isOn
  rcases Int.lt_trichotomy p.1 i with h | h | h
  · have e1 : decide (p.1 < i) = true := by simpa using h
    have e2 : (p.1 == i) = false := by simp; omega
    simp [e1, e2]
  · have e1 : decide (p.1 < i) = false := by simp; omega
    have e2 : (p.1 == i) = true := by simpa using h
    rw [e1, e2]
    rcases Int.lt_trichotomy p.2.1 j with k | k | k
    · have f1 : decide (p.2.1 < j) = true := by simpa using k
      have f2 : (p.2.1 == j) = false := by simp; omega
      have f3 : decide (p.2.1 < j + 1) = true := by simp; omega
      simp [f1, f2, f3]
    · have f1 : decide (p.2.1 < j) = false := by simp; omega
      have f2 : (p.2.1 == j) = true := by simpa using k
      have f3 : decide (p.2.1 < j + 1) = true := by simp; omega
      simp [f1, f2, f3]
    · have f1 : decide (p.2.1 < j) = false := by simp; omega
      have f2 : (p.2.1 == j) = false := by simp; omega
      have f3 : decide (p.2.1 < j + 1) = false := by simp; omega
      simp [f1, f2, f3]
  · have e1 : decide (p.1 < i) = false := by simp; omega
    have e2 : (p.1 == i) = false := by simp; omega
    simp [e1, e2]
theorem cl_step (i j : Int) : ∀ l : List Pk, cl i (j + 1) l = cl i j l + cntOn i j l
  | [] => rfl
  | p :: l => by
    have ih := cl_step i j l
    obtain ⟨h1, h2⟩ := ahead_step i j p
    unfold cl cntOn at *
    simp only [List.filter_cons, h1]
    cases ha : ahead i j p <;> cases hb : isOn i j p <;> simp_all <;> omega
theorem cl_next (i : Int) (l : List Pk) (h : ∀ p ∈ l, Low p) : cl i 4 l = cl (i + 1) 0 l := by
  unfold cl
  congr 1
  apply List.filter_congr
  intro p hp
  obtain ⟨h1, h2, h3, h4⟩ := h p hp
  unfold ahead
  rw [show decide (p.2.1 < 4) = true from by simp; omega, show decide (p.2.1 < 0) = false from by simp; omega]
  rcases Int.lt_trichotomy p.1 i with k | k | k
  · rw [show decide (p.1 < i) = true from by simpa using k, show decide (p.1 < i + 1) = true from by simp; omega]; simp
  · rw [show decide (p.1 < i + 1) = true from by simp; omega, show (p.1 == i) = true from by simpa using k]; simp
  · rw [show decide (p.1 < i + 1) = false from by simp; omega, show decide (p.1 < i) = false from by simp; omega, show (p.1 == i) = false from by simp; omega]; simp
theorem cl_none (l : List Pk) (h : ∀ p ∈ l, Low p) : cl 0 0 l = 0 := by
  unfold cl
  rw [List.length_eq_zero_iff, List.filter_eq_nil_iff]
  intro p hp
  obtain ⟨h1, h2, h3, h4⟩ := h p hp
  unfold ahead
  rw [show decide (p.1 < 0) = false from by simp; omega, show decide (p.2.1 < 0) = false from by simp; omega]
  simp
theorem cl_all (l : List Pk) (h : ∀ p ∈ l, Low p) : cl 4 0 l = l.length := by
  unfold cl
  rw [List.filter_eq_self.2]
  intro p hp
  obtain ⟨h1, h2, h3, h4⟩ := h p hp
  unfold ahead
  rw [show decide (p.1 < 4) = true from by simp; omega]; rfl
theorem cntOn_far (l : List Pk) (h : ∀ p ∈ l, Low p) : cntOn 9 9 l = 0 := by
  unfold cntOn
  rw [List.length_eq_zero_iff, List.filter_eq_nil_iff]
  intro p hp
  obtain ⟨h1, h2, h3, h4⟩ := h p hp
  unfold isOn
  rw [show (p.1 == 9) = false from by simp; omega]; simp
set_option maxRecDepth 100000 in
set_option maxHeartbeats 4000000 in
theorem bagLinks_many (w : World) (ao : Option Addr) (n cap : Nat) (c : 60 < n) :
    Calls Try.prog 5 #[.slice ao n cap] w (Makes (.bool true) w) := by
  go_enter Try.func5, Try.ntmps5
  go_wp2_with (first | (go_at_call 17; ((with_reducible refine (bagAlive_any _).mono ?_)); rintro _ _ ⟨rfl, u, rfl⟩; (try (rw [Fut.put_self u (by first | assumption | (simp [go_sem]; done) | (simp [go_sem]; omega))]))) | (((with_reducible refine wp_region_fut_lit (by kernel_rfl) (by kernel_rfl) ?_)); (repeat (go_big_quiet_step ((first | (go_at_call 17; with_reducible exact Calls.fut_of (bagAlive_any _)))))); ((with_reducible refine wpQuiet_nil ?_)); rintro _ ⟨u, rfl⟩; (try (rw [Fut.put_self u (by first | assumption | (simp [go_sem]; done) | (simp [go_sem]; omega))]))))
  go_ret; exact .mk (by first | rfl | (simp; done) | (simp; omega)) (by repeat' (first | exact Below.refl _ _ | with_reducible assumption | omega | with_reducible refine below_put_fut ?_ ?_ _ | with_reducible refine below_to_put ?_ | with_reducible refine Below.alloc ?_ ?_ _ | with_reducible refine Below.fut ?_ ?_ _ | with_reducible refine Below.drew ?_ | with_reducible refine Below.setCell ?_ ?_ _ | with_reducible refine Below.atPut ?_ ?_ _ | (simp [go_sem]; done) | (simp [go_sem]; omega)))
set_option maxRecDepth 100000 in
set_option maxHeartbeats 4000000 in
theorem bagLinks_good (w : World) (ao : Option Addr) (zs : List Int) (n cap : Nat) (hl : zs.length = n) (hi : IntsAt w (.slice ao n cap) zs) (c : n ≤ 60) :
    Calls Try.prog 5 #[.slice ao n cap] w (Makes (.bool true) w) := by
  have HI := hid hi
  have HL := hid hl
  have d1 : decide ((60 : Int) < n) = false := by simp; omega
  clear hi hl
  go_enter Try.func5, Try.ntmps5
  go_wp2_with (first | (go_at_call 17; ((with_reducible refine (bagAlive_any _).mono ?_)); rintro _ _ ⟨rfl, u, rfl⟩; (try (rw [Fut.put_self u (by first | assumption | (simp [go_sem]; done) | (simp [go_sem]; omega))]))) | (((with_reducible refine wp_region_fut_lit (by kernel_rfl) (by kernel_rfl) ?_)); (repeat (go_big_quiet_step ((first | (go_at_call 17; with_reducible exact Calls.fut_of (bagAlive_any _)))))); ((with_reducible refine wpQuiet_nil ?_)); rintro _ ⟨u, rfl⟩; (try (rw [Fut.put_self u (by first | assumption | (simp [go_sem]; done) | (simp [go_sem]; omega))]))))
  obtain ⟨B, hB⟩ : ∃ B : Base, B = ⟨w, fun _ => none⟩ := ⟨_, rfl⟩
  (((with_reducible refine (bag_new 100 100 rfl B (hid (by rw [hB]; exact fun _ => rfl)) _ (by rw [hB]; exact (by repeat' (first | exact Below.refl _ _ | with_reducible assumption | omega | with_reducible refine below_put_fut ?_ ?_ _ | with_reducible refine below_to_put ?_ | with_reducible refine Below.alloc ?_ ?_ _ | with_reducible refine Below.fut ?_ ?_ _ | with_reducible refine Below.drew ?_ | with_reducible refine Below.setCell ?_ ?_ _ | with_reducible refine Below.atPut ?_ ?_ _ | (simp [go_sem]; done) | (simp [go_sem]; omega))))).mono ?_)); rintro _ W1 ⟨g, rfl, hb1⟩)
  have HB := hid hB
  have HB1 := hid hb1
  clear hB hb1
  go_wp2_with fail
  go_loopw [22] (fun i wr => ∃ m : Nat, m ≤ n ∧ i = .int .i64 m ∧ ∃ l : List Pk, Hid (l.length = m ∧ ∀ p ∈ l, Low p) ∧ Hid (Bag 100 B g l wr)) (fun i _ => n - (intOf i).toNat)
  case atStart => exact ⟨0, Nat.zero_le _, rfl, [], hid ⟨rfl, fun _ h => by cases h⟩, HB1⟩
  case round =>
    obtain ⟨m, hm, rfl, l, hl, hb⟩ := hrel
    by_cases hlt : m < n
    · obtain ⟨x, hx⟩ : ∃ x, zs[m]? = some x := ⟨zs[m]'(by rw [HL.out]; exact hlt), List.getElem?_eq_getElem _⟩
      obtain ⟨b1, o1, rfl, p1⟩ := HI.out.at_ hx
      clear hx
      have hlb := World.block_lt_of_cell? _ _ p1
      have q1 : wr.cell? ⟨b1, o1 + m, none⟩ = some (.int .i64 x) := by
        have := hb.out.below
        rw [HB.out] at this
        exact (this.cell (p := ⟨b1, o1 + m, none⟩) hlb).trans p1
      clear p1
      go_wp2_with fail
      (((with_reducible refine (bag_put hb.out (by rw [hl.out.1]; omega) (by decide) _ _ _ _).mono ?_)); rintro _ W2 ⟨rfl, hb2⟩)
      have hl2 := hid (show (l ++ [(bits .and .i64 x 3, bits .and .i64 (x / 4) 3, 0, 0)]).length = m + 1 ∧ ∀ p ∈ l ++ [((bits .and .i64 x 3, bits .and .i64 (x / 4) 3, 0, 0) : Pk)], Low p by
        refine ⟨by rw [List.length_append, hl.out.1]; rfl, fun p hp => ?_⟩
        rcases List.mem_append.1 hp with hp | hp
        · exact hl.out.2 p hp
        · simp at hp
          subst hp
          exact ⟨(and3 x).1, (and3 x).2, (and3 _).1, (and3 _).2⟩)
      have HB2 := hid hb2
      clear hb2
      go_wp2_with fail
      go_roundw
      case rel => exact ⟨m + 1, by omega, by go_num, _, hl2, HB2⟩
      case measure => simp [intOf]; omega
    · obtain rfl : m = n := by omega
      clear HB1 hm HI
      have HLEN := hid hl.out.1
      have hll : l.length ≤ 60 := by rw [HLEN.out]; exact c
      have HLO := hid hl.out.2
      have HC0 := hid (cl_none l HLO.out)
      go_wp2_with fail
      go_loopw [6, 7] (fun s i wr => ∃ q : Nat, q ≤ 4 ∧ i = .int .i64 q ∧ s = .int .i64 ((cl (q : Int) 0 l : Nat) : Int) ∧ Hid (Bag 100 B g l wr)) (fun _ i _ => 4 - (intOf i).toNat)
      case atStart => exact ⟨0, by omega, rfl, by rw [show ((0 : Nat) : Int) = 0 from rfl, HC0.out]; rfl, hb⟩
      case round =>
        obtain ⟨q, hq, rfl, rfl, hb2⟩ := hrel
        clear hb
        by_cases hlt2 : q < 4
        · have dq : decide ((q : Int) < 4) = true := by simp; omega
          go_wp2_with fail
          go_loopw [6, 8] (fun s i wr => ∃ r : Nat, r ≤ 4 ∧ i = .int .i64 r ∧ s = .int .i64 ((cl (q : Int) (r : Int) l : Nat) : Int) ∧ Hid (Bag 100 B g l wr)) (fun _ i _ => 4 - (intOf i).toNat)
          case atStart => exact ⟨0, by omega, rfl, rfl, hb2⟩
          case round =>
            obtain ⟨r, hr, rfl, rfl, hb3⟩ := hrel
            clear hb2
            by_cases hlt3 : r < 4
            · have hc1 := cl_le q r l
              have hc2 := cntOn_le q r l
              have hc5 : (cl q r l : Int) ≤ 60 := by omega
              have hc6 : (cntOn q r l : Int) ≤ 60 := by omega
              have HS := hid (cl_step q r l)
              clear hc1 hc2
              go_wp2_with fail
              (((with_reducible refine (bag_on hb3.out (by exact Nat.le_trans hll (by decide)) q r (cntOn q r l) rfl).mono ?_)); rintro _ W4 ⟨rfl, hb4⟩)
              have HB4 := hid hb4
              clear hb4
              go_wp2_with fail
              go_roundw
              case rel => exact ⟨r + 1, by omega, by go_num, by rw [show ((r + 1 : Nat) : Int) = (r : Int) + 1 from by omega, HS.out]; go_num, HB4⟩
              case measure => simp [intOf]; omega
            · obtain rfl : r = 4 := by omega
              have HN := hid (cl_next q l HLO.out)
              go_wp2_with fail
              go_roundw
              case rel => exact ⟨q + 1, by omega, by go_num, by rw [show ((q + 1 : Nat) : Int) = (q : Int) + 1 from by omega, ← HN.out]; rfl, hb3⟩
              case measure => simp [intOf]; omega
        · obtain rfl : q = 4 := by omega
          have HA := hid (cl_all l HLO.out)
          have HF := hid (cntOn_far l HLO.out)
          have e1 : ((cl (4 : Int) 0 l : Int) == (m : Int)) = true := by rw [HA.out, HLEN.out]; simp
          go_wp2_with fail
          (((with_reducible refine (bag_len hb2.out (cl (4 : Int) 0 l : Int) (by rw [HA.out])).mono ?_)); rintro _ W4 ⟨rfl, hb4⟩)
          have HB4 := hid hb4
          clear hb4
          go_wp2_with fail
          (((with_reducible refine (bag_on HB4.out (by exact Nat.le_trans hll (by decide)) 9 9 0 (by rw [HF.out]; simp)).mono ?_)); rintro _ W5 ⟨rfl, hb5⟩)
          have hbel : Below w.heap.size w W5 := by have := hb5.below; rw [HB.out] at this; exact this
          clear hb5
          go_wp2_with fail
          go_ret
          exact .mk rfl hbel
theorem bagLinks_walk (w : World) (v : Value) (zs : List Int) (hi : IntsAt w v zs) :
    Calls Try.prog 5 #[v] w (Makes (.bool true) w) := by
  obtain ⟨ao, cap, rfl⟩ := hi.slice
  rcases Nat.lt_or_ge 60 zs.length with c | c
  · exact bagLinks_many w _ _ _ c
  · exact bagLinks_good w _ zs _ _ rfl hi c
set_option maxRecDepth 100000 in
theorem bagLinks_lifted (os : Os) (started : os.Started) (H : Type) (enc : TypeId × Value → H) :
    ReturnsInHanded {} Try.checked os 5 .any (Rows.bagLinksSpec.pre6 enc Try.prog Try.f5 Rows.bagLinksRow.domain false) (Rows.bagLinksSpec.post enc Try.prog Try.f5 false true false false) := by
  refine returnsInHanded_of_change (C := Try.checked) own started (by kernel_rfl) Try.func5
    (ChangeSpec.witness6 (enc := enc) (C := Try.checked) false ⟨#[], #[.slice none 0 0], []⟩ 8 (by kernel_rfl) (by kernel_rfl) (by kernel_rfl) (by kernel_rfl)) ?_
  intro W base args ds gs before hval0 hW hcnd _
  have hval : ∀ (j : Nat) t v, Try.f5.params[j]? = some t → args[j]? = some v → Value.okWide Try.prog W .any base t v := hval0
  have hW' := hW
  obtain ⟨p, q, hA0, hV, rfl, hfz, hnd⟩ := hW
  have hA : DataW.TrodAll enc Try.prog W 0 (fun _ => true) true Try.f5.params.toList args.toList ds p := hA0
  rw [Try.params5] at hA hval
  obtain ⟨v0, vs0, d0, ds0, p0, q0, hargs, rfl, rfl, h0, r0⟩ := trodAll_cons hA
  obtain ⟨rfl, rfl, rfl⟩ := trodAll_nil r0
  obtain rfl : args = #[v0] := by cases args; simp_all
  obtain ⟨rfl, rfl⟩ := trodVars_none hV
  have k0 := h0
  have lt0 : ∀ x ∈ p0, x.block < W.heap.size := by obtain ⟨m, hm⟩ := k0; exact DataW.trod_lt m _ _ _ hm
  obtain ⟨l0, w0⟩ := open_intlist (hval 0 47 v0 rfl rfl) h0
  clear hA0 hval0
  refine (bagLinks_walk W _ l0 w0).mono fun e W' ⟨he, u, hu⟩ => ?_
  subst he; subst hu
  have bel := u.below
  exact ⟨_, rfl, _, _, _, [], _, [], hW', trodAll_mk1 (shut_bool Try.underlying4 _), (trodAll_cons_mk (Below.trod laidOut (by kernel_rfl) (of_decide_eq_true (by kernel_rfl)) k0 bel lt0) trodAll_mk0), rfl, bel.frame _, fun h => by cases h⟩
/-- The statement. -/
theorem bagLinks_holds : Rows.BagLinksSaid :=
  OpenClaim.holds_of_wide 5 Try.f5 rfl rfl rfl rfl rfl rfl rfl ⟨rfl, rfl, rfl, rfl, rfl⟩ rfl rfl rfl rfl rfl (by kernel_rfl) Try.func5 (by kernel_rfl)
    (of_decide_eq_true (by kernel_rfl)) (by unfold Func.isWrapper; first | (rw [if_pos (by decide +kernel)]; kernel_rfl) | (rw [if_neg (by decide +kernel)]; exact ⟨rfl, rfl⟩))
    (fun os started H enc _ => bagLinks_lifted os started H enc)
#print axioms bagLinks_holds
end Go.Proofs.Ythgajbfgolcpkaa
