import Derived.Test.YthgajbfgolcpkaaVw8
/- Package arc; Ring; alive. -/
namespace Go.Proofs.Ythgajbfgolcpkaa
open Go.RowKit
set_option linter.unusedVariables false
set_option linter.unusedSimpArgs false
set_option maxHeartbeats 400000 in
theorem whole_any (a b : Int) (r : Bool) (hr : (a == b) = r) (w : World) :
    Calls Try.prog 43 #[.agg #[.int .u64 a, .int .u64 b]] w (Makes (.bool r) w) := by
  subst hr
  go_enter Try.func43, Try.ntmps43
  go_wp2
  go_ret; exact .mk (by first | rfl | (simp; done) | (simp; omega)) (by repeat' (first | exact Below.refl _ _ | with_reducible assumption | omega | with_reducible refine below_put_fut ?_ ?_ _ | with_reducible refine below_to_put ?_ | with_reducible refine Below.alloc ?_ ?_ _ | with_reducible refine Below.fut ?_ ?_ _ | with_reducible refine Below.drew ?_ | with_reducible refine Below.setCell ?_ ?_ _ | with_reducible refine Below.atPut ?_ ?_ _ | (simp [go_sem]; done) | (simp [go_sem]; omega)))
set_option maxHeartbeats 400000 in
theorem size_any (a b : Int) (r : Int) (hr : IntKind.u64.wrap (b - a) = r) (w : World) :
    Calls Try.prog 59 #[.agg #[.int .u64 a, .int .u64 b]] w (Makes (.int .u64 r) w) := by
  subst hr
  go_enter Try.func59, Try.ntmps59
  go_wp2
  go_ret; exact .mk (by first | rfl | (simp; done) | (simp; omega)) (by repeat' (first | exact Below.refl _ _ | with_reducible assumption | omega | with_reducible refine below_put_fut ?_ ?_ _ | with_reducible refine below_to_put ?_ | with_reducible refine Below.alloc ?_ ?_ _ | with_reducible refine Below.fut ?_ ?_ _ | with_reducible refine Below.drew ?_ | with_reducible refine Below.setCell ?_ ?_ _ | with_reducible refine Below.atPut ?_ ?_ _ | (simp [go_sem]; done) | (simp [go_sem]; omega)))
def inB (a b x : Int) : Bool := a == b || decide (IntKind.u64.wrap (x - a) < IntKind.u64.wrap (b - a))
set_option maxHeartbeats 400000 in
theorem in_any (a b x : Int) (r : Bool) (hr : inB a b x = r) (w : World) :
    Calls Try.prog 37 #[.agg #[.int .u64 a, .int .u64 b], .int .u64 x] w (Makes (.bool r) w) := by
  subst hr
  cases h : (a == b)
  · have HR := hid (show inB a b x = decide (IntKind.u64.wrap (x - a) < IntKind.u64.wrap (b - a)) by simp [inB, h])
    go_enter Try.func37, Try.ntmps37
    go_wp2_with (first | (go_at_call 43; ((with_reducible refine (whole_any _ _ _ h _).mono ?_)); rintro _ _ ⟨rfl, u, rfl⟩; (try (rw [Fut.put_self u (by first | assumption | (simp [go_sem]; done) | (simp [go_sem]; omega))]))) | (go_at_call 59; ((with_reducible refine (size_any _ _ _ rfl _).mono ?_)); rintro _ _ ⟨rfl, u, rfl⟩; (try (rw [Fut.put_self u (by first | assumption | (simp [go_sem]; done) | (simp [go_sem]; omega))]))) | (((with_reducible refine wp_region_fut_lit (by kernel_rfl) (by kernel_rfl) ?_)); (repeat (go_big_quiet_step ((first | (go_at_call 43; with_reducible exact Calls.fut_of (whole_any _ _ _ h _)) | (go_at_call 59; with_reducible exact Calls.fut_of (size_any _ _ _ rfl _)))))); ((with_reducible refine wpQuiet_nil ?_)); rintro _ ⟨u, rfl⟩; (try (rw [Fut.put_self u (by first | assumption | (simp [go_sem]; done) | (simp [go_sem]; omega))]))))
    go_ret
    exact .mk (by rw [HR.out]; rfl) (by repeat' (first | exact Below.refl _ _ | with_reducible assumption | omega | with_reducible refine below_put_fut ?_ ?_ _ | with_reducible refine below_to_put ?_ | with_reducible refine Below.alloc ?_ ?_ _ | with_reducible refine Below.fut ?_ ?_ _ | with_reducible refine Below.drew ?_ | with_reducible refine Below.setCell ?_ ?_ _ | with_reducible refine Below.atPut ?_ ?_ _ | (simp [go_sem]; done) | (simp [go_sem]; omega)))
  · have HR := hid (show inB a b x = true by simp [inB, h])
    go_enter Try.func37, Try.ntmps37
    go_wp2_with (first | (go_at_call 43; ((with_reducible refine (whole_any _ _ _ h _).mono ?_)); rintro _ _ ⟨rfl, u, rfl⟩; (try (rw [Fut.put_self u (by first | assumption | (simp [go_sem]; done) | (simp [go_sem]; omega))]))) | (go_at_call 59; ((with_reducible refine (size_any _ _ _ rfl _).mono ?_)); rintro _ _ ⟨rfl, u, rfl⟩; (try (rw [Fut.put_self u (by first | assumption | (simp [go_sem]; done) | (simp [go_sem]; omega))]))) | (((with_reducible refine wp_region_fut_lit (by kernel_rfl) (by kernel_rfl) ?_)); (repeat (go_big_quiet_step ((first | (go_at_call 43; with_reducible exact Calls.fut_of (whole_any _ _ _ h _)) | (go_at_call 59; with_reducible exact Calls.fut_of (size_any _ _ _ rfl _)))))); ((with_reducible refine wpQuiet_nil ?_)); rintro _ ⟨u, rfl⟩; (try (rw [Fut.put_self u (by first | assumption | (simp [go_sem]; done) | (simp [go_sem]; omega))]))))
    go_ret
    exact .mk (by rw [HR.out]; rfl) (by repeat' (first | exact Below.refl _ _ | with_reducible assumption | omega | with_reducible refine below_put_fut ?_ ?_ _ | with_reducible refine below_to_put ?_ | with_reducible refine Below.alloc ?_ ?_ _ | with_reducible refine Below.fut ?_ ?_ _ | with_reducible refine Below.drew ?_ | with_reducible refine Below.setCell ?_ ?_ _ | with_reducible refine Below.atPut ?_ ?_ _ | (simp [go_sem]; done) | (simp [go_sem]; omega)))
def apartB (a b c d : Int) : Bool := !inB a b c && !inB c d a
set_option maxHeartbeats 1000000 in
theorem apart_any (a b c d : Int) (r : Bool) (hr : apartB a b c d = r) (w : World) :
    Calls Try.prog 42 #[.agg #[.int .u64 a, .int .u64 b], .agg #[.int .u64 c, .int .u64 d]] w (Makes (.bool r) w) := by
  unfold apartB at hr
  cases h1 : inB a b c
  · cases h2 : inB c d a
    · obtain rfl : true = r := by simpa [h1, h2] using hr
      clear hr
      go_enter Try.func42, Try.ntmps42
      go_wp2
      go_step3
      go_wp2
      go_step3
      go_wp2
      refine wp_loop_rounds 3 ?_
      rw [rounds_succ]
      go_wp2_with (first | (go_at_call 37; ((with_reducible refine (in_any _ _ _ _ (by assumption) _).mono ?_)); rintro _ _ ⟨rfl, u, rfl⟩; (try (rw [Fut.put_self u (by first | assumption | (simp [go_sem]; done) | (simp [go_sem]; omega))]))) | (((with_reducible refine wp_region_fut_lit (by kernel_rfl) (by kernel_rfl) ?_)); (repeat (go_big_quiet_step ((first | (go_at_call 37; with_reducible exact Calls.fut_of (in_any _ _ _ _ (by assumption) _)))))); ((with_reducible refine wpQuiet_nil ?_)); rintro _ ⟨u, rfl⟩; (try (rw [Fut.put_self u (by first | assumption | (simp [go_sem]; done) | (simp [go_sem]; omega))]))))
      rw [rounds_succ]
      go_wp2_with (first | (go_at_call 37; ((with_reducible refine (in_any _ _ _ _ (by assumption) _).mono ?_)); rintro _ _ ⟨rfl, u, rfl⟩; (try (rw [Fut.put_self u (by first | assumption | (simp [go_sem]; done) | (simp [go_sem]; omega))]))) | (((with_reducible refine wp_region_fut_lit (by kernel_rfl) (by kernel_rfl) ?_)); (repeat (go_big_quiet_step ((first | (go_at_call 37; with_reducible exact Calls.fut_of (in_any _ _ _ _ (by assumption) _)))))); ((with_reducible refine wpQuiet_nil ?_)); rintro _ ⟨u, rfl⟩; (try (rw [Fut.put_self u (by first | assumption | (simp [go_sem]; done) | (simp [go_sem]; omega))]))))
      rw [rounds_succ]
      go_wp2_with (first | (go_at_call 37; ((with_reducible refine (in_any _ _ _ _ (by assumption) _).mono ?_)); rintro _ _ ⟨rfl, u, rfl⟩; (try (rw [Fut.put_self u (by first | assumption | (simp [go_sem]; done) | (simp [go_sem]; omega))]))) | (((with_reducible refine wp_region_fut_lit (by kernel_rfl) (by kernel_rfl) ?_)); (repeat (go_big_quiet_step ((first | (go_at_call 37; with_reducible exact Calls.fut_of (in_any _ _ _ _ (by assumption) _)))))); ((with_reducible refine wpQuiet_nil ?_)); rintro _ ⟨u, rfl⟩; (try (rw [Fut.put_self u (by first | assumption | (simp [go_sem]; done) | (simp [go_sem]; omega))]))))
      rw [Exit.noGoto_ret]
      go_ret; exact .mk (by first | rfl | (simp; done) | (simp; omega)) (by repeat' (first | exact Below.refl _ _ | with_reducible assumption | omega | with_reducible refine below_put_fut ?_ ?_ _ | with_reducible refine below_to_put ?_ | with_reducible refine Below.alloc ?_ ?_ _ | with_reducible refine Below.fut ?_ ?_ _ | with_reducible refine Below.drew ?_ | with_reducible refine Below.setCell ?_ ?_ _ | with_reducible refine Below.atPut ?_ ?_ _ | (simp [go_sem]; done) | (simp [go_sem]; omega)))
    · obtain rfl : false = r := by simpa [h1, h2] using hr
      clear hr
      go_enter Try.func42, Try.ntmps42
      go_wp2
      go_step3
      go_wp2
      go_step3
      go_wp2
      refine wp_loop_rounds 3 ?_
      rw [rounds_succ]
      go_wp2_with (first | (go_at_call 37; ((with_reducible refine (in_any _ _ _ _ (by assumption) _).mono ?_)); rintro _ _ ⟨rfl, u, rfl⟩; (try (rw [Fut.put_self u (by first | assumption | (simp [go_sem]; done) | (simp [go_sem]; omega))]))) | (((with_reducible refine wp_region_fut_lit (by kernel_rfl) (by kernel_rfl) ?_)); (repeat (go_big_quiet_step ((first | (go_at_call 37; with_reducible exact Calls.fut_of (in_any _ _ _ _ (by assumption) _)))))); ((with_reducible refine wpQuiet_nil ?_)); rintro _ ⟨u, rfl⟩; (try (rw [Fut.put_self u (by first | assumption | (simp [go_sem]; done) | (simp [go_sem]; omega))]))))
      rw [rounds_succ]
      go_wp2_with (first | (go_at_call 37; ((with_reducible refine (in_any _ _ _ _ (by assumption) _).mono ?_)); rintro _ _ ⟨rfl, u, rfl⟩; (try (rw [Fut.put_self u (by first | assumption | (simp [go_sem]; done) | (simp [go_sem]; omega))]))) | (((with_reducible refine wp_region_fut_lit (by kernel_rfl) (by kernel_rfl) ?_)); (repeat (go_big_quiet_step ((first | (go_at_call 37; with_reducible exact Calls.fut_of (in_any _ _ _ _ (by assumption) _)))))); ((with_reducible refine wpQuiet_nil ?_)); rintro _ ⟨u, rfl⟩; (try (rw [Fut.put_self u (by first | assumption | (simp [go_sem]; done) | (simp [go_sem]; omega))]))))
      rw [Exit.noGoto_ret]
      go_ret; exact .mk (by first | rfl | (simp; done) | (simp; omega)) (by repeat' (first | exact Below.refl _ _ | with_reducible assumption | omega | with_reducible refine below_put_fut ?_ ?_ _ | with_reducible refine below_to_put ?_ | with_reducible refine Below.alloc ?_ ?_ _ | with_reducible refine Below.fut ?_ ?_ _ | with_reducible refine Below.drew ?_ | with_reducible refine Below.setCell ?_ ?_ _ | with_reducible refine Below.atPut ?_ ?_ _ | (simp [go_sem]; done) | (simp [go_sem]; omega)))
  · obtain rfl : false = r := by simpa [h1] using hr
    clear hr
    go_enter Try.func42, Try.ntmps42
    go_wp2
    go_step3
    go_wp2
    go_step3
    go_wp2
    refine wp_loop_rounds 3 ?_
    rw [rounds_succ]
    go_wp2_with (first | (go_at_call 37; ((with_reducible refine (in_any _ _ _ _ (by assumption) _).mono ?_)); rintro _ _ ⟨rfl, u, rfl⟩; (try (rw [Fut.put_self u (by first | assumption | (simp [go_sem]; done) | (simp [go_sem]; omega))]))) | (((with_reducible refine wp_region_fut_lit (by kernel_rfl) (by kernel_rfl) ?_)); (repeat (go_big_quiet_step ((first | (go_at_call 37; with_reducible exact Calls.fut_of (in_any _ _ _ _ (by assumption) _)))))); ((with_reducible refine wpQuiet_nil ?_)); rintro _ ⟨u, rfl⟩; (try (rw [Fut.put_self u (by first | assumption | (simp [go_sem]; done) | (simp [go_sem]; omega))]))))
    rw [Exit.noGoto_ret]
    go_ret; exact .mk (by first | rfl | (simp; done) | (simp; omega)) (by repeat' (first | exact Below.refl _ _ | with_reducible assumption | omega | with_reducible refine below_put_fut ?_ ?_ _ | with_reducible refine below_to_put ?_ | with_reducible refine Below.alloc ?_ ?_ _ | with_reducible refine Below.fut ?_ ?_ _ | with_reducible refine Below.drew ?_ | with_reducible refine Below.setCell ?_ ?_ _ | with_reducible refine Below.atPut ?_ ?_ _ | (simp [go_sem]; done) | (simp [go_sem]; omega)))
theorem ring1_is (p : Pt) (W : World) :
    Calls Try.prog 61 #[.agg #[.int .u64 p.1, .int .i64 p.2.1, .int .i64 p.2.2]] W (Makes (.bool (decide (p.2.1 < 0))) W) := by
  go_enter Try.func61, Try.ntmps61
  go_wp2
  go_ret; exact .mk (by first | rfl | (simp; done) | (simp; omega)) (by repeat' (first | exact Below.refl _ _ | with_reducible assumption | omega | with_reducible refine below_put_fut ?_ ?_ _ | with_reducible refine below_to_put ?_ | with_reducible refine Below.alloc ?_ ?_ _ | with_reducible refine Below.fut ?_ ?_ _ | with_reducible refine Below.drew ?_ | with_reducible refine Below.setCell ?_ ?_ _ | with_reducible refine Below.atPut ?_ ?_ _ | (simp [go_sem]; done) | (simp [go_sem]; omega)))
/-- Whether nothing is known somewhere in the first k parts. -/
def gapL (l : List Pt) : Bool := l.any fun p => decide (p.2.1 < 0)
set_option maxRecDepth 100000 in
set_option maxHeartbeats 4000000 in
theorem index_is {w0 : Base} {g : Nat} {l : List Pt} {W : World} {v : Value} (h : ViewAt w0 g l W v) (n : Nat) (hn : l.length = n) (hl : n ≤ 1000) :
    Calls Try.prog 70 #[v, .func (.func 61) #[] #[]] W fun e W' => (∃ i : Int, e = .returned (.int .i64 i) ∧ decide (0 ≤ i) = gapL l) ∧ ∃ u : Fut W, W' = u.val := by
  have ho := h.owns
  obtain ⟨ao, cc, rfl⟩ := owns_slice ho
  have hrl : ∀ r, ao = some ⟨r, 0, none⟩ → r < W.heap.size := fun r hr => by subst hr; exact (ho.lt r rfl).2
  rw [hn] at ho
  have HRL := hid hrl
  have HO := hid ho
  have HN := hid hn
  rw [hn]
  clear h ho hn hrl
  go_enter Try.func70, Try.ntmps70
  go_wp2_with fail
  go_loopw [8] (fun x8 wr => ∃ k : Nat, k ≤ n ∧ x8 = .int .i64 k ∧ Hid (∀ p ∈ l.take k, 0 ≤ p.2.1) ∧ ∃ u : Fut W, wr = u.val) (fun i _ => n - (intOf i).toNat)
  case atStart => exact ⟨0, Nat.zero_le _, rfl, hid (by simp), ⟨⟨_, (by repeat' (first | exact Below.refl _ _ | with_reducible assumption | omega | with_reducible refine below_put_fut ?_ ?_ _ | with_reducible refine below_to_put ?_ | with_reducible refine Below.alloc ?_ ?_ _ | with_reducible refine Below.fut ?_ ?_ _ | with_reducible refine Below.drew ?_ | with_reducible refine Below.setCell ?_ ?_ _ | with_reducible refine Below.atPut ?_ ?_ _ | (simp [go_sem]; done) | (simp [go_sem]; omega)))⟩, rfl⟩⟩
  case round =>
    obtain ⟨k, hk, rfl, HK, u, rfl⟩ := hrel
    by_cases hlt : k < n
    · obtain ⟨p, hp⟩ : ∃ p, l[k]? = some p := ⟨l[k]'(by rw [HN.out]; exact hlt), List.getElem?_eq_getElem _⟩
      obtain ⟨r, rfl⟩ : ∃ r, ao = some ⟨r, 0, none⟩ := by
        obtain ⟨r, cap, h2, _, _⟩ := World.ownsRow.form HO.out (by omega)
        injection h2 with h2; exact ⟨r, h2⟩
      obtain ⟨c0, c1, c2⟩ := part_cells HO.out hp
      have hl2 := HRL.out r rfl
      have HP := hid hp
      clear hp
      rcases Decidable.em (p.2.1 < 0) with e | e
      · have HG := hid (show gapL l = true from by
          unfold gapL
          rw [List.any_eq_true]
          exact ⟨p, List.mem_of_getElem? HP.out, by simp [e]⟩)
        have e1 : decide (p.2.1 < 0) = true := by simp [e]
        clear e
        go_wp2_with fail
        refine (ring1_is p _).mono ?_
        rintro _ _ ⟨rfl, u2, rfl⟩
        go_wp2_with fail
        go_ret
        exact ⟨⟨_, rfl, by rw [HG.out]; simp⟩, ⟨⟨_, (by repeat' (first | exact Below.refl _ _ | with_reducible assumption | omega | with_reducible refine below_put_fut ?_ ?_ _ | with_reducible refine below_to_put ?_ | with_reducible refine Below.alloc ?_ ?_ _ | with_reducible refine Below.fut ?_ ?_ _ | with_reducible refine Below.drew ?_ | with_reducible refine Below.setCell ?_ ?_ _ | with_reducible refine Below.atPut ?_ ?_ _ | (simp [go_sem]; done) | (simp [go_sem]; omega)))⟩, rfl⟩⟩
      · have HE := hid (show 0 ≤ p.2.1 by omega)
        have e1 : decide (p.2.1 < 0) = false := by simp; omega
        clear e
        go_wp2_with fail
        refine (ring1_is p _).mono ?_
        rintro _ _ ⟨rfl, u2, rfl⟩
        go_wp2_with fail
        go_roundw
        case rel => exact ⟨k + 1, by omega, by go_num, hid (fun x hx => by
            rw [take_snoc HP.out, List.mem_append, List.mem_singleton] at hx
            rcases hx with hx | rfl
            · exact HK.out x hx
            · exact HE.out), ⟨⟨_, (by repeat' (first | exact Below.refl _ _ | with_reducible assumption | omega | with_reducible refine below_put_fut ?_ ?_ _ | with_reducible refine below_to_put ?_ | with_reducible refine Below.alloc ?_ ?_ _ | with_reducible refine Below.fut ?_ ?_ _ | with_reducible refine Below.drew ?_ | with_reducible refine Below.setCell ?_ ?_ _ | with_reducible refine Below.atPut ?_ ?_ _ | (simp [go_sem]; done) | (simp [go_sem]; omega)))⟩, rfl⟩⟩
        case measure => simp [intOf]; omega
    · obtain rfl : k = n := by omega
      have HG := hid (show gapL l = false from by
        unfold gapL
        rw [List.any_eq_false]
        intro p hp
        have := HK.out p (by rw [← HN.out, List.take_length]; exact hp)
        simp; omega)
      go_wp2_with fail
      go_ret
      exact ⟨⟨_, rfl, by rw [HG.out]; simp⟩, ⟨⟨_, (by repeat' (first | exact Below.refl _ _ | with_reducible assumption | omega | with_reducible refine below_put_fut ?_ ?_ _ | with_reducible refine below_to_put ?_ | with_reducible refine Below.alloc ?_ ?_ _ | with_reducible refine Below.fut ?_ ?_ _ | with_reducible refine Below.drew ?_ | with_reducible refine Below.setCell ?_ ?_ _ | with_reducible refine Below.atPut ?_ ?_ _ | (simp [go_sem]; done) | (simp [go_sem]; omega)))⟩, rfl⟩⟩
theorem contains_is {w0 : Base} {g : Nat} {l : List Pt} {W : World} {v : Value} (h : ViewAt w0 g l W v) (hl : l.length ≤ 1000) :
    Calls Try.prog 60 #[v, .func (.func 61) #[] #[]] W (Makes (.bool (gapL l)) W) := by
  have hi := index_is h _ rfl hl
  obtain ⟨ao, cc, rfl⟩ := owns_slice h.owns
  clear h
  go_enter Try.func60, Try.ntmps60
  go_wp2_with fail
  refine hi.mono ?_
  rintro _ _ ⟨⟨i, rfl, hg⟩, u, rfl⟩
  go_wp2_with fail
  go_ret
  exact .mk (by simp [hg]) (by repeat' (first | exact Below.refl _ _ | with_reducible assumption | omega | with_reducible refine below_put_fut ?_ ?_ _ | with_reducible refine below_to_put ?_ | with_reducible refine Below.alloc ?_ ?_ _ | with_reducible refine Below.fut ?_ ?_ _ | with_reducible refine Below.drew ?_ | with_reducible refine Below.setCell ?_ ?_ _ | with_reducible refine Below.atPut ?_ ?_ _ | (simp [go_sem]; done) | (simp [go_sem]; omega)))
def ringB (l : List Pt) : Bool := !l.isEmpty && !gapL l
set_option maxRecDepth 100000 in
theorem ring_is {w0 : Base} {g : Nat} {l : List Pt} {W : World} {v : Value} (h : ViewAt w0 g l W v) (hl : l.length ≤ 1000) :
    Calls Try.prog 38 #[.pointer (some ⟨g, 0, none⟩)] W (Makes (.bool (ringB l)) W) := by
  have hi := contains_is h hl
  have hc := cell_of_row W g 0 _ _ (0, 0) h.heap
  have hg := h.lt
  obtain ⟨ao, cc, rfl⟩ := owns_slice h.owns
  by_cases hn : l.length = 0
  · have HR := hid (show ringB l = false by rw [List.eq_nil_of_length_eq_zero hn]; rfl)
    rw [hn] at hc
    clear h hi hn
    go_enter Try.func38, Try.ntmps38
    go_wp2_with fail
    go_ret
    exact .mk (by rw [HR.out]; simp) (by repeat' (first | exact Below.refl _ _ | with_reducible assumption | omega | with_reducible refine below_put_fut ?_ ?_ _ | with_reducible refine below_to_put ?_ | with_reducible refine Below.alloc ?_ ?_ _ | with_reducible refine Below.fut ?_ ?_ _ | with_reducible refine Below.drew ?_ | with_reducible refine Below.setCell ?_ ?_ _ | with_reducible refine Below.atPut ?_ ?_ _ | (simp [go_sem]; done) | (simp [go_sem]; omega)))
  · have HR := hid (show ringB l = !gapL l by cases l <;> simp_all [ringB])
    have e0 : decide ((0 : Int) < (l.length : Int)) = true := by simp; omega
    have hpos : 0 < l.length := by omega
    have hpos2 : (0 : Int) < (l.length : Int) := by omega
    generalize l.length = n at hc hi e0 hpos hpos2
    clear h hn
    go_enter Try.func38, Try.ntmps38
    go_wp2_with fail
    refine hi.mono ?_
    rintro _ _ ⟨rfl, u, rfl⟩
    go_wp2_with fail
    go_ret
    exact .mk (by rw [HR.out]; simp) (by repeat' (first | exact Below.refl _ _ | with_reducible assumption | omega | with_reducible refine below_put_fut ?_ ?_ _ | with_reducible refine below_to_put ?_ | with_reducible refine Below.alloc ?_ ?_ _ | with_reducible refine Below.fut ?_ ?_ _ | with_reducible refine Below.drew ?_ | with_reducible refine Below.setCell ?_ ?_ _ | with_reducible refine Below.atPut ?_ ?_ _ | (simp [go_sem]; done) | (simp [go_sem]; omega)))
end Go.Proofs.Ythgajbfgolcpkaa
