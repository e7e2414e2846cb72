/- WalkWhile answers true for every list of items, text and int: the walk. -/
import Derived.Test.YthknenhcnpgkcaaWh2
namespace Go.Proofs.Ythknenhcnpgkcaa
open Go.RowKit Go.Shelf
set_option linter.unusedVariables false
set_option linter.unusedSimpArgs false
theorem Held.base {w X W : World} {F : Nat → Prop} {ys : List It} {gs : Nat} (h : Held X W F ys gs) (hb : Below w.heap.size w X) (hz : w.heap.size ≤ X.heap.size) : Held w W (fun k => F k ∨ k < X.heap.size) ys gs := by
  obtain ⟨h1, h2, h3, c, top, h4, h5, h6⟩ := h
  refine ⟨hb.trans (h1.mono hz), Nat.le_trans hz h2, h3, c, top, h4, fun k hk => ?_, fun k hk => Nat.le_trans hz (h6 k hk)⟩
  rcases hk with hk | hk
  · exact h5 k hk
  · refine ⟨?_, by omega⟩
    rcases Nat.eq_zero_or_pos (c k) with z | z
    · exact z
    · have := h6 k (by omega); omega
/-- Where the way begins. -/
theorem WSt.start {w X W1 V : World} {xs : List It} {gs gr Bn Bout Bat Bs Bmore Br : Nat} {v : Value} (hH : Held w W1 (fun k => (k = gr ∨ blk v k ≠ 0) ∨ k < X.heap.size) xs gs) (hBV : Below W1.heap.size W1 V) (h1 : w.heap.size ≤ X.heap.size) (h2 : X.heap.size ≤ W1.heap.size)
    (b1 : Bat < X.heap.size) (b2 : Bmore < X.heap.size) (b3 : W1.heap.size ≤ Bs ∧ Bs < V.heap.size) (b4 : W1.heap.size ≤ Br ∧ Br < V.heap.size) (b5 : W1.heap.size ≤ Bn) (b6 : W1.heap.size ≤ Bout) (n1 : V.heap[Bn]? = some (.cells #[.int .i64 0] 3)) (n2 : V.heap[Bout]? = some (.cells #[.slice none 0 0] 28))
    (S : Nat → Prop) (Y : World) (hY : Below V.heap.size V Y) (hS : ∀ r, S r → V.heap.size ≤ r ∧ r < Y.heap.size) :
    WSt w V xs gs Bn Bout (fun k => k = Bat ∨ k = Bs ∨ k = Bmore ∨ k = Br ∨ k = gr ∨ blk v k ≠ 0) S 0 Y := by
  have l1 := lt_of_heap n1
  have l2 := lt_of_heap n2
  have hlt : ∀ k, (k = gr ∨ blk v k ≠ 0) → k < W1.heap.size := fun k hk => by
    obtain ⟨_, _, _, c, top, _, q, _⟩ := hH
    exact (q k (.inl hk)).2
  have hsz := hBV.size
  have hG : ∀ k, (k = Bat ∨ k = Bs ∨ k = Bmore ∨ k = Br ∨ k = gr ∨ blk v k ≠ 0) → k < V.heap.size ∧ (k < W1.heap.size → (k = gr ∨ blk v k ≠ 0) ∨ k < X.heap.size) := fun k hk => by
    rcases hk with rfl | rfl | rfl | rfl | hk
    · exact ⟨by omega, fun _ => .inr b1⟩
    · exact ⟨b3.2, fun h => by omega⟩
    · exact ⟨by omega, fun _ => .inr b2⟩
    · exact ⟨b4.2, fun h => by omega⟩
    · exact ⟨by have := hlt k hk; omega, fun _ => .inl hk⟩
  refine ⟨fun k hk => hY.block k (hG k hk).1, (hY.block _ l1).trans n1, ⟨fun h => by have := hS _ h; omega, fun h => by have := hS _ h; omega⟩, none, 0, xs, (hY.block _ l2).trans n2, World.ownsRow_nil _ _ _ _, fun k hk => by simp at hk, ?_⟩
  have hb : Below W1.heap.size W1 Y := hBV.trans (hY.mono hsz)
  refine hH.turn ((Chg.of_below hb)) fun k hk => ?_
  have hs2 := hY.size
  rcases hk with hk | hk | rfl | rfl | hk
  · exact ⟨by have := (hG k hk).1; omega, (hG k hk).2⟩
  · have := hS k hk
    exact ⟨by omega, fun h => by omega⟩
  · exact ⟨by omega, fun h => by omega⟩
  · exact ⟨by omega, fun h => by omega⟩
  · simp at hk
set_option maxRecDepth 100000 in
set_option maxHeartbeats 4000000 in
theorem walkWhile_good (w : World) (sl : Value) (l : List It) (n : Nat) (hl : l.length = n) (hn : n ≤ 60) (hs : Src w 2 sl n (flat l)) (more : ByteArray) (hmo : more.size ≤ 40) (at_ : Int) :
    Calls Try.prog 17 #[sl, .string more, .int .i64 at_] w (Makes (.bool true) w) := by
  obtain ⟨ao, cap, rfl⟩ := hs.slice_of
  have d1 : decide ((60 : Int) < n) = false := by simp; omega
  have d2 : decide ((40 : Int) < more.size) = false := by simp; omega
  have HS := hid hs
  have HL := hid hl
  clear hs hl
  go_enter Try.func17, Try.ntmps17
  go_wp2_with (first | (go_at_call 33; ((with_reducible refine (wkAlive_any _).mono ?_)); rintro _ _ ⟨rfl, u, rfl⟩; (try (rw [Fut.put_self u (by first | assumption | (simp [go_sem]; done) | (simp [go_sem]; omega))]))) | (((with_reducible refine wp_region_fut_lit (by kernel_rfl) (by kernel_rfl) ?_)); (repeat (go_big_quiet_step ((first | (go_at_call 33; with_reducible exact Calls.fut_of (wkAlive_any _)))))); ((with_reducible refine wpQuiet_nil ?_)); rintro _ ⟨u, rfl⟩; (try (rw [Fut.put_self u (by first | assumption | (simp [go_sem]; done) | (simp [go_sem]; omega))]))))
  clear d1 d2
  have hbX : Below w.heap.size w u.val := (by repeat' (first | exact Below.refl _ _ | with_reducible assumption | omega | with_reducible refine below_put_fut ?_ ?_ _ | with_reducible refine below_to_put ?_ | with_reducible refine Below.alloc ?_ ?_ _ | with_reducible refine Below.fut ?_ ?_ _ | with_reducible refine Below.drew ?_ | with_reducible refine Below.setCell ?_ ?_ _ | with_reducible refine Below.atPut ?_ ?_ _ | (simp [go_sem]; done) | (simp [go_sem]; omega)))
  have hX1 : u.val.heap[w.heap.size]? = some (.cells #[.string more] 9) := (u.below.block _ (by simp; omega)).trans ((heap_alloc_other _ _ _ (by simp)).trans (heap_alloc_at _ _ _ rfl))
  have hX2 : u.val.heap[w.heap.size + 1]? = some (.cells #[.int .i64 at_] 3) := (u.below.block _ (by simp)).trans (heap_alloc_at _ _ _ (by simp))
  have hzX := hbX.size
  generalize u.val = X at hbX hzX hX1 hX2 ⊢
  refine (filled_is X _ l n HL.out (by omega) (HS.out.heap hbX)).mono ?_
  rintro _ W1 ⟨gs, gr, rfl, hb1⟩
  have hxl := fillL_len l
  have hsm1 := hid (sh_small hb1.sh)
  generalize fillL l = xs at hb1 hxl hsm1
  obtain ⟨m, hm⟩ : ∃ m, xs.length = m := ⟨_, rfl⟩
  have HM := hid hm
  rw [hm, HL.out] at hxl
  have hm60 : m ≤ 60 := by omega
  obtain ⟨v, r1, r2, r3, r4, r5⟩ := hb1.held (by omega)
  rw [hm] at r2
  have HH := hid (r5.base hbX hzX)
  have hWX := hb1.1
  have hzW := hWX.size
  have HR1 := hid r1
  have HR2 := hid r2
  have HR4 := hid r4
  have k1 := (hWX.block _ (lt_of_heap hX1)).trans hX1
  have k2 := (hWX.block _ (lt_of_heap hX2)).trans hX2
  have j1 := lt_of_heap hX1
  have j2 := lt_of_heap hX2
  have jg := lt_of_heap r1
  clear hb1 HS HL hxl hm r1 r2 r4 r5 hX1 hX2 hWX
  go_wp2_with fail
  (((with_reducible refine (walkAll_is (.pointer (some ⟨gs, 0, none⟩)) _ rfl).mono ?_)); rintro _ _ ⟨rfl, rfl⟩)
  go_wp2_with fail
  obtain ⟨f0, f1, f2, f3, f4⟩ := alloc5 W1 (.cells #[.pointer (some ⟨gs, 0, none⟩)] 23) (.cells #[.pointer (some ⟨gr, 0, none⟩)] 39) (.cells #[.slice none 0 0] 28) (.cells #[.int .i64 0] 3) (.cells #[.pointer (some ⟨gs, 0, none⟩)] 23)
  have hbV : Below W1.heap.size W1 (((((W1.alloc (.cells #[.pointer (some ⟨gs, 0, none⟩)] 23)).alloc (.cells #[.pointer (some ⟨gr, 0, none⟩)] 39)).alloc (.cells #[.slice none 0 0] 28)).alloc (.cells #[.int .i64 0] 3)).alloc (.cells #[.pointer (some ⟨gs, 0, none⟩)] 23)) := (by repeat' (first | exact Below.refl _ _ | with_reducible assumption | omega | with_reducible refine below_put_fut ?_ ?_ _ | with_reducible refine below_to_put ?_ | with_reducible refine Below.alloc ?_ ?_ _ | with_reducible refine Below.fut ?_ ?_ _ | with_reducible refine Below.drew ?_ | with_reducible refine Below.setCell ?_ ?_ _ | with_reducible refine Below.atPut ?_ ?_ _ | (simp [go_sem]; done) | (simp [go_sem]; omega)))
  generalize (((((W1.alloc (.cells #[.pointer (some ⟨gs, 0, none⟩)] 23)).alloc (.cells #[.pointer (some ⟨gr, 0, none⟩)] 39)).alloc (.cells #[.slice none 0 0] 28)).alloc (.cells #[.int .i64 0] 3)).alloc (.cells #[.pointer (some ⟨gs, 0, none⟩)] 23)) = V at f0 f1 f2 f3 f4 hbV ⊢
  generalize hs0 : W1.heap.size = s0 at f0 f1 f2 f3 f4 ⊢
  have p0 := lt_of_heap f0
  have p1 := lt_of_heap f1
  have p4 := lt_of_heap f4
  have r1V := (hbV.block gr jg).trans HR1.out
  have r2V : Row V 34 2 v m (flat xs) := HR2.out.keep fun k hk => hbV.block k (HR2.out.lt hk)
  have hlv : ∀ k, blk v k ≠ 0 → k < W1.heap.size := fun k hk => HR2.out.lt hk
  have hsh : Sh w.heap.size w 200 xs gs V := (HH.out.on hbV).sh
  have key := walkAll1_keeps (xs := xs) (g := some ⟨gs, 0, none⟩) (w := V) (hsh.gives (by rw [HM.out]; omega)) (by rw [HM.out]; omega) (s0 + 1 + 1 + 1 + 1) (cell_of_row _ _ 0 _ _ (0, 0) f4) 59
    #[.pointer (some ⟨s0 + 1 + 1 + 1, 0, none⟩), .pointer (some ⟨w.heap.size + 1, 0, none⟩), .pointer (some ⟨s0, 0, none⟩), .pointer (some ⟨w.heap.size, 0, none⟩), .pointer (some ⟨s0 + 1, 0, none⟩), .pointer (some ⟨s0 + 1 + 1, 0, none⟩)] (enters_of Try.func59 (by kernel_rfl) rfl)
    (fun S i Y => WSt w V xs gs (s0 + 1 + 1 + 1) (s0 + 1 + 1) (fun k => k = w.heap.size + 1 ∨ k = s0 ∨ k = w.heap.size ∨ k = s0 + 1 ∨ k = gr ∨ blk v k ≠ 0) S i Y) (fun S i Y Z h hb => h.on hb) V (Below.refl _ _)
    (fun S i x Y hx hJ => while1_is w V xs m gs gr (s0 + 1 + 1 + 1) (s0 + 1 + 1) (w.heap.size + 1) s0 w.heap.size (s0 + 1) v at_ more _ S HM.out hm60 (fun x hx => hsm1.out x hx) (by omega) (by omega) (by omega) (fun h => by
        rcases h with h | h | h | h | h | h
        · omega
        · omega
        · omega
        · omega
        · omega
        · have := hlv _ h; omega) (fun h => by
        rcases h with h | h | h | h | h | h
        · omega
        · omega
        · omega
        · omega
        · omega
        · have := hlv _ h; omega) (.inl rfl) (.inr (.inl rfl)) (.inr (.inr (.inl rfl))) (.inr (.inr (.inr (.inl rfl)))) (.inr (.inr (.inr (.inr (.inl rfl))))) (fun k hk => .inr (.inr (.inr (.inr (.inr hk))))) ((hbV.block _ (by omega)).trans k2) f0 ((hbV.block _ (by omega)).trans k1) f1 r1V r2V i x hx Y hJ)
    (fun S Y hY hS => WSt.start (X := X) (W1 := W1) (Bat := w.heap.size + 1) (Bs := s0) (Bmore := w.heap.size) (Br := s0 + 1) HH.out hbV hzX (by omega) j2 j1 ⟨by omega, p0⟩ ⟨by omega, p1⟩ (by omega) (by omega) f3 f2 S Y hY hS)
  refine key.mono ?_
  rintro _ Y ⟨⟨v0, rfl⟩, S, hJ⟩
  obtain ⟨q1, q2, q3, oa, oc, ys, q4, q5, q6, q7⟩ := hJ
  rw [HM.out] at q4 q5
  have hrb := (q1 (s0 + 1) (.inr (.inr (.inr (.inl rfl))))).trans f1
  have hrg := (q1 gr (.inr (.inr (.inr (.inr (.inl rfl)))))).trans r1V
  have hrr : Row Y 34 2 v m (flat xs) := r2V.keep fun k hk => q1 k (.inr (.inr (.inr (.inr (.inr hk)))))
  rw [List.take_of_length_le (by rw [HM.out]; exact Nat.le_refl _)] at q5
  obtain ⟨va, vc, rfl⟩ := owns_slice hrr
  have e1 := fun i => cell_of_row Y (s0 + 1 + 1) i _ _ (0, 0) q4
  have e2 := fun i => cell_of_row Y (s0 + 1) i _ _ (0, 0) hrb
  have e3 := fun i => cell_of_row Y gr i _ _ (0, 0) hrg
  have g1 := lt_of_heap q4
  have g2 := lt_of_heap hrb
  have g3 := lt_of_heap hrg
  have S1 := hid (hrr.src (flat_one _))
  have S2 := hid (q5.src (flat_one _))
  have hbY := q7.1
  have hzY := q7.2.1
  clear key q1 q2 q3 q4 q5 q6 q7 hrb hrg hrr f0 f1 f2 f3 f4 hbV r1V r2V k1 k2
  go_wp2_with fail
  go_region_with (go_at_call 29; ((with_reducible refine (same_is _ _ _ xs m HM.out (by omega) (S2.out.heap (Below.refl _ Y).drew) (S1.out.heap (Below.refl _ Y).drew)).mono ?_)); rintro _ _ ⟨rfl, u9, rfl⟩)
  all_goals
    go_wp2_with fail
    go_ret
    exact .mk rfl (hbY.trans ((Below.refl _ Y).drew.mono hzY |>.trans (u9.below.mono (by simpa using hzY))))
theorem walkWhile_walk (W : World) (sl : Value) (l : List It) (hl : ItemsAt W sl l) (more : ByteArray) (ws : more.size ≤ maxLen) (at_ : Int) (wa : (Lit.int .i64 at_).wf = true) : Calls Try.prog 17 #[sl, .string more, .int .i64 at_] W (Makes (.bool true) W) := by
  have hs := hl.src
  obtain ⟨n, hn⟩ : ∃ n, l.length = n := ⟨_, rfl⟩
  rw [hn] at hs
  obtain ⟨ao, cap, rfl⟩ := hs.slice_of
  clear hl wa
  rcases Nat.lt_or_ge 60 n with c | c
  · have d1 : decide ((60 : Int) < n) = true := by simp; omega
    clear c hn hs ws
    go_enter Try.func17, Try.ntmps17
    go_wp2_with (first | (go_at_call 33; ((with_reducible refine (wkAlive_any _).mono ?_)); rintro _ _ ⟨rfl, u, rfl⟩; (try (rw [Fut.put_self u (by first | assumption | (simp [go_sem]; done) | (simp [go_sem]; omega))]))) | (((with_reducible refine wp_region_fut_lit (by kernel_rfl) (by kernel_rfl) ?_)); (repeat (go_big_quiet_step ((first | (go_at_call 33; with_reducible exact Calls.fut_of (wkAlive_any _)))))); ((with_reducible refine wpQuiet_nil ?_)); rintro _ ⟨u, rfl⟩; (try (rw [Fut.put_self u (by first | assumption | (simp [go_sem]; done) | (simp [go_sem]; omega))]))))
    go_ret; exact .mk (by first | rfl | (simp; done) | (simp; omega)) (by repeat' (first | exact Below.refl _ _ | with_reducible assumption | omega | with_reducible refine below_put_fut ?_ ?_ _ | with_reducible refine below_to_put ?_ | with_reducible refine Below.alloc ?_ ?_ _ | with_reducible refine Below.fut ?_ ?_ _ | with_reducible refine Below.drew ?_ | with_reducible refine Below.setCell ?_ ?_ _ | with_reducible refine Below.atPut ?_ ?_ _ | (simp [go_sem]; done) | (simp [go_sem]; omega)))
  have d1 : decide ((60 : Int) < n) = false := by simp; omega
  rcases Nat.lt_or_ge 40 more.size with c2 | c2
  · have d2 : decide ((40 : Int) < more.size) = true := by simp; omega
    clear c c2 hn hs ws
    go_enter Try.func17, Try.ntmps17
    go_wp2_with (first | (go_at_call 33; ((with_reducible refine (wkAlive_any _).mono ?_)); rintro _ _ ⟨rfl, u, rfl⟩; (try (rw [Fut.put_self u (by first | assumption | (simp [go_sem]; done) | (simp [go_sem]; omega))]))) | (((with_reducible refine wp_region_fut_lit (by kernel_rfl) (by kernel_rfl) ?_)); (repeat (go_big_quiet_step ((first | (go_at_call 33; with_reducible exact Calls.fut_of (wkAlive_any _)))))); ((with_reducible refine wpQuiet_nil ?_)); rintro _ ⟨u, rfl⟩; (try (rw [Fut.put_self u (by first | assumption | (simp [go_sem]; done) | (simp [go_sem]; omega))]))))
    go_ret; exact .mk (by first | rfl | (simp; done) | (simp; omega)) (by repeat' (first | exact Below.refl _ _ | with_reducible assumption | omega | with_reducible refine below_put_fut ?_ ?_ _ | with_reducible refine below_to_put ?_ | with_reducible refine Below.alloc ?_ ?_ _ | with_reducible refine Below.fut ?_ ?_ _ | with_reducible refine Below.drew ?_ | with_reducible refine Below.setCell ?_ ?_ _ | with_reducible refine Below.atPut ?_ ?_ _ | (simp [go_sem]; done) | (simp [go_sem]; omega)))
  exact walkWhile_good W _ l n hn c hs more c2 at_
end Go.Proofs.Ythknenhcnpgkcaa
