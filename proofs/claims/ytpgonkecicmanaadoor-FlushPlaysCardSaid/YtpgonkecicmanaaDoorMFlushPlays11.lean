/- The reference's Flush: Change, a new view. -/
import Derived.Test.YtpgonkecicmanaaDoorMFlushPlays10
import Derived.Deep.MidRow
import Derived.Test.YtpgonkecicmanaaDoorMFlushPlays3
import Derived.Test.YtpgonkecicmanaaDoorMFlushPlays2
import Derived.OwnWalk
namespace Go.Proofs.YtpgonkecicmanaaDoor
set_option linter.unusedVariables false
set_option linter.unusedSimpArgs false
open Go.RowKit Go.Maps
theorem list5 {α : Type} {l : List α} (h : l.length = 5) : ∃ a b c d e, l = [a, b, c, d, e] := by
  match l, h with
  | [a, b, c, d, e], _ => exact ⟨a, b, c, d, e, rfl⟩
theorem Own.setRowF {w0 w : World} {b : Nat} {cs cs' : Array Value} {t : TypeId} {R : HProp} (h : Own w0 (blk b (.cells cs t (0, 0)) * R) w) : Own w0 (blk b (.cells cs' t (0, 0)) * R) (w.setRow b cs') :=
  h.set rfl rfl rfl (by simp) (fun k _ hk => setRow_other w b k cs' hk) (setRow_heap w b cs cs' t (0, 0) h.blk_at.1)
theorem flRow_step_off (w : Int) (s : Fl) (m : Int) {p : Int × Int} (hp : p.1 ≠ s.n) : flRow (flStep w s m) p = flRow s p := by
  unfold flStep
  split
  · rfl
  · rw [flRow_hear, if_neg]
    intro e
    exact hp (by rw [← e])
theorem flRow_all_off (w : Int) {p : Int × Int} : ∀ (l : List Int) (s : Fl), p.1 ≠ s.n → flRow (flGiveAll s l w) p = flRow s p
  | [], _, _ => rfl
  | m :: r, s, hp => by
    show flRow (flGiveAll (flStep w s m) r w) p = _
    rw [flRow_all_off w r _ (by rw [(flLike_step w s m).1]; exact hp), flRow_step_off w s m hp]
theorem flRow_word_off (K : List Int) (w : Int) (s : Fl) {p : Int × Int} (hp : p.1 ≠ s.n) : flRow (flWord K s w) p = flRow s p := by
  unfold flWord
  split
  · exact flRow_all_off w K s hp
  · rfl
theorem flRow_flush_off (K : List Int) {p : Int × Int} : ∀ (ws : List Int) (s : Fl), p.1 ≠ s.n → flRow (flFlush s K ws) p = flRow s p
  | [], _, _ => rfl
  | w :: r, s, hp => by
    show flRow (flFlush (flWord K s w) K r) p = _
    rw [flRow_flush_off K r _ (by rw [(flLike_word K s w).1]; exact hp), flRow_word_off K w s hp]
theorem rows_nil (n : Nat) : starL rowP (List.replicate n nilRow) = emp := by
  induction n with
  | zero => rfl
  | succ n ih => rw [List.replicate_succ]; simp only [starL]; rw [rowP_nil, ih, emp_star]
/-- The table behind a change: the view that went as it is now, a new one that is empty. -/
theorem RfRows.change {N : Nat} {A Q : List (Value × List Int)} {s : Fl} {B : List Int} {old : List (Value × List Int)} (h : RfRows N (A ++ old) s) (hn : s.n = (N : Int)) (hA : A.length = N * 5) (hi : flInv s) (he : flNextErr s B = 0)
    (hq : NowI Q N (flFlush s (keepB B s.has) s.said)) : RfRows (N + 1) (A ++ Q ++ List.replicate 5 nilRow) (flChange s B) where
  len := by simp [hq.len, hA]; omega
  at_ := fun k m hk hm => by
    rw [flRow_change s B he]
    by_cases h1 : k = N + 1
    · subst h1
      rw [List.getElem?_append_right (by simp [hq.len, hA]; omega), flRow_flush_off _ _ _ (by rw [hn]; show ((N + 1 : Nat) : Int) ≠ _; omega), hi.2.1 _ _ (by rw [hn]; omega)]
      rw [List.getElem?_replicate, if_pos (by simp [hq.len, hA]; omega)]; rfl
    rw [List.getElem?_append_left (by simp [hq.len, hA]; omega)]
    by_cases h2 : k = N
    · subst h2
      rw [List.getElem?_append_right (by omega), hA, Nat.add_sub_cancel_left]
      exact hq.at_ m hm
    · rw [List.getElem?_append_left (by omega), flRow_flush_off _ _ _ (by rw [hn]; show ((k : Nat) : Int) ≠ _; omega), ← h.at_ k m (by omega) hm, List.getElem?_append_left (by omega)]
theorem Own.rf_tab5 {w0 w : World} {db off dc N : Nat} {A : List (Value × List Int)} {R : HProp} {r0 r1 r2 r3 r4 q0 q1 q2 q3 q4 : Value × List Int} (hA : A.length = N * 5)
    (h : Own w0 (dAt db off dc N (A ++ [r0, r1, r2, r3, r4]) * R) w) : Own w0 (dAt db off dc N (A ++ [q0, q1, q2, q3, q4]) * R) (w.setCells db (off + N * 5) [q0.1, q1.1, q2.1, q3.1, q4.1]) := by
  have hl : (A ++ [r0, r1, r2, r3, r4]).length = N * 5 + 5 := by simp [hA]
  have h0 := Own.rf_tabset (i := N * 5) (by omega) q0.1 q0.2 h
  have h1 := Own.rf_tabset (i := N * 5 + 1) (by simp [hA]) q1.1 q1.2 h0
  have h2 := Own.rf_tabset (i := N * 5 + 2) (by simp [hA]) q2.1 q2.2 h1
  have h3 := Own.rf_tabset (i := N * 5 + 3) (by simp [hA]) q3.1 q3.2 h2
  have h4 := Own.rf_tabset (i := N * 5 + 4) (by simp [hA]) q4.1 q4.2 h3
  have e : (((((A ++ [r0, r1, r2, r3, r4]).set (N * 5) (q0.1, q0.2)).set (N * 5 + 1) (q1.1, q1.2)).set (N * 5 + 2) (q2.1, q2.2)).set (N * 5 + 3) (q3.1, q3.2)).set (N * 5 + 4) (q4.1, q4.2) = A ++ [q0, q1, q2, q3, q4] := by
    rw [← hA]; simp [List.set_append]
  rw [e] at h4
  exact h4
theorem info_r5 : (Tryd.prog.info? 39).map (fun i => (i.zero, i.size, i.bytes)) = some (some (.agg #[.slice none 0 0, .slice none 0 0, .slice none 0 0, .slice none 0 0, .slice none 0 0]), 5, 120) := by kernel_rfl
theorem info5 : (Tryd.prog.info? 39).map (·.size) = some 5 := by kernel_rfl
theorem one5 (a0 a1 a2 a3 a4 : Option Addr) (l0 l1 l2 l3 l4 p0 p1 p2 p3 p4 : Nat) : (#[.slice a0 l0 p0, .slice a1 l1 p1, .slice a2 l2 p2, .slice a3 l3 p3, .slice a4 l4 p4] : Array Value).all (·.oneCell') = true := by
  rw [Array.all_eq_true_iff_forall_mem]
  intro v hv
  simp at hv
  rcases hv with rfl | rfl | rfl | rfl | rfl <;> rfl
theorem Own.rf_slices {w0 w : World} {rows : List (Value × List Int)} {R : HProp} (h : Own w0 (starL rowP rows * R) w) : ∀ r ∈ rows, ∃ a n c, r = (.slice a n c, r.2) := by
  intro r hr
  obtain ⟨i, hi, rfl⟩ := List.mem_iff_getElem.1 hr
  obtain ⟨ad, cap, h1, _⟩ := Own.rf_take hi h
  exact ⟨ad, _, cap, h1⟩
set_option maxRecDepth 100000 in
set_option maxHeartbeats 4000000 in
theorem rfChange_yes {w0 w : World} {R : HProp} (q : Nat) (s : Fl) (v : Value) (B : List Int) (hg : flInv s) (hsee : memErr s.has = 0) (hB : ∀ R, Reads w0 R v B) (hne : flNextErr s B = 0) (h : Own w0 (RfP q s * R) w) :
    Calls Tryd.prog 37 #[.pointer (some ⟨q, 0, none⟩), v] w fun e w' => e = .returned (.int .i64 (flNextErr s B : Nat)) ∧ Own w0 (RfP q (flChange s B) * R) w' := by
  have hok : flOk s := hg.1.ok
  have hEr := fl_refNext (B := B) hg hsee
  rw [hne] at hEr
  rw [hne]
  obtain ⟨bad, bcap, rfl, hbc1, hbc2⟩ := (hB _ _ h).shape
  obtain ⟨cs, hv, sv, dv, N, rows, his, ho⟩ := h.rf_open
  obtain ⟨hhd, hhc, hs⟩ := Own.int_shape ho.second
  obtain ⟨sad, scap, hs2⟩ := Own.int_shape ho.third
  rw [hs, hs2] at ho his
  have hN0 : s.n = (N : Int) := his.n
  obtain ⟨A, hA0⟩ : ∃ A, A = rows.take (N * 5) := ⟨_, rfl⟩
  obtain ⟨r0, r1, r2, r3, r4, hr5⟩ := list5 (l := rows.drop (N * 5)) (by rw [List.length_drop, his.r.len]; omega)
  have hrows : rows = A ++ [r0, r1, r2, r3, r4] := by rw [hA0, ← hr5, List.take_append_drop]
  have hsh := Own.rf_slices (ho.perm (show _ = starL rowP rows * (rfBlk q cs * (IntSl (.slice hhd s.has.length hhc) s.has * (IntSl (.slice sad s.said.length scap) s.said * (dSl dv N rows * R)))) by ac_rfl))
  rw [hrows] at hsh
  obtain ⟨a0, l0, p0, e0⟩ := hsh r0 (by simp)
  obtain ⟨a1, l1, p1, e1⟩ := hsh r1 (by simp)
  obtain ⟨a2, l2, p2, e2⟩ := hsh r2 (by simp)
  obtain ⟨a3, l3, p3, e3⟩ := hsh r3 (by simp)
  obtain ⟨a4, l4, p4, e4⟩ := hsh r4 (by simp)
  obtain ⟨X0, hX0⟩ : ∃ X, X = r0.2 := ⟨_, rfl⟩
  obtain ⟨X1, hX1⟩ : ∃ X, X = r1.2 := ⟨_, rfl⟩
  obtain ⟨X2, hX2⟩ : ∃ X, X = r2.2 := ⟨_, rfl⟩
  obtain ⟨X3, hX3⟩ : ∃ X, X = r3.2 := ⟨_, rfl⟩
  obtain ⟨X4, hX4⟩ : ∃ X, X = r4.2 := ⟨_, rfl⟩
  rw [← hX0] at e0
  rw [← hX1] at e1
  rw [← hX2] at e2
  rw [← hX3] at e3
  rw [← hX4] at e4
  clear hX0 hX1 hX2 hX3 hX4 hsh
  subst e0 e1 e2 e3 e4
  have hAl : A.length = N * 5 := by rw [hA0, List.length_take, his.r.len]; omega
  have hlen : s.has.length ≤ 100000 := by have := hok.2.1.1; omega
  obtain ⟨db, off, dc, hdv, ho2⟩ := Own.rf_at his.r.len (ho.perm (show _ = dSl dv N rows * (rfBlk q cs * (IntSl (.slice hhd s.has.length hhc) s.has * (IntSl (.slice sad s.said.length scap) s.said * (starL rowP rows * R)))) by ac_rfl))
  subst hdv
  obtain ⟨L, hL⟩ : ∃ L, L = s.has.length := ⟨_, rfl⟩
  obtain ⟨SL, hSL⟩ : ∃ L, L = s.said.length := ⟨_, rfl⟩
  rw [← hL, ← hSL] at ho2 his
  rw [← hL] at hlen
  have hDC : N + 1 ≤ dc ∧ dc ≤ maxLen := ⟨(Own.rf_tab ho2).1, (Own.rf_tab ho2).2.1⟩
  have hdc1 := hDC.1
  have hdc2 : dc ≤ 9223372036854775807 := by have := hDC.2; unfold maxLen at this; omega
  obtain ⟨O2, hO2⟩ : ∃ O, O = rfBlk q cs * (IntSl (.slice hhd L hhc) s.has * (IntSl (.slice sad SL scap) s.said * R)) := ⟨_, rfl⟩
  have ho3 : Own w0 (dAt db off dc N rows * (starL rowP rows * O2)) w := ho2.perm (by rw [hO2]; ac_rfl)
  have HA : Hid (∀ (S : HProp) w', Own w0 (S * O2) w' → Ints w' (.slice hhd L hhc) s.has ∧ w'.cell? ⟨q, 0, none⟩ = some (.int .i64 (N : Int)) ∧ w'.cell? ⟨q, 1, none⟩ = some (.slice hhd L hhc) ∧ w'.cell? ⟨q, 33, none⟩ = some (.slice sad SL scap) ∧ w'.cell? ⟨q, 34, none⟩ = some (.slice (some ⟨db, off, none⟩) (N + 1) dc) ∧ Ints w' (.slice sad SL scap) s.said ∧ ∀ i t, w'.frozen? ⟨q, i, t⟩ = false) := Lib.hid (fun S w' h' => by
    rw [hO2] at h'
    obtain ⟨c0, c1, c33, c34, _, cf⟩ := h'.drop.rf_cells his.c
    rw [hN0] at c0
    exact ⟨IntSl_reads hok.2.1.2 _ h'.third, c0, c1, c33, c34, IntSl_reads hok.2.2.1.2 _ h'.fourth, cf⟩)
  have HNX := Lib.hid (refNext_any (N : Int) (.slice hhd L hhc) (.slice bad B.length bcap) s.has B ho3 (fun w' h' => (HA.out (dAt db off dc N rows * starL rowP rows) _ (h'.perm (by ac_rfl))).1) (hB _) (by rw [← hL]; exact hlen))
  rw [← hN0, ← hEr, hN0] at HNX
  have HSH : Hid (∀ w', Own w0 (dAt db off dc N rows * (starL rowP rows * O2)) w' → _) := Lib.hid (fun w' h' => refShared_any (.slice hhd L hhc) (.slice bad B.length bcap) s.has B h' (fun w' h' => (HA.out (dAt db off dc N rows * starL rowP rows) _ (h'.perm (by ac_rfl))).1) (hB _) (by rw [← hL]; exact hlen))
  obtain ⟨stay, hst⟩ : ∃ l, l = keepB B s.has := ⟨_, rfl⟩
  rw [← hst] at HSH
  obtain ⟨_, c0, c1, _⟩ := HA.out (dAt db off dc N rows * starL rowP rows) _ (ho3.perm (by ac_rfl))
  have HROW : Hid (∀ (S : HProp) w', Own w0 (dAt db off dc N rows * S) w' → w'.cell? ⟨db, off + N * 5, none⟩ = some (.slice a0 l0 p0) ∧ w'.cell? ⟨db, off + N * 5 + 1, none⟩ = some (.slice a1 l1 p1) ∧ w'.cell? ⟨db, off + N * 5 + 2, none⟩ = some (.slice a2 l2 p2) ∧ w'.cell? ⟨db, off + N * 5 + 3, none⟩ = some (.slice a3 l3 p3) ∧ w'.cell? ⟨db, off + N * 5 + 4, none⟩ = some (.slice a4 l4 p4)) := Lib.hid (fun S w' h' => by
    have h9 := (Own.rf_tab h').2.2.1
    have hat : ∀ k (r : Value × List Int), [((.slice a0 l0 p0 : Value), X0), (.slice a1 l1 p1, X1), (.slice a2 l2 p2, X2), (.slice a3 l3 p3, X3), (.slice a4 l4 p4, X4)][k]? = some r → rows[N * 5 + k]? = some r := fun k r hk => by
      rw [hrows, List.getElem?_append_right (by omega), hAl, Nat.add_sub_cancel_left]; exact hk
    refine ⟨h9 _ _ (hat 0 _ rfl), ?_, ?_, ?_, ?_⟩
    · rw [Nat.add_assoc]; exact h9 _ _ (hat 1 _ rfl)
    · rw [Nat.add_assoc]; exact h9 _ _ (hat 2 _ rfl)
    · rw [Nat.add_assoc]; exact h9 _ _ (hat 3 _ rfl)
    · rw [Nat.add_assoc]; exact h9 _ _ (hat 4 _ rfl))
  have HNOW : Hid (NowI [(.slice a0 l0 p0, X0), (.slice a1 l1 p1, X1), (.slice a2 l2 p2, X2), (.slice a3 l3 p3, X3), (.slice a4 l4 p4, X4)] N s) := Lib.hid ⟨rfl, fun m hm => by
    have h9 := his.r.at_ N m (Nat.le_refl _) hm
    rw [hrows, List.getElem?_append_right (by omega), hAl, Nat.add_sub_cancel_left] at h9
    exact h9⟩
  have HMB : Hid (memErr B = 0) := Lib.hid (nextErr0 hne).2.2.1
  have HSTI : Hid (∀ x ∈ stay, I64 x) := Lib.hid (fun x hx => hok.2.1.2 x (by rw [hst] at hx; exact (List.mem_filter.1 hx).1))
  have hmem : ∀ x ∈ stay, isMember x = true := fun x hx => hg.1.2.1.2 x (by rw [hst] at hx; exact (List.mem_filter.1 hx).1)
  have HO := Lib.hid ho3
  clear ho ho2 ho3
  have N0 : (0 : Int) ≤ (N : Int) := by omega
  have N1 : (N : Int) < (N : Int) + 1 := by omega
  have H := Lib.hid h; have HOK := Lib.hid hok; have HG := Lib.hid hg; have HSEE := Lib.hid hsee; have HB := Lib.hid hB; have HER := Lib.hid hEr; have HNE := Lib.hid hne; have HS := Lib.hid hs; have HS2 := Lib.hid hs2; have HN0 := Lib.hid hN0; have HL := Lib.hid hL; have HSL := Lib.hid hSL; have HST := Lib.hid hst; have HLEN := Lib.hid hlen; have HIS := Lib.hid his; have HDC := Lib.hid hDC; have HROWS := Lib.hid hrows; have HAL := Lib.hid hAl; have HA0 := Lib.hid hA0; have HR5 := Lib.hid hr5; have HO2 := Lib.hid hO2; have HMEM := Lib.hid hmem
  clear h hok hg hsee hB hEr hne hs hs2 hN0 hL hSL hst hlen his hDC hrows hAl hA0 hr5 hO2 hmem
  go_enter Tryd.func37, Tryd.ntmps37
  go_wp2_with fail
  refine HNX.out.mono ?_
  rintro e w' ⟨rfl, h2⟩
  obtain ⟨_, c0, c1, _⟩ := HA.out (dAt db off dc N rows * starL rowP rows) _ (h2.perm (by ac_rfl))
  have HOB := Lib.hid h2
  clear h2 HO
  go_wp2_with fail
  refine (HSH.out _ HOB.out).mono ?_
  rintro e w3 ⟨kv, rfl, h3⟩
  obtain ⟨kad, kcap, hkv⟩ := Own.int_shape h3
  obtain ⟨KL, hKL⟩ : ∃ L, L = stay.length := ⟨_, rfl⟩
  rw [← hKL] at hkv
  subst hkv
  have HO3 := Lib.hid h3
  clear h3 HOB c0 c1
  have HKL := Lib.hid hKL
  clear hKL
  obtain ⟨_, c0, c1, c33, c34, _⟩ := HA.out (IntSl (.slice kad KL kcap) stay * (dAt db off dc N rows * starL rowP rows)) _ (HO3.out.perm (by ac_rfl))
  obtain ⟨d0, d1, d2, d3, d4⟩ := HROW.out _ _ (HO3.out.perm (show _ = dAt db off dc N rows * (IntSl (.slice kad KL kcap) stay * (starL rowP rows * O2)) by ac_rfl))
  go_upto_region 5 with fail
  refine wp_region_planH 12 [] [(true, 0), (true, 1), (true, 2), (true, 3), (true, 4), (true, 5), (true, 6), (true, 7), (true, 8), (true, 9), (true, 10), (false, 11)] [12] (fun wS => wS.cell? ⟨q, 0, none⟩ = some (.int .i64 (N : Int)) ∧ wS.cell? ⟨q, 34, none⟩ = some (.slice (some ⟨db, off, none⟩) (N + 1) dc) ∧ wS.cell? ⟨db, off + N * 5, none⟩ = some (.slice a0 l0 p0) ∧ wS.cell? ⟨db, off + N * 5 + 1, none⟩ = some (.slice a1 l1 p1) ∧ wS.cell? ⟨db, off + N * 5 + 2, none⟩ = some (.slice a2 l2 p2) ∧ wS.cell? ⟨db, off + N * 5 + 3, none⟩ = some (.slice a3 l3 p3) ∧ wS.cell? ⟨db, off + N * 5 + 4, none⟩ = some (.slice a4 l4 p4)) (by kernel_rfl) (by kernel_rfl) (⟨c0, c34, d0, d1, d2, d3, d4⟩) ?_
  simp only [pickH, pick, List.getElem?_cons_succ, List.getElem?_cons_zero, Option.toList, Option.map_some, List.cons_append, List.nil_append]
  repeat (refine wpPure_step ?_ rfl ?_ ?_; rotate_left; (focus (intro _; first | with_reducible rfl | (go_simp; done) | (go_simp; with_reducible rfl) | rfl)); go_simp)
  refine wpPure_nil ?_
  repeat (refine wpMix_read ?_ rfl ?_ ?_; rotate_left; (focus (intro _ hS; obtain ⟨s1, s2, s3, s4, s5, s6, s7⟩ := hS; first | with_reducible rfl | (go_simp; done) | (go_simp; with_reducible rfl) | rfl)); go_simp)
  refine wpMix_write (fun K hK => ?_)
  go_simp
  obtain ⟨b7, hb_b7⟩ : ∃ zz_, zz_ = (w3).heap.size := ⟨_, rfl⟩
  obtain ⟨w4, hw_w4⟩ : ∃ zz_, zz_ = (w3).alloc (.cells #[.slice none 0 0, .slice none 0 0, .slice none 0 0, .slice none 0 0, .slice none 0 0] 39 (0, 0)) := ⟨_, rfl⟩
  have h_HB := (HO3.out).alloc (.cells #[.slice none 0 0, .slice none 0 0, .slice none 0 0, .slice none 0 0, .slice none 0 0] 39 (0, 0))
  rw [← hb_b7, ← hw_w4] at h_HB
  have HB := Lib.hid h_HB
  clear h_HB
  rw [← hb_b7, ← hw_w4]
  clear hb_b7 hw_w4
  have HB5 : Hid (Own w0 (blk b7 (.cells #[.slice none 0 0, .slice none 0 0, .slice none 0 0, .slice none 0 0, .slice none 0 0] 39 (0, 0)) * (IntSl (.slice kad KL kcap) stay * (dAt db off dc N rows * (starL rowP rows * O2)))) w4.drew) := Lib.hid HB.out.drew
  clear HB HO3 c0 c1 c33 c34 d0 d1 d2 d3 d4
  obtain ⟨_, c0, c1, c33, c34, _⟩ := HA.out (blk b7 (.cells #[.slice none 0 0, .slice none 0 0, .slice none 0 0, .slice none 0 0, .slice none 0 0] 39 (0, 0)) * (IntSl (.slice kad KL kcap) stay * (dAt db off dc N rows * starL rowP rows))) _ (HB5.out.perm (by ac_rfl))
  obtain ⟨d0, d1, d2, d3, d4⟩ := HROW.out _ _ (HB5.out.perm (show _ = dAt db off dc N rows * (blk b7 (.cells #[.slice none 0 0, .slice none 0 0, .slice none 0 0, .slice none 0 0, .slice none 0 0] 39 (0, 0)) * (IntSl (.slice kad KL kcap) stay * (starL rowP rows * O2))) by ac_rfl))
  refine hK _ _ ⟨⟨c0, c34, d0, d1, d2, d3, d4⟩, ?_⟩
  clear hK K
  go_simp
  repeat (refine wpMix_read ?_ rfl ?_ ?_; rotate_left; (focus (intro _ hS; obtain ⟨s1, s2, s3, s4, s5, s6, s7⟩ := hS; first | with_reducible rfl | (go_simp; done) | (go_simp; with_reducible rfl) | rfl)); go_simp)
  refine wpMix_nil ?_
  refine wpList_plain rfl fun K hK => wp_store_row 39 (.tmp 7) (.tmp 40) rfl b7 #[.slice a0 l0 p0, .slice a1 l1 p1, .slice a2 l2 p2, .slice a3 l3 p3, .slice a4 l4 p4] rfl rfl 39 #[.slice none 0 0, .slice none 0 0, .slice none 0 0, .slice none 0 0, .slice none 0 0] HB5.out.blk_at.1 info5 rfl (one5 _ _ _ _ _ _ _ _ _ _ _ _ _ _ _) (hK _ _ ?_)
  refine wpList_nil ?_
  refine NoPanic.normal ?_
  have h5 := Own.setRowF (cs' := #[.slice a0 l0 p0, .slice a1 l1 p1, .slice a2 l2 p2, .slice a3 l3 p3, .slice a4 l4 p4]) HB5.out
  obtain ⟨w5, hw5⟩ : ∃ x, x = w4.drew.setRow b7 #[.slice a0 l0 p0, .slice a1 l1 p1, .slice a2 l2 p2, .slice a3 l3 p3, .slice a4 l4 p4] := ⟨_, rfl⟩
  rw [← hw5] at h5 ⊢
  obtain ⟨F, hF⟩ : ∃ F, F = IntSl (.slice kad KL kcap) stay * (dAt db off dc N rows * (starL rowP A * O2)) := ⟨_, rfl⟩
  have hnow : Own w0 (NowP b7 N s * F) w5 := by
    refine Own.now_close (rows := [(.slice a0 l0 p0, X0), (.slice a1 l1 p1, X1), (.slice a2 l2 p2, X2), (.slice a3 l3 p3, X3), (.slice a4 l4 p4, X4)]) HNOW.out ?_
    refine h5.perm ?_
    rw [HROWS.out, starL_append, hF, ← HROWS.out]
    show _ = blk b7 _ * _
    ac_rfl
  have HNW := Lib.hid hnow
  have HFC : Hid (∀ w' S, Own w0 (S * F) w' → w'.cell? ⟨q, 33, none⟩ = some (.slice sad SL scap) ∧ Ints w' (.slice sad SL scap) s.said ∧ Ints w' (.slice kad KL kcap) stay) := Lib.hid (fun w' S h' => by
    rw [hF] at h'
    obtain ⟨_, _, _, g33, _, gsd, _⟩ := HA.out (S * (IntSl (.slice kad KL kcap) stay * (dAt db off dc N rows * starL rowP A))) _ (h'.perm (by ac_rfl))
    exact ⟨g33, gsd, IntSl_reads HSTI.out _ h'.second⟩)
  have hsr := HFC.out _ _ HNW.out
  obtain ⟨_, _, es, hS1, hS2⟩ := hsr.2.1.shape
  obtain ⟨_, _, ek, hK1, hK2⟩ := hsr.2.2.shape
  injection es with es1 es2 es3
  injection ek with ek1 ek2 ek3
  rw [← es3, ← HSL.out] at hS1
  rw [← es3] at hS2
  rw [← ek3, ← HKL.out] at hK1
  rw [← ek3] at hK2
  clear hnow h5 HB5 hw5 c0 c1 c33 c34 d0 d1 d2 d3 d4 hsr es1 es2 es3 ek1 ek2 ek3
  have HF := Lib.hid hF
  clear hF
  go_upto_block 0 with fail
  refine rcWords q b7 N s F s.said stay HG.out.1 HN0.out HMEM.out HG.out.1.2.2.1.2 sad kad SL scap KL kcap HSL.out HKL.out hK1 hK2 hS1 hS2 HFC HNW ?_
  intros
  rename_i w6 hpp
  have HW6 := Lib.hid hpp
  clear hpp
  obtain ⟨T, hT⟩ : ∃ T, T = flFlush s stay s.said := ⟨_, rfl⟩
  rw [← hT] at HW6
  obtain ⟨rows5, hn5, h6⟩ := HW6.out.now_open
  have hsh := Own.rf_slices h6.second
  obtain ⟨q0, q1, q2, q3, q4, hq5⟩ := list5 hn5.len
  subst hq5
  obtain ⟨x0, m0, y0, e0⟩ := hsh q0 (by simp)
  obtain ⟨x1, m1, y1, e1⟩ := hsh q1 (by simp)
  obtain ⟨x2, m2, y2, e2⟩ := hsh q2 (by simp)
  obtain ⟨x3, m3, y3, e3⟩ := hsh q3 (by simp)
  obtain ⟨x4, m4, y4, e4⟩ := hsh q4 (by simp)
  obtain ⟨Y0, hY0⟩ : ∃ X, X = q0.2 := ⟨_, rfl⟩
  obtain ⟨Y1, hY1⟩ : ∃ X, X = q1.2 := ⟨_, rfl⟩
  obtain ⟨Y2, hY2⟩ : ∃ X, X = q2.2 := ⟨_, rfl⟩
  obtain ⟨Y3, hY3⟩ : ∃ X, X = q3.2 := ⟨_, rfl⟩
  obtain ⟨Y4, hY4⟩ : ∃ X, X = q4.2 := ⟨_, rfl⟩
  rw [← hY0] at e0
  rw [← hY1] at e1
  rw [← hY2] at e2
  rw [← hY3] at e3
  rw [← hY4] at e4
  clear hY0 hY1 hY2 hY3 hY4 hsh
  subst e0 e1 e2 e3 e4
  have HN5 := Lib.hid hn5
  have H6 := Lib.hid h6
  have h7 : Own w0 (dAt db off dc N rows * (nowBlk b7 [(.slice x0 m0 y0, Y0), (.slice x1 m1 y1, Y1), (.slice x2 m2 y2, Y2), (.slice x3 m3 y3, Y3), (.slice x4 m4 y4, Y4)] * (starL rowP [(.slice x0 m0 y0, Y0), (.slice x1 m1 y1, Y1), (.slice x2 m2 y2, Y2), (.slice x3 m3 y3, Y3), (.slice x4 m4 y4, Y4)] * (IntSl (.slice kad KL kcap) stay * (starL rowP A * O2))))) w6 := h6.perm (by rw [HF.out]; ac_rfl)
  have H7 := Lib.hid h7
  obtain ⟨_, c0, c1, c33, c34, _⟩ := HA.out (dAt db off dc N rows * (nowBlk b7 [(.slice x0 m0 y0, Y0), (.slice x1 m1 y1, Y1), (.slice x2 m2 y2, Y2), (.slice x3 m3 y3, Y3), (.slice x4 m4 y4, Y4)] * (starL rowP [(.slice x0 m0 y0, Y0), (.slice x1 m1 y1, Y1), (.slice x2 m2 y2, Y2), (.slice x3 m3 y3, Y3), (.slice x4 m4 y4, Y4)] * (IntSl (.slice kad KL kcap) stay * starL rowP A)))) _ (h7.perm (by ac_rfl))
  have z0 : w6.cell? ⟨b7, 0, none⟩ = some (.slice x0 m0 y0) := (Own.cell h6 0).trans rfl
  have z1 : w6.cell? ⟨b7, 1, none⟩ = some (.slice x1 m1 y1) := (Own.cell h6 1).trans rfl
  have z2 : w6.cell? ⟨b7, 2, none⟩ = some (.slice x2 m2 y2) := (Own.cell h6 2).trans rfl
  have z3 : w6.cell? ⟨b7, 3, none⟩ = some (.slice x3 m3 y3) := (Own.cell h6 3).trans rfl
  have z4 : w6.cell? ⟨b7, 4, none⟩ = some (.slice x4 m4 y4) := (Own.cell h6 4).trans rfl
  have HTH : Hid (w6.there db (off + N * 5) 5) := Lib.hid (by
    intro j hj
    have hlen : N * 5 + j < rows.length := by rw [HIS.out.r.len]; omega
    have h9 := (Own.rf_tab h7).2.2.1 (N * 5 + j) _ (List.getElem?_eq_getElem hlen)
    rw [← Nat.add_assoc] at h9
    exact ⟨by rw [h9]; rfl, (Own.rf_tab h7).2.2.2 _ _⟩)
  clear h6 h7
  have HT := Lib.hid hT; have HN5 := Lib.hid hn5
  clear hT hn5
  go_upto_region 21 with fail
  refine wp_region_planH 11 [] [(true, 0), (true, 1), (true, 2), (true, 3), (true, 4), (true, 5), (true, 6), (true, 7), (true, 8), (true, 9), (true, 10)] [11] (fun wS => wS = w6.drew) (by kernel_rfl) (by kernel_rfl) (rfl) ?_
  simp only [pickH, pick, List.getElem?_cons_succ, List.getElem?_cons_zero, Option.toList, Option.map_some, List.cons_append, List.nil_append]
  repeat (refine wpPure_step ?_ rfl ?_ ?_; rotate_left; (focus (intro _; first | with_reducible rfl | (go_simp; done) | (go_simp; with_reducible rfl) | rfl)); go_simp)
  refine wpPure_nil ?_
  repeat (refine wpMix_read ?_ rfl ?_ ?_; rotate_left; (focus (intro _ hS; obtain rfl := hS; first | with_reducible rfl | (go_simp; done) | (go_simp; with_reducible rfl) | rfl)); go_simp)
  refine wpMix_nil ?_
  refine wpList_store_mid rfl 39 (.tmp 129) (.tmp 128) rfl db (off + N * 5) #[.slice x0 m0 y0, .slice x1 m1 y1, .slice x2 m2 y2, .slice x3 m3 y3, .slice x4 m4 y4] rfl rfl ((World.there_drew _ _ _ _).2 HTH.out) info5 (one5 _ _ _ _ _ _ _ _ _ _ _ _ _ _ _) ?_
  refine wpList_nil ?_
  refine NoPanic.normal ?_
  have hr1 := H7.out.drew
  rw [HROWS.out] at hr1
  have h8 := Own.rf_tab5 (q0 := (.slice x0 m0 y0, Y0)) (q1 := (.slice x1 m1 y1, Y1)) (q2 := (.slice x2 m2 y2, Y2)) (q3 := (.slice x3 m3 y3, Y3)) (q4 := (.slice x4 m4 y4, Y4)) HAL.out hr1
  obtain ⟨Q, hQ⟩ : ∃ Q, Q = [((.slice x0 m0 y0 : Value), Y0), (.slice x1 m1 y1, Y1), (.slice x2 m2 y2, Y2), (.slice x3 m3 y3, Y3), (.slice x4 m4 y4, Y4)] := ⟨_, rfl⟩
  obtain ⟨w8, hw8⟩ : ∃ x, x = w6.drew.setCells db (off + N * 5) [.slice x0 m0 y0, .slice x1 m1 y1, .slice x2 m2 y2, .slice x3 m3 y3, .slice x4 m4 y4] := ⟨_, rfl⟩
  have HQN : Hid (NowI Q N T) := Lib.hid (by rw [hQ]; exact HN5.out)
  rw [← hQ, ← hw8] at h8
  rw [← hw8]
  have h9 : Own w0 (dSl (.slice (some ⟨db, off, none⟩) (N + 1) dc) N (A ++ Q) * _) w8 := h8.sl_of_at
  have H9 : Hid (Own w0 (Sl 39 5 (.slice (some ⟨db, off, none⟩) (N + 1) dc) (N + 1) ((A ++ Q).map (·.1)) * (rfBlk q cs * (IntSl (.slice hhd L hhc) s.has * (IntSl (.slice sad SL scap) s.said * (starL rowP Q * (starL rowP A * R)))))) w8) := Lib.hid ((h9.perm (show _ = nowBlk b7 Q * (IntSl (.slice kad KL kcap) stay * (dSl (.slice (some ⟨db, off, none⟩) (N + 1) dc) N (A ++ Q) * (rfBlk q cs * (IntSl (.slice hhd L hhc) s.has * (IntSl (.slice sad SL scap) s.said * (starL rowP Q * (starL rowP A * R))))))) by rw [HO2.out]; ac_rfl)).drop.drop)
  clear hr1 h8 h9 H7 H6 HW6 c0 c1 c33 c34 z0 z1 z2 z3 z4 hw8 hQ HTH
  have hRC : RfC cs (.slice hhd L hhc) (.slice sad SL scap) (.slice (some ⟨db, off, none⟩) (N + 1) dc) (N : Int) s.all := by have h := HIS.out.c; rw [HN0.out] at h; exact h
  obtain ⟨c0, c1, c33, c34, _, cf⟩ := H9.out.second.rf_cells hRC
  have f34 := cf 34 none
  have HRC := Lib.hid hRC
  have hNb : N ≤ 1000000 := by have := HG.out.1.1.2; rw [HN0.out] at this; omega
  clear hRC cf
  go_upto_region 23 with (at_builtin; refine wpList_app rfl _ _ 88 rfl 39 5 120 _ info_r5 Tryd.underlying88 rfl (by decide) rfl (H9.out.alloc' _) rfl (by rfl) (Rd_lit (by simp) (by unfold maxLen; omega)) (by intro u hu; simp at hu; subst hu; rfl) (by unfold maxLen; omega) (by omega) ?_; intro v9 w9 ho9; obtain ⟨ad9, n9, cp9, hv9⟩ := rf_shape ho9; have HO9 := Lib.hid ho9; have c34 := ((ho9.second.rf_cells HRC.out).2.2.2.1); have f34 := (ho9.second.rf_cells HRC.out).2.2.2.2.2 34 none; subst hv9; clear ho9 c0 c1 c33)
  obtain ⟨dv9, hdv9⟩ : ∃ x, x = Value.slice ad9 n9 cp9 := ⟨_, rfl⟩
  rw [← hdv9] at HO9 ⊢
  obtain ⟨csA, hcsA⟩ : ∃ x, x = cs.setIfInBounds 34 dv9 := ⟨_, rfl⟩
  obtain ⟨wA, hwA⟩ : ∃ x, x = w9.setCell ⟨q, 34, none⟩ dv9 := ⟨_, rfl⟩
  have hA1 : Own w0 (rfBlk q csA * (IntSl (.slice hhd L hhc) s.has * (IntSl (.slice sad SL scap) s.said * (dSl dv9 (N + 1) (A ++ Q ++ List.replicate 5 nilRow) * (starL rowP (A ++ Q ++ List.replicate 5 nilRow) * R))))) wA := by
    have h1 : Own w0 (rfBlk q (cs.setIfInBounds 34 dv9) * _) (w9.setCell ⟨q, 34, none⟩ dv9) := Own.setCell (i := 34) (v := dv9) HO9.out.second
    rw [← hcsA, ← hwA] at h1
    refine h1.perm ?_
    rw [starL_append, starL_append, rows_nil]
    have e : (A ++ Q).map (·.1) ++ [Value.slice none 0 0, .slice none 0 0, .slice none 0 0, .slice none 0 0, .slice none 0 0] = (A ++ Q ++ List.replicate 5 nilRow).map (·.1) := by simp [nilRow, List.replicate]
    rw [show starL rowP A * starL rowP Q * emp = starL rowP A * starL rowP Q from by rw [star_comm, emp_star]]
    show _ = rfBlk q csA * (IntSl (.slice hhd L hhc) s.has * (IntSl (.slice sad SL scap) s.said * (Sl 39 5 dv9 (N + 1 + 1) ((A ++ Q ++ List.replicate 5 nilRow).map (·.1)) * _)))
    rw [← e]
    ac_rfl
  have hcA : RfC csA (.slice hhd L hhc) (.slice sad SL scap) dv9 (N : Int) s.all := by rw [hcsA]; exact HRC.out.setHeard dv9
  rw [← hwA]
  have HA1 := Lib.hid hA1
  have HCA := Lib.hid hcA
  obtain ⟨c0, c1, c33, _, _, cf⟩ := hA1.rf_cells hcA
  have f0 := cf 0 none
  clear hA1 hcA hcsA hwA HO9 H9 cf hdv9 c34 f34
  go_upto_region 24 with fail
  obtain ⟨csB, hcsB⟩ : ∃ x, x = csA.setIfInBounds 0 (.int .i64 ((N : Int) + 1)) := ⟨_, rfl⟩
  obtain ⟨wB, hwB⟩ : ∃ x, x = wA.setCell ⟨q, 0, none⟩ (.int .i64 ((N : Int) + 1)) := ⟨_, rfl⟩
  have hB1 : Own w0 (rfBlk q csB * (IntSl (.slice hhd L hhc) s.has * (IntSl (.slice sad SL scap) s.said * (dSl dv9 (N + 1) (A ++ Q ++ List.replicate 5 nilRow) * (starL rowP (A ++ Q ++ List.replicate 5 nilRow) * R))))) wB := by
    have h1 : Own w0 (rfBlk q (csA.setIfInBounds 0 (.int .i64 ((N : Int) + 1))) * _) (wA.setCell ⟨q, 0, none⟩ (.int .i64 ((N : Int) + 1))) := Own.setCell (i := 0) (v := .int .i64 ((N : Int) + 1)) HA1.out
    rw [← hcsB, ← hwB] at h1
    exact h1
  have hcB : RfC csB (.slice hhd L hhc) (.slice sad SL scap) dv9 ((N : Int) + 1) s.all := by rw [hcsB]; exact HCA.out.setN _
  rw [← hwB]
  have HB1 := Lib.hid hB1
  have HCB := Lib.hid hcB
  obtain ⟨e0, e1, e33, _, _, cf⟩ := hB1.rf_cells hcB
  have f1 := cf 1 none
  clear hB1 hcB hcsB hwB HA1 HCA cf c0 c1 c33 f0
  go_upto_region 25 with fail
  obtain ⟨csC, hcsC⟩ : ∃ x, x = csB.setIfInBounds 1 (.slice none 0 0) := ⟨_, rfl⟩
  obtain ⟨wC, hwC⟩ : ∃ x, x = wB.setCell ⟨q, 1, none⟩ (.slice none 0 0) := ⟨_, rfl⟩
  have hC1 : Own w0 (rfBlk q csC * (IntSl (.slice hhd L hhc) s.has * (IntSl (.slice sad SL scap) s.said * (dSl dv9 (N + 1) (A ++ Q ++ List.replicate 5 nilRow) * (starL rowP (A ++ Q ++ List.replicate 5 nilRow) * R))))) wC := by
    have h1 : Own w0 (rfBlk q (csB.setIfInBounds 1 (.slice none 0 0)) * _) (wB.setCell ⟨q, 1, none⟩ (.slice none 0 0)) := Own.setCell (i := 1) (v := .slice none 0 0) HB1.out
    rw [← hcsC, ← hwC] at h1
    exact h1
  have hcC : RfC csC (.slice none 0 0) (.slice sad SL scap) dv9 ((N : Int) + 1) s.all := by rw [hcsC]; exact HCB.out.setHas _
  rw [← hwC]
  have HC1 : Hid (Own w0 (Sl 3 1 (.slice none 0 0) 0 [] * (rfBlk q csC * (IntSl (.slice sad SL scap) s.said * (dSl dv9 (N + 1) (A ++ Q ++ List.replicate 5 nilRow) * (starL rowP (A ++ Q ++ List.replicate 5 nilRow) * R))))) wC) := Lib.hid (((hC1.perm (star_left_comm _ _ _)).drop).sl_nil 3 1)
  have HCC := Lib.hid hcC
  obtain ⟨c0, c1, c33, _, _, cf⟩ := hC1.rf_cells hcC
  clear hC1 hcC hcsC hwC HB1 HCB cf e0 e1 e33 f1
  have HRD := Lib.hid (HB.out (rfBlk q csC * (IntSl (.slice sad SL scap) s.said * (dSl dv9 (N + 1) (A ++ Q ++ List.replicate 5 nilRow) * (starL rowP (A ++ Q ++ List.replicate 5 nilRow) * R)))) wC HC1.out.drop).1
  have hBl := (memErr_len HMB.out).2
  have HBL : Hid ((B.map (Value.int .i64)).length = B.length * 1) := Lib.hid (by rw [List.length_map, Nat.mul_one])
  go_upto_region 26 with (at_builtin; refine wpList_app rfl _ _ 38 rfl 3 1 8 _ int_info Tryd.underlying38 rfl (by decide) rfl HC1.out rfl HBL.out HRD.out (int_one _) (by unfold maxLen; omega) (by omega) ?_; intro v3 w10 ho3; obtain ⟨ad3, n3, cp3, hv3⟩ := rf_shape ho3; have c1 := (ho3.second.rf_cells HCC.out).2.1; have f1 := (ho3.second.rf_cells HCC.out).2.2.2.2.2 1 none; have HO3 := Lib.hid ho3; subst hv3; clear ho3 c0 c33)
  obtain ⟨hv9, hhv9⟩ : ∃ x, x = Value.slice ad3 n3 cp3 := ⟨_, rfl⟩
  rw [← hhv9] at HO3 ⊢
  obtain ⟨csD, hcsD⟩ : ∃ x, x = csC.setIfInBounds 1 hv9 := ⟨_, rfl⟩
  obtain ⟨wD, hwD⟩ : ∃ x, x = w10.setCell ⟨q, 1, none⟩ hv9 := ⟨_, rfl⟩
  have hD1 : Own w0 (rfBlk q csD * (IntSl hv9 B * (IntSl (.slice sad SL scap) s.said * (dSl dv9 (N + 1) (A ++ Q ++ List.replicate 5 nilRow) * (starL rowP (A ++ Q ++ List.replicate 5 nilRow) * R))))) wD := by
    have h1 : Own w0 (rfBlk q (csC.setIfInBounds 1 hv9) * _) (w10.setCell ⟨q, 1, none⟩ hv9) := Own.setCell (i := 1) (v := hv9) HO3.out.second
    rw [← hcsD, ← hwD] at h1
    refine h1.perm ?_
    have e : IntSl hv9 B = Sl 3 1 hv9 (0 + B.length) ([] ++ B.map (Value.int .i64)) := by rw [Nat.zero_add, List.nil_append]; rfl
    rw [e]
  have hcD : RfC csD hv9 (.slice sad SL scap) dv9 ((N : Int) + 1) s.all := by rw [hcsD]; exact HCC.out.setHas _
  rw [← hwD]
  have HD1 := Lib.hid hD1
  have HCD := Lib.hid hcD
  obtain ⟨c0, c1, c33, _, _, cf⟩ := hD1.rf_cells hcD
  have f33 := cf 33 none
  have HFIN : Hid (Own w0 (RfP q (flChange s B) * R) (wD.setCell ⟨q, 33, none⟩ (.slice none 0 0))) := Lib.hid (by
    have h1 : Own w0 (rfBlk q (csD.setIfInBounds 33 (.slice none 0 0)) * _) (wD.setCell ⟨q, 33, none⟩ (.slice none 0 0)) := Own.setCell (i := 33) (v := .slice none 0 0) hD1
    have eS : flChange s B = ⟨s.n + 1, B, s.all, [], (flFlush s (keepB B s.has) s.said).heard⟩ := by unfold flChange; rw [if_pos HNE.out]
    have hn : (flChange s B).n = ((N + 1 : Nat) : Int) := by rw [eS]; show s.n + 1 = _; rw [HN0.out]; omega
    have hrr : RfRows (N + 1) (A ++ Q ++ List.replicate 5 nilRow) (flChange s B) := by
      have h9 := HIS.out.r
      rw [HROWS.out] at h9
      refine h9.change HN0.out HAL.out HG.out HNE.out ?_
      rw [← HST.out, ← HT.out]
      exact HQN.out
    have hc9 : RfC (csD.setIfInBounds 33 (.slice none 0 0)) hv9 (.slice none 0 0) dv9 (flChange s B).n (flChange s B).all := by
      have h9 := HCD.out.setSaid (.slice none 0 0)
      rw [hn]
      rw [show (flChange s B).all = s.all by rw [eS], show ((N + 1 : Nat) : Int) = (N : Int) + 1 by omega]
      exact h9
    refine Own.rf_close (cs := csD.setIfInBounds 33 (.slice none 0 0)) (hv := hv9) (sv := .slice none 0 0) (dv := dv9) (N := N + 1) (rows := A ++ Q ++ List.replicate 5 nilRow) ⟨hn, hc9, hrr⟩ ?_
    rw [show (flChange s B).has = B by rw [eS], show (flChange s B).said = [] by rw [eS]]
    have h2 := (h1.perm (show _ = IntSl (.slice sad SL scap) s.said * (rfBlk q (csD.setIfInBounds 33 (.slice none 0 0)) * (IntSl hv9 B * (dSl dv9 (N + 1) (A ++ Q ++ List.replicate 5 nilRow) * (starL rowP (A ++ Q ++ List.replicate 5 nilRow) * R)))) by ac_rfl)).drop
    have h3 : Own w0 (IntSl (.slice none 0 0) [] * _) _ := h2.sl_nil 3 1
    exact h3.perm (by ac_rfl))
  clear hD1 hcD hcsD hwD HO3 HC1 HCC cf f1 hhv9
  go_wp2
  go_ret
  exact ⟨rfl, HFIN.out⟩
end Go.Proofs.YtpgonkecicmanaaDoor
/- make of a slice of a variable length, for own rows; a table of own rows of bools. -/
namespace Go.Proofs.YtpgonkecicmanaaDoor
set_option linter.unusedVariables false
set_option linter.unusedSimpArgs false
open Go.RowKit
theorem wpList_mk {P : Program} {w0 w : World} {R : HProp} {ops : Array Oper} {rest : List Oper} {o : Oper} {a : Act} {Q : Exit → Act → World → Prop}
    (hg : o.guard = none) (l c : Operand) (t : TypeId) (hop : o.op = Op.makeSlice t l c) (e : TypeId) (bytes : Nat) (z : Value) (ht : P.underlying t = some (.slice e)) (hinf : (P.info? e).map (fun i => (i.zero, i.size, i.bytes)) = some (some z, 1, bytes)) (hzs : z.cells = #[z])
    (n : Nat) (hl : a.eval l = .int .i64 (n : Int)) (hc : a.eval c = .int .i64 (n : Int)) (hn : n ≤ 100000) (hb : bytes ≤ 100) (h : Own w0 R w)
    (hK : ∀ b w', Own w0 (SlAt e 1 b 0 n n (List.replicate n z) * R) w' → wpList P ops Q rest (a.put o.dst (.slice (some ⟨b, 0, none⟩) n n)) w') :
    wpList P ops Q (o :: rest) a w := by
  obtain ⟨i, hi, hz, hsize, hby⟩ := info_parts hinf
  have hb2 : i.bytes * n ≤ 281474976710656 := by
    rw [hby]
    exact Nat.le_trans (Nat.mul_le_mul hb hn) (by decide)
  have hm : n ≤ maxLen := by unfold maxLen; omega
  refine wpList_plain hg fun K hK' => ?_
  obtain ⟨w', hrun, r1, r2⟩ := run_make_full (P := P) w w.heap.size t e i z 1 ht hi hz hsize .i64 .i64 n hb2 hm (Nat.le_refl _)
  unfold Oper.wp
  simp [execOp, hop, hl, hc, hrun, Result.andThen]
  refine hK' _ _ (hK _ w' ?_)
  obtain ⟨hxl, h1 | ⟨g, cap, cur, hv, hbg, hh, h3, h4, h5, h6⟩⟩ := r1
  · simp at h1
  · injection hv with e1 e2 e3
    injection e1 with e1
    injection e1 with e1 _ _
    subst e1
    subst e3
    have hx : (madeCells z.cells (n * 1)).toList = List.replicate n z := by
      rw [hzs]
      apply List.ext_getElem
      · simp [madeCells]
      · intro j h1 h2
        simp [madeCells, Nat.mod_one]
    rw [hx] at h6
    have ho := h.new (o := .cells cur e (0, 0)) r2.os r2.tape r2.output r2.size (fun k hk => r2.block k hk (by simp)) hh
    refine ho.cons fun x hx => ⟨cur, Nat.le_refl _, hm, by simp, by rw [h5]; omega, fun j hj => ?_, hx⟩
    rw [← h6, List.getElem?_take, if_pos (by simpa using hj)]
    simp
theorem bool_info : (Tryd.prog.info? 4).map (fun i => (i.zero, i.size, i.bytes)) = some (some (.bool false), 1, 1) := by kernel_rfl
/-- An owned slice of bools. -/
def BoolSl (v : Value) (l : List Bool) : HProp := Sl 4 1 v l.length (l.map Value.bool)
def BRow (r : Value × List Bool) : HProp := BoolSl r.1 r.2
def BTab (rb n : Nat) (rs : List (Value × List Bool)) : HProp := TabO BRow (·.1) 182 rb 0 n rs
theorem Own.bt_slot {w0 w : World} {rb n k : Nat} {rs : List (Value × List Bool)} {R : HProp} (h : Own w0 (BTab rb n rs * R) w) (hk : k < rs.length) : w.cell? ⟨rb, k, none⟩ = some rs[k].1 := by
  have := (Own.tab_facts h).1 k rs[k] (List.getElem?_eq_getElem hk)
  simpa using this
theorem Own.bt_row {w0 w : World} {rb n k : Nat} {rs : List (Value × List Bool)} {R : HProp} (h : Own w0 (BTab rb n rs * R) w) (hk : k < rs.length) (hp : 0 < rs[k].2.length) :
    ∃ b o cap, rs[k].1 = .slice (some ⟨b, o, none⟩) rs[k].2.length cap ∧ rs[k].2.length ≤ cap ∧ cap ≤ 9223372036854775807 ∧ (∀ i s, w.frozen? ⟨b, i, s⟩ = false) ∧ (∀ j (hj : j < rs[k].2.length), w.cell? ⟨b, o + j, none⟩ = some (.bool rs[k].2[j])) ∧
      ∀ j x, j < rs[k].2.length → Own w0 (BTab rb n (rs.set k (rs[k].1, rs[k].2.set j x)) * R) (w.setCell ⟨b, o + j, none⟩ (.bool x)) := by
  have h1 := Own.tab_take h hk
  obtain ⟨b, o, cap, e1, h2⟩ := Own.slAt h1 (by simpa using hp)
  have f := h2.slAt_facts
  refine ⟨b, o, cap, e1, f.1, f.2.1, fun i s => f.2.2.2.2.1 i s, fun j hj => f.2.2.2.1 j _ (by simp [hj]), fun j x hj => ?_⟩
  have h3 := h2.slAt_set j (.bool x) (by simpa using hj)
  have h4 := h3.sl_of_at
  have h5 : Own w0 (BRow (rs[k].1, rs[k].2.set j x) * (SlAt 182 1 rb 0 rs.length n (rs.map (·.1)) * (starL BRow (rs.eraseIdx k) * R))) (w.setCell ⟨b, o + j, none⟩ (.bool x)) := by
    refine h4.perm ?_
    congr 1
    unfold BRow BoolSl
    simp only [List.map_set, List.length_set]
    rw [← e1]
  unfold BTab TabO
  refine h5.perm ?_
  rw [starL_set BRow rs k hk]
  have : (rs.set k (rs[k].1, rs[k].2.set j x)).map (·.1) = rs.map (·.1) := by
    apply List.ext_getElem
    · simp
    · intro m h1 h2
      simp only [List.getElem_map, List.getElem_set]
      split
      · rename_i hm; subst hm; rfl
      · rfl
  rw [this, List.length_set]
  ac_rfl
end Go.Proofs.YtpgonkecicmanaaDoor
