/- Contracts of package agree: less, first, hear. -/
import Derived.Test.YtpgonkecicmanaaDoorMAgreePlays6
import Derived.Test.YtpgonkecicmanaaDoorMAgreePlays3
namespace Go.Proofs.YtpgonkecicmanaaDoor
set_option linter.unusedVariables false
set_option linter.unusedSimpArgs false
open Go.RowKit Go.Maps
def orI (x y : Int) : Int := if x = 0 then y else x
def cmpI (a b : Int) : Int := if a < b then -1 else if b < a then 1 else 0
set_option maxRecDepth 100000 in
set_option maxHeartbeats 4000000 in
theorem isNaN_any (a : Int) (w : World) :
    Calls Tryd.prog 124 #[.int .i64 a] w fun e w' => e = .returned (.bool false) ∧ w = w' := by
  have t1 : (a != a) = false := by rw [bne_eq_false_iff_eq]
  go_enter Tryd.func124, Tryd.ntmps124
  go_wp2
  go_ret
  exact ⟨rfl, rfl⟩
set_option maxRecDepth 100000 in
set_option maxHeartbeats 4000000 in
theorem compare_any (a b : Int) (w : World) :
    Calls Tryd.prog 99 #[.int .i64 a, .int .i64 b] w fun e w' => e = .returned (.int .i64 (cmpI a b)) ∧ w = w' := by
  by_cases h1 : a < b
  · have hc : cmpI a b = -1 := if_pos h1
    have t1 : decide (a < b) = true := by simpa using h1
    have HC := Lib.hid hc; have H1 := Lib.hid h1
    clear hc h1
    go_enter Tryd.func99, Tryd.ntmps99
    go_wp2_with fail
    refine (isNaN_any _ _).mono ?_
    rintro e w' ⟨rfl, rfl⟩
    go_wp2_with fail
    refine (isNaN_any _ _).mono ?_
    rintro e w' ⟨rfl, rfl⟩
    go_wp2
    go_ret
    exact ⟨by rw [show cmpI a b = -1 from HC.out]; rfl, rfl⟩
  have t1 : decide (a < b) = false := by simpa using h1
  by_cases h2 : b < a
  · have hc : cmpI a b = 1 := (if_neg h1).trans (if_pos h2)
    have t2 : decide (b < a) = true := by simpa using h2
    have HC := Lib.hid hc; have H1 := Lib.hid h1; have H2 := Lib.hid h2
    clear hc h1 h2
    go_enter Tryd.func99, Tryd.ntmps99
    go_wp2_with fail
    refine (isNaN_any _ _).mono ?_
    rintro e w' ⟨rfl, rfl⟩
    go_wp2_with fail
    refine (isNaN_any _ _).mono ?_
    rintro e w' ⟨rfl, rfl⟩
    go_wp2
    go_ret
    exact ⟨by rw [show cmpI a b = 1 from HC.out]; rfl, rfl⟩
  have hc : cmpI a b = 0 := (if_neg h1).trans (if_neg h2)
  have t2 : decide (b < a) = false := by simpa using h2
  have HC := Lib.hid hc; have H1 := Lib.hid h1; have H2 := Lib.hid h2
  clear hc h1 h2
  go_enter Tryd.func99, Tryd.ntmps99
  go_wp2_with fail
  refine (isNaN_any _ _).mono ?_
  rintro e w' ⟨rfl, rfl⟩
  go_wp2_with fail
  refine (isNaN_any _ _).mono ?_
  rintro e w' ⟨rfl, rfl⟩
  go_wp2
  go_ret
  exact ⟨by rw [show cmpI a b = 0 from HC.out]; rfl, rfl⟩
set_option maxRecDepth 100000 in
set_option maxHeartbeats 4000000 in
theorem orInt_any (b : Nat) (x y : Int) (w : World) (c0 : w.cell? ⟨b, 0, none⟩ = some (.int .i64 x)) (c1 : w.cell? ⟨b, 1, none⟩ = some (.int .i64 y)) :
    Calls Tryd.prog 98 #[.slice (some ⟨b, 0, none⟩) 2 2] w fun e w' => e = .returned (.int .i64 (orI x y)) ∧ w = w' := by
  go_enter Tryd.func98, Tryd.ntmps98
  go_wp2_with fail
  go_loopw [8] (fun iv wr => ∃ k : Nat, k ≤ 2 ∧ iv = .int .i64 k ∧ Hid (wr = w ∧ (0 < k → x = 0) ∧ (1 < k → y = 0))) (fun iv _ => 2 - (intOf iv).toNat)
  case atStart => exact ⟨0, by omega, rfl, Lib.hid ⟨rfl, by omega, by omega⟩⟩
  case round =>
    obtain ⟨k, hk, rfl, hp⟩ := hrel
    obtain ⟨rfl, h1, h2⟩ := hp.out
    by_cases h3 : k = 0
    · subst h3
      by_cases hx : x = 0
      · have t1 : (x != 0) = false := by rw [bne_eq_false_iff_eq]; exact hx
        have HX := Lib.hid hx; have H1 := Lib.hid h1; have H2 := Lib.hid h2
        clear hx h1 h2
        go_wp2
        go_roundw
        case rel => exact ⟨1, by omega, rfl, Lib.hid (by refine ⟨?_, fun _ => HX.out, fun h => by omega⟩; first | rfl | trivial)⟩
        case measure => simp [intOf]
      · have t1 : (x != 0) = true := by rw [bne_iff_ne]; exact hx
        have HX := Lib.hid hx; have H1 := Lib.hid h1; have H2 := Lib.hid h2
        clear hx h1 h2
        go_wp2
        go_ret
        exact ⟨by rw [show orI x y = x from if_neg HX.out]; rfl, rfl⟩
    have hx : x = 0 := h1 (by omega)
    by_cases h4 : k = 1
    · subst h4
      by_cases hy : y = 0
      · have t1 : (y != 0) = false := by rw [bne_eq_false_iff_eq]; exact hy
        have HX := Lib.hid hx; have HY := Lib.hid hy; have H1 := Lib.hid h1; have H2 := Lib.hid h2
        clear hx hy h1 h2
        go_wp2
        go_roundw
        case rel => exact ⟨2, by omega, rfl, Lib.hid (by refine ⟨?_, fun _ => HX.out, fun _ => HY.out⟩; first | rfl | trivial)⟩
        case measure => simp [intOf]
      · have t1 : (y != 0) = true := by rw [bne_iff_ne]; exact hy
        have HX := Lib.hid hx; have HY := Lib.hid hy; have H1 := Lib.hid h1; have H2 := Lib.hid h2
        clear hx hy h1 h2
        go_wp2
        go_ret
        exact ⟨by rw [show orI x y = y from if_pos HX.out]; rfl, rfl⟩
    have h5 : k = 2 := by omega
    subst h5
    have hy : y = 0 := h2 (by omega)
    have HX := Lib.hid hx; have HY := Lib.hid hy; have H1 := Lib.hid h1; have H2 := Lib.hid h2; have H3 := Lib.hid h3; have H4 := Lib.hid h4
    clear hx hy h1 h2 h3 h4
    go_wp2
    go_ret
    exact ⟨by rw [show orI x y = 0 from (if_pos HX.out).trans HY.out]; rfl, rfl⟩
def stV (s : St) : Value := .agg #[.int .i64 s.1, .int .i64 s.2]
def StO (b : Nat) (s : St) : HProp := blk b (.cells #[.int .i64 s.1, .int .i64 s.2] 32 (0, 0))
theorem Own.sto {w0 w : World} {b : Nat} {s : St} {R : HProp} (h : Own w0 (StO b s * R) w) : w.cell? ⟨b, 0, none⟩ = some (.int .i64 s.1) ∧ w.cell? ⟨b, 1, none⟩ = some (.int .i64 s.2) ∧ ∀ i t, w.frozen? ⟨b, i, t⟩ = false :=
  ⟨(Own.cell h 0).trans rfl, (Own.cell h 1).trans rfl, Own.free h⟩
theorem stLess_cmp (a b : St) : stLess a b = decide (orI (cmpI a.1 b.1) (cmpI a.2 b.2) < 0) := by
  unfold stLess orI cmpI
  by_cases h1 : a.1 < b.1
  · simp [h1]
  · by_cases h2 : b.1 < a.1
    · have h3 : ¬ a.1 = b.1 := by omega
      simp [h1, h2, h3]
    · have h3 : a.1 = b.1 := by omega
      by_cases h4 : a.2 < b.2
      · simp [h3, h4]
      · by_cases h5 : b.2 < a.2 <;> simp [h3, h4, h5]
set_option maxRecDepth 100000 in
set_option maxHeartbeats 4000000 in
theorem less_any {w0 w : World} {R : HProp} (a b : St) (h : Own w0 R w) :
    Calls Tryd.prog 71 #[.agg #[.int .i64 a.1, .int .i64 a.2], .agg #[.int .i64 b.1, .int .i64 b.2]] w fun e w' => e = .returned (.bool (stLess a b)) ∧ Own w0 R w' := by
  rw [stLess_cmp]
  obtain ⟨a1, a2⟩ := a
  obtain ⟨b1, b2⟩ := b
  dsimp only
  obtain ⟨p1, hb_p1⟩ : ∃ zz_, zz_ = (w).heap.size := ⟨_, rfl⟩
  obtain ⟨w1, hw_w1⟩ : ∃ zz_, zz_ = (w).alloc (.cells #[.int .i64 a1, .int .i64 a2] 32 (0, 0)) := ⟨_, rfl⟩
  have h_H1 := (h).alloc (.cells #[.int .i64 a1, .int .i64 a2] 32 (0, 0))
  rw [← hb_p1, ← hw_w1] at h_H1
  have H1 := Lib.hid h_H1
  clear h_H1
  obtain ⟨p2, hb_p2⟩ : ∃ zz_, zz_ = (w1).heap.size := ⟨_, rfl⟩
  obtain ⟨w2, hw_w2⟩ : ∃ zz_, zz_ = (w1).alloc (.cells #[.int .i64 b1, .int .i64 b2] 32 (0, 0)) := ⟨_, rfl⟩
  have h_H2 := (H1.out).alloc (.cells #[.int .i64 b1, .int .i64 b2] 32 (0, 0))
  rw [← hb_p2, ← hw_w2] at h_H2
  have H2 := Lib.hid h_H2
  clear h_H2
  have HO : Hid (Own w0 (StO p1 (a1, a2) * (StO p2 (b1, b2) * R)) w2) := Lib.hid (H2.out.second.perm (by unfold StO; ac_rfl))
  obtain ⟨x0, x1, _⟩ := HO.out.drew.sto
  obtain ⟨y0, y1, _⟩ := HO.out.drew.second.sto
  simp only at x0 x1 y0 y1
  clear H1 H2
  have H := Lib.hid h
  clear h
  go_enter Tryd.func71, Tryd.ntmps71
  go_upto_region 1 with fail
  have hq_p2 : p1 + 1 = p2 := by rw [hb_p2, hw_w1, hb_p1, World.size_alloc]
  rw [← hb_p1, hq_p2, ← hw_w1, ← hw_w2]
  clear hq_p2 hb_p1 hb_p2 hw_w1 hw_w2
  refine wp_region_planH 13 [] [(true, 0), (true, 1), (true, 2), (true, 3), (true, 5), (true, 6), (true, 7), (true, 8), (false, 4), (false, 9), (false, 10), (false, 11), (true, 12)] [13] (fun wS => wS.cell? ⟨p1, 0, none⟩ = some (.int .i64 a1) ∧ wS.cell? ⟨p1, 1, none⟩ = some (.int .i64 a2) ∧ wS.cell? ⟨p2, 0, none⟩ = some (.int .i64 b1) ∧ wS.cell? ⟨p2, 1, none⟩ = some (.int .i64 b2)) (by kernel_rfl) (by kernel_rfl) (⟨x0, x1, y0, y1⟩) ?_
  simp only [pickH, pick, List.getElem?_cons_succ, List.getElem?_cons_zero, Option.toList, Option.map_some, List.cons_append, List.nil_append]
  repeat (refine wpPure_step ?_ rfl ?_ ?_; rotate_left; (focus (intro _; first | with_reducible rfl | (go_simp; done) | (go_simp; with_reducible rfl) | rfl)); go_simp)
  refine wpPure_nil ?_
  repeat (refine wpMix_read ?_ rfl ?_ ?_; rotate_left; (focus (intro _ hS; obtain ⟨s1, s2, s3, s4⟩ := hS; first | with_reducible rfl | (go_simp; done) | (go_simp; with_reducible rfl) | rfl)); go_simp)
  refine wpMix_write (fun K hK => ?_)
  go_simp
  refine (compare_any _ _ _).mono ?_
  rintro e w' ⟨rfl, rfl⟩
  refine hK _ _ ⟨⟨x0, x1, y0, y1⟩, ?_⟩
  clear hK K
  go_simp
  refine wpMix_write (fun K hK => ?_)
  go_simp
  refine (compare_any _ _ _).mono ?_
  rintro e w' ⟨rfl, rfl⟩
  refine hK _ _ ⟨⟨x0, x1, y0, y1⟩, ?_⟩
  clear hK K
  go_simp
  refine wpMix_write (fun K hK => ?_)
  go_simp
  obtain ⟨p3, hb_p3⟩ : ∃ zz_, zz_ = (w2).heap.size := ⟨_, rfl⟩
  obtain ⟨w3, hw_w3⟩ : ∃ zz_, zz_ = (w2).alloc (.cells #[.int .i64 (cmpI a1 b1), .int .i64 (cmpI a2 b2)] 3 (0, 0)) := ⟨_, rfl⟩
  have h_H3 := (HO.out).alloc (.cells #[.int .i64 (cmpI a1 b1), .int .i64 (cmpI a2 b2)] 3 (0, 0))
  rw [← hb_p3, ← hw_w3] at h_H3
  have H3 := Lib.hid h_H3
  clear h_H3
  rw [← hb_p3, ← hw_w3]
  clear hb_p3 hw_w3
  clear x0 x1 y0 y1
  have z0 : w3.drew.cell? ⟨p3, 0, none⟩ = some (.int .i64 (cmpI a1 b1)) := (H3.out.drew.cell 0).trans rfl
  have z1 : w3.drew.cell? ⟨p3, 1, none⟩ = some (.int .i64 (cmpI a2 b2)) := (H3.out.drew.cell 1).trans rfl
  have HO3 : Hid (Own w0 (StO p1 (a1, a2) * (StO p2 (b1, b2) * R)) w3.drew) := Lib.hid H3.out.drop.drew
  clear H3
  obtain ⟨x0, x1, _⟩ := HO3.out.sto
  obtain ⟨y0, y1, _⟩ := HO3.out.second.sto
  simp only at x0 x1 y0 y1
  refine hK _ _ ⟨⟨x0, x1, y0, y1⟩, ?_⟩
  clear hK K
  go_simp
  refine wpMix_write (fun K hK => ?_)
  go_simp
  refine (orInt_any p3 _ _ _ z0 z1).mono ?_
  rintro e w' ⟨rfl, rfl⟩
  refine hK _ _ ⟨⟨x0, x1, y0, y1⟩, ?_⟩
  clear hK K
  go_simp
  repeat (refine wpMix_read ?_ rfl ?_ ?_; rotate_left; (focus (intro _ hS; obtain ⟨s1, s2, s3, s4⟩ := hS; first | with_reducible rfl | (go_simp; done) | (go_simp; with_reducible rfl) | rfl)); go_simp)
  refine wpMix_nil ?_
  go_wp2_with fail
  refine NoPanic.normal ?_
  go_wp2
  go_ret
  exact ⟨rfl, HO3.out.drop.drop⟩
end Go.Proofs.YtpgonkecicmanaaDoor
/- Contracts of package agree, continued: first. -/
namespace Go.Proofs.YtpgonkecicmanaaDoor
set_option linter.unusedVariables false
set_option linter.unusedSimpArgs false
open Go.RowKit Go.Maps
theorem mapwt_kind : Tryd.prog.underlying 132 = some (.map 3 141) := by kernel_rfl
theorem wt_zero : ∀ w, (zeroValue 141).run Tryd.prog w = .ok (wtV ((0, 0), false)) w := fun _ => by kernel_rfl
/-- The first among those that were seen. -/
def SoFar (W : List (Int × Wt)) (left : List Int) (f : Int) : Prop :=
  (f = 0 ∧ ∀ w y, mget W w = some y → w ∈ left) ∨ (f ≠ 0 ∧ ∃ x, mget W f = some x ∧ ∀ w y, mget W w = some y → w ∉ left → ¬ stLt y.1 x.1)
theorem SoFar.start (W : List (Int × Wt)) : SoFar W (W.map (·.1)) 0 := .inl ⟨rfl, fun w y h => List.mem_map.2 ⟨_, mget_mem h, rfl⟩⟩
theorem SoFar.done {W : List (Int × Wt)} {f : Int} (hn : (W.map (·.1)).Nodup) (ha : Apart W) (h : SoFar W [] f) : f = agFirst W := by
  rcases h with ⟨rfl, h⟩ | ⟨_, x, hx, h⟩
  · cases W with
    | nil => rfl
    | cons p r =>
      have h1 : mget (p :: r) p.1 = some p.2 := by unfold mget; rw [if_pos rfl]
      cases h _ _ h1
  · exact (agFirst_of hn ha ⟨x, hx, fun w y hy => h w y hy (by simp)⟩).symm
theorem SoFar.first {W : List (Int × Wt)} {left : List Int} {k : Int} {y : Wt} (h : SoFar W left 0) (hk : mget W k = some y) (hk0 : k ≠ 0) : SoFar W (dropKey left k) k := by
  rcases h with ⟨_, h⟩ | ⟨h0, _⟩
  · refine .inr ⟨hk0, y, hk, fun w z hz hn => ?_⟩
    have h1 := h w z hz
    have : w = k := by
      rcases Classical.em (w = k) with e | e
      · exact e
      · exact absurd (mem_dropKey.2 ⟨h1, e⟩) hn
    subst this
    rw [hk] at hz; cases hz
    exact stLt_irr _
  · exact absurd rfl h0
theorem SoFar.less {W : List (Int × Wt)} {left : List Int} {f k : Int} {x y : Wt} (h : SoFar W left f) (hf : f ≠ 0) (hx : mget W f = some x) (hk : mget W k = some y) (hk0 : k ≠ 0) (hl : stLess y.1 x.1 = true) : SoFar W (dropKey left k) k := by
  rcases h with ⟨h0, _⟩ | ⟨_, x', hx', h⟩
  · exact absurd h0 hf
  · rw [hx] at hx'; cases hx'
    refine .inr ⟨hk0, y, hk, fun w z hz hn => ?_⟩
    by_cases e : w = k
    · subst e; rw [hk] at hz; cases hz; exact stLt_irr _
    · have h1 := h w z hz (fun hc => hn (mem_dropKey.2 ⟨hc, e⟩))
      exact fun hc => h1 (stLt_trans hc (stLess_iff.1 hl))
theorem SoFar.more {W : List (Int × Wt)} {left : List Int} {f k : Int} {x y : Wt} (h : SoFar W left f) (hf : f ≠ 0) (hx : mget W f = some x) (hk : mget W k = some y) (hl : stLess y.1 x.1 = false) : SoFar W (dropKey left k) f := by
  rcases h with ⟨h0, _⟩ | ⟨_, x', hx', h⟩
  · exact absurd h0 hf
  · rw [hx] at hx'; cases hx'
    refine .inr ⟨hf, x, hx, fun w z hz hn => ?_⟩
    by_cases e : w = k
    · subst e; rw [hk] at hz; cases hz; exact stLess_no.1 hl
    · exact h w z hz (fun hc => hn (mem_dropKey.2 ⟨hc, e⟩))
theorem SoFar.has {W : List (Int × Wt)} {left : List Int} {f : Int} (h : SoFar W left f) (hf : f ≠ 0) : ∃ x, mget W f = some x := by
  rcases h with ⟨h0, _⟩ | ⟨_, x, hx, _⟩
  · exact absurd h0 hf
  · exact ⟨x, hx⟩
theorem stamp_sz (h : 32 < Tryd.prog.types.size) : (Tryd.prog.types[32]'h).size = 2 := by kernel_rfl
set_option maxRecDepth 100000 in
set_option maxHeartbeats 4000000 in
theorem agFirst_any {w0 w : World} {R : HProp} (p mb : Nat) (W : List (Int × Wt)) (hw : ∀ k y, mget W k = some y → isWord k = true) (ha : Apart W) (HC : Hid (∀ w', Own w0 R w' → w'.cell? ⟨p, 1, none⟩ = some (.map (some mb)))) (h : Own w0 (IMp mb (mvals wtV W) * R) w) :
    Calls Tryd.prog 112 #[.pointer (some ⟨p, 0, none⟩)] w fun e w' => e = .returned (.int .i64 (agFirst W)) ∧ Own w0 (IMp mb (mvals wtV W) * R) w' := by
  have hnd : (W.map (·.1)).Nodup := by
    have := h.map_nodup
    unfold mvals at this
    rw [List.map_map] at this
    exact this
  have c1 := HC.out _ h.drop
  obtain ⟨rb, hrb⟩ : ∃ rb, rb = w.heap.size := ⟨_, rfl⟩
  have hk : (mvals wtV W).map (·.1) = W.map (·.1) := by unfold mvals; rw [List.map_map]; rfl
  have HW := Lib.hid hw; have HA := Lib.hid ha; have H := Lib.hid h; have HRB := Lib.hid hrb; have HND := Lib.hid hnd; have HK := Lib.hid hk
  clear hw ha h hrb hnd hk
  go_enter Tryd.func112, Tryd.ntmps112
  go_wp2_with (refine wpList_range mapwt_kind H.out rfl _ rfl rfl ?_; intro w1 ho1; rw [← HRB.out] at ho1 ⊢; have HW1 := Lib.hid ho1; clear ho1)
  go_simp
  go_loopg [3] (W.length) (fun g fv wr => ∃ (left : List Int) (last : Option Int) (f : Int), left.length ≤ g ∧ fv = .int .i64 f ∧ Hid (SoFar W left f) ∧ Hid (Own w0 (MpIt (fun n : Int => Value.int .i64 n) I64 mb rb (mvals wtV W) left last * R) wr))
  case atStart =>
    refine ⟨(mvals wtV W).map (·.1), none, 0, by simp [mvals], rfl, Lib.hid ?_, HW1⟩
    rw [HK.out]
    exact SoFar.start W
  case round =>
    clear HW1 c1
    obtain ⟨left, last, f, hlen, rfl, HS, HP⟩ := hrel
    go_wp2_with (refine wpList_next (int_ke int_kind) HP.out rfl _ rfl rfl ?_ ?_)
    · intro hnil
      subst hnil
      have hf := HS.out.done HND.out HA.out
      have HF := Lib.hid HP.out.it_end
      subst hf
      go_wp2
      go_ret
      exact ⟨rfl, HF.out⟩
    · intro k v w2 hmem hkl hent ho
      have hlt := dropKey_lt hkl
      obtain ⟨y, rfl, hy⟩ : ∃ y, v = wtV y ∧ mget W k = some y := by
        unfold mvals at hmem
        obtain ⟨q, hq, e⟩ := List.mem_map.1 hmem
        obtain ⟨j, hj, rfl⟩ := List.getElem_of_mem hq
        cases e
        exact ⟨_, rfl, mget_at HND.out (j := j) (by rw [List.getElem?_eq_getElem hj])⟩
      have hk0 := word_ne0 (HW.out k y hy)
      have c1 := HC.out _ ho.drop
      obtain ⟨⟨ya, yb⟩, yd⟩ := y
      unfold wtV at hent ⊢
      dsimp only at hent ⊢
      obtain ⟨b3, hb_b3⟩ : ∃ zz_, zz_ = (w2).heap.size := ⟨_, rfl⟩
      obtain ⟨w3, hw_w3⟩ : ∃ zz_, zz_ = (w2).alloc (.cells #[.int .i64 ya, .int .i64 yb, .bool yd] 141 (0, 0)) := ⟨_, rfl⟩
      have h_H3 := (ho).alloc (.cells #[.int .i64 ya, .int .i64 yb, .bool yd] 141 (0, 0))
      rw [← hb_b3, ← hw_w3] at h_H3
      have H3 := Lib.hid h_H3
      clear h_H3
      clear ho
      by_cases hf0 : f = 0
      · subst hf0
        have HSN := Lib.hid (HS.out.first hy hk0)
        have HMEM := Lib.hid hmem; have HKL := Lib.hid hkl; have HY := Lib.hid hy; have HK0 := Lib.hid hk0; have HLT := Lib.hid hlt
        clear hmem hkl hy hk0 hlt
        go_upto_region 5 with fail
        rw [← hb_b3, ← hw_w3]
        clear hb_b3 hw_w3
        go_wp2_with fail
        go_quiet (fail)
        go_wp2_with fail
        go_roundg ((dropKey left k).length)
        case measure => have := HLT.out; omega
        case rel => exact ⟨dropKey left k, some k, k, Nat.le_refl _, rfl, HSN, Lib.hid (H3.out.drewN _).drop⟩
      obtain ⟨x, hx⟩ := HS.out.has hf0
      obtain ⟨D, hD⟩ : ∃ D, D = stLess (ya, yb) x.1 := ⟨_, rfl⟩
      have tf : (f == 0) = false := by rw [beq_eq_false_iff_ne]; exact hf0
      have HO3 : Hid (Own w0 (MpIt (fun n : Int => Value.int .i64 n) I64 mb rb (mvals wtV W) (dropKey left k) (some k) * (blk b3 (.cells #[.int .i64 ya, .int .i64 yb, .bool yd] 141 (0, 0)) * R)) w3) := Lib.hid H3.out.second
      have hfI : I64 f := isWord_I64 (HW.out f x hx)
      have hlk := HO3.out.drew.it_look (int_ke int_kind) mapwt_kind wt_zero hfI false
      rw [mget_mvals, hx, if_neg (by simp)] at hlk
      have c2 := HC.out _ HO3.out.drew.drop.drop
      have y0 : w3.drew.cell? ⟨b3, 0, none⟩ = some (.int .i64 ya) := (HO3.out.drew.second.cell 0).trans rfl
      have y1 : w3.drew.cell? ⟨b3, 1, none⟩ = some (.int .i64 yb) := (HO3.out.drew.second.cell 1).trans rfl
      have y2 : w3.drew.cell? ⟨b3, 2, none⟩ = some (.bool yd) := (HO3.out.drew.second.cell 2).trans rfl
      have HSL : Hid (D = true → SoFar W (dropKey left k) k) := Lib.hid (fun h => HS.out.less hf0 hx hy hk0 (by rw [← hD]; exact h))
      have HSM : Hid (D = false → SoFar W (dropKey left k) f) := Lib.hid (fun h => HS.out.more hf0 hx hy (by rw [← hD]; exact h))
      obtain ⟨⟨xa, xb⟩, xd⟩ := x
      unfold wtV at hlk
      simp only [Option.map_some, Option.getD_some] at hlk
      have HMEM := Lib.hid hmem; have HKL := Lib.hid hkl; have HY := Lib.hid hy; have HK0 := Lib.hid hk0; have HLT := Lib.hid hlt; have HF0 := Lib.hid hf0; have HX := Lib.hid hx; have HD := Lib.hid hD; have HFI := Lib.hid hfI
      clear hmem hkl hy hk0 hlt hf0 hx hD hfI
      clear H3
      go_upto_region 5 with fail
      rw [← hb_b3, ← hw_w3]
      clear hb_b3 hw_w3
      clear c1
      refine wp_region_planH 13 [] [(true, 0), (true, 1), (true, 2), (true, 3), (true, 4), (true, 5), (true, 6), (true, 7), (true, 8), (true, 9), (true, 10), (true, 11), (false, 12)] [13] (fun wS => wS.cell? ⟨p, 1, none⟩ = some (.map (some mb)) ∧ wS.cell? ⟨b3, 0, none⟩ = some (.int .i64 ya) ∧ wS.cell? ⟨b3, 1, none⟩ = some (.int .i64 yb) ∧ (Instr.lookup 132 (.map (some mb)) (.int .i64 f) false).run Tryd.prog wS = .ok (.agg #[.int .i64 xa, .int .i64 xb, .bool xd]) wS) (by kernel_rfl) (by kernel_rfl) (⟨c2, y0, y1, hlk⟩) ?_
      simp only [pickH, pick, List.getElem?_cons_succ, List.getElem?_cons_zero, Option.toList, Option.map_some, List.cons_append, List.nil_append]
      repeat (refine wpPure_step ?_ rfl ?_ ?_; rotate_left; (focus (intro _; first | with_reducible rfl | (go_simp; done) | (go_simp; with_reducible rfl) | rfl)); go_simp)
      refine wpPure_nil ?_
      repeat (first | (refine wpMix_read ?_ rfl ?_ ?_; rotate_left; (focus (intro _ hS; obtain ⟨s1, s2, s3, s4⟩ := hS; first | with_reducible rfl | (go_simp; done) | (go_simp; with_reducible rfl) | rfl)); go_simp) | (refine wpMix_readW ?_ ?_ ?_ ?_; rotate_left; (focus (first | rfl | (go_simp; done))); (focus (intro _ hS; obtain ⟨s1, s2, s3, s4⟩ := hS; first | with_reducible rfl | (go_simp; done) | (go_simp; with_reducible rfl) | rfl)); go_simp))
      refine wpMix_write (fun K hK => ?_)
      go_simp
      rw [stamp_sz]
      simp only [List.take_succ_cons, List.take_zero]
      refine (less_any (ya, yb) (xa, xb) HO3.out.drew).mono ?_
      rintro e w5 ⟨rfl, ho5⟩
      rw [← HD.out]
      clear c2 y0 y1 y2 hlk
      have hlk := ho5.it_look (int_ke int_kind) mapwt_kind wt_zero HFI.out false
      rw [mget_mvals, HX.out, if_neg (by simp)] at hlk
      unfold wtV at hlk
      simp only [Option.map_some, Option.getD_some] at hlk
      have c2 := HC.out _ ho5.drop.drop
      have y0 : w5.cell? ⟨b3, 0, none⟩ = some (.int .i64 ya) := (ho5.second.cell 0).trans rfl
      have y1 : w5.cell? ⟨b3, 1, none⟩ = some (.int .i64 yb) := (ho5.second.cell 1).trans rfl
      have HO5 := Lib.hid ho5.second.drop
      clear ho5
      refine hK _ _ ⟨⟨c2, y0, y1, hlk⟩, ?_⟩
      clear hK K
      go_simp
      refine wpMix_nil ?_
      clear y0 y1 hlk c2
      cases D
      · have HSN := Lib.hid (HSM.out rfl)
        clear HSL HSM
        go_wp2_with fail
        refine NoPanic.normal ?_
        go_wp2_with fail
        go_roundg ((dropKey left k).length)
        case measure => have := HLT.out; omega
        case rel => exact ⟨dropKey left k, some k, f, Nat.le_refl _, rfl, HSN, HO5⟩
      · have HSN := Lib.hid (HSL.out rfl)
        clear HSL HSM
        go_wp2_with fail
        refine NoPanic.normal ?_
        go_wp2_with fail
        go_roundg ((dropKey left k).length)
        case measure => have := HLT.out; omega
        case rel => exact ⟨dropKey left k, some k, k, Nat.le_refl _, rfl, HSN, HO5⟩
end Go.Proofs.YtpgonkecicmanaaDoor
/- Contracts of package agree, continued: hear. -/
namespace Go.Proofs.YtpgonkecicmanaaDoor
set_option linter.unusedVariables false
set_option linter.unusedSimpArgs false
open Go.RowKit Go.Maps
theorem Apart.del {W : List (Int × Wt)} (hn : (W.map (·.1)).Nodup) (h : Apart W) (f : Int) : Apart (mdel W f) := fun w y w' y' h1 h2 e => by
  rw [mget_mdel _ hn] at h1 h2
  by_cases e1 : f = w
  · rw [if_pos e1] at h1; cases h1
  by_cases e2 : f = w'
  · rw [if_pos e2] at h2; cases h2
  rw [if_neg e1] at h1
  rw [if_neg e2] at h2
  exact h w y w' y' h1 h2 e
theorem words_del {W : List (Int × Wt)} (hn : (W.map (·.1)).Nodup) (h : ∀ k y, mget W k = some y → isWord k = true) (f : Int) : ∀ k y, mget (mdel W f) k = some y → isWord k = true := fun k y h1 => by
  rw [mget_mdel _ hn] at h1
  by_cases e1 : f = k
  · rw [if_pos e1] at h1; cases h1
  · rw [if_neg e1] at h1; exact h k y h1
theorem agHear_stop {W : List (Int × Wt)} (h : agGo W = false) : agHear W.length W = (W, []) := by
  cases hl : W.length with
  | zero => rfl
  | succ n => unfold agHear; rw [h, if_neg (by simp)]
theorem agHear_go {W : List (Int × Wt)} {x : Wt} (h : agGo W = true) (hx : mget W (agFirst W) = some x) :
    agHear W.length W = ((agHear (mdel W (agFirst W)).length (mdel W (agFirst W))).1, agFirst W :: (agHear (mdel W (agFirst W)).length (mdel W (agFirst W))).2) := by
  have hlen := mdel_len hx
  rw [← hlen]
  conv => lhs; unfold agHear
  rw [h, if_pos rfl]
theorem agGo_none {W : List (Int × Wt)} (h : agFirst W = 0) : agGo W = false := by unfold agGo; rw [h]; rfl
theorem agGo_some {W : List (Int × Wt)} {x : Wt} (h : agFirst W ≠ 0) (hx : mget W (agFirst W) = some x) : agGo W = x.2 := by
  unfold agGo
  rw [hx, decide_eq_true h]; rfl
theorem agFirst_has {W : List (Int × Wt)} (hn : (W.map (·.1)).Nodup) (h : agFirst W ≠ 0) : ∃ x, mget W (agFirst W) = some x := agFirst_key hn (fun e => h (agFirst_nil e))
theorem wt_settled (xa xb : Int) (b : Bool) (w : World) : (Instr.field 141 (.agg #[.int .i64 xa, .int .i64 xb, .bool b]) 1).run Tryd.prog w = .ok (.bool b) w := by kernel_rfl
theorem ag_hear_end {w0 w : World} {p mb1 mb2 L M : Nat} {n : Int} {hv ov v' : Value} {W : List (Int × Wt)} {K H O : List Int} {R : HProp} (hL : L = H.length) (hM : M = O.length)
    (h : Own w0 (Sl 3 1 v' (L + M) (H.map (Value.int .i64) ++ O.map (Value.int .i64)) * (agBlk p mb1 mb2 n hv * (IMp mb1 (mvals wtV W) * (IMp mb2 (setM K) * (IntSl ov O * R))))) w) :
    Own w0 (IntSl ov O * (agM ⟨p, mb1, mb2, v', ⟨n, W, K, H ++ O⟩⟩ * R)) (w.setCell ⟨p, 3, none⟩ v') := by
  subst hL; subst hM
  have h1 := h.second.setCell (i := 3) (v := v')
  refine h1.perm ?_
  unfold agM IntSl agBlk
  dsimp only
  rw [List.length_append, List.map_append]
  show (blk p (.cells #[.int .i64 n, .map (some mb1), .map (some mb2), v'] 135 (0, 0)) * _ : HProp) = _
  ac_rfl
set_option maxRecDepth 100000 in
set_option maxHeartbeats 4000000 in
theorem agHear_any {w0 w : World} {R : HProp} (r : AgR) (hw : ∀ k y, mget r.m.waits k = some y → isWord k = true) (ha : Apart r.m.waits) (hlen : r.m.heard.length + r.m.waits.length ≤ 1000) (h : Own w0 (agM r * R) w) :
    Calls Tryd.prog 72 #[.pointer (some ⟨r.p, 0, none⟩)] w fun e w' => ∃ v' hv', e = .returned v' ∧ Own w0 (IntSl v' (agHear r.m.waits.length r.m.waits).2 * (agM ⟨r.p, r.mb1, r.mb2, hv', agHearM r.m⟩ * R)) w' := by
  obtain ⟨p, mb1, mb2, hv, ⟨n, W0, K, H⟩⟩ := r
  dsimp only at hw ha hlen ⊢
  obtain ⟨ad, cap, hs⟩ := h.agm_heard.int_shape
  dsimp only at hs
  subst hs
  have h0 : Own w0 (IMp mb1 (mvals wtV W0) * (IntSl (.slice none 0 0) [] * (agBlk p mb1 mb2 n (.slice ad H.length cap) * (IMp mb2 (setM K) * (IntSl (.slice ad H.length cap) H * R))))) w := (h.agm_waits.sl_nil 3 1).second.perm (by unfold IntSl; simp only [List.length_nil, List.map_nil])
  obtain ⟨L, hL⟩ : ∃ L, L = H.length := ⟨_, rfl⟩
  rw [← hL] at h0 hlen
  obtain ⟨RES, hRES⟩ : ∃ x, x = agHear W0.length W0 := ⟨_, rfl⟩
  have hfin : ∀ (W' : List (Int × Wt)) (O : List Int) (ov v' : Value) (w' : World), W' = RES.1 → O = RES.2 → Own w0 (IntSl ov O * (agM ⟨p, mb1, mb2, v', ⟨n, W', K, H ++ O⟩⟩ * R)) w' → ∃ vv hv', ov = vv ∧ Own w0 (IntSl vv (agHear W0.length W0).2 * (agM ⟨p, mb1, mb2, hv', agHearM ⟨n, W0, K, H⟩⟩ * R)) w' := by
    rintro W' O ov v' w' rfl rfl ho
    refine ⟨ov, v', rfl, ?_⟩
    unfold agHearM
    rw [← hRES]
    exact ho
  have HST : Hid (∃ (W : List (Int × Wt)) (O : List Int), True) := Lib.hid ⟨W0, [], trivial⟩
  clear HST
  have HI0 : Hid ((∀ k y, mget W0 k = some y → isWord k = true) ∧ Apart W0 ∧ [] ++ (agHear W0.length W0).2 = RES.2 ∧ (agHear W0.length W0).1 = RES.1 ∧ L + ([] : List Int).length + W0.length ≤ 1000) := Lib.hid ⟨hw, ha, by rw [hRES]; rfl, by rw [hRES], by simpa using hlen⟩
  have H0 := Lib.hid h0
  clear h h0 hw ha hlen
  have HL := Lib.hid hL; have HRES := Lib.hid hRES; have HFIN := Lib.hid hfin
  clear hL hRES hfin
  go_enter Tryd.func72, Tryd.ntmps72
  go_wp2_with fail
  go_loopg [3] (W0.length) (fun g ov wr => ∃ (W : List (Int × Wt)) (O : List Int), W.length ≤ g ∧ Hid ((∀ k y, mget W k = some y → isWord k = true) ∧ Apart W ∧ O ++ (agHear W.length W).2 = RES.2 ∧ (agHear W.length W).1 = RES.1 ∧ L + O.length + W.length ≤ 1000) ∧ Hid (Own w0 (IMp mb1 (mvals wtV W) * (IntSl ov O * (agBlk p mb1 mb2 n (.slice ad L cap) * (IMp mb2 (setM K) * (IntSl (.slice ad L cap) H * R))))) wr))
  case atStart => exact ⟨W0, [], Nat.le_refl _, HI0, H0⟩
  case round =>
    clear HI0 H0
    obtain ⟨W, O, hg, HI, HP⟩ := hrel
    obtain ⟨oad, ocap, hos⟩ := HP.out.second.int_shape
    subst hos
    have hnd : (W.map (·.1)).Nodup := by
      have := HP.out.map_nodup
      unfold mvals at this
      rw [List.map_map] at this
      exact this
    have HCC : Hid (∀ w', Own w0 (IntSl (.slice oad O.length ocap) O * (agBlk p mb1 mb2 n (.slice ad L cap) * (IMp mb2 (setM K) * (IntSl (.slice ad L cap) H * R)))) w' → w'.cell? ⟨p, 1, none⟩ = some (.map (some mb1))) := Lib.hid (fun w' h' => (h'.second.cell 1).trans rfl)
    have hbound := HI.out.2.2.2.2
    have HND := Lib.hid hnd
    clear hnd
    go_wp2_with fail
    refine (agFirst_any p mb1 W HI.out.1 HI.out.2.1 HCC HP.out).mono ?_
    rintro e w1 ⟨rfl, ho1⟩
    obtain ⟨f, hf⟩ : ∃ f, f = agFirst W := ⟨_, rfl⟩
    rw [← hf]
    have c1 := HCC.out _ ho1.drop
    have c3 : w1.cell? ⟨p, 3, none⟩ = some (.slice ad L cap) := (ho1.third.cell 3).trans rfl
    obtain ⟨hi1, hi2, hi3, hi4, hi5⟩ := HI.out
    by_cases hf0 : f = 0
    · have HGO : agGo W = false := agGo_none (by rw [← hf]; exact hf0)
      subst hf0
      have hst := agHear_stop HGO
      rw [hst] at hi3 hi4
      have HSTOP := Lib.hid (HFIN.out W O (.slice oad O.length ocap))
      have hb1 : O.length ≤ 1000 := by omega
      have hL1 : L ≤ 1000 := by omega
      rw [List.append_nil] at hi3
      have HOA : Hid (Own w0 (Sl 3 1 (.slice ad L cap) L (H.map (Value.int .i64)) * (agBlk p mb1 mb2 n (.slice ad L cap) * (IMp mb1 (mvals wtV W) * (IMp mb2 (setM K) * (IntSl (.slice oad O.length ocap) O * R))))) w1) := Lib.hid (ho1.perm (by unfold IntSl; rw [← HL.out]; ac_rfl))
      obtain ⟨M, hM⟩ : ∃ M, M = O.length := ⟨_, rfl⟩
      rw [← hM] at HOA HSTOP ⊢
      have hrd := Own.rd HOA.out.fifth
      unfold IntSl at hrd
      rw [← hM] at hrd
      rw [← hM] at hb1
      have hml : (O.map (Value.int .i64)).length = M * 1 := by rw [List.length_map, hM]; omega
      have c3' : w1.cell? ⟨p, 3, none⟩ = some (.slice ad L cap) := c3
      clear c3 ho1
      have HST := Lib.hid hst; have HI1 := Lib.hid hi1; have HI2 := Lib.hid hi2; have HI3 := Lib.hid hi3; have HI4 := Lib.hid hi4; have HF := Lib.hid hf; have HM := Lib.hid hM; have HRD := Lib.hid hrd; have HML := Lib.hid hml
      clear hst hi1 hi2 hi3 hi4 hf hM hrd hml
      go_wp2_with (at_builtin; refine wpList_app rfl _ _ 38 rfl 3 1 8 _ int_info Tryd.underlying38 rfl (by decide) rfl HOA.out rfl HML.out HRD.out (int_one _) (by unfold maxLen; omega) (by omega) ?_; intro v2 w2 ho2; obtain ⟨ad2, cp2, hv2, _⟩ := Own.rd ho2; subst hv2; clear c1 c3'; have c3 : w2.cell? ⟨p, 3, none⟩ = some (.slice ad L cap) := (ho2.second.cell 3).trans rfl; have f3 := ho2.second.free 3 none; have HE := Lib.hid (ag_hear_end HL.out HM.out ho2); clear ho2)
      go_ret
      obtain ⟨vv, hv', e1, e2⟩ := HSTOP.out _ _ HI4.out.symm.symm HI3.out HE.out
      exact ⟨vv, hv', by rw [← e1]; rfl, e2⟩
    obtain ⟨x, hx⟩ := agFirst_has HND.out (by rw [← hf]; exact hf0)
    have hgo := agGo_some (by rw [← hf]; exact hf0) hx
    rw [← hf] at hx
    have tf : (f == 0) = false := by rw [beq_eq_false_iff_ne]; exact hf0
    have hfI : I64 f := isWord_I64 (hi1 f x hx)
    have hlk := ho1.map_look (int_ke int_kind) mapwt_kind wt_zero hfI false
    rw [mget_mvals, hx, if_neg (by simp)] at hlk
    obtain ⟨⟨xa, xb⟩, xd⟩ := x
    unfold wtV at hlk
    simp only [Option.map_some, Option.getD_some] at hlk
    have hfl := fun w => wt_settled xa xb xd w
    cases xd
    · have HGO : agGo W = false := hgo
      have hst := agHear_stop HGO
      rw [hst] at hi3 hi4
      have HSTOP := Lib.hid (HFIN.out W O (.slice oad O.length ocap))
      have hb1 : O.length ≤ 1000 := by omega
      have hL1 : L ≤ 1000 := by omega
      rw [List.append_nil] at hi3
      have HOA : Hid (Own w0 (Sl 3 1 (.slice ad L cap) L (H.map (Value.int .i64)) * (agBlk p mb1 mb2 n (.slice ad L cap) * (IMp mb1 (mvals wtV W) * (IMp mb2 (setM K) * (IntSl (.slice oad O.length ocap) O * R))))) w1) := Lib.hid (ho1.perm (by unfold IntSl; rw [← HL.out]; ac_rfl))
      obtain ⟨M, hM⟩ : ∃ M, M = O.length := ⟨_, rfl⟩
      rw [← hM] at HOA HSTOP ⊢
      have hrd := Own.rd HOA.out.fifth
      unfold IntSl at hrd
      rw [← hM] at hrd
      rw [← hM] at hb1
      have hml : (O.map (Value.int .i64)).length = M * 1 := by rw [List.length_map, hM]; omega
      have c3' : w1.cell? ⟨p, 3, none⟩ = some (.slice ad L cap) := c3
      clear c3 ho1
      have HST := Lib.hid hst; have HI1 := Lib.hid hi1; have HI2 := Lib.hid hi2; have HI3 := Lib.hid hi3; have HI4 := Lib.hid hi4; have HF := Lib.hid hf; have HM := Lib.hid hM; have HRD := Lib.hid hrd; have HML := Lib.hid hml; have HF0 := Lib.hid hf0; have HX := Lib.hid hx; have HFI := Lib.hid hfI; have HGO := Lib.hid hgo
      clear hst hi1 hi2 hi3 hi4 hf hM hrd hml hf0 hx hfI hgo
      go_wp2_with (at_builtin; refine wpList_app rfl _ _ 38 rfl 3 1 8 _ int_info Tryd.underlying38 rfl (by decide) rfl HOA.out rfl HML.out HRD.out (int_one _) (by unfold maxLen; omega) (by omega) ?_; intro v2 w2 ho2; obtain ⟨ad2, cp2, hv2, _⟩ := Own.rd ho2; subst hv2; clear c1 c3'; have c3 : w2.cell? ⟨p, 3, none⟩ = some (.slice ad L cap) := (ho2.second.cell 3).trans rfl; have f3 := ho2.second.free 3 none; have HE := Lib.hid (ag_hear_end HL.out HM.out ho2); clear ho2)
      go_ret
      obtain ⟨vv, hv', e1, e2⟩ := HSTOP.out _ _ HI4.out.symm.symm HI3.out HE.out
      exact ⟨vv, hv', by rw [← e1]; rfl, e2⟩
    have HGO : agGo W = true := hgo
    have hg2 := agHear_go HGO (by rw [← hf]; exact hx)
    rw [hg2] at hi3 hi4
    have hlen2 := mdel_len hx
    rw [← hf] at hi3 hi4
    have hwd := words_del HND.out hi1 f
    have had := hi2.del HND.out f
    have HNEW : Hid ((∀ k y, mget (mdel W f) k = some y → isWord k = true) ∧ Apart (mdel W f) ∧ (O ++ [f]) ++ (agHear (mdel W f).length (mdel W f)).2 = RES.2 ∧ (agHear (mdel W f).length (mdel W f)).1 = RES.1 ∧ L + (O ++ [f]).length + (mdel W f).length ≤ 1000) := Lib.hid ⟨hwd, had, by rw [List.append_assoc]; exact hi3, hi4, by rw [List.length_append, List.length_singleton]; omega⟩
    have hOL : O.length ≤ 1000 := by omega
    obtain ⟨M, hM⟩ : ∃ M, M = O.length := ⟨_, rfl⟩
    have HO1 := Lib.hid ho1
    have c1' := c1
    rw [← hM] at hOL
    rw [← hM]
    clear c1' ho1
    have HI1 := Lib.hid hi1; have HI2 := Lib.hid hi2; have HI3 := Lib.hid hi3; have HI4 := Lib.hid hi4; have HI5 := Lib.hid hi5; have HG2 := Lib.hid hg2; have HLEN2 := Lib.hid hlen2; have HWD := Lib.hid hwd; have HAD := Lib.hid had; have HF := Lib.hid hf; have HF0 := Lib.hid hf0; have HX := Lib.hid hx; have HFI := Lib.hid hfI; have HM := Lib.hid hM; have HGO := Lib.hid hgo; have HG := Lib.hid hg
    clear hi1 hi2 hi3 hi4 hi5 hg2 hlen2 hwd had hf hf0 hx hfI hM hgo hg
    go_upto_region 7 with (at_delete; refine wpList_del (int_ke int_kind) mapwt_kind HO1.out HFI.out rfl _ _ rfl rfl rfl ?_; intro w2 ho2; rw [mdel_mvals] at ho2; have HO2 := Lib.hid ho2; clear ho2)
    have HOB : Hid (Own w0 (Sl 3 1 (.slice oad M ocap) M (O.map (Value.int .i64)) * (IMp mb1 (mvals wtV (mdel W f)) * (agBlk p mb1 mb2 n (.slice ad L cap) * (IMp mb2 (setM K) * (IntSl (.slice ad L cap) H * R))))) w2) := Lib.hid (HO2.out.second.perm (by unfold IntSl IMp; rw [← HM.out]))
    clear c1 c3 hlk hfl
    go_wp2_with (at_builtin; refine wpList_app rfl _ _ 38 rfl 3 1 8 _ int_info Tryd.underlying38 rfl (by decide) rfl (HOB.out.alloc' _) rfl (by rfl) (Rd_lit (by simp) (by unfold maxLen; omega)) (by intro u hu; simp at hu; subst hu; rfl) (by unfold maxLen; omega) (by omega) ?_; intro v3 w3 ho3; have HO3 : Hid (Own w0 (IMp mb1 (mvals wtV (mdel W f)) * (IntSl v3 (O ++ [f]) * (agBlk p mb1 mb2 n (.slice ad L cap) * (IMp mb2 (setM K) * (IntSl (.slice ad L cap) H * R))))) w3) := Lib.hid (ho3.second.perm (by unfold IntSl; rw [List.length_append, List.map_append, ← HM.out]; rfl)); clear ho3)
    go_roundg ((mdel W f).length)
    case measure => have := HLEN2.out; have := HG.out; omega
    case rel => exact ⟨mdel W f, O ++ [f], Nat.le_refl _, HNEW, HO3⟩
end Go.Proofs.YtpgonkecicmanaaDoor
