/- The reference's Picture: Write. -/
import Derived.Test.YtpgonkecicmanaaDoorMPicturePlays9
import Derived.Test.YtpgonkecicmanaaDoorMPicturePlays7
namespace Go.Proofs.YtpgonkecicmanaaDoor
set_option linter.unusedVariables false
set_option linter.unusedSimpArgs false
open Go.RowKit Go.Maps
theorem rpOf_out {T : Pic} {P : Nat → Nat → Int} {cs : Array Value} {gv : Value} {rows : List (Value × List Int)} {q k : Nat} (he : RpC cs gv rows (rpOf T P)) (hq : q < 5) (hk : k < 5) (v : Value) :
    RpC ((cs.setIfInBounds (1 + q * 5 + k) v).setIfInBounds (37 + k * 5 + q) (.bool true)) gv (rows.set (q * 5 + k) (v, pcRow T (q : Int) (k : Int) ++ [0])) (rpOf { T with ways := mput T.ways ((q : Int), (k : Int)) (pcRow T (q : Int) (k : Int) ++ [0]), opn := mput T.opn ((k : Int), (q : Int)) 0 } P) := by
  refine ((he.setWay hq hk v (pcRow T (q : Int) (k : Int) ++ [0])).setOpn hk hq true).congr _ (fun a b _ _ => ?_) rfl (fun m _ => rfl) (fun m _ => rfl) (fun a b _ _ => ?_) rfl (fun a b _ _ => rfl)
  · show (if a = q ∧ b = k then pcRow T (q : Int) (k : Int) ++ [0] else pcRow T (a : Int) (b : Int)) = (mget (mput T.ways ((q : Int), (k : Int)) (pcRow T (q : Int) (k : Int) ++ [0])) ((a : Int), (b : Int))).getD []
    rw [row_put]
    by_cases e : a = q ∧ b = k
    · rw [if_pos e, if_pos (by omega)]
    · rw [if_neg e, if_neg (by omega)]; rfl
  · show (if a = k ∧ b = q then true else (mget T.opn ((a : Int), (b : Int))).isSome) = (mget (mput T.opn ((k : Int), (q : Int)) 0) ((a : Int), (b : Int))).isSome
    rw [opn_put]
    by_cases e : a = k ∧ b = q
    · rw [if_pos e, if_pos (by omega)]; rfl
    · rw [if_neg e, if_neg (by omega)]
theorem rpOf_write0 {s : Pic} {P : Nat → Nat → Int} {cs : Array Value} {gv : Value} {rows : List (Value × List Int)} {q : Nat} (he : RpC cs gv rows (rpOf s P)) (hq : q < 5) :
    RpC ((cs.setIfInBounds (27 + q) (.bool true)).setIfInBounds (32 + q) (.int .i64 (pcG s (q : Int)))) gv rows (rpOf (pcWrite0 s (q : Int)) P) := by
  refine ((he.setHas hq).setWrote hq (pcG s (q : Int))).congr _ (fun a b _ _ => rfl) rfl (fun m _ => ?_) (fun m _ => ?_) (fun a b _ _ => rfl) rfl (fun a b _ _ => rfl)
  · show (if m = q then true else (mget s.wrote (m : Int)).isSome) = (mget (mput s.wrote (q : Int) (pcG s (q : Int))) (m : Int)).isSome
    rw [mget_mput]
    by_cases e : m = q
    · subst e; rw [if_pos rfl, if_pos rfl]; rfl
    · rw [if_neg e, if_neg (by omega)]
  · show (if m = q then pcG s (q : Int) else (mget s.wrote (m : Int)).getD 0) = (mget (mput s.wrote (q : Int) (pcG s (q : Int))) (m : Int)).getD 0
    rw [mget_mput]
    by_cases e : m = q
    · subst e; rw [if_pos rfl, if_pos rfl]; rfl
    · rw [if_neg e, if_neg (by omega)]
theorem PaI.write {P : Nat → Nat → Int} {s : Pic} {q : Nat} (hp : PaI P s) (hq : q < 5) (hno : mget s.wrote (q : Int) = none) : PaI P (pcWrite s (q : Int)) := by
  have h := write_out s (q : Int)
  intro a b ha hb
  obtain ⟨h1, h2⟩ := hp a b ha hb
  refine ⟨fun x hx => ?_, fun hn => ?_⟩
  · rw [h.opn] at hx
    by_cases e : (b : Int) = (q : Int) ∧ ((a : Int) ≠ (q : Int) ∧ (0 : Int) ≤ (a : Int) ∧ (a : Int) < (s.gold.length : Int))
    · rw [if_pos e] at hx
      have hbq : b = q := by omega
      subst hbq
      rw [h2 hno]; exact Option.some.inj hx
    · rw [if_neg e] at hx; exact h1 x hx
  · rw [h.wrote] at hn
    have hn2 : mget (mput s.wrote (q : Int) (pcG s (q : Int))) (b : Int) = none := hn
    rw [mget_mput] at hn2
    by_cases e : (q : Int) = (b : Int)
    · rw [if_pos e] at hn2; cases hn2
    · rw [if_neg e] at hn2; exact h2 hn2
/-- The members' gold: where it lies, in whatever world it is owned. -/
theorem Own.gold_shape {w0 w : World} {gv : Value} {s : Pic} {R : HProp} (h : Own w0 (IntSl gv s.gold * R) w) (hp : 0 < s.gold.length) : ∃ b off cap, gv = .slice (some ⟨b, off, none⟩) s.gold.length cap ∧ s.gold.length ≤ cap ∧ cap ≤ maxLen ∧
    ∀ w' R' (l : List Int), l.length = s.gold.length → Own w0 (IntSl gv l * R') w' → (∀ q : Nat, q < s.gold.length → w'.cell? ⟨b, off + q, none⟩ = some (.int .i64 (gAt l (q : Int)))) ∧ (∀ i t, w'.frozen? ⟨b, i, t⟩ = false) ∧ ∀ (q : Nat) (x : Int), q < s.gold.length → Own w0 (IntSl gv (l.set q x) * R') (w'.setCell ⟨b, off + q, none⟩ (.int .i64 x)) := by
  obtain ⟨b, off, cap, h1, h2, h3, _⟩ := h.ints_at hp
  refine ⟨b, off, cap, h1, h2, h3, fun w' R' l hl h' => ?_⟩
  obtain ⟨b', off', cap', k1, _, _, k4, k5, _, _, k8⟩ := h'.ints_at (by omega)
  rw [h1] at k1
  injection k1 with e1 _ _
  injection e1 with e1
  injection e1 with e1 e2 _
  subst e1; subst e2
  refine ⟨fun q hq => ?_, k5, fun q x hq => k8 q x (by omega)⟩
  rw [k4 q (by omega)]
  unfold gAt
  rw [if_pos (by omega), Int.toNat_natCast, List.getD_eq_getElem?_getD, List.getElem?_eq_getElem (by omega)]; rfl
set_option maxRecDepth 100000 in
set_option maxHeartbeats 4000000 in
theorem rpWrite_any {w0 w : World} {R : HProp} (p : Nat) (s : Pic) (who : Int) (hw : pcHas s who = true) (h5 : s.gold.length ≤ 5) (hno : mget s.wrote who = none) (hrw : ∀ a b, (pcRow s a b).length ≤ 1000 ∧ ∀ y ∈ pcRow s a b, I64 y) (hgI : ∀ x ∈ s.gold, I64 x) (h : Own w0 (RpP p s * R) w) :
    Calls Tryd.prog 24 #[.pointer (some ⟨p, 0, none⟩), .int .i64 who] w fun e w' => e = .returned (.tuple #[]) ∧ Own w0 (RpP p (pcWrite s who) * R) w' := by
  obtain ⟨cs, gv, rows, P, ⟨he, hp⟩, ho⟩ := h.rp_open
  have hb := pcHas_bd hw
  obtain ⟨n, hn⟩ : ∃ n, n = s.gold.length := ⟨_, rfl⟩
  rw [← hn] at hb h5
  obtain ⟨q, rfl⟩ : ∃ k : Nat, who = k := ⟨who.toNat, by omega⟩
  have hq : q < n := by omega
  have hq5 : q < 5 := by omega
  have q0 : (0 : Int) ≤ (q : Int) := by omega
  have q5 : (q : Int) < 5 := by omega
  have qn : (q : Int) < (n : Int) := by omega
  obtain ⟨gb, go, gc, hgv, hg1, hg2, hgs⟩ := ho.second.gold_shape (s := s) (by omega)
  rw [← hn] at hgs
  have hgq : w.cell? ⟨gb, go + q, none⟩ = some (.int .i64 (pcG s (q : Int))) := (hgs _ _ s.gold hn.symm ho.second).1 q hq
  obtain ⟨x, hx⟩ : ∃ x, x = pcG s (q : Int) := ⟨_, rfl⟩
  have he0 := rpOf_write0 he hq5
  rw [← hx] at hgq he0
  rw [← hn] at hgv hg1
  subst hgv
  obtain ⟨c0, _, _, c3, _, cf⟩ := ho.rp_cells he
  obtain ⟨c3, c4⟩ := c3 q hq5
  have f3 := cf (27 + q) none
  have ho1 := Own.setCell (i := 27 + q) (v := .bool true) ho
  obtain ⟨w1, hw1⟩ : ∃ y, y = w.setCell ⟨p, 27 + q, none⟩ (.bool true) := ⟨_, rfl⟩
  rw [← hw1] at ho1
  have he1 := he.setHas hq5
  obtain ⟨d0, _, _, d3, _, df⟩ := Own.rp_cells he1 ho1
  have d4 := (d3 q hq5).2
  have g4 := df (32 + q) none
  have hgq1 : w1.cell? ⟨gb, go + q, none⟩ = some (.int .i64 x) := by
    rw [hx]; exact (hgs _ _ s.gold hn.symm ho1.second).1 q hq
  have ho2 := (Own.setCell (i := 32 + q) (v := .int .i64 x) ho1).drew
  have HO2 : Hid (Own w0 (rpBlk p ((cs.setIfInBounds (27 + q) (.bool true)).setIfInBounds (32 + q) (.int .i64 x)) * (IntSl (.slice (some ⟨gb, go, none⟩) n gc) s.gold * (starL rowP rows * R))) (w1.setCell ⟨p, 32 + q, none⟩ (.int .i64 x)).drew) := Lib.hid ho2
  clear cf df d3 ho ho1 ho2 he1 c4
  have H := Lib.hid h; have HE := Lib.hid he; have HP := Lib.hid hp; have HW := Lib.hid hw; have HNO := Lib.hid hno; have HRW := Lib.hid hrw; have HGI := Lib.hid hgI; have HN := Lib.hid hn; have HX := Lib.hid hx; have HE0 := Lib.hid he0; have HGS := Lib.hid hgs
  clear h he hp hw hno hrw hgI hn hx he0 hgs
  go_enter Tryd.func24, Tryd.ntmps24
  go_upto_region 1 with fail
  rw [← hw1]
  clear hw1 c0 c3 f3 hgq
  refine wp_region_tail 12 (by kernel_rfl) (by kernel_rfl) ?_
  simp only [List.take_succ_cons, List.take_zero, List.drop_succ_cons, List.drop_zero]
  repeat still_step
  refine wpStill_nil ?_
  go_upto_region 2 with fail
  generalize hW2 : (World.drew (World.setCell _ _ _)) = w2 at HO2 ⊢
  clear hW2 d0 g4 hgq1
  obtain ⟨gv, hgv⟩ : ∃ v, v = Value.slice (some ⟨gb, go, none⟩) n gc := ⟨_, rfl⟩
  rw [← hgv] at HO2 HE0
  have HS0 : Hid (RpC ((cs.setIfInBounds (27 + q) (.bool true)).setIfInBounds (32 + q) (.int .i64 x)) gv rows (rpOf (pcOuts s q 0) P)) := Lib.hid HE0.out
  have HGV := Lib.hid hgv
  have n0 : 0 < n := by omega
  clear hgv HE0
  go_wp2_with fail
  go_loopw [4] (fun iv wr => ∃ (k : Nat) (cs : Array Value) (rows : List (Value × List Int)), k ≤ n ∧ iv = .int .i64 k ∧ Hid (RpC cs gv rows (rpOf (pcOuts s q k) P)) ∧ Hid (Own w0 (rpBlk p cs * (IntSl gv s.gold * (starL rowP rows * R))) wr)) (fun iv _ => n - (intOf iv).toNat)
  case atStart => exact ⟨0, _, rows, Nat.zero_le _, rfl, HS0, HO2⟩
  case round =>
    clear HS0 HO2
    obtain ⟨k, cs, rows, hk, rfl, HC, HO⟩ := hrel
    obtain ⟨c0, _⟩ := HO.out.rp_cells HC.out
    rw [HGV.out] at c0
    by_cases hlt : k < n
    rotate_left
    · have hkn : k = n := by omega
      subst hkn
      have t1 : decide ((k : Int) < (k : Int)) = false := decide_eq_false (by omega)
      have HF : Hid (Own w0 (RpP p (pcWrite s (q : Int)) * R) wr) := Lib.hid (by
        have h1 := HC.out
        have h2 : pcOuts s (q : Int) k = pcWrite s (q : Int) := by unfold pcWrite; rw [← HN.out]; rfl
        rw [h2] at h1
        have h3 : (pcWrite s (q : Int)).gold = s.gold := (write_out s (q : Int)).gold
        refine Own.rp_close h1 (HP.out.write hq5 HNO.out) ?_
        rw [h3]
        exact HO.out)
      go_wp2
      refine bodyPost_end (results_none rfl _ _ _) rfl ⟨rfl, ?_⟩
      exact HF.out
    have t1 : decide ((k : Int) < (n : Int)) = true := decide_eq_true (by omega)
    have k0 : (0 : Int) ≤ (k : Int) := by omega
    have k5 : (k : Int) < 5 := by omega
    have kn : (k : Int) < (n : Int) := by omega
    by_cases hkq : k = q
    · have t2 : ((k : Int) != (q : Int)) = false := by rw [bne_eq_false_iff_eq]; omega
      have hnx : pcOuts s q (k + 1) = pcOuts s q k := by rw [pcOuts_next]; unfold pcOut; rw [if_pos (by omega)]
      have HNX := Lib.hid hnx; have HKQ := Lib.hid hkq
      clear hnx hkq
      go_wp2
      go_round
      case rel => exact ⟨k + 1, cs, rows, by omega, by go_num, by rw [HNX.out]; exact HC, HO⟩
      case measure => simp [intOf]; omega
    have t2 : ((k : Int) != (q : Int)) = true := by rw [bne_iff_ne]; omega
    obtain ⟨T, hT⟩ : ∃ T, T = pcOuts s q k := ⟨_, rfl⟩
    have hnx : pcOuts s q (k + 1) = { T with ways := mput T.ways ((q : Int), (k : Int)) (pcRow T q k ++ [0]), opn := mput T.opn ((k : Int), (q : Int)) 0 } := by rw [pcOuts_next, ← hT]; unfold pcOut; rw [if_neg (by omega)]
    have hrl : pcRow T q k = pcRow s q k := by
      have h1 := (out_k (pcWrite0 s q) q k).row q k
      rw [if_neg (by omega)] at h1
      rw [hT]
      exact h1
    rw [← hT] at HC
    have HC2 : Hid (∀ v, RpC ((cs.setIfInBounds (1 + q * 5 + k) v).setIfInBounds (37 + k * 5 + q) (.bool true)) gv (rows.set (q * 5 + k) (v, pcRow T (q : Int) (k : Int) ++ [0])) (rpOf (pcOuts s q (k + 1)) P)) := Lib.hid (fun v => by
      rw [hnx]; exact rpOf_out HC.out hq5 (by omega) v)
    obtain ⟨hl, ad, cap, h1, h2, h3⟩ := Own.rp_take HC.out hq5 (show k < 5 by omega) (HO.out.perm (show _ = rpBlk p cs * (starL rowP rows * (IntSl gv s.gold * R)) by ac_rfl))
    obtain ⟨X, hX⟩ : ∃ X, X = pcRow T (q : Int) (k : Int) := ⟨_, rfl⟩
    have hXl : X.length ≤ 1000 := by rw [hX, hrl]; exact (HRW.out _ _).1
    have hX' : (rpOf T P).row q k = X := by rw [hX]; rfl
    rw [hX'] at h1 h2 h3
    rw [← hX] at HC2
    obtain ⟨L, hL⟩ : ∃ L, L = X.length := ⟨_, rfl⟩
    rw [← hL] at hXl h1
    have H2 : Hid (Own w0 (Sl 3 1 (.slice ad L cap) L (X.map (Value.int .i64)) * (rpBlk p cs * (starL rowP (rows.eraseIdx (q * 5 + k)) * (IntSl gv s.gold * R)))) wr) := Lib.hid (by
      unfold IntSl at h3
      rw [← hL] at h3
      exact h3)
    have e5 : wr.cell? ⟨p, 1 + q * 5 + k, none⟩ = some (.slice ad L cap) := (Own.cell H2.out.second _).trans h1
    have HCE : Hid (cs[1 + q * 5 + k]? = some (.slice ad L cap)) := Lib.hid h1
    have HLN := Lib.hid hl
    clear c0 h1 h2 h3 HO
    have c0 : wr.cell? ⟨p, 0, none⟩ = some (.slice (some ⟨gb, go, none⟩) n gc) := by
      rw [← HGV.out]; exact (Own.rp_cells HC.out H2.out.second).1
    have HNX := Lib.hid hnx; have HT := Lib.hid hT; have HX := Lib.hid hX; have HX' := Lib.hid hX'; have HL := Lib.hid hL; have HRL := Lib.hid hrl; have HKQ := Lib.hid hkq
    clear hnx hT hX hX' hL hrl hkq
    go_upto_region 6 with fail
    refine wp_region_planH 17 [] [(true, 0), (true, 1), (true, 2), (true, 3), (true, 4), (true, 5), (true, 6), (true, 7), (true, 8), (true, 9), (true, 10), (true, 13), (true, 14), (true, 15), (false, 11), (false, 12), (true, 16)] [17] (fun wS => wS.cell? ⟨p, 1 + q * 5 + k, none⟩ = some (.slice ad L cap)) (by kernel_rfl) (by kernel_rfl) (e5) ?_
    simp only [pickH, pick, List.getElem?_cons_succ, List.getElem?_cons_zero, Option.toList, Option.map_some, List.cons_append, List.nil_append]
    repeat (refine wpPure_step ?_ rfl ?_ ?_; rotate_left; (focus (intro _; first | with_reducible rfl | (go_simp; done) | (go_simp; with_reducible rfl) | rfl)); go_simp)
    refine wpPure_nil ?_
    repeat (refine wpMix_read ?_ rfl ?_ ?_; rotate_left; (focus (intro _ hS; obtain s1 := hS; first | with_reducible rfl | (go_simp; done) | (go_simp; with_reducible rfl) | rfl)); go_simp)
    refine wpMix_write (fun K hK => ?_)
    go_simp
    obtain ⟨b3, hb_b3⟩ : ∃ zz_, zz_ = (wr).heap.size := ⟨_, rfl⟩
    obtain ⟨w8, hw_w8⟩ : ∃ zz_, zz_ = (wr).alloc (.cells #[.int .i64 0] 3 (0, 0)) := ⟨_, rfl⟩
    have h_HB3 := (H2.out).alloc (.cells #[.int .i64 0] 3 (0, 0))
    rw [← hb_b3, ← hw_w8] at h_HB3
    have HB3 := Lib.hid h_HB3
    clear h_HB3
    rw [← hb_b3, ← hw_w8]
    clear hb_b3 hw_w8
    have HB5 : Hid (Own w0 (Sl 3 1 (.slice ad L cap) L (X.map (Value.int .i64)) * (rpBlk p cs * ((blk b3 (.cells #[.int .i64 0] 3 (0, 0))) * (starL rowP (rows.eraseIdx (q * 5 + k)) * (IntSl gv s.gold * R))))) w8.drew) := Lib.hid (HB3.out.drew.perm (by ac_rfl))
    clear HB3 H2 e5 c0
    have e5 : w8.drew.cell? ⟨p, 1 + q * 5 + k, none⟩ = some (.slice ad L cap) := (Own.cell HB5.out.second _).trans HCE.out
    refine hK _ _ ⟨e5, ?_⟩
    clear hK K
    go_simp
    refine wpMix_write (fun K hK => ?_)
    have hsrc : Rd w8.drew (.slice (some ⟨b3, 0, none⟩) 1 1) 1 [.int .i64 0] := Rd_one (fun i u hi => by
      rw [Own.cell HB5.out.third]
      match i, hi with
      | 0, hi => exact hi) (Nat.le_refl _) (by unfold maxLen; omega)
    refine step_app rfl _ _ 38 rfl 3 1 8 _ int_info Tryd.underlying38 rfl (by decide) (by rfl) HB5.out (by rfl) (by rfl) hsrc (by intro u hu; simp at hu; subst hu; rfl) (by unfold maxLen; omega) (by omega) ?_
    intro v9 w9 ho9
    have e6 : w9.cell? ⟨p, 1 + q * 5 + k, none⟩ = some (.slice ad L cap) := (Own.cell ho9.second _).trans HCE.out
    have ef : w9.frozen? ⟨p, 1 + q * 5 + k, none⟩ = false := Own.free ho9.second _ none
    obtain ⟨ad9, n9, cp9, hv9⟩ : ∃ a b c, v9 = .slice a b c := by
      obtain ⟨a, c, e, _⟩ := Own.rd ho9
      exact ⟨a, _, c, e⟩
    have hset : Own w0 (rpBlk p (cs.setIfInBounds (1 + q * 5 + k) v9) * _) (w9.setCell ⟨p, 1 + q * 5 + k, none⟩ v9) := Own.setCell (i := 1 + q * 5 + k) (v := v9) ho9.second
    have e1 : Sl 3 1 v9 (L + 1) (X.map (Value.int .i64) ++ [.int .i64 0]) = IntSl v9 (X ++ [0]) := by
      unfold IntSl
      rw [List.length_append, List.map_append, ← HL.out]
      rfl
    rw [e1] at hset
    have HFIN : Hid (Own w0 (rpBlk p (cs.setIfInBounds (1 + q * 5 + k) v9) * (starL rowP (rows.set (q * 5 + k) (v9, X ++ [0])) * (IntSl gv s.gold * R))) (w9.setCell ⟨p, 1 + q * 5 + k, none⟩ v9)) := Lib.hid (rp_put HLN.out (hset.perm (show _ = (blk b3 (.cells #[.int .i64 0] 3 (0, 0))) * (IntSl v9 (X ++ [0]) * (rpBlk p (cs.setIfInBounds (1 + q * 5 + k) v9) * (starL rowP (rows.eraseIdx (q * 5 + k)) * (IntSl gv s.gold * R)))) by ac_rfl)).drop)
    subst hv9
    clear hsrc ho9 hset HB5 e5 e1
    refine hK _ _ ⟨e6, ?_⟩
    clear hK K
    go_simp
    repeat (refine wpMix_read ?_ rfl ?_ ?_; rotate_left; (focus (intro _ hS; obtain s1 := hS; first | with_reducible rfl | (go_simp; done) | (go_simp; with_reducible rfl) | rfl)); go_simp)
    refine wpMix_nil ?_
    go_wp2_with fail
    refine NoPanic.normal ?_
    clear e6 ef
    obtain ⟨w10, hw10⟩ : ∃ x, x = w9.setCell ⟨p, 1 + q * 5 + k, none⟩ (.slice ad9 n9 cp9) := ⟨_, rfl⟩
    rw [← hw10] at HFIN ⊢
    clear hw10
    have hcw := HC.out.setWay hq5 (show k < 5 by omega) (.slice ad9 n9 cp9) (X ++ [0])
    have e7 := ((HFIN.out.rp_cells hcw).2.2.2.2.1 k q (by omega) hq5).1
    have f7 := (HFIN.out.rp_cells hcw).2.2.2.2.2 (37 + k * 5 + q) none
    have HEND : Hid (Own w0 (rpBlk p ((cs.setIfInBounds (1 + q * 5 + k) (.slice ad9 n9 cp9)).setIfInBounds (37 + k * 5 + q) (.bool true)) * (IntSl gv s.gold * (starL rowP (rows.set (q * 5 + k) (.slice ad9 n9 cp9, X ++ [0])) * R))) (w10.setCell ⟨p, 37 + k * 5 + q, none⟩ (.bool true))) := Lib.hid ((show Own w0 (rpBlk p _ * _) _ from Own.setCell (i := 37 + k * 5 + q) (v := .bool true) HFIN.out).perm (by ac_rfl))
    clear hcw
    go_wp2_with fail
    go_round
    case rel => exact ⟨k + 1, _, _, by omega, by go_num, Lib.hid (HC2.out _), HEND⟩
    case measure => simp [intOf]; omega
end Go.Proofs.YtpgonkecicmanaaDoor
/- Contracts of package picture: mark. -/
namespace Go.Proofs.YtpgonkecicmanaaDoor
set_option linter.unusedVariables false
set_option linter.unusedSimpArgs false
open Go.RowKit Go.Maps
theorem markW_opn {s : Pic} (hok : PicOk s) (b x y : Int) : (0 ≤ (mget (pcMarkW s b).opn (x, y)).getD 0 ∧ (mget (pcMarkW s b).opn (x, y)).getD 0 ≤ 1000000) ∧ (pcMarkW s b).onWay = s.onWay := by
  unfold pcMarkW
  split
  · exact ⟨hok.opn x y, rfl⟩
  · have h := write_out s b
    refine ⟨?_, h.on⟩
    rw [h.opn]
    split
    · exact ⟨by simp, by simp⟩
    · exact hok.opn x y
theorem Own.pic_on_put {w0 w : World} {p mb1 mb2 mb3 gb go gc n : Nat} {m : List WRow} {s : Pic} {R : HProp} {v : Int} (h : Own w0 (PicO p mb1 mb2 mb3 gb go gc n m s * R) w) : Own w0 (PicO p mb1 mb2 mb3 gb go gc n m { s with onWay := v } * R) (w.setCell ⟨p, 5, none⟩ (.int .i64 v)) :=
  (h.pic_blk.setCell (i := 5) (v := .int .i64 v)).perm (by unfold PicO; show (picB p mb1 mb2 mb3 gb go gc n s.begun v * _ : HProp) = _; ac_rfl)
set_option maxRecDepth 100000 in
set_option maxHeartbeats 4000000 in
theorem pMark_any {w0 w : World} {R : HProp} {p mb1 mb2 mb3 gb go gc n : Nat} (s : Pic) (a b : Int) (ha : pcHas s a = true) (hb : pcHas s b = true) (hok : PicOk s) (h : Own w0 (PicA p mb1 mb2 mb3 gb go gc n s * R) w) :
    Calls Tryd.prog 78 #[.pointer (some ⟨p, 0, none⟩), .agg #[.int .i64 a, .int .i64 b]] w fun e w' => e = .returned (.tuple #[]) ∧ Own w0 (PicA p mb1 mb2 mb3 gb go gc n (pcMark s a b) * R) w' := by
  have haI := pcHas_small hok.n5 ha
  have hbI := pcHas_small hok.n5 hb
  have hx : plOk (a, b) := ⟨haI, hbI⟩
  obtain ⟨b1, hb_b1⟩ : ∃ zz_, zz_ = (w).heap.size := ⟨_, rfl⟩
  obtain ⟨w1, hw_w1⟩ : ∃ zz_, zz_ = (w).alloc (.cells #[.int .i64 a, .int .i64 b] 154 (0, 0)) := ⟨_, rfl⟩
  have h_HO1 := (h).alloc (.cells #[.int .i64 a, .int .i64 b] 154 (0, 0))
  rw [← hb_b1, ← hw_w1] at h_HO1
  have HO1 := Lib.hid h_HO1
  clear h_HO1
  obtain ⟨Y, hY⟩ : ∃ Y, Y = blk b1 (.cells #[.int .i64 a, .int .i64 b] 154 (0, 0)) * R := ⟨_, rfl⟩
  have HYC : Hid (∀ w', Own w0 Y w' → w'.cell? ⟨b1, 0, none⟩ = some (.int .i64 a) ∧ w'.cell? ⟨b1, 1, none⟩ = some (.int .i64 b)) := Lib.hid (fun w' h => by rw [hY] at h; exact ⟨(h.cell 0).trans rfl, (h.cell 1).trans rfl⟩)
  have HP : Hid (Own w0 (PicA p mb1 mb2 mb3 gb go gc n s * Y) w1) := Lib.hid (by rw [hY]; exact HO1.out.second)
  clear HO1 h
  obtain ⟨m, hm, ho⟩ := HP.out.pic_open
  obtain ⟨c0, _, _, c3, _⟩ := ho.drew.pic_facts
  obtain ⟨x0, x1⟩ := HYC.out _ ho.drop.drew
  have hlk := ho.drew.pic_lw b hbI
  obtain ⟨D, hD⟩ : ∃ D, D = (mget s.wrote b).isSome := ⟨_, rfl⟩
  obtain ⟨g, hg⟩ : ∃ D, D = (mget s.wrote b).getD 0 := ⟨_, rfl⟩
  rw [← hD, ← hg] at hlk
  obtain ⟨t, ht⟩ : ∃ t, t = pcMarkW s b := ⟨_, rfl⟩
  have ht1 : D = true → t = s := fun h => by rw [ht]; unfold pcMarkW; rw [if_pos (by rw [← hD]; exact h)]
  have ht2 : D = false → t = pcWrite s b := fun h => by rw [ht]; unfold pcMarkW; rw [if_neg (by rw [← hD, h]; simp)]
  obtain ⟨⟨hz1, hz2⟩, hon⟩ := markW_opn hok b a b
  have hon2 := hok.on
  rw [← ht] at hz1 hz2 hon
  have HO := Lib.hid ho; have HM := Lib.hid hm; have HAI := Lib.hid haI; have HBI := Lib.hid hbI; have HX := Lib.hid hx; have HY := Lib.hid hY; have HD := Lib.hid hD; have HG := Lib.hid hg; have HT := Lib.hid ht; have HT1 := Lib.hid ht1; have HT2 := Lib.hid ht2; have HA := Lib.hid ha; have HB := Lib.hid hb; have HOK := Lib.hid hok; have HON := Lib.hid hon; have HON2 := Lib.hid hon2
  clear ho hm haI hbI hx hY hD hg ht ht1 ht2 ha hb hok hon hon2
  go_enter Tryd.func78, Tryd.ntmps78
  go_upto_region 1 with fail
  rw [← hb_b1, ← hw_w1]
  clear hb_b1 hw_w1
  refine wp_region_planH 11 [] [(true, 0), (true, 1), (true, 2), (true, 3), (true, 4), (true, 5), (true, 6), (true, 7), (true, 8), (true, 9), (false, 10)] [11] (fun wS => wS = w1.drew) (by kernel_rfl) (by kernel_rfl) (rfl) ?_
  simp only [pickH, pick, List.getElem?_cons_succ, List.getElem?_cons_zero, Option.toList, Option.map_some, List.cons_append, List.nil_append]
  repeat (refine wpPure_step ?_ rfl ?_ ?_; rotate_left; (focus (intro _; first | with_reducible rfl | (go_simp; done) | (go_simp; with_reducible rfl) | rfl)); go_simp)
  refine wpPure_nil ?_
  repeat (refine wpMix_read ?_ rfl ?_ ?_; rotate_left; (focus (intro _ hS; obtain rfl := hS; first | with_reducible rfl | (go_simp; done) | (go_simp; with_reducible rfl) | rfl)); go_simp)
  refine wpMix_write (fun K hK => ?_)
  go_simp
  refine hK _ _ ⟨rfl, ?_⟩
  clear hK K
  go_simp
  repeat (refine wpMix_read ?_ rfl ?_ ?_; rotate_left; (focus (intro _ hS; obtain rfl := hS; first | with_reducible rfl | (go_simp; done) | (go_simp; with_reducible rfl) | rfl)); go_simp)
  refine wpMix_nil ?_
  go_wp2_with fail
  refine NoPanic.normal ?_
  clear c0 c3 x0 x1 hlk
  obtain ⟨x0, x1⟩ := HYC.out _ HO.out.drop.drew
  go_upto_if 17 with fail
  go_cut [] (fun wx => Own w0 (PicA p mb1 mb2 mb3 gb go gc n t * Y) wx)
  case first =>
    cases D
    · go_wp2_with fail
      refine (pWrite_any s b HB.out HOK.out HP.out.drew).mono ?_
      rintro e w2 ⟨rfl, ho2⟩
      rw [← HT2.out (by simp)] at ho2
      have HO2 := Lib.hid ho2
      clear ho2
      go_wp2_with fail
      go_meet
      exact HO2.out
    · go_wp2_with fail
      go_meet
      rw [HT1.out (by simp)]
      exact HP.out.drew
  case rest =>
  clear x0 x1
  have HQ := Lib.hid hcut
  clear hcut HO HM HP
  obtain ⟨m, hm, ho⟩ := HQ.out.pic_open
  obtain ⟨_, _, _, _, c4, c5, cf⟩ := ho.drew.pic_facts
  obtain ⟨x0, x1⟩ := HYC.out _ ho.drop.drew
  have hlk := ho.drew.pic_lo (a, b) HX.out
  simp only at hlk
  have f5 := cf 5 none
  obtain ⟨z, hz⟩ : ∃ z, z = (mget t.opn (a, b)).getD 0 := ⟨_, rfl⟩
  obtain ⟨o, hoo⟩ : ∃ z, z = t.onWay := ⟨_, rfl⟩
  rw [← hz] at hlk hz1 hz2
  rw [← hoo] at c5
  have ho1 : 0 ≤ o ∧ o ≤ 1000000 := by rw [hoo, HON.out]; exact HON2.out
  have hwr : IntKind.i64.wrap (o + z) = o + z := by rw [IntKind.wrap_i64]; omega
  have HS : Hid (Own w0 (PicO p mb1 mb2 mb3 gb go gc n m { t with onWay := o + z } * Y) ((wc.setCell ⟨p, 5, none⟩ (.int .i64 (o + z))).drew)) := Lib.hid ho.pic_on_put.drew
  clear cf
  have HO := Lib.hid ho; have HM := Lib.hid hm; have HZ := Lib.hid hz; have HOO := Lib.hid hoo
  clear ho hm hz hoo
  go_upto_region 4 with fail
  refine wp_region_planH 13 [] [(true, 0), (true, 1), (true, 2), (true, 3), (true, 4), (true, 5), (true, 6), (true, 7), (true, 8), (true, 9), (true, 10), (true, 11), (true, 12)] [13] (fun wS => wS = wc.drew) (by kernel_rfl) (by kernel_rfl) (rfl) ?_
  simp only [pickH, pick, List.getElem?_cons_succ, List.getElem?_cons_zero, Option.toList, Option.map_some, List.cons_append, List.nil_append]
  repeat (refine wpPure_step ?_ rfl ?_ ?_; rotate_left; (focus (intro _; first | with_reducible rfl | (go_simp; done) | (go_simp; with_reducible rfl) | rfl)); go_simp)
  refine wpPure_nil ?_
  repeat (refine wpMix_read ?_ rfl ?_ ?_; rotate_left; (focus (intro _ hS; obtain rfl := hS; first | with_reducible rfl | (go_simp; done) | (go_simp; with_reducible rfl) | rfl)); go_simp)
  refine wpMix_nil ?_
  go_wp2_with fail
  refine NoPanic.normal ?_
  obtain ⟨t2, ht2⟩ : ∃ t2 : Pic, t2 = { t with onWay := o + z } := ⟨_, rfl⟩
  obtain ⟨w4, hw4⟩ : ∃ w4, w4 = (wc.setCell ⟨p, 5, none⟩ (.int .i64 (o + z))).drew := ⟨_, rfl⟩
  rw [← ht2, ← hw4] at HS
  rw [← hw4]
  clear c4 c5 x0 x1 hlk f5 hwr
  obtain ⟨_, _, _, _, c4, _⟩ := HS.out.drew.pic_facts
  obtain ⟨x0, x1⟩ := HYC.out _ HS.out.drop.drew
  have hmv : mvals Prod.snd m = t2.ways := by rw [ht2]; exact HM.out
  have hfin : pcMark s a b = { t2 with opn := mdel t2.opn (a, b) } := by
    unfold pcMark
    rw [← HT.out, ht2]
    unfold pcMarkO
    rw [← HZ.out, ← HOO.out]
  have HT2 := Lib.hid ht2; have HW4 := Lib.hid hw4; have HMV := Lib.hid hmv; have HFIN := Lib.hid hfin
  clear ht2 hw4 hmv hfin
  go_upto_region 5 with fail
  refine wp_region_planH 5 [] [(true, 0), (true, 1), (true, 2), (true, 3), (true, 4)] [5] (fun wS => wS = w4.drew) (by kernel_rfl) (by kernel_rfl) (rfl) ?_
  simp only [pickH, pick, List.getElem?_cons_succ, List.getElem?_cons_zero, Option.toList, Option.map_some, List.cons_append, List.nil_append]
  repeat (refine wpPure_step ?_ rfl ?_ ?_; rotate_left; (focus (intro _; first | with_reducible rfl | (go_simp; done) | (go_simp; with_reducible rfl) | rfl)); go_simp)
  refine wpPure_nil ?_
  repeat (refine wpMix_read ?_ rfl ?_ ?_; rotate_left; (focus (intro _ hS; obtain rfl := hS; first | with_reducible rfl | (go_simp; done) | (go_simp; with_reducible rfl) | rfl)); go_simp)
  refine wpMix_nil ?_
  go_wp2_with (at_delete; refine wpList_del pway_ke mapo_kind HS.out.drew.pic_opn (x := (a, b)) HX.out rfl _ _ rfl rfl rfl ?_; intro w5 ho5; rw [mdel_mvals] at ho5; have HO5 := Lib.hid ho5; clear ho5)
  refine NoPanic.normal ?_
  go_wp2
  refine bodyPost_end (results_none rfl _ _ _) rfl ⟨rfl, ?_⟩
  rw [HFIN.out]
  have h9 : Own w0 (PicA p mb1 mb2 mb3 gb go gc n { t2 with opn := mdel t2.opn (a, b) } * Y) w5 := (Own.pic_opn_put (s := t2) (o := mdel t2.opn (a, b)) HO5.out).pic_close HMV.out
  rw [HY.out] at h9
  exact h9.second.drop
end Go.Proofs.YtpgonkecicmanaaDoor
