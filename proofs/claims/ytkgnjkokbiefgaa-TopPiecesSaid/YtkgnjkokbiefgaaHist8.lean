/- Contracts of package history, continued: Cut. -/
import Derived.Test.YtkgnjkokbiefgaaHist7
import Derived.Test.YtkgnjkokbiefgaaHistoryBeforeP
namespace Go.Proofs.Ytkgnjkokbiefgaa
set_option linter.unusedVariables false
set_option linter.unusedSimpArgs false
open Go.RowKit
def Five (b : Nat) (l : List Int) : HProp := blk b (.cells (l.map (Value.int .i64)).toArray 136 (0, 0))
theorem Own.five_cell {w0 w : World} {b : Nat} {l : List Int} {R : HProp} (h : Own w0 (Five b l * R) w) (i : Nat) (x : Int) (hi : l[i]? = some x) : w.cell? ⟨b, i, none⟩ = some (.int .i64 x) := by
  rw [Own.cell h]; simp [hi]
theorem Own.five_free {w0 w : World} {b : Nat} {l : List Int} {R : HProp} (h : Own w0 (Five b l * R) w) (i : Nat) : w.frozen? ⟨b, i, none⟩ = false := Own.free h i none
theorem Own.five_set {w0 w : World} {b : Nat} {l : List Int} {R : HProp} (i : Nat) (x : Int) (h : Own w0 (Five b l * R) w) : Own w0 (Five b (l.set i x) * R) (w.setCell ⟨b, i, none⟩ (.int .i64 x)) := by
  have h1 := Own.setCell (i := i) (v := .int .i64 x) h
  unfold Five
  refine h1.perm ?_
  simp [List.map_set]
def takenL (hs : List Ev) (many : List Int) (k : Nat) : List Bool := (List.range k).map (takenB hs many)
theorem takenL_len (hs : List Ev) (many : List Int) (k : Nat) : (takenL hs many k).length = k := by simp [takenL]
theorem takenL_step (hs : List Ev) (many : List Int) (k : Nat) : takenL hs many (k + 1) = takenL hs many k ++ [takenB hs many k] := by simp [takenL, List.range_succ]
theorem takenL_get (hs : List Ev) (many : List Int) (n k : Nat) (hk : k < n) : (takenL hs many n)[k]? = some (takenB hs many k) := by simp [takenL, hk]
theorem counts_at (h : List Ev) (n m : Nat) (hm : m < 5) : (counts h n)[m]? = some ((cnt h (m : Int) n : Nat) : Int) := by
  unfold counts
  rw [List.getElem?_map, List.getElem?_range hm]; rfl
theorem Ints.cell_at {w : World} {ad : Option Addr} {n cap : Nat} {l : List Int} (h : Ints w (.slice ad n cap) l) (k : Nat) (hk : k < l.length) : ∃ a : Addr, ad = some a ∧ w.cell? (a.add k) = some (.int .i64 (l.getD k 0)) := by
  obtain ⟨a, e, c⟩ := h.at k hk
  exact ⟨a, e, by rw [List.getD_eq_getElem?_getD, List.getElem?_eq_getElem hk]; exact c⟩
noncomputable def cuTaken_code : Code := ((Try.f28.body.bind (findBlock 0)).getD .skip)
set_option maxRecDepth 1000000 in
set_option maxHeartbeats 4000000 in
theorem cuTaken {Q : Exit → Act → World → Prop} {u0 u2 u3 u4 u5 u6 u9 u10 u11 u12 u13 u14 u15 u16 u17 u18 u19 u20 u21 u22 u23 u24 u25 u29 u30 u31 u32 u33 u34 u35 u36 u37 u38 u39 u40 u41 u42 u43 u44 u45 u46 u47 u48 u49 u50 u51 u52 u53 u54 u55 u56 u57 u58 u59 u60 u61 u62 u63 u64 u65 u66 u67 u68 u69 u70 u71 u72 u73 u74 u75 u76 u77 u78 u79 u80 u81 u82 u83 u84 u85 u86 u87 u88 u89 u90 u91 u92 u93 u94 u95 u96 u97 u98 u99 u100 : Value} {w1 : World} (w : World) (R : HProp) (hb n hcap mcap : Nat) (had : Option Addr) (ma : Addr) (hs : List Ev) (many : List Int) (hn : n ≤ 60) (hc1 : n ≤ hcap) (hc2 : hcap ≤ 9223372036854775807) (hm1 : 5 ≤ mcap) (hm2 : mcap ≤ 9223372036854775807) (HLN : Hid (hs.length = n)) (HML : Hid (many.length = 5)) (HRH : Hid (RightH hs)) (HV : Hid (ReadsE w R (.slice had n hcap) hs)) (HMV : Hid (Reads w R (.slice (some ma) 5 mcap) many)) (HP : Hid (Own w (Five hb [0, 0, 0, 0, 0] * R) w1))
    (hK : ∀ (v8 v10 v28 v29 v30 v31 v32 v33 v34 v35 v36 v37 v38 v39 v40 v41 v42 v43 v44 v45 v46 v47 v48 v49 v50 v51 : Value) (wx : World), (Own w (BoolSl v8 (takenL hs many n) * (Five hb (counts hs n) * R)) wx) → Q .normal ⟨List.toArray (u0 :: (.slice (some ma) 5 mcap) :: u2 :: u3 :: u4 :: u5 :: u6 :: (.pointer (some ⟨hb, 0, none⟩)) :: v8 :: u9 :: v10 :: u11 :: u12 :: u13 :: u14 :: u15 :: u16 :: u17 :: u18 :: u19 :: u20 :: u21 :: u22 :: u23 :: u24 :: u25 :: (.slice had n hcap) :: (.int .i64 (n : Int)) :: v28 :: v29 :: v30 :: v31 :: v32 :: v33 :: v34 :: v35 :: v36 :: v37 :: v38 :: v39 :: v40 :: v41 :: v42 :: v43 :: v44 :: v45 :: v46 :: v47 :: v48 :: v49 :: v50 :: v51 :: u52 :: u53 :: u54 :: u55 :: u56 :: u57 :: u58 :: u59 :: u60 :: u61 :: u62 :: u63 :: u64 :: u65 :: u66 :: u67 :: u68 :: u69 :: u70 :: u71 :: u72 :: u73 :: u74 :: u75 :: u76 :: u77 :: u78 :: u79 :: u80 :: u81 :: u82 :: u83 :: u84 :: u85 :: u86 :: u87 :: u88 :: u89 :: u90 :: u91 :: u92 :: u93 :: u94 :: u95 :: u96 :: u97 :: u98 :: u99 :: u100 :: []), []⟩ wx) :
    Code.wp Try.prog cuTaken_code Q ⟨List.toArray (u0 :: (.slice (some ma) 5 mcap) :: u2 :: u3 :: u4 :: u5 :: u6 :: (.pointer (some ⟨hb, 0, none⟩)) :: (.slice none 0 0) :: u9 :: u10 :: u11 :: u12 :: u13 :: u14 :: u15 :: u16 :: u17 :: u18 :: u19 :: u20 :: u21 :: u22 :: u23 :: u24 :: u25 :: (.slice had n hcap) :: (.int .i64 (n : Int)) :: (.int .i64 0) :: u29 :: u30 :: u31 :: u32 :: u33 :: u34 :: u35 :: u36 :: u37 :: u38 :: u39 :: u40 :: u41 :: u42 :: u43 :: u44 :: u45 :: u46 :: u47 :: u48 :: u49 :: u50 :: u51 :: u52 :: u53 :: u54 :: u55 :: u56 :: u57 :: u58 :: u59 :: u60 :: u61 :: u62 :: u63 :: u64 :: u65 :: u66 :: u67 :: u68 :: u69 :: u70 :: u71 :: u72 :: u73 :: u74 :: u75 :: u76 :: u77 :: u78 :: u79 :: u80 :: u81 :: u82 :: u83 :: u84 :: u85 :: u86 :: u87 :: u88 :: u89 :: u90 :: u91 :: u92 :: u93 :: u94 :: u95 :: u96 :: u97 :: u98 :: u99 :: u100 :: []), []⟩ w1 := by
  conv => arg 2; whnf
  have HK := Lib.hid hK
  clear hK
  go_wp2_with fail
  go_loopw [28, 8] (fun iv tv wr => ∃ k : Nat, k ≤ n ∧ iv = .int .i64 k ∧ Hid (Own w (BoolSl tv (takenL hs many k) * (Five hb (counts hs k) * R)) wr)) (fun iv _ _ => n - (intOf iv).toNat)
  case atStart => exact ⟨0, Nat.zero_le _, rfl, Lib.hid (by rw [counts_zero]; exact HP.out.sl_nil _ _)⟩
  case round =>
    clear HP
    obtain ⟨k, hk, rfl, HO⟩ := hrel
    by_cases hlt : k < n
    rotate_left
    · have hkn : k = n := by omega
      subst hkn
      go_wp2_with fail
      apply HK.out
      exact HO.out
    obtain ⟨aa, pb, po, ps, rfl, hea, hcs, _⟩ := HV.out.more.more.at HO.out k (by rw [HLN.out]; exact hlt)
    have hwho := HRH.out.who (show k < hs.length by rw [HLN.out]; exact hlt)
    obtain ⟨x, hx⟩ : ∃ x, x = evAt hs k := ⟨_, rfl⟩
    rw [← hx] at hcs hwho
    obtain ⟨c0, c1, c2⟩ := hcs _ HO.out
    obtain ⟨x1, x2, x3⟩ := x
    simp only at c0 c1 c2 hwho
    obtain ⟨m, rfl⟩ : ∃ m : Nat, x1 = (m : Int) := ⟨x1.toNat, by omega⟩
    have hm5 : m < 5 := by omega
    obtain ⟨tl, htl⟩ : ∃ tl, tl = takenL hs many k := ⟨_, rfl⟩
    have htll : tl.length = k := by rw [htl, takenL_len]
    obtain ⟨cl, hcl⟩ : ∃ cl, cl = counts hs k := ⟨_, rfl⟩
    have ho := HO.out
    rw [← htl, ← hcl] at ho
    obtain ⟨cv, hcv⟩ : ∃ cv : Nat, cv = cnt hs m k := ⟨_, rfl⟩
    have hcl2 : cl[m]? = some (cv : Int) := by rw [hcl, hcv]; exact counts_at hs k m hm5
    have hcv2 : cv ≤ 60 := by rw [hcv]; have := cnt_le hs m k; omega
    obtain ⟨mv, hmv⟩ : ∃ mv, mv = many.getD m 0 := ⟨_, rfl⟩
    have htk : takenB hs many k = decide ((cv : Int) < mv) := by
      unfold takenB
      rw [← hx]
      simp only [Int.toNat_natCast]
      rw [← hcv, hmv]
    obtain ⟨tk, htk2⟩ : ∃ tk, tk = decide ((cv : Int) < mv) := ⟨_, rfl⟩
    have hnext : takenL hs many (k + 1) = tl ++ [tk] := by rw [takenL_step, htk, htl, htk2]
    have hcn : counts hs (k + 1) = cl.set m ((cv : Int) + 1) := by
      rw [counts_step hs HRH.out k (by rw [HLN.out]; exact hlt), ← hx, hcl]
      simp only [Int.toNat_natCast]
      rw [← hcv]
    obtain ⟨eb, hb_eb⟩ : ∃ zz_, zz_ = (wr).heap.size := ⟨_, rfl⟩
    obtain ⟨w2, hw_w2⟩ : ∃ zz_, zz_ = (wr).alloc (.cells #[.int .i64 (m : Int), .int .i64 x2, .int .i64 x3] 49 (0, 0)) := ⟨_, rfl⟩
    have h_HO1 := (ho).alloc (.cells #[.int .i64 (m : Int), .int .i64 x2, .int .i64 x3] 49 (0, 0))
    rw [← hb_eb, ← hw_w2] at h_HO1
    have HO1 := Lib.hid h_HO1
    clear h_HO1
    have HE1 : Hid (Own w (EvO eb ((m : Int), x2, x3) * (BoolSl u8 tl * (Five hb cl * R))) w2) := HO1
    clear HO1
    obtain ⟨d0, d1, d2⟩ := HE1.out.ev
    simp only at d0 d1 d2
    have hHF : Hid (Own w (Five hb cl * (EvO eb ((m : Int), x2, x3) * (BoolSl u8 tl * R))) w2) := Lib.hid (HE1.out.perm (by ac_rfl))
    have e1 := hHF.out.five_cell m _ hcl2
    obtain ⟨ma', hma', f1⟩ := (HMV.out _ HE1.out.drop.drop.drop).cell_at m (by rw [HML.out]; exact hm5)
    cases hma'
    rw [← hmv] at f1
    have m0 : (0 : Int) ≤ (m : Int) := by omega
    have m5 : (m : Int) < 5 := by omega
    have HCS := Lib.hid hcs; have HX := Lib.hid hx; have HTL := Lib.hid htl; have HCL := Lib.hid hcl; have HO := Lib.hid ho; have HCV := Lib.hid hcv; have HMV := Lib.hid hmv; have HTK := Lib.hid htk; have HTK2 := Lib.hid htk2; have HNEXT := Lib.hid hnext; have HCN := Lib.hid hcn; have HWHO := Lib.hid hwho; have HCL2 := Lib.hid hcl2
    clear hcs hx htl hcl ho hcv hmv htk htk2 hnext hcn hwho hcl2
    go_upto_region 11 with fail
    rw [← hb_eb, ← hw_w2]
    clear hb_eb hw_w2
    clear c0 c1 c2
    have HA : Hid (Own w (Sl 4 1 u8 tl.length (tl.map Value.bool) * (EvO eb ((m : Int), x2, x3) * (Five hb cl * R))) w2) := Lib.hid (HE1.out.perm (by unfold BoolSl; ac_rfl))
    refine wp_region_planX 11 [0] [11, 12, 13] (by kernel_rfl) (by kernel_rfl) ?_
    simp only [List.range_succ, List.range_zero, List.nil_append, List.filter_cons, List.filter_nil, List.filter_append, List.contains_cons, List.contains_nil, Nat.reduceBEq, Bool.or_false, Bool.or_true, Bool.not_false, Bool.not_true, if_true, if_false, Bool.false_eq_true, ↓reduceIte, pick, List.getElem?_cons_succ, List.getElem?_cons_zero, Option.toList, List.cons_append, List.nil_append]
    repeat (refine wpPure_step ?_ rfl ?_ ?_; rotate_left; (focus (intro _; first | with_reducible rfl | (go_simp; done) | (go_simp; with_reducible rfl) | rfl)); go_simp)
    refine wpPure_nil ?_
    repeat still_step
    refine wpStill_nil ?_
    go_wp2_with (at_builtin; refine wpList_app rfl _ _ 133 rfl 4 1 1 _ bool_info Try.underlying133 rfl (by decide) rfl (HA.out.drew.alloc' _) rfl (by rfl) (Rd_lit (by simp) (by unfold maxLen; omega)) (by intro u hu; simp at hu; subst hu; rfl) (by unfold maxLen; omega) (by omega) ?_; intro v' w3 hown; have hb3 : Own w (BoolSl v' (tl ++ [tk]) * (EvO eb ((m : Int), x2, x3) * (Five hb cl * R))) w3 := (hown.perm (by unfold BoolSl; rw [HTK2.out]; simp)); have HB3 := Lib.hid hb3; clear hown hb3)
    refine NoPanic.normal ?_
    obtain ⟨d0, _, _⟩ := (HB3.out.perm (star_left_comm _ _ _)).ev
    have HF3 : Hid (Own w (Five hb cl * (EvO eb ((m : Int), x2, x3) * (BoolSl v' (tl ++ [tk]) * R))) w3) := Lib.hid (HB3.out.perm (by ac_rfl))
    have e3 := HF3.out.five_cell m _ HCL2.out
    have e4 := HF3.out.five_free
    have hs4 := HF3.out.five_set m ((cv : Int) + 1)
    rw [← HCN.out] at hs4
    have HS4 : Hid (Own w (BoolSl v' (takenL hs many (k + 1)) * (Five hb (counts hs (k + 1)) * R)) (w3.setCell ⟨hb, m, none⟩ (.int .i64 ((cv : Int) + 1)))) := Lib.hid (by
      rw [HNEXT.out]
      exact (hs4.perm (show _ = EvO eb ((m : Int), x2, x3) * (BoolSl v' (tl ++ [tk]) * (Five hb (counts hs (k + 1)) * R)) by ac_rfl)).drop)
    clear hs4 HB3 HF3
    go_wp2_with fail
    go_roundw
    case rel => exact ⟨k + 1, by omega, by go_num, HS4⟩
    case measure => simp [intOf]; omega
end Go.Proofs.Ytkgnjkokbiefgaa
