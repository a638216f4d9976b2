/- Plain law of HistoryBefore: a beginning of a right history is a cut that could have been. -/
import Derived.Test.YtgjjilehpgnjhaaDoorMFacesTell4
import Derived.Test.YtgjjilehpgnjhaaDoorMFacesTell6
import Derived.Test.YtgjjilehpgnjhaaDoorMFacesTell5
namespace Go.Proofs.YtgjjilehpgnjhaaDoor
set_option linter.unusedVariables false
set_option linter.unusedSimpArgs false
open Go.RowKit
theorem evErr0 {ahead : List Ev} {e : Ev} (h : evErr ahead e = 0) : rightB e = true := by
  unfold evErr at h
  by_cases hr : rightB e = false
  · rw [if_pos hr] at h; cases h
  · simpa using hr
theorem rightB_who {e : Ev} (h : rightB e = true) : 0 ≤ e.1 ∧ e.1 < 5 := by
  unfold rightB at h
  simp only [Bool.and_eq_true, isMember, decide_eq_true_eq] at h
  exact h.1
theorem evAt_get {h : List Ev} {k : Nat} (hk : k < h.length) : evAt h k = h[k] := by
  unfold evAt; rw [List.getD_eq_getElem?_getD, List.getElem?_eq_getElem hk]; rfl
theorem RightH.who {h : List Ev} (hr : RightH h) {k : Nat} (hk : k < h.length) : 0 ≤ (evAt h k).1 ∧ (evAt h k).1 < 5 := by
  rw [evAt_get hk]; exact rightB_who (evErr0 (hr.2 k hk))
/-- What the law counts: how many of the first n events each member has. -/
def counts (h : List Ev) (n : Nat) : List Int := (List.range 5).map fun m : Nat => ((cnt h (m : Int) n : Nat) : Int)
theorem counts_len (h : List Ev) (n : Nat) : (counts h n).length = 5 := by simp [counts]
theorem counts_get (h : List Ev) (n m : Nat) (hm : m < 5) : (counts h n).getD m 0 = (cnt h (m : Int) n : Nat) := by
  unfold counts
  rw [List.getD_eq_getElem?_getD, List.getElem?_map, List.getElem?_range hm]; rfl
theorem counts_zero (h : List Ev) : counts h 0 = [0, 0, 0, 0, 0] := by simp [counts, cnt_zero, List.range_succ]
theorem counts_step (h : List Ev) (hr : RightH h) (n : Nat) (hn : n < h.length) : counts h (n + 1) = (counts h n).set (evAt h n).1.toNat ((cnt h (evAt h n).1 n : Nat) + 1) := by
  have hw := hr.who hn
  apply List.ext_getElem
  · simp [counts]
  intro m h1 h2
  have hm : m < 5 := by simpa [counts] using h1
  rw [List.getElem_set]
  simp only [counts, List.getElem_map, List.getElem_range]
  rw [cnt_succ h m n hn, evAt_get hn]
  rw [evAt_get hn] at hw
  by_cases he : h[n].1 = (m : Int)
  · rw [if_pos he, if_pos (by omega), he]; simp
  · rw [if_neg he, if_neg (by omega)]; simp
theorem taken_counts (h : List Ev) (hr : RightH h) (n k : Nat) (hk : k < h.length) (hn : n < h.length) : takenB h (counts h (n + 1)) k = decide (k ≤ n) := by
  have hw := hr.who hk
  have hm : (evAt h k).1.toNat < 5 := by omega
  unfold takenB
  rw [counts_get h _ _ hm, show (((evAt h k).1.toNat : Nat) : Int) = (evAt h k).1 from by omega, decide_eq_decide]
  constructor
  · intro h1
    refine Nat.le_of_not_lt fun h2 => ?_
    have := cnt_mono h (evAt h k).1 (show n + 1 ≤ k by omega)
    omega
  · intro h1
    have h2 := cnt_mono h (evAt h k).1 (show k + 1 ≤ n + 1 by omega)
    rw [cnt_succ h _ k hk, evAt_get hk, if_pos rfl] at h2
    rw [evAt_get hk]; omega
theorem cut_counts (h : List Ev) (hr : RightH h) (n : Nat) (hn : n < h.length) : cutErr h (counts h (n + 1)) = 0 ∧ cutB h (counts h (n + 1)) = true := by
  constructor
  · unfold cutErr
    rw [if_neg (by simpa using (histR_ok h).2 hr), if_neg (by simp [counts_len]), if_neg]
    intro hh
    obtain ⟨i, hi, hb⟩ := List.any_eq_true.1 hh
    have hi := List.mem_range.1 hi
    unfold cutBadAt at hb
    rw [counts_get h _ _ hi] at hb
    simp only [Bool.or_eq_true, decide_eq_true_eq] at hb
    have := cnt_mono h (i : Int) (show n + 1 ≤ h.length by omega)
    omega
  · unfold cutB
    rw [decide_eq_true_eq]
    intro k hk h1 i hi _
    rw [taken_counts h hr n k hk hn, decide_eq_true_eq] at h1
    rw [taken_counts h hr n i (by omega) hn, decide_eq_true_eq]
    omega
end Go.Proofs.YtgjjilehpgnjhaaDoor
/- Contracts of package history, continued: Cut. -/
namespace Go.Proofs.YtgjjilehpgnjhaaDoor
set_option linter.unusedVariables false
set_option linter.unusedSimpArgs false
open Go.RowKit
def Five (b : Nat) (l : List Int) : HProp := blk b (.cells (l.map (Value.int .i64)).toArray 83 (0, 0))
theorem Own.five_cell {w0 w : World} {b : Nat} {l : List Int} {R : HProp} (h : Own w0 (Five b l * R) w) (i : Nat) (x : Int) (hi : l[i]? = some x) : w.cell? ⟨b, i, none⟩ = some (.int .i64 x) := by
  rw [Own.cell h]; simp [hi]
theorem Own.five_free {w0 w : World} {b : Nat} {l : List Int} {R : HProp} (h : Own w0 (Five b l * R) w) (i : Nat) : w.frozen? ⟨b, i, none⟩ = false := Own.free h i none
theorem Own.five_set {w0 w : World} {b : Nat} {l : List Int} {R : HProp} (i : Nat) (x : Int) (h : Own w0 (Five b l * R) w) : Own w0 (Five b (l.set i x) * R) (w.setCell ⟨b, i, none⟩ (.int .i64 x)) := by
  have h1 := Own.setCell (i := i) (v := .int .i64 x) h
  unfold Five
  refine h1.perm ?_
  simp [List.map_set]
def takenL (hs : List Ev) (many : List Int) (k : Nat) : List Bool := (List.range k).map (takenB hs many)
theorem takenL_len (hs : List Ev) (many : List Int) (k : Nat) : (takenL hs many k).length = k := by simp [takenL]
theorem takenL_step (hs : List Ev) (many : List Int) (k : Nat) : takenL hs many (k + 1) = takenL hs many k ++ [takenB hs many k] := by simp [takenL, List.range_succ]
theorem takenL_get (hs : List Ev) (many : List Int) (n k : Nat) (hk : k < n) : (takenL hs many n)[k]? = some (takenB hs many k) := by simp [takenL, hk]
theorem counts_at (h : List Ev) (n m : Nat) (hm : m < 5) : (counts h n)[m]? = some ((cnt h (m : Int) n : Nat) : Int) := by
  unfold counts
  rw [List.getElem?_map, List.getElem?_range hm]; rfl
theorem Ints.cell_at {w : World} {ad : Option Addr} {n cap : Nat} {l : List Int} (h : Ints w (.slice ad n cap) l) (k : Nat) (hk : k < l.length) : ∃ a : Addr, ad = some a ∧ w.cell? (a.add k) = some (.int .i64 (l.getD k 0)) := by
  obtain ⟨a, e, c⟩ := h.at k hk
  exact ⟨a, e, by rw [List.getD_eq_getElem?_getD, List.getElem?_eq_getElem hk]; exact c⟩
noncomputable def cuTaken_code : Code := ((Tryd.f18.body.bind (findBlock 0)).getD .skip)
set_option maxRecDepth 1000000 in
set_option maxHeartbeats 4000000 in
theorem cuTaken {Q : Exit → Act → World → Prop} {u0 u2 u3 u4 u5 u6 u9 u10 u11 u12 u13 u14 u15 u16 u17 u18 u19 u20 u21 u22 u23 u24 u25 u29 u30 u31 u32 u33 u34 u35 u36 u37 u38 u39 u40 u41 u42 u43 u44 u45 u46 u47 u48 u49 u50 u51 u52 u53 u54 u55 u56 u57 u58 u59 u60 u61 u62 u63 u64 u65 u66 u67 u68 u69 u70 u71 u72 u73 u74 u75 u76 u77 u78 u79 u80 u81 u82 u83 u84 u85 u86 u87 u88 u89 u90 u91 u92 u93 u94 u95 u96 u97 u98 u99 u100 : Value} {w1 : World} (w : World) (R : HProp) (hb n hcap mcap : Nat) (had : Option Addr) (ma : Addr) (hs : List Ev) (many : List Int) (hn : n ≤ 60) (hc1 : n ≤ hcap) (hc2 : hcap ≤ 9223372036854775807) (hm1 : 5 ≤ mcap) (hm2 : mcap ≤ 9223372036854775807) (HLN : Hid (hs.length = n)) (HML : Hid (many.length = 5)) (HRH : Hid (RightH hs)) (HV : Hid (ReadsE w R (.slice had n hcap) hs)) (HMV : Hid (Reads w R (.slice (some ma) 5 mcap) many)) (HP : Hid (Own w (Five hb [0, 0, 0, 0, 0] * R) w1))
    (hK : ∀ (v8 v10 v28 v29 v30 v31 v32 v33 v34 v35 v36 v37 v38 v39 v40 v41 v42 v43 v44 v45 v46 v47 v48 v49 v50 v51 : Value) (wx : World), (Own w (BoolSl v8 (takenL hs many n) * (Five hb (counts hs n) * R)) wx) → Q .normal ⟨List.toArray (u0 :: (.slice (some ma) 5 mcap) :: u2 :: u3 :: u4 :: u5 :: u6 :: (.pointer (some ⟨hb, 0, none⟩)) :: v8 :: u9 :: v10 :: u11 :: u12 :: u13 :: u14 :: u15 :: u16 :: u17 :: u18 :: u19 :: u20 :: u21 :: u22 :: u23 :: u24 :: u25 :: (.slice had n hcap) :: (.int .i64 (n : Int)) :: v28 :: v29 :: v30 :: v31 :: v32 :: v33 :: v34 :: v35 :: v36 :: v37 :: v38 :: v39 :: v40 :: v41 :: v42 :: v43 :: v44 :: v45 :: v46 :: v47 :: v48 :: v49 :: v50 :: v51 :: u52 :: u53 :: u54 :: u55 :: u56 :: u57 :: u58 :: u59 :: u60 :: u61 :: u62 :: u63 :: u64 :: u65 :: u66 :: u67 :: u68 :: u69 :: u70 :: u71 :: u72 :: u73 :: u74 :: u75 :: u76 :: u77 :: u78 :: u79 :: u80 :: u81 :: u82 :: u83 :: u84 :: u85 :: u86 :: u87 :: u88 :: u89 :: u90 :: u91 :: u92 :: u93 :: u94 :: u95 :: u96 :: u97 :: u98 :: u99 :: u100 :: []), []⟩ wx) :
    Code.wp Tryd.prog cuTaken_code Q ⟨List.toArray (u0 :: (.slice (some ma) 5 mcap) :: u2 :: u3 :: u4 :: u5 :: u6 :: (.pointer (some ⟨hb, 0, none⟩)) :: (.slice none 0 0) :: u9 :: u10 :: u11 :: u12 :: u13 :: u14 :: u15 :: u16 :: u17 :: u18 :: u19 :: u20 :: u21 :: u22 :: u23 :: u24 :: u25 :: (.slice had n hcap) :: (.int .i64 (n : Int)) :: (.int .i64 0) :: u29 :: u30 :: u31 :: u32 :: u33 :: u34 :: u35 :: u36 :: u37 :: u38 :: u39 :: u40 :: u41 :: u42 :: u43 :: u44 :: u45 :: u46 :: u47 :: u48 :: u49 :: u50 :: u51 :: u52 :: u53 :: u54 :: u55 :: u56 :: u57 :: u58 :: u59 :: u60 :: u61 :: u62 :: u63 :: u64 :: u65 :: u66 :: u67 :: u68 :: u69 :: u70 :: u71 :: u72 :: u73 :: u74 :: u75 :: u76 :: u77 :: u78 :: u79 :: u80 :: u81 :: u82 :: u83 :: u84 :: u85 :: u86 :: u87 :: u88 :: u89 :: u90 :: u91 :: u92 :: u93 :: u94 :: u95 :: u96 :: u97 :: u98 :: u99 :: u100 :: []), []⟩ w1 := by
  conv => arg 2; whnf
  have HK := Lib.hid hK
  clear hK
  go_wp2_with fail
  go_loopw [28, 8] (fun iv tv wr => ∃ k : Nat, k ≤ n ∧ iv = .int .i64 k ∧ Hid (Own w (BoolSl tv (takenL hs many k) * (Five hb (counts hs k) * R)) wr)) (fun iv _ _ => n - (intOf iv).toNat)
  case atStart => exact ⟨0, Nat.zero_le _, rfl, Lib.hid (by rw [counts_zero]; exact HP.out.sl_nil _ _)⟩
  case round =>
    clear HP
    obtain ⟨k, hk, rfl, HO⟩ := hrel
    by_cases hlt : k < n
    rotate_left
    · have hkn : k = n := by omega
      subst hkn
      go_wp2_with fail
      apply HK.out
      exact HO.out
    obtain ⟨aa, pb, po, ps, rfl, hea, hcs, _⟩ := HV.out.more.more.at HO.out k (by rw [HLN.out]; exact hlt)
    have hwho := HRH.out.who (show k < hs.length by rw [HLN.out]; exact hlt)
    obtain ⟨x, hx⟩ : ∃ x, x = evAt hs k := ⟨_, rfl⟩
    rw [← hx] at hcs hwho
    obtain ⟨c0, c1, c2⟩ := hcs _ HO.out
    obtain ⟨x1, x2, x3⟩ := x
    simp only at c0 c1 c2 hwho
    obtain ⟨m, rfl⟩ : ∃ m : Nat, x1 = (m : Int) := ⟨x1.toNat, by omega⟩
    have hm5 : m < 5 := by omega
    obtain ⟨tl, htl⟩ : ∃ tl, tl = takenL hs many k := ⟨_, rfl⟩
    have htll : tl.length = k := by rw [htl, takenL_len]
    obtain ⟨cl, hcl⟩ : ∃ cl, cl = counts hs k := ⟨_, rfl⟩
    have ho := HO.out
    rw [← htl, ← hcl] at ho
    obtain ⟨cv, hcv⟩ : ∃ cv : Nat, cv = cnt hs m k := ⟨_, rfl⟩
    have hcl2 : cl[m]? = some (cv : Int) := by rw [hcl, hcv]; exact counts_at hs k m hm5
    have hcv2 : cv ≤ 60 := by rw [hcv]; have := cnt_le hs m k; omega
    obtain ⟨mv, hmv⟩ : ∃ mv, mv = many.getD m 0 := ⟨_, rfl⟩
    have htk : takenB hs many k = decide ((cv : Int) < mv) := by
      unfold takenB
      rw [← hx]
      simp only [Int.toNat_natCast]
      rw [← hcv, hmv]
    obtain ⟨tk, htk2⟩ : ∃ tk, tk = decide ((cv : Int) < mv) := ⟨_, rfl⟩
    have hnext : takenL hs many (k + 1) = tl ++ [tk] := by rw [takenL_step, htk, htl, htk2]
    have hcn : counts hs (k + 1) = cl.set m ((cv : Int) + 1) := by
      rw [counts_step hs HRH.out k (by rw [HLN.out]; exact hlt), ← hx, hcl]
      simp only [Int.toNat_natCast]
      rw [← hcv]
    obtain ⟨eb, hb_eb⟩ : ∃ zz_, zz_ = (wr).heap.size := ⟨_, rfl⟩
    obtain ⟨w2, hw_w2⟩ : ∃ zz_, zz_ = (wr).alloc (.cells #[.int .i64 (m : Int), .int .i64 x2, .int .i64 x3] 28 (0, 0)) := ⟨_, rfl⟩
    have h_HO1 := (ho).alloc (.cells #[.int .i64 (m : Int), .int .i64 x2, .int .i64 x3] 28 (0, 0))
    rw [← hb_eb, ← hw_w2] at h_HO1
    have HO1 := Lib.hid h_HO1
    clear h_HO1
    have HE1 : Hid (Own w (EvO eb ((m : Int), x2, x3) * (BoolSl u8 tl * (Five hb cl * R))) w2) := HO1
    clear HO1
    obtain ⟨d0, d1, d2⟩ := HE1.out.ev
    simp only at d0 d1 d2
    have hHF : Hid (Own w (Five hb cl * (EvO eb ((m : Int), x2, x3) * (BoolSl u8 tl * R))) w2) := Lib.hid (HE1.out.perm (by ac_rfl))
    have e1 := hHF.out.five_cell m _ hcl2
    obtain ⟨ma', hma', f1⟩ := (HMV.out _ HE1.out.drop.drop.drop).cell_at m (by rw [HML.out]; exact hm5)
    cases hma'
    rw [← hmv] at f1
    have m0 : (0 : Int) ≤ (m : Int) := by omega
    have m5 : (m : Int) < 5 := by omega
    have HCS := Lib.hid hcs; have HX := Lib.hid hx; have HTL := Lib.hid htl; have HCL := Lib.hid hcl; have HO := Lib.hid ho; have HCV := Lib.hid hcv; have HMV := Lib.hid hmv; have HTK := Lib.hid htk; have HTK2 := Lib.hid htk2; have HNEXT := Lib.hid hnext; have HCN := Lib.hid hcn; have HWHO := Lib.hid hwho; have HCL2 := Lib.hid hcl2
    clear hcs hx htl hcl ho hcv hmv htk htk2 hnext hcn hwho hcl2
    go_upto_region 11 with fail
    rw [← hb_eb, ← hw_w2]
    clear hb_eb hw_w2
    clear c0 c1 c2
    have HA : Hid (Own w (Sl 4 1 u8 tl.length (tl.map Value.bool) * (EvO eb ((m : Int), x2, x3) * (Five hb cl * R))) w2) := Lib.hid (HE1.out.perm (by unfold BoolSl; ac_rfl))
    refine wp_region_planX 11 [0] [11, 12, 13] (by kernel_rfl) (by kernel_rfl) ?_
    simp only [List.range_succ, List.range_zero, List.nil_append, List.filter_cons, List.filter_nil, List.filter_append, List.contains_cons, List.contains_nil, Nat.reduceBEq, Bool.or_false, Bool.or_true, Bool.not_false, Bool.not_true, if_true, if_false, Bool.false_eq_true, ↓reduceIte, pick, List.getElem?_cons_succ, List.getElem?_cons_zero, Option.toList, List.cons_append, List.nil_append]
    repeat (refine wpPure_step ?_ rfl ?_ ?_; rotate_left; (focus (intro _; first | with_reducible rfl | (go_simp; done) | (go_simp; with_reducible rfl) | rfl)); go_simp)
    refine wpPure_nil ?_
    repeat still_step
    refine wpStill_nil ?_
    go_wp2_with (at_builtin; refine wpList_app rfl _ _ 80 rfl 4 1 1 _ bool_info Tryd.underlying80 rfl (by decide) rfl (HA.out.drew.alloc' _) rfl (by rfl) (Rd_lit (by simp) (by unfold maxLen; omega)) (by intro u hu; simp at hu; subst hu; rfl) (by unfold maxLen; omega) (by omega) ?_; intro v' w3 hown; have hb3 : Own w (BoolSl v' (tl ++ [tk]) * (EvO eb ((m : Int), x2, x3) * (Five hb cl * R))) w3 := (hown.perm (by unfold BoolSl; rw [HTK2.out]; simp)); have HB3 := Lib.hid hb3; clear hown hb3)
    refine NoPanic.normal ?_
    obtain ⟨d0, _, _⟩ := (HB3.out.perm (star_left_comm _ _ _)).ev
    have HF3 : Hid (Own w (Five hb cl * (EvO eb ((m : Int), x2, x3) * (BoolSl v' (tl ++ [tk]) * R))) w3) := Lib.hid (HB3.out.perm (by ac_rfl))
    have e3 := HF3.out.five_cell m _ HCL2.out
    have e4 := HF3.out.five_free
    have hs4 := HF3.out.five_set m ((cv : Int) + 1)
    rw [← HCN.out] at hs4
    have HS4 : Hid (Own w (BoolSl v' (takenL hs many (k + 1)) * (Five hb (counts hs (k + 1)) * R)) (w3.setCell ⟨hb, m, none⟩ (.int .i64 ((cv : Int) + 1)))) := Lib.hid (by
      rw [HNEXT.out]
      exact (hs4.perm (show _ = EvO eb ((m : Int), x2, x3) * (BoolSl v' (tl ++ [tk]) * (Five hb (counts hs (k + 1)) * R)) by ac_rfl)).drop)
    clear hs4 HB3 HF3
    go_wp2_with fail
    go_roundw
    case rel => exact ⟨k + 1, by omega, by go_num, HS4⟩
    case measure => simp [intOf]; omega
end Go.Proofs.YtgjjilehpgnjhaaDoor
/- Contracts of package history, continued: Cut. -/
namespace Go.Proofs.YtgjjilehpgnjhaaDoor
set_option linter.unusedVariables false
set_option linter.unusedSimpArgs false
open Go.RowKit
def cutOk (hs : List Ev) (many : List Int) : Bool := decide (cutErr hs many = 0) && cutB hs many
theorem Own.bools_at {w0 w : World} {v : Value} {l : List Bool} {R : HProp} (h : Own w0 (BoolSl v l * R) w) (hl : 0 < l.length) :
    ∃ b o cap, v = .slice (some ⟨b, o, none⟩) l.length cap ∧ l.length ≤ cap ∧ cap ≤ 9223372036854775807 ∧ ∀ j x, l[j]? = some x → w.cell? ⟨b, o + j, none⟩ = some (.bool x) := by
  obtain ⟨b, o, cap, e1, h2⟩ := Own.slAt h (by simpa using hl)
  have f := h2.slAt_facts
  exact ⟨b, o, cap, e1, f.1, f.2.1, fun j x hj => f.2.2.2.1 j _ (by simp [hj])⟩
theorem takenB_len {hs : List Ev} {many : List Int} {k : Nat} : True := trivial
set_option maxRecDepth 100000 in
set_option maxHeartbeats 4000000 in
theorem hCut_any {w0 w : World} {R : HProp} (v vm : Value) (hs : List Ev) (many : List Int) (h : Own w0 R w) (hv : ReadsE w0 R v hs) (hm : Reads w0 R vm many) :
    Calls Tryd.prog 18 #[v, vm] w fun e w' => e = .returned (.tuple #[.bool (cutOk hs many), errV (cutErr hs many)]) ∧ Own w0 R w' := by
  obtain ⟨had, hcap, rfl, hc1, hc2⟩ := (hv _ h).shape
  obtain ⟨mad, mcap, rfl, hm1, hm2⟩ := (hm _ h).shape
  obtain ⟨E, hE⟩ : ∃ E, E = (histR hs).2 := ⟨_, rfl⟩
  by_cases h0 : E = 0
  rotate_left
  · have hB : cutErr hs many = E := by unfold cutErr; rw [if_pos (by rw [← hE]; exact h0), ← hE]
    have hb_ : cutOk hs many = false := by unfold cutOk; rw [hB]; simp [h0]
    have hee := errV_ne h0
    have H := Lib.hid h; have HV := Lib.hid hv; have HM := Lib.hid hm; have HE := Lib.hid hE; have H0 := Lib.hid h0; have HEE := Lib.hid hee; have HB := Lib.hid hB; have HB_ := Lib.hid hb_
    clear h hv hm hE h0 hee hB hb_
    go_enter Tryd.func18, Tryd.ntmps18
    go_wp2_with fail
    refine (hRight_any _ hs H.out HV.out).mono ?_
    rintro e w2 ⟨rfl, ho⟩
    rw [← HE.out, HEE.out]
    have HO2 := Lib.hid ho
    clear ho
    go_wp2
    go_ret2
    exact ⟨by rw [HB.out, HB_.out]; exact congrArg (fun z => Ending.returned (.tuple #[.bool false, z])) HEE.out.symm, HO2.out⟩
  have hee : errV E = .nilIface := by rw [h0]; rfl
  have hrh := (histR_ok hs).1 (by rw [← hE]; exact h0)
  have hlen := hrh.1
  have hB : cutErr hs many = if many.length ≠ 5 then 3 else if (List.range 5).any (cutBadAt hs many) = true then 1 else 0 := by unfold cutErr; rw [if_neg (by rw [← hE]; simpa using h0)]
  obtain ⟨L, hL⟩ : ∃ L, L = many.length := ⟨_, rfl⟩
  rw [← hL] at hm hm1 hB
  rw [← hL]
  by_cases h5 : L = 5
  rotate_left
  · rw [if_pos h5] at hB
    have hb_ : cutOk hs many = false := by unfold cutOk; rw [hB]; simp
    have t1 : ((L : Int) != 5) = true := by simp; omega
    have H := Lib.hid h; have HV := Lib.hid hv; have HM := Lib.hid hm; have HE := Lib.hid hE; have H0 := Lib.hid h0; have HEE := Lib.hid hee; have HB := Lib.hid hB; have HB_ := Lib.hid hb_; have HL := Lib.hid hL; have H5 := Lib.hid h5; have HRH := Lib.hid hrh
    clear h hv hm hE h0 hee hB hb_ hL h5 hrh
    go_enter Tryd.func18, Tryd.ntmps18
    go_wp2_with fail
    refine (hRight_any _ hs H.out HV.out).mono ?_
    rintro e w2 ⟨rfl, ho⟩
    rw [← HE.out, HEE.out]
    have HO2 := Lib.hid ho
    clear ho
    go_wp2
    go_ret2
    exact ⟨by rw [HB.out, HB_.out]; rfl, HO2.out⟩
  rw [if_neg (by simpa using h5)] at hB
  subst h5
  obtain ⟨ma, hma⟩ : ∃ ma, mad = some ma := by
    obtain ⟨a, e, _⟩ := (hm _ h).at 0 (by omega)
    exact ⟨a, e⟩
  subst hma
  obtain ⟨n, hn⟩ : ∃ n, n = hs.length := ⟨_, rfl⟩
  have hp := fun (R' : HProp) (w4 : World) (ho : Own w0 (R' * R) w4) => hPasts_any (R := R' * R) (.slice had hs.length hcap) hs ho hv.more hlen
  rw [← hn] at hlen hv hc1
  rw [← hn] at hp
  rw [← hn]
  have HNE := Lib.hid hn.symm
  have HML := Lib.hid hL.symm
  have H := Lib.hid h; have HV := Lib.hid hv; have HM := Lib.hid hm; have HE := Lib.hid hE; have H0 := Lib.hid h0; have HEE := Lib.hid hee; have HB := Lib.hid hB; have HL := Lib.hid hL; have HRH := Lib.hid hrh; have HP := Lib.hid hp; have HN := Lib.hid hn
  clear h hv hm hE h0 hee hB hL hrh hp hn
  go_enter Tryd.func18, Tryd.ntmps18
  go_wp2_with fail
  refine (hRight_any _ hs H.out HV.out).mono ?_
  rintro e w2 ⟨rfl, ho⟩
  rw [← HE.out, HEE.out]
  obtain ⟨hb, hb_hb⟩ : ∃ zz_, zz_ = (w2).heap.size := ⟨_, rfl⟩
  obtain ⟨w3, hw_w3⟩ : ∃ zz_, zz_ = (w2).alloc (.cells #[.int .i64 0, .int .i64 0, .int .i64 0, .int .i64 0, .int .i64 0] 83 (0, 0)) := ⟨_, rfl⟩
  have h_HO3 := (ho).alloc (.cells #[.int .i64 0, .int .i64 0, .int .i64 0, .int .i64 0, .int .i64 0] 83 (0, 0))
  rw [← hb_hb, ← hw_w3] at h_HO3
  have HO3 := Lib.hid h_HO3
  clear h_HO3
  clear ho
  go_upto_block 0 with fail
  rw [← hb_hb, ← hw_w3]
  clear hb_hb hw_w3
  have HF : Hid (Own w0 (Five hb [0, 0, 0, 0, 0] * R) w3) := HO3
  go_cut [8] (fun tv wx => Own w0 (BoolSl tv (takenL hs many n) * (Five hb (counts hs n) * R)) wx)
  case first =>
    refine cuTaken w0 R hb n hcap mcap had ma hs many hlen hc1 hc2 hm1 hm2 HNE HML HRH HV HM HF ?_
    intros
    go_step
    go_step
    go_meet
    assumption
  case rest =>
  clear HF HO3
  obtain ⟨tv, htv⟩ : ∃ tv, tv = u8 := ⟨_, rfl⟩
  rw [← htv] at hcut ⊢
  clear htv
  have HT := Lib.hid hcut
  clear hcut
  have HFV : Hid (Own w0 (Five hb (counts hs n) * (BoolSl tv (takenL hs many n) * R)) wc) := Lib.hid (HT.out.perm (star_left_comm _ _ _))
  have HMR := Lib.hid (HM.out _ HT.out.drop.drop)
  go_wp2_with fail
  go_loop [54] (fun iv => ∃ i : Nat, i ≤ 5 ∧ iv = .int .i64 i ∧ Hid (∀ j, j < i → cutBadAt hs many j = false)) (fun iv => 5 - (intOf iv).toNat)
  case atStart => exact ⟨0, Nat.zero_le _, rfl, Lib.hid (fun j h => by omega)⟩
  case round =>
    obtain ⟨i, hi, rfl, hp2⟩ := hrel
    by_cases hlt : i < 5
    · obtain ⟨a', ha', f1⟩ := HMR.out.cell_at i (by rw [HML.out]; exact hlt)
      cases ha'
      have e1 := HFV.out.five_cell i _ (counts_at hs n i hlt)
      obtain ⟨mv, hmv⟩ : ∃ mv, mv = many.getD i 0 := ⟨_, rfl⟩
      obtain ⟨cv, hcv⟩ : ∃ cv : Nat, cv = cnt hs i n := ⟨_, rfl⟩
      rw [← hmv] at f1
      rw [← hcv] at e1
      have hbad : cutBadAt hs many i = (decide (mv < 0) || decide ((cv : Int) < mv)) := by unfold cutBadAt; rw [hmv, hcv, HNE.out]
      have hone : cutBadAt hs many i = true → cutErr hs many = 1 := by
        intro hb1
        rw [HB.out, if_pos]
        exact List.any_eq_true.2 ⟨i, List.mem_range.2 hlt, hb1⟩
      have i0 : (0 : Int) ≤ (i : Int) := by omega
      have i5 : (i : Int) < 5 := by omega
      have HMV := Lib.hid hmv; have HCV := Lib.hid hcv
      clear hmv hcv
      by_cases h1 : mv < 0
      · have t1 : decide (mv < 0) = true := by simpa using h1
        have hE1 : cutErr hs many = 1 := hone (by rw [hbad]; simp [h1])
        have hb_ : cutOk hs many = false := by unfold cutOk; rw [hE1]; simp
        have H1 := Lib.hid h1; have HE1 := Lib.hid hE1; have HB_ := Lib.hid hb_; have HBAD := Lib.hid hbad; have HONE := Lib.hid hone
        clear h1 hE1 hb_ hbad hone
        go_wp2
        go_ret2
        exact ⟨by rw [HB_.out, HE1.out]; rfl, HT.out.drop.drop⟩
      have t1 : decide (mv < 0) = false := by simpa using h1
      by_cases h2 : (cv : Int) < mv
      · have t2 : decide ((cv : Int) < mv) = true := by simpa using h2
        have hE1 : cutErr hs many = 1 := hone (by rw [hbad]; simp [h2])
        have hb_ : cutOk hs many = false := by unfold cutOk; rw [hE1]; simp
        have H1 := Lib.hid h1; have H2 := Lib.hid h2; have HE1 := Lib.hid hE1; have HB_ := Lib.hid hb_; have HBAD := Lib.hid hbad; have HONE := Lib.hid hone
        clear h1 h2 hE1 hb_ hbad hone
        go_wp2
        go_ret2
        exact ⟨by rw [HB_.out, HE1.out]; rfl, HT.out.drop.drop⟩
      have t2 : decide ((cv : Int) < mv) = false := by simpa using h2
      have hn2 : ∀ j, j < i + 1 → cutBadAt hs many j = false := fun j hj => by
        by_cases e : j = i
        · subst e; rw [hbad]; simp [h1, h2]
        · exact hp2.out j (by omega)
      have H1 := Lib.hid h1; have H2 := Lib.hid h2; have HBAD := Lib.hid hbad; have HONE := Lib.hid hone; have HN2 := Lib.hid hn2
      clear h1 h2 hbad hone hn2
      go_wp2
      go_round
      case rel => exact ⟨i + 1, by omega, by go_num, HN2⟩
      case measure => simp [intOf]; omega
    have hi5 : i = 5 := by omega
    subst hi5
    have hE0 : cutErr hs many = 0 := by
      rw [HB.out, if_neg]
      intro hh
      obtain ⟨j, h1, h2⟩ := List.any_eq_true.1 hh
      rw [hp2.out j (List.mem_range.1 h1)] at h2; cases h2
    have hok : cutOk hs many = cutB hs many := by unfold cutOk; rw [hE0]; simp
    have HE0 := Lib.hid hE0; have HOK := Lib.hid hok
    clear hE0 hok
    clear hp2
    go_wp2_with fail
    refine (HP.out _ _ (HT.out.perm (star_assoc _ _ _).symm)).mono ?_
    rintro e w5 ⟨rb, rs, rfl, hm5, ho⟩
    have HO5 : Hid (Own w0 (BTab rb n rs * (BoolSl tv (takenL hs many n) * (Five hb (counts hs n) * R))) w5) := Lib.hid (ho.perm (by ac_rfl))
    have HM5 := Lib.hid hm5
    clear hm5
    clear ho HFV HMR
    go_wp2_with fail
    go_loop [73] (fun kv => ∃ k : Nat, k ≤ n ∧ kv = .int .i64 k ∧ Hid (∀ k', k' < k → takenB hs many k' = true → ∀ i, i < k' → bef hs k' i = true → takenB hs many i = true)) (fun kv => n - (intOf kv).toNat)
    case atStart => exact ⟨0, Nat.zero_le _, rfl, Lib.hid (fun j h => by omega)⟩
    case round =>
      obtain ⟨k, hk, rfl, hq⟩ := hrel
      by_cases hlt : k < n
      rotate_left
      · have hcb : cutB hs many = true := by
          unfold cutB
          rw [decide_eq_true_eq]
          intro k' h1 h2 i h3 h4
          exact hq.out k' (by rw [HNE.out] at h1; omega) h2 i h3 h4
        have HCB := Lib.hid hcb
        clear hcb
        go_wp2
        go_ret2
        exact ⟨by rw [HOK.out, HCB.out, HE0.out]; rfl, HO5.out.drop.drop.drop⟩
      have hrow : (pastsR hs n)[k]? = some ((pastsR hs n).getD k []) := by
        rw [List.getD_eq_getElem?_getD, List.getElem?_eq_getElem (by rw [pastsR_len]; omega)]; rfl
      obtain ⟨cv, hcv⟩ := map_at HM5.out hrow
      obtain ⟨r, hr⟩ : ∃ r, r = (pastsR hs n).getD k [] := ⟨_, rfl⟩
      have hrl : r.length = n := by
        rw [hr, pastsR_row hs n _ (by rw [List.getD_eq_getElem?_getD, List.getElem?_eq_getElem (by rw [pastsR_len]; omega)]; exact List.getElem_mem _)]
        exact HNE.out
      rw [← hr] at hcv
      have hbr : ∀ j, j < n → r[j]? = some (bef hs k j) := fun j hj => by
        unfold bef
        rw [HNE.out, ← hr, List.getD_eq_getElem?_getD, List.getElem?_eq_getElem (by omega)]; rfl
      obtain ⟨cb, co, ccap, rfl⟩ := HO5.out.bt_shape hcv (by omega)
      obtain ⟨_, g2, g3, _, g5, _⟩ := HO5.out.bt_put hcv rfl (by omega)
      have c1 := HO5.out.bt_cell hcv
      rw [hrl] at c1 g2
      have hcells : ∀ j, j < n → w5.cell? ⟨cb, co + j, none⟩ = some (.bool (bef hs k j)) := fun j hj => g5 j _ (hbr j hj)
      obtain ⟨tb, tof, tcap, htv, q2, q3, q5⟩ := Own.bools_at HO5.out.drop (by rw [takenL_len]; omega)
      rw [takenL_len] at htv q2
      subst htv
      have htk : ∀ j, j < n → w5.cell? ⟨tb, tof + j, none⟩ = some (.bool (takenB hs many j)) := fun j hj => q5 j _ (takenL_get hs many n j hj)
      have HCE := Lib.hid hcells
      have HTK := Lib.hid htk
      have k0 : (0 : Int) ≤ (k : Int) := by omega
      have k1 : (k : Int) < (n : Int) := by omega
      have HR := Lib.hid hr; have HRL := Lib.hid hrl; have HBR := Lib.hid hbr; have HCV := Lib.hid hcv; have HROW := Lib.hid hrow
      clear hr hrl hbr hcv hrow
      clear g5 q5 hcells htk
      go_wp2_with fail
      go_loop [80] (fun jv => ∃ j : Nat, j ≤ n ∧ jv = .int .i64 j ∧ Hid (takenB hs many k = true → ∀ i, i < j → i < k → bef hs k i = true → takenB hs many i = true)) (fun jv => n - (intOf jv).toNat)
      case atStart => exact ⟨0, Nat.zero_le _, rfl, Lib.hid (fun _ i h => by omega)⟩
      case round =>
        obtain ⟨j, hj, rfl, hz⟩ := hrel
        by_cases hjt : j < n
        rotate_left
        · have hn3 : ∀ k', k' < k + 1 → takenB hs many k' = true → ∀ i, i < k' → bef hs k' i = true → takenB hs many i = true := fun k' h1 h2 i h3 h4 => by
            by_cases e : k' = k
            · subst e; exact hz.out h2 i (by omega) h3 h4
            · exact hq.out k' (by omega) h2 i h3 h4
          have HN3 := Lib.hid hn3
          clear hn3
          go_wp2
          go_round
          case rel => exact ⟨k + 1, by omega, by go_num, HN3⟩
          case measure => simp [intOf]; omega
        have d1 := HCE.out j hjt
        have d2 := HTK.out k hlt
        have d3 := HTK.out j hjt
        have j0 : (0 : Int) ≤ (j : Int) := by omega
        have j1 : (j : Int) < (n : Int) := by omega
        have hbk : bef hs k j = true → j < k := bef_lt hs k j
        have hnx : (takenB hs many k = true → bef hs k j = true → takenB hs many j = true) → (takenB hs many k = true → ∀ i, i < j + 1 → i < k → bef hs k i = true → takenB hs many i = true) := fun h5 h6 i h7 h8 h9 => by
          by_cases e : i = j
          · subst e; exact h5 h6 h9
          · exact hz.out h6 i (by omega) h8 h9
        have hno : takenB hs many k = true → bef hs k j = true → takenB hs many j = false → cutB hs many = false := fun h5 h6 h7 => by
          unfold cutB
          rw [decide_eq_false_iff_not]
          intro h8
          have := h8 k (by rw [HNE.out]; exact hlt) h5 j (hbk h6) h6
          rw [h7] at this; cases this
        obtain ⟨x, hx⟩ : ∃ x, x = takenB hs many k := ⟨_, rfl⟩
        obtain ⟨y, hy⟩ : ∃ y, y = bef hs k j := ⟨_, rfl⟩
        obtain ⟨z, hzz⟩ : ∃ z, z = takenB hs many j := ⟨_, rfl⟩
        rw [← hy] at d1
        rw [← hx] at d2
        rw [← hzz] at d3
        rw [← hx, ← hy, ← hzz] at hno hnx
        have HNX := Lib.hid hnx
        have HNO := Lib.hid hno
        clear hnx hno hbk
        have HX := Lib.hid hx; have HY := Lib.hid hy; have HZZ := Lib.hid hzz
        clear hx hy hzz
        rcases (show (x = false) ∨ (x = true ∧ y = false) ∨ (x = true ∧ y = true ∧ z = true) ∨ (x = true ∧ y = true ∧ z = false) by cases x <;> cases y <;> cases z <;> simp) with rfl | ⟨rfl, rfl⟩ | ⟨rfl, rfl, rfl⟩ | ⟨rfl, rfl, rfl⟩
        · go_wp2
          go_round
          case rel => exact ⟨j + 1, by omega, by go_num, Lib.hid (by rw [← HX.out]; exact HNX.out (by simp))⟩
          case measure => simp [intOf]; omega
        · go_wp2
          go_round
          case rel => exact ⟨j + 1, by omega, by go_num, Lib.hid (by rw [← HX.out]; exact HNX.out (by simp))⟩
          case measure => simp [intOf]; omega
        · go_wp2
          go_round
          case rel => exact ⟨j + 1, by omega, by go_num, Lib.hid (by rw [← HX.out]; exact HNX.out (by simp))⟩
          case measure => simp [intOf]; omega
        · have hcb := HNO.out rfl rfl rfl
          have HCB := Lib.hid hcb
          clear hcb
          go_wp2
          go_ret2
          exact ⟨by rw [HOK.out, HCB.out, HE0.out]; rfl, HO5.out.drop.drop.drop⟩
end Go.Proofs.YtgjjilehpgnjhaaDoor
/- Owned slices of events. -/
namespace Go.Proofs.YtgjjilehpgnjhaaDoor
set_option linter.unusedVariables false
set_option linter.unusedSimpArgs false
open Go.RowKit
theorem info_ev : (Tryd.prog.info? 28).map (fun i => (i.zero, i.size, i.bytes)) = some (some (.agg #[.int .i64 0, .int .i64 0, .int .i64 0]), 3, 24) := by kernel_rfl
def EvSl (v : Value) (l : List Ev) : HProp := Sl 28 3 v l.length (l.flatMap evCells)
theorem EvSl_reads {w0 : World} {R : HProp} {v : Value} {l : List Ev} (hg : ∀ e ∈ l, goodEv e) : ReadsE w0 (EvSl v l * R) v l := fun _ ho => ⟨Own.rd ho, hg⟩
theorem ev_one (l : List Ev) : ∀ u ∈ l.flatMap evCells, u.oneCell' = true := by
  intro u hu
  obtain ⟨e, _, hu⟩ := List.mem_flatMap.1 hu
  simp [evCells] at hu
  rcases hu with rfl | rfl | rfl <;> rfl
theorem Own.evs_nil {w0 w : World} {R : HProp} (h : Own w0 R w) : Own w0 (EvSl (.slice none 0 0) [] * R) w := h.sl_nil _ _
theorem Own.evs_snoc {w0 w : World} {v : Value} {l l2 : List Ev} {R : HProp} (h : Own w0 (Sl 28 3 v (l.length + l2.length) (l.flatMap evCells ++ l2.flatMap evCells) * R) w) : Own w0 (EvSl v (l ++ l2) * R) w :=
  h.perm (by unfold EvSl; rw [List.length_append, List.flatMap_append])
end Go.Proofs.YtgjjilehpgnjhaaDoor
/- Contracts of package faces: what is heard, who hears ahead, who hears alike. -/
namespace Go.Proofs.YtgjjilehpgnjhaaDoor
set_option linter.unusedVariables false
set_option linter.unusedSimpArgs false
open Go.RowKit
def heardB (who : Int) (e : Ev) : Bool := decide (e.1 = who) && !decide (e.2.1 = 1)
def heardL (h : List Ev) (who : Int) : List Int := (h.filter (heardB who)).map (·.2.2)
def idxI (l : List Int) (x : Int) : Int := whereIs (fun n => decide (n = x)) l
def hearsB (second : Int) (e : Ev) : Bool := decide (e.2.1 = 3) && decide (e.2.2 = second)
def hasAhead (h : List Ev) (first second who : Int) : Bool := decide (0 ≤ idxI (heardL h who) first) && decide (idxI (heardL h who) first ≤ idxI (heardL h who) second)
def aheadB (h : List Ev) (first second : Int) : Bool := h.all fun e => !hearsB second e || hasAhead h first second e.1
def alikeB (a b : List Int) : Bool := keepB b a == keepB a b
set_option maxRecDepth 100000 in
set_option maxHeartbeats 4000000 in
theorem equal_any (va vb : Value) (a b : List Int) (w : World) (ha : Ints w va a) (hb : Ints w vb b) :
    Calls Tryd.prog 77 #[va, vb] w fun e w' => e = .returned (.bool (a == b)) ∧ ∃ n, w' = w.drewN n := by
  obtain ⟨ad, cap, rfl, hac, hacap⟩ := ha.shape
  obtain ⟨bd, bcap, rfl, hbc, hbcap⟩ := hb.shape
  have HA := Lib.hid ha; have HB := Lib.hid hb
  clear ha hb
  by_cases hlen : a.length = b.length
  · have hl' : ((a.length : Int) != (b.length : Int)) = false := by rw [bne_eq_false_iff_eq]; omega
    have h1 : a.length ≤ b.length := by omega
    have h2 : b.length ≤ a.length := by omega
    have HL := Lib.hid hlen
    clear hlen
    go_enter Tryd.func77, Tryd.ntmps77
    go_wp2_with fail
    go_loopw [13] (fun i wr => ∃ k : Nat, k ≤ a.length ∧ i = .int .i64 k ∧ Hid ((∀ j (h : j < k) (h' : j < a.length) (h'' : j < b.length), a[j] = b[j]) ∧ ∃ n, wr = w.drewN n)) (fun i _ => a.length - (intOf i).toNat)
    case atStart => exact ⟨0, Nat.zero_le _, rfl, fun j h => by omega, 0, rfl⟩
    case round =>
      obtain ⟨k, hk, rfl, hp⟩ := hrel
      obtain ⟨n, rfl⟩ := hp.out.2
      by_cases hlt : k < a.length
      · have hlt' : k < b.length := by omega
        obtain ⟨aa, rfl, hca⟩ := HA.out.at k hlt
        obtain ⟨ab, rfl, hcb⟩ := HB.out.at k hlt'
        by_cases hle : a[k] = b[k]
        · have hb' : (a[k] != b[k]) = false := by rw [bne_eq_false_iff_eq]; exact hle
          have Hle := Lib.hid hle
          clear hle
          go_wp2_with fail
          go_quiet (fail)
          go_wp2
          go_roundw
          case rel =>
            refine ⟨k + 1, by omega, by go_num, ⟨fun j h h' h'' => ?_, _, rfl⟩⟩
            by_cases hj : j < k
            · exact hp.out.1 j hj h' h''
            · have : j = k := by omega
              subst this; exact Hle.out
          case measure => simp [intOf]; omega
        · have hb' : (a[k] != b[k]) = true := by rw [bne_iff_ne]; exact hle
          have Hle := Lib.hid hle
          clear hle
          go_wp2_with fail
          go_quiet (fail)
          go_wp2
          go_ret
          exact ⟨ret_bool (by rw [eq_comm, beq_eq_false_iff_ne]; intro e; subst e; exact Hle.out rfl), _, World.drewN_drewN _ _ _⟩
      · go_wp2
        go_ret
        exact ⟨ret_bool (by rw [eq_comm, beq_iff_eq]; exact List.ext_getElem HL.out fun j h h' => hp.out.1 j (by omega) h h'), _, rfl⟩
  · have hl' : ((a.length : Int) != (b.length : Int)) = true := by rw [bne_iff_ne]; omega
    have HL := Lib.hid hlen
    clear hlen
    go_enter Tryd.func77, Tryd.ntmps77
    go_wp2
    go_ret
    exact ⟨ret_bool (by rw [eq_comm, beq_eq_false_iff_ne]; intro e; exact HL.out (by rw [e])), 0, rfl⟩
theorem heardL_len (h : List Ev) (who : Int) : (heardL h who).length ≤ h.length := by
  unfold heardL; rw [List.length_map]; exact List.length_filter_le _ _
theorem heardL_I64 {h : List Ev} (hg : ∀ e ∈ h, goodEv e) (who : Int) : ∀ x ∈ heardL h who, I64 x := by
  intro x hx
  obtain ⟨e, he, rfl⟩ := List.mem_map.1 hx
  exact (hg e (List.mem_filter.1 he).1).2.2
theorem heardL_step (h : List Ev) (who : Int) (k : Nat) (hk : k < h.length) : heardL (h.take (k + 1)) who = if heardB who (evAt h k) then heardL (h.take k) who ++ [(evAt h k).2.2] else heardL (h.take k) who := by
  unfold heardL
  rw [List.take_succ_eq_append_getElem hk, List.filter_append, evAt_get hk]
  cases hb : heardB who h[k]
  · simp [hb]
  · simp [hb]
set_option maxRecDepth 100000 in
set_option maxHeartbeats 4000000 in
theorem heard_any {w0 w : World} {R : HProp} (v : Value) (hs : List Ev) (who : Int) (h : Own w0 R w) (hv : ReadsE w0 R v hs) (hlen : hs.length ≤ 60) :
    Calls Tryd.prog 54 #[v, .int .i64 who] w fun e w' => ∃ v', e = .returned v' ∧ Own w0 (IntSl v' (heardL hs who) * R) w' := by
  obtain ⟨had, hcap, rfl, hc1, hc2⟩ := (hv _ h).shape
  obtain ⟨n, hn⟩ : ∃ n, n = hs.length := ⟨_, rfl⟩
  rw [← hn] at hc1 hlen hv ⊢
  have H := Lib.hid h; have HV := Lib.hid hv; have HN := Lib.hid hn
  clear h hv hn
  go_enter Tryd.func54, Tryd.ntmps54
  go_wp2_with fail
  go_loopw [10, 5] (fun iv ov wr => ∃ k : Nat, k ≤ n ∧ iv = .int .i64 k ∧ Hid (Own w0 (IntSl ov (heardL (hs.take k) who) * R) wr)) (fun iv _ _ => n - (intOf iv).toNat)
  case atStart => exact ⟨0, Nat.zero_le _, rfl, Lib.hid (by rw [List.take_zero]; exact H.out.sl_nil _ _)⟩
  case round =>
    obtain ⟨k, hk, rfl, HO⟩ := hrel
    by_cases hlt : k < n
    rotate_left
    · have ho := HO.out
      rw [List.take_of_length_le (by rw [← HN.out]; omega)] at ho
      have HF := Lib.hid ho
      clear ho
      go_wp2
      go_ret
      exact ⟨_, rfl, HF.out⟩
    have hkl : k < hs.length := by rw [← HN.out]; exact hlt
    obtain ⟨aa, pb, po, ps, rfl, hea, hcs, _⟩ := HV.out.more.at HO.out k hkl
    have hst := heardL_step hs who k hkl
    obtain ⟨out, hout⟩ : ∃ out, out = heardL (hs.take k) who := ⟨_, rfl⟩
    have hol : out.length ≤ 60 := by rw [hout]; have := heardL_len (hs.take k) who; simp at this; omega
    have ho := HO.out
    rw [← hout] at ho hst
    obtain ⟨x, hx⟩ : ∃ x, x = evAt hs k := ⟨_, rfl⟩
    rw [← hx] at hcs hst
    obtain ⟨c0, c1, c2⟩ := hcs _ HO.out
    obtain ⟨x1, x2, x3⟩ := x
    simp only at c0 c1 c2
    obtain ⟨eb, hb_eb⟩ : ∃ zz_, zz_ = (wr).heap.size := ⟨_, rfl⟩
    obtain ⟨w2, hw_w2⟩ : ∃ zz_, zz_ = (wr).alloc (.cells #[.int .i64 x1, .int .i64 x2, .int .i64 x3] 28 (0, 0)) := ⟨_, rfl⟩
    have h_HO1 := (ho).alloc (.cells #[.int .i64 x1, .int .i64 x2, .int .i64 x3] 28 (0, 0))
    rw [← hb_eb, ← hw_w2] at h_HO1
    have HO1 := Lib.hid h_HO1
    clear h_HO1
    have HE1 : Hid (Own w0 (EvO eb (x1, x2, x3) * (IntSl u5 out * R)) w2) := HO1
    clear HO1
    obtain ⟨d0, d1, d2⟩ := HE1.out.ev
    simp only at d0 d1 d2
    have HA : Hid (Own w0 (Sl 3 1 u5 out.length (out.map (Value.int .i64)) * (EvO eb (x1, x2, x3) * R)) w2) := Lib.hid (HE1.out.perm (by unfold IntSl; ac_rfl))
    have HD : Hid (Own w0 (IntSl u5 out * R) w2) := Lib.hid HE1.out.drop
    have hB : heardB who (x1, x2, x3) = ((x1 == who) && (x2 != 1)) := by unfold heardB; by_cases a1 : x1 = who <;> by_cases a2 : x2 = 1 <;> simp [a1, a2]
    rw [hB] at hst
    have HCS := Lib.hid hcs; have HX := Lib.hid hx; have HOUT := Lib.hid hout; have HO := Lib.hid ho; have HST := Lib.hid hst; have HB := Lib.hid hB
    clear hcs hx hout ho hst hB
    go_upto_region 5 with fail
    rw [← hb_eb, ← hw_w2]
    clear hb_eb hw_w2
    clear c0 c1 c2
    by_cases h1 : x1 = who
    · have t1 : (x1 == who) = true := by simpa using h1
      by_cases h2 : x2 = 1
      · have t2 : (x2 != 1) = false := by simpa using h2
        have hs2 := HST.out
        rw [t1, t2] at hs2
        simp only [Bool.and_false, Bool.false_eq_true, if_false] at hs2
        have HN2 : Hid (Own w0 (IntSl u5 (heardL (hs.take (k + 1)) who) * R) w2) := Lib.hid (by rw [hs2]; exact HD.out)
        have H1 := Lib.hid h1; have H2 := Lib.hid h2; have HS2 := Lib.hid hs2
        clear h1 h2 hs2
        go_wp2_with fail
        go_roundw
        case rel => exact ⟨k + 1, by omega, by go_num, HN2⟩
        case measure => simp [intOf]; omega
      · have t2 : (x2 != 1) = true := by simpa using h2
        have hs2 := HST.out
        rw [t1, t2] at hs2
        simp only [Bool.and_true, if_true] at hs2
        have H1 := Lib.hid h1; have H2 := Lib.hid h2; have HS2 := Lib.hid hs2
        clear h1 h2 hs2
        go_wp2_with (at_builtin; refine wpList_app rfl _ _ 31 rfl 3 1 8 _ info_int Tryd.underlying31 rfl (by decide) rfl (HA.out.alloc' _) rfl (by rfl) (Rd_lit (by simp) (by unfold maxLen; omega)) (by intro u hu; simp at hu; subst hu; rfl) (by unfold maxLen; omega) (by omega) ?_; intro v' w4 hown; have HN2 : Hid (Own w0 (IntSl v' (heardL (hs.take (k + 1)) who) * R) w4) := Lib.hid (by rw [HS2.out]; exact (hown.perm (show _ = EvO eb (x1, x2, x3) * (IntSl v' (out ++ [x3]) * R) by unfold IntSl; simp; ac_rfl)).drop); clear hown)
        go_roundw
        case rel => exact ⟨k + 1, by omega, by go_num, HN2⟩
        case measure => simp [intOf]; omega
    · have t1 : (x1 == who) = false := by simpa using h1
      have hs2 := HST.out
      rw [t1] at hs2
      simp only [Bool.false_and, Bool.false_eq_true, if_false] at hs2
      have HN2 : Hid (Own w0 (IntSl u5 (heardL (hs.take (k + 1)) who) * R) w2) := Lib.hid (by rw [hs2]; exact HD.out)
      have H1 := Lib.hid h1; have HS2 := Lib.hid hs2
      clear h1 hs2
      go_wp2_with fail
      go_roundw
      case rel => exact ⟨k + 1, by omega, by go_num, HN2⟩
      case measure => simp [intOf]; omega
set_option maxRecDepth 100000 in
set_option maxHeartbeats 4000000 in
theorem alike_any {w0 w : World} {R : HProp} (va vb : Value) (A B : List Int) (h : Own w0 R w) (hA : Reads w0 R va A) (hB : Reads w0 R vb B) (ha : A.length ≤ 100000) (hb : B.length ≤ 100000) :
    Calls Tryd.prog 53 #[va, vb] w fun e w' => e = .returned (.bool (alikeB A B)) ∧ Own w0 R w' := by
  obtain ⟨ad, acap, rfl, _, _⟩ := (hA _ h).shape
  obtain ⟨bd, bcap, rfl, _, _⟩ := (hB _ h).shape
  have hAI := (hA _ h).2
  have hBI := (hB _ h).2
  have H := Lib.hid h; have HA := Lib.hid hA; have HB := Lib.hid hB; have HAI := Lib.hid hAI; have HBI := Lib.hid hBI
  clear h hA hB hAI hBI
  go_enter Tryd.func53, Tryd.ntmps53
  go_wp2_with fail
  refine (only_any _ _ A B HA.out HB.out ha H.out).mono ?_
  rintro e w2 ⟨v2, rfl, ho⟩
  have HO2 := Lib.hid ho
  clear ho
  go_wp2_with fail
  refine (only_any _ _ B A HB.out.more HA.out.more hb HO2.out).mono ?_
  rintro e w3 ⟨v3, rfl, ho⟩
  have HO3 := Lib.hid ho
  clear ho
  have h1 : Ints w3 v3 (keepB A B) := IntSl_reads (fun x hx => HBI.out x (List.mem_filter.1 hx).1) _ HO3.out
  have h2 : Ints w3 v2 (keepB B A) := IntSl_reads (fun x hx => HAI.out x (List.mem_filter.1 hx).1) _ (HO3.out.perm (star_left_comm _ _ _))
  have H1 := Lib.hid h1; have H2 := Lib.hid h2
  clear h1 h2
  go_wp2_with fail
  refine (equal_any v2 v3 _ _ _ H2.out H1.out).mono ?_
  rintro e w4 ⟨rfl, nq, rfl⟩
  obtain ⟨z, hz⟩ : ∃ z, z = (keepB B A == keepB A B) := ⟨_, rfl⟩
  rw [← hz]
  have HZ := Lib.hid hz
  clear hz
  go_wp2
  go_ret
  exact ⟨by rw [HZ.out]; rfl, (HO3.out.drewN _).drop.drop⟩
end Go.Proofs.YtgjjilehpgnjhaaDoor
