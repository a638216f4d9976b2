/- Contracts of package picture: Sum, OnWay, New. -/
import Derived.Test.YtdeeephdojflpaaDoorPic5
import Derived.Test.YtdeeephdojflpaaDoorRange
namespace Go.Proofs.YtdeeephdojflpaaDoor
set_option linter.unusedVariables false
set_option linter.unusedSimpArgs false
open Go.RowKit Go.Maps
def leftSum (m : List (Int × Int)) (left : List Int) : Int := (left.map fun x => (mget m x).getD 0).sum
theorem dropKey_none {left : List Int} {x : Int} (h : x ∉ left) : dropKey left x = left := by
  unfold dropKey
  rw [List.filter_eq_self]
  intro y hy
  simp only [decide_eq_true_eq]
  rintro rfl; exact h hy
theorem leftSum_drop (m : List (Int × Int)) : ∀ (left : List Int) (x : Int), left.Nodup → x ∈ left → leftSum m left = (mget m x).getD 0 + leftSum m (dropKey left x)
  | y :: r, x, hn, hx => by
    rw [List.nodup_cons] at hn
    by_cases hyx : y = x
    · subst hyx
      have : dropKey (y :: r) y = r := by
        show (y :: r).filter _ = r
        rw [List.filter_cons_of_neg (by simp)]
        exact dropKey_none hn.1
      rw [this]; rfl
    · have hxr : x ∈ r := by rcases List.mem_cons.1 hx with e | e; exact absurd e.symm hyx; exact e
      have ih := leftSum_drop m r x hn.2 hxr
      have : dropKey (y :: r) x = y :: dropKey r x := by
        show (y :: r).filter _ = y :: r.filter _
        rw [List.filter_cons_of_pos (by simpa using hyx)]
      rw [this]
      unfold leftSum at ih ⊢
      simp only [List.map_cons, List.sum_cons]
      omega
theorem leftSum_all : ∀ (m : List (Int × Int)), (m.map (·.1)).Nodup → leftSum m (m.map (·.1)) = (m.map (·.2)).sum := by
  intro m hn
  unfold leftSum
  congr 1
  rw [List.map_map]
  apply List.map_congr_left
  intro p hp
  obtain ⟨j, hj, rfl⟩ := List.getElem_of_mem hp
  have := mget_at hn (j := j) (x := m[j].1) (u := m[j].2) (by rw [List.getElem?_eq_getElem hj])
  show (mget m m[j].1).getD 0 = m[j].2
  rw [this]; rfl
theorem leftSum_bd {m : List (Int × Int)} (hv : ∀ p ∈ m, 0 ≤ p.2 ∧ p.2 ≤ 1000000) : ∀ (left : List Int), 0 ≤ leftSum m left ∧ leftSum m left ≤ 1000000 * left.length
  | [] => by simp [leftSum]
  | x :: r => by
    have ih := leftSum_bd hv r
    have hx : 0 ≤ (mget m x).getD 0 ∧ (mget m x).getD 0 ≤ 1000000 := by
      cases hg : mget m x with
      | none => simp
      | some z =>
        have : ∃ p ∈ m, p.2 = z := by
          clear ih hv
          induction m with
          | nil => cases hg
          | cons q t ih =>
            unfold mget at hg
            split at hg
            · cases hg; exact ⟨q, by simp, rfl⟩
            · obtain ⟨p, hp, e⟩ := ih hg; exact ⟨p, by simp [hp], e⟩
        obtain ⟨p, hp, rfl⟩ := this
        exact hv p hp
    unfold leftSum at ih ⊢
    simp only [List.map_cons, List.sum_cons, List.length_cons]
    omega
abbrev SumB (b : Nat) (x y : Int) : HProp := blk b (.cells #[.int .i64 x, .int .i64 y] 108 (0, 0))
theorem Own.sumb {w0 w : World} {b : Nat} {x y : Int} {R : HProp} (h : Own w0 (SumB b x y * R) w) : w.cell? ⟨b, 0, none⟩ = some (.int .i64 x) ∧ w.cell? ⟨b, 1, none⟩ = some (.int .i64 y) ∧ w.frozen? ⟨b, 0, none⟩ = false ∧ w.frozen? ⟨b, 1, none⟩ = false := ⟨(h.cell 0).trans rfl, (h.cell 1).trans rfl, h.free 0 none, h.free 1 none⟩
theorem Own.sumb_put {w0 w : World} {b : Nat} {x y : Int} {R : HProp} (h : Own w0 (SumB b x y * R) w) (x' y' : Int) : Own w0 (SumB b x' y' * R) ((w.setCell ⟨b, 0, none⟩ (.int .i64 x')).setCell ⟨b, 1, none⟩ (.int .i64 y')) :=
  (h.setCell (i := 0) (v := .int .i64 x')).setCell (i := 1) (v := .int .i64 y')
theorem Own.sumb_put0 {w0 w : World} {b : Nat} {x y : Int} {R : HProp} (h : Own w0 (SumB b x y * R) w) (x' : Int) : Own w0 (SumB b x' y * R) (w.setCell ⟨b, 0, none⟩ (.int .i64 x')) := h.setCell (i := 0) (v := .int .i64 x')
theorem PicOk.hadB {s : Pic} (h : PicOk s) (hn : (s.wrote.map (·.1)).Nodup) : 0 ≤ pcHad s ∧ pcHad s ≤ 5000000 := by
  have h1 := leftSum_bd h.wrote (s.wrote.map (·.1))
  rw [leftSum_all _ hn, List.length_map] at h1
  have := h.few
  unfold pcHad
  omega
theorem it_keys {w0 w : World} {b r : Nat} {l : List (Int × Int)} {left : List Int} {last : Option Int} {R : HProp} (h : Own w0 (MpIt (fun n : Int => Value.int .i64 n) I64 b r (mvals iV l) left last * R) w) : (l.map (·.1)).Nodup := by
  have := h.it_end.map_nodup
  unfold mvals at this
  rw [List.map_map] at this
  exact this
set_option maxRecDepth 100000 in
set_option maxHeartbeats 4000000 in
theorem pSum_any {w0 w : World} {R : HProp} {p mb1 mb2 mb3 gb go gc n : Nat} (s : Pic) (hok : PicOk s) (h : Own w0 (PicA p mb1 mb2 mb3 gb go gc n s * R) w) :
    Calls Tryd.prog 56 #[.pointer (some ⟨p, 0, none⟩)] w fun e w' => e = .returned (.tuple #[.agg #[.int .i64 (if pcDone s = true then pcHad s else 0), .int .i64 (if pcDone s = true then s.onWay else 0)], errV (if pcDone s = true then 0 else 6)]) ∧ Own w0 (PicA p mb1 mb2 mb3 gb go gc n s * R) w' := by
  obtain ⟨b1, hb_b1⟩ : ∃ zz_, zz_ = (w).heap.size := ⟨_, rfl⟩
  obtain ⟨w1, hw_w1⟩ : ∃ zz_, zz_ = (w).alloc (.cells #[.int .i64 0, .int .i64 0] 108 (0, 0)) := ⟨_, rfl⟩
  have h_HO1 := (h).alloc (.cells #[.int .i64 0, .int .i64 0] 108 (0, 0))
  rw [← hb_b1, ← hw_w1] at h_HO1
  have HO1 := Lib.hid h_HO1
  clear h_HO1
  have HP : Hid (Own w0 (PicA p mb1 mb2 mb3 gb go gc n s * (SumB b1 0 0 * R)) w1) := Lib.hid HO1.out.second
  clear HO1 h
  cases hd : pcDone s
  · rw [if_neg (by simp), if_neg (by simp), if_neg (by simp)]
    have HD := Lib.hid hd; have HOK := Lib.hid hok
    clear hd hok
    go_enter Tryd.func56, Tryd.ntmps56
    go_upto_region 1 with fail
    rw [← hb_b1, ← hw_w1]
    clear hb_b1 hw_w1
    go_wp2_with fail
    refine (pDone_any s HP.out).mono ?_
    rintro e w2 ⟨rfl, ho⟩
    rw [HD.out]
    have HB : Hid (Own w0 (SumB b1 0 0 * (PicA p mb1 mb2 mb3 gb go gc n s * R)) w2) := Lib.hid ho.second
    clear ho HP
    obtain ⟨z0, z1, f0, f1⟩ := HB.out.sumb
    have HF := Lib.hid (HB.out.sumb_put 0 0)
    obtain ⟨r0, r1, _⟩ := HF.out.sumb
    go_wp2_with fail
    exact bodyPost_ret (v := .tuple #[.agg #[.int .i64 0, .int .i64 0], errV 6]) (by simp [results, Tryd.results56, go_sem, r0, r1]; rfl) rfl ⟨rfl, HF.out.drop⟩
  rw [if_pos rfl, if_pos rfl, if_pos rfl, errV0]
  obtain ⟨on, hon⟩ : ∃ on, on = s.onWay := ⟨_, rfl⟩
  obtain ⟨T, hT⟩ : ∃ T, T = pcHad s := ⟨_, rfl⟩
  rw [← hon, ← hT]
  have HD := Lib.hid hd; have HOK := Lib.hid hok; have HON := Lib.hid hon; have HT := Lib.hid hT
  clear hd hok hon hT
  go_enter Tryd.func56, Tryd.ntmps56
  go_upto_region 1 with fail
  rw [← hb_b1, ← hw_w1]
  clear hb_b1 hw_w1
  go_wp2_with fail
  refine (pDone_any s HP.out).mono ?_
  rintro e w2 ⟨rfl, ho⟩
  rw [HD.out]
  obtain ⟨m, hm, hq⟩ := ho.pic_open
  obtain ⟨_, _, _, c3, _, c5, _⟩ := hq.pic_facts
  rw [← HON.out] at c5
  obtain ⟨b4, hb_b4⟩ : ∃ zz_, zz_ = (w2).heap.size := ⟨_, rfl⟩
  obtain ⟨w4, hw_w4⟩ : ∃ zz_, zz_ = (w2).alloc (.cells #[.int .i64 0, .int .i64 on] 108 (0, 0)) := ⟨_, rfl⟩
  have h_HO4 := (hq).alloc (.cells #[.int .i64 0, .int .i64 on] 108 (0, 0))
  rw [← hb_b4, ← hw_w4] at h_HO4
  have HO4 := Lib.hid h_HO4
  clear h_HO4
  clear ho HP hq
  have HM := Lib.hid hm
  clear hm
  go_upto_region 4 with fail
  rw [← hb_b4, ← hw_w4]
  clear hb_b4 hw_w4
  clear c3 c5
  obtain ⟨_, _, _, c3, _⟩ := HO4.out.drop.pic_facts
  obtain ⟨rb, hrb⟩ : ∃ rb, rb = w4.heap.size := ⟨_, rfl⟩
  have hnd0 : (s.wrote.map (·.1)).Nodup := by
    have := HO4.out.drop.pic_wrote.map_nodup
    unfold mvals at this
    rw [List.map_map] at this
    exact this
  have hTb := HOK.out.hadB hnd0
  rw [← HT.out] at hTb
  obtain ⟨X, hX⟩ : ∃ X, X = picB p mb1 mb2 mb3 gb go gc n s.begun s.onWay * (goldS gb go gc n s.gold * (waysS mb1 m * (opnS mb3 s.opn * (SumB b1 0 0 * R)))) := ⟨_, rfl⟩
  have HW4 : Hid (Own w0 (wroteS mb2 s.wrote * (SumB b4 0 on * X)) w4) := Lib.hid ((show Own w0 (SumB b4 0 on * (PicO p mb1 mb2 mb3 gb go gc n m s * (SumB b1 0 0 * R))) w4 from HO4.out).perm (by rw [hX]; unfold PicO; ac_rfl))
  have HXE : Hid (∀ w', Own w0 (wroteS mb2 s.wrote * (SumB b4 T on * X)) w' → Own w0 (SumB b1 0 0 * (SumB b4 T on * (PicA p mb1 mb2 mb3 gb go gc n s * R))) w') := Lib.hid (fun w' h => by
    have h1 : Own w0 (PicO p mb1 mb2 mb3 gb go gc n m s * (SumB b1 0 0 * (SumB b4 T on * R))) w' := h.perm (by rw [hX]; unfold PicO; ac_rfl)
    exact (h1.pic_close HM.out).perm (by ac_rfl))
  clear HO4
  have HND0 := Lib.hid hnd0; have HRB := Lib.hid hrb; have HTB := Lib.hid hTb; have HX := Lib.hid hX
  clear hnd0 hrb hTb hX
  go_wp2_with (refine wpList_range mapgi_kind HW4.out rfl _ rfl rfl ?_; intro w5 ho5; rw [← HRB.out] at ho5 ⊢; have HW5 := Lib.hid ho5; clear ho5)
  go_simp
  go_loopg [] (s.wrote.length) (fun g wr => ∃ (left : List Int) (last : Option Int) (H : Int), left.length ≤ g ∧ left.length ≤ 5 ∧ Hid (left.Nodup ∧ H + leftSum s.wrote left = T) ∧ Hid (Own w0 (MpIt (fun n : Int => Value.int .i64 n) I64 mb2 rb (mvals iV s.wrote) left last * (SumB b4 H on * X)) wr))
  case atStart =>
    have hl5 : ((mvals iV s.wrote).map (·.1)).length ≤ 5 := by simp [mvals]; exact HOK.out.few
    have hk : (mvals iV s.wrote).map (·.1) = s.wrote.map (·.1) := by unfold mvals; rw [List.map_map]; rfl
    refine ⟨(mvals iV s.wrote).map (·.1), none, 0, by simp [mvals], hl5, Lib.hid ⟨by rw [hk]; exact HND0.out, ?_⟩, HW5⟩
    rw [hk, leftSum_all _ HND0.out, HT.out]; unfold pcHad; omega
  case round =>
    clear HW5 HW4 c3
    obtain ⟨left, last, H, hlen, h5, HS, HP⟩ := hrel
    obtain ⟨k0, k1, f0, f1⟩ := HP.out.second.sumb
    go_wp2_with (refine wpList_next (int_ke int_kind) HP.out rfl _ rfl rfl ?_ ?_)
    · intro hnil
      subst hnil
      have hHT : H = T := by have := HS.out.2; simp [leftSum] at this; omega
      subst hHT
      have HF := Lib.hid (HXE.out _ HP.out.it_end)
      obtain ⟨z0, z1, g0, g1⟩ := HF.out.sumb
      obtain ⟨y0, y1, _⟩ := HF.out.drop.sumb
      have HFF := Lib.hid (HF.out.sumb_put H on)
      obtain ⟨r0, r1, _⟩ := HFF.out.sumb
      go_wp2_with fail
      exact bodyPost_ret (v := .tuple #[.agg #[.int .i64 H, .int .i64 on], .nilIface]) (by simp [results, Tryd.results56, go_sem, r0, r1]) rfl ⟨rfl, HFF.out.drop.drop⟩
    · intro x v w6 hmem hxl hent ho
      have hlt := dropKey_lt hxl
      obtain ⟨z, rfl, hz⟩ : ∃ z, v = .int .i64 z ∧ (mget s.wrote x).getD 0 = z := by
        unfold mvals at hmem
        obtain ⟨q, hq, e⟩ := List.mem_map.1 hmem
        obtain ⟨j, hj, rfl⟩ := List.getElem_of_mem hq
        cases e
        have := mget_at HND0.out (j := j) (x := s.wrote[j].1) (u := s.wrote[j].2) (by rw [List.getElem?_eq_getElem hj])
        exact ⟨_, rfl, by rw [this]; rfl⟩
      have hdrop := leftSum_drop s.wrote left x HS.out.1 hxl
      have hb := leftSum_bd HOK.out.wrote (dropKey left x)
      have hb2 := leftSum_bd HOK.out.wrote left
      have htot := HS.out.2
      have htb := HTB.out
      rw [hz] at hdrop
      have hlt5 : ((dropKey left x).length : Int) ≤ 5 := by omega
      have hwr : IntKind.i64.wrap (H + z) = H + z := by rw [IntKind.wrap_i64]; omega
      have hnd : (dropKey left x).Nodup := List.Pairwise.filter _ HS.out.1
      have hnew : H + z + leftSum s.wrote (dropKey left x) = T := by omega
      clear k0 k1 f0 f1
      obtain ⟨k0, k1, f0, f1⟩ := ho.second.sumb
      have HNW := Lib.hid (ho.second.sumb_put0 (H + z)).second
      clear ho
      have HMEM := Lib.hid hmem; have HXL := Lib.hid hxl; have HZ := Lib.hid hz; have HDROP := Lib.hid hdrop; have HB := Lib.hid hb; have HB2 := Lib.hid hb2; have HTOT := Lib.hid htot; have HTB := Lib.hid htb; have HND := Lib.hid hnd; have HNEW := Lib.hid hnew
      clear hmem hxl hz hdrop hb hb2 htot htb hnd hnew
      go_wp2
      go_roundg ((dropKey left x).length)
      case measure => omega
      case rel => exact ⟨dropKey left x, some x, H + z, Nat.le_refl _, by omega, Lib.hid ⟨HND.out, HNEW.out⟩, HNW⟩
set_option maxRecDepth 100000 in
set_option maxHeartbeats 4000000 in
theorem pOnWay_any {w0 w : World} {R : HProp} {p mb1 mb2 mb3 gb go gc n : Nat} (s : Pic) (a b : Int) (hok : PicOk s) (h : Own w0 (PicA p mb1 mb2 mb3 gb go gc n s * R) w) :
    Calls Tryd.prog 64 #[.pointer (some ⟨p, 0, none⟩), .int .i64 a, .int .i64 b] w fun e w' => ∃ v', e = .returned (.tuple #[v', errV (pcWay s a b)]) ∧ Own w0 (IntSl v' (if pcWay s a b = 0 then pcRow s a b else []) * (PicA p mb1 mb2 mb3 gb go gc n s * R)) w' := by
  obtain ⟨b1, hb_b1⟩ : ∃ zz_, zz_ = (w).heap.size := ⟨_, rfl⟩
  obtain ⟨w1, hw_w1⟩ : ∃ zz_, zz_ = (w).alloc (.cells #[.int .i64 a, .int .i64 b] 158 (0, 0)) := ⟨_, rfl⟩
  have h_HO1 := (h).alloc (.cells #[.int .i64 a, .int .i64 b] 158 (0, 0))
  rw [← hb_b1, ← hw_w1] at h_HO1
  have HO1 := Lib.hid h_HO1
  clear h_HO1
  have x0 : w1.cell? ⟨b1, 0, none⟩ = some (.int .i64 a) := (HO1.out.cell 0).trans rfl
  have x1 : w1.cell? ⟨b1, 1, none⟩ = some (.int .i64 b) := (HO1.out.cell 1).trans rfl
  have HP : Hid (Own w0 (PicA p mb1 mb2 mb3 gb go gc n s * (blk b1 (.cells #[.int .i64 a, .int .i64 b] 158 (0, 0)) * R)) w1) := Lib.hid HO1.out.second
  clear HO1 h
  by_cases hc : pcWay s a b = 0
  rotate_left
  · obtain ⟨mm, hmm⟩ := errV_some hc
    rw [if_neg hc, hmm]
    have HC := Lib.hid hc; have HMM := Lib.hid hmm; have HOK := Lib.hid hok
    clear hc hmm hok
    go_enter Tryd.func64, Tryd.ntmps64
    go_upto_region 2 with fail
    rw [← hb_b1, ← hw_w1]
    clear hb_b1 hw_w1
    go_wp2_with fail
    refine (pCheck_any s a b HP.out).mono ?_
    rintro e w2 ⟨rfl, ho⟩
    have HF := Lib.hid ho.second.drop
    clear ho
    rw [HMM.out]
    go_wp2
    go_ret2
    exact ⟨_, rfl, HF.out.sl_nil _ _⟩
  have hway := pcWay0.1 hc
  have haI := pcHas_small hok.n5 (pcHas_mem.2 hway.1)
  have hbI := pcHas_small hok.n5 (pcHas_mem.2 hway.2.1)
  have hx : plOk (a, b) := ⟨haI, hbI⟩
  have hrl := hok.row a b
  rw [if_pos hc]
  obtain ⟨L, hL⟩ : ∃ L, L = pcRow s a b := ⟨_, rfl⟩
  rw [← hL] at hrl
  rw [← hL, hc, errV0]
  have hRowI : ∀ y ∈ L, I64 y := fun y hy => by have := hrl.2 y hy; unfold I64; omega
  have HC := Lib.hid hc; have HWAY := Lib.hid hway; have HAI := Lib.hid haI; have HBI := Lib.hid hbI; have HX := Lib.hid hx; have HRL := Lib.hid hrl; have HL := Lib.hid hL; have HROWI := Lib.hid hRowI; have HOK := Lib.hid hok
  clear hc hway haI hbI hx hrl hL hRowI hok
  go_enter Tryd.func64, Tryd.ntmps64
  go_upto_region 2 with fail
  rw [← hb_b1, ← hw_w1]
  clear hb_b1 hw_w1
  go_wp2_with fail
  refine (pCheck_any s a b HP.out).mono ?_
  rintro e w2 ⟨rfl, ho⟩
  rw [HC.out, errV0]
  obtain ⟨m, hm, hq⟩ := ho.pic_open
  obtain ⟨_, c1, _⟩ := hq.drew.pic_facts
  clear x0 x1
  have x0 : w2.drew.cell? ⟨b1, 0, none⟩ = some (.int .i64 a) := (ho.drew.drop.cell 0).trans rfl
  have x1 : w2.drew.cell? ⟨b1, 1, none⟩ = some (.int .i64 b) := (ho.drew.drop.cell 1).trans rfl
  have hlk := hq.drew.pic_row (a, b) HX.out
  have hrd := hq.drew.pic_rd hm a b (by rw [← HL.out]; exact HROWI.out)
  obtain ⟨V, hV⟩ : ∃ V, V = ((mget m (a, b)).getD nilRow).1 := ⟨_, rfl⟩
  rw [← hV] at hlk hrd
  rw [← HL.out] at hrd
  simp only at hlk
  have HOD := Lib.hid ho.drew
  clear ho
  have HM := Lib.hid hm; have HQ := Lib.hid hq; have HV := Lib.hid hV; have HRD := Lib.hid hrd
  clear hm hq hV hrd
  go_upto_region 5 with fail
  refine wp_region_planH 8 [] [(true, 0), (true, 1), (true, 2), (true, 3), (true, 4), (true, 5), (false, 6), (false, 7)] [8] (fun wS => (wS.cell? ⟨p, 1, none⟩ = some (.map (some mb1)) ∧ wS.cell? ⟨b1, 0, none⟩ = some (.int .i64 a) ∧ wS.cell? ⟨b1, 1, none⟩ = some (.int .i64 b)) ∧ (Instr.lookup 152 (.map (some mb1)) (.agg #[.int .i64 a, .int .i64 b]) false).run Tryd.prog wS = .ok V wS) (by kernel_rfl) (by kernel_rfl) (⟨⟨c1, x0, x1⟩, hlk⟩) ?_
  simp only [pickH, pick, List.getElem?_cons_succ, List.getElem?_cons_zero, Option.toList, Option.map_some, List.cons_append, List.nil_append]
  repeat (refine wpPure_step ?_ rfl ?_ ?_; rotate_left; (focus (intro _; first | with_reducible rfl | (go_simp; done) | (go_simp; with_reducible rfl) | rfl)); go_simp)
  refine wpPure_nil ?_
  repeat (refine wpMix_read ?_ rfl ?_ ?_; rotate_left; (focus (intro _ hS; obtain ⟨⟨s1, s2, s3⟩, s4⟩ := hS; first | with_reducible rfl | (go_simp; done) | (go_simp; with_reducible rfl) | rfl)); go_simp)
  refine wpMix_write (fun K hK => ?_)
  go_simp
  refine (cloneInts_any HQ.out.drew V L HRD.out (by have := HRL.out.1; omega)).mono ?_
  rintro e w3 ⟨v3, rfl, ho3⟩
  obtain ⟨_, k1, _⟩ := ho3.drop.pic_facts
  have k0 : w3.cell? ⟨b1, 0, none⟩ = some (.int .i64 a) := (ho3.drop.drop.cell 0).trans rfl
  have k2 : w3.cell? ⟨b1, 1, none⟩ = some (.int .i64 b) := (ho3.drop.drop.cell 1).trans rfl
  have k3 := ho3.drop.pic_row (a, b) HX.out
  rw [← HV.out] at k3
  simp only at k3
  have HO3 : Hid (Own w0 (IntSl v3 L * (PicA p mb1 mb2 mb3 gb go gc n s * R)) w3) := Lib.hid (by
    have h1 : Own w0 (PicO p mb1 mb2 mb3 gb go gc n m s * (IntSl v3 L * R)) w3 := (ho3.perm (show _ = blk b1 (.cells #[.int .i64 a, .int .i64 b] 158 (0, 0)) * (PicO p mb1 mb2 mb3 gb go gc n m s * (IntSl v3 L * R)) by ac_rfl)).drop
    exact (h1.pic_close HM.out).second)
  clear ho3
  refine hK _ _ ⟨⟨⟨k1, k0, k2⟩, k3⟩, ?_⟩
  clear hK K
  go_simp
  refine wpMix_write (fun K hK => ?_)
  go_simp
  refine hK _ _ ⟨⟨⟨k1, k0, k2⟩, k3⟩, ?_⟩
  clear hK K
  go_simp
  refine wpMix_nil ?_
  clear c1 x0 x1 hlk k0 k1 k2 k3
  go_wp2_with fail
  refine NoPanic.normal ?_
  go_wp2
  go_ret2
  exact ⟨_, rfl, HO3.out⟩
end Go.Proofs.YtdeeephdojflpaaDoor
