/- Contracts of package agree, continued: New. -/
import Derived.Test.YtiipldlggjjlnaaMTopTotal13
namespace Go.Proofs.Ytiipldlggjjlnaa
set_option linter.unusedVariables false
set_option linter.unusedSimpArgs false
open Go.RowKit Go.Maps
theorem info_agm : (Try.prog.info? 80).map (fun i => (i.zero, i.size, i.bytes)) = some (some (.pointer none), 1, 8) := by kernel_rfl
theorem mapgv_made : ∀ w, (Instr.makeMap 75 none).run Try.prog w = .ok (.map (some w.heap.size)) (w.alloc (.map #[] 0)) := fun _ => by kernel_rfl
theorem mapwho_made : ∀ w, (Instr.makeMap 76 none).run Try.prog w = .ok (.map (some w.heap.size)) (w.alloc (.map #[] 0)) := fun _ => by kernel_rfl
theorem mapwt_made : ∀ w, (Instr.makeMap 81 none).run Try.prog w = .ok (.map (some w.heap.size)) (w.alloc (.map #[] 0)) := fun _ => by kernel_rfl
abbrev agHd2 (p gb wb : Nat) (mv : Value) : HProp := blk p (.cells #[mv, .map (some gb), .map (some wb)] 79 (0, 0))
/-- A group in the making. -/
def AgNn (p gb wb : Nat) (mv : Value) (rs : List AgR) : HProp := agHd2 p gb wb mv * (Sl 80 1 mv rs.length (rs.map agV) * (starL agM rs * (MpS iK I64 stP Prod.fst gb [] * MpS iK I64 rowP Prod.fst wb [])))
section
variable {w0 w : World} {p gb wb : Nat} {mv : Value} {rs : List AgR} {R : HProp}
theorem agN_open (h : Own w0 (AgNn p gb wb mv rs * R) w) : Own w0 (agHd2 p gb wb mv * (Sl 80 1 mv rs.length (rs.map agV) * (starL agM rs * (MpS iK I64 stP Prod.fst gb [] * (MpS iK I64 rowP Prod.fst wb [] * R))))) w := h.perm (by unfold AgNn; ac_rfl)
theorem agN_app (o : Obj) (h : Own w0 (AgNn p gb wb mv rs * R) w) :
    Own w0 (Sl 80 1 mv rs.length (rs.map agV) * (agHd2 p gb wb mv * (starL agM rs * (MpS iK I64 stP Prod.fst gb [] * (MpS iK I64 rowP Prod.fst wb [] * (agM ⟨w.heap.size + 2, w.heap.size, w.heap.size + 1, .slice none 0 0, ⟨0, [], [], []⟩⟩ * R))))))
      ((((w.alloc (.map #[] 0)).alloc (.map #[] 0)).alloc (.cells #[.int .i64 0, .map (some w.heap.size), .map (some (w.heap.size + 1)), .slice none 0 0] 84)).alloc o) := by
  have h1 := ((((h.map_new (enc := fun n : Int => Value.int .i64 n) (ok := I64)).map_new (enc := fun n : Int => Value.int .i64 n) (ok := I64)).alloc (.cells #[.int .i64 0, .map (some w.heap.size), .map (some (w.heap.size + 1)), .slice none 0 0] 84)).sl_nil 3 1).perm (show _ = Sl 80 1 mv rs.length (rs.map agV) * (agHd2 p gb wb mv * (starL agM rs * (MpS iK I64 stP Prod.fst gb [] * (MpS iK I64 rowP Prod.fst wb [] * (agM ⟨w.heap.size + 2, w.heap.size, w.heap.size + 1, .slice none 0 0, ⟨0, [], [], []⟩⟩ * R))))) by
    unfold AgNn agM agBlk IntSl IMp
    simp only [World.size_alloc, setM, mvals, List.map_nil, List.length_nil]
    ac_rfl)
  exact h1.alloc' o
theorem agN_push {q mb1 mb2 : Nat} {hv v' : Value} {m : AgM}
    (h : Own w0 (Sl 80 1 v' (rs.length + 1) (rs.map agV ++ [.pointer (some ⟨q, 0, none⟩)]) * (agHd2 p gb wb mv * (starL agM rs * (MpS iK I64 stP Prod.fst gb [] * (MpS iK I64 rowP Prod.fst wb [] * (agM ⟨q, mb1, mb2, hv, m⟩ * R)))))) w) :
    Own w0 (AgNn p gb wb v' (rs ++ [⟨q, mb1, mb2, hv, m⟩]) * R) (w.setCell ⟨p, 0, none⟩ v') := by
  have h1 := h.second.setCell (i := 0) (v := v')
  refine h1.perm ?_
  unfold AgNn agHd2
  rw [starL_snoc, List.length_append, List.map_append]
  simp only [List.length_singleton, List.map_cons, List.map_nil]
  show (blk p (.cells #[v', .map (some gb), .map (some wb)] 79 (0, 0)) * _ : HProp) = _
  unfold agV
  ac_rfl
theorem agN_done {n : Nat} (hn : 0 < rs.length) (hl : rs.map (·.m) = List.replicate n ⟨0, [], [], []⟩) (h : Own w0 (AgNn p gb wb mv rs * R) w) : Own w0 (AgP p (agNew n) * R) w := by
  obtain ⟨b, off, cap, rfl, h2⟩ := (agN_open h).second.slAt (by simpa using hn)
  refine Own.ag_close (rb := b) (off := off) (cap := cap) (gb := gb) (wb := wb) (rs := rs) (gs := []) (ws := []) ⟨hl, rfl, rfl⟩ (h2.perm ?_)
  unfold AgO TabO agHd agHd2
  ac_rfl
end
set_option maxRecDepth 100000 in
set_option maxHeartbeats 4000000 in
theorem agNew_no (n : Int) (w : World) (h : isGroup n = false) :
    Calls Try.prog 12 #[.int .i64 n] w fun e w' => e = .returned (.tuple #[.pointer none, errV 1]) ∧ w = w' := by
  have H := Lib.hid h
  clear h
  go_enter Try.func12, Try.ntmps12
  go_wp2_with fail
  refine (group_any _ _).mono ?_
  rintro e w' ⟨rfl, rfl⟩
  rw [H.out]
  go_wp2
  go_ret2
  exact ⟨rfl, rfl⟩
set_option maxRecDepth 100000 in
set_option maxHeartbeats 4000000 in
theorem agNew_yes {w0 w : World} {R : HProp} (n : Nat) (hg : isGroup n = true) (h : Own w0 R w) :
    Calls Try.prog 12 #[.int .i64 n] w fun e w' => ∃ p, e = .returned (.tuple #[.pointer (some ⟨p, 0, none⟩), errV 0]) ∧ Own w0 (AgP p (agNew n) * R) w' := by
  have hn5 : 2 ≤ n ∧ n ≤ 5 := by simp [isGroup] at hg; omega
  have hm1 := mapgv_made
  have hm2 := mapwho_made
  have hm3 := mapwt_made
  have hm4 := mapint_made
  have h1 := (h.ms_new (enc := iK) (ok := I64) (f := stP) (val := Prod.fst)).ms_new (enc := iK) (ok := I64) (f := rowP) (val := Prod.fst)
  obtain ⟨gb, hgb⟩ : ∃ b, b = w.heap.size := ⟨_, rfl⟩
  rw [World.size_alloc, ← hgb] at h1
  have h2 := h1.alloc (.cells #[.slice none 0 0, .map (some gb), .map (some (gb + 1))] 79)
  obtain ⟨p, hp⟩ : ∃ b, b = gb + 2 := ⟨_, rfl⟩
  rw [World.size_alloc, World.size_alloc, ← hgb, show gb + 1 + 1 = gb + 2 from rfl, ← hp] at h2
  have HN : Hid (Own w0 (AgNn p gb (gb + 1) (.slice none 0 0) [] * R) (((w.alloc (.map #[] 0)).alloc (.map #[] 0)).alloc (.cells #[.slice none 0 0, .map (some gb), .map (some (gb + 1))] 79))) := Lib.hid ((h2.sl_nil 80 1).perm (by
    unfold AgNn agHd2
    simp only [starL, List.length_nil, List.map_nil]
    rw [emp_star]
    ac_rfl))
  clear h1 h2
  have HG := Lib.hid hg; have H := Lib.hid h; have HGB := Lib.hid hgb; have HP := Lib.hid hp
  clear hg h hgb hp
  go_enter Try.func12, Try.ntmps12
  go_wp2_with fail
  refine (group_any _ _).mono ?_
  rintro e w' ⟨rfl, rfl⟩
  rw [HG.out]
  go_upto_block 0 with fail
  rw [← HGB.out, show gb + 1 + 1 = p from HP.out.symm]
  go_wp2_with fail
  go_loopw [14] (fun i wr => ∃ (k : Nat) (mv : Value) (rs : List AgR), k ≤ n ∧ i = .int .i64 k ∧ Hid (rs.length = k ∧ rs.map (·.m) = List.replicate k ⟨0, [], [], []⟩) ∧ Hid (Own w0 (AgNn p gb (gb + 1) mv rs * R) wr)) (fun i _ => n - (intOf i).toNat)
  case atStart => exact ⟨0, _, [], Nat.zero_le _, rfl, Lib.hid ⟨rfl, rfl⟩, HN⟩
  case round =>
    clear HN
    obtain ⟨k, mv, rs, hk, rfl, HRS, HPP⟩ := hrel
    by_cases hlt : k < n
    rotate_left
    · have hkn : k = n := by omega
      subst hkn
      go_wp2
      go_ret2
      exact ⟨_, rfl, agN_done (by have := HRS.out.1; omega) HRS.out.2 HPP.out⟩
    have h1 := agN_open HPP.out
    have c1 : wr.cell? ⟨p, 0, none⟩ = some mv := (h1.cell 0).trans rfl
    have hrl : rs.length = k := HRS.out.1
    obtain ⟨ad, cp, hmv, _⟩ := Own.rd h1.second
    subst hmv
    have HRL := Lib.hid hrl
    clear hrl
    clear h1
    go_wp2_with (at_builtin; refine wpList_app rfl _ _ 77 rfl 80 1 8 _ info_agm Try.underlying77 rfl (by decide) rfl (agN_app _ HPP.out) rfl (by rfl) (Rd_lit (by simp) (by unfold maxLen; omega)) (by intro u hu; simp at hu; subst hu; rfl) (by have := HRL.out; unfold maxLen; omega) (by have := HRL.out; omega) ?_; intro v' w2 ho2; obtain ⟨ad', cp', hv', _⟩ := Own.rd ho2; subst hv'; have g1 := ho2.second.cell 0; have g2 := ho2.second.free 0 none; have HW := Lib.hid (agN_push ho2); clear ho2)
    go_round
    case rel =>
      refine ⟨k + 1, _, _, by omega, by go_num, Lib.hid ⟨by simp [HRL.out], ?_⟩, HW⟩
      rw [List.map_append, HRS.out.2]
      exact (List.replicate_succ' ..).symm
    case measure => simp [intOf]; omega
end Go.Proofs.Ytiipldlggjjlnaa
/- Contracts of package agree, continued: Propose. -/
namespace Go.Proofs.Ytiipldlggjjlnaa
set_option linter.unusedVariables false
set_option linter.unusedSimpArgs false
open Go.RowKit Go.Maps
theorem info_st : (Try.prog.info? 52).map (fun i => (i.zero, i.size, i.bytes)) = some (some (.agg #[.int .i64 0, .int .i64 0]), 2, 16) := by kernel_rfl
theorem st_len (l : List St) : (l.flatMap stCells).length = l.length * 2 := cells_len stCells 2 (fun _ => rfl) l
theorem st_one (l : List St) : ∀ u ∈ l.flatMap stCells, u.oneCell' = true := by
  intro u hu
  obtain ⟨e, _, hu⟩ := List.mem_flatMap.1 hu
  simp [stCells] at hu
  rcases hu with rfl | rfl <;> rfl
theorem agm_n {w0 w : World} {r : AgR} {R : HProp} (x : Int) (h : Own w0 (agM r * R) w) : Own w0 (agM ⟨r.p, r.mb1, r.mb2, r.hv, ⟨x, r.m.waits, r.m.knew, r.m.heard⟩⟩ * R) (w.setCell ⟨r.p, 0, none⟩ (.int .i64 x)) := by
  refine (h.agm_blk.setCell (i := 0) (v := .int .i64 x)).perm ?_
  unfold agM agBlk
  show (blk r.p (.cells #[.int .i64 x, .map (some r.mb1), .map (some r.mb2), r.hv] 84 (0, 0)) * _ : HProp) = _
  ac_rfl
theorem agm_put {w0 w : World} {p mb1 mb2 : Nat} {hv : Value} {n : Int} {W : List (Int × Wt)} {K H : List Int} {R : HProp} (k : Int) (y : Wt)
    (h : Own w0 (IMp mb1 (mput (mvals wtV W) k (wtV y)) * (agBlk p mb1 mb2 n hv * (IMp mb2 (setM K) * (IntSl hv H * R)))) w) : Own w0 (agM ⟨p, mb1, mb2, hv, ⟨n, mput W k y, K, H⟩⟩ * R) w := by
  rw [mput_mvals] at h
  refine h.perm ?_
  unfold agM
  ac_rfl
theorem Own.sto_put {w0 w : World} {b : Nat} {x : St} {R : HProp} (y : St) (h : Own w0 (StO b x * R) w) : Own w0 (StO b y * R) ((w.setCell ⟨b, 0, none⟩ (.int .i64 y.1)).setCell ⟨b, 1, none⟩ (.int .i64 y.2)) :=
  (Own.setCell (i := 1) (v := .int .i64 y.2) (Own.setCell (i := 0) (v := .int .i64 y.1) h)).perm rfl
section
variable {w0 w : World} {p rb off cap gb wb : Nat} {rs : List AgR} {gs : List GRow} {ws : List WRow} {g : Ag} {R : HProp}
theorem Own.ag_wholook (h : Own w0 (AgO p rb off cap gb wb rs gs ws * R) w) (x : Int) (hx : I64 x) :
    (Instr.lookup 76 (.map (some wb)) (.int .i64 x) false).run Try.prog w = .ok ((mget ws x).getD nilRow).1 w := by
  have h1 := (h.ag_who.perm (show _ = Mp iK I64 wb (mvals Prod.fst ws) * _ by unfold MpS; rw [star_assoc])).map_look (int_ke int_kind) mapwho_kind ints_zero hx false
  have h2 := mget_val Prod.fst ws x nilRow
  rw [show (nilRow).1 = Value.slice none 0 0 from rfl] at h2
  rw [h2, if_neg (by simp)] at h1
  exact h1
theorem agIs_who (he : agIs rs gs ws g) (x : Int) : ((mget ws x).getD nilRow).2 = whoOf g x := by
  unfold whoOf; rw [← he.2.2, mget_mvals]; cases mget ws x <;> rfl
/-- A group while a word's stamps are out: their row in front. -/
theorem Own.ag_gvtake (h : Own w0 (AgO p rb off cap gb wb rs gs ws * R) w) (x : Int) :
    Own w0 (stP ((mget gs x).getD nilSt) * (Mp iK I64 gb (mvals Prod.fst gs) * (starL (fun q : GRow => stP q.2) (mdel gs x) * (agHd p rb off rs.length cap gb wb * (TabO agM agV 80 rb off cap rs * (MpS iK I64 rowP Prod.fst wb ws * R)))))) w := h.ag_gv.ms_take nilSt stP_nil x
theorem Own.ag_gvput {y : Value × List St} {x : Int} (h : Own w0 (Mp iK I64 gb (mput (mvals Prod.fst gs) x y.1) * (stP y * (starL (fun q : GRow => stP q.2) (mdel gs x) * (agHd p rb off rs.length cap gb wb * (TabO agM agV 80 rb off cap rs * (MpS iK I64 rowP Prod.fst wb ws * R)))))) w) :
    Own w0 (AgO p rb off cap gb wb rs (mput gs x y) ws * R) w := by
  have h1 := (h.second).ms_put (f := stP) (val := Prod.fst) x
  refine h1.perm ?_
  unfold AgO
  ac_rfl
theorem Own.ag_whotake (h : Own w0 (AgO p rb off cap gb wb rs gs ws * R) w) (x : Int) :
    Own w0 (rowP ((mget ws x).getD nilRow) * (Mp iK I64 wb (mvals Prod.fst ws) * (starL (fun q : WRow => rowP q.2) (mdel ws x) * (agHd p rb off rs.length cap gb wb * (TabO agM agV 80 rb off cap rs * (MpS iK I64 stP Prod.fst gb gs * R)))))) w := h.ag_who.ms_take nilRow rowP_nil x
theorem Own.ag_whoput {y : Value × List Int} {x : Int} (h : Own w0 (Mp iK I64 wb (mput (mvals Prod.fst ws) x y.1) * (rowP y * (starL (fun q : WRow => rowP q.2) (mdel ws x) * (agHd p rb off rs.length cap gb wb * (TabO agM agV 80 rb off cap rs * (MpS iK I64 stP Prod.fst gb gs * R)))))) w) :
    Own w0 (AgO p rb off cap gb wb rs gs (mput ws x y) * R) w := by
  have h1 := (h.second).ms_put (f := rowP) (val := Prod.fst) x
  refine h1.perm ?_
  unfold AgO
  ac_rfl
end
end Go.Proofs.Ytiipldlggjjlnaa
/- Contracts of package agree, continued: Propose. -/
namespace Go.Proofs.Ytiipldlggjjlnaa
set_option linter.unusedVariables false
set_option linter.unusedSimpArgs false
open Go.RowKit Go.Maps
def stTup (s : St) (e : Nat) : Value := .tuple #[.agg #[.int .i64 s.1, .int .i64 s.2], errV e]
theorem Own.gvm_look {w0 w : World} {gb : Nat} {gs : List GRow} {R : HProp} (h : Own w0 (Mp iK I64 gb (mvals Prod.fst gs) * R) w) (x : Int) (hx : I64 x) :
    (Instr.lookup 75 (.map (some gb)) (.int .i64 x) false).run Try.prog w = .ok ((mget gs x).getD nilSt).1 w := by
  have h1 := h.map_look (int_ke int_kind) mapgv_kind stamps_zero hx false
  have h2 := mget_val Prod.fst gs x nilSt
  rw [show (nilSt).1 = Value.slice none 0 0 from rfl] at h2
  rw [h2, if_neg (by simp)] at h1
  exact h1
theorem Own.whom_look {w0 w : World} {wb : Nat} {ws : List WRow} {R : HProp} (h : Own w0 (Mp iK I64 wb (mvals Prod.fst ws) * R) w) (x : Int) (hx : I64 x) :
    (Instr.lookup 76 (.map (some wb)) (.int .i64 x) false).run Try.prog w = .ok ((mget ws x).getD nilRow).1 w := by
  have h1 := h.map_look (int_ke int_kind) mapwho_kind ints_zero hx false
  have h2 := mget_val Prod.fst ws x nilRow
  rw [show (nilRow).1 = Value.slice none 0 0 from rfl] at h2
  rw [h2, if_neg (by simp)] at h1
  exact h1
/-- What bounds a group's numbers. -/
def AgSm (g : Ag) : Prop := ∀ k : Nat, k < g.mem.length → 0 ≤ (agGet g k).n ∧ (agGet g k).n ≤ 1000000
set_option maxRecDepth 100000 in
set_option maxHeartbeats 4000000 in
theorem agPropose_any {w0 w : World} {R : HProp} (p : Nat) (g : Ag) (who word : Int) (hI : AgI g) (hsm : AgSm g) (h5 : g.mem.length ≤ 5) (h : Own w0 (AgP p g * R) w) :
    Calls Try.prog 17 #[.pointer (some ⟨p, 0, none⟩), .int .i64 who, .int .i64 word] w fun e w' => e = .returned (stTup (agPropSt g who word) (agPropErr g who word)) ∧ Own w0 (AgP p (agProp g who word) * R) w' := by
  unfold stTup
  obtain ⟨b1, hb_b1⟩ : ∃ zz_, zz_ = (w).heap.size := ⟨_, rfl⟩
  obtain ⟨w1, hw_w1⟩ : ∃ zz_, zz_ = (w).alloc (.cells #[.int .i64 0, .int .i64 0] 52 (0, 0)) := ⟨_, rfl⟩
  have h_HB1 := (h).alloc (.cells #[.int .i64 0, .int .i64 0] 52 (0, 0))
  rw [← hb_b1, ← hw_w1] at h_HB1
  have HB1 := Lib.hid h_HB1
  clear h_HB1
  have HO1 : Hid (Own w0 (AgP p g * (StO b1 (0, 0) * R)) w1) := Lib.hid HB1.out.second
  clear HB1 h
  obtain ⟨x0, x1, xf⟩ := HO1.out.second.sto
  have xf0 := xf 0 none
  have xf1 := xf 1 none
  simp only at x0 x1
  have HPUT0 := Lib.hid (HO1.out.second.sto_put (0, 0))
  clear xf
  by_cases hc : agChk g who word = 0
  rotate_left
  · have hE : agPropErr g who word = agChk g who word := by unfold agPropErr; rw [if_pos hc]
    have hS : agProp g who word = g := by unfold agProp; rw [hE, if_neg hc]
    have hT : agPropSt g who word = (0, 0) := by unfold agPropSt; rw [hE, if_neg hc]
    obtain ⟨mm, hmm⟩ := errV_some hc
    rw [hE, hS, hT, hmm]
    obtain ⟨q0, q1, _⟩ := HPUT0.out.sto
    simp only at q0 q1
    have HE := Lib.hid hE; have HS := Lib.hid hS; have HT := Lib.hid hT; have HC := Lib.hid hc; have HMM := Lib.hid hmm; have HI := Lib.hid hI; have HSM := Lib.hid hsm
    clear hE hS hT hc hmm hI hsm
    go_enter Try.func17, Try.ntmps17
    go_upto_region 1 with fail
    rw [← hb_b1, ← hw_w1]
    clear hb_b1 hw_w1
    go_wp2_with fail
    refine (agCheck_any p g who word HO1.out).mono ?_
    rintro e w' ⟨rfl, rfl⟩
    rw [HMM.out]
    go_wp2_with fail
    exact bodyPost_ret (v := .tuple #[.agg #[.int .i64 0, .int .i64 0], .iface 68 (.int .i64 mm)]) (by simp [results, Try.results17, go_sem, q0, q1]) rfl ⟨rfl, HPUT0.out.drop⟩
  obtain ⟨⟨hw0, hwl⟩, hword, hsome⟩ := agChk0 hc
  have hwI := isWord_I64 hword
  obtain ⟨k, rfl⟩ : ∃ k : Nat, who = (k : Int) := ⟨who.toNat, by omega⟩
  have hkg : k < g.mem.length := by omega
  obtain ⟨rb, off, cap, gb, wb, rs, gs, ws, he, ho⟩ := HO1.out.ag_open
  obtain ⟨c0, c1, c2, _, cm, hc1, hc2⟩ := ho.ag_facts
  unfold maxLen at hc2
  have hgl := agIs_len he
  have hk : k < rs.length := by omega
  have hwl2 := ho.ag_wholook word hwI
  have hwt := ho.ag_whotake word
  have hWI : ∀ x ∈ whoOf g word, I64 x := fun x hx => by
    rw [hI.whos] at hx
    obtain ⟨s, hs, rfl⟩ := List.mem_map.1 hx
    have := (hI.range word s hs).2
    unfold I64; omega
  have hrdw : Ints w1 ((mget ws word).getD nilRow).1 (whoOf g word) := by
    have h2 : Own w0 (IntSl ((mget ws word).getD nilRow).1 ((mget ws word).getD nilRow).2 * _) w1 := hwt
    rw [agIs_who he] at h2
    exact IntSl_reads hWI _ h2
  obtain ⟨D, hD⟩ : ∃ D, D = decide ((k : Int) ∈ whoOf g word) := ⟨_, rfl⟩
  have hE : agPropErr g k word = if D = true then 7 else 0 := by
    unfold agPropErr
    rw [if_neg (by rw [hc]; simp), hD]
    by_cases hm : (k : Int) ∈ whoOf g word
    · rw [if_pos hm, decide_eq_true hm]; rfl
    · rw [if_neg hm, decide_eq_false hm]; rfl
  obtain ⟨V, hV⟩ : ∃ V, V = ((mget ws word).getD nilRow).1 := ⟨_, rfl⟩
  rw [← hV] at hwl2 hrdw
  obtain ⟨vad, vcap, hVs, _, _⟩ := hrdw.shape
  rw [hVs] at hwl2 hrdw
  cases D
  rotate_left
  · rw [if_pos rfl] at hE
    have hS : agProp g k word = g := by unfold agProp; rw [hE]; rfl
    have hT : agPropSt g k word = (0, 0) := by unfold agPropSt; rw [hE]; rfl
    rw [hE, hS, hT]
    obtain ⟨q0, q1, _⟩ := HPUT0.out.sto
    simp only at q0 q1
    have HE := Lib.hid hE; have HS := Lib.hid hS; have HT := Lib.hid hT; have HC := Lib.hid hc; have HI := Lib.hid hI; have HSM := Lib.hid hsm; have HO := Lib.hid ho; have CM := Lib.hid cm; have HE := Lib.hid he; have HWT := Lib.hid hwt; have HWI := Lib.hid hWI; have HRDW := Lib.hid hrdw; have HD := Lib.hid hD; have HV := Lib.hid hV; have HVS := Lib.hid hVs; have HWORD := Lib.hid hword; have HSOME := Lib.hid hsome
    clear hE hS hT hc hI hsm ho cm he hwt hWI hrdw hD hV hVs hword hsome
    go_enter Try.func17, Try.ntmps17
    go_upto_region 1 with fail
    rw [← hb_b1, ← hw_w1]
    clear hb_b1 hw_w1
    go_wp2_with fail
    refine (agCheck_any p g k word HO1.out).mono ?_
    rintro e w' ⟨rfl, rfl⟩
    rw [HC.out, errV0]
    go_wp2_with fail
    refine (containsInt_any _ _ _ _ HRDW.out).mono ?_
    rintro e w' ⟨rfl, rfl⟩
    rw [← HD.out]
    go_wp2_with fail
    exact bodyPost_ret (v := .tuple #[.agg #[.int .i64 0, .int .i64 0], errV 7]) (by simp [results, Try.results17, go_sem, q0, q1, errV]) rfl ⟨rfl, HPUT0.out.drop⟩
  rw [if_neg (by simp)] at hE
  have hmk : g.mem[k] = rs[k].m := by
    have e : g.mem[k]? = some rs[k].m := by rw [← he.1, List.getElem?_map, List.getElem?_eq_getElem hk]; rfl
    exact (List.getElem?_eq_some_iff.1 e).2
  have c5 := cm k rs[k] (by simp [hk])
  have ht := ho.ag_take hk
  obtain ⟨d0, _, _, _, df⟩ := ht.agm_facts
  have df0 := df 0 none
  obtain ⟨hn0, hn1⟩ := hsm k hkg
  rw [agGet_at hkg, hmk] at hn0 hn1
  have hsn := agm_n (rs[k].m.n + 1) ht
  obtain ⟨r, hr⟩ : ∃ r, r = rs[k] := ⟨_, rfl⟩
  rw [← hr] at c5 d0 df0 hn0 hn1 hsn
  obtain ⟨mp, mb1, mb2, hv, ⟨n, W, K, H⟩⟩ := r
  unfold agV at c5
  dsimp only at c5 d0 df0 hn0 hn1 hsn
  obtain ⟨N, hN⟩ : ∃ N, N = rs.length := ⟨_, rfl⟩
  rw [← hN] at c0 hk hc1
  obtain ⟨w2, hw2⟩ : ∃ x, x = w1.setCell ⟨mp, 0, none⟩ (.int .i64 (n + 1)) := ⟨_, rfl⟩
  rw [← hw2] at hsn
  obtain ⟨b2, hb_b2⟩ : ∃ zz_, zz_ = (w2).heap.size := ⟨_, rfl⟩
  obtain ⟨w3, hw_w3⟩ : ∃ zz_, zz_ = (w2).alloc (.cells #[.int .i64 (n + 1), .int .i64 (k : Int)] 52 (0, 0)) := ⟨_, rfl⟩
  have h_HB2 := (hsn).alloc (.cells #[.int .i64 (n + 1), .int .i64 (k : Int)] 52 (0, 0))
  rw [← hb_b2, ← hw_w3] at h_HB2
  have HB2 := Lib.hid h_HB2
  clear h_HB2
  have HO3 : Hid (Own w0 (agM ⟨mp, mb1, mb2, hv, ⟨n + 1, W, K, H⟩⟩ * (AgX p rb off cap gb wb rs gs ws k * (StO b2 (n + 1, (k : Int)) * (StO b1 (0, 0) * R)))) w3) := Lib.hid (HB2.out.perm (by unfold StO; ac_rfl))
  clear HB2
  obtain ⟨e0, e1, _, _, _⟩ := hsn.agm_facts
  obtain ⟨f0, f1, f2, _, _⟩ := HO3.out.agm_facts
  obtain ⟨s0, s1, _⟩ := HO3.out.third.sto
  simp only at s0 s1 e0 e1 f0 f1 f2
  have iN : (k : Int) < (N : Int) := by omega
  have hkr : k < rs.length := by rw [hN] at hk; exact hk
  have hwd : I64 word := hwI
  have hlg : ((mget gs word).getD nilSt).2.length ≤ 5 := by rw [agIs_gv he]; have := hI.len word; omega
  have hlw : ((mget ws word).getD nilRow).2.length ≤ 5 := by rw [agIs_who he, hI.whos, List.length_map]; have := hI.len word; omega
  have hER := hE
  clear hE
  have HER := Lib.hid hER; have HC := Lib.hid hc; have HI := Lib.hid hI; have HSM := Lib.hid hsm; have HO := Lib.hid ho; have CM := Lib.hid cm; have HE := Lib.hid he; have HWT := Lib.hid hwt; have HWI := Lib.hid hWI; have HRDW := Lib.hid hrdw; have HD := Lib.hid hD; have HV := Lib.hid hV; have HVS := Lib.hid hVs; have HWORD := Lib.hid hword; have HSOME := Lib.hid hsome; have HMK := Lib.hid hmk; have HT := Lib.hid ht; have DF := Lib.hid df; have HSN := Lib.hid hsn; have HR := Lib.hid hr; have HGL := Lib.hid hgl; have HKR := Lib.hid hkr; have HWD := Lib.hid hwd; have HLG := Lib.hid hlg; have HLW := Lib.hid hlw
  clear hER hc hI hsm ho cm he hwt hWI hrdw hD hV hVs hword hsome hmk ht df hsn hr hgl hkr hwd hlg hlw
  go_enter Try.func17, Try.ntmps17
  go_upto_region 1 with fail
  rw [← hb_b1, ← hw_w1]
  clear hb_b1 hw_w1
  go_wp2_with fail
  refine (agCheck_any p g k word HO1.out).mono ?_
  rintro e w' ⟨rfl, rfl⟩
  rw [HC.out, errV0]
  go_wp2_with fail
  refine (containsInt_any _ _ _ _ HRDW.out).mono ?_
  rintro e w' ⟨rfl, rfl⟩
  rw [← HD.out]
  go_upto_region 8 with fail
  rw [← hw2]
  clear hwl2 c0 c1 c2 c5 d0 df0 hw2 x0 x1 xf0 xf1
  go_upto_region 9 with fail
  rw [← hb_b2, ← hw_w3]
  clear hb_b2 hw_w3
  clear e0 e1
  refine wp_region_planH 7 [] [(true, 0), (true, 1), (true, 2), (true, 3), (true, 4), (true, 5), (true, 6)] [7] (fun wS => wS = w3.drew) (by kernel_rfl) (by kernel_rfl) (rfl) ?_
  simp only [pickH, pick, List.getElem?_cons_succ, List.getElem?_cons_zero, Option.toList, Option.map_some, List.cons_append, List.nil_append]
  repeat (refine wpPure_step ?_ rfl ?_ ?_; rotate_left; (focus (intro _; first | with_reducible rfl | (go_simp; done) | (go_simp; with_reducible rfl) | rfl)); go_simp)
  refine wpPure_nil ?_
  repeat (refine wpMix_read ?_ rfl ?_ ?_; rotate_left; (focus (intro _ hS; obtain rfl := hS; first | with_reducible rfl | (go_simp; done) | (go_simp; with_reducible rfl) | rfl)); go_simp)
  refine wpMix_nil ?_
  clear f0 f1 f2 s0 s1
  go_wp2_with (at_mapUpdate; refine wpList_put (v := wtV ((n + 1, (k : Int)), false)) (x := word) (int_ke int_kind) mapwt_kind HO3.out.drew.agm_waits HWD.out rfl _ _ _ rfl rfl rfl rfl ?_; intro w4 ho4; have HO4 : Hid (Own w0 (agM ⟨mp, mb1, mb2, hv, ⟨n + 1, mput W word ((n + 1, (k : Int)), false), K, H⟩⟩ * (AgX p rb off cap gb wb rs gs ws k * (StO b2 (n + 1, (k : Int)) * (StO b1 (0, 0) * R)))) w4) := Lib.hid (agm_put word ((n + 1, (k : Int)), false) ho4); clear ho4)
  refine NoPanic.normal ?_
  clear HO3
  obtain ⟨y, hy⟩ : ∃ x, x = (⟨mp, mb1, mb2, hv, ⟨n + 1, mput W word ((n + 1, (k : Int)), false), K, H⟩⟩ : AgR) := ⟨_, rfl⟩
  obtain ⟨rs2, hrs2⟩ : ∃ x, x = rs.set k y := ⟨_, rfl⟩
  have HO5 : Hid (Own w0 (AgO p rb off cap gb wb rs2 gs ws * (StO b2 (n + 1, (k : Int)) * (StO b1 (0, 0) * R))) w4) := Lib.hid (by
    rw [hrs2, hy]
    exact Own.ag_give HKR.out (by show mp = _; rw [← HR.out]) HO4.out)
  clear HO4
  have HY := Lib.hid hy; have HRS2 := Lib.hid hrs2
  clear hy hrs2
  obtain ⟨_, c1, c2, _, _, _, _⟩ := HO5.out.ag_facts
  obtain ⟨s0, s1, _⟩ := HO5.out.second.sto
  simp only at s0 s1
  have hlk := HO5.out.drew.ag_gvlook word HWD.out false
  rw [if_neg (by simp)] at hlk
  obtain ⟨V, L, hV, hL, hVL⟩ : ∃ V L, V = ((mget gs word).getD nilSt).1 ∧ L = ((mget gs word).getD nilSt).2.length ∧ L ≤ 5 := ⟨_, _, rfl, rfl, HLG.out⟩
  rw [← hV] at hlk
  have HT : Hid (Own w0 (Sl 52 2 V L (((mget gs word).getD nilSt).2.flatMap stCells) * (Mp iK I64 gb (mvals Prod.fst gs) * (starL (fun q : GRow => stP q.2) (mdel gs word) * (agHd p rb off rs2.length cap gb wb * (TabO agM agV 80 rb off cap rs2 * (MpS iK I64 rowP Prod.fst wb ws * (StO b2 (n + 1, (k : Int)) * (StO b1 (0, 0) * R)))))))) w4) := Lib.hid (by rw [hV, hL]; exact HO5.out.ag_gvtake word)
  clear HO5
  have HV := Lib.hid hV; have HL := Lib.hid hL; have HVL := Lib.hid hVL
  clear hV hL hVL
  go_upto_region 10 with fail
  refine wp_region_planH 14 [] [(true, 0), (true, 1), (true, 2), (true, 3), (true, 4), (true, 5), (true, 6), (true, 7), (true, 8), (true, 9), (true, 10), (true, 11), (false, 12), (false, 13)] [14] (fun wS => wS.cell? ⟨p, 1, none⟩ = some (.map (some gb)) ∧ wS.cell? ⟨b2, 0, none⟩ = some (.int .i64 (n + 1)) ∧ wS.cell? ⟨b2, 1, none⟩ = some (.int .i64 (k : Int)) ∧ (Instr.lookup 75 (.map (some gb)) (.int .i64 word) false).run Try.prog wS = .ok V wS) (by kernel_rfl) (by kernel_rfl) (⟨c1, s0, s1, hlk⟩) ?_
  simp only [pickH, pick, List.getElem?_cons_succ, List.getElem?_cons_zero, Option.toList, Option.map_some, List.cons_append, List.nil_append]
  repeat (refine wpPure_step ?_ rfl ?_ ?_; rotate_left; (focus (intro _; first | with_reducible rfl | (go_simp; done) | (go_simp; with_reducible rfl) | rfl)); go_simp)
  refine wpPure_nil ?_
  repeat (refine wpMix_read ?_ rfl ?_ ?_; rotate_left; (focus (intro _ hS; obtain ⟨q1, q2, q3, q4⟩ := hS; first | with_reducible rfl | (go_simp; done) | (go_simp; with_reducible rfl) | rfl)); go_simp)
  refine wpMix_write (fun K hK => ?_)
  go_simp
  obtain ⟨b3, hb_b3⟩ : ∃ zz_, zz_ = (w4).heap.size := ⟨_, rfl⟩
  obtain ⟨w5, hw_w5⟩ : ∃ zz_, zz_ = (w4).alloc (.cells #[.int .i64 (n + 1), .int .i64 (k : Int)] 52 (0, 0)) := ⟨_, rfl⟩
  have h_HB3 := (HT.out).alloc (.cells #[.int .i64 (n + 1), .int .i64 (k : Int)] 52 (0, 0))
  rw [← hb_b3, ← hw_w5] at h_HB3
  have HB3 := Lib.hid h_HB3
  clear h_HB3
  rw [← hb_b3, ← hw_w5]
  clear hb_b3 hw_w5
  have HB5 : Hid (Own w0 (Sl 52 2 V L (((mget gs word).getD nilSt).2.flatMap stCells) * (StO b3 (n + 1, (k : Int)) * (Mp iK I64 gb (mvals Prod.fst gs) * (starL (fun q : GRow => stP q.2) (mdel gs word) * (agHd p rb off rs2.length cap gb wb * (TabO agM agV 80 rb off cap rs2 * (MpS iK I64 rowP Prod.fst wb ws * (StO b2 (n + 1, (k : Int)) * (StO b1 (0, 0) * R))))))))) w5.drew) := Lib.hid (HB3.out.drew.perm (by unfold StO; ac_rfl))
  clear HB3 HT c1 s0 s1 hlk
  have c1 : w5.drew.cell? ⟨p, 1, none⟩ = some (.map (some gb)) := (HB5.out.fifth.cell 1).trans rfl
  obtain ⟨s0, s1, _⟩ := HB5.out.drop.drop.drop.drop.drop.drop.drop.sto
  simp only at s0 s1
  have hlk := HB5.out.third.gvm_look word HWD.out
  rw [← HV.out] at hlk
  refine hK _ _ ⟨⟨c1, s0, s1, hlk⟩, ?_⟩
  clear hK K
  go_simp
  refine wpMix_write (fun K hK => ?_)
  have hsrc : Rd w5.drew (.slice (some ⟨b3, 0, none⟩) 1 1) 1 [.int .i64 (n + 1), .int .i64 (k : Int)] := Rd_one (fun i u hi => by
    rw [HB5.out.second.cell]
    match i, hi with
    | 0, hi => exact hi
    | 1, hi => exact hi) (Nat.le_refl _) (by unfold maxLen; omega)
  refine step_app rfl _ _ 93 rfl 52 2 16 _ info_st Try.underlying93 rfl (by decide) (by rfl) HB5.out (by rfl) (by rfl) hsrc (by intro u hu; simp at hu; rcases hu with rfl | rfl <;> rfl) (by have := HVL.out; unfold maxLen; omega) (by have := HVL.out; omega) ?_
  intro v5 w6 ho5
  have hst : stP (v5, ((mget gs word).getD nilSt).2 ++ [(n + 1, (k : Int))]) = Sl 52 2 v5 (L + 1) (((mget gs word).getD nilSt).2.flatMap stCells ++ [.int .i64 (n + 1), .int .i64 (k : Int)]) := by
    unfold stP
    rw [HL.out]
    dsimp only
    rw [List.length_append, List.flatMap_append]
    rfl
  rw [← hst] at ho5
  have HO6 : Hid (Own w0 (Mp iK I64 gb (mvals Prod.fst gs) * (stP (v5, ((mget gs word).getD nilSt).2 ++ [(n + 1, (k : Int))]) * (starL (fun q : GRow => stP q.2) (mdel gs word) * (agHd p rb off rs2.length cap gb wb * (TabO agM agV 80 rb off cap rs2 * (MpS iK I64 rowP Prod.fst wb ws * (StO b2 (n + 1, (k : Int)) * (StO b1 (0, 0) * (StO b3 (n + 1, (k : Int)) * R))))))))) w6) := Lib.hid (ho5.perm (by ac_rfl))
  clear ho5 hst hsrc HB5 c1 s0 s1 hlk
  have c1 : w6.cell? ⟨p, 1, none⟩ = some (.map (some gb)) := (HO6.out.fourth.cell 1).trans rfl
  obtain ⟨s0, s1, _⟩ := HO6.out.drop.drop.drop.drop.drop.drop.sto
  simp only at s0 s1
  have hlk := HO6.out.gvm_look word HWD.out
  rw [← HV.out] at hlk
  refine hK _ _ ⟨⟨c1, s0, s1, hlk⟩, ?_⟩
  clear hK K
  go_simp
  refine wpMix_nil ?_
  clear c1 s0 s1 hlk
  go_wp2_with (at_mapUpdate; refine wpList_put (v := v5) (x := word) (int_ke int_kind) mapgv_kind HO6.out HWD.out rfl _ _ _ rfl rfl rfl rfl ?_; intro w7 ho7; have HO7 := Lib.hid (Own.ag_gvput (y := (v5, ((mget gs word).getD nilSt).2 ++ [(n + 1, (k : Int))])) ho7); clear ho7)
  refine NoPanic.normal ?_
  clear HO6 HV HL HVL
  obtain ⟨gs2, hgs2⟩ : ∃ x, x = mput gs word (v5, ((mget gs word).getD nilSt).2 ++ [(n + 1, (k : Int))]) := ⟨_, rfl⟩
  rw [← hgs2] at HO7
  have HGS2 := Lib.hid hgs2
  clear hgs2
  obtain ⟨_, c1, c2, _, _, _, _⟩ := HO7.out.ag_facts
  obtain ⟨s0, s1, _⟩ := HO7.out.second.sto
  simp only at s0 s1
  have hlk := HO7.out.drew.ag_wholook word HWD.out
  obtain ⟨U, J, hU, hJ, hUJ⟩ : ∃ U J, U = ((mget ws word).getD nilRow).1 ∧ J = ((mget ws word).getD nilRow).2.length ∧ J ≤ 5 := ⟨_, _, rfl, rfl, HLW.out⟩
  rw [← hU] at hlk
  have HT : Hid (Own w0 (Sl 3 1 U J (((mget ws word).getD nilRow).2.map (Value.int .i64)) * (Mp iK I64 wb (mvals Prod.fst ws) * (starL (fun q : WRow => rowP q.2) (mdel ws word) * (agHd p rb off rs2.length cap gb wb * (TabO agM agV 80 rb off cap rs2 * (MpS iK I64 stP Prod.fst gb gs2 * (StO b2 (n + 1, (k : Int)) * (StO b1 (0, 0) * (StO b3 (n + 1, (k : Int)) * R))))))))) w7) := Lib.hid (by rw [hU, hJ]; exact HO7.out.ag_whotake word)
  clear HO7
  have HU := Lib.hid hU; have HJ := Lib.hid hJ; have HUJ := Lib.hid hUJ
  clear hU hJ hUJ
  go_upto_region 11 with fail
  refine wp_region_planH 14 [] [(true, 0), (true, 1), (true, 2), (true, 3), (true, 4), (true, 5), (true, 6), (true, 7), (true, 8), (true, 9), (true, 10), (true, 11), (false, 12), (false, 13)] [14] (fun wS => wS.cell? ⟨p, 2, none⟩ = some (.map (some wb)) ∧ wS.cell? ⟨b2, 0, none⟩ = some (.int .i64 (n + 1)) ∧ wS.cell? ⟨b2, 1, none⟩ = some (.int .i64 (k : Int)) ∧ (Instr.lookup 76 (.map (some wb)) (.int .i64 word) false).run Try.prog wS = .ok U wS) (by kernel_rfl) (by kernel_rfl) (⟨c2, s0, s1, hlk⟩) ?_
  simp only [pickH, pick, List.getElem?_cons_succ, List.getElem?_cons_zero, Option.toList, Option.map_some, List.cons_append, List.nil_append]
  repeat (refine wpPure_step ?_ rfl ?_ ?_; rotate_left; (focus (intro _; first | with_reducible rfl | (go_simp; done) | (go_simp; with_reducible rfl) | rfl)); go_simp)
  refine wpPure_nil ?_
  repeat (refine wpMix_read ?_ rfl ?_ ?_; rotate_left; (focus (intro _ hS; obtain ⟨q1, q2, q3, q4⟩ := hS; first | with_reducible rfl | (go_simp; done) | (go_simp; with_reducible rfl) | rfl)); go_simp)
  refine wpMix_write (fun K hK => ?_)
  go_simp
  obtain ⟨b4, hb_b4⟩ : ∃ zz_, zz_ = (w7).heap.size := ⟨_, rfl⟩
  obtain ⟨w8, hw_w8⟩ : ∃ zz_, zz_ = (w7).alloc (.cells #[.int .i64 (k : Int)] 3 (0, 0)) := ⟨_, rfl⟩
  have h_HB3 := (HT.out).alloc (.cells #[.int .i64 (k : Int)] 3 (0, 0))
  rw [← hb_b4, ← hw_w8] at h_HB3
  have HB3 := Lib.hid h_HB3
  clear h_HB3
  rw [← hb_b4, ← hw_w8]
  clear hb_b4 hw_w8
  have HB5 : Hid (Own w0 (Sl 3 1 U J (((mget ws word).getD nilRow).2.map (Value.int .i64)) * (blk b4 (.cells #[.int .i64 (k : Int)] 3 (0, 0)) * (Mp iK I64 wb (mvals Prod.fst ws) * (starL (fun q : WRow => rowP q.2) (mdel ws word) * (agHd p rb off rs2.length cap gb wb * (TabO agM agV 80 rb off cap rs2 * (MpS iK I64 stP Prod.fst gb gs2 * (StO b2 (n + 1, (k : Int)) * (StO b1 (0, 0) * (StO b3 (n + 1, (k : Int)) * R)))))))))) w8.drew) := Lib.hid (HB3.out.drew.perm (by ac_rfl))
  clear HB3 HT c1 c2 s0 s1 hlk
  have c2 : w8.drew.cell? ⟨p, 2, none⟩ = some (.map (some wb)) := (HB5.out.fifth.cell 2).trans rfl
  obtain ⟨s0, s1, _⟩ := HB5.out.drop.drop.drop.drop.drop.drop.drop.sto
  simp only at s0 s1
  have hlk := HB5.out.third.whom_look word HWD.out
  rw [← HU.out] at hlk
  refine hK _ _ ⟨⟨c2, s0, s1, hlk⟩, ?_⟩
  clear hK K
  go_simp
  refine wpMix_write (fun K hK => ?_)
  have hsrc : Rd w8.drew (.slice (some ⟨b4, 0, none⟩) 1 1) 1 [.int .i64 (k : Int)] := Rd_one (fun i u hi => by
    rw [HB5.out.second.cell]
    match i, hi with
    | 0, hi => exact hi) (Nat.le_refl _) (by unfold maxLen; omega)
  refine step_app rfl _ _ 25 rfl 3 1 8 _ int_info Try.underlying25 rfl (by decide) (by rfl) HB5.out (by rfl) (by rfl) hsrc (by intro u hu; simp at hu; rcases hu with rfl; rfl) (by have := HUJ.out; unfold maxLen; omega) (by have := HUJ.out; omega) ?_
  intro v9 w9 ho9
  have hst : rowP (v9, ((mget ws word).getD nilRow).2 ++ [(k : Int)]) = Sl 3 1 v9 (J + 1) (((mget ws word).getD nilRow).2.map (Value.int .i64) ++ [.int .i64 (k : Int)]) := by
    unfold rowP IntSl
    rw [HJ.out]
    dsimp only
    rw [List.length_append, List.map_append]
    rfl
  rw [← hst] at ho9
  have HO9 : Hid (Own w0 (Mp iK I64 wb (mvals Prod.fst ws) * (rowP (v9, ((mget ws word).getD nilRow).2 ++ [(k : Int)]) * (starL (fun q : WRow => rowP q.2) (mdel ws word) * (agHd p rb off rs2.length cap gb wb * (TabO agM agV 80 rb off cap rs2 * (MpS iK I64 stP Prod.fst gb gs2 * (StO b2 (n + 1, (k : Int)) * (StO b1 (0, 0) * (StO b3 (n + 1, (k : Int)) * (blk b4 (.cells #[.int .i64 (k : Int)] 3 (0, 0)) * R)))))))))) w9) := Lib.hid (ho9.perm (by ac_rfl))
  clear ho9 hst hsrc HB5 c2 s0 s1 hlk
  have c2 : w9.cell? ⟨p, 2, none⟩ = some (.map (some wb)) := (HO9.out.fourth.cell 2).trans rfl
  obtain ⟨s0, s1, _⟩ := HO9.out.drop.drop.drop.drop.drop.drop.sto
  simp only at s0 s1
  have hlk := HO9.out.whom_look word HWD.out
  rw [← HU.out] at hlk
  refine hK _ _ ⟨⟨c2, s0, s1, hlk⟩, ?_⟩
  clear hK K
  go_simp
  refine wpMix_nil ?_
  clear c2 s0 s1 hlk
  go_wp2_with (at_mapUpdate; refine wpList_put (v := v9) (x := word) (int_ke int_kind) mapwho_kind HO9.out HWD.out rfl _ _ _ rfl rfl rfl rfl ?_; intro w10 ho10; have HO10 := Lib.hid (Own.ag_whoput (y := (v9, ((mget ws word).getD nilRow).2 ++ [(k : Int)])) ho10); clear ho10)
  refine NoPanic.normal ?_
  clear HO9 HU HJ HUJ
  have HO11 : Hid (Own w0 (StO b1 (0, 0) * (StO b2 (n + 1, (k : Int)) * (AgP p (agProp g k word) * (StO b3 (n + 1, (k : Int)) * (blk b4 (.cells #[.int .i64 (k : Int)] 3 (0, 0)) * R))))) w10) := Lib.hid (by
    have hg : agGet g (k : Int) = ⟨n, W, K, H⟩ := by rw [agGet_at hkg, HMK.out, ← HR.out]
    refine (Own.ag_close (g := agProp g (k : Int) word) ?_ HO10.out).perm (by ac_rfl)
    unfold agProp
    rw [if_pos HER.out, hg]
    refine ⟨?_, ?_, ?_⟩
    · show rs2.map (·.m) = g.mem.set ((k : Int)).toNat _
      rw [HRS2.out, HY.out, List.map_set, HE.out.1, Int.toNat_natCast]
    · show mvals Prod.snd gs2 = mput g.given word _
      rw [HGS2.out, ← mput_mvals, HE.out.2.1, agIs_gv HE.out]
    · show mvals Prod.snd (mput ws word _) = mput g.who word _
      rw [← mput_mvals, HE.out.2.2, agIs_who HE.out])
  clear HO10
  obtain ⟨s0, s1, _⟩ := HO11.out.second.sto
  obtain ⟨x0, x1, xf⟩ := HO11.out.sto
  simp only at s0 s1 x0 x1
  have xf0 := xf 0 none
  have xf1 := xf 1 none
  clear xf
  have HPT := Lib.hid (HO11.out.sto_put (n + 1, (k : Int)))
  obtain ⟨y0, y1, _⟩ := HPT.out.sto
  simp only at y0 y1
  go_wp2_with fail
  have hT : agPropSt g (k : Int) word = (n + 1, (k : Int)) := by
    unfold agPropSt
    rw [if_pos HER.out, agGet_at hkg, HMK.out, ← HR.out]
  rw [hT, HER.out, errV0]
  exact bodyPost_ret (v := .tuple #[.agg #[.int .i64 (n + 1), .int .i64 (k : Int)], .nilIface]) (by simp [results, Try.results17, go_sem, y0, y1]) rfl ⟨rfl, (HPT.out.drop.drop.perm (by ac_rfl) : Own w0 (StO b3 (n + 1, (k : Int)) * (blk b4 (.cells #[.int .i64 (k : Int)] 3 (0, 0)) * (AgP p (agProp g (k : Int) word) * R))) _).drop.drop⟩
end Go.Proofs.Ytiipldlggjjlnaa
