/- Contracts of package flush, continued: Change. -/
import Derived.Test.YtpgonkecicmanaaDoorMFlushPlays7
import Derived.Test.YtpgonkecicmanaaDoorMFlushPlays13
import Derived.Test.YtpgonkecicmanaaDoorMFlushPlays3
import Derived.Test.YtpgonkecicmanaaDoorMFlushPlays9
import Derived.Test.YtpgonkecicmanaaDoorMFlushPlays2
import Derived.LaidEql
import Derived.Stop.Asserts
import Derived.RowKitTokens
namespace Go.Proofs.YtpgonkecicmanaaDoor
set_option linter.unusedVariables false
set_option linter.unusedSimpArgs false
open Go.RowKit Go.Maps
set_option maxRecDepth 100000 in
set_option maxHeartbeats 4000000 in
theorem fn2Index_any {w0 w : World} {R : HProp} (fid : FuncId) (c d : Value) (p : Int → Bool) (v : Value) (l : List Int) (h : Own w0 R w) (hl : Reads w0 R v l) (hcf : ∀ a w, Sem.run Tryd.prog (callFunc fid a) w = .ok (.enter fid a) w) (hf : ∀ x w, I64 x → Own w0 R w → Calls Tryd.prog fid #[.int .i64 x, c, d] w fun e w' => e = .returned (.bool (p x)) ∧ Own w0 R w') :
    Calls Tryd.prog 113 #[v, .func (.func fid) #[] #[c, d]] w fun e w' => e = .returned (.int .i64 (whereI p l)) ∧ Own w0 R w' := by
  obtain ⟨ad, cap, rfl, hlc, hcap⟩ := (hl _ h).shape
  have hI := (hl _ h).2
  have H := Lib.hid h; have HL := Lib.hid hl; have HF := Lib.hid hf; have HCF := Lib.hid hcf; have HI := Lib.hid hI
  clear h hl hf hcf hI
  go_enter Tryd.func113, Tryd.ntmps113
  go_wp2_with fail
  go_loopw [8] (fun i wr => ∃ k : Nat, k ≤ l.length ∧ i = .int .i64 k ∧ Hid (Own w0 R wr) ∧ Hid (∀ j (_ : j < k) (h : j < l.length), p l[j] = false)) (fun i _ => l.length - (intOf i).toNat)
  case atStart => exact ⟨0, Nat.zero_le _, rfl, H, Lib.hid (fun j h => by omega)⟩
  case round =>
    obtain ⟨k, hk, rfl, HO, hp⟩ := hrel
    by_cases hlt : k < l.length
    rotate_left
    · have hm : whereI p l = -1 := whereI_miss _ l (fun j h => hp.out j (by omega) h)
      have HM := Lib.hid hm
      clear hm
      go_wp2
      go_ret
      exact ⟨by rw [HM.out]; rfl, HO.out⟩
    obtain ⟨aa, rfl, hca⟩ := (HL.out _ HO.out).at k hlt
    obtain ⟨x, hx⟩ : ∃ x, x = l[k] := ⟨_, rfl⟩
    rw [← hx] at hca
    have hxI : I64 x := by rw [hx]; exact HI.out _ (List.getElem_mem _)
    have HXI := Lib.hid hxI
    clear hxI
    cases hs : p x
    · have hn : ∀ j (_ : j < k + 1) (h : j < l.length), p l[j] = false := fun j h1 h2 => by
        by_cases e : j = k
        · subst e; rw [← hx]; exact hs
        · exact hp.out j (by omega) h2
      have HN := Lib.hid hn; have HX := Lib.hid hx
      clear hn hx
      go_wp2_with fail
      rw [HCF.out]
      go_wp2_with fail
      refine (HF.out x _ HXI.out HO.out).mono ?_
      rintro e w' ⟨rfl, ho⟩
      rw [hs]
      have HO2 := Lib.hid ho
      clear ho hca
      go_wp2
      go_round
      case rel => exact ⟨k + 1, by omega, by go_num, HO2, HN⟩
      case measure => simp [intOf]; omega
    · have hm : whereI p l = k := whereI_hit _ l k hlt (fun j h => hp.out j h (by omega)) (by rw [← hx]; exact hs)
      have HM := Lib.hid hm; have HX := Lib.hid hx
      clear hm hx
      go_wp2_with fail
      rw [HCF.out]
      go_wp2_with fail
      refine (HF.out x _ HXI.out HO.out).mono ?_
      rintro e w' ⟨rfl, ho⟩
      rw [hs]
      have HO2 := Lib.hid ho
      clear ho hca
      go_wp2
      go_ret
      exact ⟨by rw [HM.out]; rfl, HO2.out⟩
set_option maxRecDepth 100000 in
set_option maxHeartbeats 4000000 in
theorem fn2Contains_any {w0 w : World} {R : HProp} (fid : FuncId) (c d : Value) (p : Int → Bool) (v : Value) (l : List Int) (h : Own w0 R w) (hl : Reads w0 R v l) (hcf : ∀ a w, Sem.run Tryd.prog (callFunc fid a) w = .ok (.enter fid a) w) (hf : ∀ x w, I64 x → Own w0 R w → Calls Tryd.prog fid #[.int .i64 x, c, d] w fun e w' => e = .returned (.bool (p x)) ∧ Own w0 R w') :
    Calls Tryd.prog 74 #[v, .func (.func fid) #[] #[c, d]] w fun e w' => e = .returned (.bool (l.any p)) ∧ Own w0 R w' := by
  have hd : decide ((0 : Int) ≤ whereI p l) = l.any p := by rw [Bool.eq_iff_iff]; simpa using whereI_any p l
  have H := Lib.hid h; have HL := Lib.hid hl; have HF := Lib.hid hf; have HD := Lib.hid hd; have HCF := Lib.hid hcf
  clear h hl hf hd hcf
  go_enter Tryd.func74, Tryd.ntmps74
  go_wp2_with fail
  refine (fn2Index_any fid c d p v l H.out HL.out HCF.out HF.out).mono ?_
  rintro e w' ⟨rfl, ho⟩
  have HO2 := Lib.hid ho
  clear ho
  go_wp2
  go_ret
  exact ⟨by rw [← HD.out]; rfl, HO2.out⟩
abbrev BxP (b p : Nat) : HProp := blk b (.cells #[.pointer (some ⟨p, 0, none⟩)] 79 (0, 0))
abbrev BxI (b : Nat) (x : Int) : HProp := blk b (.cells #[.int .i64 x] 3 (0, 0))
set_option maxRecDepth 100000 in
set_option maxHeartbeats 4000000 in
theorem flCh1_any {w0 w : World} {R : HProp} {mb1 mb2 : Nat} {ha : Option Addr} {hc : Nat} {sa : Option Addr} {sc : Nat} (p b c : Nat) (s : Fl) (m x : Int) (hm : I64 m) (hok : flOk s) (h : Own w0 (FlQ p mb1 mb2 ha hc sa sc s * (BxP b p * (BxI c x * R))) w) :
    Calls Tryd.prog 89 #[.int .i64 m, .pointer (some ⟨b, 0, none⟩), .pointer (some ⟨c, 0, none⟩)] w fun e w' => e = .returned (.bool (flHas s m x)) ∧ Own w0 (FlQ p mb1 mb2 ha hc sa sc s * (BxP b p * (BxI c x * R))) w' := by
  have c0 : w.cell? ⟨b, 0, none⟩ = some (.pointer (some ⟨p, 0, none⟩)) := (h.drop.cell 0).trans rfl
  have c1 : w.cell? ⟨c, 0, none⟩ = some (.int .i64 x) := (h.drop.drop.cell 0).trans rfl
  have H := Lib.hid h; have HM := Lib.hid hm
  clear h hm
  go_enter Tryd.func89, Tryd.ntmps89
  go_wp2_with fail
  refine (flHas_q p s m x HM.out hok H.out).mono ?_
  rintro e w' ⟨rfl, ho⟩
  have HO := Lib.hid ho
  clear ho
  go_wp2
  go_ret
  exact ⟨rfl, HO.out⟩
set_option maxRecDepth 100000 in
set_option maxHeartbeats 4000000 in
theorem flChange_no {w0 w : World} {R : HProp} (p : Nat) (s : Fl) (vb : Value) (B : List Int) (hok : flOk s) (he : flNextErr s B ≠ 0) (hB : Reads w0 R vb B) (h : Own w0 (FlP p s * R) w) :
    Calls Tryd.prog 38 #[.pointer (some ⟨p, 0, none⟩), vb] w fun e w' => e = .returned (.tuple #[.agg #[.int .i64 0, .slice none 0 0], errV (flNextErr s B)]) ∧ Own w0 (FlP p s * R) w' := by
  obtain ⟨mb1, mb2, ha, hc, sa, sc, ho⟩ := h.fl_open_q
  obtain ⟨b1, hb_b1⟩ : ∃ zz_, zz_ = (w).heap.size := ⟨_, rfl⟩
  obtain ⟨w1, hw_w1⟩ : ∃ zz_, zz_ = (w).alloc (.cells #[.pointer (some ⟨p, 0, none⟩)] 79 (0, 0)) := ⟨_, rfl⟩
  have h_HO1 := (ho).alloc (.cells #[.pointer (some ⟨p, 0, none⟩)] 79 (0, 0))
  rw [← hb_b1, ← hw_w1] at h_HO1
  have HO1 := Lib.hid h_HO1
  clear h_HO1
  obtain ⟨b2, hb_b2⟩ : ∃ zz_, zz_ = (w1).heap.size := ⟨_, rfl⟩
  obtain ⟨w2, hw_w2⟩ : ∃ zz_, zz_ = (w1).alloc (.cells #[.int .i64 0, .slice none 0 0] 87 (0, 0)) := ⟨_, rfl⟩
  have h_HO2 := (HO1.out).alloc (.cells #[.int .i64 0, .slice none 0 0] 87 (0, 0))
  rw [← hb_b2, ← hw_w2] at h_HO2
  have HO2 := Lib.hid h_HO2
  clear h_HO2
  clear HO1 h
  go_enter Tryd.func38, Tryd.ntmps38
  go_upto_region 1 with fail
  have hq_b2 : b1 + 1 = b2 := by rw [hb_b2, hw_w1, hb_b1, World.size_alloc]
  rw [← hb_b1, hq_b2, ← hw_w1, ← hw_w2]
  clear hq_b2 hb_b1 hb_b2 hw_w1 hw_w2
  have HO3 : Hid (Own w0 (FlQ p mb1 mb2 ha hc sa sc s * (BxP b1 p * (VwO b2 0 (.slice none 0 0) * R))) w2) := Lib.hid (HO2.out.third.perm (by unfold VwO; ac_rfl))
  obtain ⟨m, hm, hfl⟩ := HO3.out.flq_open
  obtain ⟨c0, c1, c2, c3, c4, cf⟩ := hfl.fl_facts
  have p1 : w2.cell? ⟨b1, 0, none⟩ = some (.pointer (some ⟨p, 0, none⟩)) := (HO3.out.drop.cell 0).trans rfl
  have HRA : Hid (Reads w0 (FlQ p mb1 mb2 ha hc sa sc s * (BxP b1 p * (VwO b2 0 (.slice none 0 0) * R))) (.slice ha s.has.length hc) s.has) := Lib.hid (fun w' ho' => by
    obtain ⟨m', _, h'⟩ := ho'.flq_open
    exact IntSl_reads hok.2.1.2 _ h'.fl_has)
  have HRB : Hid (Reads w0 (FlQ p mb1 mb2 ha hc sa sc s * (BxP b1 p * (VwO b2 0 (.slice none 0 0) * R))) vb B) := Lib.hid hB.more.more.more
  have HOK := Lib.hid hok; have HB := Lib.hid hB; have HO := Lib.hid ho; have HM := Lib.hid hm; have HFL := Lib.hid hfl
  clear hok hB ho hm hfl
  clear HO2 c2 c3 c4 cf
  go_wp2_with fail
  refine (viewNext_any s.n _ vb s.has B HRA.out HRB.out HO3.out).mono ?_
  rintro e w4 ⟨v4, rfl, ho4⟩
  obtain ⟨xn, hxn⟩ : ∃ x, x = nextN s.n s.has B := ⟨_, rfl⟩
  obtain ⟨xh, hxh⟩ : ∃ x, x = nextHas s.n s.has B := ⟨_, rfl⟩
  obtain ⟨E, hE⟩ : ∃ x, x = nextErr s.n s.has B := ⟨_, rfl⟩
  rw [← hxn, ← hE]
  rw [← hxh] at ho4
  have hE2 : flNextErr s B = E := hE.symm
  rw [hE2] at he
  have hee := errV_pos he
  rw [hee]
  obtain ⟨a4, q4, hs4⟩ := ho4.int_shape
  subst hs4
  obtain ⟨b6, hb_b6⟩ : ∃ zz_, zz_ = (w4).heap.size := ⟨_, rfl⟩
  obtain ⟨w6, hw_w6⟩ : ∃ zz_, zz_ = (w4).alloc (.cells #[.int .i64 xn, .slice a4 xh.length q4] 87 (0, 0)) := ⟨_, rfl⟩
  have h_HO6 := (ho4).alloc (.cells #[.int .i64 xn, .slice a4 xh.length q4] 87 (0, 0))
  rw [← hb_b6, ← hw_w6] at h_HO6
  have HO6 := Lib.hid h_HO6
  clear h_HO6
  have HO7 := Lib.hid HO6.out.fifth
  obtain ⟨x0, x1, xf⟩ := HO7.out.vw
  have xf0 := xf 0 none
  have xf1 := xf 1 none
  have HPUT := Lib.hid (HO7.out.vw_put 0 (.slice none 0 0))
  obtain ⟨p0, p1', _⟩ := HPUT.out.vw
  clear ho4 HO6 c0 c1 p1 xf
  have HXN := Lib.hid hxn; have HXH := Lib.hid hxh; have HE := Lib.hid hE; have HE2 := Lib.hid hE2; have HEE := Lib.hid hee; have HE := Lib.hid he
  clear hxn hxh hE hE2 hee he
  go_upto_region 2 with fail
  rw [← hb_b6, ← hw_w6]
  clear hb_b6 hw_w6
  go_wp2_with fail
  exact bodyPost_ret (v := .tuple #[.agg #[.int .i64 0, .slice none 0 0], .iface 125 (.int .i64 (E : Int))]) (by simp [results, Tryd.results38, go_sem, p0, p1']) rfl ⟨by rw [HE2.out, HEE.out], (HPUT.out.drop.drop.drop.second.drop).flq_p⟩
theorem flChange_put {w0 w : World} {R : HProp} {p mb1 mb2 : Nat} {hv sv v4 : Value} {m : List FRow} {s S' : Fl} {B : List Int} (hS : S' = ⟨s.n + 1, B, s.all, [], s.heard⟩) (hm : mvals Prod.snd m = s.heard) (h : Own w0 (FlO p mb1 mb2 hv sv m s * (IntSl v4 B * R)) w) :
    Own w0 (FlP p S' * R) (((w.setCell ⟨p, 0, none⟩ (.int .i64 (s.n + 1))).setCell ⟨p, 1, none⟩ v4).setCell ⟨p, 3, none⟩ (.slice none 0 0)) := by
  have h1 := ((h.fl_blk.setCell (i := 0) (v := .int .i64 (s.n + 1))).setCell (i := 1) (v := v4)).setCell (i := 3) (v := .slice none 0 0)
  subst hS
  refine Own.fl_close (mb1 := mb1) (mb2 := mb2) (hv := v4) (sv := .slice none 0 0) (m := m) hm ?_
  have h2 : Own w0 (flBlk p mb1 mb2 (s.n + 1) v4 (.slice none 0 0) * (IntSl hv s.has * (IntSl sv s.said * (IMp mb1 (setM s.all) * (MpS plV plOk rowP Prod.fst mb2 m * (IntSl v4 B * R)))))) _ := h1
  have h3 := h2.second.drop.second.drop
  exact (h3.sl_nil 3 1).perm (by unfold FlO flBlk IntSl; ac_rfl)
theorem fl_said_later {w0 w : World} {R : HProp} {p mb1 mb2 : Nat} {ha : Option Addr} {hc : Nat} {sa : Option Addr} {sc : Nat} {s S : Fl} (hl : flLike S s) (hg : flGood s) (h : Own w0 (FlQ p mb1 mb2 ha hc sa sc S * R) w) : Ints w (.slice sa s.said.length sc) s.said := by
  obtain ⟨m, _, ho⟩ := h.flq_open
  have := IntSl_reads (w0 := w0) (by rw [hl.2.2.2]; exact hg.ok.2.2.1.2) _ ho.fl_said
  rwa [hl.2.2.2] at this
set_option maxRecDepth 100000 in
set_option maxHeartbeats 4000000 in
theorem flChange_yes {w0 w : World} {R : HProp} (p : Nat) (s : Fl) (vb : Value) (B : List Int) (hg : flGood s) (he : flNextErr s B = 0) (hB : Reads w0 R vb B) (h : Own w0 (FlP p s * R) w) :
    Calls Tryd.prog 38 #[.pointer (some ⟨p, 0, none⟩), vb] w fun e w' => ∃ v', e = .returned (.tuple #[.agg #[.int .i64 (s.n + 1), v'], errV 0]) ∧ Own w0 (IntSl v' B * (FlP p (flChange s B) * R)) w' := by
  obtain ⟨mb1, mb2, ha, hc, sa, sc, ho⟩ := h.fl_open_q
  obtain ⟨b1, hb_b1⟩ : ∃ zz_, zz_ = (w).heap.size := ⟨_, rfl⟩
  obtain ⟨w1, hw_w1⟩ : ∃ zz_, zz_ = (w).alloc (.cells #[.pointer (some ⟨p, 0, none⟩)] 79 (0, 0)) := ⟨_, rfl⟩
  have h_HO1 := (ho).alloc (.cells #[.pointer (some ⟨p, 0, none⟩)] 79 (0, 0))
  rw [← hb_b1, ← hw_w1] at h_HO1
  have HO1 := Lib.hid h_HO1
  clear h_HO1
  obtain ⟨b2, hb_b2⟩ : ∃ zz_, zz_ = (w1).heap.size := ⟨_, rfl⟩
  obtain ⟨w2, hw_w2⟩ : ∃ zz_, zz_ = (w1).alloc (.cells #[.int .i64 0, .slice none 0 0] 87 (0, 0)) := ⟨_, rfl⟩
  have h_HO2 := (HO1.out).alloc (.cells #[.int .i64 0, .slice none 0 0] 87 (0, 0))
  rw [← hb_b2, ← hw_w2] at h_HO2
  have HO2 := Lib.hid h_HO2
  clear h_HO2
  have hok := hg.ok
  obtain ⟨KK, hK⟩ : ∃ KK, KK = keepB B s.has := ⟨_, rfl⟩
  obtain ⟨S9, hS9⟩ : ∃ S, S = flChange s B := ⟨_, rfl⟩
  have hS9' := hS9
  unfold flChange at hS9'
  rw [if_pos he, ← hK] at hS9'
  have hne : nextErr s.n s.has B = 0 := he
  have hnn : nextN s.n s.has B = s.n + 1 := by unfold nextN; rw [if_pos hne]
  have hnh : nextHas s.n s.has B = B := by unfold nextHas; rw [if_pos hne]
  have hn6 : 0 ≤ s.n ∧ s.n ≤ 1000000 := hg.1
  rw [← hS9]
  have HS9 := Lib.hid hS9; have HS9' := Lib.hid hS9'; have HK := Lib.hid hK; have HNN := Lib.hid hnn; have HNH := Lib.hid hnh; have HNE := Lib.hid hne
  clear hS9 hS9' hK hnn hnh hne
  clear HO1 h he
  go_enter Tryd.func38, Tryd.ntmps38
  go_upto_region 1 with fail
  have hq_b2 : b1 + 1 = b2 := by rw [hb_b2, hw_w1, hb_b1, World.size_alloc]
  rw [← hb_b1, hq_b2, ← hw_w1, ← hw_w2]
  clear hq_b2 hb_b1 hb_b2 hw_w1 hw_w2
  have HO3 : Hid (Own w0 (FlQ p mb1 mb2 ha hc sa sc s * (BxP b1 p * (VwO b2 0 (.slice none 0 0) * R))) w2) := Lib.hid (HO2.out.third.perm (by unfold VwO; ac_rfl))
  obtain ⟨m, hm, hfl⟩ := HO3.out.flq_open
  obtain ⟨c0, c1, c2, c3, c4, cf⟩ := hfl.fl_facts
  have p1 : w2.cell? ⟨b1, 0, none⟩ = some (.pointer (some ⟨p, 0, none⟩)) := (HO3.out.drop.cell 0).trans rfl
  have HRA : Hid (∀ R', Reads w0 (FlQ p mb1 mb2 ha hc sa sc s * R') (.slice ha s.has.length hc) s.has) := Lib.hid (fun R' w' ho' => by
    obtain ⟨m', _, h'⟩ := ho'.flq_open
    exact IntSl_reads hok.2.1.2 _ h'.fl_has)
  have HRB : Hid (Reads w0 (FlQ p mb1 mb2 ha hc sa sc s * (BxP b1 p * (VwO b2 0 (.slice none 0 0) * R))) vb B) := Lib.hid hB.more.more.more
  have h5 : s.has.length ≤ 5 := hg.2.1.1
  have HOK := Lib.hid hok; have HB := Lib.hid hB; have HO := Lib.hid ho; have HM := Lib.hid hm; have HFL := Lib.hid hfl; have HG := Lib.hid hg; have H5 := Lib.hid h5
  clear hok hB ho hm hfl hg h5
  clear HO2 c2 c3 c4 cf
  go_wp2_with fail
  refine (viewNext_any s.n _ vb s.has B (HRA.out _) HRB.out HO3.out).mono ?_
  rintro e w4 ⟨v4, rfl, ho4⟩
  rw [HNN.out, HNE.out, errV0]
  rw [HNH.out] at ho4
  obtain ⟨a4, q4, hs4⟩ := ho4.int_shape
  subst hs4
  obtain ⟨n0, hn0⟩ : ∃ n, n = s.n := ⟨_, rfl⟩
  obtain ⟨b6, hb_b6⟩ : ∃ zz_, zz_ = (w4).heap.size := ⟨_, rfl⟩
  obtain ⟨w6, hw_w6⟩ : ∃ zz_, zz_ = (w4).alloc (.cells #[.int .i64 (s.n + 1), .slice a4 B.length q4] 87 (0, 0)) := ⟨_, rfl⟩
  have h_HO6 := (ho4).alloc (.cells #[.int .i64 (s.n + 1), .slice a4 B.length q4] 87 (0, 0))
  rw [← hb_b6, ← hw_w6] at h_HO6
  have HO6 := Lib.hid h_HO6
  clear h_HO6
  have HO7 : Hid (Own w0 (FlQ p mb1 mb2 ha hc sa sc s * (BxP b1 p * (VwO b2 0 (.slice none 0 0) * (VwO b6 (s.n + 1) (.slice a4 B.length q4) * (IntSl (.slice a4 B.length q4) B * R))))) w6) := Lib.hid (HO6.out.perm (by unfold VwO; ac_rfl))
  clear ho4 HO6 c0 c1 p1
  obtain ⟨m, hm, hfl⟩ := HO7.out.flq_open
  obtain ⟨c0, c1, c2, c3, c4, cf⟩ := hfl.fl_facts
  have p1 : w6.cell? ⟨b1, 0, none⟩ = some (.pointer (some ⟨p, 0, none⟩)) := (HO7.out.drop.cell 0).trans rfl
  have p2 : w6.cell? ⟨p, 3, none⟩ = some (.slice sa s.said.length sc) := c3
  clear c2 c4 cf hm hfl
  go_upto_region 2 with fail
  rw [← hb_b6, ← hw_w6]
  clear hb_b6 hw_w6
  go_wp2_with fail
  refine (shared_any _ vb s.has B (HRA.out _) HB.out.more.more.more.more.more (by have := H5.out; omega) HO7.out).mono ?_
  rintro e w8 ⟨v8, rfl, ho8⟩
  rw [← HK.out] at ho8
  obtain ⟨a8, q8, hs8⟩ := ho8.int_shape
  subst hs8
  obtain ⟨X, hX⟩ : ∃ X, X = VwO b2 0 (.slice none 0 0) * (VwO b6 (s.n + 1) (.slice a4 B.length q4) * (IntSl (.slice a4 B.length q4) B * R)) := ⟨_, rfl⟩
  have HO8 : Hid (Own w0 (FlQ p mb1 mb2 ha hc sa sc s * (BxP b1 p * (IntSl (.slice a8 KK.length q8) KK * X))) w8) := Lib.hid (by rw [hX]; exact ho8.to3)
  clear ho8 c0 c1 p1 p2 c3
  obtain ⟨m, hm, hfl⟩ := HO8.out.flq_open
  obtain ⟨c0, c1, c2, c3, c4, cf⟩ := hfl.fl_facts
  have p1 : w8.cell? ⟨b1, 0, none⟩ = some (.pointer (some ⟨p, 0, none⟩)) := (HO8.out.drop.cell 0).trans rfl
  clear c0 c1 c2 c4 cf hm hfl
  have HX := Lib.hid hX
  clear hX
  go_upto_block 0 with fail
  clear c3 p1
  have hKI : ∀ x ∈ KK, isMember x = true := by rw [HK.out]; intro x hx; exact HG.out.2.1.2 x (List.mem_filter.1 hx).1
  have hK5 : KK.length ≤ 5 := by have := H5.out; have := keepB_le B s.has; rw [HK.out]; omega
  have hsl : s.said.length ≤ 1000 := HOK.out.2.2.1.1
  have HKI := Lib.hid hKI
  clear hKI
  go_wp2_with fail
  go_loopw [38] (fun iv wr => ∃ k : Nat, k ≤ s.said.length ∧ iv = .int .i64 k ∧ Hid (Own w0 (FlQ p mb1 mb2 ha hc sa sc (flFlush s KK (s.said.take k)) * (BxP b1 p * (IntSl (.slice a8 KK.length q8) KK * X))) wr)) (fun iv _ => s.said.length - (intOf iv).toNat)
  case atStart => exact ⟨0, Nat.zero_le _, rfl, HO8⟩
  case round =>
    obtain ⟨k, hk, rfl, HP⟩ := hrel
    by_cases hlt : k < s.said.length
    · obtain ⟨S, hS⟩ : ∃ S, S = flFlush s KK (s.said.take k) := ⟨_, rfl⟩
      rw [← hS] at HP
      have hlk : flLike S s := by rw [hS]; exact flLike_flush _ _ _
      have hsg : flGood S := by rw [hS]; exact flGood_flush _ (fun w hw => HG.out.2.2.1.2 w (List.mem_of_mem_take hw)) HG.out
      obtain ⟨aa, rfl, hca⟩ := (fl_said_later hlk HG.out HP.out).at k hlt
      obtain ⟨x, hx⟩ : ∃ x, x = s.said[k] := ⟨_, rfl⟩
      rw [← hx] at hca
      have hxw : isWord x = true := by rw [hx]; exact HG.out.2.2.1.2 _ (List.getElem_mem _)
      obtain ⟨b10, hb_b10⟩ : ∃ zz_, zz_ = (wr).heap.size := ⟨_, rfl⟩
      obtain ⟨w10, hw_w10⟩ : ∃ zz_, zz_ = (wr).alloc (.cells #[.int .i64 x] 3 (0, 0)) := ⟨_, rfl⟩
      have h_HO10 := (HP.out).alloc (.cells #[.int .i64 x] 3 (0, 0))
      rw [← hb_b10, ← hw_w10] at h_HO10
      have HO10 := Lib.hid h_HO10
      clear h_HO10
      have HN10 : Hid (Own w0 (FlQ p mb1 mb2 ha hc (some aa) sc S * (BxP b1 p * (BxI b10 x * (IntSl (.slice a8 KK.length q8) KK * X)))) w10) := Lib.hid HO10.out.to3
      clear HO10
      have hnx : flFlush s KK (s.said.take (k + 1)) = flWord KK S x := by rw [flFlush_next hlt, ← hS, ← hx]
      have HRK : Hid (∀ R', Reads w0 (IntSl (.slice a8 KK.length q8) KK * R') (.slice a8 KK.length q8) KK) := Lib.hid (fun R' => IntSl_reads (fun x hx => member_I64 (HKI.out x hx)))
      have HRK2 : Hid (∀ S', Reads w0 (FlQ p mb1 mb2 ha hc (some aa) sc S' * (BxP b1 p * (BxI b10 x * (IntSl (.slice a8 KK.length q8) KK * X)))) (.slice a8 KK.length q8) KK) := Lib.hid (fun S' => (HRK.out _).more.more.more)
      obtain ⟨D, hD⟩ : ∃ D, D = KK.any fun m => flHas S m x := ⟨_, rfl⟩
      have HS := Lib.hid hS; have HLK := Lib.hid hlk; have HSG := Lib.hid hsg; have HX := Lib.hid hx; have HXW := Lib.hid hxw; have HNX := Lib.hid hnx; have HD := Lib.hid hD
      clear hS hlk hsg hx hxw hnx hD
      go_upto_region 8 with fail
      rw [← hb_b10, ← hw_w10]
      clear hb_b10 hw_w10
      clear hca
      go_wp2_with fail
      refine (fn2Contains_any _ _ _ (fun m => flHas S m x) _ KK HN10.out (HRK2.out S) (fun a w => by kernel_rfl) (fun m w hm ho => flCh1_any p b1 b10 S m x hm HSG.out.ok ho)).mono ?_
      rintro e w11 ⟨rfl, ho11⟩
      rw [← HD.out]
      have HO11 := Lib.hid ho11
      clear ho11
      cases D
      · have hW : flWord KK S x = S := by unfold flWord; rw [← HD.out]; simp
        have HW := Lib.hid hW
        clear hW
        go_wp2
        go_round
        case rel => exact ⟨k + 1, by omega, by go_num, Lib.hid (by rw [HNX.out, HW.out]; exact HO11.out.third.drop)⟩
        case measure => simp [intOf]; omega
      · have hW : flWord KK S x = flGiveAll S KK x := by unfold flWord; rw [← HD.out]; simp
        have HW := Lib.hid hW
        clear hW
        go_upto_block 2 with fail
        go_wp2_with fail
        go_loopw [48] (fun jv wq => ∃ j : Nat, j ≤ KK.length ∧ jv = .int .i64 j ∧ Hid (Own w0 (FlQ p mb1 mb2 ha hc (some aa) sc (flGiveAll S (KK.take j) x) * (BxP b1 p * (BxI b10 x * (IntSl (.slice a8 KK.length q8) KK * X)))) wq)) (fun jv _ => KK.length - (intOf jv).toNat)
        case atStart => exact ⟨0, Nat.zero_le _, rfl, HO11⟩
        case round =>
          obtain ⟨j, hj, rfl, HQ⟩ := hrel
          obtain ⟨T, hT⟩ : ∃ T, T = flGiveAll S (KK.take j) x := ⟨_, rfl⟩
          rw [← hT] at HQ
          by_cases hjt : j < KK.length
          · obtain ⟨ab, rfl, hcb⟩ := (HRK2.out T _ HQ.out).at j hjt
            obtain ⟨y, hy⟩ : ∃ y, y = KK[j] := ⟨_, rfl⟩
            rw [← hy] at hcb
            have hyI : I64 y := by rw [hy]; exact member_I64 (HKI.out _ (List.getElem_mem _))
            have htg : flGood T := by rw [hT]; exact flGood_all HXW.out _ HSG.out
            have hnt : flGiveAll S (KK.take (j + 1)) x = flStep x T y := by rw [flGiveAll_next hjt, ← hT, ← hy]
            have z1 : wr.cell? ⟨b1, 0, none⟩ = some (.pointer (some ⟨p, 0, none⟩)) := (HQ.out.drop.cell 0).trans rfl
            have z2 : wr.cell? ⟨b10, 0, none⟩ = some (.int .i64 x) := (HQ.out.drop.drop.cell 0).trans rfl
            obtain ⟨D, hD⟩ : ∃ D, D = flHas T y x := ⟨_, rfl⟩
            have HT := Lib.hid hT; have HY := Lib.hid hy; have HYI := Lib.hid hyI; have HTG := Lib.hid htg; have HNT := Lib.hid hnt; have HD := Lib.hid hD
            clear hT hy hyI htg hnt hD
            go_wp2_with fail
            refine (flHas_q p T y x HYI.out HTG.out.ok HQ.out).mono ?_
            rintro e w12 ⟨rfl, ho12⟩
            rw [← HD.out]
            have HO12 := Lib.hid ho12
            clear ho12 z1 z2 hcb
            cases D
            · have hst : flStep x T y = flHear T y x := by unfold flStep; rw [← HD.out]; simp
              have z1 : w12.cell? ⟨b1, 0, none⟩ = some (.pointer (some ⟨p, 0, none⟩)) := (HO12.out.drop.cell 0).trans rfl
              have z2 : w12.cell? ⟨b10, 0, none⟩ = some (.int .i64 x) := (HO12.out.drop.drop.cell 0).trans rfl
              have HST := Lib.hid hst
              clear hst
              go_wp2_with fail
              refine (flHear_q p T y x HYI.out (isWord_I64 HXW.out) HTG.out.ok HO12.out).mono ?_
              rintro e w13 ⟨rfl, ho13⟩
              have HO13 := Lib.hid ho13
              clear ho13 z1 z2
              go_wp2
              go_round
              case rel => exact ⟨j + 1, by omega, by go_num, Lib.hid (by rw [HNT.out, HST.out]; exact HO13.out)⟩
              case measure => simp [intOf]; omega
            · have hst : flStep x T y = T := by unfold flStep; rw [← HD.out]; simp
              have HST := Lib.hid hst
              clear hst
              go_wp2
              go_round
              case rel => exact ⟨j + 1, by omega, by go_num, Lib.hid (by rw [HNT.out, HST.out]; exact HO12.out)⟩
              case measure => simp [intOf]; omega
          · have hjk : KK.take j = KK := List.take_of_length_le (by omega)
            rw [hjk] at hT
            have hjl : j = KK.length := by omega
            subst hjl
            have HT := Lib.hid hT; have HJK := Lib.hid hjk
            clear hT hjk
            go_wp2
            go_round
            case rel => exact ⟨k + 1, by omega, by go_num, Lib.hid (by rw [HNX.out, HW.out, ← HT.out]; exact HQ.out.third.drop)⟩
            case measure => simp [intOf]; omega
    · have hkn : k = s.said.length := by omega
      subst hkn
      rw [List.take_length] at HP
      obtain ⟨S, hS⟩ : ∃ S, S = flFlush s KK s.said := ⟨_, rfl⟩
      rw [← hS] at HP
      have hlk : flLike S s := by rw [hS]; exact flLike_flush _ _ _
      have hsg : flGood S := by rw [hS]; exact flGood_flush _ (fun w hw => HG.out.2.2.1.2 w hw) HG.out
      have h9 : S9 = ⟨S.n + 1, B, S.all, [], S.heard⟩ := by rw [HS9'.out, hlk.1, hlk.2.2.1, hS]
      have hon9 : flOk S9 := by
        have hg' := hsg.ok
        rw [h9]
        have hb : memErr B = 0 := by
          have := HNE.out
          unfold nextErr at this
          by_cases h1 : viewErr s.n s.has = 0
          · rw [if_neg (by simpa using h1)] at this
            by_cases h2 : s.n = 1000000
            · rw [if_pos h2] at this; cases this
            rw [if_neg h2] at this
            by_cases h3 : memErr B = 0
            · exact h3
            · rw [if_pos h3] at this; exact absurd this h3
          · rw [if_pos h1] at this; exact absurd this h1
        have hne' : s.n ≠ 1000000 := by
          intro h2
          have := HNE.out
          unfold nextErr at this
          by_cases h1 : viewErr s.n s.has = 0
          · rw [if_neg (by simpa using h1), if_pos h2] at this; cases this
          · rw [if_pos h1] at this; exact absurd this h1
        have hn1 := hlk.1
        exact ⟨⟨by simp only; omega, by simp only; omega⟩, ⟨(memErr_len hb).2, fun x hx => member_I64 (memErr_members hb x hx)⟩, ⟨by simp, by simp⟩, hg'.2.2.2⟩
      have HB7 : Hid (Own w0 (FlQ p mb1 mb2 ha hc sa sc S * (IntSl (.slice a4 B.length q4) B * (BxP b1 p * (VwO b6 (s.n + 1) (.slice a4 B.length q4) * (VwO b2 0 (.slice none 0 0) * (IntSl (.slice a8 KK.length q8) KK * R)))))) wr) := Lib.hid (HP.out.perm (by rw [HX.out]; ac_rfl))
      clear HP
      obtain ⟨m, hm, hfl⟩ := HB7.out.flq_open
      obtain ⟨c0, c1, c2, c3, c4, cf⟩ := hfl.drew.fl_facts
      obtain ⟨c0', c1', _, c3', _, cf'⟩ := hfl.fl_facts
      have f0' := cf' 0 none
      have f1' := cf' 1 none
      have f3' := cf' 3 none
      have f0 := cf 0 none
      have f1 := cf 1 none
      have f3 := cf 3 none
      have z1 : wr.drew.cell? ⟨b1, 0, none⟩ = some (.pointer (some ⟨p, 0, none⟩)) := (HB7.out.drew.drop.drop.cell 0).trans rfl
      have z2 : wr.drew.cell? ⟨b6, 0, none⟩ = some (.int .i64 (s.n + 1)) := (HB7.out.drew.drop.drop.drop.cell 0).trans rfl
      have z3 : wr.drew.cell? ⟨b6, 1, none⟩ = some (.slice a4 B.length q4) := (HB7.out.drew.drop.drop.drop.cell 1).trans rfl
      have hput : Own w0 (FlP p S9 * _) (((wr.setCell ⟨p, 0, none⟩ (.int .i64 (S.n + 1))).setCell ⟨p, 1, none⟩ (.slice a4 B.length q4)).drew.setCell ⟨p, 3, none⟩ (.slice none 0 0)) := (flChange_put h9 hm hfl).drew
      rw [hlk.1] at hput
      have hbl2 := ((hfl.fl_blk.setCell (i := 0) (v := .int .i64 (s.n + 1))).setCell (i := 1) (v := .slice a4 B.length q4)).drew
      obtain ⟨w13, hw13⟩ : ∃ w13, w13 = ((wr.setCell ⟨p, 0, none⟩ (.int .i64 (s.n + 1))).setCell ⟨p, 1, none⟩ (.slice a4 B.length q4)).drew := ⟨_, rfl⟩
      rw [← hw13] at hbl2 hput
      have HPUT := Lib.hid hput
      have y1 : w13.cell? ⟨b1, 0, none⟩ = some (.pointer (some ⟨p, 0, none⟩)) := (hbl2.drop.drop.drop.drop.drop.drop.cell 0).trans rfl
      have y2 : w13.cell? ⟨b6, 0, none⟩ = some (.int .i64 (s.n + 1)) := (hbl2.drop.drop.drop.drop.drop.drop.drop.cell 0).trans rfl
      have y3 : w13.cell? ⟨b6, 1, none⟩ = some (.slice a4 B.length q4) := (hbl2.drop.drop.drop.drop.drop.drop.drop.cell 1).trans rfl
      have y4 : w13.cell? ⟨p, 3, none⟩ = some (.slice sa S.said.length sc) := (hbl2.cell 3).trans rfl
      have y5 := hbl2.free 3 none
      clear hput hbl2 cf cf' c2 c4 hm hfl
      have HS := Lib.hid hS; have HLK := Lib.hid hlk; have HSG := Lib.hid hsg; have H9 := Lib.hid h9; have HON9 := Lib.hid hon9; have HW13 := Lib.hid hw13
      clear hS hlk hsg h9 hon9 hw13
      go_upto_region 16 with fail
      refine wp_region_planH 8 [] [(true, 0), (true, 1), (true, 2), (true, 3), (true, 4), (false, 5), (true, 6), (true, 7)] [8] (fun wS => wS.cell? ⟨b1, 0, none⟩ = some (.pointer (some ⟨p, 0, none⟩)) ∧ wS.cell? ⟨b6, 0, none⟩ = some (.int .i64 (s.n + 1)) ∧ wS.cell? ⟨b6, 1, none⟩ = some (.slice a4 B.length q4)) (by kernel_rfl) (by kernel_rfl) (⟨z1, z2, z3⟩) ?_
      simp only [pickH, pick, List.getElem?_cons_succ, List.getElem?_cons_zero, Option.toList, Option.map_some, List.cons_append, List.nil_append]
      repeat (refine wpPure_step ?_ rfl ?_ ?_; rotate_left; (focus (intro _; first | with_reducible rfl | (go_simp; done) | (go_simp; with_reducible rfl) | rfl)); go_simp)
      refine wpPure_nil ?_
      repeat (refine wpMix_read ?_ rfl ?_ ?_; rotate_left; (focus (intro _ hS; obtain ⟨s1, s2, s3⟩ := hS; first | with_reducible rfl | (go_simp; done) | (go_simp; with_reducible rfl) | rfl)); go_simp)
      refine wpMix_write (fun K hK => ?_)
      go_simp
      rw [← HW13.out]
      refine hK _ _ ⟨⟨y1, y2, y3⟩, ?_⟩
      clear hK K
      go_simp
      repeat (refine wpMix_read ?_ rfl ?_ ?_; rotate_left; (focus (intro _ hS; obtain ⟨s1, s2, s3⟩ := hS; first | with_reducible rfl | (go_simp; done) | (go_simp; with_reducible rfl) | rfl)); go_simp)
      refine wpMix_nil ?_
      clear c0 c1 c3 c0' c1' c3' f0 f1 f3 f0' f1' f3' z1 z2 z3 HW13
      have x1 : (w13.setCell ⟨p, 3, none⟩ (.slice none 0 0)).cell? ⟨b1, 0, none⟩ = some (.pointer (some ⟨p, 0, none⟩)) := (HPUT.out.drop.cell 0).trans rfl
      go_wp2_with fail
      refine NoPanic.normal ?_
      go_wp2_with fail
      refine (flView_any p S9 HON9.out HPUT.out).mono ?_
      rintro e w15 ⟨v15, rfl, ho15⟩
      obtain ⟨a15, q15, hs15⟩ := ho15.int_shape
      subst hs15
      have h9n : S9.n = s.n + 1 := by rw [H9.out]; show S.n + 1 = s.n + 1; rw [HLK.out.1]
      have h9h : S9.has = B := by rw [H9.out]
      rw [h9h] at ho15
      rw [h9n, h9h]
      have HO15 : Hid (Own w0 (VwO b2 0 (.slice none 0 0) * (IntSl (.slice a15 B.length q15) B * (FlP p S9 * R))) w15) := Lib.hid ho15.third.drop.third.drop.fourth.drop.third
      obtain ⟨k0, k1, kf⟩ := HO15.out.vw
      have kf0 := kf 0 none
      have kf1 := kf 1 none
      have HFIN := Lib.hid (HO15.out.vw_put (s.n + 1) (.slice a15 B.length q15))
      obtain ⟨r0, r1, _⟩ := HFIN.out.vw
      clear ho15 kf x1
      have H9N := Lib.hid h9n; have H9H := Lib.hid h9h
      clear h9n h9h
      go_wp2_with fail
      exact bodyPost_ret (v := .tuple #[.agg #[.int .i64 (s.n + 1), .slice a15 B.length q15], .nilIface]) (by simp [results, Tryd.results38, go_sem, r0, r1]) rfl ⟨_, rfl, HFIN.out.drop⟩
end Go.Proofs.YtpgonkecicmanaaDoor
/- The numbers of a step, in an array of their own. -/
namespace Go.Proofs.YtpgonkecicmanaaDoor
set_option linter.unusedVariables false
set_option linter.unusedSimpArgs false
open Go.RowKit
def Nms (ty : TypeId) (b : Nat) (l : List Int) : HProp := blk b (.cells (l.map (Value.int .i64)).toArray ty (0, 0))
section
variable {w0 w : World} {ty : TypeId} {b : Nat} {l : List Int} {R : HProp}
theorem Own.nms_cell (h : Own w0 (Nms ty b l * R) w) (i : Nat) (hi : i < l.length) : w.cell? ⟨b, i, none⟩ = some (.int .i64 l[i]) := by
  rw [Own.cell h i]; simp [hi]
theorem Own.nms_free (h : Own w0 (Nms ty b l * R) w) (i : Nat) : w.frozen? ⟨b, i, none⟩ = false := Own.free h i none
theorem Own.nms_set (i : Nat) (x : Int) (h : Own w0 (Nms ty b l * R) w) : Own w0 (Nms ty b (l.set i x) * R) (w.setCell ⟨b, i, none⟩ (.int .i64 x)) := by
  have h1 := Own.setCell (i := i) (v := .int .i64 x) h
  refine h1.perm ?_
  unfold Nms
  rw [List.map_set]
  simp
end
def NmV (ty : TypeId) (n : Nat) (w : World) (b : Nat) (R : HProp) (wx : World) : Prop := ∃ l : List Int, l.length = n ∧ Own w (Nms ty b l * R) wx
theorem NmV.three {ty : TypeId} {w : World} {b : Nat} {R : HProp} {wx : World} (h : NmV ty 3 w b R wx) : ∃ x y z, Own w (Nms ty b [x, y, z] * R) wx := by
  obtain ⟨l, h3, ho⟩ := h
  match l, h3 with
  | [x, y, z], _ => exact ⟨x, y, z, ho⟩
theorem NmV.four {ty : TypeId} {w : World} {b : Nat} {R : HProp} {wx : World} (h : NmV ty 4 w b R wx) : ∃ x y z u, Own w (Nms ty b [x, y, z, u] * R) wx := by
  obtain ⟨l, h3, ho⟩ := h
  match l, h3 with
  | [x, y, z, u], _ => exact ⟨x, y, z, u, ho⟩
end Go.Proofs.YtpgonkecicmanaaDoor
/- errors.As at a number of api, and what plain.Told makes of an error: its number. (After the guide's Toyas example, at a target that is a number.) -/
namespace Go.Proofs.YtpgonkecicmanaaDoor
open Go.RowKit Go.Extern.Stop Go.Stop Go.Extern
set_option linter.unusedVariables false
namespace As
/-- The variable errors.errorType holds the handle of the type error. -/
def Handle (w : World) : Prop := w.cell? ⟨0, 0, none⟩ = some (.iface 228 (.agg #[.pointer (some ⟨5, 25, none⟩)]))
theorem valueOfT (t : Addr) (w : World) : (ReflectliteValue.unpack (.iface 186 (.pointer (some t)))).run Tryd.prog w
    = .ok (.agg #[.pointer (some ⟨5, 186, none⟩), .pointer (some ⟨w.heap.size, 0, none⟩), .int .u64 150]) (w.alloc (.cells #[.pointer (some t)] 186)) := by kernel_rfl
theorem typeT (a : Addr) (w : World) : (ReflectliteValue.methodAny (ReflectliteValue.valueError "reflectlite.Value.Type" 0) (fun t _ _ _ => ReflectliteType.toType t) #[.agg #[.pointer (some ⟨5, 186, none⟩), .pointer (some a), .int .u64 150]]).run Tryd.prog w
    = .ok (.iface 228 (.agg #[.pointer (some ⟨5, 186, none⟩)])) w := by kernel_rfl
theorem methodKind (h : Value) (w : World) : (Go.method 387 228 (.agg #[h]) "Kind").run Tryd.prog w = .ok (196, h) w := by kernel_rfl
theorem kindT (w : World) : ((ReflectliteType.abiMethod fun t => (fun a : Nat => Value.int IntKind.u8 (a : Int)) <$> Rtype.kind t) #[.pointer (some ⟨5, 186, none⟩)]).run Tryd.prog w = .ok (.int .u8 22) w := by kernel_rfl
theorem kindE (w : World) : ((ReflectliteType.abiMethod fun t => (fun a : Nat => Value.int IntKind.u8 (a : Int)) <$> Rtype.kind t) #[.pointer (some ⟨5, 125, none⟩)]).run Tryd.prog w = .ok (.int .u8 2) w := by kernel_rfl
theorem rlm (z : Sem Value) (f : TypeId → Addr → Nat → Nat → Sem Value) (v : Value) :
    ReflectliteValue.method z f #[v] = (do match ← ReflectliteValue.parts v with | none => z | some (t, a, fl) => f t a fl (fl % 32)) := rfl
theorem partsT (a : Addr) (w : World) : (ReflectliteValue.parts (.agg #[.pointer (some ⟨5, 186, none⟩), .pointer (some a), .int .u64 150])).run Tryd.prog w = .ok (some (186, a, 150)) w := by kernel_rfl
theorem isNilT (a p : Addr) (W : World) (ha : W.cell? a = some (.pointer (some p))) :
    (ReflectliteValue.method (ReflectliteValue.valueError "reflectlite.Value.IsNil" 0) ReflectliteValue.isNil #[.agg #[.pointer (some ⟨5, 186, none⟩), .pointer (some a), .int .u64 150]]).run Tryd.prog W = .ok (.bool false) W := by
  rw [rlm]
  simp only [Sem.run_bind, partsT, Result.andThen]
  simp [ReflectliteValue.isNil, loadVar, isAgg, underlying, Tryd.underlying186, ha, Result.andThen]
theorem methodElem (h : Value) (w : World) : (Go.method 387 228 (.agg #[h]) "Elem").run Tryd.prog w = .ok (206, .agg #[h]) w := by kernel_rfl
theorem methodImplements (h : Value) (w : World) : (Go.method 387 228 (.agg #[h]) "Implements").run Tryd.prog w = .ok (207, .agg #[h]) w := by kernel_rfl
theorem methodAssignableTo (h : Value) (w : World) : (Go.method 387 228 (.agg #[h]) "AssignableTo").run Tryd.prog w = .ok (204, .agg #[h]) w := by kernel_rfl
theorem elemT (w : World) : (ReflectliteType.method ReflectliteType.elem #[.agg #[.pointer (some ⟨5, 186, none⟩)]]).run Tryd.prog w = .ok (.iface 228 (.agg #[.pointer (some ⟨5, 125, none⟩)])) w := by kernel_rfl
theorem implementsE (w : World) : (ReflectliteType.relation "Implements" ReflectliteType.implements_ #[.agg #[.pointer (some ⟨5, 125, none⟩)], .iface 228 (.agg #[.pointer (some ⟨5, 25, none⟩)])]).run Tryd.prog w = .ok (.bool true) w := by kernel_rfl
theorem typeOfE (v : Value) (w : World) : (ReflectliteType.typeOf #[.iface 125 v]).run Tryd.prog w = .ok (.iface 228 (.agg #[.pointer (some ⟨5, 125, none⟩)])) w := by kernel_rfl
theorem assignableE (w : World) : (ReflectliteType.relation "AssignableTo" ReflectliteType.assignableTo #[.agg #[.pointer (some ⟨5, 125, none⟩)], .iface 228 (.agg #[.pointer (some ⟨5, 125, none⟩)])]).run Tryd.prog w = .ok (.bool true) w := by kernel_rfl
theorem valueOfE (n : Int) (w : World) : (ReflectliteValue.unpack (.iface 125 (.int .i64 n))).run Tryd.prog w
    = .ok (.agg #[.pointer (some ⟨5, 125, none⟩), .pointer (some ⟨w.heap.size, 0, none⟩), .int .u64 130]) (w.alloc (.cells #[.int .i64 n] 125)) := by kernel_rfl
theorem elemOfT (w : World) : (Rtype.elem? 186).run Tryd.prog w = .ok (some 125) w := by kernel_rfl
theorem mkE (p : Addr) (w : World) : (ReflectliteValue.mk 125 p ReflectliteValue.flagAddr).run Tryd.prog w = .ok (.agg #[.pointer (some ⟨5, 125, none⟩), .pointer (some p), .int .u64 386]) w := by kernel_rfl
theorem elemVT (a p : Addr) (W : World) (ha : W.cell? a = some (.pointer (some p))) :
    (ReflectliteValue.method (ReflectliteValue.valueError "reflectlite.Value.Elem" 0) ReflectliteValue.elem #[.agg #[.pointer (some ⟨5, 186, none⟩), .pointer (some a), .int .u64 150]]).run Tryd.prog W
      = .ok (.agg #[.pointer (some ⟨5, 125, none⟩), .pointer (some p), .int .u64 386]) W := by
  rw [rlm]
  simp only [Sem.run_bind, partsT, Result.andThen]
  simp [ReflectliteValue.elem, loadVar, isAgg, underlying, Tryd.underlying186, ha, Result.andThen, elemOfT, mkE]
theorem rls (v x : Value) : ReflectliteValue.set #[v, x] = (do
    let (some (dst, a, fl), some (src, b, _)) := (← ReflectliteValue.parts v, ← ReflectliteValue.parts x)
      | unsupported (.noEntry "extern/(internal/reflectlite.Value).Set.zeroValue")
    if fl / ReflectliteValue.flagAddr % 2 == 0 then unsupported (.noEntry "extern/(internal/reflectlite.Value).Set.unaddressable")
    let val ← loadVar src b
    if ← Rtype.directlyAssignable dst src then storeVar dst a val
    else if ← Rtype.implements dst src then
      if (← Rtype.kind src) == 20 then
        match val with
        | .nilIface => unsupported (.noEntry "extern/reflectlite: a nil value of one interface type handed on as a value of another")
        | _ => storeVar dst a val
      else storeVar dst a (.iface src val)
    else panicString ("reflectlite.Set: value of type " ++ (← Rtype.spelt src) ++ " is not assignable to type " ++ (← Rtype.spelt dst))
    pure (.tuple #[])) := rfl
theorem partsEa (a : Addr) (w : World) : (ReflectliteValue.parts (.agg #[.pointer (some ⟨5, 125, none⟩), .pointer (some a), .int .u64 386])).run Tryd.prog w = .ok (some (125, a, 386)) w := by kernel_rfl
theorem partsE (a : Addr) (w : World) : (ReflectliteValue.parts (.agg #[.pointer (some ⟨5, 125, none⟩), .pointer (some a), .int .u64 130])).run Tryd.prog w = .ok (some (125, a, 130)) w := by kernel_rfl
theorem directE (w : World) : (Rtype.directlyAssignable 125 125).run Tryd.prog w = .ok true w := by kernel_rfl
theorem sizeE (w : World) : (sizeOf 125).run Tryd.prog w = .ok 1 w := by kernel_rfl
theorem setE (ta b : Addr) (n : Int) (old : Value) (W : World) (hb : W.cell? b = some (.int .i64 n)) (ht : W.cell? ta = some old) (hf : W.frozen? ta = false) :
    (ReflectliteValue.set #[.agg #[.pointer (some ⟨5, 125, none⟩), .pointer (some ta), .int .u64 386], .agg #[.pointer (some ⟨5, 125, none⟩), .pointer (some b), .int .u64 130]]).run Tryd.prog W
      = .ok (.tuple #[]) (W.setCell ta (.int .i64 n)) := by
  rw [rls]
  simp only [Sem.run_bind, partsEa, partsE, Result.andThen]
  simp [ReflectliteValue.flagAddr, loadVar, isAgg, underlying, Tryd.underlying125, hb, Result.andThen, directE, storeVar, Value.cells, storeCells, Addr.add]
  rw [run_store Tryd.prog W ta _ _ (by rfl)]
  simp [ht, hf]
set_option maxHeartbeats 4000000 in
theorem as_hit (n : Int) (t : Addr) (old : Value) (w : World) (hg : Handle w) (ht0 : w.cell? t = some old) (hf0 : w.frozen? t = false) :
    Calls Tryd.prog 110 #[.iface 125 (.int .i64 n), .iface 186 (.pointer (some t))] w fun ev w' => ev = .returned (.bool true) ∧ w' = ((((w.alloc (.cells #[.pointer (some t)] 186)).alloc (.cells #[.pointer (some ⟨5, 186, none⟩), .pointer (some ⟨w.heap.size, 0, none⟩), .int .u64 150] 202)).alloc (.cells #[.pointer (some ⟨5, 186, none⟩), .pointer (some ⟨w.heap.size, 0, none⟩), .int .u64 150] 202)).alloc (.cells #[.int .i64 n] 125)).setCell t (.int .i64 n) := by
  have hg : w.cell? ⟨0, 0, none⟩ = some (.iface 228 (.agg #[.pointer (some ⟨5, 25, none⟩)])) := hg
  have h6 := @run_callFunc_extern Tryd.prog 136 _ (fun args => ReflectliteValue.unpack (args.getD 0 (.tuple #[]))) Tryd.func136 (by kernel_rfl) (by kernel_rfl) (by kernel_rfl) (by kernel_rfl)
  have h7 := @run_callFunc_extern Tryd.prog 137 _ (ReflectliteValue.methodAny (ReflectliteValue.valueError "reflectlite.Value.Type" 0) (fun t _ _ _ => ReflectliteType.toType t)) Tryd.func137 (by kernel_rfl) (by kernel_rfl) (by kernel_rfl) (by kernel_rfl)
  have h8 := @run_callFunc_extern Tryd.prog 138 _ (ReflectliteValue.method (ReflectliteValue.valueError "reflectlite.Value.IsNil" 0) ReflectliteValue.isNil) Tryd.func138 (by kernel_rfl) (by kernel_rfl) (by kernel_rfl) (by kernel_rfl)
  have h27 := @run_callFunc_extern Tryd.prog 196 _ (ReflectliteType.abiMethod fun t => do pure (.int .u8 (← Rtype.kind t))) Tryd.func196 (by kernel_rfl) (by kernel_rfl) (by kernel_rfl) (by kernel_rfl)
  have h37 := @run_callFunc_extern Tryd.prog 206 _ (ReflectliteType.method ReflectliteType.elem) Tryd.func206 (by kernel_rfl) (by kernel_rfl) (by kernel_rfl) (by kernel_rfl)
  have h38 := @run_callFunc_extern Tryd.prog 207 _ (ReflectliteType.relation "Implements" ReflectliteType.implements_) Tryd.func207 (by kernel_rfl) (by kernel_rfl) (by kernel_rfl) (by kernel_rfl)
  have h10 := @run_callFunc_extern Tryd.prog 157 _ ReflectliteType.typeOf Tryd.func157 (by kernel_rfl) (by kernel_rfl) (by kernel_rfl) (by kernel_rfl)
  have h35 := @run_callFunc_extern Tryd.prog 204 _ (ReflectliteType.relation "AssignableTo" ReflectliteType.assignableTo) Tryd.func204 (by kernel_rfl) (by kernel_rfl) (by kernel_rfl) (by kernel_rfl)
  have h11 := @run_callFunc_extern Tryd.prog 158 _ (ReflectliteValue.method (ReflectliteValue.valueError "reflectlite.Value.Elem" 0) ReflectliteValue.elem) Tryd.func158 (by kernel_rfl) (by kernel_rfl) (by kernel_rfl) (by kernel_rfl)
  have h12 := @run_callFunc_extern Tryd.prog 159 _ ReflectliteValue.set Tryd.func159 (by kernel_rfl) (by kernel_rfl) (by kernel_rfl) (by kernel_rfl)
  have tO := typeOfE
  have mA := methodAssignableTo
  have a25 := assignableE
  have v25 := valueOfE
  have f6 := valueOfT
  have f7 := typeT
  have mK := methodKind
  have mE := methodElem
  have mI := methodImplements
  have k27 := kindT
  have k25 := kindE
  have e27 := elemT
  have i25 := implementsE
  have n8 := isNilT ⟨w.heap.size, 0, none⟩ t ((w.alloc (.cells #[.pointer (some t)] 186)).alloc (.cells #[.pointer (some ⟨5, 186, none⟩), .pointer (some ⟨w.heap.size, 0, none⟩), .int .u64 150] 202)) (by simp)
  have hlt : 0 < w.heap.size := by
    rcases Nat.eq_zero_or_pos w.heap.size with h0 | h
    · simp [World.cell?, h0] at hg
    · exact h
  have hg2 : ((w.alloc (.cells #[.pointer (some t)] 186)).alloc (.cells #[.pointer (some ⟨5, 186, none⟩), .pointer (some ⟨w.heap.size, 0, none⟩), .int .u64 150] 202)).cell? ⟨0, 0, none⟩ = some (.iface 228 (.agg #[.pointer (some ⟨5, 25, none⟩)])) := by
    rw [World.cell?_alloc_lt _ _ ⟨0, 0, none⟩ (by simp), World.cell?_alloc_lt _ _ ⟨0, 0, none⟩ hlt]; exact hg
  have htl : t.block < w.heap.size := by
    rcases Nat.lt_or_ge t.block w.heap.size with h | h
    · exact h
    · simp [World.cell?, Array.getElem?_eq_none h] at ht0
  have el := elemVT ⟨w.heap.size, 0, none⟩ t (((w.alloc (.cells #[.pointer (some t)] 186)).alloc (.cells #[.pointer (some ⟨5, 186, none⟩), .pointer (some ⟨w.heap.size, 0, none⟩), .int .u64 150] 202)).alloc (.cells #[.pointer (some ⟨5, 186, none⟩), .pointer (some ⟨w.heap.size, 0, none⟩), .int .u64 150] 202)) (by rw [World.cell?_alloc_lt _ _ ⟨w.heap.size, 0, none⟩ (by simp; omega)]; simp)
  have st := setE t ⟨w.heap.size + 1 + 1 + 1, 0, none⟩ n old ((((w.alloc (.cells #[.pointer (some t)] 186)).alloc (.cells #[.pointer (some ⟨5, 186, none⟩), .pointer (some ⟨w.heap.size, 0, none⟩), .int .u64 150] 202)).alloc (.cells #[.pointer (some ⟨5, 186, none⟩), .pointer (some ⟨w.heap.size, 0, none⟩), .int .u64 150] 202)).alloc (.cells #[.int .i64 n] 125))
    (by rw [World.cell?_alloc_at _ _ _ _ (by simp)]; rfl)
    (by rw [World.cell?_alloc_lt _ _ t (by simp; omega), World.cell?_alloc_lt _ _ t (by simp; omega), World.cell?_alloc_lt _ _ t (by simp; omega), World.cell?_alloc_lt _ _ t htl]; exact ht0)
    (by rw [World.frozen?_alloc_old _ _ t (by simp; omega), World.frozen?_alloc_old _ _ t (by simp; omega), World.frozen?_alloc_old _ _ t (by simp; omega), World.frozen?_alloc_old _ _ t (Nat.ne_of_lt htl)]; exact hf0)
  go_enter Tryd.func110, Tryd.ntmps110
  go_wp2
  refine wp_loop_rounds 1 ?_
  rw [rounds_succ]
  go_wp2
  go_ret
  exact ⟨rfl, rfl⟩
end As
end Go.Proofs.YtpgonkecicmanaaDoor
