/- CausePlays: the program's Cause and the reference's do the same. -/
import Derived.Test.YtldmdenojpnldaaDoorRefCause3
import Derived.Test.YtldmdenojpnldaaDoorSameSd
import Derived.Test.YtldmdenojpnldaaDoorArgs6
import Derived.Test.YtldmdenojpnldaaDoorTold
import Derived.Test.YtldmdenojpnldaaDoorLaid
namespace Go.Proofs.YtldmdenojpnldaaDoor
set_option linter.unusedVariables false
set_option linter.unusedSimpArgs false
open Go.RowKit
theorem Sds.shape {w : World} {v : Value} {l : List SdR} (h : Sds w v l) : ∃ ad cap, v = .slice ad l.length cap ∧ l.length ≤ cap ∧ cap ≤ 9223372036854775807 := by
  obtain ⟨ad, cap, rfl, h1, h2, _⟩ := h.1
  exact ⟨ad, cap, rfl, h1, h2⟩
theorem Sds.at {w : World} {ad : Option Addr} {n cap : Nat} {l : List SdR} (h : Sds w (.slice ad n cap) l) (k : Nat) (hk : k < l.length) :
    ∃ (a : Addr) (eb eo : Nat) (es : Option Nat), ad = some a ∧ a.add (k * 3) = ⟨eb, eo, es⟩ ∧ (∀ (w' : World) (P : HProp), Own w P w' → w'.cell? ⟨eb, eo, es⟩ = some (.int .i64 l[k].2.who) ∧ w'.cell? ⟨eb, eo + 1, none⟩ = some (.int .i64 l[k].2.word) ∧ w'.cell? ⟨eb, eo + 2, none⟩ = some l[k].1) ∧ goodSd w l[k] := by
  have key : ∀ (w' : World) (P : HProp), Own w P w' → ∃ a : Addr, ad = some a ∧ w'.cell? (a.add (k * 3)) = some (.int .i64 l[k].2.who) ∧ w'.cell? (a.add (k * 3 + 1)) = some (.int .i64 l[k].2.word) ∧ w'.cell? (a.add (k * 3 + 2)) = some l[k].1 := by
    intro w' P ho
    obtain ⟨ad', cap', e, h1, h2, _, hc⟩ := h.1.later ho
    cases e
    obtain ⟨a, ha, c0⟩ := hc (k * 3) (.int .i64 l[k].2.who) (by have := cells_get sdCells 3 (fun _ => rfl) l k 0 hk (by omega); simpa [sdCells] using this)
    obtain ⟨a', ha', c1⟩ := hc (k * 3 + 1) (.int .i64 l[k].2.word) (by have := cells_get sdCells 3 (fun _ => rfl) l k 1 hk (by omega); simpa [sdCells] using this)
    obtain ⟨a'', ha'', c2⟩ := hc (k * 3 + 2) l[k].1 (by have := cells_get sdCells 3 (fun _ => rfl) l k 2 hk (by omega); simpa [sdCells] using this)
    rw [ha] at ha' ha''; cases ha'; cases ha''
    exact ⟨a, ha, c0, c1, c2⟩
  have hadd : ∀ (a : Addr) j, 0 < j → a.add (k * 3 + j) = ⟨(a.add (k * 3)).block, (a.add (k * 3)).off + j, none⟩ := by
    intro a j hj
    unfold Addr.add
    rw [if_neg (by omega)]
    split
    · rename_i h0; simp [h0]
    · simp [Nat.add_assoc]
  obtain ⟨a, ha, _⟩ := key w emp (Own.start w)
  refine ⟨a, (a.add (k * 3)).block, (a.add (k * 3)).off, (a.add (k * 3)).spot, ha, rfl, fun w' P ho => ?_, h.2 _ (List.getElem_mem hk)⟩
  obtain ⟨a', ha', c0, c1, c2⟩ := key w' P ho
  rw [ha] at ha'; cases ha'
  rw [hadd a 1 (by omega)] at c1
  rw [hadd a 2 (by omega)] at c2
  exact ⟨c0, c1, c2⟩
theorem Own.rc_zero {w0 w : World} {p : Nat} {me : Int} {R : HProp} (h : Own w0 (blk p (.cells #[.int .i64 me, .int .i64 0, .int .i64 0, .int .i64 0, .int .i64 0, .int .i64 0, .slice none 0 0] 69 (0, 0)) * R) w) : Own w0 (RcO p (.slice none 0 0) [] me zeroClk * R) w := by
  unfold RcO
  rw [List.length_nil, List.flatMap_nil, Sl_nil, star_emp]
  exact h
/-- What the loop holds. -/
def CpIn (w : World) (p q : Nat) (c : Ca) (wr : World) : Prop := ∃ vv rows, CaI c ∧ rows.map (·.2) = c.waits ∧ (∀ r ∈ rows, Ints w r.1 r.2.clk) ∧ Own w (CwP p c * (RcO q vv rows c.me c.clk * emp)) wr
def CpT (T : Bool) (W : World) (v : Value) (wx : World) : Prop := v = .bool T ∧ wx = W
set_option maxRecDepth 100000 in
set_option maxHeartbeats 4000000 in
theorem causePlays_bad (w : World) (hg : As.Handle w) (me : Int) (hm : isMember me = false) (vs vl : Value) :
    Calls Tryd.prog 7 #[.int .i64 me, vs, vl] w fun e w' => e = .returned (.bool true) ∧ Below w.heap.size w w' := by
  have HW0 := Lib.hid (Own.start w)
  have hcs : me < 0 ∨ (¬ me < 0 ∧ 4 < me) := by simp [isMember] at hm; omega
  have HG := Lib.hid hg; have HM := Lib.hid hm
  clear hg hm
  rcases hcs with h1 | ⟨h1, h2⟩
  all_goals
    go_enter Tryd.func7, Tryd.ntmps7
    go_wp2_with fail
    refine (cwNew_w0 me HM.out HW0.out).mono ?_
    rintro e w1 ⟨va, rfl, ho⟩
    have HO := Lib.hid ho
    clear ho
    go_wp2_with fail
    refine (sameErr_any HG.out 1 1 HO.out).mono ?_
    rintro e w2 ⟨rfl, ho⟩
    have HO2 := Lib.hid ho
    clear ho
    go_wp2
    go_ret
    exact ⟨rfl, HO2.out.below⟩
set_option maxRecDepth 100000 in
set_option maxHeartbeats 4000000 in
theorem causePlays_good (w : World) (hg : As.Handle w) (me : Int) (hm : isMember me = true) (vs : Value) (says : List Int) (hvs : Ints w vs says) (vl : Value) (l : List SdR) (hvl : Sds w vl l) :
    Calls Tryd.prog 7 #[.int .i64 me, vs, vl] w fun e w' => e = .returned (.bool true) ∧ Below w.heap.size w w' := by
  obtain ⟨sad, scap, rfl, hsc1, hsc2⟩ := hvs.shape
  obtain ⟨lad, lcap, rfl, hlc1, hlc2⟩ := hvl.shape
  have HW0 := Lib.hid (Own.start w)
  have hmb : 0 ≤ me ∧ me < 5 := by simpa [isMember] using hm
  have HI0 := Lib.hid (CaI.new hm)
  have HG := Lib.hid hg; have HM := Lib.hid hm; have HVS := Lib.hid hvs; have HVL := Lib.hid hvl
  clear hg hm hvs hvl
  go_enter Tryd.func7, Tryd.ntmps7
  go_wp2_with fail
  refine (cwNew_yes me HM.out HW0.out).mono ?_
  rintro e w1 ⟨p, rfl, ho⟩
  have HO := Lib.hid ho
  clear ho
  go_wp2_with fail
  refine (sameErr_any HG.out 0 0 HO.out).mono ?_
  rintro e w2 ⟨rfl, ho⟩
  have HO2 := Lib.hid ho
  clear ho
  go_upto_block 0 with fail
  obtain ⟨q, hb_q⟩ : ∃ zz_, zz_ = (w2).heap.size := ⟨_, rfl⟩
  obtain ⟨w3, hw_w3⟩ : ∃ zz_, zz_ = (w2).alloc (.cells #[.int .i64 me, .int .i64 0, .int .i64 0, .int .i64 0, .int .i64 0, .int .i64 0, .slice none 0 0] 69 (0, 0)) := ⟨_, rfl⟩
  have h_HO3 := (HO2.out).alloc (.cells #[.int .i64 me, .int .i64 0, .int .i64 0, .int .i64 0, .int .i64 0, .int .i64 0, .slice none 0 0] 69 (0, 0))
  rw [← hb_q, ← hw_w3] at h_HO3
  have HO3 := Lib.hid h_HO3
  clear h_HO3
  rw [← hb_q, ← hw_w3]
  clear hb_q hw_w3
  have HIN : Hid (CpIn w p q (caNew me) w3) := Lib.hid ⟨.slice none 0 0, [], HI0.out, rfl, fun r h => by (cases h), by
    refine (Own.rc_zero HO3.out).perm ?_
    show _ = CwP p (caNew me) * (RcO q _ [] me zeroClk * emp)
    rw [star_left_comm]⟩
  clear HO HO2 HO3
  go_wp2_with fail
  go_loopw [12] (fun iv wr => ∃ (k : Nat) (c : Ca), k ≤ l.length ∧ k ≤ 80 ∧ iv = .int .i64 k ∧ Hid (CpIn w p q c wr)) (fun iv _ => l.length - (intOf iv).toNat)
  case atStart => exact ⟨0, _, Nat.zero_le _, Nat.zero_le _, rfl, HIN⟩
  case round =>
    clear HIN
    obtain ⟨k, c, hk1, hk2, rfl, HIN⟩ := hrel
    by_cases h1 : k < l.length
    rotate_left
    · go_wp2
      go_ret
      obtain ⟨_, _, _, _, _, ho⟩ := HIN.out
      exact ⟨rfl, ho.below⟩
    by_cases h2 : k < 80
    rotate_left
    · go_wp2
      go_ret
      obtain ⟨_, _, _, _, _, ho⟩ := HIN.out
      exact ⟨rfl, ho.below⟩
    have k0 : (0 : Int) ≤ (k : Int) := by omega
    have kl : (k : Int) < (l.length : Int) := by omega
    obtain ⟨T, hT⟩ : ∃ T, T = (decide (k < says.length) && (says.getD k 0 != 0)) := ⟨_, rfl⟩
    have HT := Lib.hid hT
    clear hT
    go_upto_region 12 with fail
    go_cut [65] (fun v wx => CpT T wr v wx)
    case first =>
      by_cases h3 : k < says.length
      · obtain ⟨aa, rfl, hc⟩ := HVS.out.at_later k h3
        obtain ⟨_, _, _, _, _, ho⟩ := HIN.out
        have c1 := hc _ _ ho
        obtain ⟨x, hx⟩ : ∃ x, x = says[k] := ⟨_, rfl⟩
        rw [← hx] at c1
        have hxg : says.getD k 0 = x := by rw [List.getD_eq_getElem?_getD, List.getElem?_eq_getElem h3, ← hx]; rfl
        have hTT : T = (x != 0) := by rw [HT.out, hxg, decide_eq_true h3, Bool.true_and]
        have HX := Lib.hid hx; have HXG := Lib.hid hxg; have HTT := Lib.hid hTT
        clear hx hxg hTT
        clear hc ho
        go_wp2_with fail
        go_meet
        exact ⟨by rw [HTT.out], rfl⟩
      · have hTT : T = false := by rw [HT.out, decide_eq_false h3, Bool.false_and]
        have HTT := Lib.hid hTT
        clear hTT
        go_wp2_with fail
        go_meet
        exact ⟨by rw [HTT.out], rfl⟩
    case rest =>
    obtain ⟨rfl, rfl⟩ := hcut
    go_upto_if 65 with fail
    go_cut [] (fun wx => ∃ c, CpIn w p q c wx)
    case first =>
      cases T
      · go_wp2_with fail
        go_meet
        exact ⟨c, HIN.out⟩
      have h3 : k < says.length := by have := HT.out; simp at this; exact this.1
      obtain ⟨aa, rfl, hc⟩ := HVS.out.at_later k h3
      obtain ⟨vv, rows, hI, he, hri, ho⟩ := HIN.out
      have c1 := hc _ _ ho
      obtain ⟨x, hx⟩ : ∃ x, x = says[k] := ⟨_, rfl⟩
      rw [← hx] at c1 hc
      have HHC := Lib.hid hc
      have hri' : Own w (rcBlk q c.me c.clk vv * (Sl 56 3 vv rows.length (rows.flatMap sdCells) * (CwP p c * emp))) wc := ho.perm (by unfold RcO; ac_rfl)
      have HRB := Lib.hid hri'
      have kS : (k : Int) < (says.length : Int) := by omega
      clear hc ho hri'
      have HE_ := Lib.hid he
      clear he
      have HI := Lib.hid hI; have HRI := Lib.hid hri; have HX := Lib.hid hx
      clear hI hri hx
      go_wp2_with fail
      refine (rcSay_any q c vv x HI.out HRB.out).mono ?_
      rintro e w4 ⟨v1, rfl, ho⟩
      obtain ⟨S, hS⟩ : ∃ S, S = caSaid c x := ⟨_, rfl⟩
      obtain ⟨E, hE⟩ : ∃ S, S = caSayErr c x := ⟨_, rfl⟩
      obtain ⟨C2, hC2⟩ : ∃ S, S = caSay c x := ⟨_, rfl⟩
      have hSI : ∀ y ∈ (caSaid c x).clk, I64 y := by
        by_cases h0 : caSayErr c x = 0
        · exact vecErr_I64 (sdErr0 (caSaid_ok HI.out h0)).2.2
        · unfold caSaid; rw [if_neg h0]; intro y hy; cases hy
      have hI2 := HI.out.say x
      have hw2 : (caSay c x).waits = c.waits := by unfold caSay; split <;> rfl
      rw [← hS, ← hC2] at ho
      rw [← hS] at hSI
      rw [← hC2] at hI2 hw2
      rw [← hS, ← hE]
      obtain ⟨ad1, cp1, rfl⟩ := Own.int_shape ho
      obtain ⟨b1, hb_b1⟩ : ∃ zz_, zz_ = (w4).heap.size := ⟨_, rfl⟩
      obtain ⟨w5, hw_w5⟩ : ∃ zz_, zz_ = (w4).alloc (.cells #[.int .i64 S.who, .int .i64 S.word, .slice ad1 S.clk.length cp1] 56 (0, 0)) := ⟨_, rfl⟩
      have h_HB1 := (ho).alloc (.cells #[.int .i64 S.who, .int .i64 S.word, .slice ad1 S.clk.length cp1] 56 (0, 0))
      rw [← hb_b1, ← hw_w5] at h_HB1
      have HB1 := Lib.hid h_HB1
      clear h_HB1
      have HO5 : Hid (Own w (CwP p c * (SdO b1 S.who S.word (.slice ad1 S.clk.length cp1) * (IntSl (.slice ad1 S.clk.length cp1) S.clk * (RcO q vv rows C2.me C2.clk * emp)))) w5) := Lib.hid (HB1.out.perm (by unfold RcO SdO; ac_rfl))
      have c2 := HHC.out _ _ HO5.out
      clear ho HB1 c1
      have HS := Lib.hid hS; have HE := Lib.hid hE; have HC2 := Lib.hid hC2; have HSI := Lib.hid hSI; have HI2 := Lib.hid hI2; have HW2 := Lib.hid hw2
      clear hS hE hC2 hSI hI2 hw2
      go_upto_region 14 with fail
      rw [← hb_b1, ← hw_w5]
      clear hb_b1 hw_w5
      go_wp2_with fail
      refine (cwSay_any p c x HI.out HO5.out).mono ?_
      rintro e w6 ⟨v2, rfl, ho⟩
      rw [← HS.out, ← HC2.out] at ho
      rw [← HS.out, ← HE.out]
      obtain ⟨ad2, cp2, rfl⟩ := Own.int_shape ho
      obtain ⟨b2, hb_b2⟩ : ∃ zz_, zz_ = (w6).heap.size := ⟨_, rfl⟩
      obtain ⟨w7, hw_w7⟩ : ∃ zz_, zz_ = (w6).alloc (.cells #[.int .i64 S.who, .int .i64 S.word, .slice ad2 S.clk.length cp2] 56 (0, 0)) := ⟨_, rfl⟩
      have h_HB2 := (ho).alloc (.cells #[.int .i64 S.who, .int .i64 S.word, .slice ad2 S.clk.length cp2] 56 (0, 0))
      rw [← hb_b2, ← hw_w7] at h_HB2
      have HB2 := Lib.hid h_HB2
      clear h_HB2
      have HO7 : Hid (Own w (SdO b1 S.who S.word (.slice ad1 S.clk.length cp1) * (SdO b2 S.who S.word (.slice ad2 S.clk.length cp2) * (IntSl (.slice ad1 S.clk.length cp1) S.clk * (IntSl (.slice ad2 S.clk.length cp2) S.clk * (CwP p C2 * (RcO q vv rows C2.me C2.clk * emp)))))) w7) := Lib.hid (HB2.out.perm (by unfold SdO; ac_rfl))
      clear ho HB2 c2
      go_upto_region 15 with fail
      rw [← hb_b2, ← hw_w7]
      clear hb_b2 hw_w7
      go_wp2_with fail
      refine (sameErr_any HG.out E (E : Int) HO7.out).mono ?_
      rintro e w8 ⟨rfl, ho⟩
      rw [show ((E : Int) == (E : Int)) = true from beq_self_eq_true _]
      obtain ⟨x0, x1, x2, _⟩ := ho.sd
      obtain ⟨y0, y1, y2, _⟩ := ho.second.sd
      have HO8 := Lib.hid ho
      clear ho HO7
      go_wp2_with fail
      refine (sameSaid_eq S.who S.word _ _ S.clk HO8.out (fun w' h' => IntSl_reads HSI.out _ h'.fourth) (fun w' h' => IntSl_reads HSI.out _ h'.third)).mono ?_
      rintro e w9 ⟨rfl, ho⟩
      have HO9 := Lib.hid ho
      clear ho HO8 x0 x1 x2 y0 y1 y2
      go_wp2_with fail
      go_meet
      refine ⟨C2, vv, rows, HI2.out, by rw [HW2.out]; exact HE_.out, HRI.out, HO9.out.drop.drop.drop.drop⟩
    case rest =>
    clear HIN HT
    obtain ⟨c, vv, rows, hI, he, hri, ho⟩ := hcut
    obtain ⟨aa, eb, eo, es, rfl, hea, hcs, hgd⟩ := HVL.out.at k h1
    obtain ⟨x0, x1, x2⟩ := hcs _ _ ho
    obtain ⟨r, hr⟩ : ∃ r, r = l[k] := ⟨_, rfl⟩
    rw [← hr] at x0 x1 x2 hcs hgd
    obtain ⟨cv, s⟩ := r
    dsimp only at x0 x1 x2 hcs
    obtain ⟨_, _, hrd⟩ := hgd
    dsimp only at hrd
    obtain ⟨rad, rcap, rfl, _, _⟩ := hrd.shape
    obtain ⟨L, hL⟩ : ∃ L, L = s.clk.length := ⟨_, rfl⟩
    rw [← hL] at x2 hcs hrd
    have HRD := Lib.hid hrd
    have HCS := Lib.hid hcs
    have HI_ := Lib.hid hI
    have HE_ := Lib.hid he
    have HRI := Lib.hid hri
    have HA : Hid (Own w (RcO q vv rows c.me c.clk * (CwP p c * emp)) wc) := Lib.hid (ho.perm (star_left_comm _ _ _))
    have HTK := Lib.hid (rcTake_any q c s (.slice rad L rcap) vv rows hI he (fun r hr => by
      rcases hr with hr | rfl
      · exact (hri r hr).reads
      · exact hrd.reads) HA.out)
    obtain ⟨S, hS⟩ : ∃ S, S = s.who := ⟨_, rfl⟩
    obtain ⟨W, hW⟩ : ∃ S, S = s.word := ⟨_, rfl⟩
    rw [← hS, ← hW] at HTK
    rw [← hS] at x0 HCS
    rw [← hW] at x1 HCS
    have HH := Lib.hid ho
    clear ho hI he hri hrd hcs
    have HHS := Lib.hid hS
    have HHW := Lib.hid hW
    clear hS hW
    have HR := Lib.hid hr; have HL := Lib.hid hL
    clear hr hL
    go_wp2_with fail
    refine HTK.out.mono ?_
    rintro e w4 ⟨v1, vv2, rows2, rfl, he2, hsub, ho⟩
    obtain ⟨y0, y1, y2⟩ := HCS.out _ _ ho
    obtain ⟨E, hE⟩ : ∃ S, S = caErr c s := ⟨_, rfl⟩
    obtain ⟨O, hO⟩ : ∃ S, S = caOut c s := ⟨_, rfl⟩
    obtain ⟨C2, hC2⟩ : ∃ S, S = caTake c s := ⟨_, rfl⟩
    have hI2 := HI_.out.take s
    have hOI := caOut_I64 (s := s) HI_.out
    have hri2 : ∀ r ∈ rows2, Ints w r.1 r.2.clk := fun r hr => by
      rcases hsub r hr with h | rfl
      · exact HRI.out r h
      · exact HRD.out
    rw [← hC2] at hI2 ho he2
    rw [← hO] at hOI ho
    rw [← hE]
    have HB : Hid (Own w (CwP p c * (IntSl v1 O * (RcO q vv2 rows2 C2.me C2.clk * emp))) w4) := Lib.hid (ho.perm (by ac_rfl))
    have HTK2 := Lib.hid (cwTake_any p c s (.slice rad L rcap) HI_.out (HRD.out.reads) HB.out)
    rw [← hC2, ← hO, ← hE, ← HHS.out, ← HHW.out] at HTK2
    have HE2 := Lib.hid he2
    clear ho x0 x1 x2 HTK HA HH he2 hsub
    have HE := Lib.hid hE; have HO := Lib.hid hO; have HC2 := Lib.hid hC2; have HI2 := Lib.hid hI2; have HOI := Lib.hid hOI; have HRI2 := Lib.hid hri2
    clear hE hO hC2 hI2 hOI hri2
    go_wp2_with fail
    refine HTK2.out.mono ?_
    rintro e w5 ⟨v2, rfl, ho⟩
    have HO5 : Hid (Own w (IntSl v2 O * (IntSl v1 O * (CwP p C2 * (RcO q vv2 rows2 C2.me C2.clk * emp)))) w5) := Lib.hid (ho.perm (by ac_rfl))
    clear ho y0 y1 y2 HB HTK2
    go_wp2_with fail
    refine (sameErr_any HG.out E (E : Int) HO5.out).mono ?_
    rintro e w6 ⟨rfl, ho⟩
    rw [show ((E : Int) == (E : Int)) = true from beq_self_eq_true _]
    have HO6 := Lib.hid ho
    clear ho HO5
    go_wp2_with fail
    refine (sameInts_any v2 v1 O O _ (IntSl_reads HOI.out _ HO6.out) (IntSl_reads HOI.out _ HO6.out.second)).mono ?_
    rintro e w' ⟨rfl, n7, rfl⟩
    rw [show (O == O) = true from beq_iff_eq.2 rfl]
    have HO7 := Lib.hid ((HO6.out.drewN n7).drop.drop)
    clear HO6
    obtain ⟨ad2, cp2, hvv, _, _⟩ := HO7.out.second.rc_shape
    have hl2 : rows2.length = C2.waits.length := by rw [← HE2.out, List.length_map]
    have e6 := (HO7.out.second.rc_blk.rcb_facts (vecErr0 HI2.out.clk).1).2.2.1
    have HVV2 := Lib.hid hvv
    rw [HVV2.out, hl2] at e6
    have C5 := Lib.hid (vecErr0 HI2.out.clk).1
    have CI := Lib.hid (vecErr_I64 HI2.out.clk)
    clear hvv
    have HL2 := Lib.hid hl2
    clear hl2
    go_upto_region 21 with fail
    refine wp_region_planH 19 [] [(true, 0), (true, 1), (true, 2), (true, 3), (true, 5), (false, 4), (false, 6), (false, 7), (true, 8), (true, 9), (true, 10), (true, 11), (true, 13), (true, 14), (true, 15), (true, 16), (true, 17), (false, 12), (true, 18)] [19] (fun wS => wS.cell? ⟨q, 6, none⟩ = some (.slice ad2 C2.waits.length cp2)) (by kernel_rfl) (by kernel_rfl) (e6) ?_
    simp only [pickH, pick, List.getElem?_cons_succ, List.getElem?_cons_zero, Option.toList, Option.map_some, List.cons_append, List.nil_append]
    repeat (refine wpPure_step ?_ rfl ?_ ?_; rotate_left; (focus (intro _; first | with_reducible rfl | (go_simp; done) | (go_simp; with_reducible rfl) | rfl)); go_simp)
    refine wpPure_nil ?_
    repeat (first | (refine wpMix_read ?_ rfl ?_ ?_; rotate_left; (focus (intro _ hS; obtain s1 := hS; first | with_reducible rfl | (go_simp; done) | (go_simp; with_reducible rfl) | rfl)); go_simp) | (refine wpMix_readW ?_ ?_ ?_ ?_; rotate_left; (focus (first | rfl | (go_simp; done))); (focus (intro _ hS; obtain s1 := hS; first | with_reducible rfl | (go_simp; done) | (go_simp; with_reducible rfl) | rfl)); go_simp))
    refine wpMix_write (fun K hK => ?_)
    go_simp
    refine (cwClock_any p C2 HI2.out HO7.out.drew).mono ?_
    rintro e w8 ⟨v8, rfl, ho⟩
    have f6 := (ho.third.rc_blk.rcb_facts C5.out).2.2.1
    rw [HVV2.out, HL2.out] at f6
    have HO8 := Lib.hid ho
    clear ho e6
    refine hK _ _ ⟨f6, ?_⟩
    clear hK K
    go_simp
    repeat (first | (refine wpMix_read ?_ rfl ?_ ?_; rotate_left; (focus (intro _ hS; obtain s1 := hS; first | with_reducible rfl | (go_simp; done) | (go_simp; with_reducible rfl) | rfl)); go_simp) | (refine wpMix_readW ?_ ?_ ?_ ?_; rotate_left; (focus (first | rfl | (go_simp; done))); (focus (intro _ hS; obtain s1 := hS; first | with_reducible rfl | (go_simp; done) | (go_simp; with_reducible rfl) | rfl)); go_simp))
    refine wpMix_write (fun K hK => ?_)
    go_simp
    refine (rcList_any q C2.clk C5.out (fun w' ho i hi => (ho.third.rc_blk.rcb_facts C5.out).2.1 i hi) HO8.out).mono ?_
    rintro e w9 ⟨v9, rfl, ho⟩
    have g6 := (ho.fourth.rc_blk.rcb_facts C5.out).2.2.1
    rw [HVV2.out, HL2.out] at g6
    have HO9 := Lib.hid ho
    clear ho f6 HO8
    refine hK _ _ ⟨g6, ?_⟩
    clear hK K
    go_simp
    repeat (first | (refine wpMix_read ?_ rfl ?_ ?_; rotate_left; (focus (intro _ hS; obtain s1 := hS; first | with_reducible rfl | (go_simp; done) | (go_simp; with_reducible rfl) | rfl)); go_simp) | (refine wpMix_readW ?_ ?_ ?_ ?_; rotate_left; (focus (first | rfl | (go_simp; done))); (focus (intro _ hS; obtain s1 := hS; first | with_reducible rfl | (go_simp; done) | (go_simp; with_reducible rfl) | rfl)); go_simp))
    refine wpMix_write (fun K hK => ?_)
    go_simp
    refine (sameInts_any v8 v9 C2.clk C2.clk _ (IntSl_reads CI.out _ HO9.out.second) (IntSl_reads CI.out _ HO9.out)).mono ?_
    rintro e w10 ⟨rfl, nq, rfl⟩
    rw [show (C2.clk == C2.clk) = true from beq_iff_eq.2 rfl]
    have HO10 := Lib.hid (HO9.out.drewN nq).drop.drop
    have e1 : (w9.drewN nq).cell? ⟨q, 6, none⟩ = some (.slice ad2 C2.waits.length cp2) := g6
    clear g6 HO9
    refine hK _ _ ⟨e1, ?_⟩
    clear hK K
    go_simp
    repeat (first | (refine wpMix_read ?_ rfl ?_ ?_; rotate_left; (focus (intro _ hS; obtain s1 := hS; first | with_reducible rfl | (go_simp; done) | (go_simp; with_reducible rfl) | rfl)); go_simp) | (refine wpMix_readW ?_ ?_ ?_ ?_; rotate_left; (focus (first | rfl | (go_simp; done))); (focus (intro _ hS; obtain s1 := hS; first | with_reducible rfl | (go_simp; done) | (go_simp; with_reducible rfl) | rfl)); go_simp))
    refine wpMix_write (fun K hK => ?_)
    go_simp
    refine (cwWaits_any p C2 HI2.out HO10.out).mono ?_
    rintro e w11 ⟨rfl, rfl⟩
    refine hK _ _ ⟨e1, ?_⟩
    clear hK K
    go_simp
    repeat (first | (refine wpMix_read ?_ rfl ?_ ?_; rotate_left; (focus (intro _ hS; obtain s1 := hS; first | with_reducible rfl | (go_simp; done) | (go_simp; with_reducible rfl) | rfl)); go_simp) | (refine wpMix_readW ?_ ?_ ?_ ?_; rotate_left; (focus (first | rfl | (go_simp; done))); (focus (intro _ hS; obtain s1 := hS; first | with_reducible rfl | (go_simp; done) | (go_simp; with_reducible rfl) | rfl)); go_simp))
    refine wpMix_nil ?_
    go_wp2_with fail
    refine NoPanic.normal ?_
    go_wp2_with fail
    go_roundw
    case rel => exact ⟨k + 1, C2, by omega, by omega, by go_num, Lib.hid ⟨vv2, rows2, HI2.out, HE2.out, HRI2.out, HO10.out⟩⟩
    case measure => simp [intOf]; omega
set_option maxRecDepth 100000 in
set_option maxHeartbeats 4000000 in
theorem causePlays_law (w : World) (hg : As.Handle w) (me : Int) (_hme : I64 me) (vs : Value) (says : List Int) (hvs : Ints w vs says) (vl : Value) (l : List SdR) (hvl : Sds w vl l) :
    Calls Tryd.prog 7 #[.int .i64 me, vs, vl] w fun e w' => e = .returned (.bool true) ∧ Below w.heap.size w w' := by
  cases hm : isMember me
  · exact causePlays_bad w hg me hm vs vl
  · exact causePlays_good w hg me hm vs says hvs vl l hvl
end Go.Proofs.YtldmdenojpnldaaDoor
