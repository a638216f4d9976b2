/- Contracts of package faces, continued: faces of a history. -/
import Derived.Test.YtdfjbnfdknpahaaGreatDoorMRunCausal12
import Derived.Test.YtdfjbnfdknpahaaGreatDoorMRunCausal8
namespace Go.Proofs.YtdfjbnfdknpahaaGreatDoor
set_option linter.unusedVariables false
set_option linter.unusedSimpArgs false
open Go.RowKit
def alikeAt (h : List Ev) (a b : Nat) : Bool := alikeB (heardL h a) (heardL h b)
def totRow (h : List Ev) (a : Nat) : Bool := upTo (alikeAt h a) a
def totalB (h : List Ev) : Bool := upTo (totRow h) 5
def causalB (h : List Ev) : Bool := upTo (fun k => upTo (skipB h k) k) h.length
def fifoB (h : List Ev) : Bool := upTo (fun k => upTo (fifoOk h k) k) h.length
noncomputable def faTotal_code : Code := ((Tryz.f87.body.bind (findBlock 4)).getD .skip)
set_option maxRecDepth 1000000 in
set_option maxHeartbeats 4000000 in
theorem faTotal {Q : Exit → Act → World → Prop} {u1 u2 u3 u4 u6 u7 u8 u9 u10 u11 u12 u13 u14 u15 u16 u17 u18 u19 u20 u21 u22 u23 u24 u25 u26 u27 u28 u29 u30 u31 u32 u33 u34 u35 u36 u37 u38 u39 u40 u41 u42 u43 u44 u45 u46 u47 u48 u49 u50 u51 u52 u53 u54 u55 u56 u57 u58 u59 u60 u61 u62 u63 u64 u65 u66 u67 u68 u69 u70 u71 u72 u73 u74 u75 u76 u78 u79 u80 u81 u82 u83 u84 u85 u86 u87 u88 u89 u90 u91 u92 u93 u94 u95 u96 u97 u98 : Value} {w1 : World} (w : World) (R : HProp) (fb n hcap : Nat) (had : Option Addr) (hs : List Ev) (f c t : Bool) (hn : n ≤ 60) (hc1 : n ≤ hcap) (hc2 : hcap ≤ 9223372036854775807) (HLN : Hid (hs.length = n)) (HV : Hid (ReadsE w R (.slice had n hcap) hs)) (HP : Hid (Own w (FaO fb f c t * R) w1))
    (hK : ∀ (v11 v12 v77 v78 v79 v80 v81 v82 v83 v84 v85 v86 v87 v88 v89 v90 v91 v92 v93 v94 v95 v96 v97 : Value) (wx : World), (Own w (FaO fb f c (t && totalB hs) * R) wx) → Q .normal ⟨List.toArray ((.slice had n hcap) :: u1 :: u2 :: u3 :: u4 :: (.pointer (some ⟨fb, 0, none⟩)) :: u6 :: u7 :: u8 :: u9 :: u10 :: v11 :: v12 :: u13 :: u14 :: u15 :: u16 :: u17 :: u18 :: u19 :: u20 :: u21 :: u22 :: u23 :: u24 :: u25 :: u26 :: u27 :: u28 :: u29 :: u30 :: u31 :: u32 :: u33 :: u34 :: u35 :: u36 :: u37 :: u38 :: u39 :: u40 :: u41 :: u42 :: u43 :: u44 :: u45 :: u46 :: u47 :: u48 :: u49 :: u50 :: u51 :: u52 :: u53 :: u54 :: u55 :: u56 :: u57 :: u58 :: u59 :: u60 :: u61 :: u62 :: u63 :: u64 :: u65 :: u66 :: u67 :: u68 :: u69 :: u70 :: u71 :: u72 :: u73 :: u74 :: u75 :: u76 :: v77 :: v78 :: v79 :: v80 :: v81 :: v82 :: v83 :: v84 :: v85 :: v86 :: v87 :: v88 :: v89 :: v90 :: v91 :: v92 :: v93 :: v94 :: v95 :: v96 :: v97 :: u98 :: []), []⟩ wx) :
    Code.wp Tryz.prog faTotal_code Q ⟨List.toArray ((.slice had n hcap) :: u1 :: u2 :: u3 :: u4 :: (.pointer (some ⟨fb, 0, none⟩)) :: u6 :: u7 :: u8 :: u9 :: u10 :: u11 :: u12 :: u13 :: u14 :: u15 :: u16 :: u17 :: u18 :: u19 :: u20 :: u21 :: u22 :: u23 :: u24 :: u25 :: u26 :: u27 :: u28 :: u29 :: u30 :: u31 :: u32 :: u33 :: u34 :: u35 :: u36 :: u37 :: u38 :: u39 :: u40 :: u41 :: u42 :: u43 :: u44 :: u45 :: u46 :: u47 :: u48 :: u49 :: u50 :: u51 :: u52 :: u53 :: u54 :: u55 :: u56 :: u57 :: u58 :: u59 :: u60 :: u61 :: u62 :: u63 :: u64 :: u65 :: u66 :: u67 :: u68 :: u69 :: u70 :: u71 :: u72 :: u73 :: u74 :: u75 :: u76 :: (.int .i64 0) :: u78 :: u79 :: u80 :: u81 :: u82 :: u83 :: u84 :: u85 :: u86 :: u87 :: u88 :: u89 :: u90 :: u91 :: u92 :: u93 :: u94 :: u95 :: u96 :: u97 :: u98 :: []), []⟩ w1 := by
  conv => arg 2; whnf
  have HK := Lib.hid hK
  clear hK
  have HHD := Lib.hid (fun (R' : HProp) (w1 : World) (who : Int) (ho : Own w (R' * R) w1) => heard_any (.slice had n hcap) hs who ho HV.out.more (by rw [HLN.out]; exact hn))
  have HGD : Hid (∀ e ∈ hs, goodEv e) := Lib.hid (HV.out _ HP.out.drop).2
  go_wp2_with fail
  go_loopw [77] (fun iv wr => ∃ a : Nat, a ≤ 5 ∧ iv = .int .i64 a ∧ Hid (Own w (FaO fb f c (t && upTo (totRow hs) a) * R) wr)) (fun iv _ => 5 - (intOf iv).toNat)
  case atStart => exact ⟨0, Nat.zero_le _, rfl, Lib.hid (by rw [upTo_zero, Bool.and_true]; exact HP.out)⟩
  case round =>
    clear HP
    obtain ⟨a, ha, rfl, HO⟩ := hrel
    by_cases hlt : a < 5
    rotate_left
    · have ha5 : a = 5 := by omega
      subst ha5
      go_wp2_with fail
      apply HK.out
      exact HO.out
    have ta : decide ((a : Int) < 5) = true := decide_eq_true (by omega)
    obtain ⟨t1, ht1⟩ : ∃ t1, t1 = (t && upTo (totRow hs) a) := ⟨_, rfl⟩
    have hnx : (t && upTo (totRow hs) (a + 1)) = (t1 && upTo (alikeAt hs a) a) := by rw [upTo_step, ht1, Bool.and_assoc]; rfl
    have ho := HO.out
    rw [← ht1] at ho
    have HO1 := Lib.hid ho
    have HT1 := Lib.hid ht1; have HNX := Lib.hid hnx
    clear ht1 hnx
    clear ho HO
    go_wp2_with fail
    go_loopw [81] (fun jv wr => ∃ b : Nat, b ≤ a ∧ jv = .int .i64 b ∧ Hid (Own w (FaO fb f c (t1 && upTo (alikeAt hs a) b) * R) wr)) (fun jv _ => a - (intOf jv).toNat)
    case atStart => exact ⟨0, Nat.zero_le _, rfl, Lib.hid (by rw [upTo_zero, Bool.and_true]; exact HO1.out)⟩
    case round =>
      clear HO1
      obtain ⟨b, hb, rfl, HO⟩ := hrel
      by_cases hlt2 : b < a
      rotate_left
      · have hba : b = a := by omega
        have ho := HO.out
        rw [hba, ← HNX.out] at ho
        have HO3 := Lib.hid ho
        clear ho
        go_wp2_with fail
        go_roundw
        case rel => exact ⟨a + 1, by omega, by go_num, HO3⟩
        case measure => simp [intOf]; omega
      obtain ⟨t2, ht2⟩ : ∃ t2, t2 = (t1 && upTo (alikeAt hs a) b) := ⟨_, rfl⟩
      have hn2 : (t1 && upTo (alikeAt hs a) (b + 1)) = (t2 && alikeAt hs a b) := by rw [upTo_step, ht2, Bool.and_assoc]
      have ho := HO.out
      rw [← ht2] at ho
      obtain ⟨g0, g1, g2, g4⟩ := ho.fa
      have HO1 := Lib.hid ho
      have HN2 := Lib.hid hn2
      clear hn2
      have HT2 := Lib.hid ht2
      clear ht2
      clear HO
      cases t2
      · have hst := HO1.out.fa2 false
        have HO3 : Hid (Own w (FaO fb f c (t1 && upTo (alikeAt hs a) (b + 1)) * R) _) := Lib.hid (by rw [HN2.out, Bool.false_and]; exact hst)
        clear hst ho
        go_wp2_with fail
        go_roundw
        case rel => exact ⟨b + 1, by omega, by go_num, HO3⟩
        case measure => simp [intOf]; omega
      · clear ho g0 g1 g4
        go_wp2_with fail
        refine (HHD.out _ _ (a : Int) HO1.out).mono ?_
        rintro e w3 ⟨v3, rfl, ho⟩
        have HO3 : Hid (Own w ((IntSl v3 (heardL hs a) * FaO fb f c true) * R) w3) := Lib.hid (ho.perm (by ac_rfl))
        clear ho
        go_wp2_with fail
        refine (HHD.out _ _ (b : Int) HO3.out).mono ?_
        rintro e w4 ⟨v4, rfl, ho⟩
        have HO4 := Lib.hid ho
        have ha4 : Reads w (IntSl v4 (heardL hs b) * ((IntSl v3 (heardL hs a) * FaO fb f c true) * R)) v3 (heardL hs a) := fun w' ho' => IntSl_reads (heardL_I64 HGD.out a) w' (ho'.perm (show _ = IntSl v3 (heardL hs a) * (IntSl v4 (heardL hs b) * (FaO fb f c true * R)) by ac_rfl))
        have hb4 : Reads w (IntSl v4 (heardL hs b) * ((IntSl v3 (heardL hs a) * FaO fb f c true) * R)) v4 (heardL hs b) := IntSl_reads (heardL_I64 HGD.out b)
        have hla := heardL_len hs a
        have hlb := heardL_len hs b
        rw [HLN.out] at hla hlb
        have HA4 := Lib.hid ha4; have HB4 := Lib.hid hb4
        clear ha4 hb4
        clear ho
        go_wp2_with fail
        refine (alike_any v3 v4 _ _ HO4.out HA4.out HB4.out (by omega) (by omega)).mono ?_
        rintro e w5 ⟨rfl, ho⟩
        have hf : Own w (FaO fb f c true * (IntSl v4 (heardL hs b) * (IntSl v3 (heardL hs a) * R))) w5 := ho.perm (by ac_rfl)
        obtain ⟨g0, g1, g2, g4⟩ := hf.fa
        obtain ⟨z, hz⟩ : ∃ z, z = alikeB (heardL hs a) (heardL hs b) := ⟨_, rfl⟩
        have hst := hf.fa2 z
        have HO5 : Hid (Own w (FaO fb f c (t1 && upTo (alikeAt hs a) (b + 1)) * R) (w5.setCell ⟨fb, 2, none⟩ (.bool z))) := Lib.hid (by
          rw [HN2.out, Bool.true_and, show alikeAt hs a b = z from hz.symm]
          exact (hst.perm (show _ = IntSl v4 (heardL hs b) * (IntSl v3 (heardL hs a) * (FaO fb f c z * R)) by ac_rfl)).drop.drop)
        rw [← hz]
        have HZ := Lib.hid hz
        clear hz
        clear ho hf hst
        go_wp2_with fail
        go_roundw
        case rel => exact ⟨b + 1, by omega, by go_num, HO5⟩
        case measure => simp [intOf]; omega
def facesErr (hs : List Ev) : Nat := (histR hs).2
def facesF (hs : List Ev) : Bool := decide (facesErr hs = 0) && fifoB hs
def facesC (hs : List Ev) : Bool := decide (facesErr hs = 0) && causalB hs
def facesT (hs : List Ev) : Bool := decide (facesErr hs = 0) && totalB hs
set_option maxRecDepth 100000 in
set_option maxHeartbeats 4000000 in
theorem facesOf_any {w0 w : World} {R : HProp} (v : Value) (hs : List Ev) (h : Own w0 R w) (hv : ReadsE w0 R v hs) :
    Calls Tryz.prog 87 #[v] w fun e w' => e = .returned (.tuple #[.agg #[.bool (facesF hs), .bool (facesC hs), .bool (facesT hs)], errV (facesErr hs)]) ∧ Own w0 R w' := by
  obtain ⟨had, hcap, rfl, hc1, hc2⟩ := (hv _ h).shape
  obtain ⟨E, hE⟩ : ∃ E, E = (histR hs).2 := ⟨_, rfl⟩
  obtain ⟨n, hn⟩ : ∃ n, n = hs.length := ⟨_, rfl⟩
  by_cases h0 : E = 0
  rotate_left
  · have hB : facesErr hs = E := hE.symm
    have h1 : facesF hs = false := by unfold facesF; rw [hB]; simp [h0]
    have h2 : facesC hs = false := by unfold facesC; rw [hB]; simp [h0]
    have h3 : facesT hs = false := by unfold facesT; rw [hB]; simp [h0]
    have hee := errV_ne h0
    obtain ⟨zb, hb_zb⟩ : ∃ zz_, zz_ = (w).heap.size := ⟨_, rfl⟩
    obtain ⟨w1, hw_w1⟩ : ∃ zz_, zz_ = (w).alloc (.cells #[.bool false, .bool false, .bool false] 87 (0, 0)) := ⟨_, rfl⟩
    have h_HO1 := (h).alloc (.cells #[.bool false, .bool false, .bool false] 87 (0, 0))
    rw [← hb_zb, ← hw_w1] at h_HO1
    have HO1 := Lib.hid h_HO1
    clear h_HO1
    have H := Lib.hid h; have HV := Lib.hid hv; have HE := Lib.hid hE; have H0 := Lib.hid h0; have HEE := Lib.hid hee; have HB := Lib.hid hB; have H1 := Lib.hid h1; have H2 := Lib.hid h2; have H3 := Lib.hid h3; have HN := Lib.hid hn
    clear h hv hE h0 hee hB h1 h2 h3 hn
    go_enter Tryz.func87, Tryz.ntmps87
    go_upto_region 1 with fail
    rw [← hb_zb, ← hw_w1]
    clear hb_zb hw_w1
    go_wp2_with fail
    refine (hRight_any _ hs HO1.out HV.out.more).mono ?_
    rintro e w2 ⟨rfl, ho⟩
    rw [← HE.out, HEE.out]
    have HO2 : Hid (Own w0 (FaO zb false false false * R) w2) := Lib.hid ho
    clear ho
    obtain ⟨g0, g1, g2, g4⟩ := HO2.out.fa
    have hst := ((HO2.out.fa0 false).fa1 false).fa2 false
    obtain ⟨p0, p1, p2, _⟩ := hst.fa
    have HO3 := Lib.hid hst.drop
    clear hst
    go_wp2_with fail
    exact bodyPost_ret (v := .tuple #[.agg #[.bool (facesF hs), .bool (facesC hs), .bool (facesT hs)], errV (facesErr hs)]) (by rw [H1.out, H2.out, H3.out, HB.out]; simp [results, Tryz.results87, go_sem, p0, p1, p2]; exact HEE.out.symm) rfl ⟨rfl, HO3.out⟩
  have hee : errV E = .nilIface := by rw [h0]; rfl
  have hlen : hs.length ≤ 60 := ((histR_ok hs).1 (by rw [← hE]; exact h0)).1
  have hB : facesErr hs = 0 := by rw [← h0]; exact hE.symm
  have h1 : facesF hs = upTo (fun k => upTo (fifoOk hs k) k) n := by unfold facesF; rw [hB, hn]; simp [fifoB]
  have h2 : facesC hs = upTo (fun k => upTo (skipB hs k) k) n := by unfold facesC; rw [hB, hn]; simp [causalB]
  have h3 : facesT hs = totalB hs := by unfold facesT; rw [hB]; simp
  have hpp := fun (R' : HProp) (w4 : World) (ho : Own w0 (R' * R) w4) => hPasts_any (R := R' * R) (.slice had hs.length hcap) hs ho hv.more hlen
  rw [← hn] at hc1 hlen hv hpp ⊢
  have HNE := Lib.hid hn.symm
  obtain ⟨zb, hb_zb⟩ : ∃ zz_, zz_ = (w).heap.size := ⟨_, rfl⟩
  obtain ⟨w1, hw_w1⟩ : ∃ zz_, zz_ = (w).alloc (.cells #[.bool false, .bool false, .bool false] 87 (0, 0)) := ⟨_, rfl⟩
  have h_HO1 := (h).alloc (.cells #[.bool false, .bool false, .bool false] 87 (0, 0))
  rw [← hb_zb, ← hw_w1] at h_HO1
  have HO1 := Lib.hid h_HO1
  clear h_HO1
  have H := Lib.hid h; have HV := Lib.hid hv; have HE := Lib.hid hE; have H0 := Lib.hid h0; have HEE := Lib.hid hee; have HB := Lib.hid hB; have H1 := Lib.hid h1; have H2 := Lib.hid h2; have H3 := Lib.hid h3; have HN := Lib.hid hn; have HPP := Lib.hid hpp
  clear h hv hE h0 hee hB h1 h2 h3 hn hpp
  go_enter Tryz.func87, Tryz.ntmps87
  go_upto_region 1 with fail
  rw [← hb_zb, ← hw_w1]
  clear hb_zb hw_w1
  go_wp2_with fail
  refine (hRight_any _ hs HO1.out HV.out.more).mono ?_
  rintro e w2 ⟨rfl, ho⟩
  rw [← HE.out, HEE.out]
  obtain ⟨fb, hb_fb⟩ : ∃ zz_, zz_ = (w2).heap.size := ⟨_, rfl⟩
  obtain ⟨w3, hw_w3⟩ : ∃ zz_, zz_ = (w2).alloc (.cells #[.bool true, .bool true, .bool true] 87 (0, 0)) := ⟨_, rfl⟩
  have h_HO3 := (ho).alloc (.cells #[.bool true, .bool true, .bool true] 87 (0, 0))
  rw [← hb_fb, ← hw_w3] at h_HO3
  have HO3 := Lib.hid h_HO3
  clear h_HO3
  clear ho
  have HF3 : Hid (Own w0 (FaO fb true true true * (FaO zb false false false * R)) w3) := HO3
  clear HO3
  go_upto_region 5 with fail
  rw [← hb_fb, ← hw_w3]
  clear hb_fb hw_w3
  go_wp2_with fail
  refine (HPP.out (FaO fb true true true * FaO zb false false false) w3 (HF3.out.perm (by ac_rfl))).mono ?_
  rintro e w4 ⟨rb, rs, rfl, hm, ho⟩
  have HM := Lib.hid hm
  have HO4 : Hid (Own w0 (FaO fb (upTo (fun k => upTo (fifoOk hs k) k) 0) (upTo (fun k => upTo (skipB hs k) k) 0) true * (BTab rb n rs * (FaO zb false false false * R))) w4) := Lib.hid (ho.perm (by rw [upTo_zero, upTo_zero]; ac_rfl))
  clear ho hm
  go_wp2_with fail
  go_loopw [24] (fun iv wr => ∃ k : Nat, k ≤ n ∧ iv = .int .i64 k ∧ Hid (Own w0 (FaO fb (upTo (fun k => upTo (fifoOk hs k) k) k) (upTo (fun k => upTo (skipB hs k) k) k) true * (BTab rb n rs * (FaO zb false false false * R))) wr)) (fun iv _ => n - (intOf iv).toNat)
  case atStart => exact ⟨0, Nat.zero_le _, rfl, HO4⟩
  case round =>
    clear HO4
    obtain ⟨k, hk, rfl, HO⟩ := hrel
    by_cases hlt : k < n
    · have hkl : k < hs.length := by rw [← HN.out]; exact hlt
      obtain ⟨aa, pb, po, ps, rfl, hea, hcs, _⟩ := HV.out.more.more.more.at HO.out k hkl
      obtain ⟨x, hx⟩ : ∃ x, x = evAt hs k := ⟨_, rfl⟩
      rw [← hx] at hcs
      obtain ⟨c0, c1, c2⟩ := hcs _ HO.out
      obtain ⟨x1, x2, x3⟩ := x
      simp only at c0 c1 c2
      obtain ⟨eb, hb_eb⟩ : ∃ zz_, zz_ = (wr).heap.size := ⟨_, rfl⟩
      obtain ⟨w5, hw_w5⟩ : ∃ zz_, zz_ = (wr).alloc (.cells #[.int .i64 x1, .int .i64 x2, .int .i64 x3] 112 (0, 0)) := ⟨_, rfl⟩
      have h_HO1 := (HO.out).alloc (.cells #[.int .i64 x1, .int .i64 x2, .int .i64 x3] 112 (0, 0))
      rw [← hb_eb, ← hw_w5] at h_HO1
      have HO1 := Lib.hid h_HO1
      clear h_HO1
      have HE5 : Hid (Own w0 (FaO fb (upTo (fun k => upTo (fifoOk hs k) k) k) (upTo (fun k => upTo (skipB hs k) k) k) true * (EvO eb (x1, x2, x3) * (BTab rb n rs * (FaO zb false false false * R)))) w5) := Lib.hid (HO1.out.perm (by unfold EvO; ac_rfl))
      clear HO1
      have hf1 := upTo_step (fun k => upTo (fifoOk hs k) k) k
      have hf2 := upTo_step (fun k => upTo (skipB hs k) k) k
      have k0 : (0 : Int) ≤ (k : Int) := by omega
      have kc : (k : Int) ≤ (hcap : Int) := by omega
      have hc0 : hcap ≠ 0 := by omega
      have HXX := Lib.hid hx
      have HCS := Lib.hid hcs; have HF1 := Lib.hid hf1; have HF2 := Lib.hid hf2
      clear hcs hf1 hf2
      clear hx
      go_upto_region 9 with fail
      rw [← hb_eb, ← hw_w5]
      clear hb_eb hw_w5
      clear c0 c1 c2
      go_upto_block 2 with fail
      refine faPairs w0 (FaO zb false false false * R) fb rb n k eb hcap (some aa) hs (x1, x2, x3) rs _ _ true hlt hlen hc1 hc2 HNE HXX (Lib.hid HV.out.more) HM HE5 ?_
      intros
      rename_i hcut
      have HN2 : Hid (Own w0 (FaO fb (upTo (fun k => upTo (fifoOk hs k) k) (k + 1)) (upTo (fun k => upTo (skipB hs k) k) (k + 1)) true * (BTab rb n rs * (FaO zb false false false * R))) _) := Lib.hid (by rw [HF1.out, HF2.out]; exact (hcut.perm (star_left_comm _ _ _)).drop)
      clear hcut
      go_wp2_with fail
      go_roundw
      case rel => exact ⟨k + 1, by omega, by go_num, HN2⟩
      case measure => simp [intOf]; omega
    have hkn : k = n := by omega
    subst hkn
    go_upto_block 4 with fail
    refine faTotal w0 (BTab rb k rs * (FaO zb false false false * R)) fb k hcap had hs _ _ true hlen hc1 hc2 HNE (Lib.hid HV.out.more.more) HO ?_
    intros
    rename_i wx hcut
    rw [← H1.out, ← H2.out, Bool.true_and, ← H3.out] at hcut
    obtain ⟨F, hF⟩ : ∃ F, F = facesF hs := ⟨_, rfl⟩
    obtain ⟨C, hC⟩ : ∃ C, C = facesC hs := ⟨_, rfl⟩
    obtain ⟨T, hT⟩ : ∃ T, T = facesT hs := ⟨_, rfl⟩
    rw [← hF, ← hC, ← hT] at hcut
    obtain ⟨q0, q1, q2, _⟩ := hcut.fa
    have hz := hcut.perm (show _ = FaO zb false false false * (FaO fb F C T * (BTab rb k rs * R)) by ac_rfl)
    obtain ⟨g0, g1, g2, g4⟩ := hz.fa
    have hst := ((hz.fa0 F).fa1 C).fa2 T
    obtain ⟨p0, p1, p2, _⟩ := hst.fa
    have HO9 := Lib.hid hst.drop.drop.drop
    clear hst hz hcut
    have HF := Lib.hid hF; have HC := Lib.hid hC; have HT := Lib.hid hT
    clear hF hC hT
    go_wp2_with fail
    exact bodyPost_ret (v := .tuple #[.agg #[.bool (facesF hs), .bool (facesC hs), .bool (facesT hs)], errV (facesErr hs)]) (by rw [← HF.out, ← HC.out, ← HT.out, HB.out]; simp [results, Tryz.results87, go_sem, p0, p1, p2, errV0]) rfl ⟨rfl, HO9.out⟩
end Go.Proofs.YtdfjbnfdknpahaaGreatDoor
/- Causal order, plainly: a group of members with clocks, as words are said and heard one by one. -/
namespace Go.Proofs.YtdfjbnfdknpahaaGreatDoor
set_option linter.unusedVariables false
set_option linter.unusedSimpArgs false
open Go.RowKit Go.Maps
abbrev Rg (n : Nat) (k : Int) : Prop := 0 ≤ k ∧ k < (n : Int)
/-- A word's number. -/
def nm (s : Sd) : Int := caAt s.clk s.who
/-- A member's words. -/
def wk (h : List Ev) (k w : Int) : Prop := ∃ e ∈ h, e.1 = k ∧ e.2.2 = w
theorem wk_snoc {h : List Ev} {e : Ev} {k w : Int} : wk (h ++ [e]) k w ↔ wk h k w ∨ (e.1 = k ∧ e.2.2 = w) := by
  unfold wk
  constructor
  · rintro ⟨x, hx, h1, h2⟩
    rcases List.mem_append.1 hx with hx | hx
    · exact .inl ⟨x, hx, h1, h2⟩
    · rw [List.mem_singleton.1 hx] at h1 h2; exact .inr ⟨h1, h2⟩
  · rintro (⟨x, hx, h1, h2⟩ | ⟨h1, h2⟩)
    · exact ⟨x, List.mem_append_left _ hx, h1, h2⟩
    · exact ⟨e, by simp, h1, h2⟩
def upd (c : Int → List Int) (k : Int) (x : List Int) : Int → List Int := fun i => if i = k then x else c i
theorem upd_same (c : Int → List Int) (k : Int) (x : List Int) : upd c k x k = x := if_pos rfl
theorem upd_ne (c : Int → List Int) {k i : Int} (x : List Int) (h : i ≠ k) : upd c k x i = c i := if_neg h
structure CI (n : Nat) (S : List (Int × Sd)) (c : Int → List Int) (h : List Ev) : Prop where
  n5 : n ≤ 5
  nd : (S.map (·.1)).Nodup
  sd : ∀ w s, mget S w = some s → Rg n s.who ∧ 1 ≤ nm s ∧ s.word = w ∧ isWord w = true ∧ s.clk.length = 5
  len : ∀ k, Rg n k → (c k).length = 5
  A : ∀ w s k, mget S w = some s → Rg n k → (wk h k w ↔ nm s ≤ caAt (c k) s.who)
  B : ∀ w w' s s', mget S w = some s → mget S w' = some s' → s.who = s'.who → nm s = nm s' → w = w'
  C1 : ∀ k j, Rg n k → Rg n j → caAt (c k) j ≤ caAt (c j) j
  C2 : ∀ w s j, mget S w = some s → Rg n j → caAt s.clk j ≤ caAt (c j) j
  D : ∀ e ∈ h, ∃ s, mget S e.2.2 = some s ∧ Rg n e.1 ∧ (e.2.1 = 2 ∧ s.who = e.1 ∨ e.2.1 = 3 ∧ s.who ≠ e.1)
  E : ∀ k i x, Rg n k → Rg n i → 1 ≤ x → x ≤ caAt (c k) i → ∃ w s, mget S w = some s ∧ s.who = i ∧ nm s = x
  F : ∀ p (hp : p < S.length) i x, Rg n i → 1 ≤ x → x ≤ caAt (S[p].2.clk) i → (i = S[p].2.who ∧ x = nm S[p].2) ∨ ∃ q, ∃ hq : q < p, (S[q]'(by omega)).2.who = i ∧ nm (S[q]'(by omega)).2 = x
  H : ∀ q (hq : q < h.length) s a sa, mget S h[q].2.2 = some s → mget S a = some sa → a ≠ h[q].2.2 → nm sa ≤ caAt s.clk sa.who → wk (h.take q) h[q].1 a
  I : ∀ q (hq : q < h.length) s a sa, h[q].2.1 = 2 → mget S h[q].2.2 = some s → mget S a = some sa → wk (h.take (q + 1)) h[q].1 a → nm sa ≤ caAt s.clk sa.who
  R : ∀ k (hk : k < h.length), evErr (h.take k) h[k] = 0
  P : (h.map fun e => (e.1, e.2.2)).Nodup
  Z1 : ∀ k i, Rg n k → (n : Int) ≤ i → caAt (c k) i = 0
  Z2 : ∀ w s i, mget S w = some s → (n : Int) ≤ i → caAt s.clk i = 0
theorem caAt_bump {clk : List Int} {i : Int} (h5 : clk.length = 5) (hi : 0 ≤ i ∧ i < 5) : caAt (caBump clk i) i = caAt clk i + 1 := by
  unfold caAt caBump
  rw [List.getD_eq_getElem?_getD, List.getElem?_set_self (by omega)]; rfl
theorem caBump_len (clk : List Int) (i : Int) : (caBump clk i).length = clk.length := by unfold caBump; exact List.length_set ..
theorem saidAt_neg {h : List Ev} {w : Int} (hn : ∀ e ∈ h, e.2.2 ≠ w) : saidAt h w < 0 := by
  unfold saidAt
  rcases whereI_cases (saysB w) h with ⟨h1, _⟩ | ⟨k, hk, _, h2, _⟩
  · omega
  · have := hn _ (List.getElem_mem hk)
    unfold saysB at h2
    simp only [Bool.and_eq_true, decide_eq_true_eq] at h2
    exact absurd h2.2 this
theorem CI.known {n S c h} (I : CI n S c h) {k w : Int} (hw : wk h k w) : ∃ s, mget S w = some s := by
  obtain ⟨e, he, rfl, rfl⟩ := hw
  obtain ⟨s, hs, _⟩ := I.D e he
  exact ⟨s, hs⟩
theorem isMem_rg {n : Nat} {k : Int} (h5 : n ≤ 5) (h : Rg n k) : isMember k = true := by
  obtain ⟨h1, h2⟩ := h
  simp [isMember]; omega
/-- Who said a word has it said. -/
theorem CI.saidEv {n S c h} (I : CI n S c h) {w : Int} {s : Sd} (hs : mget S w = some s) : (s.who, 2, w) ∈ h := by
  have h1 := (I.sd w s hs).1
  have h2 := (I.A w s s.who hs h1).2 (I.C2 w s s.who hs h1)
  obtain ⟨e, he, e1, e2⟩ := h2
  obtain ⟨t, ht, _, h3⟩ := I.D e he
  rw [e2, hs] at ht
  injection ht with ht
  rcases h3 with ⟨h3, _⟩ | ⟨_, h4⟩
  · obtain ⟨x, y, z⟩ := e
    simp only at e1 e2 h3
    rw [← e1, ← e2, ← h3]; exact he
  · rw [← ht, e1] at h4; exact absurd rfl h4
theorem take_snoc {h : List Ev} {e : Ev} {q : Nat} (hq : q ≤ h.length) : (h ++ [e]).take q = h.take q := List.take_append_of_le_length hq
theorem snoc_cases {h : List Ev} {e : Ev} {q : Nat} (hq : q < (h ++ [e]).length) : (∃ h' : q < h.length, (h ++ [e])[q] = h[q]) ∨ (q = h.length ∧ (h ++ [e])[q] = e) := by
  rw [List.length_append, List.length_singleton] at hq
  by_cases hc : q < h.length
  · exact .inl ⟨hc, List.getElem_append_left hc⟩
  · have : q = h.length := by omega
    subst this
    exact .inr ⟨rfl, by simp⟩
theorem CI.hear {n S c h} (I : CI n S c h) {k w : Int} {s : Sd} (hk : Rg n k) (hs : mget S w = some s) (hne : s.who ≠ k) (hr : caReady (c k) s = true) :
    CI n S (upd c k (caBump (c k) s.who)) (h ++ [(k, 3, w)]) := by
  obtain ⟨hw1, hw2, hw3, hw4, hw5⟩ := I.sd w s hs
  have n5 := I.n5
  have hl := I.len k hk
  have hrd : ∀ i, Rg n i → i ≠ s.who → caAt s.clk i ≤ caAt (c k) i := fun i hi hne => by
    have := caReady_at hr (i := i.toNat) (by omega)
    unfold caOk1 at this
    rw [if_neg (by omega), decide_eq_true_iff] at this
    exact this
  have hrs : nm s = caAt (c k) s.who + 1 := by
    have := caReady_at hr (i := s.who.toNat) (by omega)
    unfold caOk1 at this
    rw [if_pos (by omega), decide_eq_true_iff] at this
    exact this
  have hbm : caAt (caBump (c k) s.who) s.who = nm s := by rw [caAt_bump hl (by omega), hrs]
  have hbo : ∀ i, 0 ≤ i → i ≠ s.who → caAt (caBump (c k) s.who) i = caAt (c k) i := fun i hi hne => caBump_other hw1.1 hi (fun e => hne e.symm)
  have hnk : ¬ wk h k w := fun hc => by
    have := (I.A w s k hs hk).1 hc
    omega
  have hnew : ∀ a, wk h k a → a ≠ w := fun a ha e => hnk (e ▸ ha)
  refine ⟨I.n5, I.nd, I.sd, fun j hj => ?_, fun a sa j ha hj => ?_, I.B, fun i j hi hj => ?_, fun a sa j ha hj => ?_, fun e he => ?_, fun j i x hj hi h1 h2 => ?_, I.F, fun q hq t a sa ht ha hne' hle => ?_, fun q hq t a sa h2 ht ha hwk => ?_, fun q hq => ?_, ?_, fun j i hj hi => ?_, I.Z2⟩
  · by_cases e : j = k
    · rw [e, upd_same, caBump_len]; exact hl
    · rw [upd_ne _ _ e]; exact I.len j hj
  · rw [wk_snoc]
    by_cases e : j = k
    · subst e
      rw [upd_same]
      by_cases ea : a = w
      · subst ea
        rw [hs] at ha
        injection ha with ha
        subst ha
        rw [hbm]
        exact ⟨fun _ => Int.le_refl _, fun _ => .inr ⟨rfl, rfl⟩⟩
      · have hA := I.A a sa j ha hk
        have e1 : (wk h j a ∨ (j = j ∧ w = a)) ↔ wk h j a := ⟨fun hh => hh.elim id fun ⟨_, h2⟩ => absurd h2.symm ea, .inl⟩
        rw [show ((j, 3, w) : Ev).1 = j from rfl, show ((j, 3, w) : Ev).2.2 = w from rfl, e1, hA]
        by_cases ew : sa.who = s.who
        · rw [ew, hbm]
          have hB : nm sa ≠ nm s := fun hh => ea (I.B a w sa s ha hs ew hh)
          omega
        · rw [hbo _ (I.sd a sa ha).1.1 ew]
    · rw [upd_ne _ _ e, ← I.A a sa j ha hj]
      exact ⟨fun hh => hh.elim id fun ⟨h1, _⟩ => absurd h1.symm e, .inl⟩
  · have h0 := I.C1 i j hi hj
    have hS := I.C2 w s s.who hs hw1
    have key : caAt (upd c k (caBump (c k) s.who) j) j = caAt (c j) j := by
      by_cases e : j = k
      · rw [e, upd_same, hbo k hk.1 (fun e => hne e.symm)]
      · rw [upd_ne _ _ e]
    rw [key]
    by_cases e : i = k
    · subst e
      rw [upd_same]
      by_cases ej : j = s.who
      · rw [ej, hbm]; exact hS
      · rw [hbo _ hj.1 ej]; exact h0
    · rw [upd_ne _ _ e]; exact h0
  · have h0 := I.C2 a sa j ha hj
    by_cases e : j = k
    · subst e
      rw [upd_same, hbo _ hj.1 (fun e => hne e.symm)]; exact h0
    · rw [upd_ne _ _ e]; exact h0
  · rcases List.mem_append.1 he with he | he
    · exact I.D e he
    · rw [List.mem_singleton.1 he]
      exact ⟨s, hs, hk, .inr ⟨rfl, hne⟩⟩
  · by_cases e : j = k
    · subst e
      rw [upd_same] at h2
      by_cases ei : i = s.who
      · subst ei
        rw [hbm] at h2
        by_cases ex : x = nm s
        · exact ⟨w, s, hs, rfl, ex.symm⟩
        · exact I.E j _ x hj hi h1 (by omega)
      · rw [hbo _ hi.1 ei] at h2
        exact I.E j i x hj hi h1 h2
    · rw [upd_ne _ _ e] at h2
      exact I.E j i x hj hi h1 h2
  · rcases snoc_cases hq with ⟨h', hg⟩ | ⟨h', hg⟩
    · rw [hg] at ht hne' ⊢
      rw [take_snoc (by omega)]
      exact I.H q h' t a sa ht ha hne' hle
    · rw [hg] at ht hne' ⊢
      rw [take_snoc (by omega), h', List.take_length]
      simp only at ht hne' ⊢
      rw [hs] at ht
      injection ht with ht
      subst ht
      rw [I.A a sa k ha hk]
      by_cases ew : sa.who = s.who
      · have hB : nm sa ≠ nm s := fun hh => hne' (I.B a w sa s ha hs ew hh)
        rw [ew] at hle ⊢
        have : caAt s.clk s.who = nm s := rfl
        omega
      · exact Int.le_trans hle (hrd _ (I.sd a sa ha).1 ew)
  · rcases snoc_cases hq with ⟨h', hg⟩ | ⟨h', hg⟩
    · rw [hg] at h2 ht hwk
      rw [take_snoc (by omega)] at hwk
      exact I.I q h' t a sa h2 ht ha hwk
    · rw [hg] at h2
      exact absurd h2 (by simp)
  · rcases snoc_cases hq with ⟨h', hg⟩ | ⟨h', hg⟩
    · rw [hg, take_snoc (by omega)]
      exact I.R q h'
    · rw [hg, take_snoc (by omega), h', List.take_length]
      unfold evErr
      have hm := isMem_rg I.n5 hk
      rw [if_neg (by simp [rightB, hm, hw4]), if_neg]
      rotate_left
      · rintro (⟨h1, _⟩ | ⟨_, h2⟩)
        · exact absurd h1 (by simp)
        · exact hnk ⟨_, h2, rfl, rfl⟩
      have hev := I.saidEv hs
      have hpos : ∃ (j : Nat) (hj : j < h.length), saidAt h w = j ∧ saysB w h[j] = true := by
        unfold saidAt
        rcases whereI_cases (saysB w) h with ⟨_, h2⟩ | ⟨j, hj, h1, h2, _⟩
        · have := h2 _ hev
          simp [saysB] at this
        · exact ⟨j, hj, h1, h2⟩
      obtain ⟨j, hj, e1, e2⟩ := hpos
      rw [if_neg (by simp only [e1]; omega), if_neg]
      rintro ⟨_, h2⟩
      simp only [e1] at h2
      unfold evAt at h2
      rw [Int.toNat_natCast, List.getD_eq_getElem?_getD, List.getElem?_eq_getElem hj] at h2
      simp only [Option.getD_some] at h2
      unfold saysB at e2
      simp only [Bool.and_eq_true, decide_eq_true_eq] at e2
      obtain ⟨t, ht, _, h3⟩ := I.D _ (List.getElem_mem hj)
      rw [e2.2, hs] at ht
      injection ht with ht
      subst ht
      rcases h3 with ⟨_, h3⟩ | ⟨h3, _⟩
      · exact hne (h3.trans h2)
      · rw [e2.1] at h3; exact absurd h3 (by decide)
  · rw [List.map_append]
    refine List.nodup_append.2 ⟨I.P, by simp, fun x hx y hy => ?_⟩
    simp only [List.map_cons, List.map_nil, List.mem_singleton] at hy
    obtain ⟨e, he, rfl⟩ := List.mem_map.1 hx
    rw [hy]
    intro hh
    injection hh with h1 h2
    exact hnk ⟨e, he, h1, h2⟩
  · by_cases e : j = k
    · rw [e, upd_same, hbo i (by omega) (by omega)]; exact I.Z1 k i hk hi
    · rw [upd_ne _ _ e]; exact I.Z1 j i hj hi
theorem CI.say {n S c h} (I : CI n S c h) {k w : Int} (hk : Rg n k) (hno : mget S w = none) (hw : isWord w = true) (hpos : 0 ≤ caAt (c k) k) :
    CI n (S ++ [(w, ⟨k, w, caBump (c k) k⟩)]) (upd c k (caBump (c k) k)) (h ++ [(k, 2, w)]) := by
  have n5 := I.n5
  have hl := I.len k hk
  have hbm : caAt (caBump (c k) k) k = caAt (c k) k + 1 := caAt_bump hl (by omega)
  have hbo : ∀ i, 0 ≤ i → i ≠ k → caAt (caBump (c k) k) i = caAt (c k) i := fun i hi hne => caBump_other hk.1 hi (fun e => hne e.symm)
  have hput : S ++ [(w, (⟨k, w, caBump (c k) k⟩ : Sd))] = mput S w ⟨k, w, caBump (c k) k⟩ := (mput_new (mget_none.1 hno)).symm
  have hg : ∀ a sa, mget (S ++ [(w, (⟨k, w, caBump (c k) k⟩ : Sd))]) a = some sa → (a = w ∧ sa = ⟨k, w, caBump (c k) k⟩) ∨ (a ≠ w ∧ mget S a = some sa) := fun a sa ha => by
    rw [hput, mget_mput] at ha
    by_cases e : w = a
    · rw [if_pos e] at ha
      injection ha with ha
      exact .inl ⟨e.symm, ha.symm⟩
    · rw [if_neg e] at ha
      exact .inr ⟨fun e' => e e'.symm, ha⟩
  have hg' : ∀ a sa, mget S a = some sa → mget (S ++ [(w, (⟨k, w, caBump (c k) k⟩ : Sd))]) a = some sa := fun a sa ha => by
    rw [hput, mget_mput, if_neg (by rintro rfl; rw [hno] at ha; cases ha)]; exact ha
  have hgw : mget (S ++ [(w, (⟨k, w, caBump (c k) k⟩ : Sd))]) w = some ⟨k, w, caBump (c k) k⟩ := by rw [hput, mget_mput, if_pos rfl]
  have hnk : ∀ j, ¬ wk h j w := fun j hc => by
    obtain ⟨s, hs⟩ := I.known hc
    rw [hno] at hs; cases hs
  have hnm : nm ⟨k, w, caBump (c k) k⟩ = caAt (c k) k + 1 := hbm
  have hup : ∀ j, Rg n j → caAt (c j) j ≤ caAt (upd c k (caBump (c k) k) j) j := fun j hj => by
    by_cases e : j = k
    · rw [e, upd_same, hbm]; omega
    · rw [upd_ne _ _ e]; exact Int.le_refl _
  refine ⟨I.n5, ?_, fun a sa ha => ?_, fun j hj => ?_, fun a sa j ha hj => ?_, fun a b sa sb ha hb hwho hn => ?_, fun i j hi hj => ?_, fun a sa j ha hj => ?_, fun e he => ?_, fun j i x hj hi h1 h2 => ?_, fun p hp i x hi h1 h2 => ?_, fun q hq t a sa ht ha hne' hle => ?_, fun q hq t a sa h2 ht ha hwk => ?_, fun q hq => ?_, ?_, fun j i hj hi => ?_, fun a sa i ha hi => ?_⟩
  · rw [hput]; exact mput_nodup I.nd
  · rcases hg a sa ha with ⟨rfl, rfl⟩ | ⟨_, ha⟩
    · refine ⟨hk, ?_, rfl, hw, ?_⟩
      · rw [hnm]; omega
      · rw [caBump_len]; exact hl
    · exact I.sd a sa ha
  · by_cases e : j = k
    · rw [e, upd_same, caBump_len]; exact hl
    · rw [upd_ne _ _ e]; exact I.len j hj
  · rw [wk_snoc]
    rcases hg a sa ha with ⟨rfl, rfl⟩ | ⟨hne, hA⟩
    · rw [hnm]
      simp only
      by_cases e : j = k
      · subst e
        rw [upd_same, hbm]
        exact ⟨fun _ => Int.le_refl _, fun _ => .inr ⟨rfl, trivial⟩⟩
      · rw [upd_ne _ _ e]
        have := I.C1 j k hj hk
        refine ⟨fun hh => hh.elim (fun h1 => absurd h1 (hnk j)) fun ⟨h1, _⟩ => absurd h1.symm e, fun hh => ?_⟩
        omega
    · have e1 : (wk h j a ∨ (k = j ∧ w = a)) ↔ wk h j a := ⟨fun hh => hh.elim id fun ⟨_, h2⟩ => absurd h2.symm hne, .inl⟩
      rw [show ((k, 2, w) : Ev).1 = k from rfl, show ((k, 2, w) : Ev).2.2 = w from rfl, e1, I.A a sa j hA hj]
      by_cases e : j = k
      · subst e
        rw [upd_same]
        by_cases ew : sa.who = j
        · have := I.C2 a sa j hA hk
          have h3 : nm sa = caAt sa.clk j := by unfold nm; rw [ew]
          rw [ew, hbm]
          omega
        · rw [hbo _ (I.sd a sa hA).1.1 ew]
      · rw [upd_ne _ _ e]
  · rcases hg a sa ha with ⟨rfl, rfl⟩ | ⟨_, hA⟩
    · rcases hg b sb hb with ⟨e, rfl⟩ | ⟨_, hB⟩
      · exact e.symm
      · exfalso
        have := I.C2 b sb k hB hk
        have h3 : nm sb = caAt sb.clk k := by unfold nm; rw [← hwho]
        rw [hnm] at hn
        omega
    · rcases hg b sb hb with ⟨_, rfl⟩ | ⟨_, hB⟩
      · exfalso
        have := I.C2 a sa k hA hk
        have h3 : nm sa = caAt sa.clk k := by unfold nm; rw [hwho]
        rw [hnm] at hn
        omega
      · exact I.B a b sa sb hA hB hwho hn
  · have h0 := I.C1 i j hi hj
    have h3 := hup j hj
    by_cases e : i = k
    · subst e
      rw [upd_same]
      by_cases ej : j = i
      · rw [ej, upd_same]; exact Int.le_refl _
      · rw [hbo _ hj.1 ej]; omega
    · rw [upd_ne _ _ e]; omega
  · have h3 := hup j hj
    rcases hg a sa ha with ⟨rfl, rfl⟩ | ⟨_, ha⟩
    · simp only
      by_cases ej : j = k
      · rw [ej, upd_same]; exact Int.le_refl _
      · rw [hbo _ hj.1 ej]
        have := I.C1 k j hk hj
        omega
    · have := I.C2 a sa j ha hj
      omega
  · rcases List.mem_append.1 he with he | he
    · obtain ⟨s, hs, h1⟩ := I.D e he
      exact ⟨s, hg' _ _ hs, h1⟩
    · rw [List.mem_singleton.1 he]
      exact ⟨_, hgw, hk, .inl ⟨rfl, rfl⟩⟩
  · have old : x ≤ caAt (c j) i → ∃ w' s, mget (S ++ [(w, (⟨k, w, caBump (c k) k⟩ : Sd))]) w' = some s ∧ s.who = i ∧ nm s = x := fun hx => by
      obtain ⟨a, s, h3, h4⟩ := I.E j i x hj hi h1 hx
      exact ⟨a, s, hg' _ _ h3, h4⟩
    by_cases e : j = k
    · subst e
      rw [upd_same] at h2
      by_cases ei : i = j
      · subst ei
        rw [hbm] at h2
        by_cases ex : x = caAt (c i) i + 1
        · exact ⟨w, _, hgw, rfl, hnm.trans ex.symm⟩
        · exact old (by omega)
      · rw [hbo _ hi.1 ei] at h2
        exact old h2
    · rw [upd_ne _ _ e] at h2
      exact old h2
  · rw [List.length_append, List.length_singleton] at hp
    by_cases hc : p < S.length
    · have e1 : (S ++ [(w, (⟨k, w, caBump (c k) k⟩ : Sd))])[p]'(by simp; omega) = S[p] := List.getElem_append_left hc
      rw [e1] at h2 ⊢
      rcases I.F p hc i x hi h1 h2 with h3 | ⟨q, hq, h3, h4⟩
      · exact .inl h3
      · refine .inr ⟨q, hq, ?_, ?_⟩
        · rw [List.getElem_append_left (by omega)]; exact h3
        · rw [List.getElem_append_left (by omega)]; exact h4
    · have hp' : p = S.length := by omega
      subst hp'
      have e1 : (S ++ [(w, (⟨k, w, caBump (c k) k⟩ : Sd))])[S.length]'(by simp) = (w, (⟨k, w, caBump (c k) k⟩ : Sd)) := by simp
      rw [e1] at h2 ⊢
      simp only at h2 ⊢
      have old : x ≤ caAt (c k) i → ∃ q, ∃ hq : q < S.length, ((S ++ [(w, (⟨k, w, caBump (c k) k⟩ : Sd))])[q]'(by simp; omega)).2.who = i ∧ nm ((S ++ [(w, (⟨k, w, caBump (c k) k⟩ : Sd))])[q]'(by simp; omega)).2 = x := fun hx => by
        obtain ⟨a, s, h3, h4, h5⟩ := I.E k i x hk hi h1 hx
        obtain ⟨q, hq, h6⟩ := List.getElem_of_mem (mget_mem' h3)
        refine ⟨q, hq, ?_, ?_⟩
        · rw [List.getElem_append_left hq, h6]; exact h4
        · rw [List.getElem_append_left hq, h6]; exact h5
      by_cases ei : i = k
      · subst ei
        rw [hbm] at h2
        by_cases ex : x = caAt (c i) i + 1
        · exact .inl ⟨rfl, ex.trans hnm.symm⟩
        · exact .inr (old (by omega))
      · rw [hbo _ hi.1 ei] at h2
        exact .inr (old h2)
  · rcases snoc_cases hq with ⟨h', hgq⟩ | ⟨h', hgq⟩
    · rw [hgq] at ht hne' ⊢
      rw [take_snoc (by omega)]
      obtain ⟨t', ht', _⟩ := I.D _ (List.getElem_mem h')
      have ht2 := hg' _ _ ht'
      rw [ht] at ht2
      injection ht2 with ht2
      subst ht2
      rcases hg a sa ha with ⟨rfl, rfl⟩ | ⟨_, ha⟩
      · exfalso
        rw [hnm] at hle
        have := I.C2 _ t k ht' hk
        simp only at hle
        omega
      · exact I.H q h' t a sa ht' ha hne' hle
    · rw [hgq] at ht hne' ⊢
      rw [take_snoc (by omega), h', List.take_length]
      simp only at ht hne' ⊢
      rw [hgw] at ht
      injection ht with ht
      subst ht
      rcases hg a sa ha with ⟨rfl, rfl⟩ | ⟨_, ha⟩
      · exact absurd rfl hne'
      rw [I.A a sa k ha hk]
      simp only at hle
      by_cases ew : sa.who = k
      · have := I.C2 a sa k ha hk
        have h3 : nm sa = caAt sa.clk k := by unfold nm; rw [ew]
        rw [ew]
        omega
      · rw [hbo _ (I.sd a sa ha).1.1 ew] at hle
        exact hle
  · rcases snoc_cases hq with ⟨h', hgq⟩ | ⟨h', hgq⟩
    · rw [hgq] at h2 ht hwk
      rw [take_snoc (by omega)] at hwk
      obtain ⟨t', ht', _⟩ := I.D _ (List.getElem_mem h')
      have ht2 := hg' _ _ ht'
      rw [ht] at ht2
      injection ht2 with ht2
      subst ht2
      rcases hg a sa ha with ⟨rfl, rfl⟩ | ⟨_, ha⟩
      · exfalso
        obtain ⟨e, he, h3, h4⟩ := hwk
        exact hnk _ ⟨e, List.mem_of_mem_take he, h3, h4⟩
      · exact I.I q h' t a sa h2 ht' ha hwk
    · rw [hgq] at ht hwk
      simp only at ht hwk
      rw [hgw] at ht
      injection ht with ht
      subst ht
      rw [h', List.take_of_length_le (by simp), wk_snoc] at hwk
      simp only
      rcases hg a sa ha with ⟨rfl, rfl⟩ | ⟨hne, ha⟩
      · rw [hnm, hbm]; exact Int.le_refl _
      · have h3 : wk h k a := hwk.elim id fun ⟨_, h4⟩ => absurd h4.symm hne
        have h4 := (I.A a sa k ha hk).1 h3
        by_cases ew : sa.who = k
        · rw [ew] at h4 ⊢
          rw [hbm]; omega
        · rw [hbo _ (I.sd a sa ha).1.1 ew]; exact h4
  · rcases snoc_cases hq with ⟨h', hgq⟩ | ⟨h', hgq⟩
    · rw [hgq, take_snoc (by omega)]
      exact I.R q h'
    · rw [hgq, take_snoc (by omega), h', List.take_length]
      unfold evErr
      have hm := isMem_rg I.n5 hk
      have hneg := saidAt_neg (h := h) (w := w) (fun e he hh => hnk e.1 ⟨e, he, rfl, hh⟩)
      rw [if_neg (by simp [rightB, hm, hw]), if_neg, if_neg, if_neg]
      · rintro ⟨h1, _⟩; exact absurd h1 (by simp)
      · rintro ⟨h1, _⟩; exact absurd h1 (by simp)
      · rintro (⟨_, h1⟩ | ⟨h1, _⟩)
        · simp only at h1; omega
        · exact absurd h1 (by simp)
  · rw [List.map_append]
    refine List.nodup_append.2 ⟨I.P, by simp, fun x hx y hy => ?_⟩
    simp only [List.map_cons, List.map_nil, List.mem_singleton] at hy
    obtain ⟨e, he, rfl⟩ := List.mem_map.1 hx
    rw [hy]
    intro hh
    injection hh with h1 h2
    exact hnk _ ⟨e, he, rfl, h2⟩
  · by_cases e : j = k
    · rw [e, upd_same, hbo i (by omega) (by have := hk.2; omega)]; exact I.Z1 k i hk hi
    · rw [upd_ne _ _ e]; exact I.Z1 j i hj hi
  · rcases hg a sa ha with ⟨_, rfl⟩ | ⟨_, hA⟩
    · simp only
      rw [hbo i (by omega) (by have := hk.2; omega)]; exact I.Z1 k i hk hi
    · exact I.Z2 a sa i hA hi
theorem CI.new {n : Nat} (h5 : n ≤ 5) : CI n [] (fun _ => zeroClk) [] := by
  have hz : ∀ i, caAt zeroClk i = 0 := fun i => by
    unfold caAt zeroClk
    match i.toNat with
    | 0 => rfl
    | 1 => rfl
    | 2 => rfl
    | 3 => rfl
    | 4 => rfl
    | k + 5 => rfl
  refine ⟨h5, by simp, fun w s h => (by cases h), fun _ _ => rfl, fun w s k h => (by cases h), fun w w' s s' h => (by cases h), fun k j _ _ => ?_, fun w s j h => (by cases h), fun e he => (by cases he), fun k i x _ _ h1 h2 => ?_, fun p hp => (by simp at hp), fun q hq => (by simp at hq), fun q hq => (by simp at hq), fun k hk => (by simp at hk), by simp, fun k i _ _ => hz i, fun w s i h => (by cases h)⟩
  · simp only [hz]; exact Int.le_refl _
  · simp only [hz] at h2; omega
end Go.Proofs.YtdfjbnfdknpahaaGreatDoor
