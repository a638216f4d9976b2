/- Contracts of package faces, continued: faces of a history. -/
import Derived.Test.YtkgnjkokbiefgaaFaces4
namespace Go.Proofs.Ytkgnjkokbiefgaa
set_option linter.unusedVariables false
set_option linter.unusedSimpArgs false
open Go.RowKit
def alikeAt (h : List Ev) (a b : Nat) : Bool := alikeB (heardL h a) (heardL h b)
def totRow (h : List Ev) (a : Nat) : Bool := upTo (alikeAt h a) a
def totalB (h : List Ev) : Bool := upTo (totRow h) 5
def causalB (h : List Ev) : Bool := upTo (fun k => upTo (skipB h k) k) h.length
def fifoB (h : List Ev) : Bool := upTo (fun k => upTo (fifoOk h k) k) h.length
noncomputable def faTotal_code : Code := ((Try.f40.body.bind (findBlock 4)).getD .skip)
set_option maxRecDepth 1000000 in
set_option maxHeartbeats 4000000 in
theorem faTotal {Q : Exit → Act → World → Prop} {u1 u2 u3 u4 u6 u7 u8 u9 u10 u11 u12 u13 u14 u15 u16 u17 u18 u19 u20 u21 u22 u23 u24 u25 u26 u27 u28 u29 u30 u31 u32 u33 u34 u35 u36 u37 u38 u39 u40 u41 u42 u43 u44 u45 u46 u47 u48 u49 u50 u51 u52 u53 u54 u55 u56 u57 u58 u59 u60 u61 u62 u63 u64 u65 u66 u67 u68 u69 u70 u71 u72 u73 u74 u75 u76 u78 u79 u80 u81 u82 u83 u84 u85 u86 u87 u88 u89 u90 u91 u92 u93 u94 u95 u96 u97 u98 : Value} {w1 : World} (w : World) (R : HProp) (fb n hcap : Nat) (had : Option Addr) (hs : List Ev) (f c t : Bool) (hn : n ≤ 60) (hc1 : n ≤ hcap) (hc2 : hcap ≤ 9223372036854775807) (HLN : Hid (hs.length = n)) (HV : Hid (ReadsE w R (.slice had n hcap) hs)) (HP : Hid (Own w (FaO fb f c t * R) w1))
    (hK : ∀ (v11 v12 v77 v78 v79 v80 v81 v82 v83 v84 v85 v86 v87 v88 v89 v90 v91 v92 v93 v94 v95 v96 v97 : Value) (wx : World), (Own w (FaO fb f c (t && totalB hs) * R) wx) → Q .normal ⟨List.toArray ((.slice had n hcap) :: u1 :: u2 :: u3 :: u4 :: (.pointer (some ⟨fb, 0, none⟩)) :: u6 :: u7 :: u8 :: u9 :: u10 :: v11 :: v12 :: u13 :: u14 :: u15 :: u16 :: u17 :: u18 :: u19 :: u20 :: u21 :: u22 :: u23 :: u24 :: u25 :: u26 :: u27 :: u28 :: u29 :: u30 :: u31 :: u32 :: u33 :: u34 :: u35 :: u36 :: u37 :: u38 :: u39 :: u40 :: u41 :: u42 :: u43 :: u44 :: u45 :: u46 :: u47 :: u48 :: u49 :: u50 :: u51 :: u52 :: u53 :: u54 :: u55 :: u56 :: u57 :: u58 :: u59 :: u60 :: u61 :: u62 :: u63 :: u64 :: u65 :: u66 :: u67 :: u68 :: u69 :: u70 :: u71 :: u72 :: u73 :: u74 :: u75 :: u76 :: v77 :: v78 :: v79 :: v80 :: v81 :: v82 :: v83 :: v84 :: v85 :: v86 :: v87 :: v88 :: v89 :: v90 :: v91 :: v92 :: v93 :: v94 :: v95 :: v96 :: v97 :: u98 :: []), []⟩ wx) :
    Code.wp Try.prog faTotal_code Q ⟨List.toArray ((.slice had n hcap) :: u1 :: u2 :: u3 :: u4 :: (.pointer (some ⟨fb, 0, none⟩)) :: u6 :: u7 :: u8 :: u9 :: u10 :: u11 :: u12 :: u13 :: u14 :: u15 :: u16 :: u17 :: u18 :: u19 :: u20 :: u21 :: u22 :: u23 :: u24 :: u25 :: u26 :: u27 :: u28 :: u29 :: u30 :: u31 :: u32 :: u33 :: u34 :: u35 :: u36 :: u37 :: u38 :: u39 :: u40 :: u41 :: u42 :: u43 :: u44 :: u45 :: u46 :: u47 :: u48 :: u49 :: u50 :: u51 :: u52 :: u53 :: u54 :: u55 :: u56 :: u57 :: u58 :: u59 :: u60 :: u61 :: u62 :: u63 :: u64 :: u65 :: u66 :: u67 :: u68 :: u69 :: u70 :: u71 :: u72 :: u73 :: u74 :: u75 :: u76 :: (.int .i64 0) :: u78 :: u79 :: u80 :: u81 :: u82 :: u83 :: u84 :: u85 :: u86 :: u87 :: u88 :: u89 :: u90 :: u91 :: u92 :: u93 :: u94 :: u95 :: u96 :: u97 :: u98 :: []), []⟩ w1 := by
  conv => arg 2; whnf
  have HK := Lib.hid hK
  clear hK
  have HHD := Lib.hid (fun (R' : HProp) (w1 : World) (who : Int) (ho : Own w (R' * R) w1) => heard_any (.slice had n hcap) hs who ho HV.out.more (by rw [HLN.out]; exact hn))
  have HGD : Hid (∀ e ∈ hs, goodEv e) := Lib.hid (HV.out _ HP.out.drop).2
  go_wp2_with fail
  go_loopw [77] (fun iv wr => ∃ a : Nat, a ≤ 5 ∧ iv = .int .i64 a ∧ Hid (Own w (FaO fb f c (t && upTo (totRow hs) a) * R) wr)) (fun iv _ => 5 - (intOf iv).toNat)
  case atStart => exact ⟨0, Nat.zero_le _, rfl, Lib.hid (by rw [upTo_zero, Bool.and_true]; exact HP.out)⟩
  case round =>
    clear HP
    obtain ⟨a, ha, rfl, HO⟩ := hrel
    by_cases hlt : a < 5
    rotate_left
    · have ha5 : a = 5 := by omega
      subst ha5
      go_wp2_with fail
      apply HK.out
      exact HO.out
    have ta : decide ((a : Int) < 5) = true := decide_eq_true (by omega)
    obtain ⟨t1, ht1⟩ : ∃ t1, t1 = (t && upTo (totRow hs) a) := ⟨_, rfl⟩
    have hnx : (t && upTo (totRow hs) (a + 1)) = (t1 && upTo (alikeAt hs a) a) := by rw [upTo_step, ht1, Bool.and_assoc]; rfl
    have ho := HO.out
    rw [← ht1] at ho
    have HO1 := Lib.hid ho
    have HT1 := Lib.hid ht1; have HNX := Lib.hid hnx
    clear ht1 hnx
    clear ho HO
    go_wp2_with fail
    go_loopw [81] (fun jv wr => ∃ b : Nat, b ≤ a ∧ jv = .int .i64 b ∧ Hid (Own w (FaO fb f c (t1 && upTo (alikeAt hs a) b) * R) wr)) (fun jv _ => a - (intOf jv).toNat)
    case atStart => exact ⟨0, Nat.zero_le _, rfl, Lib.hid (by rw [upTo_zero, Bool.and_true]; exact HO1.out)⟩
    case round =>
      clear HO1
      obtain ⟨b, hb, rfl, HO⟩ := hrel
      by_cases hlt2 : b < a
      rotate_left
      · have hba : b = a := by omega
        have ho := HO.out
        rw [hba, ← HNX.out] at ho
        have HO3 := Lib.hid ho
        clear ho
        go_wp2_with fail
        go_roundw
        case rel => exact ⟨a + 1, by omega, by go_num, HO3⟩
        case measure => simp [intOf]; omega
      obtain ⟨t2, ht2⟩ : ∃ t2, t2 = (t1 && upTo (alikeAt hs a) b) := ⟨_, rfl⟩
      have hn2 : (t1 && upTo (alikeAt hs a) (b + 1)) = (t2 && alikeAt hs a b) := by rw [upTo_step, ht2, Bool.and_assoc]
      have ho := HO.out
      rw [← ht2] at ho
      obtain ⟨g0, g1, g2, g4⟩ := ho.fa
      have HO1 := Lib.hid ho
      have HN2 := Lib.hid hn2
      clear hn2
      have HT2 := Lib.hid ht2
      clear ht2
      clear HO
      cases t2
      · have hst := HO1.out.fa2 false
        have HO3 : Hid (Own w (FaO fb f c (t1 && upTo (alikeAt hs a) (b + 1)) * R) _) := Lib.hid (by rw [HN2.out, Bool.false_and]; exact hst)
        clear hst ho
        go_wp2_with fail
        go_roundw
        case rel => exact ⟨b + 1, by omega, by go_num, HO3⟩
        case measure => simp [intOf]; omega
      · clear ho g0 g1 g4
        go_wp2_with fail
        refine (HHD.out _ _ (a : Int) HO1.out).mono ?_
        rintro e w3 ⟨v3, rfl, ho⟩
        have HO3 : Hid (Own w ((IntSl v3 (heardL hs a) * FaO fb f c true) * R) w3) := Lib.hid (ho.perm (by ac_rfl))
        clear ho
        go_wp2_with fail
        refine (HHD.out _ _ (b : Int) HO3.out).mono ?_
        rintro e w4 ⟨v4, rfl, ho⟩
        have HO4 := Lib.hid ho
        have ha4 : Reads w (IntSl v4 (heardL hs b) * ((IntSl v3 (heardL hs a) * FaO fb f c true) * R)) v3 (heardL hs a) := fun w' ho' => IntSl_reads (heardL_I64 HGD.out a) w' (ho'.perm (show _ = IntSl v3 (heardL hs a) * (IntSl v4 (heardL hs b) * (FaO fb f c true * R)) by ac_rfl))
        have hb4 : Reads w (IntSl v4 (heardL hs b) * ((IntSl v3 (heardL hs a) * FaO fb f c true) * R)) v4 (heardL hs b) := IntSl_reads (heardL_I64 HGD.out b)
        have hla := heardL_len hs a
        have hlb := heardL_len hs b
        rw [HLN.out] at hla hlb
        have HA4 := Lib.hid ha4; have HB4 := Lib.hid hb4
        clear ha4 hb4
        clear ho
        go_wp2_with fail
        refine (alike_any v3 v4 _ _ HO4.out HA4.out HB4.out (by omega) (by omega)).mono ?_
        rintro e w5 ⟨rfl, ho⟩
        have hf : Own w (FaO fb f c true * (IntSl v4 (heardL hs b) * (IntSl v3 (heardL hs a) * R))) w5 := ho.perm (by ac_rfl)
        obtain ⟨g0, g1, g2, g4⟩ := hf.fa
        obtain ⟨z, hz⟩ : ∃ z, z = alikeB (heardL hs a) (heardL hs b) := ⟨_, rfl⟩
        have hst := hf.fa2 z
        have HO5 : Hid (Own w (FaO fb f c (t1 && upTo (alikeAt hs a) (b + 1)) * R) (w5.setCell ⟨fb, 2, none⟩ (.bool z))) := Lib.hid (by
          rw [HN2.out, Bool.true_and, show alikeAt hs a b = z from hz.symm]
          exact (hst.perm (show _ = IntSl v4 (heardL hs b) * (IntSl v3 (heardL hs a) * (FaO fb f c z * R)) by ac_rfl)).drop.drop)
        rw [← hz]
        have HZ := Lib.hid hz
        clear hz
        clear ho hf hst
        go_wp2_with fail
        go_roundw
        case rel => exact ⟨b + 1, by omega, by go_num, HO5⟩
        case measure => simp [intOf]; omega
def facesErr (hs : List Ev) : Nat := (histR hs).2
def facesF (hs : List Ev) : Bool := decide (facesErr hs = 0) && fifoB hs
def facesC (hs : List Ev) : Bool := decide (facesErr hs = 0) && causalB hs
def facesT (hs : List Ev) : Bool := decide (facesErr hs = 0) && totalB hs
set_option maxRecDepth 100000 in
set_option maxHeartbeats 4000000 in
theorem facesOf_any {w0 w : World} {R : HProp} (v : Value) (hs : List Ev) (h : Own w0 R w) (hv : ReadsE w0 R v hs) :
    Calls Try.prog 40 #[v] w fun e w' => e = .returned (.tuple #[.agg #[.bool (facesF hs), .bool (facesC hs), .bool (facesT hs)], errV (facesErr hs)]) ∧ Own w0 R w' := by
  obtain ⟨had, hcap, rfl, hc1, hc2⟩ := (hv _ h).shape
  obtain ⟨E, hE⟩ : ∃ E, E = (histR hs).2 := ⟨_, rfl⟩
  obtain ⟨n, hn⟩ : ∃ n, n = hs.length := ⟨_, rfl⟩
  by_cases h0 : E = 0
  rotate_left
  · have hB : facesErr hs = E := hE.symm
    have h1 : facesF hs = false := by unfold facesF; rw [hB]; simp [h0]
    have h2 : facesC hs = false := by unfold facesC; rw [hB]; simp [h0]
    have h3 : facesT hs = false := by unfold facesT; rw [hB]; simp [h0]
    have hee := errV_ne h0
    obtain ⟨zb, hb_zb⟩ : ∃ zz_, zz_ = (w).heap.size := ⟨_, rfl⟩
    obtain ⟨w1, hw_w1⟩ : ∃ zz_, zz_ = (w).alloc (.cells #[.bool false, .bool false, .bool false] 83 (0, 0)) := ⟨_, rfl⟩
    have h_HO1 := (h).alloc (.cells #[.bool false, .bool false, .bool false] 83 (0, 0))
    rw [← hb_zb, ← hw_w1] at h_HO1
    have HO1 := Lib.hid h_HO1
    clear h_HO1
    have H := Lib.hid h; have HV := Lib.hid hv; have HE := Lib.hid hE; have H0 := Lib.hid h0; have HEE := Lib.hid hee; have HB := Lib.hid hB; have H1 := Lib.hid h1; have H2 := Lib.hid h2; have H3 := Lib.hid h3; have HN := Lib.hid hn
    clear h hv hE h0 hee hB h1 h2 h3 hn
    go_enter Try.func40, Try.ntmps40
    go_upto_region 1 with fail
    rw [← hb_zb, ← hw_w1]
    clear hb_zb hw_w1
    go_wp2_with fail
    refine (hRight_any _ hs HO1.out HV.out.more).mono ?_
    rintro e w2 ⟨rfl, ho⟩
    rw [← HE.out, HEE.out]
    have HO2 : Hid (Own w0 (FaO zb false false false * R) w2) := Lib.hid ho
    clear ho
    obtain ⟨g0, g1, g2, g4⟩ := HO2.out.fa
    have hst := ((HO2.out.fa0 false).fa1 false).fa2 false
    obtain ⟨p0, p1, p2, _⟩ := hst.fa
    have HO3 := Lib.hid hst.drop
    clear hst
    go_wp2_with fail
    exact bodyPost_ret (v := .tuple #[.agg #[.bool (facesF hs), .bool (facesC hs), .bool (facesT hs)], errV (facesErr hs)]) (by rw [H1.out, H2.out, H3.out, HB.out]; simp [results, Try.results40, go_sem, p0, p1, p2]; exact HEE.out.symm) rfl ⟨rfl, HO3.out⟩
  have hee : errV E = .nilIface := by rw [h0]; rfl
  have hlen : hs.length ≤ 60 := ((histR_ok hs).1 (by rw [← hE]; exact h0)).1
  have hB : facesErr hs = 0 := by rw [← h0]; exact hE.symm
  have h1 : facesF hs = upTo (fun k => upTo (fifoOk hs k) k) n := by unfold facesF; rw [hB, hn]; simp [fifoB]
  have h2 : facesC hs = upTo (fun k => upTo (skipB hs k) k) n := by unfold facesC; rw [hB, hn]; simp [causalB]
  have h3 : facesT hs = totalB hs := by unfold facesT; rw [hB]; simp
  have hpp := fun (R' : HProp) (w4 : World) (ho : Own w0 (R' * R) w4) => hPasts_any (R := R' * R) (.slice had hs.length hcap) hs ho hv.more hlen
  rw [← hn] at hc1 hlen hv hpp ⊢
  have HNE := Lib.hid hn.symm
  obtain ⟨zb, hb_zb⟩ : ∃ zz_, zz_ = (w).heap.size := ⟨_, rfl⟩
  obtain ⟨w1, hw_w1⟩ : ∃ zz_, zz_ = (w).alloc (.cells #[.bool false, .bool false, .bool false] 83 (0, 0)) := ⟨_, rfl⟩
  have h_HO1 := (h).alloc (.cells #[.bool false, .bool false, .bool false] 83 (0, 0))
  rw [← hb_zb, ← hw_w1] at h_HO1
  have HO1 := Lib.hid h_HO1
  clear h_HO1
  have H := Lib.hid h; have HV := Lib.hid hv; have HE := Lib.hid hE; have H0 := Lib.hid h0; have HEE := Lib.hid hee; have HB := Lib.hid hB; have H1 := Lib.hid h1; have H2 := Lib.hid h2; have H3 := Lib.hid h3; have HN := Lib.hid hn; have HPP := Lib.hid hpp
  clear h hv hE h0 hee hB h1 h2 h3 hn hpp
  go_enter Try.func40, Try.ntmps40
  go_upto_region 1 with fail
  rw [← hb_zb, ← hw_w1]
  clear hb_zb hw_w1
  go_wp2_with fail
  refine (hRight_any _ hs HO1.out HV.out.more).mono ?_
  rintro e w2 ⟨rfl, ho⟩
  rw [← HE.out, HEE.out]
  obtain ⟨fb, hb_fb⟩ : ∃ zz_, zz_ = (w2).heap.size := ⟨_, rfl⟩
  obtain ⟨w3, hw_w3⟩ : ∃ zz_, zz_ = (w2).alloc (.cells #[.bool true, .bool true, .bool true] 83 (0, 0)) := ⟨_, rfl⟩
  have h_HO3 := (ho).alloc (.cells #[.bool true, .bool true, .bool true] 83 (0, 0))
  rw [← hb_fb, ← hw_w3] at h_HO3
  have HO3 := Lib.hid h_HO3
  clear h_HO3
  clear ho
  have HF3 : Hid (Own w0 (FaO fb true true true * (FaO zb false false false * R)) w3) := HO3
  clear HO3
  go_upto_region 5 with fail
  rw [← hb_fb, ← hw_w3]
  clear hb_fb hw_w3
  go_wp2_with fail
  refine (HPP.out (FaO fb true true true * FaO zb false false false) w3 (HF3.out.perm (by ac_rfl))).mono ?_
  rintro e w4 ⟨rb, rs, rfl, hm, ho⟩
  have HM := Lib.hid hm
  have HO4 : Hid (Own w0 (FaO fb (upTo (fun k => upTo (fifoOk hs k) k) 0) (upTo (fun k => upTo (skipB hs k) k) 0) true * (BTab rb n rs * (FaO zb false false false * R))) w4) := Lib.hid (ho.perm (by rw [upTo_zero, upTo_zero]; ac_rfl))
  clear ho hm
  go_wp2_with fail
  go_loopw [24] (fun iv wr => ∃ k : Nat, k ≤ n ∧ iv = .int .i64 k ∧ Hid (Own w0 (FaO fb (upTo (fun k => upTo (fifoOk hs k) k) k) (upTo (fun k => upTo (skipB hs k) k) k) true * (BTab rb n rs * (FaO zb false false false * R))) wr)) (fun iv _ => n - (intOf iv).toNat)
  case atStart => exact ⟨0, Nat.zero_le _, rfl, HO4⟩
  case round =>
    clear HO4
    obtain ⟨k, hk, rfl, HO⟩ := hrel
    by_cases hlt : k < n
    · have hkl : k < hs.length := by rw [← HN.out]; exact hlt
      obtain ⟨aa, pb, po, ps, rfl, hea, hcs, _⟩ := HV.out.more.more.more.at HO.out k hkl
      obtain ⟨x, hx⟩ : ∃ x, x = evAt hs k := ⟨_, rfl⟩
      rw [← hx] at hcs
      obtain ⟨c0, c1, c2⟩ := hcs _ HO.out
      obtain ⟨x1, x2, x3⟩ := x
      simp only at c0 c1 c2
      obtain ⟨eb, hb_eb⟩ : ∃ zz_, zz_ = (wr).heap.size := ⟨_, rfl⟩
      obtain ⟨w5, hw_w5⟩ : ∃ zz_, zz_ = (wr).alloc (.cells #[.int .i64 x1, .int .i64 x2, .int .i64 x3] 49 (0, 0)) := ⟨_, rfl⟩
      have h_HO1 := (HO.out).alloc (.cells #[.int .i64 x1, .int .i64 x2, .int .i64 x3] 49 (0, 0))
      rw [← hb_eb, ← hw_w5] at h_HO1
      have HO1 := Lib.hid h_HO1
      clear h_HO1
      have HE5 : Hid (Own w0 (FaO fb (upTo (fun k => upTo (fifoOk hs k) k) k) (upTo (fun k => upTo (skipB hs k) k) k) true * (EvO eb (x1, x2, x3) * (BTab rb n rs * (FaO zb false false false * R)))) w5) := Lib.hid (HO1.out.perm (by unfold EvO; ac_rfl))
      clear HO1
      have hf1 := upTo_step (fun k => upTo (fifoOk hs k) k) k
      have hf2 := upTo_step (fun k => upTo (skipB hs k) k) k
      have k0 : (0 : Int) ≤ (k : Int) := by omega
      have kc : (k : Int) ≤ (hcap : Int) := by omega
      have hc0 : hcap ≠ 0 := by omega
      have HXX := Lib.hid hx
      have HCS := Lib.hid hcs; have HF1 := Lib.hid hf1; have HF2 := Lib.hid hf2
      clear hcs hf1 hf2
      clear hx
      go_upto_region 9 with fail
      rw [← hb_eb, ← hw_w5]
      clear hb_eb hw_w5
      clear c0 c1 c2
      go_upto_block 2 with fail
      refine faPairs w0 (FaO zb false false false * R) fb rb n k eb hcap (some aa) hs (x1, x2, x3) rs _ _ true hlt hlen hc1 hc2 HNE HXX (Lib.hid HV.out.more) HM HE5 ?_
      intros
      rename_i hcut
      have HN2 : Hid (Own w0 (FaO fb (upTo (fun k => upTo (fifoOk hs k) k) (k + 1)) (upTo (fun k => upTo (skipB hs k) k) (k + 1)) true * (BTab rb n rs * (FaO zb false false false * R))) _) := Lib.hid (by rw [HF1.out, HF2.out]; exact (hcut.perm (star_left_comm _ _ _)).drop)
      clear hcut
      go_wp2_with fail
      go_roundw
      case rel => exact ⟨k + 1, by omega, by go_num, HN2⟩
      case measure => simp [intOf]; omega
    have hkn : k = n := by omega
    subst hkn
    go_upto_block 4 with fail
    refine faTotal w0 (BTab rb k rs * (FaO zb false false false * R)) fb k hcap had hs _ _ true hlen hc1 hc2 HNE (Lib.hid HV.out.more.more) HO ?_
    intros
    rename_i wx hcut
    rw [← H1.out, ← H2.out, Bool.true_and, ← H3.out] at hcut
    obtain ⟨F, hF⟩ : ∃ F, F = facesF hs := ⟨_, rfl⟩
    obtain ⟨C, hC⟩ : ∃ C, C = facesC hs := ⟨_, rfl⟩
    obtain ⟨T, hT⟩ : ∃ T, T = facesT hs := ⟨_, rfl⟩
    rw [← hF, ← hC, ← hT] at hcut
    obtain ⟨q0, q1, q2, _⟩ := hcut.fa
    have hz := hcut.perm (show _ = FaO zb false false false * (FaO fb F C T * (BTab rb k rs * R)) by ac_rfl)
    obtain ⟨g0, g1, g2, g4⟩ := hz.fa
    have hst := ((hz.fa0 F).fa1 C).fa2 T
    obtain ⟨p0, p1, p2, _⟩ := hst.fa
    have HO9 := Lib.hid hst.drop.drop.drop
    clear hst hz hcut
    have HF := Lib.hid hF; have HC := Lib.hid hC; have HT := Lib.hid hT
    clear hF hC hT
    go_wp2_with fail
    exact bodyPost_ret (v := .tuple #[.agg #[.bool (facesF hs), .bool (facesC hs), .bool (facesT hs)], errV (facesErr hs)]) (by rw [← HF.out, ← HC.out, ← HT.out, HB.out]; simp [results, Try.results40, go_sem, p0, p1, p2, errV0]) rfl ⟨rfl, HO9.out⟩
end Go.Proofs.Ytkgnjkokbiefgaa
