/- Contracts of package faces, continued: faces of a history. -/
import Derived.Test.YtljlnhbndkdlcaaDoorMLogKeeps7
import Derived.Lib.ItoaNum
import Derived.Lib.LastIndexByte
namespace Go.Proofs.YtljlnhbndkdlcaaDoor
set_option linter.unusedVariables false
set_option linter.unusedSimpArgs false
open Go.RowKit
def alikeAt (h : List Ev) (a b : Nat) : Bool := alikeB (heardL h a) (heardL h b)
def totRow (h : List Ev) (a : Nat) : Bool := upTo (alikeAt h a) a
def totalB (h : List Ev) : Bool := upTo (totRow h) 5
def causalB (h : List Ev) : Bool := upTo (fun k => upTo (skipB h k) k) h.length
def fifoB (h : List Ev) : Bool := upTo (fun k => upTo (fifoOk h k) k) h.length
noncomputable def faTotal_code : Code := ((Tryd.f28.body.bind (findBlock 4)).getD .skip)
set_option maxRecDepth 1000000 in
set_option maxHeartbeats 4000000 in
theorem faTotal {Q : Exit → Act → World → Prop} {u1 u2 u3 u4 u6 u7 u8 u9 u10 u11 u12 u13 u14 u15 u16 u17 u18 u19 u20 u21 u22 u23 u24 u25 u26 u27 u28 u29 u30 u31 u32 u33 u34 u35 u36 u37 u38 u39 u40 u41 u42 u43 u44 u45 u46 u47 u48 u49 u50 u51 u52 u53 u54 u55 u56 u57 u58 u59 u60 u61 u62 u63 u64 u65 u66 u67 u68 u69 u70 u71 u72 u73 u74 u75 u76 u78 u79 u80 u81 u82 u83 u84 u85 u86 u87 u88 u89 u90 u91 u92 u93 u94 u95 u96 u97 u98 : Value} {w1 : World} (w : World) (R : HProp) (fb n hcap : Nat) (had : Option Addr) (hs : List Ev) (f c t : Bool) (hn : n ≤ 60) (hc1 : n ≤ hcap) (hc2 : hcap ≤ 9223372036854775807) (HLN : Hid (hs.length = n)) (HV : Hid (ReadsE w R (.slice had n hcap) hs)) (HP : Hid (Own w (FaO fb f c t * R) w1))
    (hK : ∀ (v11 v12 v77 v78 v79 v80 v81 v82 v83 v84 v85 v86 v87 v88 v89 v90 v91 v92 v93 v94 v95 v96 v97 : Value) (wx : World), (Own w (FaO fb f c (t && totalB hs) * R) wx) → Q .normal ⟨List.toArray ((.slice had n hcap) :: u1 :: u2 :: u3 :: u4 :: (.pointer (some ⟨fb, 0, none⟩)) :: u6 :: u7 :: u8 :: u9 :: u10 :: v11 :: v12 :: u13 :: u14 :: u15 :: u16 :: u17 :: u18 :: u19 :: u20 :: u21 :: u22 :: u23 :: u24 :: u25 :: u26 :: u27 :: u28 :: u29 :: u30 :: u31 :: u32 :: u33 :: u34 :: u35 :: u36 :: u37 :: u38 :: u39 :: u40 :: u41 :: u42 :: u43 :: u44 :: u45 :: u46 :: u47 :: u48 :: u49 :: u50 :: u51 :: u52 :: u53 :: u54 :: u55 :: u56 :: u57 :: u58 :: u59 :: u60 :: u61 :: u62 :: u63 :: u64 :: u65 :: u66 :: u67 :: u68 :: u69 :: u70 :: u71 :: u72 :: u73 :: u74 :: u75 :: u76 :: v77 :: v78 :: v79 :: v80 :: v81 :: v82 :: v83 :: v84 :: v85 :: v86 :: v87 :: v88 :: v89 :: v90 :: v91 :: v92 :: v93 :: v94 :: v95 :: v96 :: v97 :: u98 :: []), []⟩ wx) :
    Code.wp Tryd.prog faTotal_code Q ⟨List.toArray ((.slice had n hcap) :: u1 :: u2 :: u3 :: u4 :: (.pointer (some ⟨fb, 0, none⟩)) :: u6 :: u7 :: u8 :: u9 :: u10 :: u11 :: u12 :: u13 :: u14 :: u15 :: u16 :: u17 :: u18 :: u19 :: u20 :: u21 :: u22 :: u23 :: u24 :: u25 :: u26 :: u27 :: u28 :: u29 :: u30 :: u31 :: u32 :: u33 :: u34 :: u35 :: u36 :: u37 :: u38 :: u39 :: u40 :: u41 :: u42 :: u43 :: u44 :: u45 :: u46 :: u47 :: u48 :: u49 :: u50 :: u51 :: u52 :: u53 :: u54 :: u55 :: u56 :: u57 :: u58 :: u59 :: u60 :: u61 :: u62 :: u63 :: u64 :: u65 :: u66 :: u67 :: u68 :: u69 :: u70 :: u71 :: u72 :: u73 :: u74 :: u75 :: u76 :: (.int .i64 0) :: u78 :: u79 :: u80 :: u81 :: u82 :: u83 :: u84 :: u85 :: u86 :: u87 :: u88 :: u89 :: u90 :: u91 :: u92 :: u93 :: u94 :: u95 :: u96 :: u97 :: u98 :: []), []⟩ w1 := by
  conv => arg 2; whnf
  have HK := Lib.hid hK
  clear hK
  have HHD := Lib.hid (fun (R' : HProp) (w1 : World) (who : Int) (ho : Own w (R' * R) w1) => heard_any (.slice had n hcap) hs who ho HV.out.more (by rw [HLN.out]; exact hn))
  have HGD : Hid (∀ e ∈ hs, goodEv e) := Lib.hid (HV.out _ HP.out.drop).2
  go_wp2_with fail
  go_loopw [77] (fun iv wr => ∃ a : Nat, a ≤ 5 ∧ iv = .int .i64 a ∧ Hid (Own w (FaO fb f c (t && upTo (totRow hs) a) * R) wr)) (fun iv _ => 5 - (intOf iv).toNat)
  case atStart => exact ⟨0, Nat.zero_le _, rfl, Lib.hid (by rw [upTo_zero, Bool.and_true]; exact HP.out)⟩
  case round =>
    clear HP
    obtain ⟨a, ha, rfl, HO⟩ := hrel
    by_cases hlt : a < 5
    rotate_left
    · have ha5 : a = 5 := by omega
      subst ha5
      go_wp2_with fail
      apply HK.out
      exact HO.out
    have ta : decide ((a : Int) < 5) = true := decide_eq_true (by omega)
    obtain ⟨t1, ht1⟩ : ∃ t1, t1 = (t && upTo (totRow hs) a) := ⟨_, rfl⟩
    have hnx : (t && upTo (totRow hs) (a + 1)) = (t1 && upTo (alikeAt hs a) a) := by rw [upTo_step, ht1, Bool.and_assoc]; rfl
    have ho := HO.out
    rw [← ht1] at ho
    have HO1 := Lib.hid ho
    have HT1 := Lib.hid ht1; have HNX := Lib.hid hnx
    clear ht1 hnx
    clear ho HO
    go_wp2_with fail
    go_loopw [81] (fun jv wr => ∃ b : Nat, b ≤ a ∧ jv = .int .i64 b ∧ Hid (Own w (FaO fb f c (t1 && upTo (alikeAt hs a) b) * R) wr)) (fun jv _ => a - (intOf jv).toNat)
    case atStart => exact ⟨0, Nat.zero_le _, rfl, Lib.hid (by rw [upTo_zero, Bool.and_true]; exact HO1.out)⟩
    case round =>
      clear HO1
      obtain ⟨b, hb, rfl, HO⟩ := hrel
      by_cases hlt2 : b < a
      rotate_left
      · have hba : b = a := by omega
        have ho := HO.out
        rw [hba, ← HNX.out] at ho
        have HO3 := Lib.hid ho
        clear ho
        go_wp2_with fail
        go_roundw
        case rel => exact ⟨a + 1, by omega, by go_num, HO3⟩
        case measure => simp [intOf]; omega
      obtain ⟨t2, ht2⟩ : ∃ t2, t2 = (t1 && upTo (alikeAt hs a) b) := ⟨_, rfl⟩
      have hn2 : (t1 && upTo (alikeAt hs a) (b + 1)) = (t2 && alikeAt hs a b) := by rw [upTo_step, ht2, Bool.and_assoc]
      have ho := HO.out
      rw [← ht2] at ho
      obtain ⟨g0, g1, g2, g4⟩ := ho.fa
      have HO1 := Lib.hid ho
      have HN2 := Lib.hid hn2
      clear hn2
      have HT2 := Lib.hid ht2
      clear ht2
      clear HO
      cases t2
      · have hst := HO1.out.fa2 false
        have HO3 : Hid (Own w (FaO fb f c (t1 && upTo (alikeAt hs a) (b + 1)) * R) _) := Lib.hid (by rw [HN2.out, Bool.false_and]; exact hst)
        clear hst ho
        go_wp2_with fail
        go_roundw
        case rel => exact ⟨b + 1, by omega, by go_num, HO3⟩
        case measure => simp [intOf]; omega
      · clear ho g0 g1 g4
        go_wp2_with fail
        refine (HHD.out _ _ (a : Int) HO1.out).mono ?_
        rintro e w3 ⟨v3, rfl, ho⟩
        have HO3 : Hid (Own w ((IntSl v3 (heardL hs a) * FaO fb f c true) * R) w3) := Lib.hid (ho.perm (by ac_rfl))
        clear ho
        go_wp2_with fail
        refine (HHD.out _ _ (b : Int) HO3.out).mono ?_
        rintro e w4 ⟨v4, rfl, ho⟩
        have HO4 := Lib.hid ho
        have ha4 : Reads w (IntSl v4 (heardL hs b) * ((IntSl v3 (heardL hs a) * FaO fb f c true) * R)) v3 (heardL hs a) := fun w' ho' => IntSl_reads (heardL_I64 HGD.out a) w' (ho'.perm (show _ = IntSl v3 (heardL hs a) * (IntSl v4 (heardL hs b) * (FaO fb f c true * R)) by ac_rfl))
        have hb4 : Reads w (IntSl v4 (heardL hs b) * ((IntSl v3 (heardL hs a) * FaO fb f c true) * R)) v4 (heardL hs b) := IntSl_reads (heardL_I64 HGD.out b)
        have hla := heardL_len hs a
        have hlb := heardL_len hs b
        rw [HLN.out] at hla hlb
        have HA4 := Lib.hid ha4; have HB4 := Lib.hid hb4
        clear ha4 hb4
        clear ho
        go_wp2_with fail
        refine (alike_any v3 v4 _ _ HO4.out HA4.out HB4.out (by omega) (by omega)).mono ?_
        rintro e w5 ⟨rfl, ho⟩
        have hf : Own w (FaO fb f c true * (IntSl v4 (heardL hs b) * (IntSl v3 (heardL hs a) * R))) w5 := ho.perm (by ac_rfl)
        obtain ⟨g0, g1, g2, g4⟩ := hf.fa
        obtain ⟨z, hz⟩ : ∃ z, z = alikeB (heardL hs a) (heardL hs b) := ⟨_, rfl⟩
        have hst := hf.fa2 z
        have HO5 : Hid (Own w (FaO fb f c (t1 && upTo (alikeAt hs a) (b + 1)) * R) (w5.setCell ⟨fb, 2, none⟩ (.bool z))) := Lib.hid (by
          rw [HN2.out, Bool.true_and, show alikeAt hs a b = z from hz.symm]
          exact (hst.perm (show _ = IntSl v4 (heardL hs b) * (IntSl v3 (heardL hs a) * (FaO fb f c z * R)) by ac_rfl)).drop.drop)
        rw [← hz]
        have HZ := Lib.hid hz
        clear hz
        clear ho hf hst
        go_wp2_with fail
        go_roundw
        case rel => exact ⟨b + 1, by omega, by go_num, HO5⟩
        case measure => simp [intOf]; omega
def facesErr (hs : List Ev) : Nat := (histR hs).2
def facesF (hs : List Ev) : Bool := decide (facesErr hs = 0) && fifoB hs
def facesC (hs : List Ev) : Bool := decide (facesErr hs = 0) && causalB hs
def facesT (hs : List Ev) : Bool := decide (facesErr hs = 0) && totalB hs
set_option maxRecDepth 100000 in
set_option maxHeartbeats 4000000 in
theorem facesOf_any {w0 w : World} {R : HProp} (v : Value) (hs : List Ev) (h : Own w0 R w) (hv : ReadsE w0 R v hs) :
    Calls Tryd.prog 28 #[v] w fun e w' => e = .returned (.tuple #[.agg #[.bool (facesF hs), .bool (facesC hs), .bool (facesT hs)], errV (facesErr hs)]) ∧ Own w0 R w' := by
  obtain ⟨had, hcap, rfl, hc1, hc2⟩ := (hv _ h).shape
  obtain ⟨E, hE⟩ : ∃ E, E = (histR hs).2 := ⟨_, rfl⟩
  obtain ⟨n, hn⟩ : ∃ n, n = hs.length := ⟨_, rfl⟩
  by_cases h0 : E = 0
  rotate_left
  · have hB : facesErr hs = E := hE.symm
    have h1 : facesF hs = false := by unfold facesF; rw [hB]; simp [h0]
    have h2 : facesC hs = false := by unfold facesC; rw [hB]; simp [h0]
    have h3 : facesT hs = false := by unfold facesT; rw [hB]; simp [h0]
    have hee := errV_ne h0
    obtain ⟨zb, hb_zb⟩ : ∃ zz_, zz_ = (w).heap.size := ⟨_, rfl⟩
    obtain ⟨w1, hw_w1⟩ : ∃ zz_, zz_ = (w).alloc (.cells #[.bool false, .bool false, .bool false] 54 (0, 0)) := ⟨_, rfl⟩
    have h_HO1 := (h).alloc (.cells #[.bool false, .bool false, .bool false] 54 (0, 0))
    rw [← hb_zb, ← hw_w1] at h_HO1
    have HO1 := Lib.hid h_HO1
    clear h_HO1
    have H := Lib.hid h; have HV := Lib.hid hv; have HE := Lib.hid hE; have H0 := Lib.hid h0; have HEE := Lib.hid hee; have HB := Lib.hid hB; have H1 := Lib.hid h1; have H2 := Lib.hid h2; have H3 := Lib.hid h3; have HN := Lib.hid hn
    clear h hv hE h0 hee hB h1 h2 h3 hn
    go_enter Tryd.func28, Tryd.ntmps28
    go_upto_region 1 with fail
    rw [← hb_zb, ← hw_w1]
    clear hb_zb hw_w1
    go_wp2_with fail
    refine (hRight_any _ hs HO1.out HV.out.more).mono ?_
    rintro e w2 ⟨rfl, ho⟩
    rw [← HE.out, HEE.out]
    have HO2 : Hid (Own w0 (FaO zb false false false * R) w2) := Lib.hid ho
    clear ho
    obtain ⟨g0, g1, g2, g4⟩ := HO2.out.fa
    have hst := ((HO2.out.fa0 false).fa1 false).fa2 false
    obtain ⟨p0, p1, p2, _⟩ := hst.fa
    have HO3 := Lib.hid hst.drop
    clear hst
    go_wp2_with fail
    exact bodyPost_ret (v := .tuple #[.agg #[.bool (facesF hs), .bool (facesC hs), .bool (facesT hs)], errV (facesErr hs)]) (by rw [H1.out, H2.out, H3.out, HB.out]; simp [results, Tryd.results28, go_sem, p0, p1, p2]; exact HEE.out.symm) rfl ⟨rfl, HO3.out⟩
  have hee : errV E = .nilIface := by rw [h0]; rfl
  have hlen : hs.length ≤ 60 := ((histR_ok hs).1 (by rw [← hE]; exact h0)).1
  have hB : facesErr hs = 0 := by rw [← h0]; exact hE.symm
  have h1 : facesF hs = upTo (fun k => upTo (fifoOk hs k) k) n := by unfold facesF; rw [hB, hn]; simp [fifoB]
  have h2 : facesC hs = upTo (fun k => upTo (skipB hs k) k) n := by unfold facesC; rw [hB, hn]; simp [causalB]
  have h3 : facesT hs = totalB hs := by unfold facesT; rw [hB]; simp
  have hpp := fun (R' : HProp) (w4 : World) (ho : Own w0 (R' * R) w4) => hPasts_any (R := R' * R) (.slice had hs.length hcap) hs ho hv.more hlen
  rw [← hn] at hc1 hlen hv hpp ⊢
  have HNE := Lib.hid hn.symm
  obtain ⟨zb, hb_zb⟩ : ∃ zz_, zz_ = (w).heap.size := ⟨_, rfl⟩
  obtain ⟨w1, hw_w1⟩ : ∃ zz_, zz_ = (w).alloc (.cells #[.bool false, .bool false, .bool false] 54 (0, 0)) := ⟨_, rfl⟩
  have h_HO1 := (h).alloc (.cells #[.bool false, .bool false, .bool false] 54 (0, 0))
  rw [← hb_zb, ← hw_w1] at h_HO1
  have HO1 := Lib.hid h_HO1
  clear h_HO1
  have H := Lib.hid h; have HV := Lib.hid hv; have HE := Lib.hid hE; have H0 := Lib.hid h0; have HEE := Lib.hid hee; have HB := Lib.hid hB; have H1 := Lib.hid h1; have H2 := Lib.hid h2; have H3 := Lib.hid h3; have HN := Lib.hid hn; have HPP := Lib.hid hpp
  clear h hv hE h0 hee hB h1 h2 h3 hn hpp
  go_enter Tryd.func28, Tryd.ntmps28
  go_upto_region 1 with fail
  rw [← hb_zb, ← hw_w1]
  clear hb_zb hw_w1
  go_wp2_with fail
  refine (hRight_any _ hs HO1.out HV.out.more).mono ?_
  rintro e w2 ⟨rfl, ho⟩
  rw [← HE.out, HEE.out]
  obtain ⟨fb, hb_fb⟩ : ∃ zz_, zz_ = (w2).heap.size := ⟨_, rfl⟩
  obtain ⟨w3, hw_w3⟩ : ∃ zz_, zz_ = (w2).alloc (.cells #[.bool true, .bool true, .bool true] 54 (0, 0)) := ⟨_, rfl⟩
  have h_HO3 := (ho).alloc (.cells #[.bool true, .bool true, .bool true] 54 (0, 0))
  rw [← hb_fb, ← hw_w3] at h_HO3
  have HO3 := Lib.hid h_HO3
  clear h_HO3
  clear ho
  have HF3 : Hid (Own w0 (FaO fb true true true * (FaO zb false false false * R)) w3) := HO3
  clear HO3
  go_upto_region 5 with fail
  rw [← hb_fb, ← hw_w3]
  clear hb_fb hw_w3
  go_wp2_with fail
  refine (HPP.out (FaO fb true true true * FaO zb false false false) w3 (HF3.out.perm (by ac_rfl))).mono ?_
  rintro e w4 ⟨rb, rs, rfl, hm, ho⟩
  have HM := Lib.hid hm
  have HO4 : Hid (Own w0 (FaO fb (upTo (fun k => upTo (fifoOk hs k) k) 0) (upTo (fun k => upTo (skipB hs k) k) 0) true * (BTab rb n rs * (FaO zb false false false * R))) w4) := Lib.hid (ho.perm (by rw [upTo_zero, upTo_zero]; ac_rfl))
  clear ho hm
  go_wp2_with fail
  go_loopw [24] (fun iv wr => ∃ k : Nat, k ≤ n ∧ iv = .int .i64 k ∧ Hid (Own w0 (FaO fb (upTo (fun k => upTo (fifoOk hs k) k) k) (upTo (fun k => upTo (skipB hs k) k) k) true * (BTab rb n rs * (FaO zb false false false * R))) wr)) (fun iv _ => n - (intOf iv).toNat)
  case atStart => exact ⟨0, Nat.zero_le _, rfl, HO4⟩
  case round =>
    clear HO4
    obtain ⟨k, hk, rfl, HO⟩ := hrel
    by_cases hlt : k < n
    · have hkl : k < hs.length := by rw [← HN.out]; exact hlt
      obtain ⟨aa, pb, po, ps, rfl, hea, hcs, _⟩ := HV.out.more.more.more.at HO.out k hkl
      obtain ⟨x, hx⟩ : ∃ x, x = evAt hs k := ⟨_, rfl⟩
      rw [← hx] at hcs
      obtain ⟨c0, c1, c2⟩ := hcs _ HO.out
      obtain ⟨x1, x2, x3⟩ := x
      simp only at c0 c1 c2
      obtain ⟨eb, hb_eb⟩ : ∃ zz_, zz_ = (wr).heap.size := ⟨_, rfl⟩
      obtain ⟨w5, hw_w5⟩ : ∃ zz_, zz_ = (wr).alloc (.cells #[.int .i64 x1, .int .i64 x2, .int .i64 x3] 28 (0, 0)) := ⟨_, rfl⟩
      have h_HO1 := (HO.out).alloc (.cells #[.int .i64 x1, .int .i64 x2, .int .i64 x3] 28 (0, 0))
      rw [← hb_eb, ← hw_w5] at h_HO1
      have HO1 := Lib.hid h_HO1
      clear h_HO1
      have HE5 : Hid (Own w0 (FaO fb (upTo (fun k => upTo (fifoOk hs k) k) k) (upTo (fun k => upTo (skipB hs k) k) k) true * (EvO eb (x1, x2, x3) * (BTab rb n rs * (FaO zb false false false * R)))) w5) := Lib.hid (HO1.out.perm (by unfold EvO; ac_rfl))
      clear HO1
      have hf1 := upTo_step (fun k => upTo (fifoOk hs k) k) k
      have hf2 := upTo_step (fun k => upTo (skipB hs k) k) k
      have k0 : (0 : Int) ≤ (k : Int) := by omega
      have kc : (k : Int) ≤ (hcap : Int) := by omega
      have hc0 : hcap ≠ 0 := by omega
      have HXX := Lib.hid hx
      have HCS := Lib.hid hcs; have HF1 := Lib.hid hf1; have HF2 := Lib.hid hf2
      clear hcs hf1 hf2
      clear hx
      go_upto_region 9 with fail
      rw [← hb_eb, ← hw_w5]
      clear hb_eb hw_w5
      clear c0 c1 c2
      go_upto_block 2 with fail
      refine faPairs w0 (FaO zb false false false * R) fb rb n k eb hcap (some aa) hs (x1, x2, x3) rs _ _ true hlt hlen hc1 hc2 HNE HXX (Lib.hid HV.out.more) HM HE5 ?_
      intros
      rename_i hcut
      have HN2 : Hid (Own w0 (FaO fb (upTo (fun k => upTo (fifoOk hs k) k) (k + 1)) (upTo (fun k => upTo (skipB hs k) k) (k + 1)) true * (BTab rb n rs * (FaO zb false false false * R))) _) := Lib.hid (by rw [HF1.out, HF2.out]; exact (hcut.perm (star_left_comm _ _ _)).drop)
      clear hcut
      go_wp2_with fail
      go_roundw
      case rel => exact ⟨k + 1, by omega, by go_num, HN2⟩
      case measure => simp [intOf]; omega
    have hkn : k = n := by omega
    subst hkn
    go_upto_block 4 with fail
    refine faTotal w0 (BTab rb k rs * (FaO zb false false false * R)) fb k hcap had hs _ _ true hlen hc1 hc2 HNE (Lib.hid HV.out.more.more) HO ?_
    intros
    rename_i wx hcut
    rw [← H1.out, ← H2.out, Bool.true_and, ← H3.out] at hcut
    obtain ⟨F, hF⟩ : ∃ F, F = facesF hs := ⟨_, rfl⟩
    obtain ⟨C, hC⟩ : ∃ C, C = facesC hs := ⟨_, rfl⟩
    obtain ⟨T, hT⟩ : ∃ T, T = facesT hs := ⟨_, rfl⟩
    rw [← hF, ← hC, ← hT] at hcut
    obtain ⟨q0, q1, q2, _⟩ := hcut.fa
    have hz := hcut.perm (show _ = FaO zb false false false * (FaO fb F C T * (BTab rb k rs * R)) by ac_rfl)
    obtain ⟨g0, g1, g2, g4⟩ := hz.fa
    have hst := ((hz.fa0 F).fa1 C).fa2 T
    obtain ⟨p0, p1, p2, _⟩ := hst.fa
    have HO9 := Lib.hid hst.drop.drop.drop
    clear hst hz hcut
    have HF := Lib.hid hF; have HC := Lib.hid hC; have HT := Lib.hid hT
    clear hF hC hT
    go_wp2_with fail
    exact bodyPost_ret (v := .tuple #[.agg #[.bool (facesF hs), .bool (facesC hs), .bool (facesT hs)], errV (facesErr hs)]) (by rw [← HF.out, ← HC.out, ← HT.out, HB.out]; simp [results, Tryd.results28, go_sem, p0, p1, p2, errV0]) rfl ⟨rfl, HO9.out⟩
end Go.Proofs.YtljlnhbndkdlcaaDoor
/- Plain law of FacesNest: what is causal is fifo; with one hearing less at the end it is no worse; where only one speaks fifo is causal. -/
namespace Go.Proofs.YtljlnhbndkdlcaaDoor
set_option linter.unusedVariables false
set_option linter.unusedSimpArgs false
open Go.RowKit
theorem bef_take {h : List Ev} {m : Nat} (hm : m ≤ h.length) : ∀ k, k < m → ∀ i, bef (h.take m) k i = bef h k i := by
  intro k
  induction k using Nat.strongRecOn with
  | _ k ih =>
    intro hk i
    have hl : (h.take m).length = m := by simp; omega
    rw [Bool.eq_iff_iff, bef_iff _ _ _ (by omega), bef_iff _ _ _ (by omega)]
    constructor
    · rintro ⟨j, h1, h2, h3⟩
      rw [evAt_take (by omega), evAt_take (by omega)] at h2
      rw [ih j h1 (by omega)] at h3
      exact ⟨j, h1, h2, h3⟩
    · rintro ⟨j, h1, h2, h3⟩
      refine ⟨j, h1, ?_, ?_⟩
      · rw [evAt_take (by omega), evAt_take (by omega)]; exact h2
      · rw [ih j h1 (by omega)]; exact h3
theorem heardL_split (h : List Ev) (m : Nat) (who : Int) : heardL h who = heardL (h.take m) who ++ heardL (h.drop m) who := by
  unfold heardL
  rw [← List.map_append, ← List.filter_append, List.take_append_drop]
theorem whereIs_eq (p : Int → Bool) : ∀ l : List Int, whereIs p l = whereI p l
  | [] => rfl
  | x :: r => by
    unfold whereIs whereI
    rw [whereIs_eq p r]
theorem idx_cases (l : List Int) (x : Int) : (idxI l x = -1 ∧ x ∉ l) ∨ ∃ (k : Nat) (hk : k < l.length), idxI l x = k ∧ l[k] = x ∧ ∀ j (h : j < k), l[j]'(by omega) ≠ x := by
  unfold idxI
  rw [whereIs_eq]
  rcases whereI_cases (fun n => decide (n = x)) l with ⟨h1, h2⟩ | ⟨k, hk, h1, h2, h3⟩
  · exact .inl ⟨h1, fun hx => by simpa using h2 x hx⟩
  · exact .inr ⟨k, hk, h1, by simpa using h2, fun j hj => by simpa using h3 j hj⟩
theorem idx_mk {l : List Int} {x : Int} {k : Nat} (hk : k < l.length) (h1 : l[k] = x) (h2 : ∀ j (h : j < k), l[j]'(by omega) ≠ x) : idxI l x = k := by
  unfold idxI
  rw [whereIs_eq]
  exact whereI_hit _ l k hk (fun j hj => by simpa using h2 j hj) (by simpa using h1)
theorem idx_app {l r : List Int} {x : Int} {k : Nat} (hk : k < l.length) (h : idxI (l ++ r) x = k) : idxI l x = k := by
  rcases idx_cases (l ++ r) x with ⟨h1, _⟩ | ⟨j, hj, h1, h2, h3⟩
  · omega
  · have : j = k := by omega
    subst this
    refine idx_mk hk ?_ (fun i hi => ?_)
    · rw [List.getElem_append_left hk] at h2; exact h2
    · have := h3 i hi
      rw [List.getElem_append_left (by omega)] at this; exact this
theorem idx_mem {l r : List Int} {x : Int} (hx : x ∈ l) : ∃ k : Nat, k < l.length ∧ idxI (l ++ r) x = k ∧ idxI l x = k := by
  rcases idx_cases l x with ⟨_, h2⟩ | ⟨k, hk, h1, h2, h3⟩
  · exact absurd hx h2
  · refine ⟨k, hk, idx_mk (by simp; omega) (by rw [List.getElem_append_left hk]; exact h2) (fun j hj => by rw [List.getElem_append_left (by omega)]; exact h3 j hj), h1⟩
theorem hasAhead_take {h : List Ev} {m : Nat} {f s who : Int} (hs : s ∈ heardL (h.take m) who) (ha : hasAhead h f s who = true) : hasAhead (h.take m) f s who = true := by
  unfold hasAhead at ha ⊢
  rw [heardL_split h m who] at ha
  simp only [Bool.and_eq_true, decide_eq_true_eq] at ha ⊢
  obtain ⟨k, hk, h1, h2⟩ := idx_mem (r := heardL (h.drop m) who) hs
  rw [h1] at ha
  obtain ⟨i, hi⟩ : ∃ i : Nat, idxI (heardL (h.take m) who ++ heardL (h.drop m) who) f = i := ⟨_, (Int.toNat_of_nonneg ha.1).symm⟩
  rw [hi] at ha
  have h3 := idx_app (by omega) hi
  rw [h2, h3]
  omega
theorem aheadB_take {h : List Ev} {m : Nat} {f s : Int} (ha : aheadB h f s = true) : aheadB (h.take m) f s = true := by
  unfold aheadB at ha ⊢
  rw [List.all_eq_true] at ha ⊢
  intro e he
  have h1 := ha e (List.mem_of_mem_take he)
  cases hb : hearsB s e
  · simp
  · rw [hb] at h1
    simp only [Bool.not_true, Bool.false_or] at h1 ⊢
    unfold hearsB at hb
    simp only [Bool.and_eq_true, decide_eq_true_eq] at hb
    refine hasAhead_take ?_ h1
    unfold heardL
    exact List.mem_map.2 ⟨e, List.mem_filter.2 ⟨he, by unfold heardB; simp [hb.1]⟩, hb.2⟩
theorem skipB_take {h : List Ev} {m k i : Nat} (hm : m ≤ h.length) (hk : k < m) (hi : i < k) (hs : skipB h k i = true) : skipB (h.take m) k i = true := by
  unfold skipB at hs ⊢
  rw [evAt_take hk, evAt_take (show i < m by omega), bef_take hm k hk]
  simp only [Bool.or_eq_true] at hs ⊢
  rcases hs with hs | hs | hs | hs
  · exact .inl hs
  · exact .inr (.inl hs)
  · exact .inr (.inr (.inl hs))
  · exact .inr (.inr (.inr (aheadB_take hs)))
theorem causal_take {h : List Ev} {m : Nat} (hm : m ≤ h.length) (hc : causalB h = true) : causalB (h.take m) = true := by
  unfold causalB at hc ⊢
  rw [upTo_iff] at hc ⊢
  intro k hk
  have hk' : k < m := by simp at hk; omega
  have h1 := hc k (by omega)
  rw [upTo_iff] at h1 ⊢
  exact fun i hi => skipB_take hm hk' hi (h1 i hi)
theorem fifo_take {h : List Ev} {m : Nat} (hm : m ≤ h.length) (hc : fifoB h = true) : fifoB (h.take m) = true := by
  unfold fifoB at hc ⊢
  rw [upTo_iff] at hc ⊢
  intro k hk
  have hk' : k < m := by simp at hk; omega
  have h1 := hc k (by omega)
  rw [upTo_iff] at h1 ⊢
  intro i hi
  have h2 := h1 i hi
  unfold fifoOk at h2 ⊢
  rw [evAt_take hk', evAt_take (show i < m by omega)]
  simp only [Bool.or_eq_true] at h2 ⊢
  rcases h2 with h2 | h2
  · exact .inl (skipB_take hm hk' hi h2)
  · exact .inr h2
theorem causal_fifo {h : List Ev} (hc : causalB h = true) : fifoB h = true := by
  unfold causalB at hc
  unfold fifoB
  rw [upTo_iff] at hc ⊢
  intro k hk
  have h1 := hc k hk
  rw [upTo_iff] at h1 ⊢
  exact fun i hi => by unfold fifoOk; rw [h1 i hi]; rfl
def aloneAt (h : List Ev) (i k : Nat) : Bool := !(decide ((evAt h i).2.1 = 2) && (decide ((evAt h k).2.1 = 2) && decide ((evAt h i).1 ≠ (evAt h k).1)))
def aloneB (h : List Ev) : Bool := upTo (fun i => upTo (aloneAt h i) i) h.length
theorem alone_fifo {h : List Ev} (ha : aloneB h = true) (hf : fifoB h = true) : causalB h = true := by
  unfold aloneB at ha
  unfold fifoB at hf
  unfold causalB
  rw [upTo_iff] at ha hf ⊢
  intro k hk
  have h1 := ha k hk
  have h2 := hf k hk
  rw [upTo_iff] at h1 h2 ⊢
  intro i hi
  have h3 := h1 i hi
  have h4 := h2 i hi
  unfold fifoOk at h4
  simp only [Bool.or_eq_true] at h4
  rcases h4 with h4 | h4
  · exact h4
  · unfold skipB
    unfold aloneAt at h3
    by_cases b1 : (evAt h k).2.1 = 2
    · by_cases b2 : (evAt h i).2.1 = 2
      · exfalso
        simp only [b1, b2, decide_true, Bool.true_and, Bool.not_eq_true', decide_eq_false_iff_not, ne_eq, Decidable.not_not] at h3
        simp only [decide_eq_true_eq] at h4
        exact h4 h3.symm
      · simp [b2]
    · simp [b1]
/-- A right history's beginning is right. -/
theorem RightH.front {h : List Ev} (hr : RightH h) (m : Nat) (hm : m ≤ h.length) : RightH (h.take m) := by
  refine ⟨by simp; have := hr.1; omega, fun k hk => ?_⟩
  have hk' : k < m := by simp at hk; omega
  have h1 := hr.2 k (by omega)
  rw [List.take_take, Nat.min_eq_left (by omega), List.getElem_take]
  exact h1
/-- Words are said once. -/
theorem RightH.once {h : List Ev} (hr : RightH h) {i j : Nat} (hi : i < h.length) (hj : j < h.length) (h1 : (evAt h i).2.1 = 2) (h2 : (evAt h j).2.1 = 2) (h3 : (evAt h i).2.2 = (evAt h j).2.2) : i = j := by
  have key : ∀ {i j : Nat}, i < j → j < h.length → (evAt h i).2.1 = 2 → (evAt h j).2.1 = 2 → (evAt h i).2.2 = (evAt h j).2.2 → False := by
    intro i j hij hj h1 h2 h3
    have he := hr.2 j hj
    rw [← evAt_get hj] at he
    have hs : 0 ≤ saidAt (h.take j) (evAt h j).2.2 := by
      unfold saidAt
      rw [whereI_any]
      refine List.any_eq_true.2 ⟨evAt h i, ?_, by unfold saysB; simp [h1, h3]⟩
      rw [← evAt_take hij, evAt_get (by simp; omega)]
      exact List.getElem_mem _
    unfold evErr at he
    split at he
    · cases he
    split at he
    · cases he
    rename_i h5
    exact h5 (.inl ⟨h2, hs⟩)
  rcases Nat.lt_trichotomy i j with h | h | h
  · exact (key h hj h1 h2 h3).elim
  · exact h
  · exact (key h hi h2 h1 h3.symm).elim
/-- Nobody has a word twice. -/
theorem RightH.fresh {h : List Ev} (hr : RightH h) {m : Nat} (hm : m < h.length) (hw : (evAt h m).2.1 ≠ 1) : (evAt h m).2.2 ∉ heardL (h.take m) (evAt h m).1 := by
  intro hin
  obtain ⟨e, he, hee⟩ := List.mem_map.1 hin
  obtain ⟨he1, he2⟩ := List.mem_filter.1 he
  obtain ⟨i, hi, rfl⟩ := List.getElem_of_mem he1
  have him : i < m := by simp at hi; omega
  rw [show (h.take m)[i] = evAt h i by rw [← evAt_take him, evAt_get hi]] at he2 hee
  unfold heardB at he2
  simp only [Bool.and_eq_true, decide_eq_true_eq, Bool.not_eq_true', decide_eq_false_iff_not] at he2
  have hright := hr.2 m hm
  rw [← evAt_get hm] at hright
  have hwhat := evErr0 hright
  have hwhi := evErr0 (show evErr (h.take i) (evAt h i) = 0 by have := hr.2 i (by omega); rw [← evAt_get (by omega)] at this; exact this)
  have hm2 : (evAt h m).2.1 = 2 ∨ (evAt h m).2.1 = 3 := by rcases rightB_what hwhat with h1 | h1 | h1; exact absurd h1 hw; exact .inl h1; exact .inr h1
  have hi2 : (evAt h i).2.1 = 2 ∨ (evAt h i).2.1 = 3 := by rcases rightB_what hwhi with h1 | h1 | h1; exact absurd h1 he2.2; exact .inl h1; exact .inr h1
  rcases hm2 with hm2 | hm2
  · -- said at m: nobody said it ahead, so nobody heard it
    rcases hi2 with hi2 | hi2
    · have := hr.once (by omega) hm hi2 hm2 hee; omega
    · obtain ⟨j, hj, _, h5, h6, _⟩ := hr.said (show i < h.length by omega) hi2
      have := hr.once (show j < h.length by omega) hm h5 hm2 (by rw [h6, hee])
      omega
  · obtain ⟨j, hj, _, h5, h6, h7, _, h8⟩ := hr.said hm hm2
    rcases hi2 with hi2 | hi2
    · have := hr.once (show i < h.length by omega) (show j < h.length by omega) hi2 h5 (by rw [hee, h6])
      subst this
      exact h7 he2.1
    · refine h8 ?_
      have : evAt h i = evAt h m := by
        refine Prod.ext he2.1 (Prod.ext ?_ hee)
        rw [hi2, hm2]
      rw [← this, ← evAt_take him, evAt_get hi]
      exact List.getElem_mem _
theorem filter_congr_mem {A : List Int} {p q : Int → Bool} (h : ∀ x ∈ A, p x = q x) : A.filter p = A.filter q := List.filter_congr h
/-- With the last word of one taken away two are still alike. -/
theorem alike_drop {A B : List Int} {w : Int} (hw : w ∉ A) (h : alikeB (A ++ [w]) B = true) : alikeB A B = true := by
  unfold alikeB at h ⊢
  rw [beq_iff_eq] at h ⊢
  unfold keepB at h ⊢
  by_cases hb : w ∈ B
  · rw [List.filter_append] at h
    have h1 : ([w].filter fun x => decide (x ∈ B)) = [w] := by simp [hb]
    rw [h1] at h
    have h2 := congrArg (List.filter fun x => decide (x ≠ w)) h
    rw [List.filter_append, List.filter_filter, List.filter_filter] at h2
    have h3 : ([w].filter fun x => decide (x ≠ w)) = [] := by simp
    rw [h3, List.append_nil] at h2
    rw [filter_congr_mem (A := A) (q := fun x => decide (x ∈ B)) (fun x hx => by
      have : x ≠ w := fun e => hw (e ▸ hx)
      simp [this])] at h2
    rw [h2]
    refine filter_congr_mem fun x _ => ?_
    by_cases e : x = w
    · subst e; simp [hw]
    · simp [e]
  · rw [List.filter_append] at h
    have h1 : ([w].filter fun x => decide (x ∈ B)) = [] := by simp [hb]
    rw [h1, List.append_nil] at h
    rw [h]
    refine filter_congr_mem fun x hx => ?_
    have : x ≠ w := fun e => hb (e ▸ hx)
    simp [this]
theorem alike_comm {A B : List Int} : alikeB A B = alikeB B A := by
  unfold alikeB
  rw [Bool.eq_iff_iff, beq_iff_eq, beq_iff_eq]
  exact ⟨fun h => h.symm, fun h => h.symm⟩
theorem total_take {h : List Ev} (hr : RightH h) {m : Nat} (hm : m + 1 = h.length) (ht : totalB h = true) : totalB (h.take m) = true := by
  unfold totalB at ht ⊢
  rw [upTo_iff] at ht ⊢
  intro a ha
  have h1 := ht a ha
  unfold totRow at h1 ⊢
  rw [upTo_iff] at h1 ⊢
  intro b hb
  have h2 := h1 b hb
  unfold alikeAt at h2 ⊢
  have hst := fun who => heardL_step h who m (by omega)
  have hall : h.take (m + 1) = h := List.take_of_length_le (by omega)
  rw [hall] at hst
  rw [hst, hst] at h2
  by_cases e1 : heardB (a : Int) (evAt h m) = true
  · have e2 : ¬ heardB (b : Int) (evAt h m) = true := by
      intro e2
      unfold heardB at e1 e2
      simp only [Bool.and_eq_true, decide_eq_true_eq] at e1 e2
      omega
    rw [if_pos e1, if_neg e2] at h2
    unfold heardB at e1
    simp only [Bool.and_eq_true, decide_eq_true_eq, Bool.not_eq_true', decide_eq_false_iff_not] at e1
    refine alike_drop ?_ h2
    rw [← e1.1]
    exact hr.fresh (by omega) e1.2
  · rw [if_neg e1] at h2
    by_cases e2 : heardB (b : Int) (evAt h m) = true
    · rw [if_pos e2, alike_comm] at h2
      unfold heardB at e2
      simp only [Bool.and_eq_true, decide_eq_true_eq, Bool.not_eq_true', decide_eq_false_iff_not] at e2
      rw [alike_comm]
      refine alike_drop ?_ h2
      rw [← e2.1]
      exact hr.fresh (by omega) e2.2
    · rw [if_neg e2] at h2; exact h2
end Go.Proofs.YtljlnhbndkdlcaaDoor
/- Package log, plainly: a history kept as lines of bytes; what is left behind a crash. -/
namespace Go.Proofs.YtljlnhbndkdlcaaDoor
set_option linter.unusedVariables false
set_option linter.unusedSimpArgs false
open Go.RowKit
/-! ### Lines -/
theorem dig_ge : ∀ i : Nat, ∀ b ∈ Lib.decDigits i, 48 ≤ b.toNat := by
  intro i
  induction i using Nat.strongRecOn with
  | ind i ih =>
    intro b hb
    rw [Lib.decDigits] at hb
    split at hb
    · rename_i h
      rw [List.mem_singleton.1 hb]
      rw [UInt8.toNat_ofNat']; omega
    · rename_i h
      rcases List.mem_append.1 hb with h1 | h1
      · exact ih (i / 10) (by omega) b h1
      · rw [List.mem_singleton.1 h1, UInt8.toNat_ofNat']; omega
theorem dig_len : ∀ i : Nat, i < 100 → 1 ≤ (Lib.decDigits i).length ∧ (Lib.decDigits i).length ≤ 2 := by
  intro i hi
  rw [Lib.decDigits]
  split
  · simp
  · rename_i h
    rw [Lib.decDigits, dif_pos (by omega)]; simp
def encB (e : Ev) : List UInt8 := Lib.decDigits e.1.toNat ++ [32] ++ Lib.decDigits e.2.1.toNat ++ [32] ++ Lib.decDigits e.2.2.toNat
def encE (e : Ev) : List UInt8 := encB e ++ [10]
def encH (h : List Ev) : List UInt8 := h.flatMap encE
theorem encB_no (e : Ev) : (10 : UInt8) ∉ encB e := by
  have h1 : ∀ i, (10 : UInt8) ∉ Lib.decDigits i := fun i h => by
    have := dig_ge i 10 h
    exact absurd this (by decide)
  unfold encB
  simp [h1]
def okEv (e : Ev) : Prop := (0 ≤ e.1 ∧ e.1 < 5) ∧ (1 ≤ e.2.1 ∧ e.2.1 ≤ 3) ∧ (0 ≤ e.2.2 ∧ e.2.2 ≤ 30)
theorem encE_len {e : Ev} (h : okEv e) : 6 ≤ (encE e).length ∧ (encE e).length ≤ 9 := by
  obtain ⟨h1, h2, h3⟩ := h
  have d1 := dig_len e.1.toNat (by omega)
  have d2 := dig_len e.2.1.toNat (by omega)
  have d3 := dig_len e.2.2.toNat (by omega)
  unfold encE encB
  simp only [List.length_append, List.length_cons, List.length_nil]
  omega
theorem evErr_ok {ahead : List Ev} {e : Ev} (h : evErr ahead e = 0) : okEv e := by
  unfold evErr at h
  split at h
  · cases h
  rename_i h1
  unfold rightB isMember isWord at h1
  unfold okEv
  by_cases h2 : e.2.1 = 1
  · rw [h2] at h1 ⊢
    simp at h1
    omega
  · rw [if_neg h2] at h1
    simp at h1
    omega
theorem RightH.ok {h : List Ev} (hr : RightH h) : ∀ e ∈ h, okEv e := by
  intro e he
  obtain ⟨k, hk, rfl⟩ := List.getElem_of_mem he
  exact evErr_ok (hr.2 k hk)
theorem okEv_good {e : Ev} (h : okEv e) : goodEv e := by unfold okEv at h; unfold goodEv I64; omega
theorem encH_len : ∀ {h : List Ev}, (∀ e ∈ h, okEv e) → (encH h).length ≤ h.length * 9
  | [], _ => Nat.le_refl _
  | e :: r, hh => by
    have ih := encH_len (h := r) (fun x hx => hh x (List.mem_cons_of_mem _ hx))
    have h1 := encE_len (hh e (List.mem_cons_self ..))
    unfold encH at *
    simp only [List.flatMap_cons, List.length_append, List.length_cons]
    omega
theorem encH_snoc (h : List Ev) (e : Ev) : encH (h ++ [e]) = encH h ++ encE e := by unfold encH; simp
theorem encH_take_succ {h : List Ev} {k : Nat} (hk : k < h.length) : encH (h.take (k + 1)) = encH (h.take k) ++ encE h[k] := by
  rw [List.take_succ_eq_append_getElem hk, encH_snoc]
/-- What m bytes show: whole lines, and what is no line. -/
theorem cut_at {part : List UInt8} (hp : (10 : UInt8) ∉ part) : ∀ (h : List Ev) (m : Nat), ∃ k, k ≤ h.length ∧ ∃ tail, (encH h ++ part).take m = encH (h.take k) ++ tail ∧ (10 : UInt8) ∉ tail ∧ (m ≤ (encH h ++ part).length → (encH (h.take k)).length ≤ m) ∧ (k < h.length → m < (encH (h.take (k + 1))).length)
  | [], m => ⟨0, Nat.le_refl _, part.take m, by simp [encH], fun h => hp (List.mem_of_mem_take h), fun _ => by simp [encH], fun h => absurd h (by simp)⟩
  | e :: r, m => by
    have hs : encH (e :: r) ++ part = encE e ++ (encH r ++ part) := by unfold encH; simp
    by_cases hm : m < (encE e).length
    · refine ⟨0, Nat.zero_le _, (encE e).take m, ?_, fun h => ?_, fun _ => by simp [encH], fun _ => by simpa [encH] using hm⟩
      · rw [hs, List.take_append_of_le_length (by omega)]; simp [encH]
      · unfold encE at h hm
        rw [List.length_append] at hm
        rw [List.take_append_of_le_length (by simp at hm; omega)] at h
        exact encB_no e (List.mem_of_mem_take h)
    · obtain ⟨k, hk, tail, h1, h2, h3, h4⟩ := cut_at hp r (m - (encE e).length)
      have e1 : encH ((e :: r).take (k + 1)) = encE e ++ encH (r.take k) := by unfold encH; simp
      refine ⟨k + 1, by simpa using hk, tail, ?_, h2, fun hle => ?_, fun hlt => ?_⟩
      · rw [hs, e1, List.take_append, List.take_of_length_le (by omega), h1, List.append_assoc]
      · rw [hs, List.length_append] at hle
        have := h3 (by omega)
        rw [e1, List.length_append]; omega
      · have := h4 (by simpa using hlt)
        have e2 : encH ((e :: r).take (k + 1 + 1)) = encE e ++ encH (r.take (k + 1)) := by unfold encH; simp
        rw [e2, List.length_append]; omega
theorem count_encH : ∀ h : List Ev, (encH h).count 10 = h.length
  | [] => rfl
  | e :: r => by
    have ih := count_encH r
    have h1 : (encB e).count 10 = 0 := List.count_eq_zero.2 (encB_no e)
    unfold encH encE at *
    simp only [List.flatMap_cons, List.count_append, List.length_cons, ih, h1]
    simp; omega
/-- The last line's end. -/
theorem last_line {A tail : List UInt8} (ht : (10 : UInt8) ∉ tail) (hA : A = [] ∨ ∃ B, A = B ++ [10]) : Lib.lastIndexByte ⟨(A ++ tail).toArray⟩ 10 = (A.length : Int) - 1 := by
  have key := Lib.lastIndexByte_spec ⟨(A ++ tail).toArray⟩ 10
  have hsz : (⟨(A ++ tail).toArray⟩ : ByteArray).size = A.length + tail.length := by simp [ByteArray.size]
  have hget : ∀ j, j < A.length + tail.length → ((⟨(A ++ tail).toArray⟩ : ByteArray).data[j]!) = (A ++ tail)[j]! := fun j hj => by
    rw [getElem!_pos _ j (by simpa using hj), getElem!_pos _ j (by simpa using hj)]; simp
  have h10 : ∀ x : UInt8, ((x.toNat : Int) = 10) ↔ x = 10 := fun x => by
    constructor
    · intro h
      have : x.toNat = 10 := by omega
      exact UInt8.toNat_inj.1 (by rw [this]; rfl)
    · rintro rfl; rfl
  have htl : ∀ j, A.length ≤ j → j < A.length + tail.length → (A ++ tail)[j]! ≠ 10 := fun j h1 h2 e => by
    rw [getElem!_pos _ j (by simpa using h2), List.getElem_append_right h1] at e
    exact ht (e ▸ List.getElem_mem _)
  rw [hsz] at key
  rcases hA with rfl | ⟨B, rfl⟩
  · rcases key with ⟨h1, _⟩ | ⟨i, hi, _, h2, _⟩
    · rw [h1]; rfl
    · rw [hget i hi, h10] at h2
      exact absurd h2 (htl i (by simp) hi)
  · rcases key with ⟨_, h1⟩ | ⟨i, hi, h1, h2, h3⟩
    · have := h1 B.length (by simp; omega)
      rw [hget _ (by simp; omega), ne_eq, h10] at this
      exact absurd (by rw [getElem!_pos _ _ (by simp)]; simp) this
    · rw [hget i hi, h10] at h2
      have hi2 : i < (B ++ [10]).length := Nat.lt_of_not_le fun h => htl i h hi h2
      have hi3 : ¬ i < B.length := fun h => by
        have := h3 B.length h (by simp; omega)
        rw [hget _ (by simp; omega), ne_eq, h10] at this
        exact this (by rw [getElem!_pos _ _ (by simp)]; simp)
      rw [h1]
      simp only [List.length_append, List.length_cons, List.length_nil] at hi2 ⊢
      omega
theorem encH_end : ∀ h : List Ev, encH h = [] ∨ ∃ B, encH h = B ++ [10] := by
  intro h
  rcases List.eq_nil_or_concat h with rfl | ⟨r, e, rfl⟩
  · exact .inl rfl
  · refine .inr ⟨encH r ++ encB e, ?_⟩
    rw [List.concat_eq_append, encH_snoc]; unfold encE; simp
/-! ### The log -/
structure Lg where
  h : List Ev
  bs : List UInt8
  safe : Nat
  left : Int
  st : Bool
def lgNew : Lg := ⟨[], [], 0, -1, false⟩
def dec1 (x : Int) : Int := max (-1) (x - 1)
theorem dec1_is (x : Int) : dec1 x = if x ≤ 0 then -1 else x - 1 := by unfold dec1; rw [Int.max_def]; split <;> split <;> omega
def lgErr (s : Lg) (e : Ev) : Nat := if s.st = true then 6 else if (histR (s.h ++ [e])).2 ≠ 0 then (histR (s.h ++ [e])).2 else if s.left = 0 then 6 else 0
def halfE (e : Ev) : List UInt8 := (encE e).take ((encE e).length / 2)
def lgDo (s : Lg) (e : Ev) : Lg := if s.st = true then s else if (histR (s.h ++ [e])).2 ≠ 0 then s else if s.left = 0 then { s with st := true, left := -1, bs := s.bs ++ halfE e } else { s with st := false, left := dec1 s.left, bs := s.bs ++ encE e, h := s.h ++ [e] }
def lgSyncErr (s : Lg) : Nat := if s.st = true ∨ s.left = 0 then 6 else 0
def lgSync (s : Lg) : Lg := if s.st = true then s else if s.left = 0 then { s with st := true, left := -1 } else { s with st := false, left := dec1 s.left, safe := s.bs.length }
def lgFail (s : Lg) (n : Int) : Lg := { s with left := max (-1) n }
def lgHigh (s : Lg) (keep : Int) : Nat := s.safe + (if keep ≤ 0 then 0 else if keep ≤ ((s.bs.length : Nat) : Int) - s.safe then keep.toNat else s.bs.length - s.safe)
def lgCut (s : Lg) (keep : Int) : Nat := (s.bs.take (lgHigh s keep)).count 10
def lgCrash (s : Lg) (keep : Int) : Lg := ⟨s.h.take (lgCut s keep), encH (s.h.take (lgCut s keep)), (encH (s.h.take (lgCut s keep))).length, -1, false⟩
structure LgI (s : Lg) : Prop where
  hr : RightH s.h
  bs : ∃ part, s.bs = encH s.h ++ part ∧ (10 : UInt8) ∉ part ∧ part.length ≤ 4 ∧ (s.st = false → part = [])
  safe : s.safe ≤ s.bs.length
  left : -1 ≤ s.left ∧ s.left ≤ 9223372036854775807
theorem LgI.len {s : Lg} (h : LgI s) : s.bs.length ≤ 1000 := by
  obtain ⟨part, h1, _, h2, _⟩ := h.bs
  have := encH_len h.hr.ok
  have := h.hr.1
  rw [h1, List.length_append]; omega
theorem lgNew_I : LgI lgNew := ⟨⟨by simp [lgNew], fun k hk => by simp [lgNew] at hk⟩, ⟨[], rfl, by simp, by simp, fun _ => rfl⟩, Nat.le_refl _, by simp [lgNew]⟩
theorem LgI.do {s : Lg} (h : LgI s) (e : Ev) : LgI (lgDo s e) := by
  unfold lgDo
  split
  · exact h
  rename_i hst
  have hst' : s.st = false := by simpa using hst
  split
  · exact h
  rename_i h0
  have hr : RightH (s.h ++ [e]) := (histR_ok _).1 (by simpa using h0)
  have hok : okEv e := hr.ok e (by simp)
  have hl := encE_len hok
  obtain ⟨part, h1, h2, h3, h4⟩ := h.bs
  have hp := h4 hst'
  subst hp
  rw [List.append_nil] at h1
  have hsf := h.safe
  split
  · refine ⟨h.hr, ⟨halfE e, by show s.bs ++ _ = _; rw [h1], fun hh => ?_, ?_, fun h => by cases h⟩, ?_, by simp⟩
    · unfold halfE at hh
      unfold encE at hh hl
      rw [List.take_append_of_le_length (by simp at hl ⊢; omega)] at hh
      exact encB_no e (List.mem_of_mem_take hh)
    · unfold halfE; rw [List.length_take]; omega
    · show s.safe ≤ (s.bs ++ _).length
      rw [List.length_append]; omega
  · rename_i hn
    have hlf := h.left
    refine ⟨hr, ⟨[], by show s.bs ++ _ = encH (s.h ++ [e]) ++ []; rw [h1, encH_snoc, List.append_nil], by simp, by simp, fun _ => rfl⟩, ?_, ?_⟩
    · show s.safe ≤ (s.bs ++ _).length
      rw [List.length_append]; omega
    · show -1 ≤ dec1 s.left ∧ dec1 s.left ≤ 9223372036854775807
      rw [dec1_is]; split <;> omega
theorem LgI.sync {s : Lg} (h : LgI s) : LgI (lgSync s) := by
  unfold lgSync
  split
  · exact h
  rename_i hst
  have hst' : s.st = false := by simpa using hst
  obtain ⟨part, h1, h2, h3, h4⟩ := h.bs
  have hlf := h.left
  split
  · exact ⟨h.hr, ⟨part, h1, h2, h3, fun h => by cases h⟩, h.safe, by simp⟩
  · refine ⟨h.hr, ⟨part, h1, h2, h3, fun _ => h4 hst'⟩, Nat.le_refl _, ?_⟩
    show -1 ≤ dec1 s.left ∧ dec1 s.left ≤ 9223372036854775807
    rw [dec1_is]; split <;> omega
theorem LgI.fail {s : Lg} (h : LgI s) {n : Int} (hn : I64 n) : LgI (lgFail s n) := ⟨h.hr, h.bs, h.safe, by
  show -1 ≤ max (-1) n ∧ max (-1) n ≤ 9223372036854775807
  unfold I64 at hn
  rw [Int.max_def]
  split <;> omega⟩
theorem lgHigh_le {s : Lg} (h : LgI s) (keep : Int) : s.safe ≤ lgHigh s keep ∧ lgHigh s keep ≤ s.bs.length := by
  have := h.safe
  unfold lgHigh
  split
  · omega
  · split <;> omega
/-- A crash, in the words of the program: the bytes up to the last line's end; as many events as lines. -/
theorem lg_cut {s : Lg} (h : LgI s) (keep : Int) : lgCut s keep ≤ s.h.length ∧ ∃ tail, s.bs.take (lgHigh s keep) = encH (s.h.take (lgCut s keep)) ++ tail ∧ (10 : UInt8) ∉ tail ∧ (encH (s.h.take (lgCut s keep))).length ≤ lgHigh s keep ∧ (lgCut s keep < s.h.length → lgHigh s keep < (encH (s.h.take (lgCut s keep + 1))).length) := by
  obtain ⟨part, h1, h2, h3, h4⟩ := h.bs
  obtain ⟨k, hk, tail, e1, e2, e3, e4⟩ := cut_at h2 s.h (lgHigh s keep)
  have hle := (lgHigh_le h keep).2
  rw [← h1] at e1 e3
  have hc : lgCut s keep = k := by
    unfold lgCut
    rw [e1, List.count_append, count_encH, List.count_eq_zero.2 e2, List.length_take]
    omega
  rw [hc]
  exact ⟨hk, tail, e1, e2, e3 hle, e4⟩
theorem lg_last {s : Lg} (h : LgI s) (keep : Int) : Lib.lastIndexByte ⟨(s.bs.take (lgHigh s keep)).toArray⟩ 10 = (((lgCrash s keep).bs.length : Nat) : Int) - 1 ∧ (s.bs.take (lgHigh s keep)).take (lgCrash s keep).bs.length = (lgCrash s keep).bs := by
  obtain ⟨_, tail, e1, e2, _⟩ := lg_cut h keep
  rw [e1]
  refine ⟨last_line e2 (encH_end _), ?_⟩
  show (encH (s.h.take (lgCut s keep)) ++ tail).take (encH (s.h.take (lgCut s keep))).length = encH (s.h.take (lgCut s keep))
  simp
theorem lg_lines {s : Lg} (keep : Int) (h : LgI s) : (lgCrash s keep).bs.count 10 = lgCut s keep := by
  have := (lg_cut h keep).1
  show (encH (s.h.take (lgCut s keep))).count 10 = _
  rw [count_encH, List.length_take]; omega
theorem LgI.crash {s : Lg} (h : LgI s) (keep : Int) : LgI (lgCrash s keep) := ⟨h.hr.front _ (lg_cut h keep).1, ⟨[], by simp [lgCrash], by simp, by simp, fun _ => rfl⟩, Nat.le_refl _, by simp [lgCrash]⟩
end Go.Proofs.YtljlnhbndkdlcaaDoor
