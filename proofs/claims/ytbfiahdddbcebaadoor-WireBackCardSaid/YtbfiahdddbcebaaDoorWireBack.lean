/- WireBack: a word is read as it was: any, and any bytes; with one byte another one it is none. -/
import Derived.Test.YtbfiahdddbcebaaDoorWireSame
import Derived.Test.YtbfiahdddbcebaaDoorWireLong
import Derived.Test.YtbfiahdddbcebaaDoorTold
namespace Go.Proofs.YtbfiahdddbcebaaDoor
set_option linter.unusedVariables false
set_option linter.unusedSimpArgs false
open Go.RowKit
theorem wb_fact : packS 1 2 [0, 256, 0, 0, 0] = ⟨#[1, 2, 0, 0, 0, 0, 1, 0, 0, 0, 0, 0, 0, 0, 0, 0, 0, 4]⟩ ∧ saidErr 1 2 [0, 256, 0, 0, 0] = 0 := by decide
/-- What is read is packed as it was. -/
theorem wb_pack {t : ByteArray} (h : unpackErr t.data.toList = 0) : saidErr (unpackWho t.data.toList) (unpackWord t.data.toList) (unpackClock t.data.toList) = 0 ∧ packS (unpackWho t.data.toList) (unpackWord t.data.toList) (unpackClock t.data.toList) = t := by
  have e1 : unpackWho t.data.toList = bn t.data.toList 0 := by unfold unpackWho; rw [if_pos h]
  have e2 : unpackWord t.data.toList = bn t.data.toList 1 := by unfold unpackWord; rw [if_pos h]
  have e3 : unpackClock t.data.toList = clkN t.data.toList 5 := by unfold unpackClock; rw [if_pos h]
  rw [e1, e2, e3]
  obtain ⟨h1, h2⟩ := pack_unpack h
  refine ⟨h1, bytes_ext ?_⟩
  rw [(packS_size h1).2, h2]
theorem wb_ext (T : ByteArray) (L : List UInt8) (h : T.data.toList = L) (k : Nat) (Z : UInt8) (hk : k < L.length) : ((T.extract 0 k ++ ⟨#[Z]⟩) ++ T.extract (k + 1) L.length).data.toList = L.set k Z := by
  have h1 : (T.extract 0 k).data.toList = L.take k := by
    rw [ByteArray.data_extract, Array.toList_extract, h]; simp [List.extract]
  have h2 : (T.extract (k + 1) L.length).data.toList = L.drop (k + 1) := by
    rw [ByteArray.data_extract, Array.toList_extract, h]; simp [List.extract]
    rw [List.take_of_length_le (by simp)]
  rw [ByteArray.data_append, ByteArray.data_append, Array.toList_append, Array.toList_append, h1, h2, List.set_eq_take_append_cons_drop, if_pos hk]
  simp
set_option maxRecDepth 100000 in
set_option maxHeartbeats 4000000 in
theorem wireBack_law (w : World) (hg : As.Handle w) (v : Value) (x : Int × Int × Value × List Int) (hx : v = .agg #[.int .i64 x.1, .int .i64 x.2.1, x.2.2.1] ∧ I64 x.1 ∧ I64 x.2.1 ∧ Ints w x.2.2.1 x.2.2.2) (t : ByteArray) (_ht : t.size ≤ maxLen) (at' : Int) (hat : I64 at') (tob : Int) (hto : 0 ≤ tob ∧ tob ≤ 255) :
    Calls Tryd.prog 3 #[v, .string t, .int .i64 at', .int .u8 tob] w fun e w' => e = .returned (.bool true) ∧ Below w.heap.size w w' := by
  obtain ⟨who, word, sv, l⟩ := x
  obtain ⟨rfl, _, _, hl⟩ := hx
  simp only at hl ⊢
  obtain ⟨ad, cap, rfl, hlc, hcap⟩ := hl.shape
  obtain ⟨n, hn⟩ : ∃ n, n = l.length := ⟨_, rfl⟩
  rw [← hn] at hl hlc ⊢
  obtain ⟨b0, hb_b0⟩ : ∃ zz_, zz_ = (w).heap.size := ⟨_, rfl⟩
  obtain ⟨w1, hw_w1⟩ : ∃ zz_, zz_ = (w).alloc (.cells #[.int .i64 who, .int .i64 word, .slice ad n cap] 24 (0, 0)) := ⟨_, rfl⟩
  have h_HO1 := ((Own.start w)).alloc (.cells #[.int .i64 who, .int .i64 word, .slice ad n cap] 24 (0, 0))
  rw [← hb_b0, ← hw_w1] at h_HO1
  have HO1 := Lib.hid h_HO1
  clear h_HO1
  obtain ⟨b1, hb_b1⟩ : ∃ zz_, zz_ = (w1).heap.size := ⟨_, rfl⟩
  obtain ⟨w2, hw_w2⟩ : ∃ zz_, zz_ = (w1).alloc (.cells #[.int .i64 0, .int .i64 256, .int .i64 0, .int .i64 0, .int .i64 0] 3 (0, 0)) := ⟨_, rfl⟩
  have h_HO2 := (HO1.out).alloc (.cells #[.int .i64 0, .int .i64 256, .int .i64 0, .int .i64 0, .int .i64 0] 3 (0, 0))
  rw [← hb_b1, ← hw_w2] at h_HO2
  have HO2 := Lib.hid h_HO2
  clear h_HO2
  have HO3 : Hid (Own w (IntSl (.slice (some ⟨b1, 0, none⟩) 5 5) [0, 256, 0, 0, 0] * (SdB b0 who word (.slice ad n cap) * emp)) w2) := Lib.hid (Own.litI [0, 256, 0, 0, 0] 5 rfl (by omega) HO2.out)
  have HRD : Hid (Reads w (IntSl (.slice (some ⟨b1, 0, none⟩) 5 5) [0, 256, 0, 0, 0] * (SdB b0 who word (.slice ad n cap) * emp)) (.slice (some ⟨b1, 0, none⟩) 5 5) [0, 256, 0, 0, 0]) := Lib.hid (IntSl_reads (by intro x hx; simp at hx; unfold I64; omega))
  have HL : Hid (∀ R, Reads w R (.slice ad n cap) l) := Lib.hid (fun R => hl.reads)
  clear HO1 HO2 hl
  have HG := Lib.hid hg; have HN := Lib.hid hn
  clear hg hn
  obtain ⟨k1, k2⟩ := wb_fact
  have K1 := Lib.hid k1; have K2 := Lib.hid k2
  clear k1 k2
  go_enter Tryd.func3, Tryd.ntmps3
  go_wp2_with fail
  have hq_b1 : b0 + 1 = b1 := by rw [hb_b1, hw_w1, hb_b0, World.size_alloc]
  rw [← hb_b0, hq_b1, ← hw_w1, ← hw_w2]
  clear hq_b1 hb_b0 hb_b1 hw_w1 hw_w2
  refine (wpack_any 1 2 _ _ HO3.out HRD.out).mono ?_
  rintro e w3 ⟨rfl, ho3⟩
  rw [K2.out, K1.out, errV0]
  have HO4 := Lib.hid ho3.drop
  clear ho3
  go_wp2_with fail
  refine (wunpack_any t HO4.out).mono ?_
  rintro e w4 ⟨v4, rfl, ho4⟩
  obtain ⟨B, hB⟩ : ∃ B, B = t.data.toList := ⟨_, rfl⟩
  rw [← hB] at ho4
  rw [← hB]
  obtain ⟨E, hE⟩ : ∃ E, E = unpackErr B := ⟨_, rfl⟩
  obtain ⟨who2, hw2⟩ : ∃ E, E = unpackWho B := ⟨_, rfl⟩
  obtain ⟨word2, hd2⟩ : ∃ E, E = unpackWord B := ⟨_, rfl⟩
  obtain ⟨l2, hl2⟩ : ∃ E, E = unpackClock B := ⟨_, rfl⟩
  rw [← hE, ← hw2, ← hd2]
  rw [← hl2] at ho4
  obtain ⟨a4, c4, hs4⟩ := ho4.int_shape
  obtain ⟨n4, hn4⟩ : ∃ n, n = l2.length := ⟨_, rfl⟩
  rw [← hn4] at hs4
  subst hs4
  have hI2 : ∀ x ∈ l2, I64 x := by
    rw [hl2]; unfold unpackClock
    split
    · exact clkN_I64 B 5
    · intro x hx; cases hx
  have hpk : E = 0 → saidErr who2 word2 l2 = 0 ∧ packS who2 word2 l2 = t := fun h0 => by
    rw [hw2, hd2, hl2, hB]
    exact wb_pack (by rw [← hB, ← hE]; exact h0)
  clear hE hw2 hd2 hl2
  have HB := Lib.hid hB; have HN4 := Lib.hid hn4; have HI2 := Lib.hid hI2; have HPK := Lib.hid hpk
  clear hB hn4 hI2 hpk
  obtain ⟨b4, hb_b4⟩ : ∃ zz_, zz_ = (w4).heap.size := ⟨_, rfl⟩
  obtain ⟨w5, hw_w5⟩ : ∃ zz_, zz_ = (w4).alloc (.cells #[.int .i64 who2, .int .i64 word2, .slice a4 n4 c4] 24 (0, 0)) := ⟨_, rfl⟩
  have h_HO5 := (ho4).alloc (.cells #[.int .i64 who2, .int .i64 word2, .slice a4 n4 c4] 24 (0, 0))
  rw [← hb_b4, ← hw_w5] at h_HO5
  have HO5 := Lib.hid h_HO5
  clear h_HO5
  have HO6 : Hid (Own w (IntSl (.slice a4 n4 c4) l2 * (SdB b4 who2 word2 (.slice a4 n4 c4) * (SdB b0 who word (.slice ad n cap) * emp))) w5) := Lib.hid HO5.out.second
  have HRD2 : Hid (Reads w (IntSl (.slice a4 n4 c4) l2 * (SdB b4 who2 word2 (.slice a4 n4 c4) * (SdB b0 who word (.slice ad n cap) * emp))) (.slice a4 n4 c4) l2) := Lib.hid (IntSl_reads HI2.out)
  clear ho4 HO5
  go_upto_region 5 with fail
  rw [← hb_b4, ← hw_w5]
  clear hb_b4 hw_w5
  by_cases h0 : E = 0
  case' pos =>
    obtain ⟨z0, z1, z2, _⟩ := HO6.out.second.sdB
    subst h0
    obtain ⟨p1, p2⟩ := HPK.out rfl
    have P1 := Lib.hid p1; have P2 := Lib.hid p2
    clear p1 p2
    rw [errV0]
    go_wp2_with fail
    refine (wpack_any who2 word2 _ l2 HO6.out HRD2.out).mono ?_
    rintro e w6 ⟨rfl, ho6⟩
    rw [P2.out, P1.out, errV0]
    have HO7 := Lib.hid ho6.drop.drop
    clear ho6 z0 z1 z2
    obtain ⟨y0, y1, y2, _⟩ := HO7.out.sdB
    go_wp2_with fail
  case' neg =>
    obtain ⟨mm, hmm⟩ := errV_some h0
    rw [hmm]
    have HO7 := Lib.hid HO6.out.drop.drop
    obtain ⟨y0, y1, y2, _⟩ := HO7.out.sdB
    have HMM := Lib.hid hmm; have H0 := Lib.hid h0
    clear hmm h0
    go_wp2_with fail
  all_goals
    clear HO6 HRD2 HPK
    refine (wpack_any who word _ l HO7.out (HL.out _)).mono ?_
    rintro e w7 ⟨rfl, ho7⟩
    have HO8 := Lib.hid ho7
    clear ho7 y0 y1 y2 HO7
    by_cases he : saidErr who word l = 0
    rotate_left
    · obtain ⟨mm, hmm⟩ := errV_some he
      rw [hmm]
      have HE := Lib.hid he; have HMM := Lib.hid hmm
      clear he hmm
      go_wp2
      go_ret
      exact ⟨rfl, HO8.out.below⟩
    rw [he, errV0]
    obtain ⟨hsz, hlist⟩ := packS_size he
    obtain ⟨T, hT⟩ : ∃ T, T = packS who word l := ⟨_, rfl⟩
    rw [← hT] at hsz hlist
    rw [← hT]
    obtain ⟨u1, u2, u3, u4⟩ := unpack_pack he
    have e1 : unpackWho T.data.toList = who := by rw [hlist]; unfold unpackWho; rw [if_pos u1, u2]
    have e2 : unpackWord T.data.toList = word := by rw [hlist]; unfold unpackWord; rw [if_pos u1, u3]
    have e3 : unpackClock T.data.toList = l := by rw [hlist]; unfold unpackClock; rw [if_pos u1, u4]
    have e4 : unpackErr T.data.toList = 0 := by rw [hlist]; exact u1
    have HE := Lib.hid he; have HT := Lib.hid hT; have HLIST := Lib.hid hlist; have U1 := Lib.hid u1; have U2 := Lib.hid u2; have U3 := Lib.hid u3; have U4 := Lib.hid u4; have E1 := Lib.hid e1; have E2 := Lib.hid e2; have E3 := Lib.hid e3; have E4 := Lib.hid e4
    clear he hT hlist u1 u2 u3 u4 e1 e2 e3 e4
    go_wp2_with fail
    refine (wunpack_any T HO8.out).mono ?_
    rintro e w8 ⟨v8, rfl, ho8⟩
    rw [E1.out, E2.out, E4.out, errV0]
    rw [E3.out] at ho8
    obtain ⟨a8, c8, hs8⟩ := ho8.int_shape
    rw [← HN.out] at hs8
    subst hs8
    obtain ⟨b8, hb_b8⟩ : ∃ zz_, zz_ = (w8).heap.size := ⟨_, rfl⟩
    obtain ⟨w9, hw_w9⟩ : ∃ zz_, zz_ = (w8).alloc (.cells #[.int .i64 who, .int .i64 word, .slice a8 n c8] 24 (0, 0)) := ⟨_, rfl⟩
    have h_HO9 := (ho8).alloc (.cells #[.int .i64 who, .int .i64 word, .slice a8 n c8] 24 (0, 0))
    rw [← hb_b8, ← hw_w9] at h_HO9
    have HO9 := Lib.hid h_HO9
    clear h_HO9
    have HOA : Hid (Own w (IntSl (.slice a8 n c8) l * (SdB b8 who word (.slice a8 n c8) * (SdB b0 who word (.slice ad n cap) * emp))) w9) := Lib.hid HO9.out.second
    obtain ⟨z0, z1, z2, _⟩ := HOA.out.second.sdB
    obtain ⟨y0, y1, y2, _⟩ := HOA.out.drop.drop.sdB
    have hlI := (HL.out emp _ (HOA.out.drop.drop.drop)).2
    clear ho8 HO9
    have HLI := Lib.hid hlI
    clear hlI
    go_upto_region 13 with fail
    rw [← hb_b8, ← hw_w9]
    clear hb_b8 hw_w9
    go_wp2_with fail
    refine (sameSaid_eq who word _ _ l HOA.out (IntSl_reads HLI.out) (HL.out _)).mono ?_
    rintro e wA ⟨rfl, hoA⟩
    have HOB := Lib.hid hoA
    clear hoA z0 z1 z2 y0 y1 y2
    by_cases ha : at' < 0
    · have t1 : decide (at' < 0) = true := by simpa using ha
      have HA := Lib.hid ha
      clear ha
      go_wp2
      go_ret
      exact ⟨rfl, HOB.out.below⟩
    by_cases hb : 18 ≤ at'
    · have t1 : decide (at' < 0) = false := by simpa using ha
      have t2 : decide (18 ≤ at') = true := by simpa using hb
      have HA := Lib.hid ha; have HB := Lib.hid hb
      clear ha hb
      go_wp2
      go_ret
      exact ⟨rfl, HOB.out.below⟩
    obtain ⟨k, rfl⟩ : ∃ k : Nat, at' = k := ⟨at'.toNat, by omega⟩
    obtain ⟨z, rfl⟩ : ∃ z : Nat, tob = z := ⟨tob.toNat, by omega⟩
    have hk18 : k < 18 := by omega
    have t1 : decide ((k : Int) < 0) = false := by simp
    have t2 : decide (18 ≤ (k : Int)) = false := by simpa using hb
    have hkT : k < T.size := by omega
    obtain ⟨y, hy⟩ : ∃ y : Nat, (T[k]'hkT).toNat = y := ⟨_, rfl⟩
    by_cases hyz : y = z
    · have t3 : ((y : Int) == (z : Int)) = true := by rw [beq_iff_eq]; omega
      have HYZ := Lib.hid hyz; have HA := Lib.hid ha; have HB := Lib.hid hb
      clear hyz ha hb
      go_wp2
      go_ret
      exact ⟨rfl, HOB.out.below⟩
    have t3 : ((y : Int) == (z : Int)) = false := by rw [beq_eq_false_iff_ne]; omega
    obtain ⟨k1, hk1⟩ : ∃ k1, k1 = k + 1 := ⟨_, rfl⟩
    have hadd1 : ∀ (Z : UInt8) (w : World), (Op.stringOp .add (T.extract 0 k) ⟨#[Z]⟩).run Tryd.prog w = .ok (.string (T.extract 0 k ++ ⟨#[Z]⟩)) w := fun Z w => run_string_add_sum _ _ _ (by
      rw [ByteArray.size_extract, hsz]; show min k 18 - 0 + 1 ≤ _; omega)
    have hadd2 : ∀ (Z : UInt8) (w : World), (Op.stringOp .add (T.extract 0 k ++ ⟨#[Z]⟩) (T.extract k1 18)).run Tryd.prog w = .ok (.string ((T.extract 0 k ++ ⟨#[Z]⟩) ++ T.extract k1 18)) w := fun Z w => run_string_add_sum _ _ _ (by
      rw [ByteArray.size_append, ByteArray.size_extract, ByteArray.size_extract, hsz]; show min k 18 - 0 + 1 + (min 18 18 - k1) ≤ _; omega)
    have hwk : IntKind.i64.wrap ((k : Int) + 1) = k1 := by rw [IntKind.wrap_i64]; omega
    have g1 : (0 : Int) ≤ (k1 : Int) := by omega
    have g2 : (k1 : Int) ≤ 18 := by omega
    have g3 : (0 : Int) ≤ (k : Int) := by omega
    have g4 : (k : Int) ≤ 18 := by omega
    have g5 : (k : Int) < 18 := by omega
    obtain ⟨Z, hZ⟩ : ∃ Z : UInt8, Z = UInt8.ofNat z := ⟨_, rfl⟩
    have hZz : (z : Int) = (Z.toNat : Int) := by rw [hZ, UInt8.toNat_ofNat']; omega
    have hUn : unpackErr ((T.extract 0 k ++ ⟨#[Z]⟩) ++ T.extract k1 18).data.toList = 2 := by
      have hl18 : (packB who word l).length = 18 := by rw [← HLIST.out, Array.length_toList]; exact hsz
      have h1 := wb_ext T (packB who word l) HLIST.out k Z (by omega)
      rw [hl18, ← hk1] at h1
      rw [h1]
      refine unpack_set HE.out k Z hk18 ?_
      intro e
      apply hyz
      rw [← hy, ← Int.natCast_inj, hZz, ← e, ← HLIST.out, List.getD_eq_getElem?_getD, Array.getElem?_toList]
      have : T.data[k]? = some (T[k]'hkT) := Array.getElem?_eq_getElem hkT
      rw [this]; rfl
    obtain ⟨S1, hS1⟩ : ∃ S1, S1 = T.extract 0 k ++ ⟨#[Z]⟩ := ⟨_, rfl⟩
    obtain ⟨S2, hS2⟩ : ∃ S2, S2 = S1 ++ T.extract k1 18 := ⟨_, rfl⟩
    have ha1 := hadd1 Z
    have ha2 := hadd2 Z
    rw [← hS1] at ha1 ha2 hUn
    rw [← hS2] at ha2 hUn
    clear hadd1 hadd2
    have HYZ := Lib.hid hyz; have HA := Lib.hid ha; have HB := Lib.hid hb; have HK1 := Lib.hid hk1; have HZ := Lib.hid hZ; have HZZ := Lib.hid hZz; have HTO := Lib.hid hto; have HAT := Lib.hid hat; have HUN := Lib.hid hUn; have HS1 := Lib.hid hS1; have HS2 := Lib.hid hS2
    clear hyz ha hb hk1 hZ hZz hto hat hUn hS1 hS2
    go_upto_region 17 with fail
    refine wp_region_planH 16 [] [(true, 0), (true, 1), (true, 2), (true, 3), (true, 7), (true, 8), (true, 9), (true, 10), (false, 4), (false, 5), (true, 6), (true, 11), (false, 12), (true, 13), (true, 14), (true, 15)] [16] (fun wS => True) (by kernel_rfl) (by kernel_rfl) (trivial) ?_
    simp only [pickH, pick, List.getElem?_cons_succ, List.getElem?_cons_zero, Option.toList, Option.map_some, List.cons_append, List.nil_append]
    repeat (refine wpPure_step ?_ rfl ?_ ?_; rotate_left; (focus (intro _; first | with_reducible rfl | (go_simp; done) | (go_simp; with_reducible rfl) | rfl)); go_simp)
    refine wpPure_nil ?_
    repeat (refine wpMix_read ?_ rfl ?_ ?_; rotate_left; (focus (intro _ hS; obtain _ := hS; first | with_reducible rfl | (go_simp; done) | (go_simp; with_reducible rfl) | rfl)); go_simp)
    refine wpMix_write (fun K hK => ?_)
    go_simp
    obtain ⟨bC, hb_bC⟩ : ∃ zz_, zz_ = (wA).heap.size := ⟨_, rfl⟩
    obtain ⟨wC, hw_wC⟩ : ∃ zz_, zz_ = (wA).alloc (.cells #[.int .u8 z] 5 (0, 0)) := ⟨_, rfl⟩
    have h_HOC := (HOB.out).alloc (.cells #[.int .u8 z] 5 (0, 0))
    rw [← hb_bC, ← hw_wC] at h_HOC
    have HOC := Lib.hid h_HOC
    clear h_HOC
    rw [← hb_bC, ← hw_wC]
    clear hb_bC hw_wC
    have hrdC : ByRd wC.drew (.slice (some ⟨bC, 0, none⟩) 1 1) [Z] := ⟨_, 1, rfl, by simp, by unfold maxLen; omega, by simp, fun i u hi => ⟨_, rfl, by
      have h1 : i = 0 := by have := (List.getElem?_eq_some_iff.1 hi).1; simp at this; omega
      subst h1
      simp at hi
      rw [← hi, ← u8_of HZZ.out]
      exact (HOC.out.cell 0).trans rfl⟩⟩
    have hcv := conv_back hrdC (by simp) 32 9 5 (by kernel_rfl) (by kernel_rfl) (by kernel_rfl)
    clear hrdC
    refine hK _ _ ⟨trivial, ?_⟩
    clear hK K
    go_simp
    refine wpMix_write (fun K hK => ?_)
    go_simp
    refine hK _ _ ⟨trivial, ?_⟩
    clear hK K
    go_simp
    repeat (refine wpMix_read ?_ rfl ?_ ?_; rotate_left; (focus (intro _ hS; obtain _ := hS; first | with_reducible rfl | (go_simp; done) | (go_simp; with_reducible rfl) | rfl)); go_simp)
    refine wpMix_write (fun K hK => ?_)
    go_simp
    refine (wunpack_any S2 (HOC.out.drew)).mono ?_
    rintro e wD ⟨vD, rfl, hoD⟩
    rw [HUN.out]
    obtain ⟨pD, hpD⟩ : ∃ l, l = unpackWho S2.data.toList := ⟨_, rfl⟩
    obtain ⟨qD, hqD⟩ : ∃ l, l = unpackWord S2.data.toList := ⟨_, rfl⟩
    rw [← hpD, ← hqD]
    have HOD := Lib.hid hoD
    clear hoD hcv
    have HPD := Lib.hid hpD; have HQD := Lib.hid hqD
    clear hpD hqD
    refine hK _ _ ⟨trivial, ?_⟩
    clear hK K
    go_simp
    repeat (refine wpMix_read ?_ rfl ?_ ?_; rotate_left; (focus (intro _ hS; obtain _ := hS; first | with_reducible rfl | (go_simp; done) | (go_simp; with_reducible rfl) | rfl)); go_simp)
    refine wpMix_nil ?_
    go_wp2_with fail
    refine NoPanic.normal ?_
    go_wp2_with fail
    refine (sameErr_any HG.out 2 2 HOD.out).mono ?_
    rintro e wE ⟨rfl, hoE⟩
    have HOE := Lib.hid hoE
    clear hoE
    go_wp2
    go_ret
    exact ⟨rfl, HOE.out.below⟩
end Go.Proofs.YtbfiahdddbcebaaDoor
