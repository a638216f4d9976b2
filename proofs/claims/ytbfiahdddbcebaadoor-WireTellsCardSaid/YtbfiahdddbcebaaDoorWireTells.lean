/- WireTells: any word as bytes, any bytes as one, any pieces as bytes. -/
import Derived.Test.YtbfiahdddbcebaaDoorWireRef2
import Derived.Test.YtbfiahdddbcebaaDoorWireRow
import Derived.Test.YtbfiahdddbcebaaDoorTold
namespace Go.Proofs.YtbfiahdddbcebaaDoor
set_option linter.unusedVariables false
set_option linter.unusedSimpArgs false
open Go.RowKit
def wtA (X : Bool) (w1 : World) (c : Value) (wx : World) : Prop := c = .bool X ∧ wx = w1
def wtB (w : World) (R : HProp) (E : Nat) (e : Value) (wx : World) : Prop := e = .int .i64 (E : Nat) ∧ Own w R wx
def wtC (w : World) (R : HProp) (P : ByteArray) (e : Value) (wx : World) : Prop := e = .string P ∧ Own w R wx
def wtE (E : Nat) (w1 : World) (e : Value) (wx : World) : Prop := e = .int .i64 (E : Nat) ∧ wx = w1
/-- How far the row is: all right up to here, or at a fault. -/
def wtRow (l : List Pc) (k : Nat) (e row : Value) : Prop := (l.length ≤ 60 ∧ rowOk (l.take k) = true ∧ e = .int .i64 0 ∧ row = .string (rowTo (l.take k))) ∨ (rowErr l ≠ 0 ∧ e = .int .i64 (rowErr l : Nat) ∧ row = .string ⟨#[]⟩)
theorem str_same (a : ByteArray) : (a.toList == a.toList) = true := by simp
set_option maxRecDepth 100000 in
set_option maxHeartbeats 4000000 in
theorem wireTells_law (w : World) (hg : As.Handle w) (v : Value) (x : Int × Int × Value × List Int) (hx : v = .agg #[.int .i64 x.1, .int .i64 x.2.1, x.2.2.1] ∧ I64 x.1 ∧ I64 x.2.1 ∧ Ints w x.2.2.1 x.2.2.2) (t : ByteArray) (_ht : t.size ≤ maxLen) (vl : Value) (L : List Pc) (hL : Pcs w vl L) :
    Calls Tryd.prog 6 #[v, .string t, vl] w fun e w' => e = .returned (.bool true) ∧ Below w.heap.size w w' := by
  obtain ⟨who, word, sv, l⟩ := x
  obtain ⟨rfl, _, _, hl⟩ := hx
  simp only at hl ⊢
  obtain ⟨ad, cap, rfl, hlc, hcap⟩ := hl.shape
  obtain ⟨n, hn⟩ : ∃ n, n = l.length := ⟨_, rfl⟩
  rw [← hn] at hl hlc ⊢
  obtain ⟨pd, pcap, rfl, hpc1, hpc2⟩ := hL.shape
  obtain ⟨m, hm⟩ : ∃ m, m = L.length := ⟨_, rfl⟩
  rw [← hm] at hL hpc1 ⊢
  have HLL : Hid (∀ R, ReadsP w R (.slice pd m pcap) L) := Lib.hid (fun R => hL.reads)
  have HL : Hid (∀ R, Reads w R (.slice ad n cap) l) := Lib.hid (fun R => hl.reads)
  obtain ⟨b0, hb_b0⟩ : ∃ zz_, zz_ = (w).heap.size := ⟨_, rfl⟩
  obtain ⟨w1, hw_w1⟩ : ∃ zz_, zz_ = (w).alloc (.cells #[.int .i64 who, .int .i64 word, .slice ad n cap] 24 (0, 0)) := ⟨_, rfl⟩
  have h_HO1 := ((Own.start w)).alloc (.cells #[.int .i64 who, .int .i64 word, .slice ad n cap] 24 (0, 0))
  rw [← hb_b0, ← hw_w1] at h_HO1
  have HO1 := Lib.hid h_HO1
  clear h_HO1
  have HS1 : Hid (Own w (SdB b0 who word (.slice ad n cap) * emp) w1) := HO1
  have hli := (HL.out emp _ (Own.start w)).2
  clear HO1 hl hL
  have HG := Lib.hid hg; have HN := Lib.hid hn; have HM := Lib.hid hm; have HLI := Lib.hid hli
  clear hg hn hm hli
  obtain ⟨z0, z1, z2, _⟩ := HS1.out.sdB
  obtain ⟨X, hX⟩ : ∃ X : Bool, X = (!isMember who || !isWord word) := ⟨_, rfl⟩
  obtain ⟨E, hE⟩ : ∃ E, E = saidErr who word l := ⟨_, rfl⟩
  have hEX : E = if X = true then 1 else vecErr l := by
    rw [hE, hX]; unfold saidErr
    cases isMember who <;> cases isWord word <;> simp
  obtain ⟨P, hP⟩ : ∃ P, P = packS who word l := ⟨_, rfl⟩
  have HE := Lib.hid hE; have HP := Lib.hid hP
  clear hE hP
  go_enter Tryd.func6, Tryd.ntmps6
  go_upto_region 2 with fail
  rw [← hb_b0, ← hw_w1]
  clear hb_b0 hw_w1
  go_cut [38] (fun c wx => wtA X w1 c wx)
  case first =>
    by_cases h1 : who < 0
    · have hx : X = true := by rw [hX]; simp [isMember]; omega
      have t1 : decide (who < 0) = true := by simpa using h1
      have HX := Lib.hid hX; have HEX := Lib.hid hEX; have H1 := Lib.hid h1
      clear hX hEX h1
      go_wp2_with fail
      go_meet
      exact ⟨by rw [hx], rfl⟩
    have t1 : decide (who < 0) = false := by simpa using h1
    by_cases h2 : 4 < who
    · have hx : X = true := by rw [hX]; simp [isMember]; omega
      have t2 : decide (4 < who) = true := by simpa using h2
      have HX := Lib.hid hX; have HEX := Lib.hid hEX; have H1 := Lib.hid h1; have H2 := Lib.hid h2
      clear hX hEX h1 h2
      go_wp2_with fail
      go_meet
      exact ⟨by rw [hx], rfl⟩
    have t2 : decide (4 < who) = false := by simpa using h2
    by_cases h3 : word < 1
    · have hx : X = true := by rw [hX]; simp [isMember, isWord]; omega
      have t3 : decide (word < 1) = true := by simpa using h3
      have HX := Lib.hid hX; have HEX := Lib.hid hEX; have H1 := Lib.hid h1; have H2 := Lib.hid h2; have H3 := Lib.hid h3
      clear hX hEX h1 h2 h3
      go_wp2_with fail
      go_meet
      exact ⟨by rw [hx], rfl⟩
    have t3 : decide (word < 1) = false := by simpa using h3
    by_cases h4 : 30 < word
    · have hx : X = true := by rw [hX]; simp [isMember, isWord]; omega
      have t4 : decide (30 < word) = true := by simpa using h4
      have HX := Lib.hid hX; have HEX := Lib.hid hEX; have H1 := Lib.hid h1; have H2 := Lib.hid h2; have H3 := Lib.hid h3; have H4 := Lib.hid h4
      clear hX hEX h1 h2 h3 h4
      go_wp2_with fail
      go_meet
      exact ⟨by rw [hx], rfl⟩
    have t4 : decide (30 < word) = false := by simpa using h4
    have hx : X = false := by rw [hX]; simp [isMember, isWord]; omega
    have HX := Lib.hid hX; have HEX := Lib.hid hEX; have H1 := Lib.hid h1; have H2 := Lib.hid h2; have H3 := Lib.hid h3; have H4 := Lib.hid h4
    clear hX hEX h1 h2 h3 h4
    go_wp2_with fail
    go_meet
    exact ⟨by rw [hx], rfl⟩
  case rest =>
  obtain ⟨rfl, rfl⟩ := hcut
  have HX := Lib.hid hX
  clear hX
  go_upto_if 38 with fail
  go_cut [7] (fun e wx => wtB w (SdB b0 who word (.slice ad n cap) * emp) E e wx)
  case first =>
    cases X
    · rw [if_neg (by simp)] at hEX
      have HEX := Lib.hid hEX
      clear hEX
      go_wp2_with fail
      refine (refVector_any _ l _ (HL.out _ _ HS1.out)).mono ?_
      rintro e w2 ⟨rfl, rfl⟩
      rw [← HEX.out]
      go_wp2_with fail
      go_meet
      exact ⟨rfl, HS1.out⟩
    · rw [if_pos rfl] at hEX
      subst hEX
      go_wp2_with fail
      go_meet
      exact ⟨rfl, HS1.out⟩
  case rest =>
  obtain ⟨rfl, ho⟩ := hcut
  have HS2 := Lib.hid ho
  clear ho z0 z1 z2 HS1
  have HEX := Lib.hid hEX
  clear hEX
  obtain ⟨z0, z1, z2, _⟩ := HS2.out.sdB
  obtain ⟨Y, hY⟩ : ∃ Y : Bool, ((E : Int) == 0) = Y := ⟨_, rfl⟩
  go_upto_if 43 with fail
  go_cut [8] (fun e wx => wtC w (SdB b0 who word (.slice ad n cap) * emp) P e wx)
  case first =>
    by_cases h0 : E = 0
    · have hy : Y = true := by rw [← hY, beq_iff_eq]; omega
      have hs0 : saidErr who word l = 0 := by rw [← HE.out]; exact h0
      subst hy
      have HS0 := Lib.hid hs0; have HY := Lib.hid hY; have H0 := Lib.hid h0
      clear hs0 hY h0
      go_wp2_with fail
      refine (refBytes_any who word _ l HS0.out HS2.out (HL.out _)).mono ?_
      rintro e w3 ⟨rfl, ho⟩
      rw [← HP.out]
      have HS3 := Lib.hid ho
      clear ho
      go_wp2_with fail
      go_meet
      exact ⟨rfl, HS3.out⟩
    · have hy : Y = false := by rw [← hY, beq_eq_false_iff_ne]; omega
      have hp2 : P = ⟨#[]⟩ := by rw [HP.out]; unfold packS; rw [if_neg (by rw [← HE.out]; exact h0)]
      subst hy
      have HP2 := Lib.hid hp2; have HY := Lib.hid hY; have H0 := Lib.hid h0
      clear hp2 hY h0
      go_wp2_with fail
      go_meet
      exact ⟨by rw [HP2.out], HS2.out⟩
  case rest =>
  obtain ⟨rfl, ho⟩ := hcut
  have HS3 := Lib.hid ho
  clear ho z0 z1 z2 HS2 hY
  obtain ⟨z0, z1, z2, _⟩ := HS3.out.sdB
  go_wp2_with fail
  refine (wpack_any who word _ l HS3.out (HL.out _)).mono ?_
  rintro e w4 ⟨rfl, ho⟩
  rw [← HP.out, ← HE.out]
  have HS4 := Lib.hid ho
  clear ho z0 z1 z2 HS3
  go_wp2_with fail
  refine (sameErr_any HG.out E E HS4.out).mono ?_
  rintro e w5 ⟨rfl, ho⟩
  rw [beq_self_eq_true]
  have HS5 := Lib.hid ho.drop
  clear ho HS4
  have tP := str_same P
  go_wp2_with fail
  clear tP
  refine (readBytes_any t HS5.out).mono ?_
  rintro e w6 ⟨v6, rfl, ho⟩
  obtain ⟨B, hB⟩ : ∃ B, B = t.data.toList := ⟨_, rfl⟩
  rw [← hB] at ho
  rw [← hB]
  obtain ⟨F, hF⟩ : ∃ F, F = unpackErr B := ⟨_, rfl⟩
  obtain ⟨who2, hw2⟩ : ∃ E, E = unpackWho B := ⟨_, rfl⟩
  obtain ⟨word2, hd2⟩ : ∃ E, E = unpackWord B := ⟨_, rfl⟩
  obtain ⟨l2, hl2⟩ : ∃ E, E = unpackClock B := ⟨_, rfl⟩
  rw [← hF, ← hw2, ← hd2]
  rw [← hl2] at ho
  obtain ⟨a6, c6, hs6⟩ := ho.int_shape
  obtain ⟨n6, hn6⟩ : ∃ n, n = l2.length := ⟨_, rfl⟩
  rw [← hn6] at hs6
  subst hs6
  have hI2 : ∀ x ∈ l2, I64 x := by
    rw [hl2]; unfold unpackClock
    split
    · exact clkN_I64 B 5
    · intro x hx; cases hx
  have hF02 : F = 0 ∨ F = 2 := by
    rw [hF]; unfold unpackErr
    repeat (first | (split; right; rfl) | (left; rfl) | split)
  have HB := Lib.hid hB; have HF := Lib.hid hF; have HW2 := Lib.hid hw2; have HD2 := Lib.hid hd2; have HL2 := Lib.hid hl2; have HN6 := Lib.hid hn6; have HI2 := Lib.hid hI2
  clear hB hF hw2 hd2 hl2 hn6 hI2
  obtain ⟨b6, hb_b6⟩ : ∃ zz_, zz_ = (w6).heap.size := ⟨_, rfl⟩
  obtain ⟨w7, hw_w7⟩ : ∃ zz_, zz_ = (w6).alloc (.cells #[.int .i64 who2, .int .i64 word2, .slice a6 n6 c6] 24 (0, 0)) := ⟨_, rfl⟩
  have h_HO7 := (ho).alloc (.cells #[.int .i64 who2, .int .i64 word2, .slice a6 n6 c6] 24 (0, 0))
  rw [← hb_b6, ← hw_w7] at h_HO7
  have HO7 := Lib.hid h_HO7
  clear h_HO7
  have HS7 : Hid (Own w (IntSl (.slice a6 n6 c6) l2 * (SdB b6 who2 word2 (.slice a6 n6 c6) * emp)) w7) := Lib.hid HO7.out.second
  clear ho HO7
  go_upto_region 11 with fail
  rw [← hb_b6, ← hw_w7]
  clear hb_b6 hw_w7
  go_upto_if 65 with fail
  go_cut [7] (fun e wx => wtE F w7 e wx)
  case first =>
    rcases hF02 with h0 | h2
    · have tf : decide (F = 0) = true := decide_eq_true h0
      subst h0
      go_wp2_with fail
      go_meet
      exact ⟨rfl, rfl⟩
    · have tf : decide (F = 0) = false := decide_eq_false (by omega)
      subst h2
      go_wp2_with fail
      go_meet
      exact ⟨rfl, rfl⟩
  case rest =>
  obtain ⟨rfl, rfl⟩ := hcut
  have HF02 := Lib.hid hF02
  clear hF02
  go_wp2_with fail
  refine (wunpack_any t HS7.out).mono ?_
  rintro e w8 ⟨v8, rfl, ho⟩
  rw [← HB.out, ← HF.out, ← HW2.out, ← HD2.out]
  rw [← HB.out, ← HL2.out] at ho
  obtain ⟨a8, c8, hs8⟩ := ho.int_shape
  rw [← HN6.out] at hs8
  subst hs8
  obtain ⟨b8, hb_b8⟩ : ∃ zz_, zz_ = (w8).heap.size := ⟨_, rfl⟩
  obtain ⟨w9, hw_w9⟩ : ∃ zz_, zz_ = (w8).alloc (.cells #[.int .i64 who2, .int .i64 word2, .slice a8 n6 c8] 24 (0, 0)) := ⟨_, rfl⟩
  have h_HO9 := (ho).alloc (.cells #[.int .i64 who2, .int .i64 word2, .slice a8 n6 c8] 24 (0, 0))
  rw [← hb_b8, ← hw_w9] at h_HO9
  have HO9 := Lib.hid h_HO9
  clear h_HO9
  have HS9 : Hid (Own w (IntSl (.slice a8 n6 c8) l2 * (SdB b8 who2 word2 (.slice a8 n6 c8) * (IntSl (.slice a6 n6 c6) l2 * (SdB b6 who2 word2 (.slice a6 n6 c6) * emp)))) w9) := Lib.hid HO9.out.second
  clear ho HO9 HS7
  go_upto_region 15 with fail
  rw [← hb_b8, ← hw_w9]
  clear hb_b8 hw_w9
  go_wp2_with fail
  refine (sameErr_any HG.out F F HS9.out).mono ?_
  rintro e wA ⟨rfl, ho⟩
  rw [beq_self_eq_true]
  have HSA := Lib.hid ho
  clear ho HS9
  obtain ⟨z0, z1, z2, _⟩ := HSA.out.second.sdB
  obtain ⟨y0, y1, y2, _⟩ := HSA.out.drop.drop.second.sdB
  go_wp2_with fail
  refine (sameSaid_eq who2 word2 _ _ l2 HSA.out (Reads.more (Reads.more (IntSl_reads HI2.out))) (IntSl_reads HI2.out)).mono ?_
  rintro e wB ⟨rfl, ho⟩
  have HSB := Lib.hid ho.drop.drop.drop.drop
  clear HE HP HEX HB HF HW2 HD2 HL2 HN6 HI2 HF02 HX HLI HL HN
  clear ho HSA z0 z1 z2 y0 y1 y2
  go_upto_region 17 with fail
  obtain ⟨G, hG⟩ : ∃ G : Nat, G = if 60 < m then 4 else 0 := ⟨_, rfl⟩
  have hGR : 60 < m → rowErr L = 4 := fun h => by unfold rowErr; rw [← HM.out, if_pos h]
  have hGS : ¬ 60 < m → rowErr L = if rowOk L = false then 1 else 0 := fun h => by unfold rowErr; rw [← HM.out, if_neg h]
  have HGR := Lib.hid hGR; have HGS := Lib.hid hGS
  clear hGR hGS
  go_upto_if 81 with fail
  go_cut [7] (fun e wx => wtE G wB e wx)
  case first =>
    by_cases h6 : 60 < m
    · have t1 : decide (60 < (m : Int)) = true := decide_eq_true (by omega)
      have t1n : decide (60 < m) = true := decide_eq_true h6
      have hg4 : G = 4 := by rw [hG, if_pos h6]
      have HG := Lib.hid hG; have HG4 := Lib.hid hg4
      clear hG hg4
      go_wp2_with fail
      go_meet
      exact ⟨by rw [HG4.out]; rfl, rfl⟩
    · have t1 : decide (60 < (m : Int)) = false := decide_eq_false (by omega)
      have t1n : decide (60 < m) = false := decide_eq_false h6
      have hg4 : G = 0 := by rw [hG, if_neg h6]
      have HG := Lib.hid hG; have HG4 := Lib.hid hg4
      clear hG hg4
      go_wp2_with fail
      go_meet
      exact ⟨by rw [HG4.out]; rfl, rfl⟩
  case rest =>
  obtain ⟨rfl, rfl⟩ := hcut
  have hst : wtRow L 0 (.int .i64 (G : Nat)) (.string ⟨#[]⟩) := by
    by_cases h6 : 60 < m
    · refine .inr ⟨by rw [HGR.out h6]; decide, by rw [HGR.out h6, hG, if_pos h6], rfl⟩
    · exact .inl ⟨by rw [← HM.out]; omega, rfl, by rw [hG, if_neg h6]; rfl, rfl⟩
  have HST := Lib.hid hst
  clear hst
  clear hG
  go_upto_block 0 with fail
  go_wp2_with fail
  go_loopw [17, 7, 16] (fun iv ev rv wr => ∃ k : Nat, k ≤ m ∧ iv = .int .i64 k ∧ Hid (wtRow L k ev rv) ∧ Hid (Own w emp wr)) (fun iv _ _ _ => m - (intOf iv).toNat)
  case atStart => exact ⟨0, Nat.zero_le _, rfl, HST, HSB⟩
  case round =>
    clear HSB HST
    obtain ⟨k, hk, rfl, HR, HO⟩ := hrel
    by_cases hrun : k < m ∧ L.length ≤ 60 ∧ rowOk (L.take k) = true ∧ u7 = .int .i64 0 ∧ u16 = .string (rowTo (L.take k))
    rotate_left
    · obtain ⟨Z, hZ⟩ : ∃ Z, Z = rowErr L := ⟨_, rfl⟩
      obtain ⟨S, hS⟩ : ∃ S, S = rowS L := ⟨_, rfl⟩
      have hend : u7 = .int .i64 (Z : Nat) ∧ u16 = .string S ∧ (k < m → Z ≠ 0) := by
        rcases HR.out with ⟨h1, h2, h3, h4⟩ | ⟨h1, h2, h3⟩
        · have hkm : k = m := by
            apply Classical.byContradiction
            intro hne
            exact hrun ⟨by omega, h1, h2, h3, h4⟩
          have hLt : L.take k = L := List.take_of_length_le (by rw [← HM.out]; omega)
          rw [hLt] at h2 h4
          have hz0 : rowErr L = 0 := by unfold rowErr; rw [if_neg (by omega), if_neg (by rw [h2]; simp)]
          refine ⟨by rw [hZ, hz0]; exact h3, ?_, fun h => by omega⟩
          rw [h4, hS]; unfold rowS; rw [if_pos hz0]
        · refine ⟨by rw [hZ]; exact h2, ?_, fun _ => by rw [hZ]; exact h1⟩
          rw [h3, hS]; unfold rowS; rw [if_neg h1]
      obtain ⟨rfl, rfl, hz⟩ := hend
      clear hrun HR
      have tS := str_same S
      by_cases hkm : k < m
      case' pos =>
        have tZ : ((Z : Int) == 0) = false := by have := hz hkm; rw [beq_eq_false_iff_ne]; omega
        have HZ := Lib.hid hz; have HZ := Lib.hid hZ; have HS := Lib.hid hS
        clear hz hZ hS
        go_wp2_with fail
      case' neg =>
        have HZ := Lib.hid hz; have HZ := Lib.hid hZ; have HS := Lib.hid hS
        clear hz hZ hS
        go_wp2_with fail
      all_goals
        refine (wrow_any _ L HO.out (HLL.out _)).mono ?_
        rintro e wD ⟨rfl, ho⟩
        rw [← HZ.out, ← HS.out]
        have HSD := Lib.hid ho
        clear ho
        go_wp2_with fail
        refine (sameErr_any HG.out Z Z HSD.out).mono ?_
        rintro e wE ⟨rfl, ho⟩
        rw [beq_self_eq_true]
        have HSE := Lib.hid ho
        clear ho
        go_wp2_with fail
        go_ret
        exact ⟨rfl, HSE.out.below⟩
    obtain ⟨hlt, h60, hok, rfl, rfl⟩ := hrun
    clear HR
    have hkl : k < L.length := by rw [← HM.out]; exact hlt
    obtain ⟨aa, eb, eo, es, rfl, hea, hcs, hgd⟩ := (HLL.out emp).at HO.out k hkl
    have hb := rowOk_bad (l := L) (k := k) hkl
    have hn1 := rowOk_next hkl
    have hn2 := rowTo_next hkl
    have hsz := rowTo_size (L.take k) hok
    have hlen : (L.take k).length ≤ 60 := by rw [List.length_take]; omega
    rw [← pcAt_get hkl] at hb hn1 hn2
    obtain ⟨x, hx⟩ : ∃ x, x = pcAt L k := ⟨_, rfl⟩
    rw [← hx] at hcs hb hn1 hn2
    obtain ⟨c0, c1, c2⟩ := hcs _ HO.out
    obtain ⟨T, hT⟩ : ∃ T, T = rowTo (L.take k) := ⟨_, rfl⟩
    rw [← hT] at hn2 hsz
    rw [← hT]
    have hTs : T.size ≤ 900 := by omega
    obtain ⟨D, hD⟩ : ∃ D, D = pcRight x := ⟨_, rfl⟩
    rw [hok, ← hD] at hn1
    rw [← hD] at hb
    have t0 : ((0 : Int) == 0) = true := by decide
    have HCS := Lib.hid hcs; have HX := Lib.hid hx; have HGD := Lib.hid hgd; have HB := Lib.hid hb; have HN1 := Lib.hid hn1; have HN2 := Lib.hid hn2; have HSZ := Lib.hid hsz; have HLEN := Lib.hid hlen; have HT := Lib.hid hT; have HTS := Lib.hid hTs; have HD := Lib.hid hD; have H60 := Lib.hid h60; have HOK := Lib.hid hok
    clear hcs hx hgd hb hn1 hn2 hsz hlen hT hTs hD h60 hok
    go_wp2_with fail
    refine (refPiece_any x HO.out).mono ?_
    rintro e w2 ⟨rfl, ho2⟩
    rw [← HD.out]
    have HO2 := Lib.hid ho2
    clear ho2 HO c0 c1 c2
    cases D
    · have hbad : rowErr L = 1 := by unfold rowErr; rw [if_neg (by have := H60.out; omega), if_pos (HB.out rfl)]
      have hrow : wtRow L (k + 1) (.int .i64 1) (.string ⟨#[]⟩) := .inr ⟨by rw [hbad]; decide, by rw [hbad]; rfl, rfl⟩
      have HROW := Lib.hid hrow; have HBAD := Lib.hid hbad
      clear hrow hbad
      go_wp2_with fail
      go_round
      case rel => exact ⟨k + 1, by omega, by go_num, HROW, HO2⟩
      case measure => simp [intOf]; omega
    obtain ⟨⟨o1, o2⟩, ⟨a1, a2⟩, s1⟩ := pcRight_bd HD.out.symm
    have hn1 := HN1.out
    have hn2 := HN2.out
    obtain ⟨c0, c1, c2⟩ := HCS.out _ HO2.out
    have hcs2 := HCS.out
    obtain ⟨a, o, s⟩ := x
    simp only at o1 o2 a1 a2 s1 c0 c1 c2 hcs2
    obtain ⟨a', rfl⟩ : ∃ q : Nat, a = q := ⟨a.toNat, by omega⟩
    obtain ⟨o', rfl⟩ : ∃ q : Nat, o = q := ⟨o.toNat, by omega⟩
    obtain ⟨S1, hS1⟩ : ∃ S, S = pcHd ⟨a', o', s⟩ := ⟨_, rfl⟩
    rw [← hS1] at hn2
    simp only at hn2
    have hs13 : S1.size = 3 := by rw [hS1]; rfl
    have hTs := HTS.out
    have hadd1 : ∀ (w : World), (Op.stringOp .add T S1).run Tryd.prog w = .ok (.string (T ++ S1)) w := fun w => run_string_add_sum _ _ _ (by omega)
    obtain ⟨S2, hS2⟩ : ∃ S, S = T ++ S1 := ⟨_, rfl⟩
    have hs22 : S2.size ≤ 903 := by rw [hS2, ByteArray.size_append]; omega
    have hadd2 : ∀ (w : World), (Op.stringOp .add S2 s).run Tryd.prog w = .ok (.string (S2 ++ s)) w := fun w => run_string_add_sum _ _ _ (by omega)
    have hn3 : rowTo (L.take (k + 1)) = S2 ++ s := by rw [hn2, hS2, ByteArray.append_assoc]
    rw [← hS2] at hadd1
    have hv : [u8V (byt a'), u8V (byt o'), u8V (byt s.size)] = [.int .u8 (a' : Int), .int .u8 (o' : Int), .int .u8 (s.size : Int)] := by
      rw [← u8_of (x := byt a') (n := (a' : Int)) (by rw [byt_toNat _ (by omega)]; omega), ← u8_of (x := byt o') (n := (o' : Int)) (by rw [byt_toNat _ (by omega)]; omega), ← u8_of (x := byt s.size) (n := (s.size : Int)) (by rw [byt_toNat _ (by omega)]; omega)]
    have k0 : (0 : Int) ≤ (k : Int) := by omega
    have km : (k : Int) < (m : Int) := by omega
    have hwa : IntKind.u8.wrap (a' : Int) = a' := by simp [IntKind.wrap, IntKind.bits, IntKind.signed]; omega
    have hwo : IntKind.u8.wrap (o' : Int) = o' := by simp [IntKind.wrap, IntKind.bits, IntKind.signed]; omega
    have hws : IntKind.u8.wrap (s.size : Int) = s.size := by simp [IntKind.wrap, IntKind.bits, IntKind.signed]; omega
    clear HN1 HN2
    have HN1 := Lib.hid hn1; have HN2 := Lib.hid hn2; have HN3 := Lib.hid hn3; have HS1 := Lib.hid hS1; have HS2 := Lib.hid hS2; have HS13 := Lib.hid hs13; have HS22 := Lib.hid hs22; have HTS := Lib.hid hTs; have HV := Lib.hid hv; have HCS2 := Lib.hid hcs2; have O1 := Lib.hid o1; have O2 := Lib.hid o2; have A1 := Lib.hid a1; have A2 := Lib.hid a2
    clear hn1 hn2 hn3 hS1 hS2 hs13 hs22 hTs hv hcs2 o1 o2 a1 a2
    go_upto_region 27 with fail
    refine wp_region_planH 20 [] [(true, 0), (true, 1), (true, 2), (true, 3), (true, 4), (true, 5), (true, 6), (true, 7), (true, 8), (true, 9), (true, 10), (true, 11), (true, 12), (true, 13), (true, 14), (true, 15), (true, 16), (true, 17), (true, 18), (false, 19)] [20] (fun wS => wS.cell? ⟨eb, eo, es⟩ = some (.int .i64 a') ∧ wS.cell? ⟨eb, eo + 1, none⟩ = some (.int .i64 o') ∧ wS.cell? ⟨eb, eo + 2, none⟩ = some (.string s)) (by kernel_rfl) (by kernel_rfl) (⟨c0, c1, c2⟩) ?_
    simp only [pickH, pick, List.getElem?_cons_succ, List.getElem?_cons_zero, Option.toList, Option.map_some, List.cons_append, List.nil_append]
    repeat (refine wpPure_step ?_ rfl ?_ ?_; rotate_left; (focus (intro _; first | with_reducible rfl | (go_simp; done) | (go_simp; with_reducible rfl) | rfl)); go_simp)
    refine wpPure_nil ?_
    repeat (refine wpMix_read ?_ rfl ?_ ?_; rotate_left; (focus (intro _ hS; obtain ⟨r0, r1, r2⟩ := hS; first | with_reducible rfl | (go_simp; done) | (go_simp; with_reducible rfl) | rfl)); go_simp)
    refine wpMix_write (fun K hK => ?_)
    go_simp
    obtain ⟨bC, hb_bC⟩ : ∃ zz_, zz_ = (w2).heap.size := ⟨_, rfl⟩
    obtain ⟨wC, hw_wC⟩ : ∃ zz_, zz_ = (w2).alloc (.cells #[.int .u8 (a' : Int), .int .u8 (o' : Int), .int .u8 (s.size : Int)] 5 (0, 0)) := ⟨_, rfl⟩
    have h_HOC := (HO2.out).alloc (.cells #[.int .u8 (a' : Int), .int .u8 (o' : Int), .int .u8 (s.size : Int)] 5 (0, 0))
    rw [← hb_bC, ← hw_wC] at h_HOC
    have HOC := Lib.hid h_HOC
    clear h_HOC
    rw [← hb_bC, ← hw_wC]
    clear hb_bC hw_wC
    obtain ⟨e0, e1, e2⟩ := HCS2.out wC.drew HOC.out.drop.drew
    have hrd : ByRd wC.drew.drew (.slice (some ⟨bC, 0, none⟩) 3 3) [byt a', byt o', byt s.size] := by
      unfold ByRd
      rw [show ([byt (a' : Int), byt (o' : Int), byt (s.size : Int)]).map u8V = _ from HV.out]
      exact Rd_one (fun i u hi => by
        show wC.cell? _ = _
        rw [HOC.out.cell]
        simpa using hi) (Nat.le_refl _) (by unfold maxLen; omega)
    have hcv := conv_back hrd (by simp) 32 9 5 (by kernel_rfl) (by kernel_rfl) (by kernel_rfl)
    rw [show (⟨([byt (a' : Int), byt (o' : Int), byt (s.size : Int)]).toArray⟩ : ByteArray) = S1 from HS1.out.symm] at hcv
    refine hK _ _ ⟨⟨e0, e1, e2⟩, ?_⟩
    clear hK K
    go_simp
    refine wpMix_nil ?_
    clear c0 c1 c2 hrd
    go_wp2_with fail
    refine NoPanic.normal ?_
    go_upto_region 28 with fail
    refine wp_region_planH 10 [] [(true, 0), (true, 1), (true, 2), (true, 3), (true, 4), (true, 5), (true, 6), (true, 7), (true, 8), (true, 9)] [10] (fun wS => wS.cell? ⟨eb, eo + 2, none⟩ = some (.string s) ∧ (convert 32 9 (.slice (some ⟨bC, 0, none⟩) 3 3)).run Tryd.prog wS = .ok (.string S1) wS) (by kernel_rfl) (by kernel_rfl) (⟨e2, hcv⟩) ?_
    simp only [pickH, pick, List.getElem?_cons_succ, List.getElem?_cons_zero, Option.toList, Option.map_some, List.cons_append, List.nil_append]
    repeat (refine wpPure_step ?_ rfl ?_ ?_; rotate_left; (focus (intro _; first | with_reducible rfl | (go_simp; done) | (go_simp; with_reducible rfl) | rfl)); go_simp)
    refine wpPure_nil ?_
    repeat (refine wpMix_read ?_ rfl ?_ ?_; rotate_left; (focus (intro _ hS; obtain ⟨r0, r1⟩ := hS; first | with_reducible rfl | (go_simp; done) | (go_simp; with_reducible rfl) | rfl)); go_simp)
    refine wpMix_nil ?_
    have HOF := Lib.hid HOC.out.drop.drew.drew
    have hrow : wtRow L (k + 1) (.int .i64 0) (.string (S2 ++ s)) := .inl ⟨H60.out, HN1.out, rfl, by rw [HN3.out]⟩
    have HROW := Lib.hid hrow
    clear hrow
    clear e0 e1 e2 hcv HOC
    go_wp2_with fail
    refine NoPanic.normal ?_
    go_wp2_with fail
    go_round
    case rel => exact ⟨k + 1, by omega, by go_num, HROW, HOF⟩
    case measure => simp [intOf]; omega
end Go.Proofs.YtbfiahdddbcebaaDoor
