/- PiecesBack: all pieces, in whatever order, are the text. -/
import Derived.Test.YtbfiahdddbcebaaDoorPiecesBackP
import Derived.Test.YtbfiahdddbcebaaDoorPiecesFew
import Derived.Test.YtbfiahdddbcebaaDoorTold
set_option linter.unusedVariables false
namespace Go.Proofs.YtbfiahdddbcebaaDoor
open Go.RowKit Go.Maps
theorem str_same' (a : ByteArray) : (a.toList == a.toList) = true := by simp
def bsOf (f : Nat → Bool) : List Bool := (List.range 60).map f
theorem bsOf_len (f : Nat → Bool) : (bsOf f).length = 60 := by simp [bsOf]
theorem bsOf_get (f : Nat → Bool) (k : Nat) (hk : k < 60) : (bsOf f)[k]? = some (f k) := by simp [bsOf, hk]
theorem bsOf_set (f : Nat → Bool) (k : Nat) : (bsOf f).set k true = bsOf (updB f k) := by
  apply List.ext_getElem?
  intro i
  rw [List.getElem?_set]
  unfold bsOf updB
  by_cases hi : i < 60
  · by_cases hk : k = i
    · subst hk; simp [hi]
    · rw [if_neg hk]; simp [hi]; exact fun e => absurd e.symm hk
  · by_cases hk : k = i
    · subst hk; simp [hi]
    · rw [if_neg hk]; simp [hi]
def Bl6 (b : Nat) (f : Nat → Bool) : HProp := blk b (.cells ((bsOf f).map Value.bool).toArray 43 (0, 0))
theorem Own.bl6_cell {w0 w : World} {b : Nat} {f : Nat → Bool} {R : HProp} (h : Own w0 (Bl6 b f * R) w) (i : Nat) (hi : i < 60) : w.cell? ⟨b, i, none⟩ = some (.bool (f i)) := by
  rw [Own.cell h i]
  simp [List.getElem?_map, bsOf_get f i hi]
theorem Own.bl6_free {w0 w : World} {b : Nat} {f : Nat → Bool} {R : HProp} (h : Own w0 (Bl6 b f * R) w) (i : Nat) : w.frozen? ⟨b, i, none⟩ = false := Own.free h i none
theorem Own.bl6_set {w0 w : World} {b : Nat} {f : Nat → Bool} {R : HProp} (k : Nat) (h : Own w0 (Bl6 b f * R) w) : Own w0 (Bl6 b (updB f k) * R) (w.setCell ⟨b, k, none⟩ (.bool true)) := by
  have h1 := Own.setCell (i := k) (v := .bool true) h
  have h2 : (((bsOf f).map Value.bool).toArray.setIfInBounds k (.bool true)) = ((bsOf (updB f k)).map Value.bool).toArray := by
    rw [← bsOf_set, List.map_set, List.setIfInBounds_toArray]
  rw [h2] at h1
  exact h1
def factS : ByteArray := ⟨#[97, 98, 99, 100, 101]⟩
theorem fact_split : (splitOf factS 2).flatMap pcCells = [.int .i64 0, .int .i64 3, .string ⟨#[97, 98]⟩, .int .i64 1, .int .i64 3, .string ⟨#[99, 100]⟩, .int .i64 2, .int .i64 3, .string ⟨#[101]⟩] := by kernel_rfl
theorem fact_len : (splitOf factS 2).length = 3 := by kernel_rfl
theorem fact_cells {w0 w : World} {v : Value} {R : HProp} (h : Own w0 (PcSl v (splitOf factS 2) * R) w) : ∃ b off cap, v = .slice (some ⟨b, off, none⟩) 3 cap ∧ w.cell? ⟨b, off + 8, none⟩ = some (.string ⟨#[101]⟩) ∧ w.cell? ⟨b, off + 3, none⟩ = some (.int .i64 1) ∧ w.cell? ⟨b, off + 1, none⟩ = some (.int .i64 3) := by
  unfold PcSl at h
  rw [fact_len, fact_split] at h
  obtain ⟨b, off, cap, h1, _, _, h4, _⟩ := Own.sl_at h (by simp)
  exact ⟨b, off, cap, h1, h4 8 _ rfl, h4 3 _ rfl, h4 1 _ rfl⟩
theorem split_at {w0 w : World} {v : Value} {t : ByteArray} {z : Nat} {R : HProp} (h : Own w0 (PcSl v (splitOf t z) * R) w) : ∃ b off cap, v = .slice (some ⟨b, off, none⟩) (splitN t.size z) cap ∧ splitN t.size z ≤ cap ∧ cap ≤ maxLen := by
  have hl : 0 < splitN t.size z := by unfold splitN; omega
  obtain ⟨b, off, cap, h1, h2, h3, _⟩ := Own.sl_at h (by rw [pc_len, splitOf_len]; omega)
  rw [splitOf_len] at h1 h2
  exact ⟨b, off, cap, h1, h2, h3⟩
theorem split_get {w0 w : World} {b off n cap : Nat} {t : ByteArray} {z : Nat} {R : HProp} (h : Own w0 (PcSl (.slice (some ⟨b, off, none⟩) n cap) (splitOf t z) * R) w) (k : Nat) (hk : k < splitN t.size z) :
    w.cell? ⟨b, off + k * 3, none⟩ = some (.int .i64 (splitAt t z k).at') ∧ w.cell? ⟨b, off + k * 3 + 1, none⟩ = some (.int .i64 (splitAt t z k).of) ∧ w.cell? ⟨b, off + k * 3 + 2, none⟩ = some (.string (splitAt t z k).text) := by
  obtain ⟨b', off', cap', h1, h2, h3, h4, _⟩ := Own.sl_at h (by rw [pc_len, splitOf_len]; have : 0 < splitN t.size z := (by unfold splitN; omega); omega)
  injection h1 with h1
  injection h1 with h1
  injection h1 with h1 h5
  subst h1 h5
  have hk' : k < (splitOf t z).length := by rw [splitOf_len]; exact hk
  have hg : (splitOf t z)[k] = splitAt t z k := by simp [splitOf]
  have g := fun j hj => pc_get (splitOf t z) k j hk' hj
  simp only [hg] at g
  exact ⟨h4 (k * 3) _ (g 0 (by omega)), by rw [Nat.add_assoc]; exact h4 (k * 3 + 1) _ (g 1 (by omega)), by rw [Nat.add_assoc]; exact h4 (k * 3 + 2) _ (g 2 (by omega))⟩
set_option maxRecDepth 100000 in
set_option maxHeartbeats 4000000 in
theorem piecesBack_law (w : World) (hg : As.Handle w) (t : ByteArray) (ht : t.size ≤ maxLen) (size : Int) (hi : I64 size) (v : Value) (order : List Int) (ho : Ints w v order) :
    Calls Tryd.prog 5 #[.string t, .int .i64 size, v] w fun e w' => e = .returned (.bool true) ∧ Below w.heap.size w w' := by
  obtain ⟨ad, cap, rfl, hlc, hcap⟩ := ho.shape
  have HVO := Lib.hid ho
  have htm : t.size ≤ 9223372036854775807 := Nat.le_trans ht (by unfold maxLen; omega)
  have hfs : (⟨#[97, 98, 99, 100, 101]⟩ : ByteArray) = factS := rfl
  clear ho
  have HG := Lib.hid hg; have HT := Lib.hid ht; have HI := Lib.hid hi; have HTM := Lib.hid htm; have HFS := Lib.hid hfs
  clear hg ht hi htm hfs
  go_enter Tryd.func5, Tryd.ntmps5
  go_wp2_with fail
  refine (split_ok (Own.start w) factS 2 (by decide) (by decide) (by decide)).mono ?_
  rintro e w1 ⟨fv, rfl, hof⟩
  obtain ⟨fb, foff, fcap, rfl, x1, x2, x3⟩ := fact_cells hof
  have HO1 : Hid (Own w emp w1) := Lib.hid hof.drop
  clear hof
  go_upto_region 4 with fail
  clear x1 x2 x3
  by_cases h60 : 60 < t.size
  · go_wp2_with fail
    refine (split_long t size _ HTM.out h60).mono ?_
    rintro e w2 ⟨rfl, rfl⟩
    rw [errV4']
    have H60 := Lib.hid h60
    clear h60
    go_wp2_with fail
    go_ret
    exact ⟨rfl, HO1.out.below⟩
  by_cases hz : size < 1 ∨ 12 < size
  · go_wp2_with fail
    refine (split_range t size _ (by omega) hz).mono ?_
    rintro e w2 ⟨rfl, rfl⟩
    rw [errV1']
    have H60 := Lib.hid h60; have HZ := Lib.hid hz
    clear h60 hz
    go_wp2_with fail
    go_ret
    exact ⟨rfl, HO1.out.below⟩
  have h60' : t.size ≤ 60 := by omega
  obtain ⟨z, rfl⟩ := Int.eq_ofNat_of_zero_le (show 0 ≤ size by omega)
  have hz1 : 1 ≤ z := by omega
  have hz12 : z ≤ 12 := by omega
  go_wp2_with fail
  refine (split_ok HO1.out t z h60' hz1 hz12).mono ?_
  rintro e w2 ⟨lv, rfl, hof⟩
  obtain ⟨lb, loff, lcap, rfl, hlc1, hlc2⟩ := split_at hof
  obtain ⟨n, hn⟩ : ∃ n, n = splitN t.size z := ⟨_, rfl⟩
  have hn1 : 1 ≤ n := by rw [hn]; unfold splitN; omega
  have hn60 : n ≤ 60 := by rw [hn]; exact splitN_le _ _ h60' hz1
  rw [← hn] at hof hlc1 ⊢
  have d1 : decide ((n : Int) < 1) = false := decide_eq_false (by omega)
  have d2 : decide ((60 : Int) < (n : Int)) = false := decide_eq_false (by omega)
  obtain ⟨L, hL⟩ : ∃ L, L = PcSl (.slice (some ⟨lb, loff, none⟩) n lcap) (splitOf t z) := ⟨_, rfl⟩
  rw [← hL] at hof
  have HO2 := Lib.hid hof
  clear hof HO1
  have hhz1 := hz1; have hhz12 := hz12; have hhn := hn; have hh60' := h60'; clear hz1 hz12 hn h60'
  have H60 := Lib.hid h60; have HZ := Lib.hid hz; have HH60' := Lib.hid hh60'; have HHZ1 := Lib.hid hhz1; have HHZ12 := Lib.hid hhz12; have HHN := Lib.hid hhn; have HN1 := Lib.hid hn1; have HL := Lib.hid hL
  clear h60 hz hh60' hhz1 hhz12 hhn hn1 hL
  go_wp2_with fail
  refine (joNew_any HO2.out).mono ?_
  rintro e w3 ⟨p, mb, rfl, ho⟩
  obtain ⟨b, hb_b⟩ : ∃ zz_, zz_ = (w3).heap.size := ⟨_, rfl⟩
  obtain ⟨w4, hw_w4⟩ : ∃ zz_, zz_ = (w3).alloc (.cells ((bsOf (fun _ => false)).map Value.bool).toArray 43 (0, 0)) := ⟨_, rfl⟩
  have h_HB := (ho).alloc (.cells ((bsOf (fun _ => false)).map Value.bool).toArray 43 (0, 0))
  rw [← hb_b, ← hw_w4] at h_HB
  have HB := Lib.hid h_HB
  clear h_HB
  have HB0 : Hid (Own w (Bl6 b (fun _ => false) * (JoP p mb 0 [] * (L * emp))) w4) := HB
  have HP0 := Lib.hid (pb_start t z n)
  clear ho HB HO2
  go_wp2_with fail
  rw [← hb_b]
  clear hb_b
  subst hw_w4
  go_loopw [14, 13] (fun iv cv wr => ∃ (i c : Nat) (f : Nat → Bool) (N : Nat) (m : List (Int × ByteArray)), i ≤ order.length ∧ c ≤ n ∧ iv = .int .i64 i ∧ cv = .int .i64 c ∧ Hid (PB t z n f c N m) ∧ Hid (Own w (Bl6 b f * (JoP p mb N m * (L * emp))) wr)) (fun iv _ _ => order.length - (intOf iv).toNat)
  case atStart => exact ⟨0, 0, _, 0, [], Nat.zero_le _, Nat.zero_le _, rfl, rfl, HP0, HB0⟩
  case round =>
    clear HP0 HB0
    obtain ⟨i, c, f, N, m, hio, hcn, rfl, rfl, HPB, HO⟩ := hrel
    have hN60 : N ≤ 60 := by rw [HPB.out.num]; have := hn60; split <;> omega
    by_cases hlt : i < order.length
    rotate_left
    · have HSM := Lib.hid HPB.out.small
      go_wp2_with fail
      refine (joText_any p mb N hN60 m HSM.out (HO.out.perm (star_left_comm _ _ _))).mono ?_
      rintro e w5 ⟨rfl, ho⟩
      have HO5 := Lib.hid ho
      clear ho
      by_cases hcn2 : c < n
      · rw [HPB.out.notFull hcn2, if_neg (by simp)]
        go_upto_region 25 with fail
        go_wp2_with fail
        refine (sameErr_any HG.out 5 5 HO5.out).mono ?_
        rintro e w6 ⟨rfl, ho⟩
        have HO6 := Lib.hid ho
        clear ho
        rw [show (((5 : Nat) : Int) == 5) = true from rfl]
        by_cases h0 : c = 0
        · subst h0
          have HCN2 := Lib.hid hcn2; have HLT := Lib.hid hlt
          clear hcn2 hlt
          go_wp2_with fail
          go_ret
          exact ⟨rfl, HO6.out.below⟩
        have t0 : ((c : Int) == 0) = false := by rw [beq_eq_false_iff_ne]; omega
        have hll := HPB.out.lacks h0
        obtain ⟨K, hK⟩ : ∃ K, K = joLacks N m := ⟨_, rfl⟩
        rw [← hK] at hll
        have HLL := Lib.hid hll; have HK := Lib.hid hK; have HLT := Lib.hid hlt; have H0 := Lib.hid h0
        clear hll hK hlt h0
        go_wp2_with fail
        refine (joLacks_any p mb N hN60 m HO6.out).mono ?_
        rintro e w7 ⟨kv, rfl, ho⟩
        rw [← HK.out] at ho
        obtain ⟨kad, kcap, rfl, _, _, _, _⟩ := ho.rd
        have HO7 := Lib.hid ho
        clear ho
        rw [HLL.out]
        obtain ⟨dd, hdd⟩ : ∃ d, d = n - c := ⟨_, rfl⟩
        rw [← hdd]
        have t5 : ((dd : Int) == (n : Int) - (c : Int)) = true := by rw [beq_iff_eq]; omega
        have HCN2 := Lib.hid hcn2; have HDD := Lib.hid hdd
        clear hcn2 hdd
        go_wp2_with fail
        go_ret
        exact ⟨rfl, HO7.out.below⟩
      have hce : c = n := by omega
      obtain ⟨f1, f2, f3⟩ := HPB.out.full hce HN1.out
      rw [f1, if_pos rfl, errV0, HPB.out.text hce HHZ1.out HHN.out]
      obtain ⟨K, hK⟩ : ∃ K, K = joLacks N m := ⟨_, rfl⟩
      rw [← hK] at f2
      have ss := str_same' t
      have F1 := Lib.hid f1; have F2 := Lib.hid f2; have F3 := Lib.hid f3; have HK := Lib.hid hK; have HLT := Lib.hid hlt
      clear f1 f2 f3 hK hlt
      go_wp2_with fail
      refine (joLacks_any p mb N hN60 m HO5.out).mono ?_
      rintro e w7 ⟨kv, rfl, ho⟩
      rw [← HK.out] at ho
      obtain ⟨kad, kcap, rfl, _, _, _, _⟩ := ho.rd
      have HO7 := Lib.hid ho
      clear ho
      rw [F2.out]
      have HCE := Lib.hid hce; have HCN2 := Lib.hid hcn2
      clear hce hcn2
      go_wp2_with fail
      go_ret
      exact ⟨rfl, HO7.out.below⟩
    obtain ⟨oa, rfl, hoc⟩ := HVO.out.at_later i hlt
    obtain ⟨x, hx⟩ : ∃ x, x = order[i] := ⟨_, rfl⟩
    rw [← hx] at hoc
    have c1 := hoc _ _ HO.out
    have HX := Lib.hid hx; have HOC := Lib.hid hoc
    clear hx hoc
    by_cases hx1 : x < 0
    · go_wp2_with fail
      go_roundw
      case rel => exact ⟨i + 1, c, f, N, m, by omega, hcn, by go_num, rfl, HPB, HO⟩
      case measure => simp [intOf]; omega
    by_cases hx2 : (n : Int) ≤ x
    · go_wp2_with fail
      go_roundw
      case rel => exact ⟨i + 1, c, f, N, m, by omega, hcn, by go_num, rfl, HPB, HO⟩
      case measure => simp [intOf]; omega
    obtain ⟨k, rfl⟩ := Int.eq_ofNat_of_zero_le (show 0 ≤ x by omega)
    have hkn : k < n := by omega
    have hk60 : k < 60 := by omega
    have t1 := HPB.out.err HH60'.out HHZ1.out HHZ12.out HHN.out hkn
    have t2 := HPB.out.new hkn
    have t3 := HPB.out.step HH60'.out HHZ1.out HHZ12.out HHN.out hkn
    have hq := HO.out.perm (show _ = L * (Bl6 b f * (JoP p mb N m * emp)) by ac_rfl)
    rw [HL.out] at hq
    obtain ⟨e0, e1, e2⟩ := split_get hq k (by rw [← HHN.out]; exact hkn)
    have c2 := HO.out.bl6_cell k hk60
    have c3 := HO.out.bl6_free k
    obtain ⟨P, hP⟩ : ∃ P, P = splitAt t z k := ⟨_, rfl⟩
    have hPV : (Value.agg #[.int .i64 P.at', .int .i64 P.of, .string P.text]) = pcV P := rfl
    rw [← hP] at t1 t2 t3 e0 e1 e2
    clear hq c2 c3
    have T1 := Lib.hid t1; have T2 := Lib.hid t2; have T3 := Lib.hid t3; have HP := Lib.hid hP; have HPV := Lib.hid hPV
    clear t1 t2 t3 hP hPV
    go_wp2_with fail
    refine (joTake_any p mb N hN60 m P (HO.out.perm (star_left_comm _ _ _))).mono ?_
    rintro e w5 ⟨rfl, ho⟩
    rw [T1.out, T2.out, errV0]
    obtain ⟨N', hN'⟩ : ∃ E, E = joN N m P := ⟨_, rfl⟩
    obtain ⟨m', hm'⟩ : ∃ E, E = joM N m P := ⟨_, rfl⟩
    have hst := T3.out
    rw [← hN', ← hm'] at hst ho
    have ho2 := ho.perm (star_left_comm _ _ _)
    have c2 := ho2.bl6_cell k hk60
    have c3 := ho2.bl6_free k
    have HS := Lib.hid (ho2.bl6_set k)
    have HO5 := Lib.hid ho2
    clear ho ho2 c1 e0 e1 e2
    have hk0 : (0 : Int) ≤ (k : Int) := by omega
    have hk61 : (k : Int) < 60 := by omega
    cases hf : f k
    · rw [hf] at c2 hst
      rw [if_neg (by simp)] at hst
      have HST := Lib.hid hst; have HN' := Lib.hid hN'; have HM' := Lib.hid hm'; have HF := Lib.hid hf
      clear hst hN' hm' hf
      go_wp2_with fail
      go_roundw
      case rel => exact ⟨i + 1, c + 1, updB f k, N', m', by omega, by have := HST.out.cnt; have := cntB_le (updB f k) n; omega, by go_num, by go_num, HST, HS⟩
      case measure => simp [intOf]; omega
    · rw [hf] at c2 hst
      rw [if_pos rfl] at hst
      have HST := Lib.hid hst; have HN' := Lib.hid hN'; have HM' := Lib.hid hm'; have HF := Lib.hid hf
      clear hst hN' hm' hf
      go_wp2_with fail
      go_roundw
      case rel => exact ⟨i + 1, c, updB f k, N', m', by omega, hcn, by go_num, rfl, HST, HS⟩
      case measure => simp [intOf]; omega
end Go.Proofs.YtbfiahdddbcebaaDoor
