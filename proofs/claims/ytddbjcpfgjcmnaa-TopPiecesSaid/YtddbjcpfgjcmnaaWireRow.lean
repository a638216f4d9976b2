/- Contract of package wire: Row. -/
import Derived.Test.YtddbjcpfgjcmnaaPcs
import Derived.Test.YtddbjcpfgjcmnaaWireLong
namespace Go.Proofs.Ytddbjcpfgjcmnaa
set_option linter.unusedVariables false
set_option linter.unusedSimpArgs false
open Go.RowKit
def PcO (b : Nat) (p : Pc) : HProp := blk b (.cells #[.int .i64 p.at', .int .i64 p.of, .string p.text] 28 (0, 0))
set_option maxRecDepth 100000 in
set_option maxHeartbeats 4000000 in
theorem wrow_any {w0 w : World} {R : HProp} (v : Value) (l : List Pc) (h : Own w0 R w) (hl : ReadsP w0 R v l) :
    Calls Try.prog 7 #[v] w fun e w' => e = .returned (.tuple #[.string (rowS l), errV (rowErr l)]) ∧ Own w0 R w' := by
  obtain ⟨ad, cap, rfl, hlc, hcap⟩ := (hl _ h).shape
  obtain ⟨n, hn⟩ : ∃ n, n = l.length := ⟨_, rfl⟩
  rw [← hn] at hlc hl ⊢
  by_cases h60 : 60 < n
  · have hE : rowErr l = 4 := by unfold rowErr; rw [← hn, if_pos h60]
    have hS : rowS l = ⟨#[]⟩ := by unfold rowS; rw [hE, if_neg (by decide)]
    have t1 : decide (60 < (n : Int)) = true := decide_eq_true (by omega)
    have t1n : decide (60 < n) = true := decide_eq_true h60
    rw [hE, hS]
    have H := Lib.hid h; have HL := Lib.hid hl; have HN := Lib.hid hn; have HE := Lib.hid hE; have HS := Lib.hid hS; have H60 := Lib.hid h60
    clear h hl hn hE hS h60
    go_enter Try.func7, Try.ntmps7
    go_wp2
    go_ret2
    exact ⟨rfl, H.out⟩
  have t1 : decide (60 < (n : Int)) = false := decide_eq_false (by omega)
  have t1n : decide (60 < n) = false := decide_eq_false h60
  have hE : rowErr l = if rowOk l = false then 1 else 0 := by unfold rowErr; rw [← hn, if_neg h60]
  have H := Lib.hid h; have HL := Lib.hid hl; have HN := Lib.hid hn; have HE := Lib.hid hE
  clear h hl hn hE
  go_enter Try.func7, Try.ntmps7
  go_wp2_with fail
  go_loopw [13, 4] (fun iv ov wr => ∃ k : Nat, k ≤ n ∧ iv = .int .i64 k ∧ ov = .string (rowTo (l.take k)) ∧ Hid (rowOk (l.take k) = true) ∧ Hid (Own w0 R wr)) (fun iv _ _ => n - (intOf iv).toNat)
  case atStart => exact ⟨0, Nat.zero_le _, rfl, rfl, Lib.hid rfl, H⟩
  case round =>
    obtain ⟨k, hk, rfl, rfl, HOK, HO⟩ := hrel
    by_cases hlt : k < n
    rotate_left
    · have hkn : l.take k = l := List.take_of_length_le (by rw [← HN.out]; omega)
      have hok : rowOk l = true := by rw [← hkn]; exact HOK.out
      have hE2 : rowErr l = 0 := by rw [HE.out, if_neg (by rw [hok]; simp)]
      have hS : rowS l = rowTo l := by unfold rowS; rw [if_pos hE2]
      rw [hkn]
      have HKN := Lib.hid hkn; have HOK := Lib.hid hok; have HE2 := Lib.hid hE2; have HS := Lib.hid hS
      clear hkn hok hE2 hS
      go_wp2
      go_ret2
      exact ⟨by rw [HE2.out, HS.out]; rfl, HO.out⟩
    have hkl : k < l.length := by rw [← HN.out]; exact hlt
    obtain ⟨aa, eb, eo, es, rfl, hea, hcs, hgd⟩ := HL.out.at HO.out k hkl
    have hb := rowOk_bad (l := l) (k := k) hkl
    have hn1 := rowOk_next hkl
    have hn2 := rowTo_next hkl
    have hsz := rowTo_size (l.take k) HOK.out
    have hlen : (l.take k).length ≤ 60 := by rw [List.length_take]; omega
    rw [← pcAt_get hkl] at hb hn1 hn2
    obtain ⟨x, hx⟩ : ∃ x, x = pcAt l k := ⟨_, rfl⟩
    rw [← hx] at hcs hb hn1 hn2
    obtain ⟨c0, c1, c2⟩ := hcs _ HO.out
    obtain ⟨T, hT⟩ : ∃ T, T = rowTo (l.take k) := ⟨_, rfl⟩
    rw [← hT] at hn2 hsz
    rw [← hT]
    have hTs : T.size ≤ 900 := by omega
    obtain ⟨D, hD⟩ : ∃ D, D = pcRight x := ⟨_, rfl⟩
    rw [HOK.out, ← hD] at hn1
    rw [← hD] at hb
    obtain ⟨b1, hb_b1⟩ : ∃ zz_, zz_ = (wr).heap.size := ⟨_, rfl⟩
    obtain ⟨w1, hw_w1⟩ : ∃ zz_, zz_ = (wr).alloc (.cells #[.int .i64 x.at', .int .i64 x.of, .string x.text] 28 (0, 0)) := ⟨_, rfl⟩
    have h_HO1 := (HO.out).alloc (.cells #[.int .i64 x.at', .int .i64 x.of, .string x.text] 28 (0, 0))
    rw [← hb_b1, ← hw_w1] at h_HO1
    have HO1 := Lib.hid h_HO1
    clear h_HO1
    have HCS := Lib.hid hcs; have HX := Lib.hid hx; have HGD := Lib.hid hgd; have HB := Lib.hid hb; have HN1 := Lib.hid hn1; have HN2 := Lib.hid hn2; have HSZ := Lib.hid hsz; have HLEN := Lib.hid hlen; have HT := Lib.hid hT; have HTS := Lib.hid hTs; have HD := Lib.hid hD
    clear hcs hx hgd hb hn1 hn2 hsz hlen hT hTs hD
    go_upto_region 7 with fail
    rw [← hb_b1, ← hw_w1]
    clear hb_b1 hw_w1
    obtain ⟨d0, d1, d2⟩ : w1.cell? ⟨b1, 0, none⟩ = some (.int .i64 x.at') ∧ w1.cell? ⟨b1, 1, none⟩ = some (.int .i64 x.of) ∧ w1.cell? ⟨b1, 2, none⟩ = some (.string x.text) := ⟨(HO1.out.cell 0).trans rfl, (HO1.out.cell 1).trans rfl, (HO1.out.cell 2).trans rfl⟩
    clear c0 c1 c2
    go_wp2_with fail
    refine (pcRight_any x HO1.out).mono ?_
    rintro e w2 ⟨rfl, ho2⟩
    rw [← HD.out]
    have HO2 := Lib.hid ho2
    clear ho2 d0 d1 d2 HO1
    cases D
    · have hE2 : rowErr l = 1 := by rw [HE.out, if_pos (HB.out rfl)]
      have hS : rowS l = ⟨#[]⟩ := by unfold rowS; rw [if_neg (by rw [hE2]; decide)]
      have HE2 := Lib.hid hE2; have HS := Lib.hid hS
      clear hE2 hS
      go_wp2
      go_ret2
      exact ⟨by rw [HE2.out, HS.out]; rfl, HO2.out.drop⟩
    obtain ⟨⟨o1, o2⟩, ⟨a1, a2⟩, s1⟩ := pcRight_bd HD.out.symm
    have hn1 := HN1.out
    have hn2 := HN2.out
    obtain ⟨a, o, s⟩ := x
    simp only at o1 o2 a1 a2 s1
    obtain ⟨a', rfl⟩ : ∃ q : Nat, a = q := ⟨a.toNat, by omega⟩
    obtain ⟨o', rfl⟩ : ∃ q : Nat, o = q := ⟨o.toNat, by omega⟩
    obtain ⟨S1, hS1⟩ : ∃ S, S = pcHd ⟨a', o', s⟩ := ⟨_, rfl⟩
    rw [← hS1] at hn2
    simp only at hn2
    have hs13 : S1.size = 3 := by rw [hS1]; rfl
    have hTs := HTS.out
    have hadd1 : ∀ (w : World), (Op.stringOp .add S1 s).run Try.prog w = .ok (.string (S1 ++ s)) w := fun w => run_string_add_sum _ _ _ (by omega)
    obtain ⟨S2, hS2⟩ : ∃ S, S = S1 ++ s := ⟨_, rfl⟩
    have hs22 : S2.size ≤ 15 := by rw [hS2, ByteArray.size_append]; omega
    have hadd2 : ∀ (w : World), (Op.stringOp .add T S2).run Try.prog w = .ok (.string (T ++ S2)) w := fun w => run_string_add_sum _ _ _ (by omega)
    rw [← hS2] at hn2 hadd1
    have hv : [u8V (byt a'), u8V (byt o'), u8V (byt s.size)] = [.int .u8 (a' : Int), .int .u8 (o' : Int), .int .u8 (s.size : Int)] := by
      rw [← u8_of (x := byt a') (n := (a' : Int)) (by rw [byt_toNat _ (by omega)]; omega), ← u8_of (x := byt o') (n := (o' : Int)) (by rw [byt_toNat _ (by omega)]; omega), ← u8_of (x := byt s.size) (n := (s.size : Int)) (by rw [byt_toNat _ (by omega)]; omega)]
    have hcv := conv_back (w := w2.alloc (.cells #[.int .u8 (a' : Int), .int .u8 (o' : Int), .int .u8 (s.size : Int)] 5)) (ad := some ⟨w2.heap.size, 0, none⟩) (n := 3) (cap := 3) (l := [byt a', byt o', byt s.size]) (by
      have := Rd_alloc (w := w2) (t := 5) (cs := #[.int .u8 (a' : Int), .int .u8 (o' : Int), .int .u8 (s.size : Int)]) (n := 3) (by unfold maxLen; omega)
      unfold ByRd
      rw [show ([byt (a' : Int), byt (o' : Int), byt (s.size : Int)]).map u8V = _ from hv]
      exact this) (by simp) 44 9 5 (by kernel_rfl) (by kernel_rfl) (by kernel_rfl)
    rw [show (⟨([byt (a' : Int), byt (o' : Int), byt (s.size : Int)]).toArray⟩ : ByteArray) = S1 from hS1.symm] at hcv
    obtain ⟨d0, d1, d2⟩ : w2.cell? ⟨b1, 0, none⟩ = some (.int .i64 a') ∧ w2.cell? ⟨b1, 1, none⟩ = some (.int .i64 o') ∧ w2.cell? ⟨b1, 2, none⟩ = some (.string s) := ⟨(HO2.out.cell 0).trans rfl, (HO2.out.cell 1).trans rfl, (HO2.out.cell 2).trans rfl⟩
    have hb1w : b1 < w2.heap.size := HO2.out.lt
    clear HN1 HN2
    have HN1 := Lib.hid hn1; have HN2 := Lib.hid hn2; have HS1 := Lib.hid hS1; have HS2 := Lib.hid hS2; have HS13 := Lib.hid hs13; have HS22 := Lib.hid hs22; have HTS := Lib.hid hTs; have HV := Lib.hid hv
    clear hn1 hn2 hS1 hS2 hs13 hs22 hTs hv
    go_wp2_with fail
    go_round
    case rel => exact ⟨k + 1, by omega, by go_num, by rw [HN2.out], Lib.hid HN1.out, Lib.hid (HO2.out.drop.alloc' _)⟩
    case measure => simp [intOf]; omega
end Go.Proofs.Ytddbjcpfgjcmnaa
