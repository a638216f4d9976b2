/- Contracts of package wire, continued: Pack. -/
import Derived.Test.YtbfiahdddbcebaaDoorWire
namespace Go.Proofs.YtbfiahdddbcebaaDoor
set_option linter.unusedVariables false
set_option linter.unusedSimpArgs false
open Go.RowKit
theorem u8_of {n : Int} {x : UInt8} (h : n = (x.toNat : Int)) : Value.int .u8 n = u8V x := by unfold u8V; rw [h]
theorem wHead_next {who word : Int} {l : List Int} {k : Nat} (hk : k < l.length) : wHead who word (l.take (k + 1)) = wHead who word (l.take k) ++ dig3 l[k] := by
  unfold wHead
  rw [List.take_succ_eq_append_getElem hk, List.flatMap_append]
  simp
theorem wHead_size {who word : Int} (l : List Int) : (wHead who word l).length = 2 + 3 * l.length := by
  unfold wHead
  induction l with
  | nil => rfl
  | cons x r ih => simp only [List.flatMap_cons, List.length_cons, List.length_append, dig3, List.length_nil] at ih ⊢; omega
theorem dig3_vals (y : Nat) (h : y ≤ 1000000) : (dig3 y).map u8V = [.int .u8 ((y : Int) / 256 / 256), .int .u8 ((y : Int) / 256 % 256), .int .u8 ((y : Int) % 256)] := by
  show [u8V (byt ((y : Int) / 65536)), u8V (byt ((y : Int) / 256)), u8V (byt (y : Int))] = _
  rw [← u8_of (x := byt ((y : Int) / 65536)) (n := (y : Int) / 256 / 256) (by rw [byt_toNat _ (by omega)]; omega), ← u8_of (x := byt ((y : Int) / 256)) (n := (y : Int) / 256 % 256) (by rw [byt_toNat _ (by omega)]), ← u8_of (x := byt (y : Int)) (n := (y : Int) % 256) (by rw [byt_toNat _ (by omega)])]
/-- string(b). -/
theorem conv_back {w : World} {ad : Option Addr} {n cap : Nat} {l : List UInt8} (h : ByRd w (.slice ad n cap) l) (hl : 0 < l.length) (src dst e : TypeId) (hs : Tryd.prog.underlying src = some (.slice e)) (he : Tryd.prog.underlying e = some (.int .u8)) (hd : Tryd.prog.underlying dst = some .string) :
    (convert src dst (.slice ad n cap)).run Tryd.prog w = .ok (.string ⟨l.toArray⟩) w := by
  obtain ⟨a, rfl, _⟩ := h.at 0 hl
  have hn : n = l.length := by obtain ⟨_, _, e, _⟩ := h; cases e; rfl
  subst hn
  exact run_convert_bytes_back w src dst e a cap l hs he hd (fun j hj => by obtain ⟨a', h', hc⟩ := h.at j hj; cases h'; exact hc)
set_option maxRecDepth 100000 in
set_option maxHeartbeats 4000000 in
theorem wpack_any {w0 w : World} {R : HProp} (who word : Int) (v : Value) (l : List Int) (h : Own w0 R w) (hl : Reads w0 R v l) :
    Calls Tryd.prog 7 #[.agg #[.int .i64 who, .int .i64 word, v]] w fun e w' => e = .returned (.tuple #[.string (packS who word l), errV (saidErr who word l)]) ∧ Own w0 R w' := by
  obtain ⟨ad, cap, rfl, hlc, hcap⟩ := (hl _ h).shape
  obtain ⟨n, hn⟩ : ∃ n, n = l.length := ⟨_, rfl⟩
  rw [← hn] at hlc hl ⊢
  obtain ⟨b1, hb_b1⟩ : ∃ zz_, zz_ = (w).heap.size := ⟨_, rfl⟩
  obtain ⟨w1, hw_w1⟩ : ∃ zz_, zz_ = (w).alloc (.cells #[.int .i64 who, .int .i64 word, .slice ad n cap] 24 (0, 0)) := ⟨_, rfl⟩
  have h_HO1 := (h).alloc (.cells #[.int .i64 who, .int .i64 word, .slice ad n cap] 24 (0, 0))
  rw [← hb_b1, ← hw_w1] at h_HO1
  have HO1 := Lib.hid h_HO1
  clear h_HO1
  have c0 : w1.cell? ⟨b1, 0, none⟩ = some (.int .i64 who) := (HO1.out.cell 0).trans rfl
  have c1 : w1.cell? ⟨b1, 1, none⟩ = some (.int .i64 word) := (HO1.out.cell 1).trans rfl
  have c2 : w1.cell? ⟨b1, 2, none⟩ = some (.slice ad n cap) := (HO1.out.cell 2).trans rfl
  have HCK := Lib.hid (fun (w : World) (w1 : World) (h : Own w0 (blk b1 (.cells #[.int .i64 who, .int .i64 word, .slice ad n cap] 24 (0, 0)) * R) w) => wcheck_any who word (.slice ad n cap) l h hl.more)
  by_cases he : saidErr who word l = 0
  rotate_left
  · obtain ⟨mm, hmm⟩ := errV_some he
    have hp : packS who word l = ⟨#[]⟩ := by unfold packS; rw [if_neg he]
    rw [hp, hmm]
    clear h
    have HE := Lib.hid he; have HMM := Lib.hid hmm; have HP := Lib.hid hp; have HL := Lib.hid hl; have HN := Lib.hid hn
    clear he hmm hp hl hn
    go_enter Tryd.func7, Tryd.ntmps7
    go_upto_region 1 with fail
    rw [← hb_b1, ← hw_w1]
    clear hb_b1 hw_w1
    go_wp2_with fail
    refine (HCK.out w1 w1 HO1.out).mono ?_
    rintro e w2 ⟨rfl, ho2⟩
    rw [HMM.out]
    have HO2 := Lib.hid ho2
    clear ho2
    go_wp2
    go_ret2
    exact ⟨rfl, HO2.out.drop⟩
  obtain ⟨hm, hw, hv⟩ := saidErr0 he
  obtain ⟨h5, hb⟩ := vecErr0 hv
  have hm' : 0 ≤ who ∧ who < 5 := by simpa [isMember] using hm
  have hw' : 1 ≤ word ∧ word ≤ 30 := by simpa [isWord] using hw
  obtain ⟨who', rfl⟩ : ∃ n : Nat, who = n := ⟨who.toNat, by omega⟩
  obtain ⟨word', rfl⟩ : ∃ n : Nat, word = n := ⟨word.toNat, by omega⟩
  have hp : packS who' word' l = ⟨(packB who' word' l).toArray⟩ := by unfold packS; rw [if_pos he]
  rw [hp, he]
  clear h
  have hn5 : n = 5 := by omega
  subst hn5
  clear h5
  have HE := Lib.hid he; have HP := Lib.hid hp; have HL := Lib.hid hl; have HM := Lib.hid hm; have HW := Lib.hid hw; have HV := Lib.hid hv; have HB := Lib.hid hb; have HN := Lib.hid hn
  clear he hp hl hm hw hv hb hn
  go_enter Tryd.func7, Tryd.ntmps7
  go_upto_region 1 with fail
  rw [← hb_b1, ← hw_w1]
  clear hb_b1 hw_w1
  go_wp2_with fail
  refine (HCK.out w1 w1 HO1.out).mono ?_
  rintro e w2 ⟨rfl, ho2⟩
  rw [HE.out, errV0]
  have HO2 := Lib.hid ho2
  clear ho2 c0 c1 c2
  have c0 : w2.cell? ⟨b1, 0, none⟩ = some (.int .i64 who') := (HO2.out.cell 0).trans rfl
  have c1 : w2.cell? ⟨b1, 1, none⟩ = some (.int .i64 word') := (HO2.out.cell 1).trans rfl
  have c2 : w2.cell? ⟨b1, 2, none⟩ = some (.slice ad 5 cap) := (HO2.out.cell 2).trans rfl
  go_upto_region 5 with fail
  obtain ⟨b3, hb_b3⟩ : ∃ zz_, zz_ = (w2).heap.size := ⟨_, rfl⟩
  obtain ⟨w3, hw_w3⟩ : ∃ zz_, zz_ = (w2).alloc (.cells #[.int .u8 who', .int .u8 word'] 5 (0, 0)) := ⟨_, rfl⟩
  have h_HO3 := (HO2.out).alloc (.cells #[.int .u8 who', .int .u8 word'] 5 (0, 0))
  rw [← hb_b3, ← hw_w3] at h_HO3
  have HO3 := Lib.hid h_HO3
  clear h_HO3
  rw [← hb_b3, ← hw_w3]
  clear hb_b3 hw_w3
  have hby0 : u8V (byt who') = .int .u8 who' := (u8_of (by rw [byt_toNat _ (by omega)]; omega)).symm
  have hby1 : u8V (byt word') = .int .u8 word' := (u8_of (by rw [byt_toNat _ (by omega)]; omega)).symm
  have HO4 : Hid (Own w0 (BySl (.slice (some ⟨b3, 0, none⟩) 2 2) (wHead who' word' (l.take 0)) * (blk b1 (.cells #[.int .i64 who', .int .i64 word', .slice ad 5 cap] 24 (0, 0)) * R)) w3) := Lib.hid (by
    unfold BySl
    exact Own.sl_mk (Nat.le_refl _) (by unfold maxLen; omega) (by simp [wHead]) (by simp) (fun i hi => by
      have h2 : (wHead (who' : Int) (word' : Int) (l.take 0)).map u8V = [.int .u8 (who' : Int), .int .u8 (word' : Int)] := by
        show [u8V (byt who'), u8V (byt word')] = _
        rw [hby0, hby1]
      rw [h2]; simp) HO3.out)
  have c2 : w3.cell? ⟨b1, 2, none⟩ = some (.slice ad 5 cap) := (HO3.out.drop.cell 2).trans rfl
  clear HO2 HO3 hby0 hby1
  have HM' := Lib.hid hm'; have HW' := Lib.hid hw'
  clear hm' hw'
  go_wp2_with fail
  go_loopw [23, 5] (fun iv bv wr => ∃ k : Nat, k ≤ 5 ∧ iv = .int .i64 k ∧ Hid (Own w0 (BySl bv (wHead who' word' (l.take k)) * (blk b1 (.cells #[.int .i64 who', .int .i64 word', .slice ad 5 cap] 24 (0, 0)) * R)) wr)) (fun iv _ _ => 5 - (intOf iv).toNat)
  case atStart => exact ⟨0, Nat.zero_le _, rfl, HO4⟩
  case round =>
    obtain ⟨k, hk, rfl, HO⟩ := hrel
    obtain ⟨a2, q2, hs2, hq1, hq2⟩ := HO.out.by_shape
    obtain ⟨m, hm⟩ : ∃ m, m = (wHead who' word' (l.take k)).length := ⟨_, rfl⟩
    have hmk : m = 2 + 3 * k := by rw [hm, wHead_size, List.length_take, ← HN.out]; omega
    rw [← hm] at hs2 hq1
    subst hs2
    by_cases hlt : k < 5
    · obtain ⟨a, rfl, hc⟩ := (HL.out.more.more _ HO.out).at k (by rw [← HN.out]; exact hlt)
      obtain ⟨x, hx⟩ : ∃ x, x = l[k]'(by rw [← HN.out]; exact hlt) := ⟨_, rfl⟩
      have hxb := HB.out x (by rw [hx]; exact List.getElem_mem _)
      have hnx : wHead who' word' (l.take (k + 1)) = wHead who' word' (l.take k) ++ dig3 x := by rw [hx]; exact wHead_next (by rw [← HN.out]; exact hlt)
      rw [← hx] at hc
      obtain ⟨y, rfl⟩ : ∃ y : Nat, x = y := ⟨x.toNat, by omega⟩
      have hown : Own w0 (Sl 5 1 (.slice a2 m q2) m ((wHead who' word' (l.take k)).map u8V) * (blk b1 (.cells #[.int .i64 who', .int .i64 word', .slice (some a) 5 cap] 24 (0, 0)) * R)) wr := HO.out.perm (by unfold BySl; rw [← hm])
      have hy6 : y ≤ 1000000 := by omega
      have hm17 : m ≤ 17 := by omega
      have HX := Lib.hid hx; have HXB := Lib.hid hxb; have HNX := Lib.hid hnx; have HM := Lib.hid hm; have HMK := Lib.hid hmk; have HOWN := Lib.hid hown
      clear hx hxb hnx hm hmk hown
      go_wp2_with (at_builtin; refine wpList_app rfl _ _ 32 rfl 5 1 1 _ info_byte Tryd.underlying32 rfl (by decide) rfl (HOWN.out.alloc' _) (by rfl) (by rfl) (Rd_lit (by simp) (by unfold maxLen; omega)) (by intro u hu; simp at hu; rcases hu with rfl | rfl | rfl <;> rfl) (by unfold maxLen; omega) (by omega) ?_; intro v' w5 ho5; obtain ⟨ad5, cp5, hv5, _⟩ := Own.rd ho5; subst hv5; have HO5 := Lib.hid ho5; clear ho5)
      go_round
      case rel => exact ⟨k + 1, by omega, by go_num, Lib.hid (by
        rw [HNX.out]
        unfold BySl
        rw [List.length_append, ← HM.out, List.map_append, dig3_vals y hy6]
        exact HO5.out)⟩
      case measure => simp [intOf]; omega
    · have hk5 : k = 5 := by omega
      subst hk5
      have hlt : l.take 5 = l := List.take_of_length_le (by rw [← HN.out]; omega)
      rw [hlt] at hm
      have hm17 : m = 17 := hmk
      subst hm17
      have ho := HO.out
      rw [hlt] at ho
      have HO6 := Lib.hid ho
      have HRD := Lib.hid (show ByRd wr (.slice a2 17 q2) (wHead who' word' l) from Own.rd ho)
      have hown : Own w0 (Sl 5 1 (.slice a2 17 q2) 17 ((wHead who' word' l).map u8V) * (blk b1 (.cells #[.int .i64 who', .int .i64 word', .slice ad 5 cap] 24 (0, 0)) * R)) wr := ho.perm (by unfold BySl; rw [← hm])
      clear ho
      have HM := Lib.hid hm; have HMK := Lib.hid hmk; have HOWN := Lib.hid hown; have HLT := Lib.hid hlt
      clear hm hmk hown hlt
      go_wp2_with fail
      refine (wsum_any _ _ HRD.out).mono ?_
      rintro e w' ⟨rfl, rfl⟩
      go_wp2_with (at_builtin; refine wpList_app rfl _ _ 32 rfl 5 1 1 _ info_byte Tryd.underlying32 rfl (by decide) rfl (HOWN.out.alloc' _) (by rfl) (by rfl) (Rd_lit (by simp) (by unfold maxLen; omega)) (by intro u hu; simp at hu; subst hu; rfl) (by unfold maxLen; omega) (by omega) ?_; intro v' w5 ho5; obtain ⟨ad5, cp5, hv5, _⟩ := Own.rd ho5; subst hv5; have hpb : Own w0 (BySl (.slice ad5 18 cp5) (packB who' word' l) * _) w5 := ho5.perm (by unfold BySl packB; rw [List.length_append, ← HM.out, List.map_append]; rfl); have hcv := conv_back (show ByRd w5 (.slice ad5 18 cp5) (packB who' word' l) from Own.rd hpb) (by unfold packB; simp) 32 9 5 (by kernel_rfl) (by kernel_rfl) (by kernel_rfl); have HO7 := Lib.hid hpb.drop; clear ho5 hpb)
      go_ret2
      exact ⟨rfl, HO7.out.drop⟩
end Go.Proofs.YtbfiahdddbcebaaDoor
