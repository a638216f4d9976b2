/- The reference's number, done, told. -/
import Derived.Test.YtdfjbnfdknpahaaGreatDoorMRunAnswers2
import Derived.Deep.DeepCutAuto
import Derived.Deep.CutBlock
import Derived.Test.YtdfjbnfdknpahaaGreatDoorMRunAnswers0
import Derived.Test.YtdfjbnfdknpahaaGreatDoorProg
import Derived.Shelf.Strconv.Itoa3
namespace Go.Proofs.YtdfjbnfdknpahaaGreatDoor
set_option linter.unusedVariables false
set_option linter.unusedSimpArgs false
open Go.RowKit
def digOk (b : UInt8) : Bool := decide (48 ≤ b.toNat) && decide (b.toNat ≤ 57)
def numV (s : List UInt8) : Nat := s.foldl (fun n b => n * 10 + (b.toNat - 48)) 0
def numOk (s : List UInt8) : Bool := decide (s ≠ []) && (decide (s.length ≤ 4) && (!(decide (s.getD 0 0 = 48) && decide (1 < s.length)) && s.all digOk))
def numR (s : List UInt8) : Nat := if numOk s = true then numV s else 0
theorem numV_snoc (s : List UInt8) (b : UInt8) : numV (s ++ [b]) = numV s * 10 + (b.toNat - 48) := by unfold numV; rw [List.foldl_append]; rfl
theorem numV_le : ∀ (n : Nat) (s : List UInt8), s.length = n → s.all digOk = true → numV s < 10 ^ n := by
  intro n
  induction n with
  | zero => intro s h _; rw [List.length_eq_zero_iff.1 h]; decide
  | succ n ih =>
    intro s h ha
    rcases List.eq_nil_or_concat s with rfl | ⟨r, b, rfl⟩
    · cases h
    rw [List.concat_eq_append] at h ha ⊢
    rw [List.length_append] at h
    rw [List.all_append, Bool.and_eq_true] at ha
    have := ih r (by simpa using h) ha.1
    have hb : digOk b = true := by simpa using ha.2
    unfold digOk at hb
    simp only [Bool.and_eq_true, decide_eq_true_eq] at hb
    rw [numV_snoc, Nat.pow_succ]
    omega
theorem tx_ne {s : List UInt8} (h : s ≠ []) : (tx s).toList ≠ [] := by
  rw [ByteArray.toList_eq]
  show (tx s).data.toList ≠ []
  rw [tx_list]
  exact h
set_option maxRecDepth 100000 in
set_option maxHeartbeats 4000000 in
theorem rnumber_any {w : World} (s : List UInt8) (hs : s.length ≤ 100000) :
    Calls Tryz.prog 17 #[.string (tx s)] w fun e w' => e = .returned (.tuple #[.int .i64 (numR s : Nat), .bool (numOk s)]) ∧ w = w' := by
  obtain ⟨n, hn⟩ : ∃ n, n = s.length := ⟨_, rfl⟩
  have hlen : ∀ (ty : TypeId) (w : World), (Builtin.len_ #[9] ty #[.string (tx s)]).run Tryz.prog w = .ok (.int .i64 (n : Int)) w := fun ty w => by
    rw [run_len_string w _ _ _ Tryz.underlying9, tx_size, ← hn]; rfl
  have hix : ∀ (i : Nat) (hi : i < s.length) (w : World), (Instr.index 9 (.string (tx s)) (.int .i64 (i : Int))).run Tryz.prog w = .ok (.int .u8 ((s[i].toNat : Nat) : Int)) w := fun i hi w => by
    rw [run_index_string w _ _ _ _ Tryz.underlying9, dif_pos (by rw [tx_size]; omega)]
    have h3 : (i : Int).toNat = i := by omega
    simp only [h3]
    rw [tx_get s i hi]
    first | done | rfl
  rw [← hn] at hs
  by_cases h0 : s = []
  · subst h0
    have hr : numR [] = 0 ∧ numOk [] = false := by decide
    rw [hr.1, hr.2]
    clear hr hix hlen
    rw [show tx [] = ⟨#[]⟩ from rfl]
    go_enter Tryz.func17, Tryz.ntmps17
    go_wp2_with fail
    exact bodyPost_ret (v := .tuple #[.int .i64 0, .bool false]) (by simp [results, Tryz.results17, go_sem]) rfl ⟨rfl, rfl⟩
  have hq0 := tx_ne h0
  have hpos : 0 < s.length := List.length_pos_iff.2 h0
  have hg0 : s.getD 0 0 = s[0] := by rw [List.getD_eq_getElem?_getD, List.getElem?_eq_getElem hpos]; rfl
  have hx0 : ∀ (w : World), (Instr.index 9 (.string (tx s)) (.int .i64 0)).run Tryz.prog w = .ok (.int .u8 ((s[0].toNat : Nat) : Int)) w := fun w => hix 0 hpos w
  have HIX := Lib.hid hix
  clear hix
  obtain ⟨b0, hb0⟩ : ∃ b, b = s[0] := ⟨_, rfl⟩
  rw [← hb0] at hx0 hg0
  obtain ⟨S, hS⟩ : ∃ S, S = tx s := ⟨_, rfl⟩
  rw [← hS] at hq0 hlen hx0 HIX ⊢
  have hq1 : (S.toList == ByteArray.toList ⟨#[]⟩) = false := by
    rw [beq_eq_false_iff_ne, ByteArray.toList_eq ⟨#[]⟩]
    exact hq0
  have hq2 : (S.toList == []) = false := by rw [beq_eq_false_iff_ne]; exact hq0
  have hq3 : S.toList.isEmpty = false := by rw [List.isEmpty_eq_false_iff]; exact hq0
  by_cases h4 : 4 < n
  · have hr : numOk s = false := by
      unfold numOk
      rw [decide_eq_false (show ¬ s.length ≤ 4 by omega)]
      simp
    have hr2 : numR s = 0 := by unfold numR; rw [if_neg (by rw [hr]; simp)]
    rw [hr, hr2]
    have HR := Lib.hid hr; have HR2 := Lib.hid hr2; have HS := Lib.hid hS; have HN := Lib.hid hn; have HB0 := Lib.hid hb0; have HG0 := Lib.hid hg0; have HX0 := Lib.hid hx0
    clear hr hr2 hS hn hb0 hg0 hx0
    go_enter Tryz.func17, Tryz.ntmps17
    go_wp2_with fail
    exact bodyPost_ret (v := .tuple #[.int .i64 0, .bool false]) (by simp [results, Tryz.results17, go_sem]) rfl ⟨rfl, rfl⟩
  have n4 : n ≤ 4 := by omega
  by_cases h48 : b0 = 48 ∧ 1 < n
  · have hr : numOk s = false := by
      unfold numOk
      rw [hg0, h48.1, decide_eq_true (show 1 < s.length by omega)]
      simp
    have hr2 : numR s = 0 := by unfold numR; rw [if_neg (by rw [hr]; simp)]
    rw [hr, hr2]
    obtain ⟨hb48, h1n⟩ := h48
    rw [hb48] at hx0
    rw [show ((((48 : UInt8).toNat : Nat)) : Int) = 48 from rfl] at hx0
    have HR := Lib.hid hr; have HR2 := Lib.hid hr2; have HS := Lib.hid hS; have HN := Lib.hid hn; have HB0 := Lib.hid hb0; have HG0 := Lib.hid hg0; have HB48 := Lib.hid hb48
    clear hr hr2 hS hn hb0 hg0 hb48
    go_enter Tryz.func17, Tryz.ntmps17
    go_wp2_with fail
    exact bodyPost_ret (v := .tuple #[.int .i64 0, .bool false]) (by simp [results, Tryz.results17, go_sem]) rfl ⟨rfl, rfl⟩
  have hhead : numOk s = s.all digOk := by
    unfold numOk
    rw [hg0, decide_eq_true h0, decide_eq_true (show s.length ≤ 4 by omega)]
    have : (decide (b0 = 48) && decide (1 < s.length)) = false := by
      rw [Bool.and_eq_false_iff, decide_eq_false_iff_not, decide_eq_false_iff_not]
      by_cases hb : b0 = 48
      · right; intro hc; exact h48 ⟨hb, by omega⟩
      · exact .inl hb
    rw [this]
    simp
  have HS := Lib.hid hS; have HN := Lib.hid hn; have HB0 := Lib.hid hb0; have HG0 := Lib.hid hg0; have HHEAD := Lib.hid hhead; have H48 := Lib.hid h48
  clear hS hn hb0 hg0 hhead h48
  go_enter Tryz.func17, Tryz.ntmps17
  go_upto_region 1 with fail
  go_cut [22] (fun v wx => v = .bool false ∧ wx = w)
  case first =>
    by_cases hb : b0 = 48
    · have h1n : ¬ 1 < n := fun hc => H48.out ⟨hb, hc⟩
      have hx1 := hx0
      rw [hb, show ((((48 : UInt8).toNat : Nat)) : Int) = 48 from rfl] at hx1
      have HB := Lib.hid hb; have HX0 := Lib.hid hx0
      clear hb hx0
      go_wp2_with fail
      go_meet
      exact ⟨by rw [decide_eq_false (show ¬ ((4 : Int) < (n : Int)) by omega), decide_eq_false (show ¬ ((1 : Int) < (n : Int)) by omega)]; rfl, rfl⟩
    · have t1 : (((b0.toNat : Nat) : Int) == 48) = false := by
        rw [beq_eq_false_iff_ne]
        intro hc
        exact hb (UInt8.toNat_inj.1 (by rw [show (48 : UInt8).toNat = 48 from rfl]; omega))
      have HB := Lib.hid hb
      clear hb
      go_wp2_with fail
      go_meet
      exact ⟨by rw [decide_eq_false (show ¬ ((4 : Int) < (n : Int)) by omega)], rfl⟩
  case rest =>
  obtain ⟨rfl, rfl⟩ := hcut
  go_wp2_with fail
  go_loop [4, 5] (fun nv iv => ∃ k : Nat, k ≤ n ∧ iv = .int .i64 k ∧ nv = .int .i64 (numV (s.take k) : Nat) ∧ Hid ((s.take k).all digOk = true)) (fun _ iv => n - (intOf iv).toNat)
  case atStart => exact ⟨0, Nat.zero_le _, rfl, rfl, Lib.hid rfl⟩
  case round =>
    obtain ⟨k, hk, rfl, rfl, HA⟩ := hrel
    by_cases hlt : k < n
    rotate_left
    · have hkn : k = n := by omega
      subst hkn
      have hfull : s.take k = s := by rw [HN.out, List.take_length]
      have hall : s.all digOk = true := by rw [← hfull]; exact HA.out
      have hok : numOk s = true := HHEAD.out.trans hall
      have hnr : numR s = numV s := by unfold numR; rw [if_pos hok]
      rw [hfull]
      obtain ⟨V, hV⟩ : ∃ V, V = numV s := ⟨_, rfl⟩
      have hV2 : numR s = V := hnr.trans hV.symm
      rw [← hV]
      have HFULL := Lib.hid hfull; have HALL := Lib.hid hall; have HOK := Lib.hid hok; have HNR := Lib.hid hnr; have HV := Lib.hid hV; have HV2 := Lib.hid hV2
      clear hfull hall hok hnr hV hV2
      go_wp2_with fail
      exact bodyPost_ret (v := .tuple #[.int .i64 (V : Nat), .bool true]) (by simp [results, Tryz.results17, go_sem]) rfl ⟨by rw [HV2.out, HOK.out], rfl⟩
    have hkl : k < s.length := by rw [← HN.out]; exact hlt
    have hx := HIX.out k hkl
    obtain ⟨b, hb⟩ : ∃ b, b = s[k] := ⟨_, rfl⟩
    rw [← hb] at hx
    have htk : s.take (k + 1) = s.take k ++ [b] := by rw [hb]; exact List.take_succ_eq_append_getElem hkl
    have hvb := numV_le k (s.take k) (by rw [List.length_take]; omega) HA.out
    have hsn := numV_snoc (s.take k) b
    rw [← htk] at hsn
    have hp : 10 ^ k ≤ 1000 := by
      have : k = 0 ∨ k = 1 ∨ k = 2 ∨ k = 3 := by omega
      rcases this with rfl | rfl | rfl | rfl <;> decide
    obtain ⟨V, hV⟩ : ∃ V, V = numV (s.take k) := ⟨_, rfl⟩
    rw [← hV] at hvb hsn ⊢
    have hv9 : V ≤ 999 := by omega
    have hbl := b.toNat_lt
    obtain ⟨B, hB⟩ : ∃ B, B = b.toNat := ⟨_, rfl⟩
    have hdb : digOk b = (decide (48 ≤ B) && decide (B ≤ 57)) := by rw [hB]; rfl
    rw [← hB] at hx hsn hbl
    have k0 : (0 : Int) ≤ (k : Int) := by omega
    by_cases hd : 48 ≤ B ∧ B ≤ 57
    · have t1 : ¬ (B : Int) < 48 := by omega
      have t2 : ¬ (57 : Int) < (B : Int) := by omega
      have hA2 : (s.take (k + 1)).all digOk = true := by
        rw [htk, List.all_append, HA.out, Bool.true_and]
        simp only [List.all_cons, List.all_nil, Bool.and_true]
        rw [hdb, decide_eq_true hd.1, decide_eq_true hd.2]; rfl
      obtain ⟨hd1, hd2⟩ := hd
      have HTK := Lib.hid htk; have HVB := Lib.hid hvb; have HSN := Lib.hid hsn; have HP := Lib.hid hp; have HV := Lib.hid hV; have HB := Lib.hid hB; have HDB := Lib.hid hdb; have HA2 := Lib.hid hA2; have HB := Lib.hid hb
      clear htk hvb hsn hp hV hB hdb hA2 hb
      go_wp2_with fail
      go_round
      case rel => exact ⟨k + 1, by omega, by go_num, by rw [HSN.out]; go_num, HA2⟩
      case measure => simp [intOf]; omega
    · have hnd : digOk b = false := by
        rw [hdb, Bool.and_eq_false_iff, decide_eq_false_iff_not, decide_eq_false_iff_not]
        omega
      have hok : numOk s = false := by
        rw [HHEAD.out]
        cases hall : s.all digOk
        · rfl
        · have := List.all_eq_true.1 hall b (by rw [hb]; exact List.getElem_mem hkl)
          rw [hnd] at this; cases this
      have hnr : numR s = 0 := by unfold numR; rw [if_neg (by rw [hok]; simp)]
      by_cases hd1 : B < 48
      · have t1 : (B : Int) < 48 := by omega
        have HTK := Lib.hid htk; have HVB := Lib.hid hvb; have HSN := Lib.hid hsn; have HP := Lib.hid hp; have HV := Lib.hid hV; have HB := Lib.hid hB; have HDB := Lib.hid hdb; have HB := Lib.hid hb; have HD := Lib.hid hd; have HND := Lib.hid hnd; have HOK := Lib.hid hok; have HNR := Lib.hid hnr; have HD1 := Lib.hid hd1
        clear htk hvb hsn hp hV hB hdb hb hd hnd hok hnr hd1
        go_wp2_with fail
        exact bodyPost_ret (v := .tuple #[.int .i64 0, .bool false]) (by simp [results, Tryz.results17, go_sem]) rfl ⟨by rw [HNR.out, HOK.out]; rfl, rfl⟩
      · have t1 : ¬ (B : Int) < 48 := by omega
        have t2 : (57 : Int) < (B : Int) := by omega
        have HTK := Lib.hid htk; have HVB := Lib.hid hvb; have HSN := Lib.hid hsn; have HP := Lib.hid hp; have HV := Lib.hid hV; have HB := Lib.hid hB; have HDB := Lib.hid hdb; have HB := Lib.hid hb; have HD := Lib.hid hd; have HND := Lib.hid hnd; have HOK := Lib.hid hok; have HNR := Lib.hid hnr; have HD1 := Lib.hid hd1
        clear htk hvb hsn hp hV hB hdb hb hd hnd hok hnr hd1
        go_wp2_with fail
        exact bodyPost_ret (v := .tuple #[.int .i64 0, .bool false]) (by simp [results, Tryz.results17, go_sem]) rfl ⟨by rw [HNR.out, HOK.out]; rfl, rfl⟩
end Go.Proofs.YtdfjbnfdknpahaaGreatDoor
/- The reference's done, told, faces. -/
namespace Go.Proofs.YtdfjbnfdknpahaaGreatDoor
set_option linter.unusedVariables false
set_option linter.unusedSimpArgs false
open Go.RowKit
def doneB (e : Int) : List UInt8 := if e ≠ 0 then nmB e.toNat else [111, 107]
def toldB (l : List Int) (e : Int) : List UInt8 := if e ≠ 0 then nmB e.toNat else rowT l
def faB (f c t : Bool) : List UInt8 := match f, c, t with
  | false, false, false => [45]
  | true, false, false => [102, 105, 102, 111]
  | false, true, false => [99, 97, 117, 115, 97, 108]
  | true, true, false => [102, 105, 102, 111, 32, 99, 97, 117, 115, 97, 108]
  | false, false, true => [116, 111, 116, 97, 108]
  | true, false, true => [102, 105, 102, 111, 32, 116, 111, 116, 97, 108]
  | false, true, true => [99, 97, 117, 115, 97, 108, 32, 116, 111, 116, 97, 108]
  | true, true, true => [102, 105, 102, 111, 32, 99, 97, 117, 115, 97, 108, 32, 116, 111, 116, 97, 108]
set_option maxRecDepth 100000 in
set_option maxHeartbeats 4000000 in
theorem rdone_any {w0 w : World} {R : HProp} (k : Int) (hk : 0 ≤ k ∧ k ≤ 8) (h : Own w0 R w) :
    Calls Tryz.prog 18 #[.int .i64 k] w fun e w' => e = .returned (.string (tx (doneB k))) ∧ Own w0 R w' := by
  by_cases h0 : k = 0
  · subst h0
    rw [show doneB 0 = [111, 107] from rfl]
    have H := Lib.hid h; have HK := Lib.hid hk
    clear h hk
    go_enter Tryz.func18, Tryz.ntmps18
    go_wp2_with fail
    go_ret
    exact ⟨rfl, H.out⟩
  · have t0 : (k != 0) = true := by simpa using h0
    have hd : doneB k = nmB k.toNat := by unfold doneB; rw [if_pos h0]
    rw [hd]
    have H := Lib.hid h; have HK := Lib.hid hk; have H0 := Lib.hid h0; have HD := Lib.hid hd
    clear h hk h0 hd
    go_enter Tryz.func18, Tryz.ntmps18
    go_wp2_with fail
    refine (rname_any k HK.out H.out).mono ?_
    rintro e w2 ⟨rfl, ho⟩
    have HO := Lib.hid ho
    clear ho
    go_wp2_with fail
    go_ret
    exact ⟨rfl, HO.out⟩
set_option maxRecDepth 100000 in
set_option maxHeartbeats 4000000 in
theorem rtold_any {w0 w : World} {R : HProp} (v : Value) (l : List Int) (hl : Ints w v l) (hb : ∀ x ∈ l, 0 ≤ x ∧ x ≤ 10000000) (hn : l.length ≤ 100) (k : Int) (hk : 0 ≤ k ∧ k ≤ 8) (h : Own w0 R w) :
    Calls Tryz.prog 20 #[v, .int .i64 k] w fun e w' => e = .returned (.string (tx (toldB l k))) ∧ Own w0 R w' := by
  by_cases h0 : k = 0
  · subst h0
    rw [show toldB l 0 = rowT l from rfl]
    have H := Lib.hid h; have HK := Lib.hid hk; have HL := Lib.hid hl; have HB := Lib.hid hb; have HN := Lib.hid hn
    clear h hk hl hb hn
    go_enter Tryz.func20, Tryz.ntmps20
    go_wp2_with fail
    refine (rrow_any v l HL.out HB.out HN.out).mono ?_
    rintro e w2 ⟨rfl, rfl⟩
    go_wp2_with fail
    go_ret
    exact ⟨rfl, H.out⟩
  · have t0 : (k != 0) = true := by simpa using h0
    have hd : toldB l k = nmB k.toNat := by unfold toldB; rw [if_pos h0]
    rw [hd]
    have H := Lib.hid h; have HK := Lib.hid hk; have H0 := Lib.hid h0; have HD := Lib.hid hd; have HL := Lib.hid hl; have HB := Lib.hid hb; have HN := Lib.hid hn
    clear h hk h0 hd hl hb hn
    go_enter Tryz.func20, Tryz.ntmps20
    go_wp2_with fail
    refine (rname_any k HK.out H.out).mono ?_
    rintro e w2 ⟨rfl, ho⟩
    have HO := Lib.hid ho
    clear ho
    go_wp2_with fail
    go_ret
    exact ⟨rfl, HO.out⟩
set_option maxRecDepth 100000 in
set_option maxHeartbeats 4000000 in
theorem rfaces_any {w0 w : World} {R : HProp} (f c t : Bool) (h : Own w0 R w) :
    Calls Tryz.prog 29 #[.agg #[.bool f, .bool c, .bool t]] w fun e w' => e = .returned (.string (tx (faB f c t))) ∧ Own w0 R w' := by
  obtain ⟨b1, hb_b1⟩ : ∃ zz_, zz_ = (w).heap.size := ⟨_, rfl⟩
  obtain ⟨w1, hw_w1⟩ : ∃ zz_, zz_ = (w).alloc (.cells #[.bool f, .bool c, .bool t] 87) := ⟨_, rfl⟩
  have h_HO1 := (h).alloc (.cells #[.bool f, .bool c, .bool t] 87)
  rw [← hb_b1, ← hw_w1] at h_HO1
  have HO1 := Lib.hid h_HO1
  clear h_HO1
  have c0 : w1.cell? ⟨b1, 0, none⟩ = some (.bool f) := (HO1.out.cell 0).trans rfl
  have c1 : w1.cell? ⟨b1, 1, none⟩ = some (.bool c) := (HO1.out.cell 1).trans rfl
  have c2 : w1.cell? ⟨b1, 2, none⟩ = some (.bool t) := (HO1.out.cell 2).trans rfl
  have H := Lib.hid h
  clear h
  go_enter Tryz.func29, Tryz.ntmps29
  go_upto_region 1 with fail
  rw [← hb_b1, ← hw_w1]
  clear hb_b1 hw_w1
  cases f <;> cases c <;> cases t
  all_goals
    go_wp2_with fail
    all_goals
      go_ret
      refine ⟨?_, HO1.out.drop⟩
      first
        | rfl
        | (refine congrArg (fun s => Ending.returned (Value.string s)) ?_; decide +kernel)
        | (exfalso; rename_i hh; exact absurd hh (by decide +kernel))
end Go.Proofs.YtdfjbnfdknpahaaGreatDoor
/- The reference's way: what is on it. -/
namespace Go.Proofs.YtdfjbnfdknpahaaGreatDoor
set_option linter.unusedVariables false
set_option linter.unusedSimpArgs false
open Go.RowKit
/-- Words with one blank between. -/
def joinB (ws : List (List UInt8)) : List UInt8 := match ws with
  | [] => []
  | x :: r => x ++ r.flatMap fun y => 32 :: y
def rowW (ws : List (List UInt8)) : List UInt8 := if ws = [] then [45] else joinB ws
theorem joinB_snoc (ws : List (List UInt8)) (x : List UInt8) : joinB (ws ++ [x]) = (if ws = [] then [] else joinB ws ++ [32]) ++ x := by
  cases ws with
  | nil => simp [joinB]
  | cons y r => simp [joinB]
theorem rowC_join (l : List Int) : rowC l = joinB (l.map fun x => Lib.decDigits x.toNat) := by
  cases l with
  | nil => rfl
  | cons x r => simp [rowC, joinB, List.flatMap_map]
theorem rowT_row (l : List Int) : rowT l = rowW (l.map fun x => Lib.decDigits x.toNat) := by
  unfold rowT rowW
  rw [← rowC_join]
  cases l <;> simp
def pkB (p : Ev) : List UInt8 := Lib.decDigits p.1.toNat ++ [62] ++ Lib.decDigits p.2.1.toNat ++ [58] ++ Lib.decDigits p.2.2.toNat
def wayT (ps : List Ev) : List UInt8 := rowW (ps.map pkB)
def pkSmall (p : Ev) : Prop := (0 ≤ p.1 ∧ p.1 ≤ 1000000) ∧ (0 ≤ p.2.1 ∧ p.2.1 ≤ 1000000) ∧ (0 ≤ p.2.2 ∧ p.2.2 ≤ 1000000)
theorem pkB_len {p : Ev} (h : pkSmall p) : 1 ≤ (pkB p).length ∧ (pkB p).length ≤ 3000010 := by
  obtain ⟨h1, h2, h3⟩ := h
  have d1 := dec_len p.1.toNat
  have d2 := dec_len p.2.1.toNat
  have d3 := dec_len p.2.2.toNat
  unfold pkB
  simp only [List.length_append, List.length_cons, List.length_nil]
  omega
theorem joinB_len {ws : List (List UInt8)} {m : Nat} (h : ∀ x ∈ ws, x.length ≤ m) : (joinB ws).length ≤ ws.length * (m + 1) := by
  have key : ∀ (q : List (List UInt8)), (∀ x ∈ q, x.length ≤ m) → (q.flatMap fun y => 32 :: y).length ≤ q.length * (m + 1) := by
    intro q
    induction q with
    | nil => intro _; simp
    | cons y q ih =>
      intro hq
      have h3 := hq y (List.mem_cons_self ..)
      have h4 := ih (fun z hz => hq z (List.mem_cons_of_mem _ hz))
      rw [List.flatMap_cons, List.length_append, List.length_cons, List.length_cons, Nat.succ_mul]
      omega
  cases ws with
  | nil => simp [joinB]
  | cons x r =>
    have := key r (fun z hz => h z (List.mem_cons_of_mem _ hz))
    have h3 := h x (List.mem_cons_self ..)
    unfold joinB
    rw [List.length_append, List.length_cons, Nat.succ_mul]
    omega
theorem joinB_ne {ws : List (List UInt8)} (h : ws ≠ []) (hx : ∀ x ∈ ws, x ≠ []) : joinB ws ≠ [] := by
  cases ws with
  | nil => exact absurd rfl h
  | cons x r =>
    unfold joinB
    intro hc
    exact hx x (List.mem_cons_self ..) (List.append_eq_nil_iff.1 hc).1
theorem add_let (A B : ByteArray) (hA : A.size ≤ 2000000000000) (hB : B.size ≤ 2000000000000) : ∃ C, C = A ++ B ∧ C.size = A.size + B.size ∧ ∀ w : World, (Op.stringOp .add A B).run Tryz.prog w = .ok (.string C) w :=
  ⟨_, rfl, ByteArray.size_append .., fun w => run_string_add_sum _ _ _ (by omega)⟩
theorem tx_tests {T : ByteArray} (hq0 : T.toList ≠ []) : (T.toList == ByteArray.toList ⟨#[]⟩) = false ∧ (T.toList == []) = false ∧ T.toList.isEmpty = false := by
  refine ⟨?_, ?_, ?_⟩
  · rw [beq_eq_false_iff_ne, ByteArray.toList_eq ⟨#[]⟩]
    exact hq0
  · rw [beq_eq_false_iff_ne]; exact hq0
  · rw [List.isEmpty_eq_false_iff]; exact hq0
set_option maxRecDepth 100000 in
set_option maxHeartbeats 4000000 in
theorem rway_any {w : World} (v : Value) (ps : List Ev) (hv : Evs w v ps) (hb : ∀ p ∈ ps, pkSmall p) (hn : ps.length ≤ 1000) :
    Calls Tryz.prog 28 #[v] w fun e w' => e = .returned (.string (tx (wayT ps))) ∧ w = w' := by
  obtain ⟨ad, cap, rfl, hc1, hc2⟩ := hv.shape
  obtain ⟨n, hnn⟩ : ∃ n, n = ps.length := ⟨_, rfl⟩
  rw [← hnn] at hv hc1 hn ⊢
  have HRD : Hid (ReadsE w emp (.slice ad n cap) ps) := Lib.hid hv.reads
  have HV := Lib.hid hv; have HB := Lib.hid hb; have HNN := Lib.hid hnn
  clear hv hb hnn
  go_enter Tryz.func28, Tryz.ntmps28
  go_wp2_with fail
  go_loop [3, 4] (fun sv iv => ∃ k : Nat, k ≤ n ∧ iv = .int .i64 k ∧ sv = .string (tx (joinB ((ps.map pkB).take k)))) (fun _ iv => n - (intOf iv).toNat)
  case atStart => exact ⟨0, Nat.zero_le _, rfl, rfl⟩
  case round =>
    obtain ⟨k, hk, rfl, rfl⟩ := hrel
    by_cases hlt : k < n
    rotate_left
    · have hkn : k = n := by omega
      subst hkn
      have hfull : (ps.map pkB).take k = ps.map pkB := List.take_of_length_le (by rw [List.length_map]; have := HNN.out; omega)
      rw [hfull]
      by_cases hl0 : ps = []
      · subst hl0
        rw [show tx (joinB (([] : List Ev).map pkB)) = ⟨#[]⟩ from rfl]
        go_wp2_with fail
        go_ret
        exact ⟨rfl, rfl⟩
      · have hne : joinB (ps.map pkB) ≠ [] := joinB_ne (by simpa using hl0) (fun x hx => by
          obtain ⟨p, hp, rfl⟩ := List.mem_map.1 hx
          have := (pkB_len (HB.out p hp)).1
          intro hc
          rw [hc] at this
          simp at this)
        have hrt : wayT ps = joinB (ps.map pkB) := by unfold wayT rowW; rw [if_neg (by simpa using hl0)]
        have hq0 := tx_ne hne
        obtain ⟨T, hT⟩ : ∃ T, T = tx (joinB (ps.map pkB)) := ⟨_, rfl⟩
        have hrt2 : T = tx (wayT ps) := by rw [hrt]; exact hT
        rw [← hT] at hq0 ⊢
        obtain ⟨hq1, hq2, hq3⟩ := tx_tests hq0
        have HT := Lib.hid hT; have HNE := Lib.hid hne; have HL0 := Lib.hid hl0; have HRT := Lib.hid hrt; have HFULL := Lib.hid hfull; have HRT2 := Lib.hid hrt2
        clear hT hne hl0 hrt hfull hrt2
        go_wp2_with fail
        go_ret
        exact ⟨congrArg (fun t => Ending.returned (Value.string t)) HRT2.out, rfl⟩
    have hkl : k < ps.length := by rw [← HNN.out]; exact hlt
    obtain ⟨aa, eb, eo, es, e1, hea, hcs, _⟩ := HRD.out.at (Own.start w) k hkl
    subst e1
    obtain ⟨g0, g1, g2⟩ := hcs _ (Own.start w)
    have hev : evAt ps k = ps[k] := by unfold evAt; rw [List.getD_eq_getElem?_getD, List.getElem?_eq_getElem hkl]; rfl
    have hbk := HB.out _ (List.getElem_mem hkl)
    have hkm : k < (ps.map pkB).length := by rw [List.length_map]; exact hkl
    have hsn := joinB_snoc ((ps.map pkB).take k) (ps.map pkB)[k]
    rw [← List.take_succ_eq_append_getElem hkm, List.getElem_map] at hsn
    rw [hev] at g0 g1 g2
    obtain ⟨x, hx⟩ : ∃ x, x = ps[k] := ⟨_, rfl⟩
    rw [← hx] at g0 g1 g2 hsn hbk
    obtain ⟨⟨b1, b2⟩, ⟨b3, b4⟩, ⟨b5, b6⟩⟩ := hbk
    obtain ⟨m1, hm1⟩ : ∃ m : Nat, x.1 = (m : Int) := ⟨x.1.toNat, by omega⟩
    obtain ⟨m2, hm2⟩ : ∃ m : Nat, x.2.1 = (m : Int) := ⟨x.2.1.toNat, by omega⟩
    obtain ⟨m3, hm3⟩ : ∃ m : Nat, x.2.2 = (m : Int) := ⟨x.2.2.toNat, by omega⟩
    have hpk : pkB x = Lib.decDigits m1 ++ [62] ++ Lib.decDigits m2 ++ [58] ++ Lib.decDigits m3 := by
      unfold pkB; rw [hm1, hm2, hm3, Int.toNat_natCast, Int.toNat_natCast, Int.toNat_natCast]
    rw [hm1] at g0 b2
    rw [hm2] at g1 b4
    rw [hm3] at g2 b6
    have hdg1 := digits_any m1 (by omega) w
    have hdg2 := digits_any m2 (by omega) w
    have hdg3 := digits_any m3 (by omega) w
    have hz1 := (dec_len m1).2
    have hz2 := (dec_len m2).2
    have hz3 := (dec_len m3).2
    have hlen : (joinB ((ps.map pkB).take k)).length ≤ 1000 * 3000011 := by
      have h1 := joinB_len (ws := (ps.map pkB).take k) (m := 3000010) (fun y hy => by
        obtain ⟨p, hp, rfl⟩ := List.mem_map.1 (List.mem_of_mem_take hy)
        exact (pkB_len (HB.out p hp)).2)
      have h2 : ((ps.map pkB).take k).length ≤ 1000 := by rw [List.length_take]; omega
      exact Nat.le_trans h1 (Nat.mul_le_mul_right _ h2)
    -- what stands ahead of the packet
    obtain ⟨A, hAe, hA1, hA2, hcase⟩ : ∃ A : ByteArray, tx (joinB ((ps.map pkB).take (k + 1))) = A ++ tx (pkB x) ∧ A.size ≤ 3000012000 ∧ ((k = 0 → A = ⟨#[]⟩) ∧ (k ≠ 0 → A = tx (joinB ((ps.map pkB).take k)) ++ tx [32])) ∧ True := by
      by_cases hk0 : k = 0
      · subst hk0
        rw [show (ps.map pkB).take 0 = [] from rfl, if_pos rfl, List.nil_append] at hsn
        refine ⟨⟨#[]⟩, ?_, by show 0 ≤ _; omega, ⟨fun _ => rfl, fun h => absurd rfl h⟩, trivial⟩
        rw [hsn]
        apply ByteArray.ext
        simp
      · have hne : (ps.map pkB).take k ≠ [] := by
          intro hc
          have h3 := congrArg List.length hc
          rw [List.length_take, List.length_nil] at h3
          omega
        rw [if_neg hne] at hsn
        refine ⟨tx (joinB ((ps.map pkB).take k)) ++ tx [32], by rw [hsn, tx_add, tx_add], ?_, ⟨fun h => absurd h hk0, fun _ => rfl⟩, trivial⟩
        rw [ByteArray.size_append, tx_size, tx_size]
        simp only [List.length_cons, List.length_nil]
        omega
    obtain ⟨D1, hD1⟩ : ∃ D, D = tx (Lib.decDigits m1) := ⟨_, rfl⟩
    obtain ⟨D2, hD2⟩ : ∃ D, D = tx (Lib.decDigits m2) := ⟨_, rfl⟩
    obtain ⟨D3, hD3⟩ : ∃ D, D = tx (Lib.decDigits m3) := ⟨_, rfl⟩
    have s1 : D1.size ≤ 1000001 := by rw [hD1, tx_size]; omega
    have s2 : D2.size ≤ 1000001 := by rw [hD2, tx_size]; omega
    have s3 : D3.size ≤ 1000001 := by rw [hD3, tx_size]; omega
    rw [← hD1] at hdg1
    rw [← hD2] at hdg2
    rw [← hD3] at hdg3
    obtain ⟨X1, x1, z1, a1⟩ := add_let A D1 (by omega) (by omega)
    obtain ⟨X2, x2, z2, a2⟩ := add_let X1 ⟨#[62]⟩ (by omega) (by show 1 ≤ _; omega)
    have y2 : X2.size = X1.size + 1 := z2
    obtain ⟨X3, x3, z3, a3⟩ := add_let X2 D2 (by omega) (by omega)
    obtain ⟨X4, x4, z4, a4⟩ := add_let X3 ⟨#[58]⟩ (by omega) (by show 1 ≤ _; omega)
    have y4 : X4.size = X3.size + 1 := z4
    obtain ⟨X5, x5, z5, a5⟩ := add_let X4 D3 (by omega) (by omega)
    have hfin : X5 = tx (joinB ((ps.map pkB).take (k + 1))) := by
      rw [hAe, hpk, x5, x4, x3, x2, x1, hD1, hD2, hD3, ← tx_add, ← tx_add, ← tx_add, ← tx_add]
      apply ByteArray.ext
      simp [ByteArray.data_append, tx]
    have i0 : (0 : Int) ≤ (k : Int) := by omega
    have iN : (k : Int) < (n : Int) := by omega
    clear hcs hev
    by_cases hk0 : k = 0
    · have hA0 := hA2.1 hk0
      subst hk0
      rw [show tx (joinB ((ps.map pkB).take 0)) = ⟨#[]⟩ from rfl, ← hA0]
      have HSN := Lib.hid hsn; have HX := Lib.hid hx; have HM1 := Lib.hid hm1; have HM2 := Lib.hid hm2; have HM3 := Lib.hid hm3; have HPK := Lib.hid hpk; have HAE := Lib.hid hAe; have HA2 := Lib.hid hA2; have HA0 := Lib.hid hA0; have HLEN := Lib.hid hlen; have HFIN := Lib.hid hfin; have X1 := Lib.hid x1; have X2 := Lib.hid x2; have X3 := Lib.hid x3; have X4 := Lib.hid x4; have X5 := Lib.hid x5; have Z1 := Lib.hid z1; have Z2 := Lib.hid z2; have Z3 := Lib.hid z3; have Z4 := Lib.hid z4; have Z5 := Lib.hid z5; have Y2 := Lib.hid y2; have Y4 := Lib.hid y4; have HD1 := Lib.hid hD1; have HD2 := Lib.hid hD2; have HD3 := Lib.hid hD3; have HDG1 := Lib.hid hdg1; have HDG2 := Lib.hid hdg2; have HDG3 := Lib.hid hdg3; have B1 := Lib.hid b1; have B3 := Lib.hid b3; have B5 := Lib.hid b5
      clear hsn hx hm1 hm2 hm3 hpk hAe hA2 hA0 hlen hfin x1 x2 x3 x4 x5 z1 z2 z3 z4 z5 y2 y4 hD1 hD2 hD3 hdg1 hdg2 hdg3 b1 b3 b5
      go_wp2_with fail
      refine HDG1.out.mono ?_
      rintro e w2 ⟨rfl, rfl⟩
      go_wp2_with fail
      refine HDG2.out.mono ?_
      rintro e w2 ⟨rfl, rfl⟩
      go_wp2_with fail
      refine HDG3.out.mono ?_
      rintro e w2 ⟨rfl, rfl⟩
      go_wp2_with fail
      go_round
      case rel => exact ⟨0 + 1, by omega, by go_num, by rw [HFIN.out]⟩
      case measure => simp [intOf]; omega
    · have hA0 := hA2.2 hk0
      have k0 : (0 : Int) < (k : Int) := by omega
      obtain ⟨P0, hP0⟩ : ∃ P, P = tx (joinB ((ps.map pkB).take k)) := ⟨_, rfl⟩
      rw [← hP0] at hA0 ⊢
      have hps : P0.size ≤ 3000011000 := by rw [hP0, tx_size]; omega
      have a0 : ∀ w : World, (Op.stringOp .add P0 ⟨#[32]⟩).run Tryz.prog w = .ok (.string A) w := fun w => by
        rw [hA0]
        exact run_string_add_sum _ _ _ (by show _ + 1 ≤ _; omega)
      have HSN := Lib.hid hsn; have HX := Lib.hid hx; have HM1 := Lib.hid hm1; have HM2 := Lib.hid hm2; have HM3 := Lib.hid hm3; have HPK := Lib.hid hpk; have HAE := Lib.hid hAe; have HA2 := Lib.hid hA2; have HA0 := Lib.hid hA0; have HLEN := Lib.hid hlen; have HFIN := Lib.hid hfin; have X1 := Lib.hid x1; have X2 := Lib.hid x2; have X3 := Lib.hid x3; have X4 := Lib.hid x4; have X5 := Lib.hid x5; have Z1 := Lib.hid z1; have Z2 := Lib.hid z2; have Z3 := Lib.hid z3; have Z4 := Lib.hid z4; have Z5 := Lib.hid z5; have Y2 := Lib.hid y2; have Y4 := Lib.hid y4; have HD1 := Lib.hid hD1; have HD2 := Lib.hid hD2; have HD3 := Lib.hid hD3; have HDG1 := Lib.hid hdg1; have HDG2 := Lib.hid hdg2; have HDG3 := Lib.hid hdg3; have B1 := Lib.hid b1; have B3 := Lib.hid b3; have B5 := Lib.hid b5; have HP0 := Lib.hid hP0; have HK0 := Lib.hid hk0
      clear hsn hx hm1 hm2 hm3 hpk hAe hA2 hA0 hlen hfin x1 x2 x3 x4 x5 z1 z2 z3 z4 z5 y2 y4 hD1 hD2 hD3 hdg1 hdg2 hdg3 b1 b3 b5 hP0 hk0
      go_wp2_with fail
      refine HDG1.out.mono ?_
      rintro e w2 ⟨rfl, rfl⟩
      go_wp2_with fail
      refine HDG2.out.mono ?_
      rintro e w2 ⟨rfl, rfl⟩
      go_wp2_with fail
      refine HDG3.out.mono ?_
      rintro e w2 ⟨rfl, rfl⟩
      go_wp2_with fail
      go_round
      case rel => exact ⟨k + 1, by omega, by go_num, by rw [HFIN.out]⟩
      case measure => simp [intOf]; omega
end Go.Proofs.YtdfjbnfdknpahaaGreatDoor
/- strings.Join with a blank between, over the library's contract; run's row. -/
namespace Go.Proofs.YtdfjbnfdknpahaaGreatDoor
set_option linter.unusedVariables false
set_option linter.unusedSimpArgs false
open Go.RowKit
theorem Own.und {w0 w w' : World} {P : HProp} (h : Own w0 P w) (hb : Below w.heap.size w w') : Own w0 P w' := by
  obtain ⟨hbel, x, a, hx⟩ := h
  refine ⟨hbel.trans ⟨hb.os, hb.tape, hb.output, hb.size, fun k hk => hb.block k (Nat.lt_of_lt_of_le hk hbel.size)⟩, x, fun k o hk => ?_, hx⟩
  have h1 := a k o hk
  refine ⟨h1.1, ?_⟩
  rw [hb.block k, h1.2]
  rcases Nat.lt_or_ge k w.heap.size with h' | h'
  · exact h'
  · have := h1.2; rw [Array.getElem?_eq_none h'] at this; cases this
theorem join_tx : ∀ ls : List (List UInt8), Lib.join ((ls.map tx).map (·.data.toList)) [32] = joinB ls := by
  intro ls
  rw [List.map_map]
  have e : ((fun x : ByteArray => x.data.toList) ∘ tx) = id := by funext x; exact tx_list x
  rw [e, List.map_id]
  cases ls with
  | nil => rfl
  | cons x r =>
    rw [Lib.join_cons]
    unfold Lib.joinTail
    rw [joinB, List.flatMap_def]
    rfl
set_option maxRecDepth 100000 in
set_option maxHeartbeats 4000000 in
theorem stJoin_any {w0 w : World} {R : HProp} (v : Value) (ls : List (List UInt8)) (hne : ls ≠ []) (hl : ls.length ≤ 100000) (hb : (joinB ls).length ≤ 100000000) (h : Own w0 (StSl v ls * R) w) :
    Calls Tryz.prog 106 #[v, .string ⟨#[32]⟩] w fun e w' => e = .returned (.string (tx (joinB ls))) ∧ Own w0 (StSl v ls * R) w' := by
  have hpos : 0 < (ls.map fun l => Value.string (tx l)).length := by
    rw [List.length_map]
    cases ls with
    | nil => exact absurd rfl hne
    | cons x r => simp
  obtain ⟨b, off, cap, rfl, h1, h2, h3, _, _, h6, _⟩ := Own.sl_at h hpos
  have e1 := join_tx ls
  have hJ := Any.strings_Join joL joX b off cap (ls.map tx) ⟨#[32]⟩ w (fun j x hj => h3 j _ (by
    rw [List.getElem?_map] at hj ⊢
    cases hx : ls[j]? with
    | none => rw [hx] at hj; cases hj
    | some y => rw [hx] at hj; cases hj; rfl)) h6 (by rw [List.length_map]; omega) (by rw [List.length_map]; exact h1) (by
      show (Lib.join _ [32]).length ≤ _
      rw [e1]; omega)
  rw [List.length_map] at hJ
  refine Calls.mono hJ ?_
  rintro e w' ⟨rfl, hb'⟩
  refine ⟨?_, h.und hb'⟩
  show Ending.returned (Value.string ⟨(Lib.join _ [32]).toArray⟩) = _
  rw [e1]
  rfl
set_option maxRecDepth 100000 in
set_option maxHeartbeats 4000000 in
theorem prow_any {w0 w : World} {R : HProp} (v : Value) (ls : List (List UInt8)) (hl : ls.length ≤ 100000) (hb : (joinB ls).length ≤ 100000000) (h : Own w0 (StSl v ls * R) w) :
    Calls Tryz.prog 80 #[v] w fun e w' => e = .returned (.string (tx (rowW ls))) ∧ Own w0 (StSl v ls * R) w' := by
  obtain ⟨n, hn⟩ : ∃ n, n = ls.length := ⟨_, rfl⟩
  have hrd := h.rd
  rw [← hn] at hrd
  obtain ⟨ad, cap, rfl, hc1, hc2, hc3, hc4⟩ := hrd
  by_cases h0 : ls = []
  · have hn0 : n = 0 := by rw [hn, h0]; rfl
    subst hn0
    have e1 : rowW ls = [45] := by unfold rowW; rw [if_pos h0]
    rw [e1]
    have e2 : tx [45] = ⟨#[45]⟩ := rfl
    rw [e2]
    have H := Lib.hid h; have HN := Lib.hid hn; have HC4 := Lib.hid hc4
    clear h hn hc4
    go_enter Tryz.func80, Tryz.ntmps80
    go_wp2_with fail
    go_ret
    exact ⟨rfl, H.out⟩
  · have hn0 : ((n : Int) == 0) = false := by
      rw [beq_eq_false_iff_ne]
      cases ls with
      | nil => exact absurd rfl h0
      | cons x r => rw [hn]; simp; omega
    have e1 : rowW ls = joinB ls := by unfold rowW; rw [if_neg h0]
    rw [e1]
    have hJ := stJoin_any _ ls h0 hl hb h
    obtain ⟨T, hT⟩ : ∃ T, T = tx (joinB ls) := ⟨_, rfl⟩
    rw [← hT] at hJ ⊢
    have H := Lib.hid h; have HN := Lib.hid hn; have HC4 := Lib.hid hc4; have HJ := Lib.hid hJ; have HT := Lib.hid hT
    clear h hn hc4 hJ hT
    go_enter Tryz.func80, Tryz.ntmps80
    go_wp2_with fail
    refine HJ.out.mono ?_
    rintro e w2 ⟨rfl, hO⟩
    have HO := Lib.hid hO
    clear hO
    go_wp2_with fail
    go_ret
    exact ⟨rfl, HO.out⟩
end Go.Proofs.YtdfjbnfdknpahaaGreatDoor
/- strconv.Itoa at every int: that the loaded program bears the texts that the library's contracts speak of. -/
namespace Go.Proofs.YtdfjbnfdknpahaaGreatDoor
set_option linter.unusedVariables false
set_option linter.unusedSimpArgs false
open Go.RowKit Go.Proofs
def itRen : Go.Shelf.Ren := ⟨fun | 129 => 159 | 171 => 79 | 243 => 105 | 246 => 121 | 283 => 144 | 284 => 145 | 285 => 146 | 286 => 147 | 317 => 158 | 318 => 160 | 319 => 161 | 320 => 162 | 337 => 167 | 338 => 168 | n => n, fun | 0 => 0 | 2 => 2 | 3 => 3 | 4 => 4 | 5 => 5 | 9 => 9 | 20 => 20 | 37 => 40 | 46 => 220 | 51 => 242 | 53 => 229 | 171 => 228 | 173 => 232 | 212 => 251 | 213 => 252 | 232 => 261 | 233 => 262 | n => n, fun | 17 => 7 | 18 => 8 | 19 => 9 | n => n⟩
theorem itL : LaysM.n171 Tryz.prog itRen where
  mixed := by kernel_rfl
  f129 := Tryz.func159.trans (congrArg some (by kernel_rfl))
  f171 := Tryz.func79.trans (congrArg some (by kernel_rfl))
  f243 := Tryz.func105.trans (congrArg some (by kernel_rfl))
  f246 := Tryz.func121.trans (congrArg some (by kernel_rfl))
  f283 := Tryz.func144.trans (congrArg some (by kernel_rfl))
  f284 := Tryz.func145.trans (congrArg some (by kernel_rfl))
  f285 := Tryz.func146.trans (congrArg some (by kernel_rfl))
  f286 := Tryz.func147.trans (congrArg some (by kernel_rfl))
  f317 := Tryz.func158.trans (congrArg some (by kernel_rfl))
  f318 := Tryz.func160.trans (congrArg some (by kernel_rfl))
  f319 := Tryz.func161.trans (congrArg some (by kernel_rfl))
  f320 := Tryz.func162.trans (congrArg some (by kernel_rfl))
  f337 := Tryz.func167.trans (congrArg some (by kernel_rfl))
  f338 := Tryz.func168.trans (congrArg some (by kernel_rfl))
  t0 := Tryz.underlying0
  a0 := Tryz.isAgg0
  z0 := Tryz.sizeOf0
  v0 := Tryz.zeroValue0
  t2 := Tryz.underlying2
  a2 := Tryz.isAgg2
  z2 := Tryz.sizeOf2
  v2 := Tryz.zeroValue2
  t3 := Tryz.underlying3
  a3 := Tryz.isAgg3
  z3 := Tryz.sizeOf3
  v3 := Tryz.zeroValue3
  t4 := Tryz.underlying4
  a4 := Tryz.isAgg4
  z4 := Tryz.sizeOf4
  v4 := Tryz.zeroValue4
  t5 := Tryz.underlying5
  a5 := Tryz.isAgg5
  z5 := Tryz.sizeOf5
  v5 := Tryz.zeroValue5
  t9 := Tryz.underlying9
  a9 := Tryz.isAgg9
  z9 := Tryz.sizeOf9
  v9 := Tryz.zeroValue9
  t20 := Tryz.underlying20
  a20 := Tryz.isAgg20
  z20 := Tryz.sizeOf20
  v20 := Tryz.zeroValue20
  t37 := Tryz.underlying40
  a37 := Tryz.isAgg40
  z37 := Tryz.sizeOf40
  v37 := Tryz.zeroValue40
  t46 := Tryz.underlying220
  a46 := Tryz.isAgg220
  z46 := Tryz.sizeOf220
  v46 := Tryz.zeroValue220
  t51 := Tryz.underlying242
  a51 := Tryz.isAgg242
  z51 := Tryz.sizeOf242
  v51 := Tryz.zeroValue242
  t53 := Tryz.underlying229
  a53 := Tryz.isAgg229
  z53 := Tryz.sizeOf229
  v53 := Tryz.zeroValue229
  t171 := Tryz.underlying228
  a171 := Tryz.isAgg228
  z171 := Tryz.sizeOf228
  v171 := Tryz.zeroValue228
  t173 := Tryz.underlying232
  a173 := Tryz.isAgg232
  z173 := Tryz.sizeOf232
  v173 := Tryz.zeroValue232
  t212 := Tryz.underlying251
  a212 := Tryz.isAgg251
  z212 := Tryz.sizeOf251
  v212 := Tryz.zeroValue251
  t213 := Tryz.underlying252
  a213 := Tryz.isAgg252
  z213 := Tryz.sizeOf252
  t232 := Tryz.underlying261
  a232 := Tryz.isAgg261
  z232 := Tryz.sizeOf261
  v232 := Tryz.zeroValue261
  t233 := Tryz.underlying262
  a233 := Tryz.isAgg262
  z233 := Tryz.sizeOf262
  v233 := Tryz.zeroValue262
  g17 := by kernel_rfl
  g18 := by kernel_rfl
  g19 := by kernel_rfl
  i0 := by kernel_rfl
  i2 := by kernel_rfl
  i3 := by kernel_rfl
  i4 := by kernel_rfl
  i5 := by kernel_rfl
  i9 := by kernel_rfl
  i20 := by kernel_rfl
  i37 := by kernel_rfl
  i46 := by kernel_rfl
  i51 := by kernel_rfl
  i53 := by kernel_rfl
  i171 := by kernel_rfl
  i173 := by kernel_rfl
  i212 := by kernel_rfl
  i232 := by kernel_rfl
  i233 := by kernel_rfl
  m17 := by kernel_rfl
  m18 := by kernel_rfl
  m19 := by kernel_rfl
end Go.Proofs.YtdfjbnfdknpahaaGreatDoor
