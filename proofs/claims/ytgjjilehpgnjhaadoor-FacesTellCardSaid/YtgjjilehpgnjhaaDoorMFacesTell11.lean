/- The reference's table of who is ahead of whom, continued: what lies between; Befores. -/
import Derived.Test.YtgjjilehpgnjhaaDoorMFacesTell10
import Derived.Test.YtgjjilehpgnjhaaDoorMFacesTell7
namespace Go.Proofs.YtgjjilehpgnjhaaDoor
set_option linter.unusedVariables false
set_option linter.unusedSimpArgs false
open Go.RowKit
noncomputable def rbMidRow_code : Code := ((Tryd.f13.body.bind (findBlock 8)).getD .skip)
set_option maxRecDepth 1000000 in
set_option maxHeartbeats 4000000 in
theorem rbMidRow {Q : Exit → Act → World → Prop} {u1 u2 u4 u5 u9 u10 u11 u12 u13 u14 u15 u16 u17 u18 u19 u20 u21 u22 u23 u24 u25 u26 u27 u28 u29 u30 u31 u32 u33 u34 u35 u36 u37 u38 u39 u40 u41 u42 u43 u44 u45 u46 u47 u48 u49 u50 u51 u52 u53 u54 u55 u56 u57 u58 u59 u60 u61 u62 u63 u64 u65 u66 u67 u68 u69 u70 u71 u72 u73 u74 u75 u76 u77 u78 u79 u80 u81 u82 u83 u84 u85 u86 u87 u88 u89 u90 u91 u92 u93 u94 u95 u96 u97 u98 u99 u100 u101 u102 : Value} {w1 : World} (w : World) (R : HProp) (tb n m i hcap : Nat) (had : Option Addr) (hs : List Ev) (hm : m < n) (hi : i < m) (hn : n ≤ 60) (hc1 : n ≤ hcap) (hc2 : hcap ≤ 9223372036854775807) (HLN : Hid (hs.length = n)) (HP : Hid (Own w (T60 tb (tMid hs m i 0) * R) w1))
    (hK : ∀ (v8 v80 v81 v82 v83 v84 v85 v86 v87 v88 v89 v90 v91 v92 v93 v94 v95 v96 v97 v98 v99 v100 v101 : Value) (wx : World), (Own w (T60 tb (tMid hs m (i + 1) 0) * R) wx) → Q .normal ⟨List.toArray ((.slice had n hcap) :: u1 :: u2 :: (.pointer (some ⟨tb, 0, none⟩)) :: u4 :: u5 :: (.int .i64 (m : Int)) :: (.int .i64 (i : Int)) :: v8 :: u9 :: u10 :: u11 :: u12 :: u13 :: u14 :: u15 :: u16 :: u17 :: u18 :: u19 :: u20 :: u21 :: u22 :: u23 :: u24 :: u25 :: u26 :: u27 :: u28 :: u29 :: u30 :: u31 :: u32 :: u33 :: u34 :: u35 :: u36 :: u37 :: u38 :: u39 :: u40 :: u41 :: u42 :: u43 :: u44 :: u45 :: u46 :: u47 :: u48 :: u49 :: u50 :: u51 :: u52 :: u53 :: u54 :: u55 :: u56 :: u57 :: u58 :: u59 :: u60 :: u61 :: u62 :: u63 :: u64 :: u65 :: u66 :: u67 :: u68 :: u69 :: u70 :: u71 :: u72 :: u73 :: u74 :: u75 :: u76 :: u77 :: u78 :: u79 :: v80 :: v81 :: v82 :: v83 :: v84 :: v85 :: v86 :: v87 :: v88 :: v89 :: v90 :: v91 :: v92 :: v93 :: v94 :: v95 :: v96 :: v97 :: v98 :: v99 :: v100 :: v101 :: u102 :: []), []⟩ wx) :
    Code.wp Tryd.prog rbMidRow_code Q ⟨List.toArray ((.slice had n hcap) :: u1 :: u2 :: (.pointer (some ⟨tb, 0, none⟩)) :: u4 :: u5 :: (.int .i64 (m : Int)) :: (.int .i64 (i : Int)) :: (.int .i64 ((m : Int) + 1)) :: u9 :: u10 :: u11 :: u12 :: u13 :: u14 :: u15 :: u16 :: u17 :: u18 :: u19 :: u20 :: u21 :: u22 :: u23 :: u24 :: u25 :: u26 :: u27 :: u28 :: u29 :: u30 :: u31 :: u32 :: u33 :: u34 :: u35 :: u36 :: u37 :: u38 :: u39 :: u40 :: u41 :: u42 :: u43 :: u44 :: u45 :: u46 :: u47 :: u48 :: u49 :: u50 :: u51 :: u52 :: u53 :: u54 :: u55 :: u56 :: u57 :: u58 :: u59 :: u60 :: u61 :: u62 :: u63 :: u64 :: u65 :: u66 :: u67 :: u68 :: u69 :: u70 :: u71 :: u72 :: u73 :: u74 :: u75 :: u76 :: u77 :: u78 :: u79 :: u80 :: u81 :: u82 :: u83 :: u84 :: u85 :: u86 :: u87 :: u88 :: u89 :: u90 :: u91 :: u92 :: u93 :: u94 :: u95 :: u96 :: u97 :: u98 :: u99 :: u100 :: u101 :: u102 :: []), []⟩ w1 := by
  conv => arg 2; whnf
  have HK := Lib.hid hK
  clear hK
  obtain ⟨B, hB⟩ : ∃ B, B = tStage hs m i m := ⟨_, rfl⟩
  have HB := Lib.hid hB
  clear hB
  go_wp2_with fail
  go_loopw [8] (fun kv wr => ∃ k : Nat, k ≤ n ∧ m < k ∧ kv = .int .i64 k ∧ Hid (Own w (T60 tb (tMid hs m i k) * R) wr)) (fun kv _ => n - (intOf kv).toNat)
  case atStart => exact ⟨m + 1, by omega, by omega, by go_num, Lib.hid (by have := HP.out; rw [show tMid hs m i (m + 1) = tMid hs m i 0 from funext fun a => funext fun b => tMid_first hs m i a b]; exact this)⟩
  case round =>
    clear HP
    obtain ⟨k, hk, hmk, rfl, HO⟩ := hrel
    by_cases hlt : k < n
    rotate_left
    · have hkn : k = n := by omega
      subst hkn
      have HO2 : Hid (Own w (T60 tb (tMid hs m (i + 1) 0) * R) wr) := Lib.hid (by
        rw [show tMid hs m (i + 1) 0 = tMid hs m i k from funext fun a => funext fun b => by rw [← tMid_row, HLN.out]]; exact HO.out)
      go_wp2_with fail
      apply HK.out
      exact HO2.out
    have i0 : (0 : Int) ≤ (k : Int) := by omega
    have j0 : (0 : Int) ≤ (i : Int) := by omega
    have m0 : (0 : Int) ≤ (m : Int) := by omega
    have i6 : (k : Int) < 60 := by omega
    have j6 : (i : Int) < 60 := by omega
    have m6 : (m : Int) < 60 := by omega
    have b0 := HO.out.t60 (i := i) (k := m) (by omega) (by omega)
    have b1 := HO.out.t60 (i := m) (k := k) (by omega) (by omega)
    have b2 := HO.out.t60 (i := i) (k := k) (by omega) (by omega)
    have b3 := HO.out.t60_free (i * 60 + k) none
    rw [tMid_low hs m i k i m (Nat.le_refl m), ← HB.out] at b0
    rw [tMid_own] at b1
    obtain ⟨C, hC⟩ : ∃ C, C = tStage hs m m k := ⟨_, rfl⟩
    rw [← hC] at b1
    have HC := Lib.hid hC
    clear hC
    cases B
    · have HO2 : Hid (Own w (T60 tb (tMid hs m (i + 1) 0) * R) wr) := Lib.hid (by
        have e1 : tMid hs m (i + 1) 0 = tMid hs m i k := by
          funext a b
          rw [← tMid_skip hs m i a b HB.out.symm]
          unfold tMid
          by_cases e : a = i
          · subst e; rw [← HB.out]; simp
          · rw [decide_eq_false e]; simp
        rw [e1]; exact HO.out)
      go_wp2_with fail
      apply HK.out
      exact HO2.out
    have hst := fun (a b : Nat) => tMid_step hs m i k a b hi hmk HB.out.symm
    rw [← HC.out] at hst
    cases C
    · have hsame : tMid hs m i k = tMid hs m i (k + 1) := by
        funext a b
        rw [hst]
        by_cases e : a = i ∧ b = k
        · rw [if_pos e, e.1, e.2, Bool.or_false]
        · rw [if_neg e]
      have HO3 : Hid (Own w (T60 tb (tMid hs m i (k + 1)) * R) wr) := Lib.hid (by rw [← hsame]; exact HO.out)
      clear hsame hst
      go_wp2_with fail
      go_roundw
      case rel => exact ⟨k + 1, by omega, by omega, by go_num, HO3⟩
      case measure => simp [intOf]; omega
    · have HO3 := Lib.hid (HO.out.t60_set (g := tMid hs m i (k + 1)) (i := i) (k := k) (by omega) (by omega) true (fun a b => by rw [hst, Bool.or_true]))
      clear hst
      go_wp2_with fail
      go_roundw
      case rel => exact ⟨k + 1, by omega, by omega, by go_num, HO3⟩
      case measure => simp [intOf]; omega
noncomputable def rbMid_code : Code := ((Tryd.f13.body.bind (findBlock 6)).getD .skip)
set_option maxRecDepth 1000000 in
set_option maxHeartbeats 4000000 in
theorem rbMid {Q : Exit → Act → World → Prop} {u1 u2 u4 u5 u8 u9 u10 u11 u12 u13 u14 u15 u16 u17 u18 u19 u20 u21 u22 u23 u24 u25 u26 u27 u28 u29 u30 u31 u32 u33 u34 u35 u36 u37 u38 u39 u40 u41 u42 u43 u44 u45 u46 u47 u48 u49 u50 u51 u52 u53 u54 u55 u56 u57 u58 u59 u60 u61 u62 u63 u64 u65 u66 u67 u68 u69 u70 u71 u72 u73 u74 u75 u76 u77 u78 u79 u80 u81 u82 u83 u84 u85 u86 u87 u88 u89 u90 u91 u92 u93 u94 u95 u96 u97 u98 u99 u100 u101 u102 : Value} {w1 : World} (w : World) (R : HProp) (tb n m hcap : Nat) (had : Option Addr) (hs : List Ev) (hm : m < n) (hn : n ≤ 60) (hc1 : n ≤ hcap) (hc2 : hcap ≤ 9223372036854775807) (HLN : Hid (hs.length = n)) (HP : Hid (Own w (T60 tb (tStage hs m) * R) w1))
    (hK : ∀ (v7 v8 v73 v74 v75 v76 v77 v78 v79 v80 v81 v82 v83 v84 v85 v86 v87 v88 v89 v90 v91 v92 v93 v94 v95 v96 v97 v98 v99 v100 v101 : Value) (wx : World), (Own w (T60 tb (tStage hs (m + 1)) * R) wx) → Q .normal ⟨List.toArray ((.slice had n hcap) :: u1 :: u2 :: (.pointer (some ⟨tb, 0, none⟩)) :: u4 :: u5 :: (.int .i64 (m : Int)) :: v7 :: v8 :: u9 :: u10 :: u11 :: u12 :: u13 :: u14 :: u15 :: u16 :: u17 :: u18 :: u19 :: u20 :: u21 :: u22 :: u23 :: u24 :: u25 :: u26 :: u27 :: u28 :: u29 :: u30 :: u31 :: u32 :: u33 :: u34 :: u35 :: u36 :: u37 :: u38 :: u39 :: u40 :: u41 :: u42 :: u43 :: u44 :: u45 :: u46 :: u47 :: u48 :: u49 :: u50 :: u51 :: u52 :: u53 :: u54 :: u55 :: u56 :: u57 :: u58 :: u59 :: u60 :: u61 :: u62 :: u63 :: u64 :: u65 :: u66 :: u67 :: u68 :: u69 :: u70 :: u71 :: u72 :: v73 :: v74 :: v75 :: v76 :: v77 :: v78 :: v79 :: v80 :: v81 :: v82 :: v83 :: v84 :: v85 :: v86 :: v87 :: v88 :: v89 :: v90 :: v91 :: v92 :: v93 :: v94 :: v95 :: v96 :: v97 :: v98 :: v99 :: v100 :: v101 :: u102 :: []), []⟩ wx) :
    Code.wp Tryd.prog rbMid_code Q ⟨List.toArray ((.slice had n hcap) :: u1 :: u2 :: (.pointer (some ⟨tb, 0, none⟩)) :: u4 :: u5 :: (.int .i64 (m : Int)) :: (.int .i64 0) :: u8 :: u9 :: u10 :: u11 :: u12 :: u13 :: u14 :: u15 :: u16 :: u17 :: u18 :: u19 :: u20 :: u21 :: u22 :: u23 :: u24 :: u25 :: u26 :: u27 :: u28 :: u29 :: u30 :: u31 :: u32 :: u33 :: u34 :: u35 :: u36 :: u37 :: u38 :: u39 :: u40 :: u41 :: u42 :: u43 :: u44 :: u45 :: u46 :: u47 :: u48 :: u49 :: u50 :: u51 :: u52 :: u53 :: u54 :: u55 :: u56 :: u57 :: u58 :: u59 :: u60 :: u61 :: u62 :: u63 :: u64 :: u65 :: u66 :: u67 :: u68 :: u69 :: u70 :: u71 :: u72 :: u73 :: u74 :: u75 :: u76 :: u77 :: u78 :: u79 :: u80 :: u81 :: u82 :: u83 :: u84 :: u85 :: u86 :: u87 :: u88 :: u89 :: u90 :: u91 :: u92 :: u93 :: u94 :: u95 :: u96 :: u97 :: u98 :: u99 :: u100 :: u101 :: u102 :: []), []⟩ w1 := by
  conv => arg 2; whnf
  have HK := Lib.hid hK
  clear hK
  go_wp2_with fail
  go_loopw [7] (fun iv wr => ∃ i : Nat, i ≤ m ∧ iv = .int .i64 i ∧ Hid (Own w (T60 tb (tMid hs m i 0) * R) wr)) (fun iv _ => m - (intOf iv).toNat)
  case atStart => exact ⟨0, Nat.zero_le _, rfl, Lib.hid (by rw [show tMid hs m 0 0 = tStage hs m from funext fun a => funext fun b => tMid_zero hs m a b]; exact HP.out)⟩
  case round =>
    clear HP
    obtain ⟨i, hi, rfl, HO⟩ := hrel
    by_cases hlt : i < m
    rotate_left
    · have hin : i = m := by omega
      subst hin
      have HO2 : Hid (Own w (T60 tb (tStage hs (i + 1)) * R) wr) := Lib.hid (by
        rw [show tStage hs (i + 1) = tMid hs i i 0 from funext fun a => funext fun b => (tMid_all hs i a b).symm]; exact HO.out)
      go_wp2_with fail
      apply HK.out
      exact HO2.out
    go_upto_block 8 with fail
    refine rbMidRow w R tb n m i hcap had hs hm hlt hn hc1 hc2 HLN HO ?_
    intros
    rename_i wq hcut
    have HO2 := Lib.hid hcut
    clear hcut HO
    go_wp2_with fail
    go_roundw
    case rel => exact ⟨i + 1, by omega, by go_num, HO2⟩
    case measure => simp [intOf]; omega
noncomputable def rbStage_code : Code := ((Tryd.f13.body.bind (findBlock 4)).getD .skip)
set_option maxRecDepth 1000000 in
set_option maxHeartbeats 4000000 in
theorem rbStage {Q : Exit → Act → World → Prop} {u1 u2 u4 u5 u7 u8 u9 u10 u11 u12 u13 u14 u15 u16 u17 u18 u19 u20 u21 u22 u23 u24 u25 u26 u27 u28 u29 u30 u31 u32 u33 u34 u35 u36 u37 u38 u39 u40 u41 u42 u43 u44 u45 u46 u47 u48 u49 u50 u51 u52 u53 u54 u55 u56 u57 u58 u59 u60 u61 u62 u63 u64 u65 u66 u67 u68 u69 u70 u71 u72 u73 u74 u75 u76 u77 u78 u79 u80 u81 u82 u83 u84 u85 u86 u87 u88 u89 u90 u91 u92 u93 u94 u95 u96 u97 u98 u99 u100 u101 u102 : Value} {w1 : World} (w : World) (R : HProp) (tb n hcap : Nat) (had : Option Addr) (hs : List Ev) (hn : n ≤ 60) (hc1 : n ≤ hcap) (hc2 : hcap ≤ 9223372036854775807) (HLN : Hid (hs.length = n)) (HP : Hid (Own w (T60 tb (tStage hs 0) * R) w1))
    (hK : ∀ (v6 v7 v8 v67 v68 v69 v70 v71 v72 v73 v74 v75 v76 v77 v78 v79 v80 v81 v82 v83 v84 v85 v86 v87 v88 v89 v90 v91 v92 v93 v94 v95 v96 v97 v98 v99 v100 v101 : Value) (wx : World), (Own w (T60 tb (fun i k => bef hs k i) * R) wx) → Q .normal ⟨List.toArray ((.slice had n hcap) :: u1 :: u2 :: (.pointer (some ⟨tb, 0, none⟩)) :: u4 :: u5 :: v6 :: v7 :: v8 :: u9 :: u10 :: u11 :: u12 :: u13 :: u14 :: u15 :: u16 :: u17 :: u18 :: u19 :: u20 :: u21 :: u22 :: u23 :: u24 :: u25 :: u26 :: u27 :: u28 :: u29 :: u30 :: u31 :: u32 :: u33 :: u34 :: u35 :: u36 :: u37 :: u38 :: u39 :: u40 :: u41 :: u42 :: u43 :: u44 :: u45 :: u46 :: u47 :: u48 :: u49 :: u50 :: u51 :: u52 :: u53 :: u54 :: u55 :: u56 :: u57 :: u58 :: u59 :: u60 :: u61 :: u62 :: u63 :: u64 :: u65 :: u66 :: v67 :: v68 :: v69 :: v70 :: v71 :: v72 :: v73 :: v74 :: v75 :: v76 :: v77 :: v78 :: v79 :: v80 :: v81 :: v82 :: v83 :: v84 :: v85 :: v86 :: v87 :: v88 :: v89 :: v90 :: v91 :: v92 :: v93 :: v94 :: v95 :: v96 :: v97 :: v98 :: v99 :: v100 :: v101 :: u102 :: []), []⟩ wx) :
    Code.wp Tryd.prog rbStage_code Q ⟨List.toArray ((.slice had n hcap) :: u1 :: u2 :: (.pointer (some ⟨tb, 0, none⟩)) :: u4 :: u5 :: (.int .i64 0) :: u7 :: u8 :: u9 :: u10 :: u11 :: u12 :: u13 :: u14 :: u15 :: u16 :: u17 :: u18 :: u19 :: u20 :: u21 :: u22 :: u23 :: u24 :: u25 :: u26 :: u27 :: u28 :: u29 :: u30 :: u31 :: u32 :: u33 :: u34 :: u35 :: u36 :: u37 :: u38 :: u39 :: u40 :: u41 :: u42 :: u43 :: u44 :: u45 :: u46 :: u47 :: u48 :: u49 :: u50 :: u51 :: u52 :: u53 :: u54 :: u55 :: u56 :: u57 :: u58 :: u59 :: u60 :: u61 :: u62 :: u63 :: u64 :: u65 :: u66 :: u67 :: u68 :: u69 :: u70 :: u71 :: u72 :: u73 :: u74 :: u75 :: u76 :: u77 :: u78 :: u79 :: u80 :: u81 :: u82 :: u83 :: u84 :: u85 :: u86 :: u87 :: u88 :: u89 :: u90 :: u91 :: u92 :: u93 :: u94 :: u95 :: u96 :: u97 :: u98 :: u99 :: u100 :: u101 :: u102 :: []), []⟩ w1 := by
  conv => arg 2; whnf
  have HK := Lib.hid hK
  clear hK
  go_wp2_with fail
  go_loopw [6] (fun mv wr => ∃ m : Nat, m ≤ n ∧ mv = .int .i64 m ∧ Hid (Own w (T60 tb (tStage hs m) * R) wr)) (fun mv _ => n - (intOf mv).toNat)
  case atStart => exact ⟨0, Nat.zero_le _, rfl, HP⟩
  case round =>
    clear HP
    obtain ⟨m, hm, rfl, HO⟩ := hrel
    by_cases hlt : m < n
    rotate_left
    · have hin : m = n := by omega
      subst hin
      have HO2 : Hid (Own w (T60 tb (fun i k => bef hs k i) * R) wr) := Lib.hid (by
        rw [show (fun i k => bef hs k i) = tStage hs m from funext fun a => funext fun b => by rw [← tStage_all, HLN.out]]; exact HO.out)
      go_wp2_with fail
      apply HK.out
      exact HO2.out
    go_upto_block 6 with fail
    refine rbMid w R tb n m hcap had hs hlt hn hc1 hc2 HLN HO ?_
    intros
    rename_i wq hcut
    have HO2 := Lib.hid hcut
    clear hcut HO
    go_wp2_with fail
    go_roundw
    case rel => exact ⟨m + 1, by omega, by go_num, HO2⟩
    case measure => simp [intOf]; omega
theorem zero60 : Tryd.zeroCells35 = cells60 (fun _ _ => false) := by kernel_rfl
set_option maxRecDepth 100000 in
set_option maxHeartbeats 4000000 in
theorem refBefores_any {w0 w : World} {R : HProp} (v : Value) (hs : List Ev) (h : Own w0 R w) (hv : ReadsE w0 R v hs) (hlen : hs.length ≤ 60) :
    Calls Tryd.prog 13 #[v] w fun e w' => e = .returned (.agg (cells60 fun i k => bef hs k i)) ∧ Own w0 R w' := by
  obtain ⟨ad, cap, rfl, hlc, hcap⟩ := (hv _ h).shape
  obtain ⟨n, hn⟩ : ∃ n, n = hs.length := ⟨_, rfl⟩
  rw [← hn] at hv hlc hlen ⊢
  have hcap' : cap ≤ 9223372036854775807 := hcap
  have HLN := Lib.hid hn.symm
  clear hn
  obtain ⟨rb, hb_rb⟩ : ∃ zz_, zz_ = (w).heap.size := ⟨_, rfl⟩
  obtain ⟨w1, hw_w1⟩ : ∃ zz_, zz_ = (w).alloc (.cells Tryd.zeroCells35 35) := ⟨_, rfl⟩
  have h_H1 := (h).alloc (.cells Tryd.zeroCells35 35)
  rw [← hb_rb, ← hw_w1] at h_H1
  have H1 := Lib.hid h_H1
  clear h_H1
  obtain ⟨tb, hb_tb⟩ : ∃ zz_, zz_ = (w1).heap.size := ⟨_, rfl⟩
  obtain ⟨w2, hw_w2⟩ : ∃ zz_, zz_ = (w1).alloc (.cells Tryd.zeroCells35 35) := ⟨_, rfl⟩
  have h_H2 := (H1.out).alloc (.cells Tryd.zeroCells35 35)
  rw [← hb_tb, ← hw_w2] at h_H2
  have H2 := Lib.hid h_H2
  clear h_H2
  have HP : Hid (Own w0 (T60 tb (tIni hs 0 0) * (T60 rb (fun _ _ => false) * R)) w2) := Lib.hid (by
    have h2 := H2.out
    rw [zero60] at h2
    rw [show tIni hs 0 0 = fun _ _ => false from funext fun a => funext fun b => tIni_zero hs a b]
    exact h2)
  clear H1 H2
  have H := Lib.hid h; have HV := Lib.hid hv
  clear h hv
  go_enter Tryd.func13, Tryd.ntmps13
  go_upto_block 0 with fail
  have hq_tb : rb + 1 = tb := by rw [hb_tb, hw_w1, hb_rb, World.size_alloc]
  rw [← hb_rb, hq_tb, ← hw_w1, ← hw_w2]
  clear hq_tb hb_rb hb_tb hw_w1 hw_w2
  go_cut [] (fun wx => Own w0 (T60 tb (tStage hs 0) * (T60 rb (fun _ _ => false) * R)) wx)
  case first =>
    refine rbIni w0 _ tb n cap ad hs hlen hlc hcap' HLN (Lib.hid HV.out.more) HP ?_
    intros
    go_step
    go_step
    go_meet
    assumption
  case rest =>
  have HO2 := Lib.hid hcut
  clear hcut HP
  go_upto_block 4 with fail
  go_cut [] (fun wx => Own w0 (T60 tb (fun i k => bef hs k i) * (T60 rb (fun _ _ => false) * R)) wx)
  case first =>
    refine rbStage w0 _ tb n cap ad hs hlen hlc hcap' HLN HO2 ?_
    intros
    go_step
    go_step
    go_meet
    assumption
  case rest =>
  have HO3 := Lib.hid hcut
  clear hcut HO2
  go_upto_region 21 with fail
  have HS : Hid (Own w0 (T60 rb (fun _ _ => false) * (T60 tb (fun i k => bef hs k i) * R)) wc) := Lib.hid (HO3.out.perm (star_left_comm _ _ _))
  refine wp_region_lit ?_
  refine wpList_load_row rfl 35 (.tmp 3) rfl tb rfl 35 (cells60 fun i k => bef hs k i) (0, 0) _ HO3.out.blk_at.1 und60 rfl (info60 _) ?_
  refine wpList_plain rfl fun K hK => wp_store_row 35 (.tmp 2) (.tmp 102) rfl rfl rb rfl 35 (cells60 fun _ _ => false) (cells60 fun i k => bef hs k i) rfl HS.out.blk_at.1 (info60 _) (by rw [cells60_size, cells60_size]) (cells60_one _) (hK _ _ ?_)
  refine wpList_nil ?_
  have HO4 : Hid (Own w0 (T60 rb (fun i k => bef hs k i) * (T60 tb (fun i k => bef hs k i) * R)) (wc.setRow rb (cells60 fun i k => bef hs k i))) := Lib.hid (Own.setRow HS.out)
  clear hK
  go_wp2
  refine bodyPost_ret (v := .agg (cells60 fun i k => bef hs k i)) (results_cell_row rfl _ _ rb 35 _ (0, 0) _ rfl HO4.out.blk_at.1 und60 rfl (info60 _)) rfl ⟨rfl, HO4.out.drop.drop⟩
end Go.Proofs.YtgjjilehpgnjhaaDoor
/- The reference's Cut. -/
namespace Go.Proofs.YtgjjilehpgnjhaaDoor
set_option linter.unusedVariables false
set_option linter.unusedSimpArgs false
open Go.RowKit
/-- Cut of the reference, of a history that is right. -/
def refCutE (hs : List Ev) (many : List Int) : Nat := if many.length ≠ 5 then 3 else if (List.range 5).any (cutBadAt hs many) = true then 1 else 0
def refCutB (hs : List Ev) (many : List Int) : Bool := decide (refCutE hs many = 0) && cutB hs many
def cells1 (f : Nat → Bool) : Array Value := ((List.range 60).map fun j => Value.bool (f j)).toArray
theorem cells1_size (f : Nat → Bool) : (cells1 f).size = 60 := by simp [cells1]
theorem cells1_get (f : Nat → Bool) {i : Nat} (hi : i < 60) : (cells1 f)[i]? = some (.bool (f i)) := by
  unfold cells1
  rw [List.getElem?_toArray, List.getElem?_map, List.getElem?_range hi]; rfl
theorem cells1_set (f g : Nat → Bool) {i : Nat} (hi : i < 60) (v : Bool) (hg : ∀ a, g a = if a = i then v else f a) : (cells1 f).setIfInBounds i (.bool v) = cells1 g := by
  apply Array.ext_getElem?
  intro j
  rw [Array.getElem?_setIfInBounds]
  by_cases hj : j < 60
  · rw [cells1_get g hj, cells1_get f hj, hg, cells1_size]
    by_cases e : i = j
    · rw [if_pos e, if_pos hi, if_pos e.symm]
    · rw [if_neg e, if_neg (fun hh => e hh.symm)]
  · rw [if_neg (by omega), Array.getElem?_eq_none (by rw [cells1_size]; omega), Array.getElem?_eq_none (by rw [cells1_size]; omega)]
def T1 (b : Nat) (f : Nat → Bool) : HProp := blk b (.cells (cells1 f) 34 (0, 0))
theorem Own.t1 {w0 w : World} {b : Nat} {f : Nat → Bool} {R : HProp} (h : Own w0 (T1 b f * R) w) {i : Nat} (hi : i < 60) : w.cell? ⟨b, i, none⟩ = some (.bool (f i)) := (Own.cell h _).trans (cells1_get f hi)
theorem Own.t1_free {w0 w : World} {b : Nat} {f : Nat → Bool} {R : HProp} (h : Own w0 (T1 b f * R) w) (i : Nat) (s : Option Nat) : w.frozen? ⟨b, i, s⟩ = false := Own.free h i s
theorem Own.t1_set {w0 w : World} {b : Nat} {f g : Nat → Bool} {R : HProp} (h : Own w0 (T1 b f * R) w) {i : Nat} (hi : i < 60) (v : Bool) (hg : ∀ a, g a = if a = i then v else f a) : Own w0 (T1 b g * R) (w.setCell ⟨b, i, none⟩ (.bool v)) := by
  have h1 := Own.setCell (i := i) (v := .bool v) h
  rw [cells1_set f g hi v hg] at h1
  exact h1
/-- A whole array made. -/
theorem wp_alloc_row {P : Program} {o : Oper} {a : Act} {w : World} {K : Act → World → Prop} {Q : Exit → Act → World → Prop} (ty : TypeId) (ho : o.op = .alloc ty) (cs : Array Value)
    (hz : (zeroValue ty).run P w = .ok (.agg cs) w) (h : K (a.put o.dst (.pointer (some ⟨w.heap.size, 0, none⟩))) (w.alloc (.cells cs ty))) : o.wp P a w K Q := by
  unfold Oper.wp execOp
  simp only [ho, Instr.alloc, Sem.run_bind, hz, newVar, newRow, newObj, Value.cells]
  exact h
theorem zrun60 (w : World) : (zeroValue 35).run Tryd.prog w = .ok (.agg (cells60 fun _ _ => false)) w := (zero_of_info (n := 3600) (by kernel_rfl)).1 w
theorem zrun1 (w : World) : (zeroValue 34).run Tryd.prog w = .ok (.agg (cells1 fun _ => false)) w := (zero_of_info (n := 60) (by kernel_rfl)).1 w
/-- What Befores gave is laid into a variable: an allocation and a store. -/
theorem wp_keep60 {ops : Array Oper} {a : Act} {w w0 : World} {R : HProp} {Q : Exit → Act → World → Prop} {o1 o2 : Oper} (f : Nat → Nat → Bool) (t s : Tmp) (h1 : o1.op = .alloc 35) (g1 : o1.guard = none) (d1 : o1.dst = some t)
    (h2 : o2.op = .store 35 (.tmp t) (.tmp s)) (g2 : o2.guard = none) (d2 : o2.dst = none) (hx : ∀ b, (a.put (some t) b).eval (.tmp t) = b) (hy : ∀ b, (a.put (some t) b).eval (.tmp s) = .agg (cells60 f)) (ho : Own w0 R w)
    (h : ∀ b w', Own w0 (T60 b f * R) w' → Q .normal (a.put (some t) (.pointer (some ⟨b, 0, none⟩))) w') : wpList Tryd.prog ops Q [o1, o2] a w := by
  refine wpList_plain g1 fun K hK => wp_alloc_row 35 h1 (cells60 fun _ _ => false) (zrun60 w) (hK _ _ ?_)
  have hn := ho.alloc (.cells (cells60 fun _ _ => false) 35)
  refine wpList_plain g2 fun K hK => wp_store_row 35 (.tmp t) (.tmp s) h2 d2 w.heap.size (by rw [d1]; exact hx _) 35 (cells60 fun _ _ => false) (cells60 f) (by rw [d1]; exact hy _) hn.blk_at.1 (info60 _) (by rw [cells60_size, cells60_size]) (cells60_one _) (hK _ _ ?_)
  refine wpList_nil ?_
  rw [d1]
  exact h _ _ (Own.setRow hn)
theorem Own.alloc60 {w0 w : World} {R : HProp} (h : Own w0 R w) : Own w0 (T60 w.heap.size (fun _ _ => false) * R) (w.alloc (.cells Tryd.zeroCells35 35)) := by
  rw [zero60]; exact h.alloc _
def tkS (hs : List Ev) (many : List Int) (m i0 : Nat) (k : Nat) : Bool := decide (k < hs.length) && (takenB hs many k && (decide ((evAt hs k).1 < (m : Int)) || (decide ((evAt hs k).1 = (m : Int)) && decide (k < i0))))
theorem tkS_zero {hs : List Ev} (hr : RightH hs) (many : List Int) : tkS hs many 0 0 = fun _ => false := by
  funext k
  unfold tkS
  by_cases hk : k < hs.length
  · have := (hr.who hk).1
    rw [decide_eq_false (show ¬ (evAt hs k).1 < ((0 : Nat) : Int) by omega)]
    simp
  · rw [decide_eq_false hk]; rfl
theorem tkS_row (hs : List Ev) (many : List Int) (m : Nat) : tkS hs many m hs.length = tkS hs many (m + 1) 0 := by
  funext k
  unfold tkS
  by_cases hk : k < hs.length
  · rw [decide_eq_true hk]
    have e1 : (decide ((evAt hs k).1 < (m : Int)) || decide ((evAt hs k).1 = (m : Int))) = decide ((evAt hs k).1 < ((m + 1 : Nat) : Int)) := by
      rw [← Bool.decide_or]
      apply decide_eq_decide.2
      omega
    simp [e1]
  · rw [decide_eq_false hk]; rfl
theorem tkS_step {hs : List Ev} (many : List Int) (m i0 : Nat) (hi : i0 < hs.length) (k : Nat) : tkS hs many m (i0 + 1) k = if k = i0 ∧ (evAt hs i0).1 = (m : Int) then takenB hs many i0 else tkS hs many m i0 k := by
  by_cases h : k = i0 ∧ (evAt hs i0).1 = (m : Int)
  · rw [if_pos h]
    obtain ⟨rfl, h2⟩ := h
    unfold tkS
    rw [h2, decide_eq_true hi, decide_eq_true (show k < k + 1 by omega)]
    simp
  · rw [if_neg h]
    unfold tkS
    by_cases h2 : (evAt hs k).1 = (m : Int)
    · have h3 : k ≠ i0 := fun e => h ⟨e, e ▸ h2⟩
      have e1 : decide (k < i0 + 1) = decide (k < i0) := decide_eq_decide.2 (by omega)
      rw [e1]
    · rw [decide_eq_false h2]; simp
theorem tkS_all {hs : List Ev} (hr : RightH hs) (many : List Int) {k : Nat} (hk : k < hs.length) : tkS hs many 5 0 k = takenB hs many k := by
  unfold tkS
  have := (hr.who hk).2
  rw [decide_eq_true hk, decide_eq_true (show (evAt hs k).1 < ((5 : Nat) : Int) by omega)]
  simp
noncomputable def rcRow_code : Code := ((Tryd.f17.body.bind (findBlock 2)).getD .skip)
set_option maxRecDepth 1000000 in
set_option maxHeartbeats 4000000 in
theorem rcRow {Q : Exit → Act → World → Prop} {u2 u3 u4 u5 u10 u11 u12 u13 u14 u15 u16 u17 u18 u19 u20 u21 u22 u23 u24 u25 u26 u27 u28 u29 u30 u31 u32 u33 u34 u35 u36 u37 u38 u39 u40 u41 u42 u43 u44 u45 u46 u47 u48 u49 u50 u51 u52 u53 u54 u55 u56 u57 u58 u59 u60 u61 u62 u63 u64 u65 u66 u67 u68 u69 u70 u71 u72 u73 u74 u75 u76 u77 u78 u79 u80 u81 u82 u83 u84 u85 u86 u87 : Value} {w1 : World} (w : World) (R : HProp) (tb n m hcap mcap : Nat) (had : Option Addr) (ma : Addr) (hs : List Ev) (many : List Int) (hm : m < 5) (hn : n ≤ 60) (hc1 : n ≤ hcap) (hc2 : hcap ≤ 9223372036854775807) (hm1 : 5 ≤ mcap) (hm2 : mcap ≤ 9223372036854775807) (HLN : Hid (hs.length = n)) (HML : Hid (many.length = 5)) (HV : Hid (ReadsE w R (.slice had n hcap) hs)) (HM : Hid (Reads w R (.slice (some ma) 5 mcap) many)) (HP : Hid (Own w (T1 tb (tkS hs many m 0) * R) w1))
    (hK : ∀ (v8 v9 v20 v21 v22 v23 v24 v25 v26 v27 v28 v29 v30 v31 v32 v33 v34 v35 v36 v37 v38 v39 v40 v41 v42 : Value) (wx : World), (v8 = .int .i64 (cnt hs (m : Int) n : Nat) ∧ Own w (T1 tb (tkS hs many (m + 1) 0) * R) wx) → Q .normal ⟨List.toArray ((.slice had n hcap) :: (.slice (some ma) 5 mcap) :: u2 :: u3 :: u4 :: u5 :: (.pointer (some ⟨tb, 0, none⟩)) :: (.int .i64 (m : Int)) :: v8 :: v9 :: u10 :: u11 :: u12 :: u13 :: u14 :: u15 :: u16 :: u17 :: u18 :: u19 :: v20 :: v21 :: v22 :: v23 :: v24 :: v25 :: v26 :: v27 :: v28 :: v29 :: v30 :: v31 :: v32 :: v33 :: v34 :: v35 :: v36 :: v37 :: v38 :: v39 :: v40 :: v41 :: v42 :: u43 :: u44 :: u45 :: u46 :: u47 :: u48 :: u49 :: u50 :: u51 :: u52 :: u53 :: u54 :: u55 :: u56 :: u57 :: u58 :: u59 :: u60 :: u61 :: u62 :: u63 :: u64 :: u65 :: u66 :: u67 :: u68 :: u69 :: u70 :: u71 :: u72 :: u73 :: u74 :: u75 :: u76 :: u77 :: u78 :: u79 :: u80 :: u81 :: u82 :: u83 :: u84 :: u85 :: u86 :: u87 :: []), []⟩ wx) :
    Code.wp Tryd.prog rcRow_code Q ⟨List.toArray ((.slice had n hcap) :: (.slice (some ma) 5 mcap) :: u2 :: u3 :: u4 :: u5 :: (.pointer (some ⟨tb, 0, none⟩)) :: (.int .i64 (m : Int)) :: (.int .i64 0) :: (.int .i64 0) :: u10 :: u11 :: u12 :: u13 :: u14 :: u15 :: u16 :: u17 :: u18 :: u19 :: u20 :: u21 :: u22 :: u23 :: u24 :: u25 :: u26 :: u27 :: u28 :: u29 :: u30 :: u31 :: u32 :: u33 :: u34 :: u35 :: u36 :: u37 :: u38 :: u39 :: u40 :: u41 :: u42 :: u43 :: u44 :: u45 :: u46 :: u47 :: u48 :: u49 :: u50 :: u51 :: u52 :: u53 :: u54 :: u55 :: u56 :: u57 :: u58 :: u59 :: u60 :: u61 :: u62 :: u63 :: u64 :: u65 :: u66 :: u67 :: u68 :: u69 :: u70 :: u71 :: u72 :: u73 :: u74 :: u75 :: u76 :: u77 :: u78 :: u79 :: u80 :: u81 :: u82 :: u83 :: u84 :: u85 :: u86 :: u87 :: []), []⟩ w1 := by
  conv => arg 2; whnf
  have HK := Lib.hid hK
  clear hK
  go_wp2_with fail
  go_loopw [9, 8] (fun iv cv wr => ∃ i : Nat, i ≤ n ∧ iv = .int .i64 i ∧ cv = .int .i64 (cnt hs (m : Int) i : Nat) ∧ Hid (Own w (T1 tb (tkS hs many m i) * R) wr)) (fun iv _ _ => n - (intOf iv).toNat)
  case atStart => exact ⟨0, Nat.zero_le _, rfl, by rw [cnt_zero]; rfl, HP⟩
  case round =>
    clear HP
    obtain ⟨i, hi, rfl, rfl, HO⟩ := hrel
    by_cases hlt : i < n
    rotate_left
    · have hin : i = n := by omega
      subst hin
      have HO2 : Hid (Own w (T1 tb (tkS hs many (m + 1) 0) * R) wr) := Lib.hid (by rw [← tkS_row, HLN.out]; exact HO.out)
      go_wp2_with fail
      apply HK.out
      exact ⟨rfl, HO2.out⟩
    have hil : i < hs.length := by rw [HLN.out]; exact hlt
    obtain ⟨aa, pb, po, ps, rfl, hea, hcs, _⟩ := HV.out.more.at HO.out i hil
    obtain ⟨am, ha, hc⟩ := (HM.out _ HO.out.drop).at m (by rw [HML.out]; exact hm)
    injection ha with ha
    subst ha
    have hst := tkS_step (hs := hs) many m i hil
    have hct := cnt_succ hs (m : Int) i hil
    have hev : evAt hs i = hs[i] := by unfold evAt; rw [List.getD_eq_getElem?_getD, List.getElem?_eq_getElem hil]; rfl
    have hcl := cnt_le hs (m : Int) i
    have htk : (evAt hs i).1 = (m : Int) → takenB hs many i = decide (((cnt hs (m : Int) i : Nat) : Int) < many[m]'(by rw [HML.out]; exact hm)) := fun he => by
      unfold takenB
      rw [he, Int.toNat_natCast, List.getD_eq_getElem?_getD, List.getElem?_eq_getElem (by rw [HML.out]; exact hm)]; rfl
    obtain ⟨Q0, hQ0⟩ : ∃ q, q = many[m]'(by rw [HML.out]; exact hm) := ⟨_, rfl⟩
    rw [← hQ0] at hc htk
    obtain ⟨C, hC⟩ : ∃ C, C = cnt hs (m : Int) i := ⟨_, rfl⟩
    obtain ⟨C2, hC2⟩ : ∃ C, C = cnt hs (m : Int) (i + 1) := ⟨_, rfl⟩
    rw [← hC, ← hC2] at hct
    rw [← hC] at hcl htk ⊢
    rw [← hev] at hct
    obtain ⟨x, hx⟩ : ∃ x, x = evAt hs i := ⟨_, rfl⟩
    rw [← hx] at hcs hst hct htk
    obtain ⟨c0, c1, c2⟩ := hcs _ HO.out
    obtain ⟨x1, x2, x3⟩ := x
    simp only at c0 c1 c2 hst hct htk
    have b0 := HO.out.t1 (i := i) (by omega)
    have b1 := HO.out.t1_free i none
    have i0 : (0 : Int) ≤ (i : Int) := by omega
    have i1 : (i : Int) < (n : Int) := by omega
    have i6 : (i : Int) < 60 := by omega
    have m0 : (0 : Int) ≤ (m : Int) := by omega
    have m5 : (m : Int) < 5 := by omega
    by_cases hw : x1 = (m : Int)
    rotate_left
    · have t1 : (x1 == (m : Int)) = false := by rw [beq_eq_false_iff_ne]; exact hw
      have hC3 : C2 = C := by rw [hct, if_neg hw]; rfl
      have HO3 : Hid (Own w (T1 tb (tkS hs many m (i + 1)) * R) wr) := Lib.hid (by
        rw [show tkS hs many m (i + 1) = tkS hs many m i from funext fun k => by rw [hst, if_neg (fun hh => hw hh.2)]]; exact HO.out)
      have HCS := Lib.hid hcs; have HST := Lib.hid hst; have HCT := Lib.hid hct; have HEV := Lib.hid hev; have HTK := Lib.hid htk; have HC := Lib.hid hC; have HC2 := Lib.hid hC2; have HQ0 := Lib.hid hQ0; have HX := Lib.hid hx; have HW := Lib.hid hw; have HC3 := Lib.hid hC3
      clear hcs hst hct hev htk hC hC2 hQ0 hx hw hC3
      go_wp2_with fail
      go_roundw
      case rel => exact ⟨i + 1, by omega, by go_num, by rw [← HC2.out, HC3.out], HO3⟩
      case measure => simp [intOf]; omega
    have hC3 : C2 = C + 1 := by rw [hct, if_pos hw]
    have htk' := htk hw
    subst hw
    by_cases hlt2 : (C : Int) < Q0
    · have HO3 := Lib.hid (HO.out.t1_set (g := tkS hs many m (i + 1)) (i := i) (by omega) true (fun a => by
        rw [hst, htk', decide_eq_true hlt2]
        by_cases e : a = i
        · rw [if_pos ⟨e, rfl⟩, if_pos e]
        · rw [if_neg (fun hh => e hh.1), if_neg e]))
      have HCS := Lib.hid hcs; have HST := Lib.hid hst; have HCT := Lib.hid hct; have HEV := Lib.hid hev; have HTK := Lib.hid htk; have HTK' := Lib.hid htk'; have HC := Lib.hid hC; have HC2 := Lib.hid hC2; have HQ0 := Lib.hid hQ0; have HX := Lib.hid hx; have HC3 := Lib.hid hC3
      clear hcs hst hct hev htk htk' hC hC2 hQ0 hx hC3
      go_wp2_with fail
      go_roundw
      case rel => exact ⟨i + 1, by omega, by go_num, by rw [← HC2.out, HC3.out]; rfl, HO3⟩
      case measure => simp [intOf]; omega
    · have HO3 : Hid (Own w (T1 tb (tkS hs many m (i + 1)) * R) wr) := Lib.hid (by
        rw [show tkS hs many m (i + 1) = tkS hs many m i from funext fun k => by
          rw [hst, htk', decide_eq_false hlt2]
          by_cases e : k = i
          · rw [if_pos ⟨e, rfl⟩, e]
            unfold tkS
            rw [← hx, decide_eq_false (show ¬ i < i by omega)]
            simp
          · rw [if_neg (fun hh => e hh.1)]]
        exact HO.out)
      have HCS := Lib.hid hcs; have HST := Lib.hid hst; have HCT := Lib.hid hct; have HEV := Lib.hid hev; have HTK := Lib.hid htk; have HTK' := Lib.hid htk'; have HC := Lib.hid hC; have HC2 := Lib.hid hC2; have HQ0 := Lib.hid hQ0; have HX := Lib.hid hx; have HC3 := Lib.hid hC3
      clear hcs hst hct hev htk htk' hC hC2 hQ0 hx hC3
      go_wp2_with fail
      go_roundw
      case rel => exact ⟨i + 1, by omega, by go_num, by rw [← HC2.out, HC3.out]; rfl, HO3⟩
      case measure => simp [intOf]; omega
end Go.Proofs.YtgjjilehpgnjhaaDoor
