/- The reference's table of who is ahead of whom, continued: what lies between; Befores. -/
import Derived.Test.YtljlnhbndkdlcaaDoorMClockTells11
import Derived.Test.YtljlnhbndkdlcaaDoorMClockTells7
import Derived.Test.YtljlnhbndkdlcaaDoorMClockTells1
namespace Go.Proofs.YtljlnhbndkdlcaaDoor
set_option linter.unusedVariables false
set_option linter.unusedSimpArgs false
open Go.RowKit
noncomputable def rbMidRow_code : Code := ((Tryd.f38.body.bind (findBlock 8)).getD .skip)
set_option maxRecDepth 1000000 in
set_option maxHeartbeats 4000000 in
theorem rbMidRow {Q : Exit → Act → World → Prop} {u1 u2 u4 u5 u9 u10 u11 u12 u13 u14 u15 u16 u17 u18 u19 u20 u21 u22 u23 u24 u25 u26 u27 u28 u29 u30 u31 u32 u33 u34 u35 u36 u37 u38 u39 u40 u41 u42 u43 u44 u45 u46 u47 u48 u49 u50 u51 u52 u53 u54 u55 u56 u57 u58 u59 u60 u61 u62 u63 u64 u65 u66 u67 u68 u69 u70 u71 u72 u73 u74 u75 u76 u77 u78 u79 u80 u81 u82 u83 u84 u85 u86 u87 u88 u89 u90 u91 u92 u93 u94 u95 u96 u97 u98 u99 u100 u101 u102 : Value} {w1 : World} (w : World) (R : HProp) (tb n m i hcap : Nat) (had : Option Addr) (hs : List Ev) (hm : m < n) (hi : i < m) (hn : n ≤ 60) (hc1 : n ≤ hcap) (hc2 : hcap ≤ 9223372036854775807) (HLN : Hid (hs.length = n)) (HP : Hid (Own w (T60 tb (tMid hs m i 0) * R) w1))
    (hK : ∀ (v8 v80 v81 v82 v83 v84 v85 v86 v87 v88 v89 v90 v91 v92 v93 v94 v95 v96 v97 v98 v99 v100 v101 : Value) (wx : World), (Own w (T60 tb (tMid hs m (i + 1) 0) * R) wx) → Q .normal ⟨List.toArray ((.slice had n hcap) :: u1 :: u2 :: (.pointer (some ⟨tb, 0, none⟩)) :: u4 :: u5 :: (.int .i64 (m : Int)) :: (.int .i64 (i : Int)) :: v8 :: u9 :: u10 :: u11 :: u12 :: u13 :: u14 :: u15 :: u16 :: u17 :: u18 :: u19 :: u20 :: u21 :: u22 :: u23 :: u24 :: u25 :: u26 :: u27 :: u28 :: u29 :: u30 :: u31 :: u32 :: u33 :: u34 :: u35 :: u36 :: u37 :: u38 :: u39 :: u40 :: u41 :: u42 :: u43 :: u44 :: u45 :: u46 :: u47 :: u48 :: u49 :: u50 :: u51 :: u52 :: u53 :: u54 :: u55 :: u56 :: u57 :: u58 :: u59 :: u60 :: u61 :: u62 :: u63 :: u64 :: u65 :: u66 :: u67 :: u68 :: u69 :: u70 :: u71 :: u72 :: u73 :: u74 :: u75 :: u76 :: u77 :: u78 :: u79 :: v80 :: v81 :: v82 :: v83 :: v84 :: v85 :: v86 :: v87 :: v88 :: v89 :: v90 :: v91 :: v92 :: v93 :: v94 :: v95 :: v96 :: v97 :: v98 :: v99 :: v100 :: v101 :: u102 :: []), []⟩ wx) :
    Code.wp Tryd.prog rbMidRow_code Q ⟨List.toArray ((.slice had n hcap) :: u1 :: u2 :: (.pointer (some ⟨tb, 0, none⟩)) :: u4 :: u5 :: (.int .i64 (m : Int)) :: (.int .i64 (i : Int)) :: (.int .i64 ((m : Int) + 1)) :: u9 :: u10 :: u11 :: u12 :: u13 :: u14 :: u15 :: u16 :: u17 :: u18 :: u19 :: u20 :: u21 :: u22 :: u23 :: u24 :: u25 :: u26 :: u27 :: u28 :: u29 :: u30 :: u31 :: u32 :: u33 :: u34 :: u35 :: u36 :: u37 :: u38 :: u39 :: u40 :: u41 :: u42 :: u43 :: u44 :: u45 :: u46 :: u47 :: u48 :: u49 :: u50 :: u51 :: u52 :: u53 :: u54 :: u55 :: u56 :: u57 :: u58 :: u59 :: u60 :: u61 :: u62 :: u63 :: u64 :: u65 :: u66 :: u67 :: u68 :: u69 :: u70 :: u71 :: u72 :: u73 :: u74 :: u75 :: u76 :: u77 :: u78 :: u79 :: u80 :: u81 :: u82 :: u83 :: u84 :: u85 :: u86 :: u87 :: u88 :: u89 :: u90 :: u91 :: u92 :: u93 :: u94 :: u95 :: u96 :: u97 :: u98 :: u99 :: u100 :: u101 :: u102 :: []), []⟩ w1 := by
  conv => arg 2; whnf
  have HK := Lib.hid hK
  clear hK
  obtain ⟨B, hB⟩ : ∃ B, B = tStage hs m i m := ⟨_, rfl⟩
  have HB := Lib.hid hB
  clear hB
  go_wp2_with fail
  go_loopw [8] (fun kv wr => ∃ k : Nat, k ≤ n ∧ m < k ∧ kv = .int .i64 k ∧ Hid (Own w (T60 tb (tMid hs m i k) * R) wr)) (fun kv _ => n - (intOf kv).toNat)
  case atStart => exact ⟨m + 1, by omega, by omega, by go_num, Lib.hid (by have := HP.out; rw [show tMid hs m i (m + 1) = tMid hs m i 0 from funext fun a => funext fun b => tMid_first hs m i a b]; exact this)⟩
  case round =>
    clear HP
    obtain ⟨k, hk, hmk, rfl, HO⟩ := hrel
    by_cases hlt : k < n
    rotate_left
    · have hkn : k = n := by omega
      subst hkn
      have HO2 : Hid (Own w (T60 tb (tMid hs m (i + 1) 0) * R) wr) := Lib.hid (by
        rw [show tMid hs m (i + 1) 0 = tMid hs m i k from funext fun a => funext fun b => by rw [← tMid_row, HLN.out]]; exact HO.out)
      go_wp2_with fail
      apply HK.out
      exact HO2.out
    have i0 : (0 : Int) ≤ (k : Int) := by omega
    have j0 : (0 : Int) ≤ (i : Int) := by omega
    have m0 : (0 : Int) ≤ (m : Int) := by omega
    have i6 : (k : Int) < 60 := by omega
    have j6 : (i : Int) < 60 := by omega
    have m6 : (m : Int) < 60 := by omega
    have b0 := HO.out.t60 (i := i) (k := m) (by omega) (by omega)
    have b1 := HO.out.t60 (i := m) (k := k) (by omega) (by omega)
    have b2 := HO.out.t60 (i := i) (k := k) (by omega) (by omega)
    have b3 := HO.out.t60_free (i * 60 + k) none
    rw [tMid_low hs m i k i m (Nat.le_refl m), ← HB.out] at b0
    rw [tMid_own] at b1
    obtain ⟨C, hC⟩ : ∃ C, C = tStage hs m m k := ⟨_, rfl⟩
    rw [← hC] at b1
    have HC := Lib.hid hC
    clear hC
    cases B
    · have HO2 : Hid (Own w (T60 tb (tMid hs m (i + 1) 0) * R) wr) := Lib.hid (by
        have e1 : tMid hs m (i + 1) 0 = tMid hs m i k := by
          funext a b
          rw [← tMid_skip hs m i a b HB.out.symm]
          unfold tMid
          by_cases e : a = i
          · subst e; rw [← HB.out]; simp
          · rw [decide_eq_false e]; simp
        rw [e1]; exact HO.out)
      go_wp2_with fail
      apply HK.out
      exact HO2.out
    have hst := fun (a b : Nat) => tMid_step hs m i k a b hi hmk HB.out.symm
    rw [← HC.out] at hst
    cases C
    · have hsame : tMid hs m i k = tMid hs m i (k + 1) := by
        funext a b
        rw [hst]
        by_cases e : a = i ∧ b = k
        · rw [if_pos e, e.1, e.2, Bool.or_false]
        · rw [if_neg e]
      have HO3 : Hid (Own w (T60 tb (tMid hs m i (k + 1)) * R) wr) := Lib.hid (by rw [← hsame]; exact HO.out)
      clear hsame hst
      go_wp2_with fail
      go_roundw
      case rel => exact ⟨k + 1, by omega, by omega, by go_num, HO3⟩
      case measure => simp [intOf]; omega
    · have HO3 := Lib.hid (HO.out.t60_set (g := tMid hs m i (k + 1)) (i := i) (k := k) (by omega) (by omega) true (fun a b => by rw [hst, Bool.or_true]))
      clear hst
      go_wp2_with fail
      go_roundw
      case rel => exact ⟨k + 1, by omega, by omega, by go_num, HO3⟩
      case measure => simp [intOf]; omega
noncomputable def rbMid_code : Code := ((Tryd.f38.body.bind (findBlock 6)).getD .skip)
set_option maxRecDepth 1000000 in
set_option maxHeartbeats 4000000 in
theorem rbMid {Q : Exit → Act → World → Prop} {u1 u2 u4 u5 u8 u9 u10 u11 u12 u13 u14 u15 u16 u17 u18 u19 u20 u21 u22 u23 u24 u25 u26 u27 u28 u29 u30 u31 u32 u33 u34 u35 u36 u37 u38 u39 u40 u41 u42 u43 u44 u45 u46 u47 u48 u49 u50 u51 u52 u53 u54 u55 u56 u57 u58 u59 u60 u61 u62 u63 u64 u65 u66 u67 u68 u69 u70 u71 u72 u73 u74 u75 u76 u77 u78 u79 u80 u81 u82 u83 u84 u85 u86 u87 u88 u89 u90 u91 u92 u93 u94 u95 u96 u97 u98 u99 u100 u101 u102 : Value} {w1 : World} (w : World) (R : HProp) (tb n m hcap : Nat) (had : Option Addr) (hs : List Ev) (hm : m < n) (hn : n ≤ 60) (hc1 : n ≤ hcap) (hc2 : hcap ≤ 9223372036854775807) (HLN : Hid (hs.length = n)) (HP : Hid (Own w (T60 tb (tStage hs m) * R) w1))
    (hK : ∀ (v7 v8 v73 v74 v75 v76 v77 v78 v79 v80 v81 v82 v83 v84 v85 v86 v87 v88 v89 v90 v91 v92 v93 v94 v95 v96 v97 v98 v99 v100 v101 : Value) (wx : World), (Own w (T60 tb (tStage hs (m + 1)) * R) wx) → Q .normal ⟨List.toArray ((.slice had n hcap) :: u1 :: u2 :: (.pointer (some ⟨tb, 0, none⟩)) :: u4 :: u5 :: (.int .i64 (m : Int)) :: v7 :: v8 :: u9 :: u10 :: u11 :: u12 :: u13 :: u14 :: u15 :: u16 :: u17 :: u18 :: u19 :: u20 :: u21 :: u22 :: u23 :: u24 :: u25 :: u26 :: u27 :: u28 :: u29 :: u30 :: u31 :: u32 :: u33 :: u34 :: u35 :: u36 :: u37 :: u38 :: u39 :: u40 :: u41 :: u42 :: u43 :: u44 :: u45 :: u46 :: u47 :: u48 :: u49 :: u50 :: u51 :: u52 :: u53 :: u54 :: u55 :: u56 :: u57 :: u58 :: u59 :: u60 :: u61 :: u62 :: u63 :: u64 :: u65 :: u66 :: u67 :: u68 :: u69 :: u70 :: u71 :: u72 :: v73 :: v74 :: v75 :: v76 :: v77 :: v78 :: v79 :: v80 :: v81 :: v82 :: v83 :: v84 :: v85 :: v86 :: v87 :: v88 :: v89 :: v90 :: v91 :: v92 :: v93 :: v94 :: v95 :: v96 :: v97 :: v98 :: v99 :: v100 :: v101 :: u102 :: []), []⟩ wx) :
    Code.wp Tryd.prog rbMid_code Q ⟨List.toArray ((.slice had n hcap) :: u1 :: u2 :: (.pointer (some ⟨tb, 0, none⟩)) :: u4 :: u5 :: (.int .i64 (m : Int)) :: (.int .i64 0) :: u8 :: u9 :: u10 :: u11 :: u12 :: u13 :: u14 :: u15 :: u16 :: u17 :: u18 :: u19 :: u20 :: u21 :: u22 :: u23 :: u24 :: u25 :: u26 :: u27 :: u28 :: u29 :: u30 :: u31 :: u32 :: u33 :: u34 :: u35 :: u36 :: u37 :: u38 :: u39 :: u40 :: u41 :: u42 :: u43 :: u44 :: u45 :: u46 :: u47 :: u48 :: u49 :: u50 :: u51 :: u52 :: u53 :: u54 :: u55 :: u56 :: u57 :: u58 :: u59 :: u60 :: u61 :: u62 :: u63 :: u64 :: u65 :: u66 :: u67 :: u68 :: u69 :: u70 :: u71 :: u72 :: u73 :: u74 :: u75 :: u76 :: u77 :: u78 :: u79 :: u80 :: u81 :: u82 :: u83 :: u84 :: u85 :: u86 :: u87 :: u88 :: u89 :: u90 :: u91 :: u92 :: u93 :: u94 :: u95 :: u96 :: u97 :: u98 :: u99 :: u100 :: u101 :: u102 :: []), []⟩ w1 := by
  conv => arg 2; whnf
  have HK := Lib.hid hK
  clear hK
  go_wp2_with fail
  go_loopw [7] (fun iv wr => ∃ i : Nat, i ≤ m ∧ iv = .int .i64 i ∧ Hid (Own w (T60 tb (tMid hs m i 0) * R) wr)) (fun iv _ => m - (intOf iv).toNat)
  case atStart => exact ⟨0, Nat.zero_le _, rfl, Lib.hid (by rw [show tMid hs m 0 0 = tStage hs m from funext fun a => funext fun b => tMid_zero hs m a b]; exact HP.out)⟩
  case round =>
    clear HP
    obtain ⟨i, hi, rfl, HO⟩ := hrel
    by_cases hlt : i < m
    rotate_left
    · have hin : i = m := by omega
      subst hin
      have HO2 : Hid (Own w (T60 tb (tStage hs (i + 1)) * R) wr) := Lib.hid (by
        rw [show tStage hs (i + 1) = tMid hs i i 0 from funext fun a => funext fun b => (tMid_all hs i a b).symm]; exact HO.out)
      go_wp2_with fail
      apply HK.out
      exact HO2.out
    go_upto_block 8 with fail
    refine rbMidRow w R tb n m i hcap had hs hm hlt hn hc1 hc2 HLN HO ?_
    intros
    rename_i wq hcut
    have HO2 := Lib.hid hcut
    clear hcut HO
    go_wp2_with fail
    go_roundw
    case rel => exact ⟨i + 1, by omega, by go_num, HO2⟩
    case measure => simp [intOf]; omega
noncomputable def rbStage_code : Code := ((Tryd.f38.body.bind (findBlock 4)).getD .skip)
set_option maxRecDepth 1000000 in
set_option maxHeartbeats 4000000 in
theorem rbStage {Q : Exit → Act → World → Prop} {u1 u2 u4 u5 u7 u8 u9 u10 u11 u12 u13 u14 u15 u16 u17 u18 u19 u20 u21 u22 u23 u24 u25 u26 u27 u28 u29 u30 u31 u32 u33 u34 u35 u36 u37 u38 u39 u40 u41 u42 u43 u44 u45 u46 u47 u48 u49 u50 u51 u52 u53 u54 u55 u56 u57 u58 u59 u60 u61 u62 u63 u64 u65 u66 u67 u68 u69 u70 u71 u72 u73 u74 u75 u76 u77 u78 u79 u80 u81 u82 u83 u84 u85 u86 u87 u88 u89 u90 u91 u92 u93 u94 u95 u96 u97 u98 u99 u100 u101 u102 : Value} {w1 : World} (w : World) (R : HProp) (tb n hcap : Nat) (had : Option Addr) (hs : List Ev) (hn : n ≤ 60) (hc1 : n ≤ hcap) (hc2 : hcap ≤ 9223372036854775807) (HLN : Hid (hs.length = n)) (HP : Hid (Own w (T60 tb (tStage hs 0) * R) w1))
    (hK : ∀ (v6 v7 v8 v67 v68 v69 v70 v71 v72 v73 v74 v75 v76 v77 v78 v79 v80 v81 v82 v83 v84 v85 v86 v87 v88 v89 v90 v91 v92 v93 v94 v95 v96 v97 v98 v99 v100 v101 : Value) (wx : World), (Own w (T60 tb (fun i k => bef hs k i) * R) wx) → Q .normal ⟨List.toArray ((.slice had n hcap) :: u1 :: u2 :: (.pointer (some ⟨tb, 0, none⟩)) :: u4 :: u5 :: v6 :: v7 :: v8 :: u9 :: u10 :: u11 :: u12 :: u13 :: u14 :: u15 :: u16 :: u17 :: u18 :: u19 :: u20 :: u21 :: u22 :: u23 :: u24 :: u25 :: u26 :: u27 :: u28 :: u29 :: u30 :: u31 :: u32 :: u33 :: u34 :: u35 :: u36 :: u37 :: u38 :: u39 :: u40 :: u41 :: u42 :: u43 :: u44 :: u45 :: u46 :: u47 :: u48 :: u49 :: u50 :: u51 :: u52 :: u53 :: u54 :: u55 :: u56 :: u57 :: u58 :: u59 :: u60 :: u61 :: u62 :: u63 :: u64 :: u65 :: u66 :: v67 :: v68 :: v69 :: v70 :: v71 :: v72 :: v73 :: v74 :: v75 :: v76 :: v77 :: v78 :: v79 :: v80 :: v81 :: v82 :: v83 :: v84 :: v85 :: v86 :: v87 :: v88 :: v89 :: v90 :: v91 :: v92 :: v93 :: v94 :: v95 :: v96 :: v97 :: v98 :: v99 :: v100 :: v101 :: u102 :: []), []⟩ wx) :
    Code.wp Tryd.prog rbStage_code Q ⟨List.toArray ((.slice had n hcap) :: u1 :: u2 :: (.pointer (some ⟨tb, 0, none⟩)) :: u4 :: u5 :: (.int .i64 0) :: u7 :: u8 :: u9 :: u10 :: u11 :: u12 :: u13 :: u14 :: u15 :: u16 :: u17 :: u18 :: u19 :: u20 :: u21 :: u22 :: u23 :: u24 :: u25 :: u26 :: u27 :: u28 :: u29 :: u30 :: u31 :: u32 :: u33 :: u34 :: u35 :: u36 :: u37 :: u38 :: u39 :: u40 :: u41 :: u42 :: u43 :: u44 :: u45 :: u46 :: u47 :: u48 :: u49 :: u50 :: u51 :: u52 :: u53 :: u54 :: u55 :: u56 :: u57 :: u58 :: u59 :: u60 :: u61 :: u62 :: u63 :: u64 :: u65 :: u66 :: u67 :: u68 :: u69 :: u70 :: u71 :: u72 :: u73 :: u74 :: u75 :: u76 :: u77 :: u78 :: u79 :: u80 :: u81 :: u82 :: u83 :: u84 :: u85 :: u86 :: u87 :: u88 :: u89 :: u90 :: u91 :: u92 :: u93 :: u94 :: u95 :: u96 :: u97 :: u98 :: u99 :: u100 :: u101 :: u102 :: []), []⟩ w1 := by
  conv => arg 2; whnf
  have HK := Lib.hid hK
  clear hK
  go_wp2_with fail
  go_loopw [6] (fun mv wr => ∃ m : Nat, m ≤ n ∧ mv = .int .i64 m ∧ Hid (Own w (T60 tb (tStage hs m) * R) wr)) (fun mv _ => n - (intOf mv).toNat)
  case atStart => exact ⟨0, Nat.zero_le _, rfl, HP⟩
  case round =>
    clear HP
    obtain ⟨m, hm, rfl, HO⟩ := hrel
    by_cases hlt : m < n
    rotate_left
    · have hin : m = n := by omega
      subst hin
      have HO2 : Hid (Own w (T60 tb (fun i k => bef hs k i) * R) wr) := Lib.hid (by
        rw [show (fun i k => bef hs k i) = tStage hs m from funext fun a => funext fun b => by rw [← tStage_all, HLN.out]]; exact HO.out)
      go_wp2_with fail
      apply HK.out
      exact HO2.out
    go_upto_block 6 with fail
    refine rbMid w R tb n m hcap had hs hlt hn hc1 hc2 HLN HO ?_
    intros
    rename_i wq hcut
    have HO2 := Lib.hid hcut
    clear hcut HO
    go_wp2_with fail
    go_roundw
    case rel => exact ⟨m + 1, by omega, by go_num, HO2⟩
    case measure => simp [intOf]; omega
theorem zero60 : Tryd.zeroCells72 = cells60 (fun _ _ => false) := by kernel_rfl
set_option maxRecDepth 100000 in
set_option maxHeartbeats 4000000 in
theorem refBefores_any {w0 w : World} {R : HProp} (v : Value) (hs : List Ev) (h : Own w0 R w) (hv : ReadsE w0 R v hs) (hlen : hs.length ≤ 60) :
    Calls Tryd.prog 38 #[v] w fun e w' => e = .returned (.agg (cells60 fun i k => bef hs k i)) ∧ Own w0 R w' := by
  obtain ⟨ad, cap, rfl, hlc, hcap⟩ := (hv _ h).shape
  obtain ⟨n, hn⟩ : ∃ n, n = hs.length := ⟨_, rfl⟩
  rw [← hn] at hv hlc hlen ⊢
  have hcap' : cap ≤ 9223372036854775807 := hcap
  have HLN := Lib.hid hn.symm
  clear hn
  obtain ⟨rb, hb_rb⟩ : ∃ zz_, zz_ = (w).heap.size := ⟨_, rfl⟩
  obtain ⟨w1, hw_w1⟩ : ∃ zz_, zz_ = (w).alloc (.cells Tryd.zeroCells72 72) := ⟨_, rfl⟩
  have h_H1 := (h).alloc (.cells Tryd.zeroCells72 72)
  rw [← hb_rb, ← hw_w1] at h_H1
  have H1 := Lib.hid h_H1
  clear h_H1
  obtain ⟨tb, hb_tb⟩ : ∃ zz_, zz_ = (w1).heap.size := ⟨_, rfl⟩
  obtain ⟨w2, hw_w2⟩ : ∃ zz_, zz_ = (w1).alloc (.cells Tryd.zeroCells72 72) := ⟨_, rfl⟩
  have h_H2 := (H1.out).alloc (.cells Tryd.zeroCells72 72)
  rw [← hb_tb, ← hw_w2] at h_H2
  have H2 := Lib.hid h_H2
  clear h_H2
  have HP : Hid (Own w0 (T60 tb (tIni hs 0 0) * (T60 rb (fun _ _ => false) * R)) w2) := Lib.hid (by
    have h2 := H2.out
    rw [zero60] at h2
    rw [show tIni hs 0 0 = fun _ _ => false from funext fun a => funext fun b => tIni_zero hs a b]
    exact h2)
  clear H1 H2
  have H := Lib.hid h; have HV := Lib.hid hv
  clear h hv
  go_enter Tryd.func38, Tryd.ntmps38
  go_upto_block 0 with fail
  have hq_tb : rb + 1 = tb := by rw [hb_tb, hw_w1, hb_rb, World.size_alloc]
  rw [← hb_rb, hq_tb, ← hw_w1, ← hw_w2]
  clear hq_tb hb_rb hb_tb hw_w1 hw_w2
  go_cut [] (fun wx => Own w0 (T60 tb (tStage hs 0) * (T60 rb (fun _ _ => false) * R)) wx)
  case first =>
    refine rbIni w0 _ tb n cap ad hs hlen hlc hcap' HLN (Lib.hid HV.out.more) HP ?_
    intros
    go_step
    go_step
    go_meet
    assumption
  case rest =>
  have HO2 := Lib.hid hcut
  clear hcut HP
  go_upto_block 4 with fail
  go_cut [] (fun wx => Own w0 (T60 tb (fun i k => bef hs k i) * (T60 rb (fun _ _ => false) * R)) wx)
  case first =>
    refine rbStage w0 _ tb n cap ad hs hlen hlc hcap' HLN HO2 ?_
    intros
    go_step
    go_step
    go_meet
    assumption
  case rest =>
  have HO3 := Lib.hid hcut
  clear hcut HO2
  go_upto_region 21 with fail
  have HS : Hid (Own w0 (T60 rb (fun _ _ => false) * (T60 tb (fun i k => bef hs k i) * R)) wc) := Lib.hid (HO3.out.perm (star_left_comm _ _ _))
  refine wp_region_lit ?_
  refine wpList_load_row rfl 72 (.tmp 3) rfl tb rfl 72 (cells60 fun i k => bef hs k i) (0, 0) _ HO3.out.blk_at.1 und60 rfl (info60 _) ?_
  refine wpList_plain rfl fun K hK => wp_store_row 72 (.tmp 2) (.tmp 102) rfl rfl rb rfl 72 (cells60 fun _ _ => false) (cells60 fun i k => bef hs k i) rfl HS.out.blk_at.1 (info60 _) (by rw [cells60_size, cells60_size]) (cells60_one _) (hK _ _ ?_)
  refine wpList_nil ?_
  have HO4 : Hid (Own w0 (T60 rb (fun i k => bef hs k i) * (T60 tb (fun i k => bef hs k i) * R)) (wc.setRow rb (cells60 fun i k => bef hs k i))) := Lib.hid (Own.setRow HS.out)
  clear hK
  go_wp2
  refine bodyPost_ret (v := .agg (cells60 fun i k => bef hs k i)) (results_cell_row rfl _ _ rb 72 _ (0, 0) _ rfl HO4.out.blk_at.1 und60 rfl (info60 _)) rfl ⟨rfl, HO4.out.drop.drop⟩
end Go.Proofs.YtljlnhbndkdlcaaDoor
/- The reference's Cut. -/
namespace Go.Proofs.YtljlnhbndkdlcaaDoor
set_option linter.unusedVariables false
set_option linter.unusedSimpArgs false
open Go.RowKit
/-- Cut of the reference, of a history that is right. -/
def refCutE (hs : List Ev) (many : List Int) : Nat := if many.length ≠ 5 then 3 else if (List.range 5).any (cutBadAt hs many) = true then 1 else 0
def refCutB (hs : List Ev) (many : List Int) : Bool := decide (refCutE hs many = 0) && cutB hs many
def cells1 (f : Nat → Bool) : Array Value := ((List.range 60).map fun j => Value.bool (f j)).toArray
theorem cells1_size (f : Nat → Bool) : (cells1 f).size = 60 := by simp [cells1]
theorem cells1_get (f : Nat → Bool) {i : Nat} (hi : i < 60) : (cells1 f)[i]? = some (.bool (f i)) := by
  unfold cells1
  rw [List.getElem?_toArray, List.getElem?_map, List.getElem?_range hi]; rfl
theorem cells1_set (f g : Nat → Bool) {i : Nat} (hi : i < 60) (v : Bool) (hg : ∀ a, g a = if a = i then v else f a) : (cells1 f).setIfInBounds i (.bool v) = cells1 g := by
  apply Array.ext_getElem?
  intro j
  rw [Array.getElem?_setIfInBounds]
  by_cases hj : j < 60
  · rw [cells1_get g hj, cells1_get f hj, hg, cells1_size]
    by_cases e : i = j
    · rw [if_pos e, if_pos hi, if_pos e.symm]
    · rw [if_neg e, if_neg (fun hh => e hh.symm)]
  · rw [if_neg (by omega), Array.getElem?_eq_none (by rw [cells1_size]; omega), Array.getElem?_eq_none (by rw [cells1_size]; omega)]
def T1 (b : Nat) (f : Nat → Bool) : HProp := blk b (.cells (cells1 f) 71 (0, 0))
theorem Own.t1 {w0 w : World} {b : Nat} {f : Nat → Bool} {R : HProp} (h : Own w0 (T1 b f * R) w) {i : Nat} (hi : i < 60) : w.cell? ⟨b, i, none⟩ = some (.bool (f i)) := (Own.cell h _).trans (cells1_get f hi)
theorem Own.t1_free {w0 w : World} {b : Nat} {f : Nat → Bool} {R : HProp} (h : Own w0 (T1 b f * R) w) (i : Nat) (s : Option Nat) : w.frozen? ⟨b, i, s⟩ = false := Own.free h i s
theorem Own.t1_set {w0 w : World} {b : Nat} {f g : Nat → Bool} {R : HProp} (h : Own w0 (T1 b f * R) w) {i : Nat} (hi : i < 60) (v : Bool) (hg : ∀ a, g a = if a = i then v else f a) : Own w0 (T1 b g * R) (w.setCell ⟨b, i, none⟩ (.bool v)) := by
  have h1 := Own.setCell (i := i) (v := .bool v) h
  rw [cells1_set f g hi v hg] at h1
  exact h1
/-- A whole array made. -/
theorem wp_alloc_row {P : Program} {o : Oper} {a : Act} {w : World} {K : Act → World → Prop} {Q : Exit → Act → World → Prop} (ty : TypeId) (ho : o.op = .alloc ty) (cs : Array Value)
    (hz : (zeroValue ty).run P w = .ok (.agg cs) w) (h : K (a.put o.dst (.pointer (some ⟨w.heap.size, 0, none⟩))) (w.alloc (.cells cs ty))) : o.wp P a w K Q := by
  unfold Oper.wp execOp
  simp only [ho, Instr.alloc, Sem.run_bind, hz, newVar, newRow, newObj, Value.cells]
  exact h
theorem zrun60 (w : World) : (zeroValue 72).run Tryd.prog w = .ok (.agg (cells60 fun _ _ => false)) w := (zero_of_info (n := 3600) (by kernel_rfl)).1 w
theorem zrun1 (w : World) : (zeroValue 71).run Tryd.prog w = .ok (.agg (cells1 fun _ => false)) w := (zero_of_info (n := 60) (by kernel_rfl)).1 w
/-- What Befores gave is laid into a variable: an allocation and a store. -/
theorem wp_keep60 {ops : Array Oper} {a : Act} {w w0 : World} {R : HProp} {Q : Exit → Act → World → Prop} {o1 o2 : Oper} (f : Nat → Nat → Bool) (t s : Tmp) (h1 : o1.op = .alloc 72) (g1 : o1.guard = none) (d1 : o1.dst = some t)
    (h2 : o2.op = .store 72 (.tmp t) (.tmp s)) (g2 : o2.guard = none) (d2 : o2.dst = none) (hx : ∀ b, (a.put (some t) b).eval (.tmp t) = b) (hy : ∀ b, (a.put (some t) b).eval (.tmp s) = .agg (cells60 f)) (ho : Own w0 R w)
    (h : ∀ b w', Own w0 (T60 b f * R) w' → Q .normal (a.put (some t) (.pointer (some ⟨b, 0, none⟩))) w') : wpList Tryd.prog ops Q [o1, o2] a w := by
  refine wpList_plain g1 fun K hK => wp_alloc_row 72 h1 (cells60 fun _ _ => false) (zrun60 w) (hK _ _ ?_)
  have hn := ho.alloc (.cells (cells60 fun _ _ => false) 72)
  refine wpList_plain g2 fun K hK => wp_store_row 72 (.tmp t) (.tmp s) h2 d2 w.heap.size (by rw [d1]; exact hx _) 72 (cells60 fun _ _ => false) (cells60 f) (by rw [d1]; exact hy _) hn.blk_at.1 (info60 _) (by rw [cells60_size, cells60_size]) (cells60_one _) (hK _ _ ?_)
  refine wpList_nil ?_
  rw [d1]
  exact h _ _ (Own.setRow hn)
theorem Own.alloc60 {w0 w : World} {R : HProp} (h : Own w0 R w) : Own w0 (T60 w.heap.size (fun _ _ => false) * R) (w.alloc (.cells Tryd.zeroCells72 72)) := by
  rw [zero60]; exact h.alloc _
def tkS (hs : List Ev) (many : List Int) (m i0 : Nat) (k : Nat) : Bool := decide (k < hs.length) && (takenB hs many k && (decide ((evAt hs k).1 < (m : Int)) || (decide ((evAt hs k).1 = (m : Int)) && decide (k < i0))))
theorem tkS_zero {hs : List Ev} (hr : RightH hs) (many : List Int) : tkS hs many 0 0 = fun _ => false := by
  funext k
  unfold tkS
  by_cases hk : k < hs.length
  · have := (hr.who hk).1
    rw [decide_eq_false (show ¬ (evAt hs k).1 < ((0 : Nat) : Int) by omega)]
    simp
  · rw [decide_eq_false hk]; rfl
theorem tkS_row (hs : List Ev) (many : List Int) (m : Nat) : tkS hs many m hs.length = tkS hs many (m + 1) 0 := by
  funext k
  unfold tkS
  by_cases hk : k < hs.length
  · rw [decide_eq_true hk]
    have e1 : (decide ((evAt hs k).1 < (m : Int)) || decide ((evAt hs k).1 = (m : Int))) = decide ((evAt hs k).1 < ((m + 1 : Nat) : Int)) := by
      rw [← Bool.decide_or]
      apply decide_eq_decide.2
      omega
    simp [e1]
  · rw [decide_eq_false hk]; rfl
theorem tkS_step {hs : List Ev} (many : List Int) (m i0 : Nat) (hi : i0 < hs.length) (k : Nat) : tkS hs many m (i0 + 1) k = if k = i0 ∧ (evAt hs i0).1 = (m : Int) then takenB hs many i0 else tkS hs many m i0 k := by
  by_cases h : k = i0 ∧ (evAt hs i0).1 = (m : Int)
  · rw [if_pos h]
    obtain ⟨rfl, h2⟩ := h
    unfold tkS
    rw [h2, decide_eq_true hi, decide_eq_true (show k < k + 1 by omega)]
    simp
  · rw [if_neg h]
    unfold tkS
    by_cases h2 : (evAt hs k).1 = (m : Int)
    · have h3 : k ≠ i0 := fun e => h ⟨e, e ▸ h2⟩
      have e1 : decide (k < i0 + 1) = decide (k < i0) := decide_eq_decide.2 (by omega)
      rw [e1]
    · rw [decide_eq_false h2]; simp
theorem tkS_all {hs : List Ev} (hr : RightH hs) (many : List Int) {k : Nat} (hk : k < hs.length) : tkS hs many 5 0 k = takenB hs many k := by
  unfold tkS
  have := (hr.who hk).2
  rw [decide_eq_true hk, decide_eq_true (show (evAt hs k).1 < ((5 : Nat) : Int) by omega)]
  simp
end Go.Proofs.YtljlnhbndkdlcaaDoor
/- The reference's Cut, continued. -/
namespace Go.Proofs.YtljlnhbndkdlcaaDoor
set_option linter.unusedVariables false
set_option linter.unusedSimpArgs false
open Go.RowKit
def okP (hs : List Ev) (many : List Int) (i k : Nat) : Prop := bef hs k i = true → takenB hs many k = true → takenB hs many i = true
theorem cutB_yes {hs : List Ev} {many : List Int} (h : ∀ i, i < hs.length → ∀ k, i < k → k < hs.length → okP hs many i k) : cutB hs many = true := by
  unfold cutB
  rw [decide_eq_true_iff]
  intro k hk h1 i hi hb
  exact h i (by omega) k hi hk hb h1
theorem cutB_no {hs : List Ev} {many : List Int} {i k : Nat} (hk : k < hs.length) (hi : i < k) (hb : bef hs k i = true) (h1 : takenB hs many k = true) (h2 : takenB hs many i = false) : cutB hs many = false := by
  unfold cutB
  rw [decide_eq_false_iff_not]
  intro h
  rw [h k hk h1 i hi hb] at h2
  cases h2
end Go.Proofs.YtljlnhbndkdlcaaDoor
/- Contracts of package stable, the third part: the least of all. -/
namespace Go.Proofs.YtljlnhbndkdlcaaDoor
set_option linter.unusedVariables false
set_option linter.unusedSimpArgs false
open Go.RowKit
def zipMin : List Int → List Int → List Int
  | a :: r, b :: s => min a b :: zipMin r s
  | _, _ => []
theorem zipMin_len : ∀ (a b : List Int), a.length = b.length → (zipMin a b).length = a.length
  | [], [], _ => rfl
  | a :: r, b :: s, h => by simp [zipMin, zipMin_len r s (by simpa using h)]
theorem zipMin_get : ∀ (a b : List Int) (i : Nat) (h1 : i < a.length) (h2 : i < b.length) (h3 : i < (zipMin a b).length), (zipMin a b)[i] = min a[i] b[i]
  | a :: r, b :: s, 0, _, _, _ => rfl
  | a :: r, b :: s, i + 1, h1, h2, h3 => by simp only [zipMin, List.getElem_cons_succ]; exact zipMin_get r s i _ _ _
def leastOf (rows : List (List Int)) : List Int := rows.foldl zipMin (rows.headD [])
theorem foldl_len (l : List (List Int)) (a : List Int) (ha : a.length = 5) (hl : ∀ r ∈ l, r.length = 5) : (l.foldl zipMin a).length = 5 := by
  induction l generalizing a with
  | nil => exact ha
  | cons r l ih =>
    exact ih _ (by rw [zipMin_len _ _ (by rw [ha, hl r (by simp)])]; exact ha) (fun x hx => hl x (by simp [hx]))
end Go.Proofs.YtljlnhbndkdlcaaDoor
/- The least of rows, in plain lists. -/
namespace Go.Proofs.YtljlnhbndkdlcaaDoor
set_option linter.unusedVariables false
set_option linter.unusedSimpArgs false
theorem foldl_get (l : List (List Int)) : ∀ (a : List Int) (k : Nat) (ha : a.length = 5) (hl : ∀ r ∈ l, r.length = 5) (hk : k < (l.foldl zipMin a).length) (hk' : k < a.length),
    ((l.foldl zipMin a)[k] = a[k] ∨ ∃ r, ∃ h : r ∈ l, (l.foldl zipMin a)[k] = r[k]'(by rw [hl r h]; omega)) ∧ (l.foldl zipMin a)[k] ≤ a[k] ∧ ∀ r (h : r ∈ l), (l.foldl zipMin a)[k] ≤ r[k]'(by rw [hl r h]; omega) := by
  induction l with
  | nil => intro a k ha hl hk hk'; exact ⟨.inl rfl, Int.le_refl _, fun r h => by cases h⟩
  | cons x l ih =>
    intro a k ha hl hk hk'
    have hx := hl x (by simp)
    have hz : (zipMin a x).length = 5 := by rw [zipMin_len _ _ (by omega)]; exact ha
    have hg := zipMin_get a x k hk' (by omega) (by omega)
    obtain ⟨h1, h2, h3⟩ := ih (zipMin a x) k hz (fun r hr => hl r (by simp [hr])) hk (by omega)
    have h1 : ((x :: l).foldl zipMin a)[k] = (zipMin a x)[k] ∨ ∃ r, ∃ h : r ∈ l, ((x :: l).foldl zipMin a)[k] = r[k]'(by rw [hl r (by simp [h])]; omega) := h1
    have h2 : ((x :: l).foldl zipMin a)[k] ≤ (zipMin a x)[k] := h2
    have h3 : ∀ r (h : r ∈ l), ((x :: l).foldl zipMin a)[k] ≤ r[k]'(by rw [hl r (by simp [h])]; omega) := h3
    generalize ((x :: l).foldl zipMin a)[k] = y at h1 h2 h3 ⊢
    have hA : (zipMin a x)[k]'(by omega) ≤ a[k] := by rw [hg]; exact Int.min_le_left _ _
    have hX : (zipMin a x)[k]'(by omega) ≤ x[k]'(by omega) := by rw [hg]; exact Int.min_le_right _ _
    refine ⟨?_, Int.le_trans h2 hA, fun r hr => ?_⟩
    · rcases h1 with h1 | ⟨r, hr, h1⟩
      · rw [hg, Int.min_def] at h1
        split at h1
        · exact .inl h1
        · exact .inr ⟨x, by simp, h1⟩
      · exact .inr ⟨r, by simp [hr], h1⟩
    · rcases List.mem_cons.1 hr with rfl | hr'
      · exact Int.le_trans h2 hX
      · exact h3 r hr'
theorem rowsOk_len {rows : List (List Int)} (h : rowsOk rows) : ∀ r ∈ rows, r.length = 5 := fun r hr => (vecErr0 (h r hr)).1
theorem leastOf_len {rows : List (List Int)} (h : rowsOk rows) (hne : 0 < rows.length) : (leastOf rows).length = 5 := by
  unfold leastOf
  refine foldl_len _ _ ?_ (rowsOk_len h)
  cases rows with
  | nil => simp at hne
  | cons x r => exact rowsOk_len h x (by simp)
theorem leastOf_le {rows : List (List Int)} (h : rowsOk rows) (r : List Int) (hr : r ∈ rows) (k : Nat) (hk : k < (leastOf rows).length) (hk' : k < r.length) : (leastOf rows)[k] ≤ r[k] := by
  cases rows with
  | nil => cases hr
  | cons x l => exact (foldl_get (x :: l) x k (rowsOk_len h x (by simp)) (rowsOk_len h) hk (by rw [rowsOk_len h x (by simp)]; have := rowsOk_len h r hr; omega)).2.2 r hr
theorem leastOf_is {rows : List (List Int)} (h : rowsOk rows) (hne : 0 < rows.length) (k : Nat) (hk : k < (leastOf rows).length) : ∃ r ∈ rows, ∃ hk' : k < r.length, (leastOf rows)[k] = r[k] := by
  cases rows with
  | nil => simp at hne
  | cons x l =>
    have h5 := leastOf_len h (by simp)
    have hx := rowsOk_len h x (by simp)
    rcases (foldl_get (x :: l) x k hx (rowsOk_len h) hk (by omega)).1 with h1 | ⟨r, hr, h1⟩
    · exact ⟨x, by simp, by omega, h1⟩
    · exact ⟨r, hr, by rw [rowsOk_len h r hr]; omega, h1⟩
theorem vecErr_mk {l : List Int} (h5 : l.length = 5) (h : ∀ x ∈ l, 0 ≤ x ∧ x ≤ 1000000) : vecErr l = 0 := by
  unfold vecErr
  rw [if_neg (by omega), if_neg]
  simp only [List.any_eq_true, not_exists, not_and, isCount, Bool.not_eq_true', Bool.not_eq_false, Bool.and_eq_true, decide_eq_true_eq]
  exact h
theorem vecErr_get {l : List Int} (h5 : l.length = 5) (h : ∀ k (hk : k < l.length), 0 ≤ l[k] ∧ l[k] ≤ 1000000) : vecErr l = 0 :=
  vecErr_mk h5 fun x hx => by obtain ⟨k, hk, rfl⟩ := List.getElem_of_mem hx; exact h k hk
theorem vecErr_at {l : List Int} (h : vecErr l = 0) (k : Nat) (hk : k < l.length) : 0 ≤ l[k] ∧ l[k] ≤ 1000000 := (vecErr0 h).2 _ (List.getElem_mem hk)
theorem vecErr_zipMax {a b : List Int} (ha : vecErr a = 0) (hb : vecErr b = 0) : vecErr (zipMax a b) = 0 := by
  have h1 := (vecErr0 ha).1; have h2 := (vecErr0 hb).1
  have hl := zipMax_len a b (by omega)
  refine vecErr_get (by omega) fun k hk => ?_
  rw [zipMax_get a b k (by omega) (by omega)]
  have h3 := vecErr_at ha k (by omega); have h4 := vecErr_at hb k (by omega)
  rw [Int.max_def]; split <;> omega
theorem vecErr_least {rows : List (List Int)} (h : rowsOk rows) (hne : 0 < rows.length) : vecErr (leastOf rows) = 0 := by
  refine vecErr_get (leastOf_len h hne) fun k hk => ?_
  obtain ⟨r, hr, hk', e⟩ := leastOf_is h hne k hk
  rw [e]; exact vecErr_at (h r hr) k hk'
theorem toldRows_len (rows : List (List Int)) (who : Int) (v : List Int) : (toldRows rows who v).length = rows.length := by
  unfold toldRows; split <;> simp
theorem toldRows_ok {rows : List (List Int)} (h : rowsOk rows) (who : Int) (v : List Int) : rowsOk (toldRows rows who v) := by
  unfold toldRows
  split
  · rename_i ht
    have hv : vecErr v = 0 ∧ inR who rows.length = true := by
      unfold toldErr at ht
      split at ht
      · cases ht
      · rename_i h1; exact ⟨ht, by simpa using h1⟩
    have hw : 0 ≤ who ∧ who < rows.length := by simpa [inR] using hv.2
    intro r hr
    rcases List.mem_or_eq_of_mem_set hr with hr | rfl
    · exact h r hr
    · have hlt : who.toNat < rows.length := by omega
      rw [show rows.getD who.toNat [] = rows[who.toNat] from by simp [hlt]]
      exact vecErr_zipMax (h _ (List.getElem_mem hlt)) hv.1
  · exact h
theorem rowsOk_zero (n : Nat) : rowsOk (List.replicate n zero5) := fun r hr => by rw [List.eq_of_mem_replicate hr]; exact vecErr_zero5
theorem zipMax_zero {v : List Int} (h : vecErr v = 0) : zipMax zero5 v = v := by
  have h5 := (vecErr0 h).1
  have hl := zipMax_len zero5 v (by rw [h5]; rfl)
  refine List.ext_getElem (by rw [hl, h5]; rfl) fun k h1 h2 => ?_
  have h3 := vecErr_at h k h2
  have hz : k < zero5.length := by rw [hl] at h1; exact h1
  rw [zipMax_get zero5 v k hz h2]
  have h0 : zero5[k] = 0 := by
    have : ∀ x ∈ zero5, x = 0 := by decide
    exact this _ (List.getElem_mem hz)
  rw [h0, Int.max_def]; split <;> omega
end Go.Proofs.YtljlnhbndkdlcaaDoor
/- VectorJoins: what is joined is the least above both; a step is above, and not below. -/
namespace Go.Proofs.YtljlnhbndkdlcaaDoor
set_option linter.unusedVariables false
set_option linter.unusedSimpArgs false
open Go.RowKit
theorem bothErr_of {a b : List Int} (ha : vecErr a = 0) (hb : vecErr b = 0) : bothErr a b = 0 := by simp [bothErr, ha, hb]
theorem zipMax_comm (a b : List Int) (h : a.length = b.length) : zipMax a b = zipMax b a := by
  refine List.ext_getElem (by rw [zipMax_len a b h, zipMax_len b a h.symm, h]) fun k h1 h2 => ?_
  have hl := zipMax_len a b h
  rw [zipMax_get a b k (by omega) (by omega), zipMax_get b a k (by omega) (by omega), Int.max_def, Int.max_def]
  split <;> split <;> omega
theorem leq_join_left (a b : List Int) (h : a.length = b.length) : leq a (zipMax a b) = true := by
  have hl := zipMax_len a b h
  refine (leq_iff a _ hl.symm).2 fun k h1 h2 => ?_
  rw [zipMax_get a b k h1 (by omega)]; exact Int.le_max_left _ _
theorem leq_join_right (a b : List Int) (h : a.length = b.length) : leq b (zipMax a b) = true := by
  rw [zipMax_comm a b h]; exact leq_join_left b a h.symm
theorem leq_join_iff (a b c : List Int) (h : a.length = b.length) (h' : a.length = c.length) : (leq a c && leq b c) = leq (zipMax a b) c := by
  have hl := zipMax_len a b h
  rw [Bool.eq_iff_iff, Bool.and_eq_true, leq_iff a c h', leq_iff b c (by omega), leq_iff _ c (by omega)]
  constructor
  · rintro ⟨h1, h2⟩ k hk hk'
    rw [zipMax_get a b k (by omega) (by omega), Int.max_def]
    split
    · exact h2 k (by omega) hk'
    · exact h1 k (by omega) hk'
  · intro h1
    constructor
    · intro k hk hk'
      have := h1 k (by omega) hk'
      rw [zipMax_get a b k hk (by omega)] at this
      exact Int.le_trans (Int.le_max_left _ _) this
    · intro k hk hk'
      have := h1 k (by omega) hk'
      rw [zipMax_get a b k (by omega) hk] at this
      exact Int.le_trans (Int.le_max_right _ _) this
theorem stepErr0 {v : List Int} {who : Int} (h : stepErr v who = 0) : vecErr v = 0 ∧ ∃ k : Nat, ∃ hk : k < v.length, who = k ∧ v[k] ≠ 1000000 ∧ stepOf v who = v.set k (v[k] + 1) := by
  have h' := h
  unfold stepErr at h
  split at h
  · rename_i h1; exact absurd h h1
  · rename_i h1
    have hv : vecErr v = 0 := by omega
    split at h
    · cases h
    · rename_i h2
      split at h
      · cases h
      · rename_i h3
        have hw : 0 ≤ who ∧ who < 5 := by simpa [isMember] using h2
        obtain ⟨k, rfl⟩ := Int.eq_ofNat_of_zero_le hw.1
        have h5 := (vecErr0 hv).1
        have hk : k < v.length := by omega
        have e : v.getD k 0 = v[k] := by simp [hk]
        refine ⟨hv, k, hk, rfl, by rw [Int.toNat_natCast, e] at h3; exact h3, ?_⟩
        unfold stepOf
        rw [if_pos h', Int.toNat_natCast, e]
theorem vecErr_step {v : List Int} {who : Int} (h : stepErr v who = 0) : vecErr (stepOf v who) = 0 := by
  obtain ⟨hv, k, hk, rfl, hne, he⟩ := stepErr0 h
  rw [he]
  have h5 := (vecErr0 hv).1
  refine vecErr_get (by simp [h5]) fun j hj => ?_
  have h1 := vecErr_at hv k hk
  by_cases hjk : k = j
  · subst hjk; rw [List.getElem_set_self]; omega
  · rw [List.getElem_set_ne hjk]; exact vecErr_at hv j (by simpa using hj)
theorem step_up {v : List Int} {who : Int} (h : stepErr v who = 0) : leq v (stepOf v who) = true ∧ leq (stepOf v who) v = false := by
  obtain ⟨hv, k, hk, rfl, hne, he⟩ := stepErr0 h
  rw [he]
  constructor
  · refine (leq_iff _ _ (by simp)).2 fun j h1 h2 => ?_
    by_cases hjk : k = j
    · subst hjk; rw [List.getElem_set_self]; omega
    · rw [List.getElem_set_ne hjk]; exact Int.le_refl _
  · cases hx : leq (v.set k (v[k] + 1)) v with
    | false => rfl
    | true =>
      have := (leq_iff _ _ (by simp)).1 hx k (by simpa using hk) hk
      rw [List.getElem_set_self] at this; omega
theorem Own.alloc_at {w0 w : World} {R : HProp} {b : Nat} (h : Own w0 R w) (hb : b = w.heap.size) (o : Obj) : Own w0 (blk b o * R) (w.alloc o) := hb ▸ h.alloc o
theorem Reads_lit {w0 : World} {R : HProp} {b n : Nat} {t : TypeId} {cs : Array Value} {l : List Int} (hcs : cs.toList = l.map (Value.int .i64)) (hn : n = l.length) (hI : ∀ x ∈ l, I64 x) (hm : l.length ≤ 100000) :
    Reads w0 (blk b (.cells cs t (0, 0)) * R) (.slice (some ⟨b, 0, none⟩) n n) l := fun w ho => by
  subst hn
  refine ⟨Rd_one (fun i u hi => ?_) (Nat.le_refl _) (by unfold maxLen; omega), hI⟩
  rw [ho.cell, ← Array.getElem?_toList, hcs]; exact hi
end Go.Proofs.YtljlnhbndkdlcaaDoor
/- Contracts of package stable: May; plain laws of what all have heard. -/
namespace Go.Proofs.YtljlnhbndkdlcaaDoor
set_option linter.unusedVariables false
set_option linter.unusedSimpArgs false
open Go.RowKit
def mayErr (n : Nat) (who many : Int) : Nat := if inR who n = false then 1 else if isCount many = false then 1 else 0
def mayIs (rows : List (List Int)) (who many : Int) : Bool := if mayErr rows.length who many = 0 then decide (many ≤ (leastOf rows).getD who.toNat 0) else false
theorem leq_of_get {a b : List Int} (hl : a.length = b.length) (h : ∀ i (h1 : i < a.length) (h2 : i < b.length), a[i] ≤ b[i]) : leq a b = true := (leq_iff a b hl).2 h
theorem toldRows_get {rows : List (List Int)} {k : Nat} {v : List Int} (hk : k < rows.length) (he : toldErr rows.length (k : Int) v = 0) : toldRows rows (k : Int) v = rows.set k (zipMax (rows.getD k []) v) := by
  unfold toldRows
  rw [if_pos he]; rfl
/-- What was told makes rows and the least of all greater. -/
theorem rises {rows : List (List Int)} (hok : rowsOk rows) (hne : 0 < rows.length) {k : Nat} (hk : k < rows.length) {v : List Int} (he : toldErr rows.length (k : Int) v = 0) :
    leq (leastOf rows) (leastOf (toldRows rows k v)) = true ∧ leq (rowOf rows k) (rowOf (toldRows rows k v) k) = true ∧ leq v (rowOf (toldRows rows k v) k) = true ∧ toldRows (toldRows rows k v) k v = toldRows rows k v ∧ toldErr (toldRows rows k v).length (k : Int) v = 0 := by
  have hlen := toldRows_len rows k v
  have hok2 := toldRows_ok hok (k : Int) v
  have hin : inR (k : Int) rows.length = true := by simp [inR]; omega
  have hv : vecErr v = 0 := by
    unfold toldErr at he
    rw [hin] at he
    simpa using he
  have hrk : rows.getD k [] = rows[k] := by rw [List.getD_eq_getElem?_getD, List.getElem?_eq_getElem hk]; rfl
  have hvk := hok rows[k] (List.getElem_mem hk)
  have hl1 := (vecErr0 hvk).1
  have hl2 := (vecErr0 hv).1
  have htr := toldRows_get hk he
  rw [hrk] at htr
  have hr1 : rowOf rows k = rows[k] := by unfold rowOf; rw [hin]; simp [hk]
  have hr2 : rowOf (toldRows rows k v) k = zipMax rows[k] v := by unfold rowOf; rw [hlen, hin, htr]; simp [hk]
  have hzl := zipMax_len rows[k] v (by omega)
  refine ⟨?_, ?_, ?_, ?_, by rw [hlen]; exact he⟩
  · refine leq_of_get (by rw [leastOf_len hok hne, leastOf_len hok2 (by omega)]) fun i h1 h2 => ?_
    obtain ⟨r, hr, hi, e⟩ := leastOf_is hok2 (by omega) i h2
    rw [e]
    rw [htr] at hr
    rcases List.mem_or_eq_of_mem_set hr with hr | rfl
    · exact leastOf_le hok r hr i h1 hi
    · have h3 : i < rows[k].length := by omega
      have h4 := leastOf_le hok rows[k] (List.getElem_mem hk) i h1 h3
      rw [zipMax_get rows[k] v i h3 (by omega) hi]
      omega
  · rw [hr1, hr2]; exact leq_join_left _ _ (by omega)
  · rw [hr2]; exact leq_join_right _ _ (by omega)
  · have he2 : toldErr (toldRows rows k v).length (k : Int) v = 0 := by rw [hlen]; exact he
    rw [toldRows_get (by rw [hlen]; exact hk) he2]
    have h5 : (toldRows rows k v).getD k [] = zipMax rows[k] v := by rw [htr]; simp [hk]
    rw [h5]
    have h6 : zipMax (zipMax rows[k] v) v = zipMax rows[k] v := by
      refine List.ext_getElem (by rw [zipMax_len _ v (by omega)]) fun i h1 h2 => ?_
      rw [zipMax_get _ v i h2 (by omega), zipMax_get rows[k] v i (by omega) (by omega)]
      omega
    rw [h6, htr, List.set_set]
theorem least_below {rows : List (List Int)} (hok : rowsOk rows) (hne : 0 < rows.length) {m : Nat} (hm : m < rows.length) : leq (leastOf rows) (rowOf rows m) = true := by
  have hin : inR (m : Int) rows.length = true := by simp [inR]; omega
  have hr1 : rowOf rows m = rows[m] := by unfold rowOf; rw [hin]; simp [hm]
  rw [hr1]
  have hl := (vecErr0 (hok rows[m] (List.getElem_mem hm))).1
  exact leq_of_get (by rw [leastOf_len hok hne, hl]) fun i h1 h2 => leastOf_le hok _ (List.getElem_mem hm) i h1 h2
theorem vecErr_row {rows : List (List Int)} (hok : rowsOk rows) {m : Nat} (hm : m < rows.length) : vecErr (rowOf rows m) = 0 := by
  have hin : inR (m : Int) rows.length = true := by simp [inR]; omega
  have hr1 : rowOf rows m = rows[m] := by unfold rowOf; rw [hin]; simp [hm]
  rw [hr1]; exact hok _ (List.getElem_mem hm)
end Go.Proofs.YtljlnhbndkdlcaaDoor
