/- Package log: contracts of New, Bytes, Safe, All, step, Fail, Sync. -/
import Derived.Test.YtljlnhbndkdlcaaDoorMLogStops8
import Derived.Test.YtljlnhbndkdlcaaDoorMLogStops9
import Derived.Test.YtljlnhbndkdlcaaDoorMLogStops6
import Derived.Test.YtljlnhbndkdlcaaDoorMLogStops3
namespace Go.Proofs.YtljlnhbndkdlcaaDoor
set_option linter.unusedVariables false
set_option linter.unusedSimpArgs false
open Go.RowKit
def strL (l : List UInt8) : ByteArray := ⟨l.toArray⟩
theorem strL_size (l : List UInt8) : (strL l).size = l.length := by simp [strL, ByteArray.size]
def LgO (p : Nat) (hv : Value) (s : Lg) : HProp := blk p (.cells #[hv, .string (strL s.bs), .int .i64 (s.safe : Nat), .int .i64 s.left, .bool s.st] 60 (0, 0)) * EvSl hv s.h
def LgP (p : Nat) (s : Lg) : HProp := hex fun hv => LgO p hv s
theorem Own.lg_open {w0 w : World} {p : Nat} {s : Lg} {R : HProp} (h : Own w0 (LgP p s * R) w) : ∃ hv, Own w0 (LgO p hv s * R) w := h.ex
theorem Own.lg_close {w0 w : World} {p : Nat} {hv : Value} {s : Lg} {R : HProp} (h : Own w0 (LgO p hv s * R) w) : Own w0 (LgP p s * R) w := h.ex_mk hv
theorem Own.lg_facts {w0 w : World} {p : Nat} {hv : Value} {s : Lg} {R : HProp} (h : Own w0 (LgO p hv s * R) w) :
    w.cell? ⟨p, 0, none⟩ = some hv ∧ w.cell? ⟨p, 1, none⟩ = some (.string (strL s.bs)) ∧ w.cell? ⟨p, 2, none⟩ = some (.int .i64 (s.safe : Nat)) ∧ w.cell? ⟨p, 3, none⟩ = some (.int .i64 s.left) ∧ w.cell? ⟨p, 4, none⟩ = some (.bool s.st) ∧ ∀ i, w.frozen? ⟨p, i, none⟩ = false := by
  have h1 := h.perm (show _ = blk p (.cells #[hv, .string (strL s.bs), .int .i64 (s.safe : Nat), .int .i64 s.left, .bool s.st] 60 (0, 0)) * (EvSl hv s.h * R) by unfold LgO; ac_rfl)
  exact ⟨(h1.cell 0).trans rfl, (h1.cell 1).trans rfl, (h1.cell 2).trans rfl, (h1.cell 3).trans rfl, (h1.cell 4).trans rfl, fun i => h1.free i none⟩
theorem Own.lg_set {w0 w : World} {p : Nat} {hv hv' : Value} {s s' : Lg} {R : HProp} (h : Own w0 (LgO p hv s * R) w) (i : Nat) (v : Value) (hh : s'.h = s.h) (hhv : hv' = hv)
    (hc : (#[hv, .string (strL s.bs), .int .i64 (s.safe : Nat), .int .i64 s.left, .bool s.st] : Array Value).setIfInBounds i v = #[hv', .string (strL s'.bs), .int .i64 (s'.safe : Nat), .int .i64 s'.left, .bool s'.st]) : Own w0 (LgO p hv' s' * R) (w.setCell ⟨p, i, none⟩ v) := by
  subst hhv
  have h1 := h.perm (show _ = blk p (.cells #[hv', .string (strL s.bs), .int .i64 (s.safe : Nat), .int .i64 s.left, .bool s.st] 60 (0, 0)) * (EvSl hv' s.h * R) by unfold LgO; ac_rfl)
  have h2 := h1.setCell (i := i) (v := v)
  rw [hc] at h2
  refine h2.perm ?_
  unfold LgO
  rw [hh]; ac_rfl
theorem Own.lg_evs {w0 w : World} {p : Nat} {hv : Value} {s : Lg} {R : HProp} (h : Own w0 (LgO p hv s * R) w) (hr : RightH s.h) : Evs w hv s.h :=
  ⟨Own.rd (h.perm (show _ = EvSl hv s.h * (blk p (.cells #[hv, .string (strL s.bs), .int .i64 (s.safe : Nat), .int .i64 s.left, .bool s.st] 60 (0, 0)) * R) by unfold LgO; ac_rfl)), fun e he => okEv_good (hr.ok e he)⟩
set_option maxRecDepth 100000 in
set_option maxHeartbeats 4000000 in
theorem lgNew_any {w0 w : World} {R : HProp} (h : Own w0 R w) :
    Calls Tryd.prog 7 #[] w fun e w' => ∃ p, e = .returned (.pointer (some ⟨p, 0, none⟩)) ∧ Own w0 (LgP p lgNew * R) w' := by
  obtain ⟨p, hb_p⟩ : ∃ zz_, zz_ = (w).heap.size := ⟨_, rfl⟩
  obtain ⟨w1, hw_w1⟩ : ∃ zz_, zz_ = (w).alloc (.cells #[.slice none 0 0, .string ⟨#[]⟩, .int .i64 0, .int .i64 (-1), .bool false] 60 (0, 0)) := ⟨_, rfl⟩
  have h_H1 := (h).alloc (.cells #[.slice none 0 0, .string ⟨#[]⟩, .int .i64 0, .int .i64 (-1), .bool false] 60 (0, 0))
  rw [← hb_p, ← hw_w1] at h_H1
  have H1 := Lib.hid h_H1
  clear h_H1
  have HO : Hid (Own w0 (LgP p lgNew * R) w1) := Lib.hid (Own.lg_close (hv := .slice none 0 0) (by
    unfold LgO EvSl
    show Own w0 (blk p _ * Sl 28 3 (.slice none 0 0) 0 [] * R) w1
    rw [Sl_nil, star_emp]
    exact H1.out))
  clear H1
  have H := Lib.hid h
  clear h
  go_enter Tryd.func7, Tryd.ntmps7
  go_wp2
  rw [← hb_p, ← hw_w1]
  clear hb_p hw_w1
  go_ret
  exact ⟨p, rfl, HO.out⟩
set_option maxRecDepth 100000 in
set_option maxHeartbeats 4000000 in
theorem lgBytes_any {w0 w : World} {R : HProp} (p : Nat) (s : Lg) (hI : LgI s) (h : Own w0 (LgP p s * R) w) :
    Calls Tryd.prog 10 #[.pointer (some ⟨p, 0, none⟩)] w fun e w' => e = .returned (.int .i64 (s.bs.length : Nat)) ∧ w = w' := by
  obtain ⟨hv, ho⟩ := h.lg_open
  obtain ⟨_, c1, _⟩ := ho.lg_facts
  have hsz := strL_size s.bs
  obtain ⟨B, hB⟩ : ∃ B, B = strL s.bs := ⟨_, rfl⟩
  rw [← hB] at c1 hsz
  have hzz := hsz
  have HSZ := Lib.hid hsz
  clear ho hB hsz hzz
  have H := Lib.hid h; have HI := Lib.hid hI
  clear h hI
  go_enter Tryd.func10, Tryd.ntmps10
  go_wp2
  go_ret
  exact ⟨by first | rfl | (simp; done) | (show Ending.returned (.int .i64 ((B.size : Nat) : Int)) = _; rw [HSZ.out]), rfl⟩
set_option maxRecDepth 100000 in
set_option maxHeartbeats 4000000 in
theorem lgSafe_any {w0 w : World} {R : HProp} (p : Nat) (s : Lg) (h : Own w0 (LgP p s * R) w) :
    Calls Tryd.prog 25 #[.pointer (some ⟨p, 0, none⟩)] w fun e w' => e = .returned (.int .i64 (s.safe : Nat)) ∧ w = w' := by
  obtain ⟨hv, ho⟩ := h.lg_open
  obtain ⟨_, _, c2, _⟩ := ho.lg_facts
  clear ho
  have H := Lib.hid h
  clear h
  go_enter Tryd.func25, Tryd.ntmps25
  go_wp2
  go_ret
  exact ⟨rfl, rfl⟩
set_option maxRecDepth 100000 in
set_option maxHeartbeats 4000000 in
theorem lgAll_any {w0 w : World} {R : HProp} (p : Nat) (s : Lg) (hI : LgI s) (h : Own w0 (LgP p s * R) w) :
    Calls Tryd.prog 12 #[.pointer (some ⟨p, 0, none⟩)] w fun e w' => ∃ v', e = .returned v' ∧ Own w0 (EvSl v' s.h * (LgP p s * R)) w' := by
  obtain ⟨hv, ho⟩ := h.lg_open
  obtain ⟨c0, _⟩ := ho.lg_facts
  have HE := Lib.hid (ho.lg_evs hI.hr)
  have hlen := hI.hr.1
  clear ho
  have H := Lib.hid h; have HI := Lib.hid hI
  clear h hI
  go_enter Tryd.func12, Tryd.ntmps12
  go_wp2_with fail
  refine (cloneEv_any hv s.h HE.out (by omega) H.out).mono ?_
  rintro e w2 ⟨v', rfl, ho⟩
  have HO2 := Lib.hid ho
  clear ho c0
  go_wp2
  go_ret
  exact ⟨v', rfl, HO2.out⟩
def lgStep (s : Lg) : Lg := { s with st := decide (s.left = 0), left := dec1 s.left }
set_option maxRecDepth 100000 in
set_option maxHeartbeats 4000000 in
theorem lgStep_any {w0 w : World} {R : HProp} (p : Nat) (hv : Value) (s : Lg) (hl : -1 ≤ s.left ∧ s.left ≤ 9223372036854775807) (h : Own w0 (LgO p hv s * R) w) :
    Calls Tryd.prog 32 #[.pointer (some ⟨p, 0, none⟩)] w fun e w' => e = .returned (.bool (decide (s.left = 0))) ∧ Own w0 (LgO p hv (lgStep s) * R) w' := by
  obtain ⟨c0, c1, c2, c3, c4, cf⟩ := h.lg_facts
  obtain ⟨L, hL⟩ : ∃ L, L = s.left := ⟨_, rfl⟩
  rw [← hL] at c3 hl
  have hl1 := hl.1
  have hl2 := hl.2
  obtain ⟨D, hD⟩ : ∃ D, (L == 0) = D := ⟨_, rfl⟩
  have hDd : decide (s.left = 0) = D := by rw [← hD, hL]; rfl
  have HO1 : Hid (Own w0 (LgO p hv { s with st := D } * R) (w.setCell ⟨p, 4, none⟩ (.bool D))) := Lib.hid (h.lg_set 4 (.bool D) rfl rfl (by simp [Array.setIfInBounds]))
  obtain ⟨w1, hw1⟩ : ∃ w1, w1 = w.setCell ⟨p, 4, none⟩ (.bool D) := ⟨_, rfl⟩
  rw [← hw1] at HO1
  obtain ⟨d0, d1, d2, d3, d4, df⟩ := HO1.out.lg_facts
  simp only at d3 d4
  rw [← hL] at d3
  have HO2 : Hid (Own w0 (LgO p hv (lgStep s) * R) (w1.setCell ⟨p, 3, none⟩ (.int .i64 (dec1 L)))) := Lib.hid (HO1.out.lg_set 3 (.int .i64 (dec1 L)) rfl rfl (by rw [hL]; unfold lgStep; rw [hDd]; simp [Array.setIfInBounds]))
  obtain ⟨w2, hw2⟩ : ∃ w2, w2 = w1.setCell ⟨p, 3, none⟩ (.int .i64 (dec1 L)) := ⟨_, rfl⟩
  rw [← hw2] at HO2
  obtain ⟨_, _, _, _, f4, _⟩ := HO2.out.lg_facts
  rw [show (lgStep s).st = D from hDd] at f4
  have H := Lib.hid h; have HL := Lib.hid hL; have HL := Lib.hid hl; have HDD := Lib.hid hDd
  clear h hL hl hDd
  clear HO1
  go_enter Tryd.func32, Tryd.ntmps32
  go_upto_region 2 with fail
  rw [← hw1]
  clear hw1 c0 c1 c2 c3 c4 cf
  unfold dec1 at hw2
  go_upto_region 3 with fail
  rw [← hw2]
  clear hw2 d0 d1 d3 d4 df
  go_wp2
  go_ret
  exact ⟨by rw [HDD.out]; rfl, HO2.out⟩
set_option maxRecDepth 100000 in
set_option maxHeartbeats 4000000 in
theorem lgFail_any {w0 w : World} {R : HProp} (p : Nat) (s : Lg) (n : Int) (h : Own w0 (LgP p s * R) w) :
    Calls Tryd.prog 13 #[.pointer (some ⟨p, 0, none⟩), .int .i64 n] w fun e w' => e = .returned (.tuple #[]) ∧ Own w0 (LgP p (lgFail s n) * R) w' := by
  obtain ⟨hv, ho⟩ := h.lg_open
  obtain ⟨c0, c1, c2, c3, c4, cf⟩ := ho.lg_facts
  have HO2 : Hid (Own w0 (LgP p (lgFail s n) * R) (w.setCell ⟨p, 3, none⟩ (.int .i64 (max (-1) n)))) := Lib.hid (Own.lg_close (ho.lg_set 3 (.int .i64 (max (-1) n)) rfl rfl (by simp [Array.setIfInBounds, lgFail])))
  clear ho
  have H := Lib.hid h
  clear h
  go_enter Tryd.func13, Tryd.ntmps13
  go_wp2
  go_end0
  exact ⟨rfl, HO2.out⟩
set_option maxRecDepth 100000 in
set_option maxHeartbeats 4000000 in
theorem lgSync_any {w0 w : World} {R : HProp} (p : Nat) (s : Lg) (hI : LgI s) (h : Own w0 (LgP p s * R) w) :
    Calls Tryd.prog 14 #[.pointer (some ⟨p, 0, none⟩)] w fun e w' => e = .returned (errV (lgSyncErr s)) ∧ Own w0 (LgP p (lgSync s) * R) w' := by
  obtain ⟨hv, ho⟩ := h.lg_open
  obtain ⟨c0, c1, c2, c3, c4, cf⟩ := ho.lg_facts
  have HO := Lib.hid ho
  clear ho
  cases hst : s.st
  rotate_left
  · have h1 : lgSync s = s := by unfold lgSync; rw [if_pos hst]
    have h2 : lgSyncErr s = 6 := by unfold lgSyncErr; rw [if_pos (.inl hst)]
    rw [hst] at c4
    rw [h1, h2]
    have H := Lib.hid h; have HI := Lib.hid hI; have HST := Lib.hid hst; have H1 := Lib.hid h1; have H2 := Lib.hid h2
    clear h hI hst h1 h2
    go_enter Tryd.func14, Tryd.ntmps14
    go_wp2
    go_ret
    exact ⟨rfl, H.out⟩
  rw [hst] at c4
  obtain ⟨D, hD⟩ : ∃ D, decide (s.left = 0) = D := ⟨_, rfl⟩
  have hl := hI.left
  have hsz := strL_size (lgStep s).bs
  cases D
  rotate_left
  · have hz : s.left = 0 := by simpa using hD
    have h1 : lgSync s = lgStep s := by unfold lgSync lgStep dec1; rw [if_neg (by rw [hst]; simp), if_pos hz, hz]; rfl
    have h2 : lgSyncErr s = 6 := by unfold lgSyncErr; rw [if_pos (.inr hz)]
    rw [h1, h2]
    have H := Lib.hid h; have HI := Lib.hid hI; have HST := Lib.hid hst; have H1 := Lib.hid h1; have H2 := Lib.hid h2; have HZ := Lib.hid hz; have HL := Lib.hid hl; have HSZ := Lib.hid hsz
    clear h hI hst h1 h2 hz hl hsz
    go_enter Tryd.func14, Tryd.ntmps14
    go_wp2_with fail
    refine (lgStep_any p hv s HL.out HO.out).mono ?_
    rintro e w2 ⟨rfl, ho⟩
    rw [hD]
    have HO2 := Lib.hid ho
    clear ho
    go_wp2
    go_ret
    exact ⟨rfl, Own.lg_close HO2.out⟩
  · have hz : ¬ s.left = 0 := by simpa using hD
    have h1 : lgSync s = { lgStep s with safe := s.bs.length } := by unfold lgSync lgStep; rw [if_neg (by rw [hst]; simp), if_neg hz, hD]
    have h2 : lgSyncErr s = 0 := by unfold lgSyncErr; rw [if_neg (by rw [hst]; simp [hz])]
    rw [h1, h2]
    have H := Lib.hid h; have HI := Lib.hid hI; have HST := Lib.hid hst; have H1 := Lib.hid h1; have H2 := Lib.hid h2; have HZ := Lib.hid hz; have HL := Lib.hid hl
    clear h hI hst h1 h2 hz hl
    go_enter Tryd.func14, Tryd.ntmps14
    go_wp2_with fail
    refine (lgStep_any p hv s HL.out HO.out).mono ?_
    rintro e w2 ⟨rfl, ho⟩
    rw [hD]
    obtain ⟨d0, d1, d2, d3, d4, df⟩ := ho.lg_facts
    have HO2 : Hid (Own w0 (LgP p { lgStep s with safe := s.bs.length } * R) (w2.setCell ⟨p, 2, none⟩ (.int .i64 (s.bs.length : Nat)))) := Lib.hid (Own.lg_close (ho.lg_set 2 (.int .i64 (s.bs.length : Nat)) rfl rfl (by simp [Array.setIfInBounds])))
    obtain ⟨B, hB⟩ : ∃ B, B = strL (lgStep s).bs := ⟨_, rfl⟩
    rw [← hB] at d1 hsz
    rw [show (lgStep s).bs = s.bs from rfl] at hsz
    clear ho hB
    go_wp2
    go_ret
    exact ⟨rfl, HO2.out⟩
end Go.Proofs.YtljlnhbndkdlcaaDoor
/- Package log: Do. -/
namespace Go.Proofs.YtljlnhbndkdlcaaDoor
set_option linter.unusedVariables false
set_option linter.unusedSimpArgs false
open Go.RowKit
theorem strL_app (a b : List UInt8) : strL a ++ strL b = strL (a ++ b) := by
  apply ByteArray.ext; simp [strL]
theorem strL_take (a : List UInt8) (k : Nat) : (strL a).extract 0 k = strL (a.take k) := by
  apply ByteArray.ext; simp [strL, List.extract_eq_take_drop]
theorem digB_L (i : Nat) : digB i = strL (Lib.decDigits i) := rfl
theorem line_is (a b c : Nat) : (((((digB a ++ ⟨#[32]⟩) ++ digB b) ++ ⟨#[32]⟩) ++ digB c) ++ ⟨#[10]⟩ : ByteArray) = strL (encE ((a : Int), (b : Int), (c : Int))) := by
  have e1 : (⟨#[32]⟩ : ByteArray) = strL [32] := rfl
  have e2 : (⟨#[10]⟩ : ByteArray) = strL [10] := rfl
  rw [e1, e2, digB_L, digB_L, digB_L, strL_app, strL_app, strL_app, strL_app, strL_app]
  rfl
/-- The line of an event. -/
noncomputable def lgLine_code : Code := ((Tryd.f8.body.bind (findRegion 7)).getD .skip)
set_option maxRecDepth 1000000 in
set_option maxHeartbeats 4000000 in
theorem lgLine {Q : Exit → Act → World → Prop} {u0 u1 u2 u4 u5 u6 u7 u8 u9 u10 u11 u12 u13 u14 u15 u16 u17 u18 u19 u20 u21 u22 u23 u24 u25 u26 u27 u28 u29 u30 u31 u32 u33 u34 u35 u36 u37 u38 u39 u40 u41 u42 u43 u44 u45 u46 u47 u48 u49 u50 u51 u52 u53 u54 u55 u56 u57 u58 u59 u60 u61 u62 u63 u64 u65 u66 : Value} {w1 : World} (b1 a b c : Nat) (ha : a < 100) (hb : b < 100) (hc : c < 100) (x0 : w1.cell? ⟨b1, 0, none⟩ = some (.int .i64 (a : Int))) (x1 : w1.cell? ⟨b1, 1, none⟩ = some (.int .i64 (b : Int))) (x2 : w1.cell? ⟨b1, 2, none⟩ = some (.int .i64 (c : Int)))
    (hK : ∀ (v7 v26 v27 v28 v29 v30 v31 v32 v33 v34 v35 v36 v37 v38 v39 : Value) (wx : World), (v7 = .string (strL (encE ((a : Int), (b : Int), (c : Int)))) ∧ wx = w1.drew) → Q .normal ⟨List.toArray (u0 :: u1 :: u2 :: (.pointer (some ⟨b1, 0, none⟩)) :: u4 :: u5 :: u6 :: v7 :: u8 :: u9 :: u10 :: u11 :: u12 :: u13 :: u14 :: u15 :: u16 :: u17 :: u18 :: u19 :: u20 :: u21 :: u22 :: u23 :: u24 :: u25 :: v26 :: v27 :: v28 :: v29 :: v30 :: v31 :: v32 :: v33 :: v34 :: v35 :: v36 :: v37 :: v38 :: v39 :: u40 :: u41 :: u42 :: u43 :: u44 :: u45 :: u46 :: u47 :: u48 :: u49 :: u50 :: u51 :: u52 :: u53 :: u54 :: u55 :: u56 :: u57 :: u58 :: u59 :: u60 :: u61 :: u62 :: u63 :: u64 :: u65 :: u66 :: []), []⟩ wx) :
    Code.wp Tryd.prog lgLine_code Q ⟨List.toArray (u0 :: u1 :: u2 :: (.pointer (some ⟨b1, 0, none⟩)) :: u4 :: u5 :: u6 :: u7 :: u8 :: u9 :: u10 :: u11 :: u12 :: u13 :: u14 :: u15 :: u16 :: u17 :: u18 :: u19 :: u20 :: u21 :: u22 :: u23 :: u24 :: u25 :: u26 :: u27 :: u28 :: u29 :: u30 :: u31 :: u32 :: u33 :: u34 :: u35 :: u36 :: u37 :: u38 :: u39 :: u40 :: u41 :: u42 :: u43 :: u44 :: u45 :: u46 :: u47 :: u48 :: u49 :: u50 :: u51 :: u52 :: u53 :: u54 :: u55 :: u56 :: u57 :: u58 :: u59 :: u60 :: u61 :: u62 :: u63 :: u64 :: u65 :: u66 :: []), []⟩ w1 := by
  conv => arg 2; whnf
  have HK := Lib.hid hK
  clear hK
  have da := dig_len a ha
  have db := dig_len b hb
  have dc := dig_len c hc
  have sa : (digB a).size = (Lib.decDigits a).length := by simp [digB, ByteArray.size]
  have sb : (digB b).size = (Lib.decDigits b).length := by simp [digB, ByteArray.size]
  have sc : (digB c).size = (Lib.decDigits c).length := by simp [digB, ByteArray.size]
  have hln := line_is a b c
  have HIA : Hid (∀ w, Calls Tryd.prog 31 #[.int .i64 (a : Int)] w fun e w' => e = .returned (.string (digB a)) ∧ w = w') := Lib.hid (fun w => stItoa a ha w)
  have HIB : Hid (∀ w, Calls Tryd.prog 31 #[.int .i64 (b : Int)] w fun e w' => e = .returned (.string (digB b)) ∧ w = w') := Lib.hid (fun w => stItoa b hb w)
  have HIC : Hid (∀ w, Calls Tryd.prog 31 #[.int .i64 (c : Int)] w fun e w' => e = .returned (.string (digB c)) ∧ w = w') := Lib.hid (fun w => stItoa c hc w)
  obtain ⟨A, hA⟩ : ∃ A, A = digB a := ⟨_, rfl⟩
  obtain ⟨B, hB⟩ : ∃ A, A = digB b := ⟨_, rfl⟩
  obtain ⟨C, hC⟩ : ∃ A, A = digB c := ⟨_, rfl⟩
  rw [← hA] at sa hln HIA
  rw [← hB] at sb hln HIB
  rw [← hC] at sc hln HIC
  have s32 : (⟨#[32]⟩ : ByteArray).size = 1 := rfl
  have s10 : (⟨#[10]⟩ : ByteArray).size = 1 := rfl
  have had1 : ∀ w : World, (Op.stringOp .add A ⟨#[32]⟩).run Tryd.prog w = .ok (.string (A ++ ⟨#[32]⟩)) w := fun w => run_string_add_sum _ _ _ (by omega)
  obtain ⟨A1, hA1⟩ : ∃ X, X = A ++ ⟨#[32]⟩ := ⟨_, rfl⟩
  have sA1 : A1.size ≤ 3 := by rw [hA1, ByteArray.size_append]; omega
  rw [← hA1] at had1 hln
  have had2 : ∀ w : World, (Op.stringOp .add A1 B).run Tryd.prog w = .ok (.string (A1 ++ B)) w := fun w => run_string_add_sum _ _ _ (by omega)
  obtain ⟨A2, hA2⟩ : ∃ X, X = A1 ++ B := ⟨_, rfl⟩
  have sA2 : A2.size ≤ 5 := by rw [hA2, ByteArray.size_append]; omega
  rw [← hA2] at had2 hln
  have had3 : ∀ w : World, (Op.stringOp .add A2 ⟨#[32]⟩).run Tryd.prog w = .ok (.string (A2 ++ ⟨#[32]⟩)) w := fun w => run_string_add_sum _ _ _ (by omega)
  obtain ⟨A3, hA3⟩ : ∃ X, X = A2 ++ ⟨#[32]⟩ := ⟨_, rfl⟩
  have sA3 : A3.size ≤ 6 := by rw [hA3, ByteArray.size_append]; omega
  rw [← hA3] at had3 hln
  have had4 : ∀ w : World, (Op.stringOp .add A3 C).run Tryd.prog w = .ok (.string (A3 ++ C)) w := fun w => run_string_add_sum _ _ _ (by omega)
  obtain ⟨A4, hA4⟩ : ∃ X, X = A3 ++ C := ⟨_, rfl⟩
  have sA4 : A4.size ≤ 8 := by rw [hA4, ByteArray.size_append]; omega
  rw [← hA4] at had4 hln
  have had5 : ∀ w : World, (Op.stringOp .add A4 ⟨#[10]⟩).run Tryd.prog w = .ok (.string (A4 ++ ⟨#[10]⟩)) w := fun w => run_string_add_sum _ _ _ (by omega)
  rw [hln] at had5
  obtain ⟨S, hS⟩ : ∃ S, S = strL (encE ((a : Int), (b : Int), (c : Int))) := ⟨_, rfl⟩
  rw [← hS] at had5 HK
  clear hA hB hC hA1 hA2 hA3 hA4 sA1 sA2 sA3 sA4 s32 s10 sa sb sc da db dc hln ha hb hc hS
  refine wp_region_planH 14 [] [(true, 0), (true, 1), (true, 4), (true, 5), (true, 9), (true, 10), (false, 2), (true, 3), (false, 6), (true, 7), (true, 8), (false, 11), (true, 12), (true, 13)] [14] (fun wS => wS = w1.drew) (by kernel_rfl) (by kernel_rfl) (rfl) ?_
  simp only [pickH, pick, List.getElem?_cons_succ, List.getElem?_cons_zero, Option.toList, Option.map_some, List.cons_append, List.nil_append]
  repeat (refine wpPure_step ?_ rfl ?_ ?_; rotate_left; (focus (intro _; first | with_reducible rfl | (go_simp; done) | (go_simp; with_reducible rfl) | rfl)); go_simp)
  refine wpPure_nil ?_
  repeat (refine wpMix_read ?_ rfl ?_ ?_; rotate_left; (focus (intro _ hS; obtain rfl := hS; first | with_reducible rfl | (go_simp; done) | (go_simp; with_reducible rfl) | rfl)); go_simp)
  refine wpMix_write (fun K hK => ?_)
  go_simp
  refine (HIA.out _).mono ?_
  rintro e w' ⟨rfl, rfl⟩
  refine hK _ _ ⟨rfl, ?_⟩
  clear hK K
  go_simp
  repeat (refine wpMix_read ?_ rfl ?_ ?_; rotate_left; (focus (intro _ hS; obtain rfl := hS; first | with_reducible rfl | (go_simp; done) | (go_simp; with_reducible rfl) | rfl)); go_simp)
  refine wpMix_write (fun K hK => ?_)
  go_simp
  refine (HIB.out _).mono ?_
  rintro e w' ⟨rfl, rfl⟩
  refine hK _ _ ⟨rfl, ?_⟩
  clear hK K
  go_simp
  repeat (refine wpMix_read ?_ rfl ?_ ?_; rotate_left; (focus (intro _ hS; obtain rfl := hS; first | with_reducible rfl | (go_simp; done) | (go_simp; with_reducible rfl) | rfl)); go_simp)
  refine wpMix_write (fun K hK => ?_)
  go_simp
  refine (HIC.out _).mono ?_
  rintro e w' ⟨rfl, rfl⟩
  refine hK _ _ ⟨rfl, ?_⟩
  clear hK K
  go_simp
  repeat (refine wpMix_read ?_ rfl ?_ ?_; rotate_left; (focus (intro _ hS; obtain rfl := hS; first | with_reducible rfl | (go_simp; done) | (go_simp; with_reducible rfl) | rfl)); go_simp)
  refine wpMix_nil ?_
  go_wp2_with fail
  refine NoPanic.normal ?_
  apply HK.out
  exact ⟨rfl, rfl⟩
end Go.Proofs.YtljlnhbndkdlcaaDoor
/- As XHeld, where two writes come up at once: both orders are walked. -/
namespace Go.Proofs.YtljlnhbndkdlcaaDoor
set_option linter.unusedVariables false
set_option linter.unusedSimpArgs false
open Go.RowKit
section
variable {P : Program} {ops : Array Oper} {md : Region.Mode} {S : World → Prop} {Q : Exit → Act → World → Prop}
def headF (md : Region.Mode) (ops : Array Oper) (r : List Nat) (n k1 k2 : Nat) (q1 q2 : List (Bool × Nat)) : List (Bool × Nat) → Array Bool → Bool
  | [], listed => decide (Region.ready md ops listed = [k1, k2]) && decide (k1 < n) && decide (k2 < n) && decide (q2.length = q1.length) && headH md ops r n q1 (listed.setIfInBounds k1 true) && headH md ops r n q2 (listed.setIfInBounds k2 true)
  | (true, k) :: l, listed => decide (k < n) && (Region.ready md ops listed).contains k && Region.free md ops listed k && headF md ops r n k1 k2 q1 q2 l (listed.setIfInBounds k true)
  | (false, k) :: l, listed => decide (k < n) && decide (Region.ready md ops listed = [k]) && headF md ops r n k1 k2 q1 q2 l (listed.setIfInBounds k true)
theorem wpAnyHL_mono {L L' : Array Bool → Act → World → Prop} (hL : ∀ listed a w, L listed a w → L' listed a w) : ∀ (f : Nat) (listed : Array Bool) (a : Act) (w : World), wpAnyHL P md ops Q S L f listed a w → wpAnyHL P md ops Q S L' f listed a w
  | 0, _, _, _, h => hL _ _ _ h
  | f + 1, _, _, _, h => ⟨h.1, fun i hi => wpOp_mono (fun a' w' h' => ⟨h'.1, wpAnyHL_mono hL f _ a' w' h'.2⟩) (h.2 i hi)⟩
theorem wpAnyHL_planF {n k1 k2 : Nat} {m r : List Nat} {q1 q2 : List (Bool × Nat)} {Lq : Act → World → Prop} {L0 : List Oper} (hops : ops = L0.toArray) (hsel : Region.noSelect ops = true) (hQ : ∀ d v c a w, Q (.panic c) (Act.put a d v) w → Q (.panic c) a w) (hs : sinkX md ops n m = true) (hl : linkX md ops n m = true) :
    ∀ (l : List (Bool × Nat)) (listed : Array Bool) (a : Act) (w : World), HInv md ops n m listed → (∀ i ∈ m, listed.getD i false = true) → S w →
    headF md ops r n k1 k2 q1 q2 l listed = true → wpMix P ops S Q (fun a w => wpMix P ops S Q Lq (pickH L0 ((false, k1) :: q1)) a w ∧ wpMix P ops S Q Lq (pickH L0 ((false, k2) :: q2)) a w) (pickH L0 l) a w →
    wpAnyHL P md ops Q S (fun listed' a' w' => ((∀ i < n, listed'.getD i true = true) ∧ ordB md ops r listed' = true) ∧ Lq a' w') (l.length + (q1.length + 1)) listed a w
  | [], listed, a, w, inv, hm, hS, hB, h => by
    simp only [headF, Bool.and_eq_true, decide_eq_true_eq] at hB
    obtain ⟨⟨⟨⟨⟨hr, h1n⟩, h2n⟩, hlen⟩, hB1⟩, hB2⟩ := hB
    rw [List.length_nil, Nat.zero_add]
    have go : ∀ (k : Nat) (q : List (Bool × Nat)), k < n → q.length = q1.length → k ∈ Region.ready md ops listed → headH md ops r n q (listed.setIfInBounds k true) = true → wpMix P ops S Q Lq (pickH L0 ((false, k) :: q)) a w →
        wpOp P ops Q k (fun a' w' => S w' ∧ wpAnyHL P md ops Q S (fun listed' a' w' => ((∀ i < n, listed'.getD i true = true) ∧ ordB md ops r listed' = true) ∧ Lq a' w') q1.length (listed.setIfInBounds k true) a' w') a w := by
      intro k q hkn hq hk hBk hk2
      obtain ⟨_, o, h0, _⟩ := mem_ready.1 hk
      have h0' : L0[k]? = some o := by rw [hops] at h0; simpa using h0
      simp only [pickH, h0', Option.map_some, Option.toList, List.cons_append, List.nil_append] at hk2
      have inv' := inv.set hk (.inl hkn)
      refine wpOp_mono (K := fun a' w' => S w' ∧ wpMix P ops S Q Lq (pickH L0 q) a' w') (fun a' w' h' => ⟨h'.1, by
        have := wpAnyHL_plan hops hsel hQ hs hl q _ _ _ inv' (fun i hi => getD_set_true (hm i hi)) h'.1 hBk h'.2
        rw [hq] at this
        exact this⟩) ?_
      unfold wpOp
      simp only [h0]
      exact hk2
    refine ⟨by rw [hr]; simp, fun j hj => ?_⟩
    have hj' := hj
    rw [hr] at hj'
    rcases List.mem_cons.1 hj' with rfl | hj'
    · exact go j q1 h1n rfl hj hB1 h.1
    · obtain rfl : j = k2 := by simpa using hj'
      exact go j q2 h2n hlen hj hB2 h.2
  | (true, k) :: l, listed, a, w, inv, hm, hS, hB, h => by
    simp only [headF, Bool.and_eq_true, decide_eq_true_eq] at hB
    obtain ⟨⟨⟨hkn, hr⟩, hf⟩, hB'⟩ := hB
    have hr' : k ∈ Region.ready md ops listed := by simpa using hr
    obtain ⟨_, o, h0, _⟩ := mem_ready.1 hr'
    have h0' : L0[k]? = some o := by rw [hops] at h0; simpa using h0
    simp only [pickH, h0', Option.map_some, Option.toList, List.cons_append, List.nil_append] at h
    obtain ⟨v, hy, hK⟩ := h
    rw [List.length_cons, show l.length + 1 + (q1.length + 1) = (l.length + (q1.length + 1)) + 1 by omega]
    refine head_takeH h0 hsel hQ hs hl hkn (fun listed' a' w' hL => ordB_ready hL.1.2 hL.1.1) (l.length + (q1.length + 1)) listed a w inv hm (Region.free_spec h0 hf) hr' hy hS ?_
    exact wpAnyHL_planF hops hsel hQ hs hl l _ _ _ (inv.set hr' (.inl hkn)) (fun i hi => getD_set_true (hm i hi)) hS hB' hK
  | (false, k) :: l, listed, a, w, inv, hm, hS, hB, h => by
    simp only [headF, Bool.and_eq_true, decide_eq_true_eq] at hB
    obtain ⟨⟨hkn, hr⟩, hB'⟩ := hB
    have hr' : k ∈ Region.ready md ops listed := by rw [hr]; simp
    obtain ⟨_, o, h0, _⟩ := mem_ready.1 hr'
    have h0' : L0[k]? = some o := by rw [hops] at h0; simpa using h0
    simp only [pickH, h0', Option.map_some, Option.toList, List.cons_append, List.nil_append] at h
    rw [List.length_cons, show l.length + 1 + (q1.length + 1) = (l.length + (q1.length + 1)) + 1 by omega]
    refine ⟨List.ne_nil_of_mem hr', fun j hj => ?_⟩
    rw [hr] at hj
    have hjk : j = k := by simpa using hj
    subst hjk
    have inv' := inv.set hr' (.inl hkn)
    refine wpOp_mono (K := fun a' w' => S w' ∧ wpMix P ops S Q _ (pickH L0 l) a' w') (fun a' w' h' => ⟨h'.1, wpAnyHL_planF hops hsel hQ hs hl l _ _ _ inv' (fun i hi => getD_set_true (hm i hi)) h'.1 hB' h'.2⟩) ?_
    unfold wpOp
    simp only [h0]
    exact h
def planF (ops : Array Oper) (n : Nat) (p : List (Bool × Nat)) (k1 k2 : Nat) (q1 q2 : List (Bool × Nat)) (r : List Nat) : Bool :=
  Region.noSelect ops && sinkX .any ops n [] && linkX .any ops n [] && headF .any ops r n k1 k2 q1 q2 p (Array.replicate ops.size false) && decide ((p.length + (q1.length + 1)) + r.length = ops.size)
theorem wp_region_planF {id : Nat} {Q : Exit → Act → World → Prop} {a : Act} {w : World} {l : List Oper} (n : Nat) (p : List (Bool × Nat)) (k1 k2 : Nat) (q1 q2 : List (Bool × Nat)) (r : List Nat) (S : World → Prop) (hm : P.follows .mixedOrders = true) (hB : planF l.toArray n p k1 k2 q1 q2 r = true) (hS : S w.drew)
    (h : wpMix P l.toArray S (NoPanic Q) (fun a w => wpMix P l.toArray S (NoPanic Q) (fun a' w' => wpList P l.toArray (NoPanic Q) (pick l r) a' w') (pickH l ((false, k1) :: q1)) a w ∧ wpMix P l.toArray S (NoPanic Q) (fun a' w' => wpList P l.toArray (NoPanic Q) (pick l r) a' w') (pickH l ((false, k2) :: q2)) a w) (pickH l p) a w.drew) : (Code.region id l.toArray true).wp P Q a w := by
  refine wp_region_noPanic ?_
  simp only [planF, Bool.and_eq_true, decide_eq_true_eq] at hB
  obtain ⟨⟨⟨⟨hsel, hs⟩, hl⟩, hh⟩, hlen⟩ := hB
  have inv0 : HInv .any l.toArray n [] (Array.replicate l.toArray.size false) :=
    ⟨by simp, fun j oj _ hl => (by rw [getD_replicate_false] at hl; cases hl), fun t _ ht _ => getD_in (by simpa using ht) (getD_replicate_false _ _)⟩
  refine wp_region_any hm ?_
  have hQ : ∀ d v c a w, NoPanic Q (.panic c) (Act.put a d v) w → NoPanic Q (.panic c) a w := fun _ _ _ _ _ h => h.elim
  have H1 := wpAnyHL_planF (P := P) (md := .any) (r := r) (Lq := fun a' w' => wpList P l.toArray (NoPanic Q) (pick l r) a' w') rfl hsel hQ hs hl p _ a _ inv0 (fun i hi => by cases hi) hS hh h
  have H := wpAny_of_HL (g := r.length) (fun listed a' w' hL => wpAny_of_ord hsel hQ r listed a' w' hL.1.2 hL.2) _ _ _ _ H1
  rw [hlen] at H
  exact H
end
end Go.Proofs.YtljlnhbndkdlcaaDoor
/- Package log: Do, continued. -/
namespace Go.Proofs.YtljlnhbndkdlcaaDoor
set_option linter.unusedVariables false
set_option linter.unusedSimpArgs false
open Go.RowKit
/-- The next history. -/
noncomputable def lgNext_code : Code := ((Tryd.f8.body.bind (findRegion 3)).getD .skip)
set_option maxRecDepth 1000000 in
set_option maxHeartbeats 4000000 in
theorem lgNext {Q : Exit → Act → World → Prop} {u1 u2 u4 u5 u6 u7 u8 u9 u10 u11 u12 u13 u14 u15 u16 u17 u18 u19 u20 u21 u22 u23 u24 u25 u26 u27 u28 u29 u30 u31 u32 u33 u34 u35 u36 u37 u38 u39 u40 u41 u42 u43 u44 u45 u46 u47 u48 u49 u50 u51 u52 u53 u54 u55 u56 u57 u58 u59 u60 u61 u62 u63 u64 u65 u66 : Value} {w1 : World} (w0 : World) (R : HProp) (p b1 : Nat) (hv : Value) (s : Lg) (e : Ev) (HI : Hid (LgI s)) (HO : Hid (Own w0 (EvO b1 e * (LgO p hv s * R)) w1))
    (hK : ∀ (v5 v13 v14 v15 v16 v17 v18 v19 v20 : Value) (wx : World), (Own w0 (EvSl v5 (s.h ++ [e]) * (EvO b1 e * (LgO p hv s * R))) wx) → Q .normal ⟨List.toArray ((.pointer (some ⟨p, 0, none⟩)) :: u1 :: u2 :: (.pointer (some ⟨b1, 0, none⟩)) :: u4 :: v5 :: u6 :: u7 :: u8 :: u9 :: u10 :: u11 :: u12 :: v13 :: v14 :: v15 :: v16 :: v17 :: v18 :: v19 :: v20 :: u21 :: u22 :: u23 :: u24 :: u25 :: u26 :: u27 :: u28 :: u29 :: u30 :: u31 :: u32 :: u33 :: u34 :: u35 :: u36 :: u37 :: u38 :: u39 :: u40 :: u41 :: u42 :: u43 :: u44 :: u45 :: u46 :: u47 :: u48 :: u49 :: u50 :: u51 :: u52 :: u53 :: u54 :: u55 :: u56 :: u57 :: u58 :: u59 :: u60 :: u61 :: u62 :: u63 :: u64 :: u65 :: u66 :: []), []⟩ wx) :
    Code.wp Tryd.prog lgNext_code Q ⟨List.toArray ((.pointer (some ⟨p, 0, none⟩)) :: u1 :: u2 :: (.pointer (some ⟨b1, 0, none⟩)) :: u4 :: u5 :: u6 :: u7 :: u8 :: u9 :: u10 :: u11 :: u12 :: u13 :: u14 :: u15 :: u16 :: u17 :: u18 :: u19 :: u20 :: u21 :: u22 :: u23 :: u24 :: u25 :: u26 :: u27 :: u28 :: u29 :: u30 :: u31 :: u32 :: u33 :: u34 :: u35 :: u36 :: u37 :: u38 :: u39 :: u40 :: u41 :: u42 :: u43 :: u44 :: u45 :: u46 :: u47 :: u48 :: u49 :: u50 :: u51 :: u52 :: u53 :: u54 :: u55 :: u56 :: u57 :: u58 :: u59 :: u60 :: u61 :: u62 :: u63 :: u64 :: u65 :: u66 :: []), []⟩ w1 := by
  conv => arg 2; whnf
  have HK := Lib.hid hK
  clear hK
  obtain ⟨x0, x1, x2⟩ := HO.out.drew.ev
  obtain ⟨c0, _⟩ := HO.out.drew.drop.lg_facts
  have hlen := HI.out.hr.1
  obtain ⟨y1, y2, y3⟩ := e
  simp only at x0 x1 x2
  have HEV := Lib.hid (HO.out.drew.drop.lg_evs HI.out.hr)
  obtain ⟨H, hH⟩ : ∃ x, x = s.h := ⟨_, rfl⟩
  rw [← hH] at hlen HEV
  have HHH := Lib.hid hH
  clear hH
  refine wp_region_planF 8 [(true, 0), (true, 1), (true, 2), (true, 3), (true, 5)] 4 6 [(false, 6), (false, 7)] [(false, 4), (false, 7)] [8] (fun wS => wS.cell? ⟨p, 0, none⟩ = some hv ∧ wS.cell? ⟨b1, 0, none⟩ = some (.int .i64 y1) ∧ wS.cell? ⟨b1, 1, none⟩ = some (.int .i64 y2) ∧ wS.cell? ⟨b1, 2, none⟩ = some (.int .i64 y3)) (by kernel_rfl) (by kernel_rfl) ⟨c0, x0, x1, x2⟩ ?_
  simp only [pickH, pick, List.getElem?_cons_succ, List.getElem?_cons_zero, Option.toList, Option.map_some, List.cons_append, List.nil_append]
  repeat (refine wpMix_read ?_ rfl ?_ ?_; rotate_left; (focus (intro _ hS; obtain ⟨s1, s2, s3, s4⟩ := hS; first | with_reducible rfl | (go_simp; done) | (go_simp; with_reducible rfl) | rfl)); go_simp)
  refine wpMix_nil ⟨?_, ?_⟩
  · refine wpMix_write (fun K hK => ?_)
    go_simp
    refine (cloneEv_any hv H HEV.out (by omega) HO.out.drew).mono ?_
    rintro e w2 ⟨v2, rfl, ho⟩
    obtain ⟨ad2, cp2, hv2, _⟩ := Own.rd ho
    subst hv2
    clear c0 x0 x1 x2
    obtain ⟨x0, x1, x2⟩ := ho.drop.ev
    obtain ⟨c0, _⟩ := ho.drop.drop.lg_facts
    simp only at x0 x1 x2
    have HO2 := Lib.hid ho
    clear ho
    refine hK _ _ ⟨⟨c0, x0, x1, x2⟩, ?_⟩
    clear hK K
    go_simp
    refine wpMix_write (fun K hK => ?_)
    go_simp
    obtain ⟨b3, hb_b3⟩ : ∃ zz_, zz_ = (w2).heap.size := ⟨_, rfl⟩
    obtain ⟨w3, hw_w3⟩ : ∃ zz_, zz_ = (w2).alloc (.cells #[.int .i64 y1, .int .i64 y2, .int .i64 y3] 28 (0, 0)) := ⟨_, rfl⟩
    have h_HB := (HO2.out).alloc (.cells #[.int .i64 y1, .int .i64 y2, .int .i64 y3] 28 (0, 0))
    rw [← hb_b3, ← hw_w3] at h_HB
    have HB := Lib.hid h_HB
    clear h_HB
    rw [← hb_b3, ← hw_w3]
    clear hb_b3 hw_w3
    have HB2 : Hid (Own w0 (Sl 28 3 (.slice ad2 H.length cp2) H.length (H.flatMap evCells) * (EvO b3 (y1, y2, y3) * (EvO b1 (y1, y2, y3) * (LgO p hv s * R)))) w3) := Lib.hid (HB.out.perm (by unfold EvSl EvO; ac_rfl))
    clear HB HO2 c0 x0 x1 x2
    obtain ⟨x0, x1, x2⟩ := HB2.out.drop.drop.ev
    obtain ⟨c0, _⟩ := HB2.out.drop.drop.drop.lg_facts
    simp only at x0 x1 x2
    refine hK _ _ ⟨⟨c0, x0, x1, x2⟩, ?_⟩
    clear hK K
    go_simp
    refine wpMix_write (fun K hK => ?_)
    have hsrc : Rd w3 (.slice (some ⟨b3, 0, none⟩) 1 1) 1 [.int .i64 y1, .int .i64 y2, .int .i64 y3] := Rd_one (fun i u hi => by
      rw [(HB2.out.perm (show _ = EvO b3 (y1, y2, y3) * (Sl 28 3 (.slice ad2 H.length cp2) H.length (H.flatMap evCells) * (EvO b1 (y1, y2, y3) * (LgO p hv s * R))) by ac_rfl)).cell]
      match i, hi with
      | 0, hi => exact hi
      | 1, hi => exact hi
      | 2, hi => exact hi) (Nat.le_refl _) (by unfold maxLen; omega)
    refine step_app rfl _ _ 33 rfl 28 3 24 _ info_ev Tryd.underlying33 rfl (by decide) (by rfl) HB2.out (by rfl) (by rfl) hsrc (by intro u hu; simp at hu; rcases hu with rfl | rfl | rfl <;> rfl) (by unfold maxLen; omega) (by omega) ?_
    intro v5 w5 ho5
    clear c0 x0 x1 x2 hsrc
    have ho6 : Own w0 (EvSl v5 (H ++ [(y1, y2, y3)]) * (EvO b1 (y1, y2, y3) * (LgO p hv s * R))) w5 := Own.evs_snoc (l2 := [(y1, y2, y3)]) (ho5.perm (show _ = EvO b3 (y1, y2, y3) * (Sl 28 3 v5 (H.length + 1) (H.flatMap evCells ++ [(y1, y2, y3)].flatMap evCells) * (EvO b1 (y1, y2, y3) * (LgO p hv s * R))) by
      show Sl _ _ _ _ (_ ++ evCells (y1, y2, y3)) * _ = _
      simp only [List.flatMap_cons, List.flatMap_nil, List.append_nil]
      ac_rfl)).drop
    obtain ⟨x0, x1, x2⟩ := ho6.drop.ev
    obtain ⟨c0, _⟩ := ho6.drop.drop.lg_facts
    simp only at x0 x1 x2
    have HF := Lib.hid ho6
    clear ho5 ho6 HB2
    refine hK _ _ ⟨⟨c0, x0, x1, x2⟩, ?_⟩
    clear hK K
    go_simp
    refine wpMix_nil ?_
    go_wp2_with fail
    refine NoPanic.normal ?_
    apply HK.out
    rw [← HHH.out]
    exact HF.out
  · refine wpMix_write (fun K hK => ?_)
    go_simp
    obtain ⟨b3, hb_b3⟩ : ∃ zz_, zz_ = (w1).heap.size := ⟨_, rfl⟩
    obtain ⟨w3, hw_w3⟩ : ∃ zz_, zz_ = (w1).alloc (.cells #[.int .i64 y1, .int .i64 y2, .int .i64 y3] 28 (0, 0)) := ⟨_, rfl⟩
    have h_HB := (HO.out).alloc (.cells #[.int .i64 y1, .int .i64 y2, .int .i64 y3] 28 (0, 0))
    rw [← hb_b3, ← hw_w3] at h_HB
    have HB := Lib.hid h_HB
    clear h_HB
    rw [← hb_b3, ← hw_w3]
    clear hb_b3 hw_w3
    have HB2 : Hid (Own w0 (EvO b3 (y1, y2, y3) * (EvO b1 (y1, y2, y3) * (LgO p hv s * R))) w3.drew) := Lib.hid HB.out.drew
    clear HB c0 x0 x1 x2
    obtain ⟨x0, x1, x2⟩ := HB2.out.drop.ev
    obtain ⟨c0, _⟩ := HB2.out.drop.drop.lg_facts
    have HEV2 := Lib.hid (HB2.out.drop.drop.lg_evs HI.out.hr)
    rw [← HHH.out] at HEV2
    simp only at x0 x1 x2
    refine hK _ _ ⟨⟨c0, x0, x1, x2⟩, ?_⟩
    clear hK K
    go_simp
    refine wpMix_write (fun K hK => ?_)
    go_simp
    refine (cloneEv_any hv H HEV2.out (by omega) HB2.out).mono ?_
    rintro e w2 ⟨v2, rfl, ho⟩
    obtain ⟨ad2, cp2, hv2, _⟩ := Own.rd ho
    subst hv2
    clear c0 x0 x1 x2
    obtain ⟨x0, x1, x2⟩ := ho.drop.drop.ev
    obtain ⟨c0, _⟩ := ho.drop.drop.drop.lg_facts
    simp only at x0 x1 x2
    have HB3 : Hid (Own w0 (Sl 28 3 (.slice ad2 H.length cp2) H.length (H.flatMap evCells) * (EvO b3 (y1, y2, y3) * (EvO b1 (y1, y2, y3) * (LgO p hv s * R)))) w2) := Lib.hid ho
    clear ho HB2 HEV2
    refine hK _ _ ⟨⟨c0, x0, x1, x2⟩, ?_⟩
    clear hK K
    go_simp
    refine wpMix_write (fun K hK => ?_)
    have hsrc : Rd w2 (.slice (some ⟨b3, 0, none⟩) 1 1) 1 [.int .i64 y1, .int .i64 y2, .int .i64 y3] := Rd_one (fun i u hi => by
      rw [(HB3.out.perm (show _ = EvO b3 (y1, y2, y3) * (Sl 28 3 (.slice ad2 H.length cp2) H.length (H.flatMap evCells) * (EvO b1 (y1, y2, y3) * (LgO p hv s * R))) by ac_rfl)).cell]
      match i, hi with
      | 0, hi => exact hi
      | 1, hi => exact hi
      | 2, hi => exact hi) (Nat.le_refl _) (by unfold maxLen; omega)
    refine step_app rfl _ _ 33 rfl 28 3 24 _ info_ev Tryd.underlying33 rfl (by decide) (by rfl) HB3.out (by rfl) (by rfl) hsrc (by intro u hu; simp at hu; rcases hu with rfl | rfl | rfl <;> rfl) (by unfold maxLen; omega) (by omega) ?_
    intro v5 w5 ho5
    clear c0 x0 x1 x2 hsrc
    have ho6 : Own w0 (EvSl v5 (H ++ [(y1, y2, y3)]) * (EvO b1 (y1, y2, y3) * (LgO p hv s * R))) w5 := Own.evs_snoc (l2 := [(y1, y2, y3)]) (ho5.perm (show _ = EvO b3 (y1, y2, y3) * (Sl 28 3 v5 (H.length + 1) (H.flatMap evCells ++ [(y1, y2, y3)].flatMap evCells) * (EvO b1 (y1, y2, y3) * (LgO p hv s * R))) by
      show Sl _ _ _ _ (_ ++ evCells (y1, y2, y3)) * _ = _
      simp only [List.flatMap_cons, List.flatMap_nil, List.append_nil]
      ac_rfl)).drop
    obtain ⟨x0, x1, x2⟩ := ho6.drop.ev
    obtain ⟨c0, _⟩ := ho6.drop.drop.lg_facts
    simp only at x0 x1 x2
    have HF := Lib.hid ho6
    clear ho5 ho6 HB3
    refine hK _ _ ⟨⟨c0, x0, x1, x2⟩, ?_⟩
    clear hK K
    go_simp
    refine wpMix_nil ?_
    go_wp2_with fail
    refine NoPanic.normal ?_
    apply HK.out
    rw [← HHH.out]
    exact HF.out
end Go.Proofs.YtljlnhbndkdlcaaDoor
