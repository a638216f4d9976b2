/- WireLong: a word has eighteen bytes, whatever it knew; without its first byte it is none. -/
import Derived.Test.YtpafhfnimncklaaGreatDoorMTopCast21
import Derived.Test.YtpafhfnimncklaaGreatDoorMTopCast18
import Derived.Test.YtpafhfnimncklaaGreatDoorMTopCast12
import Derived.Test.YtpafhfnimncklaaGreatDoorMTopCast20
import Derived.Test.YtpafhfnimncklaaGreatDoorMTopCast9
import Derived.Test.YtpafhfnimncklaaGreatDoorMTopCast0
import Derived.Test.YtpafhfnimncklaaGreatDoorProg
import Derived.Lib.Itoa
import Derived.Lib.ItoaNum
import Derived.Lib.ItoaWalk
import Derived.Lib.LastIndexByte
import Derived.Lib.Bytealg
import Derived.Lib.Strings
import Derived.Lib.Walk
import Derived.Test.YtpafhfnimncklaaGreatDoorMTopCast17
import Derived.Test.YtpafhfnimncklaaGreatDoorMTopCast8
import Derived.Test.YtpafhfnimncklaaGreatDoorMTopCast5
namespace Go.Proofs.YtpafhfnimncklaaGreatDoor
set_option linter.unusedVariables false
set_option linter.unusedSimpArgs false
open Go.RowKit
theorem wl_err {who word n : Int} (h : saidErr who word [n, n, 0, n, 1] ≠ 0) : who < 0 ∨ (¬ who < 0 ∧ 4 < who) ∨ (¬ who < 0 ∧ ¬ 4 < who ∧ word < 1) ∨ (¬ who < 0 ∧ ¬ 4 < who ∧ ¬ word < 1 ∧ 30 < word) ∨ (¬ who < 0 ∧ ¬ 4 < who ∧ ¬ word < 1 ∧ ¬ 30 < word ∧ n < 0) ∨ (¬ who < 0 ∧ ¬ 4 < who ∧ ¬ word < 1 ∧ ¬ 30 < word ∧ ¬ n < 0 ∧ 1000000 < n) := by
  apply Classical.byContradiction
  intro hc
  apply h
  have h1 : isMember who = true := by simp [isMember]; omega
  have h2 : isWord word = true := by simp [isWord]; omega
  have h3 : isCount n = true := by simp [isCount]; omega
  unfold saidErr vecErr
  simp [h1, h2, h3, isCount]
  try omega
theorem packS_size {who word : Int} {l : List Int} (h : saidErr who word l = 0) : (packS who word l).size = 18 ∧ (packS who word l).data.toList = packB who word l := by
  obtain ⟨_, _, hv⟩ := saidErr0 h
  have h5 := (vecErr0 hv).1
  unfold packS
  rw [if_pos h]
  refine ⟨?_, by simp⟩
  show ((packB who word l).toArray).size = 18
  rw [List.size_toArray, packB_len h5]
end Go.Proofs.YtpafhfnimncklaaGreatDoor
/- TopCast, plainly: a right history goes through the log as it is; its vectors are packed and read as they were. -/
namespace Go.Proofs.YtpafhfnimncklaaGreatDoor
set_option linter.unusedVariables false
set_option linter.unusedSimpArgs false
open Go.RowKit
def lgAt (h : List Ev) (k : Nat) : Lg := ⟨h.take k, encH (h.take k), 0, -1, false⟩
theorem lgAt_zero (h : List Ev) : lgNew = lgAt h 0 := by unfold lgAt lgNew; simp [encH]
theorem lgAt_I {h : List Ev} (hr : RightH h) {k : Nat} (hk : k ≤ h.length) : LgI (lgAt h k) :=
  ⟨hr.front k hk, ⟨[], by simp [lgAt], by simp, by simp, fun _ => rfl⟩, Nat.zero_le _, by simp [lgAt]⟩
theorem lgAt_do {h : List Ev} (hr : RightH h) {k : Nat} (hk : k < h.length) : lgErr (lgAt h k) h[k] = 0 ∧ lgDo (lgAt h k) h[k] = lgAt h (k + 1) := by
  have h1 : (lgAt h k).h ++ [h[k]] = h.take (k + 1) := (List.take_succ_eq_append_getElem hk).symm
  have h2 : (histR (h.take (k + 1))).2 = 0 := (histR_ok _).2 (hr.front (k + 1) hk)
  have h3 : (lgAt h k).bs ++ encE h[k] = encH (h.take (k + 1)) := (encH_take_succ hk).symm
  unfold lgErr lgDo
  rw [h1, h2, h3]
  refine ⟨?_, ?_⟩
  · simp [lgAt]
  · simp [lgAt, dec1_is]
theorem lgAt_sync (h : List Ev) (k : Nat) : lgSyncErr (lgAt h k) = 0 := by unfold lgSyncErr; simp [lgAt]
theorem lgAt_crash {h : List Ev} : (lgCrash (lgSync (lgAt h h.length)) 0).h = h := by
  have e1 : lgSync (lgAt h h.length) = ⟨h, encH h, (encH h).length, -1, false⟩ := by
    unfold lgSync
    simp [lgAt, dec1_is]
  rw [e1]
  unfold lgCrash lgCut lgHigh
  simp [count_encH]
theorem CZ.said0 {c : Cs} (h : CZ c) {k : Nat} (hk : k < c.hist.length) : (c.hist[k].2.1 == 1) = false ∧ isMember c.hist[k].1 = true ∧ isWord c.hist[k].2.2 = true := by
  obtain ⟨s, hs, hr, hw⟩ := h.ci.D _ (List.getElem_mem hk)
  obtain ⟨_, _, _, h2, _⟩ := h.ci.sd _ _ hs
  have h5 := h.ci.n5
  refine ⟨?_, ?_, h2⟩
  · rcases h.ci.what _ (List.getElem_mem hk) with h1 | h1 <;> rw [h1] <;> rfl
  · unfold isMember
    have := hr.1
    have := hr.2
    simp
    omega
theorem vecs_ok {h : List Ev} (hr : RightH h) : (vecsR h).length = h.length ∧ ∀ v ∈ vecsR h, vecErr v = 0 ∧ ∀ x ∈ v, I64 x := by
  refine ⟨(vecState_len h h.length).1, fun v hv => ?_⟩
  obtain ⟨h1, h2⟩ := (vecState_in hr h.length (Nat.le_refl _)).1 v hv
  have h60 := hr.1
  refine ⟨?_, fun x hx => by have := h2 x hx; unfold I64; omega⟩
  unfold vecErr
  rw [if_neg (by omega), if_neg]
  rw [List.any_eq_true]
  rintro ⟨x, hx, hb⟩
  have := h2 x hx
  simp [isCount] at hb
  omega
theorem said_back {who word : Int} {l : List Int} (h : saidErr who word l = 0) : unpackErr (packS who word l).data.toList = 0 ∧ unpackWho (packS who word l).data.toList = who ∧ unpackWord (packS who word l).data.toList = word ∧ unpackClock (packS who word l).data.toList = l := by
  obtain ⟨h1, h2, h3, h4⟩ := unpack_pack h
  rw [(packS_size h).2]
  unfold unpackWho unpackWord unpackClock
  rw [h1]
  exact ⟨rfl, h2, h3, h4⟩
theorem said_ok {who word : Int} {l : List Int} (h1 : isMember who = true) (h2 : isWord word = true) (h3 : vecErr l = 0) : saidErr who word l = 0 := by
  unfold saidErr
  rw [if_neg (by rw [h1]; simp), if_neg (by rw [h2]; simp), h3]
end Go.Proofs.YtpafhfnimncklaaGreatDoor
/- strconv.Itoa of a small number; strings.LastIndex and strings.Count at one byte. -/
namespace Go.Proofs.YtpafhfnimncklaaGreatDoor
set_option linter.unusedVariables false
set_option linter.unusedSimpArgs false
open Go.RowKit
def digB (i : Nat) : ByteArray := ⟨(Lib.decDigits i).toArray⟩
theorem small_ba (x : ByteArray) (l : List UInt8) (h : x.data.toList = l) : x = ⟨l.toArray⟩ := by
  subst h
  cases x
  simp
set_option maxRecDepth 100000 in
set_option maxHeartbeats 4000000 in
theorem stSmall (i : Nat) (h : i < 100) (w : World) :
    Calls Tryz.prog 95 #[.int .i64 (i : Int)] w fun e w' => e = .returned (.string (digB i)) ∧ w = w' := by
  go_enter Tryz.func95, Tryz.ntmps95
  go_name_bytes_deep 45 SM hSM
  have eSM : SM = Lib.smalls := by rw [← hSM]; decide +kernel
  subst eSM
  clear hSM
  go_name_bytes_deep 30 DG hDG
  have eDG : DG = Lib.digits36 := by rw [← hDG]; decide +kernel
  subst eDG
  clear hDG
  by_cases h10 : i < 10
  · have hsl : ∀ w, (Instr.slice 9 (.string Lib.digits36) (some (.int .i64 (i : Int))) (some (.int .i64 ((i : Int) + 1))) none).run Tryz.prog w = .ok (.string (Lib.digits36.extract i (i + 1))) w := fun w => by
      rw [run_slice_string w 9 Lib.digits36 .i64 .i64 _ _ Tryz.underlying9 (by omega) (by omega) (by rw [Lib.digits36_size]; omega), show ((i : Int)).toNat = i by omega, show ((i : Int) + 1).toNat = i + 1 by omega]
    go_wp2
    go_ret
    refine ⟨?_, rfl⟩
    show Ending.returned (Value.string (Lib.digits36.extract i (i + 1))) = _
    rw [small_ba (Lib.digits36.extract i (i + 1)) (Lib.decDigits i) (by rw [Lib.extract_data]; exact Lib.digits36_piece h10)]
    rfl
  · have hsl : ∀ w, (Instr.slice 9 (.string Lib.smalls) (some (.int .i64 ((i : Int) * 2))) (some (.int .i64 ((i : Int) * 2 + 2))) none).run Tryz.prog w = .ok (.string (Lib.smalls.extract (i * 2) (i * 2 + 2))) w := fun w => by
      rw [run_slice_string w 9 Lib.smalls .i64 .i64 _ _ Tryz.underlying9 (by omega) (by omega) (by rw [Lib.smalls_size]; omega), show ((i : Int) * 2).toNat = i * 2 by omega, show ((i : Int) * 2 + 2).toNat = i * 2 + 2 by omega]
    go_wp2
    go_ret
    refine ⟨?_, rfl⟩
    show Ending.returned (Value.string (Lib.smalls.extract (i * 2) (i * 2 + 2))) = _
    rw [small_ba (Lib.smalls.extract (i * 2) (i * 2 + 2)) (Lib.decDigits i) (by rw [Lib.extract_data]; exact Lib.smalls_piece h10 h)]
    rfl
set_option maxRecDepth 100000 in
set_option maxHeartbeats 4000000 in
theorem stFormat (i : Nat) (h : i < 100) (w : World) :
    Calls Tryz.prog 79 #[.int .i64 (i : Int), .int .i64 10] w fun e w' => e = .returned (.string (digB i)) ∧ w = w' := by
  have i0 : (0 : Int) ≤ (i : Int) := by omega
  have i1 : (i : Int) < 100 := by omega
  go_enter Tryz.func79, Tryz.ntmps79
  go_wp2_with fail
  refine (stSmall i h _).mono ?_
  rintro e w' ⟨rfl, rfl⟩
  go_wp2
  go_ret
  exact ⟨rfl, rfl⟩
set_option maxRecDepth 100000 in
set_option maxHeartbeats 4000000 in
theorem stItoa1 (i : Nat) (h : i < 100) (w : World) :
    Calls Tryz.prog 59 #[.int .i64 (i : Int)] w fun e w' => e = .returned (.string (digB i)) ∧ w = w' := by
  go_enter Tryz.func59, Tryz.ntmps59
  go_wp2_with fail
  refine (stFormat i h _).mono ?_
  rintro e w' ⟨rfl, rfl⟩
  go_wp2
  go_ret
  exact ⟨rfl, rfl⟩
set_option maxRecDepth 100000 in
set_option maxHeartbeats 4000000 in
theorem stItoa (i : Nat) (h : i < 100) (w : World) :
    Calls Tryz.prog 33 #[.int .i64 (i : Int)] w fun e w' => e = .returned (.string (digB i)) ∧ w = w' := by
  go_enter Tryz.func33, Tryz.ntmps33
  go_wp2_with fail
  refine (stItoa1 i h _).mono ?_
  rintro e w' ⟨rfl, rfl⟩
  go_wp2
  go_ret
  exact ⟨rfl, rfl⟩
theorem byteBang (s : ByteArray) (j : Nat) (hj : j < s.size) : s.data[j]! = s[j] := by
  rw [getElem!_pos s.data j (by simpa using hj)]; rfl
set_option maxRecDepth 100000 in
set_option maxHeartbeats 4000000 in
theorem stLastB (s : ByteArray) (c : Int) (hs : s.size < 4611686018427387904) (w : World) :
    Calls Tryz.prog 60 #[.string s, .int .u8 c] w fun e w' => e = .returned (.int .i64 (Lib.lastIndexByte s c)) ∧ w = w' := by
  go_enter Tryz.func60, Tryz.ntmps60
  go_wp2_with fail
  go_loop [5] (fun vi => ∃ k : Nat, k ≤ s.size ∧ vi = .int .i64 ((k : Int) - 1) ∧ Hid (Lib.lastIndexByte s c = Lib.lastIdx s c k)) (fun vi => ((RowKit.intOf vi) + 1).toNat)
  case atStart => exact ⟨s.size, Nat.le_refl _, by first | rfl | go_num | (congr 1; omega), Lib.hid rfl⟩
  case round =>
    obtain ⟨k, hk, rfl, hh⟩ := hrel
    go_wp2
    · have hc : (((s[k - 1]).toNat : Int) == c) = true := by assumption
      have k1 : 1 ≤ k := by omega
      have e1 : Lib.lastIdx s c k = ((k - 1 : Nat) : Int) := by
        have := Lib.lastIdx_hit s c (k - 1) (by rw [byteBang s (k - 1) (by omega)]; simpa using hc)
        rwa [show k - 1 + 1 = k by omega] at this
      have e2 : ((k - 1 : Nat) : Int) = (k : Int) - 1 := by omega
      go_ret
      rw [hh.out, e1, e2]
      exact ⟨rfl, rfl⟩
    · have hc : (((s[k - 1]).toNat : Int) == c) = false := by assumption
      have k1 : 1 ≤ k := by omega
      have e1 : Lib.lastIdx s c k = Lib.lastIdx s c (k - 1) := by
        have := Lib.lastIdx_miss s c (k - 1) (by rw [byteBang s (k - 1) (by omega)]; simpa using hc)
        rwa [show k - 1 + 1 = k by omega] at this
      refine ⟨⟨k - 1, by omega, by congr 1; omega, Lib.hid (hh.out.trans e1)⟩, ?_⟩
      simp [RowKit.intOf]; omega
    · have k0 : k = 0 := by omega
      subst k0
      go_ret
      rw [hh.out]
      exact ⟨rfl, rfl⟩
set_option maxRecDepth 100000 in
set_option maxHeartbeats 4000000 in
theorem stLast (s : ByteArray) (hs : s.size < 4611686018427387904) (w : World) :
    Calls Tryz.prog 35 #[.string s, .string ⟨#[10]⟩] w fun e w' => e = .returned (.int .i64 (Lib.lastIndexByte s 10)) ∧ w = w' := by
  go_enter Tryz.func35, Tryz.ntmps35
  go_wp2_with fail
  refine (stLastB s 10 hs _).mono ?_
  rintro e w' ⟨rfl, rfl⟩
  go_wp2
  go_ret
  exact ⟨rfl, rfl⟩
set_option maxRecDepth 100000 in
set_option maxHeartbeats 4000000 in
theorem stCount (s : ByteArray) (w : World) :
    Calls Tryz.prog 36 #[.string s, .string ⟨#[10]⟩] w fun e w' => e = .returned (.int .i64 ((s.data.toList.count 10 : Nat) : Int)) ∧ w = w' := by
  go_enter Tryz.func36, Tryz.ntmps36
  go_wp2
  rw [run_callFunc_extern Tryz.func63 (by kernel_rfl) (by kernel_rfl) (by kernel_rfl) (e := Extern.BytealgCount.count) (by kernel_rfl), Lib.run_countString]
  simp only [Result.andThen]
  rw [Oper.upon_value]
  go_wp2
  go_ret
  exact ⟨rfl, rfl⟩
end Go.Proofs.YtpafhfnimncklaaGreatDoor
/- Package log: contracts of New, Bytes, Safe, All, step, Fail, Sync. -/
namespace Go.Proofs.YtpafhfnimncklaaGreatDoor
set_option linter.unusedVariables false
set_option linter.unusedSimpArgs false
open Go.RowKit
def strL (l : List UInt8) : ByteArray := ⟨l.toArray⟩
theorem strL_size (l : List UInt8) : (strL l).size = l.length := by simp [strL, ByteArray.size]
def LgO (p : Nat) (hv : Value) (s : Lg) : HProp := blk p (.cells #[hv, .string (strL s.bs), .int .i64 (s.safe : Nat), .int .i64 s.left, .bool s.st] 85 (0, 0)) * EvSl hv s.h
def LgP (p : Nat) (s : Lg) : HProp := hex fun hv => LgO p hv s
theorem Own.lg_open {w0 w : World} {p : Nat} {s : Lg} {R : HProp} (h : Own w0 (LgP p s * R) w) : ∃ hv, Own w0 (LgO p hv s * R) w := h.ex
theorem Own.lg_close {w0 w : World} {p : Nat} {hv : Value} {s : Lg} {R : HProp} (h : Own w0 (LgO p hv s * R) w) : Own w0 (LgP p s * R) w := h.ex_mk hv
theorem Own.lg_facts {w0 w : World} {p : Nat} {hv : Value} {s : Lg} {R : HProp} (h : Own w0 (LgO p hv s * R) w) :
    w.cell? ⟨p, 0, none⟩ = some hv ∧ w.cell? ⟨p, 1, none⟩ = some (.string (strL s.bs)) ∧ w.cell? ⟨p, 2, none⟩ = some (.int .i64 (s.safe : Nat)) ∧ w.cell? ⟨p, 3, none⟩ = some (.int .i64 s.left) ∧ w.cell? ⟨p, 4, none⟩ = some (.bool s.st) ∧ ∀ i, w.frozen? ⟨p, i, none⟩ = false := by
  have h1 := h.perm (show _ = blk p (.cells #[hv, .string (strL s.bs), .int .i64 (s.safe : Nat), .int .i64 s.left, .bool s.st] 85 (0, 0)) * (EvSl hv s.h * R) by unfold LgO; ac_rfl)
  exact ⟨(h1.cell 0).trans rfl, (h1.cell 1).trans rfl, (h1.cell 2).trans rfl, (h1.cell 3).trans rfl, (h1.cell 4).trans rfl, fun i => h1.free i none⟩
theorem Own.lg_set {w0 w : World} {p : Nat} {hv hv' : Value} {s s' : Lg} {R : HProp} (h : Own w0 (LgO p hv s * R) w) (i : Nat) (v : Value) (hh : s'.h = s.h) (hhv : hv' = hv)
    (hc : (#[hv, .string (strL s.bs), .int .i64 (s.safe : Nat), .int .i64 s.left, .bool s.st] : Array Value).setIfInBounds i v = #[hv', .string (strL s'.bs), .int .i64 (s'.safe : Nat), .int .i64 s'.left, .bool s'.st]) : Own w0 (LgO p hv' s' * R) (w.setCell ⟨p, i, none⟩ v) := by
  subst hhv
  have h1 := h.perm (show _ = blk p (.cells #[hv', .string (strL s.bs), .int .i64 (s.safe : Nat), .int .i64 s.left, .bool s.st] 85 (0, 0)) * (EvSl hv' s.h * R) by unfold LgO; ac_rfl)
  have h2 := h1.setCell (i := i) (v := v)
  rw [hc] at h2
  refine h2.perm ?_
  unfold LgO
  rw [hh]; ac_rfl
theorem Own.lg_evs {w0 w : World} {p : Nat} {hv : Value} {s : Lg} {R : HProp} (h : Own w0 (LgO p hv s * R) w) (hr : RightH s.h) : Evs w hv s.h :=
  ⟨Own.rd (h.perm (show _ = EvSl hv s.h * (blk p (.cells #[hv, .string (strL s.bs), .int .i64 (s.safe : Nat), .int .i64 s.left, .bool s.st] 85 (0, 0)) * R) by unfold LgO; ac_rfl)), fun e he => okEv_good (hr.ok e he)⟩
set_option maxRecDepth 100000 in
set_option maxHeartbeats 4000000 in
theorem lgNew_any {w0 w : World} {R : HProp} (h : Own w0 R w) :
    Calls Tryz.prog 9 #[] w fun e w' => ∃ p, e = .returned (.pointer (some ⟨p, 0, none⟩)) ∧ Own w0 (LgP p lgNew * R) w' := by
  obtain ⟨p, hb_p⟩ : ∃ zz_, zz_ = (w).heap.size := ⟨_, rfl⟩
  obtain ⟨w1, hw_w1⟩ : ∃ zz_, zz_ = (w).alloc (.cells #[.slice none 0 0, .string ⟨#[]⟩, .int .i64 0, .int .i64 (-1), .bool false] 85 (0, 0)) := ⟨_, rfl⟩
  have h_H1 := (h).alloc (.cells #[.slice none 0 0, .string ⟨#[]⟩, .int .i64 0, .int .i64 (-1), .bool false] 85 (0, 0))
  rw [← hb_p, ← hw_w1] at h_H1
  have H1 := Lib.hid h_H1
  clear h_H1
  have HO : Hid (Own w0 (LgP p lgNew * R) w1) := Lib.hid (Own.lg_close (hv := .slice none 0 0) (by
    unfold LgO EvSl
    show Own w0 (blk p _ * Sl 40 3 (.slice none 0 0) 0 [] * R) w1
    rw [Sl_nil, star_emp]
    exact H1.out))
  clear H1
  have H := Lib.hid h
  clear h
  go_enter Tryz.func9, Tryz.ntmps9
  go_wp2
  rw [← hb_p, ← hw_w1]
  clear hb_p hw_w1
  go_ret
  exact ⟨p, rfl, HO.out⟩
set_option maxRecDepth 100000 in
set_option maxHeartbeats 4000000 in
theorem lgAll_any {w0 w : World} {R : HProp} (p : Nat) (s : Lg) (hI : LgI s) (h : Own w0 (LgP p s * R) w) :
    Calls Tryz.prog 16 #[.pointer (some ⟨p, 0, none⟩)] w fun e w' => ∃ v', e = .returned v' ∧ Own w0 (EvSl v' s.h * (LgP p s * R)) w' := by
  obtain ⟨hv, ho⟩ := h.lg_open
  obtain ⟨c0, _⟩ := ho.lg_facts
  have HE := Lib.hid (ho.lg_evs hI.hr)
  have hlen := hI.hr.1
  clear ho
  have H := Lib.hid h; have HI := Lib.hid hI
  clear h hI
  go_enter Tryz.func16, Tryz.ntmps16
  go_wp2_with fail
  refine (cloneEv_any hv s.h HE.out (by omega) H.out).mono ?_
  rintro e w2 ⟨v', rfl, ho⟩
  have HO2 := Lib.hid ho
  clear ho c0
  go_wp2
  go_ret
  exact ⟨v', rfl, HO2.out⟩
def lgStep (s : Lg) : Lg := { s with st := decide (s.left = 0), left := dec1 s.left }
set_option maxRecDepth 100000 in
set_option maxHeartbeats 4000000 in
theorem lgStep_any {w0 w : World} {R : HProp} (p : Nat) (hv : Value) (s : Lg) (hl : -1 ≤ s.left ∧ s.left ≤ 9223372036854775807) (h : Own w0 (LgO p hv s * R) w) :
    Calls Tryz.prog 34 #[.pointer (some ⟨p, 0, none⟩)] w fun e w' => e = .returned (.bool (decide (s.left = 0))) ∧ Own w0 (LgO p hv (lgStep s) * R) w' := by
  obtain ⟨c0, c1, c2, c3, c4, cf⟩ := h.lg_facts
  obtain ⟨L, hL⟩ : ∃ L, L = s.left := ⟨_, rfl⟩
  rw [← hL] at c3 hl
  have hl1 := hl.1
  have hl2 := hl.2
  obtain ⟨D, hD⟩ : ∃ D, (L == 0) = D := ⟨_, rfl⟩
  have hDd : decide (s.left = 0) = D := by rw [← hD, hL]; rfl
  have HO1 : Hid (Own w0 (LgO p hv { s with st := D } * R) (w.setCell ⟨p, 4, none⟩ (.bool D))) := Lib.hid (h.lg_set 4 (.bool D) rfl rfl (by simp [Array.setIfInBounds]))
  obtain ⟨w1, hw1⟩ : ∃ w1, w1 = w.setCell ⟨p, 4, none⟩ (.bool D) := ⟨_, rfl⟩
  rw [← hw1] at HO1
  obtain ⟨d0, d1, d2, d3, d4, df⟩ := HO1.out.lg_facts
  simp only at d3 d4
  rw [← hL] at d3
  have HO2 : Hid (Own w0 (LgO p hv (lgStep s) * R) (w1.setCell ⟨p, 3, none⟩ (.int .i64 (dec1 L)))) := Lib.hid (HO1.out.lg_set 3 (.int .i64 (dec1 L)) rfl rfl (by rw [hL]; unfold lgStep; rw [hDd]; simp [Array.setIfInBounds]))
  obtain ⟨w2, hw2⟩ : ∃ w2, w2 = w1.setCell ⟨p, 3, none⟩ (.int .i64 (dec1 L)) := ⟨_, rfl⟩
  rw [← hw2] at HO2
  obtain ⟨_, _, _, _, f4, _⟩ := HO2.out.lg_facts
  rw [show (lgStep s).st = D from hDd] at f4
  have H := Lib.hid h; have HL := Lib.hid hL; have HL := Lib.hid hl; have HDD := Lib.hid hDd
  clear h hL hl hDd
  clear HO1
  go_enter Tryz.func34, Tryz.ntmps34
  go_upto_region 2 with fail
  rw [← hw1]
  clear hw1 c0 c1 c2 c3 c4 cf
  unfold dec1 at hw2
  go_upto_region 3 with fail
  rw [← hw2]
  clear hw2 d0 d1 d3 d4 df
  go_wp2
  go_ret
  exact ⟨by rw [HDD.out]; rfl, HO2.out⟩
set_option maxRecDepth 100000 in
set_option maxHeartbeats 4000000 in
theorem lgSync_any {w0 w : World} {R : HProp} (p : Nat) (s : Lg) (hI : LgI s) (h : Own w0 (LgP p s * R) w) :
    Calls Tryz.prog 11 #[.pointer (some ⟨p, 0, none⟩)] w fun e w' => e = .returned (errV (lgSyncErr s)) ∧ Own w0 (LgP p (lgSync s) * R) w' := by
  obtain ⟨hv, ho⟩ := h.lg_open
  obtain ⟨c0, c1, c2, c3, c4, cf⟩ := ho.lg_facts
  have HO := Lib.hid ho
  clear ho
  cases hst : s.st
  rotate_left
  · have h1 : lgSync s = s := by unfold lgSync; rw [if_pos hst]
    have h2 : lgSyncErr s = 6 := by unfold lgSyncErr; rw [if_pos (.inl hst)]
    rw [hst] at c4
    rw [h1, h2]
    have H := Lib.hid h; have HI := Lib.hid hI; have HST := Lib.hid hst; have H1 := Lib.hid h1; have H2 := Lib.hid h2
    clear h hI hst h1 h2
    go_enter Tryz.func11, Tryz.ntmps11
    go_wp2
    go_ret
    exact ⟨rfl, H.out⟩
  rw [hst] at c4
  obtain ⟨D, hD⟩ : ∃ D, decide (s.left = 0) = D := ⟨_, rfl⟩
  have hl := hI.left
  have hsz := strL_size (lgStep s).bs
  cases D
  rotate_left
  · have hz : s.left = 0 := by simpa using hD
    have h1 : lgSync s = lgStep s := by unfold lgSync lgStep dec1; rw [if_neg (by rw [hst]; simp), if_pos hz, hz]; rfl
    have h2 : lgSyncErr s = 6 := by unfold lgSyncErr; rw [if_pos (.inr hz)]
    rw [h1, h2]
    have H := Lib.hid h; have HI := Lib.hid hI; have HST := Lib.hid hst; have H1 := Lib.hid h1; have H2 := Lib.hid h2; have HZ := Lib.hid hz; have HL := Lib.hid hl; have HSZ := Lib.hid hsz
    clear h hI hst h1 h2 hz hl hsz
    go_enter Tryz.func11, Tryz.ntmps11
    go_wp2_with fail
    refine (lgStep_any p hv s HL.out HO.out).mono ?_
    rintro e w2 ⟨rfl, ho⟩
    rw [hD]
    have HO2 := Lib.hid ho
    clear ho
    go_wp2
    go_ret
    exact ⟨rfl, Own.lg_close HO2.out⟩
  · have hz : ¬ s.left = 0 := by simpa using hD
    have h1 : lgSync s = { lgStep s with safe := s.bs.length } := by unfold lgSync lgStep; rw [if_neg (by rw [hst]; simp), if_neg hz, hD]
    have h2 : lgSyncErr s = 0 := by unfold lgSyncErr; rw [if_neg (by rw [hst]; simp [hz])]
    rw [h1, h2]
    have H := Lib.hid h; have HI := Lib.hid hI; have HST := Lib.hid hst; have H1 := Lib.hid h1; have H2 := Lib.hid h2; have HZ := Lib.hid hz; have HL := Lib.hid hl
    clear h hI hst h1 h2 hz hl
    go_enter Tryz.func11, Tryz.ntmps11
    go_wp2_with fail
    refine (lgStep_any p hv s HL.out HO.out).mono ?_
    rintro e w2 ⟨rfl, ho⟩
    rw [hD]
    obtain ⟨d0, d1, d2, d3, d4, df⟩ := ho.lg_facts
    have HO2 : Hid (Own w0 (LgP p { lgStep s with safe := s.bs.length } * R) (w2.setCell ⟨p, 2, none⟩ (.int .i64 (s.bs.length : Nat)))) := Lib.hid (Own.lg_close (ho.lg_set 2 (.int .i64 (s.bs.length : Nat)) rfl rfl (by simp [Array.setIfInBounds])))
    obtain ⟨B, hB⟩ : ∃ B, B = strL (lgStep s).bs := ⟨_, rfl⟩
    rw [← hB] at d1 hsz
    rw [show (lgStep s).bs = s.bs from rfl] at hsz
    clear ho hB
    go_wp2
    go_ret
    exact ⟨rfl, HO2.out⟩
end Go.Proofs.YtpafhfnimncklaaGreatDoor
/- Package log: Do. -/
namespace Go.Proofs.YtpafhfnimncklaaGreatDoor
set_option linter.unusedVariables false
set_option linter.unusedSimpArgs false
open Go.RowKit
theorem strL_app (a b : List UInt8) : strL a ++ strL b = strL (a ++ b) := by
  apply ByteArray.ext; simp [strL]
theorem strL_take (a : List UInt8) (k : Nat) : (strL a).extract 0 k = strL (a.take k) := by
  apply ByteArray.ext; simp [strL, List.extract_eq_take_drop]
theorem digB_L (i : Nat) : digB i = strL (Lib.decDigits i) := rfl
theorem line_is (a b c : Nat) : (((((digB a ++ ⟨#[32]⟩) ++ digB b) ++ ⟨#[32]⟩) ++ digB c) ++ ⟨#[10]⟩ : ByteArray) = strL (encE ((a : Int), (b : Int), (c : Int))) := by
  have e1 : (⟨#[32]⟩ : ByteArray) = strL [32] := rfl
  have e2 : (⟨#[10]⟩ : ByteArray) = strL [10] := rfl
  rw [e1, e2, digB_L, digB_L, digB_L, strL_app, strL_app, strL_app, strL_app, strL_app]
  rfl
/-- The line of an event. -/
noncomputable def lgLine_code : Code := ((Tryz.f10.body.bind (findRegion 7)).getD .skip)
set_option maxRecDepth 1000000 in
set_option maxHeartbeats 4000000 in
theorem lgLine {Q : Exit → Act → World → Prop} {u0 u1 u2 u4 u5 u6 u7 u8 u9 u10 u11 u12 u13 u14 u15 u16 u17 u18 u19 u20 u21 u22 u23 u24 u25 u26 u27 u28 u29 u30 u31 u32 u33 u34 u35 u36 u37 u38 u39 u40 u41 u42 u43 u44 u45 u46 u47 u48 u49 u50 u51 u52 u53 u54 u55 u56 u57 u58 u59 u60 u61 u62 u63 u64 u65 u66 : Value} {w1 : World} (b1 a b c : Nat) (ha : a < 100) (hb : b < 100) (hc : c < 100) (x0 : w1.cell? ⟨b1, 0, none⟩ = some (.int .i64 (a : Int))) (x1 : w1.cell? ⟨b1, 1, none⟩ = some (.int .i64 (b : Int))) (x2 : w1.cell? ⟨b1, 2, none⟩ = some (.int .i64 (c : Int)))
    (hK : ∀ (v7 v26 v27 v28 v29 v30 v31 v32 v33 v34 v35 v36 v37 v38 v39 : Value) (wx : World), (v7 = .string (strL (encE ((a : Int), (b : Int), (c : Int)))) ∧ wx = w1.drew) → Q .normal ⟨List.toArray (u0 :: u1 :: u2 :: (.pointer (some ⟨b1, 0, none⟩)) :: u4 :: u5 :: u6 :: v7 :: u8 :: u9 :: u10 :: u11 :: u12 :: u13 :: u14 :: u15 :: u16 :: u17 :: u18 :: u19 :: u20 :: u21 :: u22 :: u23 :: u24 :: u25 :: v26 :: v27 :: v28 :: v29 :: v30 :: v31 :: v32 :: v33 :: v34 :: v35 :: v36 :: v37 :: v38 :: v39 :: u40 :: u41 :: u42 :: u43 :: u44 :: u45 :: u46 :: u47 :: u48 :: u49 :: u50 :: u51 :: u52 :: u53 :: u54 :: u55 :: u56 :: u57 :: u58 :: u59 :: u60 :: u61 :: u62 :: u63 :: u64 :: u65 :: u66 :: []), []⟩ wx) :
    Code.wp Tryz.prog lgLine_code Q ⟨List.toArray (u0 :: u1 :: u2 :: (.pointer (some ⟨b1, 0, none⟩)) :: u4 :: u5 :: u6 :: u7 :: u8 :: u9 :: u10 :: u11 :: u12 :: u13 :: u14 :: u15 :: u16 :: u17 :: u18 :: u19 :: u20 :: u21 :: u22 :: u23 :: u24 :: u25 :: u26 :: u27 :: u28 :: u29 :: u30 :: u31 :: u32 :: u33 :: u34 :: u35 :: u36 :: u37 :: u38 :: u39 :: u40 :: u41 :: u42 :: u43 :: u44 :: u45 :: u46 :: u47 :: u48 :: u49 :: u50 :: u51 :: u52 :: u53 :: u54 :: u55 :: u56 :: u57 :: u58 :: u59 :: u60 :: u61 :: u62 :: u63 :: u64 :: u65 :: u66 :: []), []⟩ w1 := by
  conv => arg 2; whnf
  have HK := Lib.hid hK
  clear hK
  have da := dig_len a ha
  have db := dig_len b hb
  have dc := dig_len c hc
  have sa : (digB a).size = (Lib.decDigits a).length := by simp [digB, ByteArray.size]
  have sb : (digB b).size = (Lib.decDigits b).length := by simp [digB, ByteArray.size]
  have sc : (digB c).size = (Lib.decDigits c).length := by simp [digB, ByteArray.size]
  have hln := line_is a b c
  have HIA : Hid (∀ w, Calls Tryz.prog 33 #[.int .i64 (a : Int)] w fun e w' => e = .returned (.string (digB a)) ∧ w = w') := Lib.hid (fun w => stItoa a ha w)
  have HIB : Hid (∀ w, Calls Tryz.prog 33 #[.int .i64 (b : Int)] w fun e w' => e = .returned (.string (digB b)) ∧ w = w') := Lib.hid (fun w => stItoa b hb w)
  have HIC : Hid (∀ w, Calls Tryz.prog 33 #[.int .i64 (c : Int)] w fun e w' => e = .returned (.string (digB c)) ∧ w = w') := Lib.hid (fun w => stItoa c hc w)
  obtain ⟨A, hA⟩ : ∃ A, A = digB a := ⟨_, rfl⟩
  obtain ⟨B, hB⟩ : ∃ A, A = digB b := ⟨_, rfl⟩
  obtain ⟨C, hC⟩ : ∃ A, A = digB c := ⟨_, rfl⟩
  rw [← hA] at sa hln HIA
  rw [← hB] at sb hln HIB
  rw [← hC] at sc hln HIC
  have s32 : (⟨#[32]⟩ : ByteArray).size = 1 := rfl
  have s10 : (⟨#[10]⟩ : ByteArray).size = 1 := rfl
  have had1 : ∀ w : World, (Op.stringOp .add A ⟨#[32]⟩).run Tryz.prog w = .ok (.string (A ++ ⟨#[32]⟩)) w := fun w => run_string_add_sum _ _ _ (by omega)
  obtain ⟨A1, hA1⟩ : ∃ X, X = A ++ ⟨#[32]⟩ := ⟨_, rfl⟩
  have sA1 : A1.size ≤ 3 := by rw [hA1, ByteArray.size_append]; omega
  rw [← hA1] at had1 hln
  have had2 : ∀ w : World, (Op.stringOp .add A1 B).run Tryz.prog w = .ok (.string (A1 ++ B)) w := fun w => run_string_add_sum _ _ _ (by omega)
  obtain ⟨A2, hA2⟩ : ∃ X, X = A1 ++ B := ⟨_, rfl⟩
  have sA2 : A2.size ≤ 5 := by rw [hA2, ByteArray.size_append]; omega
  rw [← hA2] at had2 hln
  have had3 : ∀ w : World, (Op.stringOp .add A2 ⟨#[32]⟩).run Tryz.prog w = .ok (.string (A2 ++ ⟨#[32]⟩)) w := fun w => run_string_add_sum _ _ _ (by omega)
  obtain ⟨A3, hA3⟩ : ∃ X, X = A2 ++ ⟨#[32]⟩ := ⟨_, rfl⟩
  have sA3 : A3.size ≤ 6 := by rw [hA3, ByteArray.size_append]; omega
  rw [← hA3] at had3 hln
  have had4 : ∀ w : World, (Op.stringOp .add A3 C).run Tryz.prog w = .ok (.string (A3 ++ C)) w := fun w => run_string_add_sum _ _ _ (by omega)
  obtain ⟨A4, hA4⟩ : ∃ X, X = A3 ++ C := ⟨_, rfl⟩
  have sA4 : A4.size ≤ 8 := by rw [hA4, ByteArray.size_append]; omega
  rw [← hA4] at had4 hln
  have had5 : ∀ w : World, (Op.stringOp .add A4 ⟨#[10]⟩).run Tryz.prog w = .ok (.string (A4 ++ ⟨#[10]⟩)) w := fun w => run_string_add_sum _ _ _ (by omega)
  rw [hln] at had5
  obtain ⟨S, hS⟩ : ∃ S, S = strL (encE ((a : Int), (b : Int), (c : Int))) := ⟨_, rfl⟩
  rw [← hS] at had5 HK
  clear hA hB hC hA1 hA2 hA3 hA4 sA1 sA2 sA3 sA4 s32 s10 sa sb sc da db dc hln ha hb hc hS
  refine wp_region_planH 14 [] [(true, 0), (true, 1), (true, 4), (true, 5), (true, 9), (true, 10), (false, 2), (true, 3), (false, 6), (true, 7), (true, 8), (false, 11), (true, 12), (true, 13)] [14] (fun wS => wS = w1.drew) (by kernel_rfl) (by kernel_rfl) (rfl) ?_
  simp only [pickH, pick, List.getElem?_cons_succ, List.getElem?_cons_zero, Option.toList, Option.map_some, List.cons_append, List.nil_append]
  repeat (refine wpPure_step ?_ rfl ?_ ?_; rotate_left; (focus (intro _; first | with_reducible rfl | (go_simp; done) | (go_simp; with_reducible rfl) | rfl)); go_simp)
  refine wpPure_nil ?_
  repeat (refine wpMix_read ?_ rfl ?_ ?_; rotate_left; (focus (intro _ hS; obtain rfl := hS; first | with_reducible rfl | (go_simp; done) | (go_simp; with_reducible rfl) | rfl)); go_simp)
  refine wpMix_write (fun K hK => ?_)
  go_simp
  refine (HIA.out _).mono ?_
  rintro e w' ⟨rfl, rfl⟩
  refine hK _ _ ⟨rfl, ?_⟩
  clear hK K
  go_simp
  repeat (refine wpMix_read ?_ rfl ?_ ?_; rotate_left; (focus (intro _ hS; obtain rfl := hS; first | with_reducible rfl | (go_simp; done) | (go_simp; with_reducible rfl) | rfl)); go_simp)
  refine wpMix_write (fun K hK => ?_)
  go_simp
  refine (HIB.out _).mono ?_
  rintro e w' ⟨rfl, rfl⟩
  refine hK _ _ ⟨rfl, ?_⟩
  clear hK K
  go_simp
  repeat (refine wpMix_read ?_ rfl ?_ ?_; rotate_left; (focus (intro _ hS; obtain rfl := hS; first | with_reducible rfl | (go_simp; done) | (go_simp; with_reducible rfl) | rfl)); go_simp)
  refine wpMix_write (fun K hK => ?_)
  go_simp
  refine (HIC.out _).mono ?_
  rintro e w' ⟨rfl, rfl⟩
  refine hK _ _ ⟨rfl, ?_⟩
  clear hK K
  go_simp
  repeat (refine wpMix_read ?_ rfl ?_ ?_; rotate_left; (focus (intro _ hS; obtain rfl := hS; first | with_reducible rfl | (go_simp; done) | (go_simp; with_reducible rfl) | rfl)); go_simp)
  refine wpMix_nil ?_
  go_wp2_with fail
  refine NoPanic.normal ?_
  apply HK.out
  exact ⟨rfl, rfl⟩
end Go.Proofs.YtpafhfnimncklaaGreatDoor
/- As XHeld, where two writes come up at once: both orders are walked. -/
namespace Go.Proofs.YtpafhfnimncklaaGreatDoor
set_option linter.unusedVariables false
set_option linter.unusedSimpArgs false
open Go.RowKit
section
variable {P : Program} {ops : Array Oper} {md : Region.Mode} {S : World → Prop} {Q : Exit → Act → World → Prop}
def headF (md : Region.Mode) (ops : Array Oper) (r : List Nat) (n k1 k2 : Nat) (q1 q2 : List (Bool × Nat)) : List (Bool × Nat) → Array Bool → Bool
  | [], listed => decide (Region.ready md ops listed = [k1, k2]) && decide (k1 < n) && decide (k2 < n) && decide (q2.length = q1.length) && headH md ops r n q1 (listed.setIfInBounds k1 true) && headH md ops r n q2 (listed.setIfInBounds k2 true)
  | (true, k) :: l, listed => decide (k < n) && (Region.ready md ops listed).contains k && Region.free md ops listed k && headF md ops r n k1 k2 q1 q2 l (listed.setIfInBounds k true)
  | (false, k) :: l, listed => decide (k < n) && decide (Region.ready md ops listed = [k]) && headF md ops r n k1 k2 q1 q2 l (listed.setIfInBounds k true)
theorem wpAnyHL_mono {L L' : Array Bool → Act → World → Prop} (hL : ∀ listed a w, L listed a w → L' listed a w) : ∀ (f : Nat) (listed : Array Bool) (a : Act) (w : World), wpAnyHL P md ops Q S L f listed a w → wpAnyHL P md ops Q S L' f listed a w
  | 0, _, _, _, h => hL _ _ _ h
  | f + 1, _, _, _, h => ⟨h.1, fun i hi => wpOp_mono (fun a' w' h' => ⟨h'.1, wpAnyHL_mono hL f _ a' w' h'.2⟩) (h.2 i hi)⟩
theorem wpAnyHL_planF {n k1 k2 : Nat} {m r : List Nat} {q1 q2 : List (Bool × Nat)} {Lq : Act → World → Prop} {L0 : List Oper} (hops : ops = L0.toArray) (hsel : Region.noSelect ops = true) (hQ : ∀ d v c a w, Q (.panic c) (Act.put a d v) w → Q (.panic c) a w) (hs : sinkX md ops n m = true) (hl : linkX md ops n m = true) :
    ∀ (l : List (Bool × Nat)) (listed : Array Bool) (a : Act) (w : World), HInv md ops n m listed → (∀ i ∈ m, listed.getD i false = true) → S w →
    headF md ops r n k1 k2 q1 q2 l listed = true → wpMix P ops S Q (fun a w => wpMix P ops S Q Lq (pickH L0 ((false, k1) :: q1)) a w ∧ wpMix P ops S Q Lq (pickH L0 ((false, k2) :: q2)) a w) (pickH L0 l) a w →
    wpAnyHL P md ops Q S (fun listed' a' w' => ((∀ i < n, listed'.getD i true = true) ∧ ordB md ops r listed' = true) ∧ Lq a' w') (l.length + (q1.length + 1)) listed a w
  | [], listed, a, w, inv, hm, hS, hB, h => by
    simp only [headF, Bool.and_eq_true, decide_eq_true_eq] at hB
    obtain ⟨⟨⟨⟨⟨hr, h1n⟩, h2n⟩, hlen⟩, hB1⟩, hB2⟩ := hB
    rw [List.length_nil, Nat.zero_add]
    have go : ∀ (k : Nat) (q : List (Bool × Nat)), k < n → q.length = q1.length → k ∈ Region.ready md ops listed → headH md ops r n q (listed.setIfInBounds k true) = true → wpMix P ops S Q Lq (pickH L0 ((false, k) :: q)) a w →
        wpOp P ops Q k (fun a' w' => S w' ∧ wpAnyHL P md ops Q S (fun listed' a' w' => ((∀ i < n, listed'.getD i true = true) ∧ ordB md ops r listed' = true) ∧ Lq a' w') q1.length (listed.setIfInBounds k true) a' w') a w := by
      intro k q hkn hq hk hBk hk2
      obtain ⟨_, o, h0, _⟩ := mem_ready.1 hk
      have h0' : L0[k]? = some o := by rw [hops] at h0; simpa using h0
      simp only [pickH, h0', Option.map_some, Option.toList, List.cons_append, List.nil_append] at hk2
      have inv' := inv.set hk (.inl hkn)
      refine wpOp_mono (K := fun a' w' => S w' ∧ wpMix P ops S Q Lq (pickH L0 q) a' w') (fun a' w' h' => ⟨h'.1, by
        have := wpAnyHL_plan hops hsel hQ hs hl q _ _ _ inv' (fun i hi => getD_set_true (hm i hi)) h'.1 hBk h'.2
        rw [hq] at this
        exact this⟩) ?_
      unfold wpOp
      simp only [h0]
      exact hk2
    refine ⟨by rw [hr]; simp, fun j hj => ?_⟩
    have hj' := hj
    rw [hr] at hj'
    rcases List.mem_cons.1 hj' with rfl | hj'
    · exact go j q1 h1n rfl hj hB1 h.1
    · obtain rfl : j = k2 := by simpa using hj'
      exact go j q2 h2n hlen hj hB2 h.2
  | (true, k) :: l, listed, a, w, inv, hm, hS, hB, h => by
    simp only [headF, Bool.and_eq_true, decide_eq_true_eq] at hB
    obtain ⟨⟨⟨hkn, hr⟩, hf⟩, hB'⟩ := hB
    have hr' : k ∈ Region.ready md ops listed := by simpa using hr
    obtain ⟨_, o, h0, _⟩ := mem_ready.1 hr'
    have h0' : L0[k]? = some o := by rw [hops] at h0; simpa using h0
    simp only [pickH, h0', Option.map_some, Option.toList, List.cons_append, List.nil_append] at h
    obtain ⟨v, hy, hK⟩ := h
    rw [List.length_cons, show l.length + 1 + (q1.length + 1) = (l.length + (q1.length + 1)) + 1 by omega]
    refine head_takeH h0 hsel hQ hs hl hkn (fun listed' a' w' hL => ordB_ready hL.1.2 hL.1.1) (l.length + (q1.length + 1)) listed a w inv hm (Region.free_spec h0 hf) hr' hy hS ?_
    exact wpAnyHL_planF hops hsel hQ hs hl l _ _ _ (inv.set hr' (.inl hkn)) (fun i hi => getD_set_true (hm i hi)) hS hB' hK
  | (false, k) :: l, listed, a, w, inv, hm, hS, hB, h => by
    simp only [headF, Bool.and_eq_true, decide_eq_true_eq] at hB
    obtain ⟨⟨hkn, hr⟩, hB'⟩ := hB
    have hr' : k ∈ Region.ready md ops listed := by rw [hr]; simp
    obtain ⟨_, o, h0, _⟩ := mem_ready.1 hr'
    have h0' : L0[k]? = some o := by rw [hops] at h0; simpa using h0
    simp only [pickH, h0', Option.map_some, Option.toList, List.cons_append, List.nil_append] at h
    rw [List.length_cons, show l.length + 1 + (q1.length + 1) = (l.length + (q1.length + 1)) + 1 by omega]
    refine ⟨List.ne_nil_of_mem hr', fun j hj => ?_⟩
    rw [hr] at hj
    have hjk : j = k := by simpa using hj
    subst hjk
    have inv' := inv.set hr' (.inl hkn)
    refine wpOp_mono (K := fun a' w' => S w' ∧ wpMix P ops S Q _ (pickH L0 l) a' w') (fun a' w' h' => ⟨h'.1, wpAnyHL_planF hops hsel hQ hs hl l _ _ _ inv' (fun i hi => getD_set_true (hm i hi)) h'.1 hB' h'.2⟩) ?_
    unfold wpOp
    simp only [h0]
    exact h
def planF (ops : Array Oper) (n : Nat) (p : List (Bool × Nat)) (k1 k2 : Nat) (q1 q2 : List (Bool × Nat)) (r : List Nat) : Bool :=
  Region.noSelect ops && sinkX .any ops n [] && linkX .any ops n [] && headF .any ops r n k1 k2 q1 q2 p (Array.replicate ops.size false) && decide ((p.length + (q1.length + 1)) + r.length = ops.size)
theorem wp_region_planF {id : Nat} {Q : Exit → Act → World → Prop} {a : Act} {w : World} {l : List Oper} (n : Nat) (p : List (Bool × Nat)) (k1 k2 : Nat) (q1 q2 : List (Bool × Nat)) (r : List Nat) (S : World → Prop) (hm : P.follows .mixedOrders = true) (hB : planF l.toArray n p k1 k2 q1 q2 r = true) (hS : S w.drew)
    (h : wpMix P l.toArray S (NoPanic Q) (fun a w => wpMix P l.toArray S (NoPanic Q) (fun a' w' => wpList P l.toArray (NoPanic Q) (pick l r) a' w') (pickH l ((false, k1) :: q1)) a w ∧ wpMix P l.toArray S (NoPanic Q) (fun a' w' => wpList P l.toArray (NoPanic Q) (pick l r) a' w') (pickH l ((false, k2) :: q2)) a w) (pickH l p) a w.drew) : (Code.region id l.toArray true).wp P Q a w := by
  refine wp_region_noPanic ?_
  simp only [planF, Bool.and_eq_true, decide_eq_true_eq] at hB
  obtain ⟨⟨⟨⟨hsel, hs⟩, hl⟩, hh⟩, hlen⟩ := hB
  have inv0 : HInv .any l.toArray n [] (Array.replicate l.toArray.size false) :=
    ⟨by simp, fun j oj _ hl => (by rw [getD_replicate_false] at hl; cases hl), fun t _ ht _ => getD_in (by simpa using ht) (getD_replicate_false _ _)⟩
  refine wp_region_any hm ?_
  have hQ : ∀ d v c a w, NoPanic Q (.panic c) (Act.put a d v) w → NoPanic Q (.panic c) a w := fun _ _ _ _ _ h => h.elim
  have H1 := wpAnyHL_planF (P := P) (md := .any) (r := r) (Lq := fun a' w' => wpList P l.toArray (NoPanic Q) (pick l r) a' w') rfl hsel hQ hs hl p _ a _ inv0 (fun i hi => by cases hi) hS hh h
  have H := wpAny_of_HL (g := r.length) (fun listed a' w' hL => wpAny_of_ord hsel hQ r listed a' w' hL.1.2 hL.2) _ _ _ _ H1
  rw [hlen] at H
  exact H
end
end Go.Proofs.YtpafhfnimncklaaGreatDoor
