/- LogKeeps, plainly: the marks of a log: how many bytes its first events are. -/
import Derived.Test.YtljlnhbndkdlcaaDoorMLogKeeps8
import Derived.Test.YtljlnhbndkdlcaaDoorMLogKeeps0
import Derived.Test.YtljlnhbndkdlcaaDoorProg
import Derived.Lib.Itoa
import Derived.Lib.ItoaNum
import Derived.Lib.ItoaWalk
import Derived.Lib.LastIndexByte
import Derived.Lib.Bytealg
import Derived.Lib.Strings
import Derived.Lib.Walk
import Derived.Test.YtljlnhbndkdlcaaDoorMLogKeeps6
import Derived.Test.YtljlnhbndkdlcaaDoorMLogKeeps2
import Derived.Test.YtljlnhbndkdlcaaDoorMLogKeeps1
import Derived.Test.YtljlnhbndkdlcaaDoorMLogKeeps3
namespace Go.Proofs.YtljlnhbndkdlcaaDoor
set_option linter.unusedVariables false
set_option linter.unusedSimpArgs false
open Go.RowKit
def mkL (h : List Ev) (j : Nat) : Nat := (encH (h.take j)).length
def mkM (h : List Ev) : List Int := (List.range (h.length + 1)).map fun (j : Nat) => ((mkL h j : Nat) : Int)
theorem mkM_len (h : List Ev) : (mkM h).length = h.length + 1 := by simp [mkM]
theorem mkM_get {h : List Ev} {j : Nat} (hj : j ≤ h.length) : (mkM h)[j]? = some ((mkL h j : Nat) : Int) := by
  unfold mkM; rw [List.getElem?_map, List.getElem?_range (by omega)]; rfl
theorem mkL_snoc {h : List Ev} {e : Ev} {j : Nat} (hj : j ≤ h.length) : mkL (h ++ [e]) j = mkL h j := by
  unfold mkL; rw [List.take_append_of_le_length hj]
theorem mkM_snoc (h : List Ev) (e : Ev) : mkM (h ++ [e]) = mkM h ++ [(((encH (h ++ [e])).length : Nat) : Int)] := by
  refine List.ext_getElem? fun j => ?_
  by_cases hj : j ≤ h.length
  · rw [mkM_get (by simp; omega), List.getElem?_append_left (by rw [mkM_len]; omega), mkM_get hj, mkL_snoc hj]
  · by_cases hj2 : j = h.length + 1
    · subst hj2
      rw [mkM_get (by simp), List.getElem?_append_right (by rw [mkM_len]; omega), mkM_len, Nat.sub_self]
      unfold mkL
      rw [List.take_of_length_le (by simp)]; rfl
    · rw [List.getElem?_eq_none (by rw [mkM_len]; simp; omega), List.getElem?_eq_none (by rw [List.length_append, mkM_len]; simp; omega)]
theorem mkM_take {h : List Ev} {k : Nat} (hk : k ≤ h.length) : (mkM h).take (k + 1) = mkM (h.take k) := by
  have hl : (h.take k).length = k := by rw [List.length_take]; omega
  refine List.ext_getElem? fun j => ?_
  rw [List.getElem?_take]
  by_cases hj : j < k + 1
  · rw [if_pos hj, mkM_get (by omega), mkM_get (by omega)]
    unfold mkL
    rw [List.take_take, Nat.min_eq_left (by omega)]
  · rw [if_neg hj, List.getElem?_eq_none (by rw [mkM_len]; omega)]
theorem mkL_mono {h : List Ev} : ∀ {i j : Nat}, i ≤ j → mkL h i ≤ mkL h j := by
  intro i j hij
  unfold mkL
  have e : h.take i = (h.take j).take i := by rw [List.take_take, Nat.min_eq_left hij]
  have e2 : encH (h.take j) = encH ((h.take j).take i) ++ encH ((h.take j).drop i) := by unfold encH; rw [← List.flatMap_append, List.take_append_drop]
  rw [e, e2, List.length_append]; omega
theorem mkL_all (h : List Ev) : mkL h h.length = (encH h).length := by unfold mkL; rw [List.take_of_length_le (Nat.le_refl _)]
theorem mkL_bound {h : List Ev} (hr : RightH h) (j : Nat) : mkL h j ≤ 540 := by
  unfold mkL
  have h1 := encH_len (h := h.take j) (fun e he => hr.ok e (List.mem_of_mem_take he))
  have := hr.1
  rw [List.length_take] at h1
  omega
/-- Which marks are low enough: the first ones, up to the cut. -/
theorem mk_cut {s : Lg} (h : LgI s) (keep : Int) {i : Nat} (hi : i ≤ s.h.length) : mkL s.h i ≤ lgHigh s keep ↔ i ≤ lgCut s keep := by
  obtain ⟨h1, _, _, _, h2, h3⟩ := lg_cut h keep
  constructor
  · intro hle
    apply Nat.le_of_not_lt
    intro hlt
    have h4 := h3 (by omega)
    have h5 := mkL_mono (h := s.h) (show lgCut s keep + 1 ≤ i by omega)
    unfold mkL at hle h5
    omega
  · intro hle
    have := mkL_mono (h := s.h) hle
    unfold mkL at this ⊢
    omega
/-- The walk over the marks. -/
def lastLow (k i : Nat) : Nat := if i = 0 then 0 else min (i - 1) k
theorem lastLow_yes {k i : Nat} (h : i ≤ k) : lastLow k (i + 1) = i := by unfold lastLow; rw [if_neg (by omega)]; omega
theorem lastLow_no {k i : Nat} (h : ¬ i ≤ k) : lastLow k (i + 1) = lastLow k i := by
  unfold lastLow
  rw [if_neg (by omega), if_neg (by omega)]; omega
theorem lastLow_end {k n : Nat} (h : k ≤ n) : lastLow k (n + 1) = k := by unfold lastLow; rw [if_neg (by omega)]; omega
theorem crash_len (s : Lg) (keep : Int) (h : LgI s) : (lgCrash s keep).bs.length = mkL s.h (lgCut s keep) ∧ (lgCrash s keep).safe = mkL s.h (lgCut s keep) := ⟨rfl, rfl⟩
theorem do_err {s : Lg} (e : Ev) : lgErr s e = 6 ∨ lgErr s e = (histR (s.h ++ [e])).2 := by
  unfold lgErr
  split
  · exact .inl rfl
  · split
    · exact .inr rfl
    · rename_i h
      split
      · exact .inl rfl
      · exact .inr (Eq.symm (by simpa using h))
theorem do_nil {s : Lg} {e : Ev} (h : lgErr s e = 0) (hI : LgI s) : (lgDo s e).h = s.h ++ [e] ∧ (lgDo s e).bs.length = (encH (s.h ++ [e])).length ∧ s.bs.length + 2 ≤ (lgDo s e).bs.length ∧ RightH (s.h ++ [e]) := by
  unfold lgErr at h
  split at h
  · cases h
  rename_i h1
  split at h
  · rename_i h2; exact absurd h h2
  rename_i h2
  split at h
  · cases h
  rename_i h3
  have hr : RightH (s.h ++ [e]) := (histR_ok _).1 (by simpa using h2)
  have hst : s.st = false := by simpa using h1
  obtain ⟨part, hb, _, _, hp⟩ := hI.bs
  have hp0 := hp hst
  subst hp0
  rw [List.append_nil] at hb
  have hl := encE_len (hr.ok e (by simp))
  have hd : lgDo s e = { s with st := false, left := dec1 s.left, bs := s.bs ++ encE e, h := s.h ++ [e] } := by
    unfold lgDo; rw [if_neg h1, if_neg h2, if_neg h3]
  rw [hd]
  refine ⟨rfl, ?_, ?_, hr⟩
  · show (s.bs ++ encE e).length = _
    rw [hb, encH_snoc]
  · show _ ≤ (s.bs ++ encE e).length
    rw [List.length_append]; omega
theorem do_keep {s : Lg} {e : Ev} (h : lgErr s e ≠ 0) : (lgDo s e).h = s.h := by
  unfold lgErr at h
  unfold lgDo
  split
  · rfl
  · rename_i h1
    rw [if_neg h1] at h
    split
    · rfl
    · rename_i h2
      rw [if_neg h2] at h
      split
      · rfl
      · rename_i h3
        rw [if_neg h3] at h
        exact absurd rfl h
theorem sync_safe {s : Lg} (h : lgSyncErr s = 0) : (lgSync s).safe = (lgSync s).bs.length := by
  unfold lgSyncErr at h
  split at h
  · cases h
  rename_i h1
  unfold lgSync
  rw [if_neg (fun h2 => h1 (.inl h2)), if_neg (fun h2 => h1 (.inr h2))]
theorem sync_h (s : Lg) : (lgSync s).h = s.h := by unfold lgSync; split; rfl; split <;> rfl
/-- The example. -/
def k1E : Ev := (0, 2, 1)
def k2E : Ev := (1, 3, 1)
def kS1 : Lg := lgDo lgNew k1E
def kS2 : Lg := lgSync kS1
def kS3 : Lg := lgDo kS2 k2E
theorem k1_right : (histR [k1E]).2 = 0 := by decide
theorem k2_right : (histR [k1E, k2E]).2 = 0 := by decide
theorem kS1_is : lgErr lgNew k1E = 0 ∧ kS1 = ⟨[k1E], encE k1E, 0, -1, false⟩ := by
  unfold kS1 lgErr lgDo
  rw [show lgNew.h ++ [k1E] = [k1E] from rfl, k1_right]
  exact ⟨rfl, rfl⟩
theorem kS2_is : lgSyncErr kS1 = 0 ∧ kS2 = ⟨[k1E], encE k1E, (encE k1E).length, -1, false⟩ := by
  unfold kS2
  rw [kS1_is.2]
  exact ⟨rfl, rfl⟩
theorem kS3_is : lgErr kS2 k2E = 0 ∧ kS3 = ⟨[k1E, k2E], encE k1E ++ encE k2E, (encE k1E).length, -1, false⟩ := by
  unfold kS3
  rw [kS2_is.2]
  unfold lgErr lgDo
  rw [show ([k1E] : List Ev) ++ [k2E] = [k1E, k2E] from rfl, k2_right]
  exact ⟨rfl, rfl⟩
theorem kS3_I : LgI kS3 := ((lgNew_I.do k1E).sync).do k2E
theorem kS_crash : (lgCrash kS3 0).h = [k1E] := by
  have hI := kS3_I
  have hk := fun i (hi : i ≤ 2) => mk_cut hI 0 (i := i) (by rw [kS3_is.2]; exact hi)
  have hh : lgHigh kS3 0 = (encE k1E).length := by rw [kS3_is.2]; rfl
  have h0 : kS3.h = [k1E, k2E] := by rw [kS3_is.2]
  have e1 := (hk 1 (by omega)).1 (by rw [hh, h0]; unfold mkL encH; simp)
  have e2 : ¬ 2 ≤ lgCut kS3 0 := fun hc => by
    have h3 := (hk 2 (by omega)).2 hc
    have h4 := encE_len (show okEv k2E by unfold okEv k2E; decide)
    rw [hh, h0] at h3
    have h5 : mkL [k1E, k2E] 2 = (encE k1E).length + (encE k2E).length := by unfold mkL encH; simp
    rw [h5] at h3
    omega
  have e3 : lgCut kS3 0 = 1 := by omega
  show kS3.h.take (lgCut kS3 0) = [k1E]
  rw [e3, h0]; rfl
end Go.Proofs.YtljlnhbndkdlcaaDoor
/- strconv.Itoa of a small number; strings.LastIndex and strings.Count at one byte. -/
namespace Go.Proofs.YtljlnhbndkdlcaaDoor
set_option linter.unusedVariables false
set_option linter.unusedSimpArgs false
open Go.RowKit
def digB (i : Nat) : ByteArray := ⟨(Lib.decDigits i).toArray⟩
theorem small_ba (x : ByteArray) (l : List UInt8) (h : x.data.toList = l) : x = ⟨l.toArray⟩ := by
  subst h
  cases x
  simp
set_option maxRecDepth 100000 in
set_option maxHeartbeats 4000000 in
theorem stSmall (i : Nat) (h : i < 100) (w : World) :
    Calls Tryd.prog 93 #[.int .i64 (i : Int)] w fun e w' => e = .returned (.string (digB i)) ∧ w = w' := by
  go_enter Tryd.func93, Tryd.ntmps93
  go_name_bytes_deep 45 SM hSM
  have eSM : SM = Lib.smalls := by rw [← hSM]; decide +kernel
  subst eSM
  clear hSM
  go_name_bytes_deep 30 DG hDG
  have eDG : DG = Lib.digits36 := by rw [← hDG]; decide +kernel
  subst eDG
  clear hDG
  by_cases h10 : i < 10
  · have hsl : ∀ w, (Instr.slice 9 (.string Lib.digits36) (some (.int .i64 (i : Int))) (some (.int .i64 ((i : Int) + 1))) none).run Tryd.prog w = .ok (.string (Lib.digits36.extract i (i + 1))) w := fun w => by
      rw [run_slice_string w 9 Lib.digits36 .i64 .i64 _ _ Tryd.underlying9 (by omega) (by omega) (by rw [Lib.digits36_size]; omega), show ((i : Int)).toNat = i by omega, show ((i : Int) + 1).toNat = i + 1 by omega]
    go_wp2
    go_ret
    refine ⟨?_, rfl⟩
    show Ending.returned (Value.string (Lib.digits36.extract i (i + 1))) = _
    rw [small_ba (Lib.digits36.extract i (i + 1)) (Lib.decDigits i) (by rw [Lib.extract_data]; exact Lib.digits36_piece h10)]
    rfl
  · have hsl : ∀ w, (Instr.slice 9 (.string Lib.smalls) (some (.int .i64 ((i : Int) * 2))) (some (.int .i64 ((i : Int) * 2 + 2))) none).run Tryd.prog w = .ok (.string (Lib.smalls.extract (i * 2) (i * 2 + 2))) w := fun w => by
      rw [run_slice_string w 9 Lib.smalls .i64 .i64 _ _ Tryd.underlying9 (by omega) (by omega) (by rw [Lib.smalls_size]; omega), show ((i : Int) * 2).toNat = i * 2 by omega, show ((i : Int) * 2 + 2).toNat = i * 2 + 2 by omega]
    go_wp2
    go_ret
    refine ⟨?_, rfl⟩
    show Ending.returned (Value.string (Lib.smalls.extract (i * 2) (i * 2 + 2))) = _
    rw [small_ba (Lib.smalls.extract (i * 2) (i * 2 + 2)) (Lib.decDigits i) (by rw [Lib.extract_data]; exact Lib.smalls_piece h10 h)]
    rfl
set_option maxRecDepth 100000 in
set_option maxHeartbeats 4000000 in
theorem stFormat (i : Nat) (h : i < 100) (w : World) :
    Calls Tryd.prog 70 #[.int .i64 (i : Int), .int .i64 10] w fun e w' => e = .returned (.string (digB i)) ∧ w = w' := by
  have i0 : (0 : Int) ≤ (i : Int) := by omega
  have i1 : (i : Int) < 100 := by omega
  go_enter Tryd.func70, Tryd.ntmps70
  go_wp2_with fail
  refine (stSmall i h _).mono ?_
  rintro e w' ⟨rfl, rfl⟩
  go_wp2
  go_ret
  exact ⟨rfl, rfl⟩
set_option maxRecDepth 100000 in
set_option maxHeartbeats 4000000 in
theorem stItoa1 (i : Nat) (h : i < 100) (w : World) :
    Calls Tryd.prog 49 #[.int .i64 (i : Int)] w fun e w' => e = .returned (.string (digB i)) ∧ w = w' := by
  go_enter Tryd.func49, Tryd.ntmps49
  go_wp2_with fail
  refine (stFormat i h _).mono ?_
  rintro e w' ⟨rfl, rfl⟩
  go_wp2
  go_ret
  exact ⟨rfl, rfl⟩
set_option maxRecDepth 100000 in
set_option maxHeartbeats 4000000 in
theorem stItoa (i : Nat) (h : i < 100) (w : World) :
    Calls Tryd.prog 31 #[.int .i64 (i : Int)] w fun e w' => e = .returned (.string (digB i)) ∧ w = w' := by
  go_enter Tryd.func31, Tryd.ntmps31
  go_wp2_with fail
  refine (stItoa1 i h _).mono ?_
  rintro e w' ⟨rfl, rfl⟩
  go_wp2
  go_ret
  exact ⟨rfl, rfl⟩
theorem byteBang (s : ByteArray) (j : Nat) (hj : j < s.size) : s.data[j]! = s[j] := by
  rw [getElem!_pos s.data j (by simpa using hj)]; rfl
set_option maxRecDepth 100000 in
set_option maxHeartbeats 4000000 in
theorem stLastB (s : ByteArray) (c : Int) (hs : s.size < 4611686018427387904) (w : World) :
    Calls Tryd.prog 51 #[.string s, .int .u8 c] w fun e w' => e = .returned (.int .i64 (Lib.lastIndexByte s c)) ∧ w = w' := by
  go_enter Tryd.func51, Tryd.ntmps51
  go_wp2_with fail
  go_loop [5] (fun vi => ∃ k : Nat, k ≤ s.size ∧ vi = .int .i64 ((k : Int) - 1) ∧ Hid (Lib.lastIndexByte s c = Lib.lastIdx s c k)) (fun vi => ((RowKit.intOf vi) + 1).toNat)
  case atStart => exact ⟨s.size, Nat.le_refl _, by first | rfl | go_num | (congr 1; omega), Lib.hid rfl⟩
  case round =>
    obtain ⟨k, hk, rfl, hh⟩ := hrel
    go_wp2
    · have hc : (((s[k - 1]).toNat : Int) == c) = true := by assumption
      have k1 : 1 ≤ k := by omega
      have e1 : Lib.lastIdx s c k = ((k - 1 : Nat) : Int) := by
        have := Lib.lastIdx_hit s c (k - 1) (by rw [byteBang s (k - 1) (by omega)]; simpa using hc)
        rwa [show k - 1 + 1 = k by omega] at this
      have e2 : ((k - 1 : Nat) : Int) = (k : Int) - 1 := by omega
      go_ret
      rw [hh.out, e1, e2]
      exact ⟨rfl, rfl⟩
    · have hc : (((s[k - 1]).toNat : Int) == c) = false := by assumption
      have k1 : 1 ≤ k := by omega
      have e1 : Lib.lastIdx s c k = Lib.lastIdx s c (k - 1) := by
        have := Lib.lastIdx_miss s c (k - 1) (by rw [byteBang s (k - 1) (by omega)]; simpa using hc)
        rwa [show k - 1 + 1 = k by omega] at this
      refine ⟨⟨k - 1, by omega, by congr 1; omega, Lib.hid (hh.out.trans e1)⟩, ?_⟩
      simp [RowKit.intOf]; omega
    · have k0 : k = 0 := by omega
      subst k0
      go_ret
      rw [hh.out]
      exact ⟨rfl, rfl⟩
set_option maxRecDepth 100000 in
set_option maxHeartbeats 4000000 in
theorem stLast (s : ByteArray) (hs : s.size < 4611686018427387904) (w : World) :
    Calls Tryd.prog 34 #[.string s, .string ⟨#[10]⟩] w fun e w' => e = .returned (.int .i64 (Lib.lastIndexByte s 10)) ∧ w = w' := by
  go_enter Tryd.func34, Tryd.ntmps34
  go_wp2_with fail
  refine (stLastB s 10 hs _).mono ?_
  rintro e w' ⟨rfl, rfl⟩
  go_wp2
  go_ret
  exact ⟨rfl, rfl⟩
set_option maxRecDepth 100000 in
set_option maxHeartbeats 4000000 in
theorem stCount (s : ByteArray) (w : World) :
    Calls Tryd.prog 35 #[.string s, .string ⟨#[10]⟩] w fun e w' => e = .returned (.int .i64 ((s.data.toList.count 10 : Nat) : Int)) ∧ w = w' := by
  go_enter Tryd.func35, Tryd.ntmps35
  go_wp2
  rw [run_callFunc_extern Tryd.func54 (by kernel_rfl) (by kernel_rfl) (by kernel_rfl) (e := Extern.BytealgCount.count) (by kernel_rfl), Lib.run_countString]
  simp only [Result.andThen]
  rw [Oper.upon_value]
  go_wp2
  go_ret
  exact ⟨rfl, rfl⟩
end Go.Proofs.YtljlnhbndkdlcaaDoor
/- slices.Clone of events. -/
namespace Go.Proofs.YtljlnhbndkdlcaaDoor
set_option linter.unusedVariables false
set_option linter.unusedSimpArgs false
open Go.RowKit Go.Maps
set_option maxRecDepth 100000 in
set_option maxHeartbeats 4000000 in
theorem cloneEv_any {w0 w : World} {R : HProp} (v : Value) (l : List Ev) (hl : Evs w v l) (hb : l.length ≤ 1000000) (h : Own w0 R w) :
    Calls Tryd.prog 29 #[v] w fun e w' => ∃ v', e = .returned v' ∧ Own w0 (EvSl v' l * R) w' := by
  obtain ⟨⟨ad, cap, rfl, hlc, hcap, hn, hc⟩, hi⟩ := id hl
  cases ad with
  | none =>
    have h0 := hn rfl
    subst h0
    have hl0 : l = [] := List.eq_nil_of_length_eq_zero (by omega)
    subst hl0
    clear hn hc hi hl hlc hcap hb
    have hnil := fun (w : World) => Lib.run_eql_slice_nil (P := Tryd.prog) w 33 28 none 0 0 0 0 Tryd.underlying33
    go_enter Tryd.func29, Tryd.ntmps29
    go_wp2
    go_ret
    exact ⟨_, rfl, h.sl_nil _ _⟩
  | some a =>
    have hnil := fun (w : World) => Lib.run_eql_slice_nil (P := Tryd.prog) w 33 28 (some a) l.length cap 0 0 Tryd.underlying33
    have H := Lib.hid h
    have HL := Lib.hid hl
    have HS : Hid (Own w0 (Sl 28 3 (.slice (some ⟨w.heap.size, 0, none⟩) 0 0) 0 [] * R) (w.alloc (.cells #[] 28))) := Lib.hid (Own.sl_mk (cs := #[]) (Nat.le_refl _) (Nat.zero_le _) rfl (Nat.le_refl _) (fun i hi => by simp at hi) (h.alloc _))
    clear hn hc hi hl h
    go_enter Tryd.func29, Tryd.ntmps29
    go_wp2_with (at_builtin; refine wpList_app rfl _ _ 33 rfl 28 3 24 _ info_ev Tryd.underlying33 rfl (by decide) rfl HS.out rfl (cells_len evCells 3 (fun _ => rfl) _) ((HL.out.1).alloc _) (ev_one _) (by unfold maxLen; omega) (by omega) ?_; intro v' w1 hown')
    go_ret
    exact ⟨_, rfl, by unfold EvSl; simpa using hown'⟩
end Go.Proofs.YtljlnhbndkdlcaaDoor
/- Parts of what is owned brought to the front; a literal of ints. -/
namespace Go.Proofs.YtljlnhbndkdlcaaDoor
set_option linter.unusedVariables false
set_option linter.unusedSimpArgs false
open Go.RowKit
section
variable {w0 w : World} {A B C D E F G H R : HProp}
theorem Own.second (h : Own w0 (A * (B * R)) w) : Own w0 (B * (A * R)) w := h.perm (by ac_rfl)
theorem Own.third (h : Own w0 (A * (B * (C * R))) w) : Own w0 (C * (A * (B * R))) w := h.perm (by ac_rfl)
theorem Own.fourth (h : Own w0 (A * (B * (C * (D * R)))) w) : Own w0 (D * (A * (B * (C * R)))) w := h.perm (by ac_rfl)
theorem Own.fifth (h : Own w0 (A * (B * (C * (D * (E * R))))) w) : Own w0 (E * (A * (B * (C * (D * R))))) w := h.perm (by ac_rfl)
theorem Own.sixth (h : Own w0 (A * (B * (C * (D * (E * (F * R)))))) w) : Own w0 (F * (A * (B * (C * (D * (E * R))))) ) w := h.perm (by ac_rfl)
theorem Own.seventh (h : Own w0 (A * (B * (C * (D * (E * (F * (G * R))))))) w) : Own w0 (G * (A * (B * (C * (D * (E * (F * R)))))) ) w := h.perm (by ac_rfl)
/-- The front put back to the third, fourth, .. place. -/
theorem Own.to3 (h : Own w0 (A * (B * (C * R))) w) : Own w0 (B * (C * (A * R))) w := h.perm (by ac_rfl)
theorem Own.to4 (h : Own w0 (A * (B * (C * (D * R)))) w) : Own w0 (B * (C * (D * (A * R)))) w := h.perm (by ac_rfl)
theorem Own.to5 (h : Own w0 (A * (B * (C * (D * (E * R))))) w) : Own w0 (B * (C * (D * (E * (A * R))))) w := h.perm (by ac_rfl)
theorem Own.to6 (h : Own w0 (A * (B * (C * (D * (E * (F * R)))))) w) : Own w0 (B * (C * (D * (E * (F * (A * R)))))) w := h.perm (by ac_rfl)
end
theorem Own.only {w0 w : World} {P R : HProp} (h : Own w0 (P * R) w) : Own w0 (P * emp) w := by rw [star_emp]; exact h.drop2
theorem Own.litI {w0 w : World} {b : Nat} {R : HProp} (l : List Int) (k : Nat) (hk : l.length = k) (hm : k ≤ 1000) (h : Own w0 (blk b (.cells (l.map (Value.int .i64)).toArray 3 (0, 0)) * R) w) : Own w0 (IntSl (.slice (some ⟨b, 0, none⟩) k k) l * R) w := by
  unfold IntSl
  subst hk
  exact Own.sl_mk (Nat.le_refl _) (by unfold maxLen; omega) (by simp) (by simp) (fun i hi => by simp) h
end Go.Proofs.YtljlnhbndkdlcaaDoor
/- Package log: contracts of New, Bytes, Safe, All, step, Fail, Sync. -/
namespace Go.Proofs.YtljlnhbndkdlcaaDoor
set_option linter.unusedVariables false
set_option linter.unusedSimpArgs false
open Go.RowKit
def strL (l : List UInt8) : ByteArray := ⟨l.toArray⟩
theorem strL_size (l : List UInt8) : (strL l).size = l.length := by simp [strL, ByteArray.size]
def LgO (p : Nat) (hv : Value) (s : Lg) : HProp := blk p (.cells #[hv, .string (strL s.bs), .int .i64 (s.safe : Nat), .int .i64 s.left, .bool s.st] 60 (0, 0)) * EvSl hv s.h
def LgP (p : Nat) (s : Lg) : HProp := hex fun hv => LgO p hv s
theorem Own.lg_open {w0 w : World} {p : Nat} {s : Lg} {R : HProp} (h : Own w0 (LgP p s * R) w) : ∃ hv, Own w0 (LgO p hv s * R) w := h.ex
theorem Own.lg_close {w0 w : World} {p : Nat} {hv : Value} {s : Lg} {R : HProp} (h : Own w0 (LgO p hv s * R) w) : Own w0 (LgP p s * R) w := h.ex_mk hv
theorem Own.lg_facts {w0 w : World} {p : Nat} {hv : Value} {s : Lg} {R : HProp} (h : Own w0 (LgO p hv s * R) w) :
    w.cell? ⟨p, 0, none⟩ = some hv ∧ w.cell? ⟨p, 1, none⟩ = some (.string (strL s.bs)) ∧ w.cell? ⟨p, 2, none⟩ = some (.int .i64 (s.safe : Nat)) ∧ w.cell? ⟨p, 3, none⟩ = some (.int .i64 s.left) ∧ w.cell? ⟨p, 4, none⟩ = some (.bool s.st) ∧ ∀ i, w.frozen? ⟨p, i, none⟩ = false := by
  have h1 := h.perm (show _ = blk p (.cells #[hv, .string (strL s.bs), .int .i64 (s.safe : Nat), .int .i64 s.left, .bool s.st] 60 (0, 0)) * (EvSl hv s.h * R) by unfold LgO; ac_rfl)
  exact ⟨(h1.cell 0).trans rfl, (h1.cell 1).trans rfl, (h1.cell 2).trans rfl, (h1.cell 3).trans rfl, (h1.cell 4).trans rfl, fun i => h1.free i none⟩
theorem Own.lg_set {w0 w : World} {p : Nat} {hv hv' : Value} {s s' : Lg} {R : HProp} (h : Own w0 (LgO p hv s * R) w) (i : Nat) (v : Value) (hh : s'.h = s.h) (hhv : hv' = hv)
    (hc : (#[hv, .string (strL s.bs), .int .i64 (s.safe : Nat), .int .i64 s.left, .bool s.st] : Array Value).setIfInBounds i v = #[hv', .string (strL s'.bs), .int .i64 (s'.safe : Nat), .int .i64 s'.left, .bool s'.st]) : Own w0 (LgO p hv' s' * R) (w.setCell ⟨p, i, none⟩ v) := by
  subst hhv
  have h1 := h.perm (show _ = blk p (.cells #[hv', .string (strL s.bs), .int .i64 (s.safe : Nat), .int .i64 s.left, .bool s.st] 60 (0, 0)) * (EvSl hv' s.h * R) by unfold LgO; ac_rfl)
  have h2 := h1.setCell (i := i) (v := v)
  rw [hc] at h2
  refine h2.perm ?_
  unfold LgO
  rw [hh]; ac_rfl
theorem Own.lg_evs {w0 w : World} {p : Nat} {hv : Value} {s : Lg} {R : HProp} (h : Own w0 (LgO p hv s * R) w) (hr : RightH s.h) : Evs w hv s.h :=
  ⟨Own.rd (h.perm (show _ = EvSl hv s.h * (blk p (.cells #[hv, .string (strL s.bs), .int .i64 (s.safe : Nat), .int .i64 s.left, .bool s.st] 60 (0, 0)) * R) by unfold LgO; ac_rfl)), fun e he => okEv_good (hr.ok e he)⟩
set_option maxRecDepth 100000 in
set_option maxHeartbeats 4000000 in
theorem lgNew_any {w0 w : World} {R : HProp} (h : Own w0 R w) :
    Calls Tryd.prog 7 #[] w fun e w' => ∃ p, e = .returned (.pointer (some ⟨p, 0, none⟩)) ∧ Own w0 (LgP p lgNew * R) w' := by
  obtain ⟨p, hb_p⟩ : ∃ zz_, zz_ = (w).heap.size := ⟨_, rfl⟩
  obtain ⟨w1, hw_w1⟩ : ∃ zz_, zz_ = (w).alloc (.cells #[.slice none 0 0, .string ⟨#[]⟩, .int .i64 0, .int .i64 (-1), .bool false] 60 (0, 0)) := ⟨_, rfl⟩
  have h_H1 := (h).alloc (.cells #[.slice none 0 0, .string ⟨#[]⟩, .int .i64 0, .int .i64 (-1), .bool false] 60 (0, 0))
  rw [← hb_p, ← hw_w1] at h_H1
  have H1 := Lib.hid h_H1
  clear h_H1
  have HO : Hid (Own w0 (LgP p lgNew * R) w1) := Lib.hid (Own.lg_close (hv := .slice none 0 0) (by
    unfold LgO EvSl
    show Own w0 (blk p _ * Sl 28 3 (.slice none 0 0) 0 [] * R) w1
    rw [Sl_nil, star_emp]
    exact H1.out))
  clear H1
  have H := Lib.hid h
  clear h
  go_enter Tryd.func7, Tryd.ntmps7
  go_wp2
  rw [← hb_p, ← hw_w1]
  clear hb_p hw_w1
  go_ret
  exact ⟨p, rfl, HO.out⟩
set_option maxRecDepth 100000 in
set_option maxHeartbeats 4000000 in
theorem lgBytes_any {w0 w : World} {R : HProp} (p : Nat) (s : Lg) (hI : LgI s) (h : Own w0 (LgP p s * R) w) :
    Calls Tryd.prog 10 #[.pointer (some ⟨p, 0, none⟩)] w fun e w' => e = .returned (.int .i64 (s.bs.length : Nat)) ∧ w = w' := by
  obtain ⟨hv, ho⟩ := h.lg_open
  obtain ⟨_, c1, _⟩ := ho.lg_facts
  have hsz := strL_size s.bs
  obtain ⟨B, hB⟩ : ∃ B, B = strL s.bs := ⟨_, rfl⟩
  rw [← hB] at c1 hsz
  have hzz := hsz
  have HSZ := Lib.hid hsz
  clear ho hB hsz hzz
  have H := Lib.hid h; have HI := Lib.hid hI
  clear h hI
  go_enter Tryd.func10, Tryd.ntmps10
  go_wp2
  go_ret
  exact ⟨by first | rfl | (simp; done) | (show Ending.returned (.int .i64 ((B.size : Nat) : Int)) = _; rw [HSZ.out]), rfl⟩
set_option maxRecDepth 100000 in
set_option maxHeartbeats 4000000 in
theorem lgSafe_any {w0 w : World} {R : HProp} (p : Nat) (s : Lg) (h : Own w0 (LgP p s * R) w) :
    Calls Tryd.prog 25 #[.pointer (some ⟨p, 0, none⟩)] w fun e w' => e = .returned (.int .i64 (s.safe : Nat)) ∧ w = w' := by
  obtain ⟨hv, ho⟩ := h.lg_open
  obtain ⟨_, _, c2, _⟩ := ho.lg_facts
  clear ho
  have H := Lib.hid h
  clear h
  go_enter Tryd.func25, Tryd.ntmps25
  go_wp2
  go_ret
  exact ⟨rfl, rfl⟩
set_option maxRecDepth 100000 in
set_option maxHeartbeats 4000000 in
theorem lgAll_any {w0 w : World} {R : HProp} (p : Nat) (s : Lg) (hI : LgI s) (h : Own w0 (LgP p s * R) w) :
    Calls Tryd.prog 12 #[.pointer (some ⟨p, 0, none⟩)] w fun e w' => ∃ v', e = .returned v' ∧ Own w0 (EvSl v' s.h * (LgP p s * R)) w' := by
  obtain ⟨hv, ho⟩ := h.lg_open
  obtain ⟨c0, _⟩ := ho.lg_facts
  have HE := Lib.hid (ho.lg_evs hI.hr)
  have hlen := hI.hr.1
  clear ho
  have H := Lib.hid h; have HI := Lib.hid hI
  clear h hI
  go_enter Tryd.func12, Tryd.ntmps12
  go_wp2_with fail
  refine (cloneEv_any hv s.h HE.out (by omega) H.out).mono ?_
  rintro e w2 ⟨v', rfl, ho⟩
  have HO2 := Lib.hid ho
  clear ho c0
  go_wp2
  go_ret
  exact ⟨v', rfl, HO2.out⟩
def lgStep (s : Lg) : Lg := { s with st := decide (s.left = 0), left := dec1 s.left }
set_option maxRecDepth 100000 in
set_option maxHeartbeats 4000000 in
theorem lgStep_any {w0 w : World} {R : HProp} (p : Nat) (hv : Value) (s : Lg) (hl : -1 ≤ s.left ∧ s.left ≤ 9223372036854775807) (h : Own w0 (LgO p hv s * R) w) :
    Calls Tryd.prog 32 #[.pointer (some ⟨p, 0, none⟩)] w fun e w' => e = .returned (.bool (decide (s.left = 0))) ∧ Own w0 (LgO p hv (lgStep s) * R) w' := by
  obtain ⟨c0, c1, c2, c3, c4, cf⟩ := h.lg_facts
  obtain ⟨L, hL⟩ : ∃ L, L = s.left := ⟨_, rfl⟩
  rw [← hL] at c3 hl
  have hl1 := hl.1
  have hl2 := hl.2
  obtain ⟨D, hD⟩ : ∃ D, (L == 0) = D := ⟨_, rfl⟩
  have hDd : decide (s.left = 0) = D := by rw [← hD, hL]; rfl
  have HO1 : Hid (Own w0 (LgO p hv { s with st := D } * R) (w.setCell ⟨p, 4, none⟩ (.bool D))) := Lib.hid (h.lg_set 4 (.bool D) rfl rfl (by simp [Array.setIfInBounds]))
  obtain ⟨w1, hw1⟩ : ∃ w1, w1 = w.setCell ⟨p, 4, none⟩ (.bool D) := ⟨_, rfl⟩
  rw [← hw1] at HO1
  obtain ⟨d0, d1, d2, d3, d4, df⟩ := HO1.out.lg_facts
  simp only at d3 d4
  rw [← hL] at d3
  have HO2 : Hid (Own w0 (LgO p hv (lgStep s) * R) (w1.setCell ⟨p, 3, none⟩ (.int .i64 (dec1 L)))) := Lib.hid (HO1.out.lg_set 3 (.int .i64 (dec1 L)) rfl rfl (by rw [hL]; unfold lgStep; rw [hDd]; simp [Array.setIfInBounds]))
  obtain ⟨w2, hw2⟩ : ∃ w2, w2 = w1.setCell ⟨p, 3, none⟩ (.int .i64 (dec1 L)) := ⟨_, rfl⟩
  rw [← hw2] at HO2
  obtain ⟨_, _, _, _, f4, _⟩ := HO2.out.lg_facts
  rw [show (lgStep s).st = D from hDd] at f4
  have H := Lib.hid h; have HL := Lib.hid hL; have HL := Lib.hid hl; have HDD := Lib.hid hDd
  clear h hL hl hDd
  clear HO1
  go_enter Tryd.func32, Tryd.ntmps32
  go_upto_region 2 with fail
  rw [← hw1]
  clear hw1 c0 c1 c2 c3 c4 cf
  unfold dec1 at hw2
  go_upto_region 3 with fail
  rw [← hw2]
  clear hw2 d0 d1 d3 d4 df
  go_wp2
  go_ret
  exact ⟨by rw [HDD.out]; rfl, HO2.out⟩
set_option maxRecDepth 100000 in
set_option maxHeartbeats 4000000 in
theorem lgFail_any {w0 w : World} {R : HProp} (p : Nat) (s : Lg) (n : Int) (h : Own w0 (LgP p s * R) w) :
    Calls Tryd.prog 13 #[.pointer (some ⟨p, 0, none⟩), .int .i64 n] w fun e w' => e = .returned (.tuple #[]) ∧ Own w0 (LgP p (lgFail s n) * R) w' := by
  obtain ⟨hv, ho⟩ := h.lg_open
  obtain ⟨c0, c1, c2, c3, c4, cf⟩ := ho.lg_facts
  have HO2 : Hid (Own w0 (LgP p (lgFail s n) * R) (w.setCell ⟨p, 3, none⟩ (.int .i64 (max (-1) n)))) := Lib.hid (Own.lg_close (ho.lg_set 3 (.int .i64 (max (-1) n)) rfl rfl (by simp [Array.setIfInBounds, lgFail])))
  clear ho
  have H := Lib.hid h
  clear h
  go_enter Tryd.func13, Tryd.ntmps13
  go_wp2
  go_end0
  exact ⟨rfl, HO2.out⟩
set_option maxRecDepth 100000 in
set_option maxHeartbeats 4000000 in
theorem lgSync_any {w0 w : World} {R : HProp} (p : Nat) (s : Lg) (hI : LgI s) (h : Own w0 (LgP p s * R) w) :
    Calls Tryd.prog 14 #[.pointer (some ⟨p, 0, none⟩)] w fun e w' => e = .returned (errV (lgSyncErr s)) ∧ Own w0 (LgP p (lgSync s) * R) w' := by
  obtain ⟨hv, ho⟩ := h.lg_open
  obtain ⟨c0, c1, c2, c3, c4, cf⟩ := ho.lg_facts
  have HO := Lib.hid ho
  clear ho
  cases hst : s.st
  rotate_left
  · have h1 : lgSync s = s := by unfold lgSync; rw [if_pos hst]
    have h2 : lgSyncErr s = 6 := by unfold lgSyncErr; rw [if_pos (.inl hst)]
    rw [hst] at c4
    rw [h1, h2]
    have H := Lib.hid h; have HI := Lib.hid hI; have HST := Lib.hid hst; have H1 := Lib.hid h1; have H2 := Lib.hid h2
    clear h hI hst h1 h2
    go_enter Tryd.func14, Tryd.ntmps14
    go_wp2
    go_ret
    exact ⟨rfl, H.out⟩
  rw [hst] at c4
  obtain ⟨D, hD⟩ : ∃ D, decide (s.left = 0) = D := ⟨_, rfl⟩
  have hl := hI.left
  have hsz := strL_size (lgStep s).bs
  cases D
  rotate_left
  · have hz : s.left = 0 := by simpa using hD
    have h1 : lgSync s = lgStep s := by unfold lgSync lgStep dec1; rw [if_neg (by rw [hst]; simp), if_pos hz, hz]; rfl
    have h2 : lgSyncErr s = 6 := by unfold lgSyncErr; rw [if_pos (.inr hz)]
    rw [h1, h2]
    have H := Lib.hid h; have HI := Lib.hid hI; have HST := Lib.hid hst; have H1 := Lib.hid h1; have H2 := Lib.hid h2; have HZ := Lib.hid hz; have HL := Lib.hid hl; have HSZ := Lib.hid hsz
    clear h hI hst h1 h2 hz hl hsz
    go_enter Tryd.func14, Tryd.ntmps14
    go_wp2_with fail
    refine (lgStep_any p hv s HL.out HO.out).mono ?_
    rintro e w2 ⟨rfl, ho⟩
    rw [hD]
    have HO2 := Lib.hid ho
    clear ho
    go_wp2
    go_ret
    exact ⟨rfl, Own.lg_close HO2.out⟩
  · have hz : ¬ s.left = 0 := by simpa using hD
    have h1 : lgSync s = { lgStep s with safe := s.bs.length } := by unfold lgSync lgStep; rw [if_neg (by rw [hst]; simp), if_neg hz, hD]
    have h2 : lgSyncErr s = 0 := by unfold lgSyncErr; rw [if_neg (by rw [hst]; simp [hz])]
    rw [h1, h2]
    have H := Lib.hid h; have HI := Lib.hid hI; have HST := Lib.hid hst; have H1 := Lib.hid h1; have H2 := Lib.hid h2; have HZ := Lib.hid hz; have HL := Lib.hid hl
    clear h hI hst h1 h2 hz hl
    go_enter Tryd.func14, Tryd.ntmps14
    go_wp2_with fail
    refine (lgStep_any p hv s HL.out HO.out).mono ?_
    rintro e w2 ⟨rfl, ho⟩
    rw [hD]
    obtain ⟨d0, d1, d2, d3, d4, df⟩ := ho.lg_facts
    have HO2 : Hid (Own w0 (LgP p { lgStep s with safe := s.bs.length } * R) (w2.setCell ⟨p, 2, none⟩ (.int .i64 (s.bs.length : Nat)))) := Lib.hid (Own.lg_close (ho.lg_set 2 (.int .i64 (s.bs.length : Nat)) rfl rfl (by simp [Array.setIfInBounds])))
    obtain ⟨B, hB⟩ : ∃ B, B = strL (lgStep s).bs := ⟨_, rfl⟩
    rw [← hB] at d1 hsz
    rw [show (lgStep s).bs = s.bs from rfl] at hsz
    clear ho hB
    go_wp2
    go_ret
    exact ⟨rfl, HO2.out⟩
end Go.Proofs.YtljlnhbndkdlcaaDoor
/- Package log: Do. -/
namespace Go.Proofs.YtljlnhbndkdlcaaDoor
set_option linter.unusedVariables false
set_option linter.unusedSimpArgs false
open Go.RowKit
theorem strL_app (a b : List UInt8) : strL a ++ strL b = strL (a ++ b) := by
  apply ByteArray.ext; simp [strL]
theorem strL_take (a : List UInt8) (k : Nat) : (strL a).extract 0 k = strL (a.take k) := by
  apply ByteArray.ext; simp [strL, List.extract_eq_take_drop]
theorem digB_L (i : Nat) : digB i = strL (Lib.decDigits i) := rfl
theorem line_is (a b c : Nat) : (((((digB a ++ ⟨#[32]⟩) ++ digB b) ++ ⟨#[32]⟩) ++ digB c) ++ ⟨#[10]⟩ : ByteArray) = strL (encE ((a : Int), (b : Int), (c : Int))) := by
  have e1 : (⟨#[32]⟩ : ByteArray) = strL [32] := rfl
  have e2 : (⟨#[10]⟩ : ByteArray) = strL [10] := rfl
  rw [e1, e2, digB_L, digB_L, digB_L, strL_app, strL_app, strL_app, strL_app, strL_app]
  rfl
/-- The line of an event. -/
noncomputable def lgLine_code : Code := ((Tryd.f8.body.bind (findRegion 7)).getD .skip)
set_option maxRecDepth 1000000 in
set_option maxHeartbeats 4000000 in
theorem lgLine {Q : Exit → Act → World → Prop} {u0 u1 u2 u4 u5 u6 u7 u8 u9 u10 u11 u12 u13 u14 u15 u16 u17 u18 u19 u20 u21 u22 u23 u24 u25 u26 u27 u28 u29 u30 u31 u32 u33 u34 u35 u36 u37 u38 u39 u40 u41 u42 u43 u44 u45 u46 u47 u48 u49 u50 u51 u52 u53 u54 u55 u56 u57 u58 u59 u60 u61 u62 u63 u64 u65 u66 : Value} {w1 : World} (b1 a b c : Nat) (ha : a < 100) (hb : b < 100) (hc : c < 100) (x0 : w1.cell? ⟨b1, 0, none⟩ = some (.int .i64 (a : Int))) (x1 : w1.cell? ⟨b1, 1, none⟩ = some (.int .i64 (b : Int))) (x2 : w1.cell? ⟨b1, 2, none⟩ = some (.int .i64 (c : Int)))
    (hK : ∀ (v7 v26 v27 v28 v29 v30 v31 v32 v33 v34 v35 v36 v37 v38 v39 : Value) (wx : World), (v7 = .string (strL (encE ((a : Int), (b : Int), (c : Int)))) ∧ wx = w1.drew) → Q .normal ⟨List.toArray (u0 :: u1 :: u2 :: (.pointer (some ⟨b1, 0, none⟩)) :: u4 :: u5 :: u6 :: v7 :: u8 :: u9 :: u10 :: u11 :: u12 :: u13 :: u14 :: u15 :: u16 :: u17 :: u18 :: u19 :: u20 :: u21 :: u22 :: u23 :: u24 :: u25 :: v26 :: v27 :: v28 :: v29 :: v30 :: v31 :: v32 :: v33 :: v34 :: v35 :: v36 :: v37 :: v38 :: v39 :: u40 :: u41 :: u42 :: u43 :: u44 :: u45 :: u46 :: u47 :: u48 :: u49 :: u50 :: u51 :: u52 :: u53 :: u54 :: u55 :: u56 :: u57 :: u58 :: u59 :: u60 :: u61 :: u62 :: u63 :: u64 :: u65 :: u66 :: []), []⟩ wx) :
    Code.wp Tryd.prog lgLine_code Q ⟨List.toArray (u0 :: u1 :: u2 :: (.pointer (some ⟨b1, 0, none⟩)) :: u4 :: u5 :: u6 :: u7 :: u8 :: u9 :: u10 :: u11 :: u12 :: u13 :: u14 :: u15 :: u16 :: u17 :: u18 :: u19 :: u20 :: u21 :: u22 :: u23 :: u24 :: u25 :: u26 :: u27 :: u28 :: u29 :: u30 :: u31 :: u32 :: u33 :: u34 :: u35 :: u36 :: u37 :: u38 :: u39 :: u40 :: u41 :: u42 :: u43 :: u44 :: u45 :: u46 :: u47 :: u48 :: u49 :: u50 :: u51 :: u52 :: u53 :: u54 :: u55 :: u56 :: u57 :: u58 :: u59 :: u60 :: u61 :: u62 :: u63 :: u64 :: u65 :: u66 :: []), []⟩ w1 := by
  conv => arg 2; whnf
  have HK := Lib.hid hK
  clear hK
  have da := dig_len a ha
  have db := dig_len b hb
  have dc := dig_len c hc
  have sa : (digB a).size = (Lib.decDigits a).length := by simp [digB, ByteArray.size]
  have sb : (digB b).size = (Lib.decDigits b).length := by simp [digB, ByteArray.size]
  have sc : (digB c).size = (Lib.decDigits c).length := by simp [digB, ByteArray.size]
  have hln := line_is a b c
  have HIA : Hid (∀ w, Calls Tryd.prog 31 #[.int .i64 (a : Int)] w fun e w' => e = .returned (.string (digB a)) ∧ w = w') := Lib.hid (fun w => stItoa a ha w)
  have HIB : Hid (∀ w, Calls Tryd.prog 31 #[.int .i64 (b : Int)] w fun e w' => e = .returned (.string (digB b)) ∧ w = w') := Lib.hid (fun w => stItoa b hb w)
  have HIC : Hid (∀ w, Calls Tryd.prog 31 #[.int .i64 (c : Int)] w fun e w' => e = .returned (.string (digB c)) ∧ w = w') := Lib.hid (fun w => stItoa c hc w)
  obtain ⟨A, hA⟩ : ∃ A, A = digB a := ⟨_, rfl⟩
  obtain ⟨B, hB⟩ : ∃ A, A = digB b := ⟨_, rfl⟩
  obtain ⟨C, hC⟩ : ∃ A, A = digB c := ⟨_, rfl⟩
  rw [← hA] at sa hln HIA
  rw [← hB] at sb hln HIB
  rw [← hC] at sc hln HIC
  have s32 : (⟨#[32]⟩ : ByteArray).size = 1 := rfl
  have s10 : (⟨#[10]⟩ : ByteArray).size = 1 := rfl
  have had1 : ∀ w : World, (Op.stringOp .add A ⟨#[32]⟩).run Tryd.prog w = .ok (.string (A ++ ⟨#[32]⟩)) w := fun w => run_string_add_sum _ _ _ (by omega)
  obtain ⟨A1, hA1⟩ : ∃ X, X = A ++ ⟨#[32]⟩ := ⟨_, rfl⟩
  have sA1 : A1.size ≤ 3 := by rw [hA1, ByteArray.size_append]; omega
  rw [← hA1] at had1 hln
  have had2 : ∀ w : World, (Op.stringOp .add A1 B).run Tryd.prog w = .ok (.string (A1 ++ B)) w := fun w => run_string_add_sum _ _ _ (by omega)
  obtain ⟨A2, hA2⟩ : ∃ X, X = A1 ++ B := ⟨_, rfl⟩
  have sA2 : A2.size ≤ 5 := by rw [hA2, ByteArray.size_append]; omega
  rw [← hA2] at had2 hln
  have had3 : ∀ w : World, (Op.stringOp .add A2 ⟨#[32]⟩).run Tryd.prog w = .ok (.string (A2 ++ ⟨#[32]⟩)) w := fun w => run_string_add_sum _ _ _ (by omega)
  obtain ⟨A3, hA3⟩ : ∃ X, X = A2 ++ ⟨#[32]⟩ := ⟨_, rfl⟩
  have sA3 : A3.size ≤ 6 := by rw [hA3, ByteArray.size_append]; omega
  rw [← hA3] at had3 hln
  have had4 : ∀ w : World, (Op.stringOp .add A3 C).run Tryd.prog w = .ok (.string (A3 ++ C)) w := fun w => run_string_add_sum _ _ _ (by omega)
  obtain ⟨A4, hA4⟩ : ∃ X, X = A3 ++ C := ⟨_, rfl⟩
  have sA4 : A4.size ≤ 8 := by rw [hA4, ByteArray.size_append]; omega
  rw [← hA4] at had4 hln
  have had5 : ∀ w : World, (Op.stringOp .add A4 ⟨#[10]⟩).run Tryd.prog w = .ok (.string (A4 ++ ⟨#[10]⟩)) w := fun w => run_string_add_sum _ _ _ (by omega)
  rw [hln] at had5
  obtain ⟨S, hS⟩ : ∃ S, S = strL (encE ((a : Int), (b : Int), (c : Int))) := ⟨_, rfl⟩
  rw [← hS] at had5 HK
  clear hA hB hC hA1 hA2 hA3 hA4 sA1 sA2 sA3 sA4 s32 s10 sa sb sc da db dc hln ha hb hc hS
  refine wp_region_planH 14 [] [(true, 0), (true, 1), (true, 4), (true, 5), (true, 9), (true, 10), (false, 2), (true, 3), (false, 6), (true, 7), (true, 8), (false, 11), (true, 12), (true, 13)] [14] (fun wS => wS = w1.drew) (by kernel_rfl) (by kernel_rfl) (rfl) ?_
  simp only [pickH, pick, List.getElem?_cons_succ, List.getElem?_cons_zero, Option.toList, Option.map_some, List.cons_append, List.nil_append]
  repeat (refine wpPure_step ?_ rfl ?_ ?_; rotate_left; (focus (intro _; first | with_reducible rfl | (go_simp; done) | (go_simp; with_reducible rfl) | rfl)); go_simp)
  refine wpPure_nil ?_
  repeat (refine wpMix_read ?_ rfl ?_ ?_; rotate_left; (focus (intro _ hS; obtain rfl := hS; first | with_reducible rfl | (go_simp; done) | (go_simp; with_reducible rfl) | rfl)); go_simp)
  refine wpMix_write (fun K hK => ?_)
  go_simp
  refine (HIA.out _).mono ?_
  rintro e w' ⟨rfl, rfl⟩
  refine hK _ _ ⟨rfl, ?_⟩
  clear hK K
  go_simp
  repeat (refine wpMix_read ?_ rfl ?_ ?_; rotate_left; (focus (intro _ hS; obtain rfl := hS; first | with_reducible rfl | (go_simp; done) | (go_simp; with_reducible rfl) | rfl)); go_simp)
  refine wpMix_write (fun K hK => ?_)
  go_simp
  refine (HIB.out _).mono ?_
  rintro e w' ⟨rfl, rfl⟩
  refine hK _ _ ⟨rfl, ?_⟩
  clear hK K
  go_simp
  repeat (refine wpMix_read ?_ rfl ?_ ?_; rotate_left; (focus (intro _ hS; obtain rfl := hS; first | with_reducible rfl | (go_simp; done) | (go_simp; with_reducible rfl) | rfl)); go_simp)
  refine wpMix_write (fun K hK => ?_)
  go_simp
  refine (HIC.out _).mono ?_
  rintro e w' ⟨rfl, rfl⟩
  refine hK _ _ ⟨rfl, ?_⟩
  clear hK K
  go_simp
  repeat (refine wpMix_read ?_ rfl ?_ ?_; rotate_left; (focus (intro _ hS; obtain rfl := hS; first | with_reducible rfl | (go_simp; done) | (go_simp; with_reducible rfl) | rfl)); go_simp)
  refine wpMix_nil ?_
  go_wp2_with fail
  refine NoPanic.normal ?_
  apply HK.out
  exact ⟨rfl, rfl⟩
end Go.Proofs.YtljlnhbndkdlcaaDoor
