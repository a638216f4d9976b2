/- Contracts of package history, continued: what is wrong with a history. -/
import Derived.Test.YtdeeephdojflpaaDoorHist2
namespace Go.Proofs.YtdeeephdojflpaaDoor
set_option linter.unusedVariables false
set_option linter.unusedSimpArgs false
open Go.RowKit
theorem histGo_cons (ahead : List Ev) (x : Ev) (r : List Ev) : histGo ahead (x :: r) = if evErr ahead x ≠ 0 then (ahead.length, evErr ahead x) else histGo (ahead ++ [x]) r := rfl
theorem histGo_step {l : List Ev} {k : Nat} (hk : k < l.length) : histGo (l.take k) (l.drop k) = if evErr (l.take k) (evAt l k) ≠ 0 then (k, evErr (l.take k) (evAt l k)) else histGo (l.take (k + 1)) (l.drop (k + 1)) := by
  have hev : evAt l k = l[k] := by unfold evAt; rw [List.getD_eq_getElem?_getD, List.getElem?_eq_getElem hk]; rfl
  rw [List.drop_eq_getElem_cons hk, hev, histGo_cons, show (l.take k).length = k by simp; omega, ← List.take_succ_eq_append_getElem hk]
theorem errV_ne {E : Nat} (h : E ≠ 0) : errV E = .iface 129 (.int .i64 (E : Int)) := by
  obtain ⟨k, rfl⟩ : ∃ k, E = k + 1 := ⟨E - 1, by omega⟩
  rfl
set_option maxRecDepth 100000 in
set_option maxHeartbeats 4000000 in
theorem fnIndex_any {w0 w : World} {R : HProp} (fid : FuncId) (c : Value) (p : Int → Bool) (v : Value) (l : List Int) (h : Own w0 R w) (hl : Reads w0 R v l) (hcf : ∀ a w, Sem.run Tryd.prog (callFunc fid a) w = .ok (.enter fid a) w) (hf : ∀ x w, Own w0 R w → Calls Tryd.prog fid #[.int .i64 x, c] w fun e w' => e = .returned (.bool (p x)) ∧ Own w0 R w') :
    Calls Tryd.prog 101 #[v, .func (.func fid) #[] #[c]] w fun e w' => e = .returned (.int .i64 (whereI p l)) ∧ Own w0 R w' := by
  obtain ⟨ad, cap, rfl, hlc, hcap⟩ := (hl _ h).shape
  have H := Lib.hid h; have HL := Lib.hid hl; have HF := Lib.hid hf; have HCF := Lib.hid hcf
  clear h hl hf hcf
  go_enter Tryd.func101, Tryd.ntmps101
  go_wp2_with fail
  go_loopw [8] (fun i wr => ∃ k : Nat, k ≤ l.length ∧ i = .int .i64 k ∧ Hid (Own w0 R wr) ∧ Hid (∀ j (_ : j < k) (h : j < l.length), p l[j] = false)) (fun i _ => l.length - (intOf i).toNat)
  case atStart => exact ⟨0, Nat.zero_le _, rfl, H, Lib.hid (fun j h => by omega)⟩
  case round =>
    obtain ⟨k, hk, rfl, HO, hp⟩ := hrel
    by_cases hlt : k < l.length
    rotate_left
    · have hm : whereI p l = -1 := whereI_miss _ l (fun j h => hp.out j (by omega) h)
      have HM := Lib.hid hm
      clear hm
      go_wp2
      go_ret
      exact ⟨by rw [HM.out]; rfl, HO.out⟩
    obtain ⟨aa, rfl, hca⟩ := (HL.out _ HO.out).at k hlt
    obtain ⟨x, hx⟩ : ∃ x, x = l[k] := ⟨_, rfl⟩
    rw [← hx] at hca
    cases hs : p x
    · have hn : ∀ j (_ : j < k + 1) (h : j < l.length), p l[j] = false := fun j h1 h2 => by
        by_cases e : j = k
        · subst e; rw [← hx]; exact hs
        · exact hp.out j (by omega) h2
      have HN := Lib.hid hn; have HX := Lib.hid hx
      clear hn hx
      go_wp2_with fail
      rw [HCF.out]
      go_wp2_with fail
      refine (HF.out x _ HO.out).mono ?_
      rintro e w' ⟨rfl, ho⟩
      rw [hs]
      have HO2 := Lib.hid ho
      clear ho hca
      go_wp2
      go_round
      case rel => exact ⟨k + 1, by omega, by go_num, HO2, HN⟩
      case measure => simp [intOf]; omega
    · have hm : whereI p l = k := whereI_hit _ l k hlt (fun j h => hp.out j h (by omega)) (by rw [← hx]; exact hs)
      have HM := Lib.hid hm; have HX := Lib.hid hx
      clear hm hx
      go_wp2_with fail
      rw [HCF.out]
      go_wp2_with fail
      refine (HF.out x _ HO.out).mono ?_
      rintro e w' ⟨rfl, ho⟩
      rw [hs]
      have HO2 := Lib.hid ho
      clear ho hca
      go_wp2
      go_ret
      exact ⟨by rw [HM.out]; rfl, HO2.out⟩
set_option maxRecDepth 100000 in
set_option maxHeartbeats 4000000 in
theorem fnContains_any {w0 w : World} {R : HProp} (fid : FuncId) (c : Value) (p : Int → Bool) (v : Value) (l : List Int) (h : Own w0 R w) (hl : Reads w0 R v l) (hcf : ∀ a w, Sem.run Tryd.prog (callFunc fid a) w = .ok (.enter fid a) w) (hf : ∀ x w, Own w0 R w → Calls Tryd.prog fid #[.int .i64 x, c] w fun e w' => e = .returned (.bool (p x)) ∧ Own w0 R w') :
    Calls Tryd.prog 84 #[v, .func (.func fid) #[] #[c]] w fun e w' => e = .returned (.bool (l.any p)) ∧ Own w0 R w' := by
  have hd : decide ((0 : Int) ≤ whereI p l) = l.any p := by rw [Bool.eq_iff_iff]; simpa using whereI_any p l
  have H := Lib.hid h; have HL := Lib.hid hl; have HF := Lib.hid hf; have HD := Lib.hid hd; have HCF := Lib.hid hcf
  clear h hl hf hd hcf
  go_enter Tryd.func84, Tryd.ntmps84
  go_wp2_with fail
  refine (fnIndex_any fid c p v l H.out HL.out HCF.out HF.out).mono ?_
  rintro e w' ⟨rfl, ho⟩
  have HO2 := Lib.hid ho
  clear ho
  go_wp2
  go_ret
  exact ⟨by rw [← HD.out]; rfl, HO2.out⟩
def insideB (n : Nat) (i : Int) : Bool := decide (i < 0) || decide ((n : Int) ≤ i)
end Go.Proofs.YtdeeephdojflpaaDoor
