/- Contracts of package cause, continued: the first word of a row of which something is so. -/
import Derived.Test.YtldmdenojpnldaaDoorCause3
import Derived.Test.YtldmdenojpnldaaDoorHist3
namespace Go.Proofs.YtldmdenojpnldaaDoor
set_option linter.unusedVariables false
set_option linter.unusedSimpArgs false
open Go.RowKit
def sdV (r : SdR) : Value := .agg #[.int .i64 r.2.who, .int .i64 r.2.word, r.1]
/-- A row's words as every world shows them that owns R. -/
def SdAt (w0 : World) (R : HProp) (sb so : Nat) (rows : List SdR) : Prop := ∀ w', Own w0 R w' → ∀ (k : Nat) (h : k < rows.length), w'.cell? ⟨sb, so + k * 3, none⟩ = some (.int .i64 rows[k].2.who) ∧ w'.cell? ⟨sb, so + k * 3 + 1, none⟩ = some (.int .i64 rows[k].2.word) ∧ w'.cell? ⟨sb, so + k * 3 + 2, none⟩ = some rows[k].1
set_option maxRecDepth 100000 in
set_option maxHeartbeats 4000000 in
theorem sdIx_any {w0 w : World} {R : HProp} (fid : FuncId) (c : Value) (p : SdR → Bool) (sb so cap : Nat) (rows : List SdR) (h : Own w0 R w) (hc1 : rows.length ≤ cap) (hc2 : cap ≤ 9223372036854775807) (ha : SdAt w0 R sb so rows) (hcf : ∀ a w, Sem.run Tryd.prog (callFunc fid a) w = .ok (.enter fid a) w) (hf : ∀ k (_ : k < rows.length) w, Own w0 R w → Calls Tryd.prog fid #[c, sdV rows[k]] w fun e w' => e = .returned (.bool (p rows[k])) ∧ Own w0 R w') :
    Calls Tryd.prog 66 #[.slice (some ⟨sb, so, none⟩) rows.length cap, .func (.func fid) #[c] #[]] w fun e w' => e = .returned (.int .i64 (whereI p rows)) ∧ Own w0 R w' := by
  have H := Lib.hid h; have HA := Lib.hid ha; have HF := Lib.hid hf; have HCF := Lib.hid hcf
  clear h ha hf hcf
  go_enter Tryd.func66, Tryd.ntmps66
  go_wp2_with fail
  go_loopw [8] (fun i wr => ∃ k : Nat, k ≤ rows.length ∧ i = .int .i64 k ∧ Hid (Own w0 R wr) ∧ Hid (∀ j (_ : j < k) (h : j < rows.length), p rows[j] = false)) (fun i _ => rows.length - (intOf i).toNat)
  case atStart => exact ⟨0, Nat.zero_le _, rfl, H, Lib.hid (fun j h => by omega)⟩
  case round =>
    obtain ⟨k, hk, rfl, HO, hp⟩ := hrel
    by_cases hlt : k < rows.length
    rotate_left
    · have hm : whereI p rows = -1 := whereI_miss _ rows (fun j h => hp.out j (by omega) h)
      have HM := Lib.hid hm
      clear hm
      go_wp2
      go_ret
      exact ⟨by rw [HM.out]; rfl, HO.out⟩
    obtain ⟨x0, x1, x2⟩ := HA.out _ HO.out k hlt
    have hfk := HF.out k hlt
    obtain ⟨x, hx⟩ : ∃ x, x = rows[k] := ⟨_, rfl⟩
    rw [← hx] at x0 x1 x2 hfk
    unfold sdV at hfk
    cases hs : p x
    · have hn : ∀ j (_ : j < k + 1) (h : j < rows.length), p rows[j] = false := fun j h1 h2 => by
        by_cases e : j = k
        · subst e; rw [← hx]; exact hs
        · exact hp.out j (by omega) h2
      have HFK := Lib.hid hfk
      clear hfk
      have HN := Lib.hid hn; have HX := Lib.hid hx
      clear hn hx
      go_wp2_with fail
      rw [HCF.out]
      go_wp2_with fail
      refine (HFK.out _ HO.out).mono ?_
      rintro e w' ⟨rfl, ho⟩
      rw [hs]
      have HO2 := Lib.hid ho
      clear ho x0 x1 x2
      go_wp2
      go_round
      case rel => exact ⟨k + 1, by omega, by go_num, HO2, HN⟩
      case measure => simp [intOf]; omega
    · have hm : whereI p rows = k := whereI_hit _ rows k hlt (fun j h => hp.out j h (by omega)) (by rw [← hx]; exact hs)
      have HFK := Lib.hid hfk
      clear hfk
      have HM := Lib.hid hm; have HX := Lib.hid hx
      clear hm hx
      go_wp2_with fail
      rw [HCF.out]
      go_wp2_with fail
      refine (HFK.out _ HO.out).mono ?_
      rintro e w' ⟨rfl, ho⟩
      rw [hs]
      have HO2 := Lib.hid ho
      clear ho x0 x1 x2
      go_wp2
      go_ret
      exact ⟨by rw [HM.out]; rfl, HO2.out⟩
set_option maxRecDepth 100000 in
set_option maxHeartbeats 4000000 in
theorem sdIxC_any {w0 w : World} {R : HProp} (fid : FuncId) (c1 c2 : Value) (p : SdR → Bool) (sb so cap : Nat) (rows : List SdR) (h : Own w0 R w) (hc1 : rows.length ≤ cap) (hc2 : cap ≤ 9223372036854775807) (ha : SdAt w0 R sb so rows) (hcf : ∀ a w, Sem.run Tryd.prog (callFunc fid a) w = .ok (.enter fid a) w) (hf : ∀ k (_ : k < rows.length) w, Own w0 R w → Calls Tryd.prog fid #[sdV rows[k], c1, c2] w fun e w' => e = .returned (.bool (p rows[k])) ∧ Own w0 R w') :
    Calls Tryd.prog 66 #[.slice (some ⟨sb, so, none⟩) rows.length cap, .func (.func fid) #[] #[c1, c2]] w fun e w' => e = .returned (.int .i64 (whereI p rows)) ∧ Own w0 R w' := by
  have H := Lib.hid h; have HA := Lib.hid ha; have HF := Lib.hid hf; have HCF := Lib.hid hcf
  clear h ha hf hcf
  go_enter Tryd.func66, Tryd.ntmps66
  go_wp2_with fail
  go_loopw [8] (fun i wr => ∃ k : Nat, k ≤ rows.length ∧ i = .int .i64 k ∧ Hid (Own w0 R wr) ∧ Hid (∀ j (_ : j < k) (h : j < rows.length), p rows[j] = false)) (fun i _ => rows.length - (intOf i).toNat)
  case atStart => exact ⟨0, Nat.zero_le _, rfl, H, Lib.hid (fun j h => by omega)⟩
  case round =>
    obtain ⟨k, hk, rfl, HO, hp⟩ := hrel
    by_cases hlt : k < rows.length
    rotate_left
    · have hm : whereI p rows = -1 := whereI_miss _ rows (fun j h => hp.out j (by omega) h)
      have HM := Lib.hid hm
      clear hm
      go_wp2
      go_ret
      exact ⟨by rw [HM.out]; rfl, HO.out⟩
    obtain ⟨x0, x1, x2⟩ := HA.out _ HO.out k hlt
    have hfk := HF.out k hlt
    obtain ⟨x, hx⟩ : ∃ x, x = rows[k] := ⟨_, rfl⟩
    rw [← hx] at x0 x1 x2 hfk
    unfold sdV at hfk
    cases hs : p x
    · have hn : ∀ j (_ : j < k + 1) (h : j < rows.length), p rows[j] = false := fun j h1 h2 => by
        by_cases e : j = k
        · subst e; rw [← hx]; exact hs
        · exact hp.out j (by omega) h2
      have HFK := Lib.hid hfk
      clear hfk
      have HN := Lib.hid hn; have HX := Lib.hid hx
      clear hn hx
      go_wp2_with fail
      rw [HCF.out]
      go_wp2_with fail
      refine (HFK.out _ HO.out).mono ?_
      rintro e w' ⟨rfl, ho⟩
      rw [hs]
      have HO2 := Lib.hid ho
      clear ho x0 x1 x2
      go_wp2
      go_round
      case rel => exact ⟨k + 1, by omega, by go_num, HO2, HN⟩
      case measure => simp [intOf]; omega
    · have hm : whereI p rows = k := whereI_hit _ rows k hlt (fun j h => hp.out j h (by omega)) (by rw [← hx]; exact hs)
      have HFK := Lib.hid hfk
      clear hfk
      have HM := Lib.hid hm; have HX := Lib.hid hx
      clear hm hx
      go_wp2_with fail
      rw [HCF.out]
      go_wp2_with fail
      refine (HFK.out _ HO.out).mono ?_
      rintro e w' ⟨rfl, ho⟩
      rw [hs]
      have HO2 := Lib.hid ho
      clear ho x0 x1 x2
      go_wp2
      go_ret
      exact ⟨by rw [HM.out]; rfl, HO2.out⟩
set_option maxRecDepth 100000 in
set_option maxHeartbeats 4000000 in
theorem sdHas_any {w0 w : World} {R : HProp} (fid : FuncId) (c1 c2 : Value) (p : SdR → Bool) (sb so cap : Nat) (rows : List SdR) (h : Own w0 R w) (hc1 : rows.length ≤ cap) (hc2 : cap ≤ 9223372036854775807) (ha : SdAt w0 R sb so rows) (hcf : ∀ a w, Sem.run Tryd.prog (callFunc fid a) w = .ok (.enter fid a) w) (hf : ∀ k (_ : k < rows.length) w, Own w0 R w → Calls Tryd.prog fid #[sdV rows[k], c1, c2] w fun e w' => e = .returned (.bool (p rows[k])) ∧ Own w0 R w') :
    Calls Tryd.prog 90 #[.slice (some ⟨sb, so, none⟩) rows.length cap, .func (.func fid) #[] #[c1, c2]] w fun e w' => e = .returned (.bool (rows.any p)) ∧ Own w0 R w' := by
  have hd : decide ((0 : Int) ≤ whereI p rows) = rows.any p := by rw [Bool.eq_iff_iff]; simpa using whereI_any p rows
  have H := Lib.hid h; have HA := Lib.hid ha; have HF := Lib.hid hf; have HD := Lib.hid hd; have HCF := Lib.hid hcf
  clear h ha hf hd hcf
  go_enter Tryd.func90, Tryd.ntmps90
  go_wp2_with fail
  refine (sdIxC_any fid c1 c2 p sb so cap rows H.out hc1 hc2 HA.out HCF.out HF.out).mono ?_
  rintro e w' ⟨rfl, ho⟩
  have HO2 := Lib.hid ho
  clear ho
  go_wp2
  go_ret
  exact ⟨by rw [← HD.out]; rfl, HO2.out⟩
end Go.Proofs.YtldmdenojpnldaaDoor
