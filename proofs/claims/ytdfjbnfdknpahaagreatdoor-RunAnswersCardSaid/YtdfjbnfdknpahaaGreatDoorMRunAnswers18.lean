/- Package cast: a group as it lies in memory; New. -/
import Derived.Test.YtdfjbnfdknpahaaGreatDoorMRunAnswers16
import Derived.Test.YtdfjbnfdknpahaaGreatDoorMRunAnswers6
import Derived.Test.YtdfjbnfdknpahaaGreatDoorMRunAnswers17
import Derived.Test.YtdfjbnfdknpahaaGreatDoorMRunAnswers9
import Derived.Deep.DeepCutAuto
import Derived.Deep.CutBlock
import Derived.Test.YtdfjbnfdknpahaaGreatDoorMRunAnswers5
import Derived.Test.YtdfjbnfdknpahaaGreatDoorMRunAnswers13
import Derived.Test.YtdfjbnfdknpahaaGreatDoorMRunAnswers0
import Derived.Test.YtdfjbnfdknpahaaGreatDoorProg
import Derived.Lib.Itoa
import Derived.Lib.ItoaNum
import Derived.Lib.ItoaWalk
import Derived.Lib.LastIndexByte
import Derived.Lib.Bytealg
import Derived.Lib.Strings
import Derived.Lib.Walk
import Derived.Test.YtdfjbnfdknpahaaGreatDoorMRunAnswers7
namespace Go.Proofs.YtdfjbnfdknpahaaGreatDoor
set_option linter.unusedVariables false
set_option linter.unusedSimpArgs false
open Go.RowKit Go.Maps
abbrev CmR := Nat × Ca
def cmV (r : CmR) : Value := .pointer (some ⟨r.1, 0, none⟩)
def cmP (r : CmR) : HProp := CwP r.1 r.2
abbrev SRow := Int × SdR
abbrev sK : Int → Value := fun n => Value.int .i64 n
abbrev csHd (p nb sb : Nat) (mv hv : Value) : HProp := blk p (.cells #[mv, .pointer (some ⟨nb, 0, none⟩), .map (some sb), hv] 96 (0, 0))
def nilSdR : SdR := (.slice none 0 0, nilSd)
theorem sdRow_nil : sdRow nilSdR = emp := Sl_nil _ _
def CsO (p rb off cap nb sb : Nat) (hv : Value) (rs : List CmR) (ss : List SRow) (c : Cs) : HProp :=
  csHd p nb sb (.slice (some ⟨rb, off, none⟩) rs.length cap) hv * (TabO cmP cmV 97 rb off cap rs * (NtP nb c.net * (MpS sK I64 sdRow sdV sb ss * EvSl hv c.hist)))
def csIs (rs : List CmR) (ss : List SRow) (c : Cs) : Prop := rs.map (·.2) = c.mem ∧ mvals (fun r : SdR => r.2) ss = c.said
def CsP (p : Nat) (c : Cs) : HProp := hex fun (x : (Nat × Nat × Nat × Nat × Nat) × Value × List CmR × List SRow) => pur (csIs x.2.2.1 x.2.2.2 c) * CsO p x.1.1 x.1.2.1 x.1.2.2.1 x.1.2.2.2.1 x.1.2.2.2.2 x.2.1 x.2.2.1 x.2.2.2 c
theorem Own.cs_open {w0 w : World} {p : Nat} {c : Cs} {R : HProp} (h : Own w0 (CsP p c * R) w) : ∃ rb off cap nb sb hv rs ss, csIs rs ss c ∧ Own w0 (CsO p rb off cap nb sb hv rs ss c * R) w := by
  obtain ⟨⟨⟨rb, off, cap, nb, sb⟩, hv, rs, ss⟩, h⟩ := Own.ex h
  rw [star_assoc] at h
  obtain ⟨he, h⟩ := Own.pur_out h
  exact ⟨rb, off, cap, nb, sb, hv, rs, ss, he, h⟩
theorem Own.cs_close {w0 w : World} {p rb off cap nb sb : Nat} {hv : Value} {rs : List CmR} {ss : List SRow} {c : Cs} {R : HProp} (he : csIs rs ss c) (h : Own w0 (CsO p rb off cap nb sb hv rs ss c * R) w) : Own w0 (CsP p c * R) w := by
  refine Own.ex_mk ((rb, off, cap, nb, sb), hv, rs, ss) ?_
  rw [star_assoc]
  exact Own.pur_mk he h
section
variable {w0 w : World} {p rb off cap nb sb : Nat} {hv : Value} {rs : List CmR} {ss : List SRow} {c : Cs} {R : HProp}
theorem Own.cs_blk (h : Own w0 (CsO p rb off cap nb sb hv rs ss c * R) w) : Own w0 (csHd p nb sb (.slice (some ⟨rb, off, none⟩) rs.length cap) hv * (TabO cmP cmV 97 rb off cap rs * (NtP nb c.net * (MpS sK I64 sdRow sdV sb ss * (EvSl hv c.hist * R))))) w := h.perm (by unfold CsO; ac_rfl)
theorem Own.cs_tab (h : Own w0 (CsO p rb off cap nb sb hv rs ss c * R) w) : Own w0 (TabO cmP cmV 97 rb off cap rs * (csHd p nb sb (.slice (some ⟨rb, off, none⟩) rs.length cap) hv * (NtP nb c.net * (MpS sK I64 sdRow sdV sb ss * (EvSl hv c.hist * R))))) w := h.perm (by unfold CsO; ac_rfl)
theorem Own.cs_net (h : Own w0 (CsO p rb off cap nb sb hv rs ss c * R) w) : Own w0 (NtP nb c.net * (csHd p nb sb (.slice (some ⟨rb, off, none⟩) rs.length cap) hv * (TabO cmP cmV 97 rb off cap rs * (MpS sK I64 sdRow sdV sb ss * (EvSl hv c.hist * R))))) w := h.perm (by unfold CsO; ac_rfl)
theorem Own.cs_map (h : Own w0 (CsO p rb off cap nb sb hv rs ss c * R) w) : Own w0 (MpS sK I64 sdRow sdV sb ss * (csHd p nb sb (.slice (some ⟨rb, off, none⟩) rs.length cap) hv * (TabO cmP cmV 97 rb off cap rs * (NtP nb c.net * (EvSl hv c.hist * R))))) w := h.perm (by unfold CsO; ac_rfl)
theorem Own.cs_hist (h : Own w0 (CsO p rb off cap nb sb hv rs ss c * R) w) : Own w0 (EvSl hv c.hist * (csHd p nb sb (.slice (some ⟨rb, off, none⟩) rs.length cap) hv * (TabO cmP cmV 97 rb off cap rs * (NtP nb c.net * (MpS sK I64 sdRow sdV sb ss * R))))) w := h.perm (by unfold CsO; ac_rfl)
theorem Own.cs_facts (h : Own w0 (CsO p rb off cap nb sb hv rs ss c * R) w) :
    w.cell? ⟨p, 0, none⟩ = some (.slice (some ⟨rb, off, none⟩) rs.length cap) ∧ w.cell? ⟨p, 1, none⟩ = some (.pointer (some ⟨nb, 0, none⟩)) ∧ w.cell? ⟨p, 2, none⟩ = some (.map (some sb)) ∧ w.cell? ⟨p, 3, none⟩ = some hv ∧ (∀ i s, w.frozen? ⟨p, i, s⟩ = false) ∧
    (∀ (i : Nat) r, rs[i]? = some r → w.cell? ⟨rb, off + i, none⟩ = some (cmV r)) ∧ rs.length ≤ cap ∧ cap ≤ maxLen := by
  have h2 := h.cs_tab.tab_facts
  exact ⟨by rw [h.cs_blk.cell]; rfl, by rw [h.cs_blk.cell]; rfl, by rw [h.cs_blk.cell]; rfl, by rw [h.cs_blk.cell]; rfl, fun i s => h.cs_blk.free i s, h2.1, h2.2.2.1, h2.2.2.2⟩
end
theorem csIs_len {rs : List CmR} {ss : List SRow} {c : Cs} (he : csIs rs ss c) : rs.length = c.mem.length := by rw [← he.1, List.length_map]
theorem mapsd_made : ∀ w, (Instr.makeMap 93 none).run Tryz.prog w = .ok (.map (some w.heap.size)) (w.alloc (.map #[] 0)) := fun _ => by kernel_rfl
theorem mapsd_kind : Tryz.prog.underlying 93 = some (.map 3 59) := by kernel_rfl
theorem sd_zero : ∀ w, (zeroValue 59).run Tryz.prog w = .ok (sdV nilSdR) w := fun _ => by kernel_rfl
theorem info_cm : (Tryz.prog.info? 97).map (fun i => (i.zero, i.size, i.bytes)) = some (some (.pointer none), 1, 8) := by kernel_rfl
/-- A group in the making. -/
def CsNn (p nb sb : Nat) (mv : Value) (rs : List CmR) : HProp := csHd p nb sb mv (.slice none 0 0) * (Sl 97 1 mv rs.length (rs.map cmV) * (starL cmP rs * (NtP nb ⟨[], []⟩ * MpS sK I64 sdRow sdV sb [])))
def isGrp (n : Int) : Bool := decide (2 ≤ n) && decide (n ≤ 5)
set_option maxRecDepth 100000 in
set_option maxHeartbeats 4000000 in
theorem castGroup_any (n : Int) (w : World) :
    Calls Tryz.prog 31 #[.int .i64 n] w fun e w' => e = .returned (.bool (isGrp n)) ∧ w = w' := by
  unfold isGrp
  by_cases h1 : 2 ≤ n
  · have t1 : decide ((2 : Int) ≤ n) = true := decide_eq_true h1
    rw [t1, Bool.true_and]
    go_enter Tryz.func31, Tryz.ntmps31
    go_wp2
    go_ret
    exact ⟨rfl, rfl⟩
  · have t1 : decide ((2 : Int) ≤ n) = false := decide_eq_false h1
    rw [t1, Bool.false_and]
    go_enter Tryz.func31, Tryz.ntmps31
    go_wp2
    go_ret
    exact ⟨rfl, rfl⟩
section
variable {w0 w : World} {p nb sb : Nat} {mv : Value} {rs : List CmR} {R : HProp}
theorem csN_open (h : Own w0 (CsNn p nb sb mv rs * R) w) : Own w0 (csHd p nb sb mv (.slice none 0 0) * (Sl 97 1 mv rs.length (rs.map cmV) * (starL cmP rs * (NtP nb ⟨[], []⟩ * (MpS sK I64 sdRow sdV sb [] * R))))) w := h.perm (by unfold CsNn; ac_rfl)
theorem csN_app {q : Nat} {m : Ca} (h : Own w0 (CwP q m * (CsNn p nb sb mv rs * R)) w) : Own w0 (Sl 97 1 mv rs.length (rs.map cmV) * (csHd p nb sb mv (.slice none 0 0) * (starL cmP rs * (NtP nb ⟨[], []⟩ * (MpS sK I64 sdRow sdV sb [] * (CwP q m * R)))))) w := h.perm (by unfold CsNn; ac_rfl)
theorem csN_push {q : Nat} {m : Ca} {v' : Value}
    (h : Own w0 (Sl 97 1 v' (rs.length + 1) (rs.map cmV ++ [.pointer (some ⟨q, 0, none⟩)]) * (csHd p nb sb mv (.slice none 0 0) * (starL cmP rs * (NtP nb ⟨[], []⟩ * (MpS sK I64 sdRow sdV sb [] * (CwP q m * R)))))) w) :
    Own w0 (CsNn p nb sb v' (rs ++ [(q, m)]) * R) (w.setCell ⟨p, 0, none⟩ v') := by
  have h1 := h.second.setCell (i := 0) (v := v')
  refine h1.perm ?_
  unfold CsNn csHd
  rw [starL_snoc, List.length_append, List.map_append]
  simp only [List.length_singleton, List.map_cons, List.map_nil]
  show (blk p (.cells #[v', .pointer (some ⟨nb, 0, none⟩), .map (some sb), .slice none 0 0] 96 (0, 0)) * _ : HProp) = _
  unfold cmV
  rw [show cmP (q, m) = CwP q m from rfl]
  ac_rfl
theorem csN_done {n : Nat} (hn : 0 < rs.length) (hl : rs.map (·.2) = (List.range n).map fun i : Nat => caNew (i : Int)) (h : Own w0 (CsNn p nb sb mv rs * R) w) : Own w0 (CsP p (csNew n) * R) w := by
  obtain ⟨b, off, cap, rfl, h2⟩ := (csN_open h).second.slAt (by simpa using hn)
  refine Own.cs_close (rb := b) (off := off) (cap := cap) (nb := nb) (sb := sb) (hv := .slice none 0 0) (rs := rs) (ss := []) ⟨hl, rfl⟩ ((h2.sl_nil 112 3).perm ?_)
  unfold CsO TabO csHd EvSl
  show _ = _ * (_ * (NtP nb ⟨[], []⟩ * (_ * Sl 112 3 (.slice none 0 0) 0 []))) * R
  ac_rfl
end
set_option maxRecDepth 100000 in
set_option maxHeartbeats 4000000 in
theorem csNew_yes {w0 w : World} {R : HProp} (n : Nat) (hg : isGrp n = true) (h : Own w0 R w) :
    Calls Tryz.prog 11 #[.int .i64 n] w fun e w' => ∃ p, e = .returned (.tuple #[.pointer (some ⟨p, 0, none⟩), errV 0]) ∧ Own w0 (CsP p (csNew n) * R) w' := by
  have hn5 : 2 ≤ n ∧ n ≤ 5 := by simp [isGrp] at hg; omega
  have hm1 := mapsd_made
  have HG := Lib.hid hg; have H := Lib.hid h
  clear hg h
  go_enter Tryz.func11, Tryz.ntmps11
  go_wp2_with fail
  refine (castGroup_any _ _).mono ?_
  rintro e w' ⟨rfl, rfl⟩
  rw [HG.out]
  go_wp2_with fail
  refine (ntNew_any H.out).mono ?_
  rintro e w1 ⟨nb, rfl, ho⟩
  have h1 := ho.ms_new (enc := sK) (ok := I64) (f := sdRow) (val := sdV)
  obtain ⟨sb, hsb⟩ : ∃ b, b = w1.heap.size := ⟨_, rfl⟩
  rw [← hsb] at h1
  have h2 := h1.alloc (.cells #[.slice none 0 0, .pointer (some ⟨nb, 0, none⟩), .map (some sb), .slice none 0 0] 96)
  obtain ⟨p, hp⟩ : ∃ b, b = sb + 1 := ⟨_, rfl⟩
  rw [World.size_alloc, ← hsb, ← hp] at h2
  have HN : Hid (Own w0 (CsNn p nb sb (.slice none 0 0) [] * R) ((w1.alloc (.map #[] 0)).alloc (.cells #[.slice none 0 0, .pointer (some ⟨nb, 0, none⟩), .map (some sb), .slice none 0 0] 96))) := Lib.hid ((h2.sl_nil 97 1).perm (by
    unfold CsNn csHd
    simp only [starL, List.length_nil, List.map_nil]
    rw [emp_star]
    ac_rfl))
  clear h1 h2 ho
  have HSB := Lib.hid hsb; have HP := Lib.hid hp
  clear hsb hp
  go_upto_block 0 with fail
  rw [← HSB.out, show sb + 1 = p from HP.out.symm]
  go_wp2_with fail
  go_loopw [17] (fun iv wr => ∃ (k : Nat) (mv : Value) (rs : List CmR), k ≤ n ∧ iv = .int .i64 k ∧ Hid (rs.length = k ∧ rs.map (·.2) = (List.range k).map fun i : Nat => caNew (i : Int)) ∧ Hid (Own w0 (CsNn p nb sb mv rs * R) wr)) (fun iv _ => n - (intOf iv).toNat)
  case atStart => exact ⟨0, _, [], Nat.zero_le _, rfl, Lib.hid ⟨rfl, rfl⟩, HN⟩
  case round =>
    clear HN
    obtain ⟨k, mv, rs, hk, rfl, HRS, HPP⟩ := hrel
    by_cases hlt : k < n
    rotate_left
    · have hkn : k = n := by omega
      subst hkn
      go_wp2
      go_ret2
      exact ⟨_, rfl, csN_done (by have := HRS.out.1; omega) HRS.out.2 HPP.out⟩
    have hm : isMember (k : Int) = true := by simp [isMember]; omega
    have hrl : rs.length = k := HRS.out.1
    have HM := Lib.hid hm; have HRL := Lib.hid hrl
    clear hm hrl
    go_wp2_with fail
    refine (cwNew_yes (k : Int) HM.out HPP.out).mono ?_
    rintro e w2 ⟨q, rfl, ho⟩
    rw [errV0]
    have h1 := csN_app ho
    have c1 : w2.cell? ⟨p, 0, none⟩ = some mv := (h1.second.cell 0).trans rfl
    obtain ⟨ad, cp, hmv, _⟩ := Own.rd h1
    subst hmv
    have HAP := Lib.hid h1
    clear h1 ho
    go_wp2_with (at_builtin; refine wpList_app rfl _ _ 94 rfl 97 1 8 _ info_cm Tryz.underlying94 rfl (by decide) rfl (HAP.out.alloc' _) rfl (by rfl) (Rd_lit (by simp) (by unfold maxLen; omega)) (by intro u hu; simp at hu; subst hu; rfl) (by have := HRL.out; unfold maxLen; omega) (by have := HRL.out; omega) ?_; intro v' w3 ho3; obtain ⟨ad', cp', hv', _⟩ := Own.rd ho3; subst hv'; have g1 := ho3.second.cell 0; have g2 := ho3.second.free 0 none; have HW := Lib.hid (csN_push ho3); clear ho3)
    go_round
    case rel =>
      refine ⟨k + 1, _, _, by omega, by go_num, Lib.hid ⟨by simp [HRL.out], ?_⟩, HW⟩
      rw [List.map_append, HRS.out.2, List.range_succ, List.map_append]
      rfl
    case measure => simp [intOf]; omega
end Go.Proofs.YtdfjbnfdknpahaaGreatDoor
/- slices.Clone of events. -/
namespace Go.Proofs.YtdfjbnfdknpahaaGreatDoor
set_option linter.unusedVariables false
set_option linter.unusedSimpArgs false
open Go.RowKit Go.Maps
set_option maxRecDepth 100000 in
set_option maxHeartbeats 4000000 in
theorem cloneEv_any {w0 w : World} {R : HProp} (v : Value) (l : List Ev) (hl : Evs w v l) (hb : l.length ≤ 1000000) (h : Own w0 R w) :
    Calls Tryz.prog 86 #[v] w fun e w' => ∃ v', e = .returned v' ∧ Own w0 (EvSl v' l * R) w' := by
  obtain ⟨⟨ad, cap, rfl, hlc, hcap, hn, hc⟩, hi⟩ := id hl
  cases ad with
  | none =>
    have h0 := hn rfl
    subst h0
    have hl0 : l = [] := List.eq_nil_of_length_eq_zero (by omega)
    subst hl0
    clear hn hc hi hl hlc hcap hb
    have hnil := fun (w : World) => Lib.run_eql_slice_nil (P := Tryz.prog) w 61 112 none 0 0 0 0 Tryz.underlying61
    go_enter Tryz.func86, Tryz.ntmps86
    go_wp2
    go_ret
    exact ⟨_, rfl, h.sl_nil _ _⟩
  | some a =>
    have hnil := fun (w : World) => Lib.run_eql_slice_nil (P := Tryz.prog) w 61 112 (some a) l.length cap 0 0 Tryz.underlying61
    have H := Lib.hid h
    have HL := Lib.hid hl
    have HS : Hid (Own w0 (Sl 112 3 (.slice (some ⟨w.heap.size, 0, none⟩) 0 0) 0 [] * R) (w.alloc (.cells #[] 112))) := Lib.hid (Own.sl_mk (cs := #[]) (Nat.le_refl _) (Nat.zero_le _) rfl (Nat.le_refl _) (fun i hi => by simp at hi) (h.alloc _))
    clear hn hc hi hl h
    go_enter Tryz.func86, Tryz.ntmps86
    go_wp2_with (at_builtin; refine wpList_app rfl _ _ 61 rfl 112 3 24 _ info_ev Tryz.underlying61 rfl (by decide) rfl HS.out rfl (cells_len evCells 3 (fun _ => rfl) _) ((HL.out.1).alloc _) (ev_one _) (by unfold maxLen; omega) (by omega) ?_; intro v' w1 hown')
    go_ret
    exact ⟨_, rfl, by unfold EvSl; simpa using hown'⟩
end Go.Proofs.YtdfjbnfdknpahaaGreatDoor
/- Contracts of package cast, continued: OnWay, History, Drop, Twice. -/
namespace Go.Proofs.YtdfjbnfdknpahaaGreatDoor
set_option linter.unusedVariables false
set_option linter.unusedSimpArgs false
open Go.RowKit Go.Maps
section
variable {w0 w : World} {p rb off cap nb sb : Nat} {hv : Value} {rs : List CmR} {ss : List SRow} {c : Cs} {R : HProp}
/-- A net put back. -/
theorem Own.cs_net_put {nt : Nt} (h : Own w0 (NtP nb nt * (csHd p nb sb (.slice (some ⟨rb, off, none⟩) rs.length cap) hv * (TabO cmP cmV 97 rb off cap rs * (MpS sK I64 sdRow sdV sb ss * (EvSl hv c.hist * R))))) w) : Own w0 (CsO p rb off cap nb sb hv rs ss { c with net := nt } * R) w := h.perm (by unfold CsO; ac_rfl)
end
set_option maxRecDepth 100000 in
set_option maxHeartbeats 4000000 in
theorem csOnWay_any {w0 w : World} {R : HProp} (p : Nat) (c : Cs) (hI : CsI c) (h : Own w0 (CsP p c * R) w) :
    Calls Tryz.prog 83 #[.pointer (some ⟨p, 0, none⟩)] w fun e w' => ∃ v', e = .returned v' ∧ Own w0 (PkSl v' c.net.all * (CsP p c * R)) w' := by
  obtain ⟨rb, off, cap, nb, sb, hv, rs, ss, he, ho⟩ := h.cs_open
  obtain ⟨c0, c1, c2, c3, _⟩ := ho.cs_facts
  have HO := Lib.hid ho.cs_net
  have HE := Lib.hid he
  clear he ho
  have H := Lib.hid h; have HI := Lib.hid hI
  clear h hI
  go_enter Tryz.func83, Tryz.ntmps83
  go_wp2_with fail
  refine (ntAll_any nb c.net HI.out.net HO.out).mono ?_
  rintro e w2 ⟨v', rfl, ho⟩
  have HO2 := Lib.hid ho
  clear ho c0 c1 c2 c3
  go_wp2
  go_ret
  exact ⟨v', rfl, (Own.cs_close (c := c) HE.out (Own.cs_net_put (c := c) HO2.out.to6)).second⟩
set_option maxRecDepth 100000 in
set_option maxHeartbeats 4000000 in
theorem csDrop_any {w0 w : World} {R : HProp} (p : Nat) (c : Cs) (i : Int) (hI : CsI c) (h : Own w0 (CsP p c * R) w) :
    Calls Tryz.prog 55 #[.pointer (some ⟨p, 0, none⟩), .int .i64 i] w fun e w' => e = .returned (errV (ntDropErr c.net i)) ∧ Own w0 (CsP p (csDrop c i) * R) w' := by
  obtain ⟨rb, off, cap, nb, sb, hv, rs, ss, he, ho⟩ := h.cs_open
  obtain ⟨c0, c1, c2, c3, _⟩ := ho.cs_facts
  have HO := Lib.hid ho.cs_net
  have HE := Lib.hid he
  clear he ho
  have H := Lib.hid h; have HI := Lib.hid hI
  clear h hI
  go_enter Tryz.func55, Tryz.ntmps55
  go_wp2_with fail
  refine (ntDrop_any nb c.net i HI.out.net HO.out).mono ?_
  rintro e w2 ⟨rfl, ho⟩
  have HO2 := Lib.hid ho
  clear ho c0 c1 c2 c3
  go_wp2
  go_ret
  exact ⟨rfl, Own.cs_close (c := csDrop c i) HE.out (Own.cs_net_put (c := c) HO2.out)⟩
set_option maxRecDepth 100000 in
set_option maxHeartbeats 4000000 in
theorem csTwice_any {w0 w : World} {R : HProp} (p : Nat) (c : Cs) (i : Int) (hI : CsI c) (h : Own w0 (CsP p c * R) w) :
    Calls Tryz.prog 56 #[.pointer (some ⟨p, 0, none⟩), .int .i64 i] w fun e w' => e = .returned (errV (ntTwiceErr c.net i)) ∧ Own w0 (CsP p (csTwice c i) * R) w' := by
  obtain ⟨rb, off, cap, nb, sb, hv, rs, ss, he, ho⟩ := h.cs_open
  obtain ⟨c0, c1, c2, c3, _⟩ := ho.cs_facts
  have HO := Lib.hid ho.cs_net
  have HE := Lib.hid he
  clear he ho
  have H := Lib.hid h; have HI := Lib.hid hI
  clear h hI
  go_enter Tryz.func56, Tryz.ntmps56
  go_wp2_with fail
  refine (ntTwice_any nb c.net i HI.out.net HO.out).mono ?_
  rintro e w2 ⟨rfl, ho⟩
  have HO2 := Lib.hid ho
  clear ho c0 c1 c2 c3
  go_wp2
  go_ret
  exact ⟨rfl, Own.cs_close (c := csTwice c i) HE.out (Own.cs_net_put (c := c) HO2.out)⟩
set_option maxRecDepth 100000 in
set_option maxHeartbeats 4000000 in
theorem csHistory_any {w0 w : World} {R : HProp} (p : Nat) (c : Cs) (hI : CsI c) (hb : c.hist.length ≤ 100000) (h : Own w0 (CsP p c * R) w) :
    Calls Tryz.prog 59 #[.pointer (some ⟨p, 0, none⟩)] w fun e w' => ∃ v', e = .returned v' ∧ Own w0 (EvSl v' c.hist * (CsP p c * R)) w' := by
  obtain ⟨rb, off, cap, nb, sb, hv, rs, ss, he, ho⟩ := h.cs_open
  obtain ⟨c0, c1, c2, c3, _⟩ := ho.cs_facts
  have hev : Evs w hv c.hist := EvSl_reads hI.hist _ ho.cs_hist
  obtain ⟨ad, cp, hvs, _, _⟩ := hev.shape
  have HEV := Lib.hid hev
  subst hvs
  clear he ho hev
  have H := Lib.hid h; have HI := Lib.hid hI
  clear h hI
  go_enter Tryz.func59, Tryz.ntmps59
  go_wp2_with fail
  refine (cloneEv_any _ c.hist HEV.out (by omega) H.out).mono ?_
  rintro e w2 ⟨v', rfl, ho⟩
  have HO2 := Lib.hid ho
  clear ho c0 c1 c2 c3
  go_wp2
  go_ret
  exact ⟨v', rfl, HO2.out⟩
end Go.Proofs.YtdfjbnfdknpahaaGreatDoor
/- run's clock: the vector of an event. -/
namespace Go.Proofs.YtdfjbnfdknpahaaGreatDoor
set_option linter.unusedVariables false
set_option linter.unusedSimpArgs false
open Go.RowKit
abbrev DkO (b p : Nat) : HProp := blk b (.cells #[.pointer (some ⟨p, 0, none⟩)] 38 (0, 0))
abbrev dkV (p : Nat) : Value := .agg #[.pointer (some ⟨p, 0, none⟩)]
theorem Own.dk {w0 w : World} {b p : Nat} {R : HProp} (h : Own w0 (DkO b p * R) w) : w.cell? ⟨b, 0, none⟩ = some (.pointer (some ⟨p, 0, none⟩)) := (h.cell 0).trans rfl
theorem CZ.h60 {c : Cs} (h : CZ c) : c.hist.length ≤ 100000 := Nat.le_trans h.len (by decide)
theorem CZ.r0 {c : Cs} (h : CZ c) : (histR c.hist).2 = 0 := h.right
theorem CZ.rH {c : Cs} (h : CZ c) : RightH c.hist := (histR_ok _).1 h.right
theorem vecs_small {h : List Ev} (hr : RightH h) : ∀ v ∈ vecsR h, Small v := by
  intro v hv
  have h1 := (vecState_in hr h.length (Nat.le_refl _)).1 v hv
  have h2 := hr.1
  unfold vecIn at h1
  exact ⟨by omega, fun x hx => by have := h1.2 x hx; omega⟩
theorem CZ.vecE {c : Cs} (h : CZ c) : vecsE c.hist = vecsR c.hist := by unfold vecsE; rw [if_pos h.r0]
theorem CZ.vecL {c : Cs} (h : CZ c) : (vecsE c.hist).length ≤ 60 := by
  rw [h.vecE]; unfold vecsR; rw [(vecState_len c.hist c.hist.length).1]; exact h.len
def clkB (c : Cs) (a : Nat) : List UInt8 := if (vecsE c.hist).length ≤ a then [] else rowT ((vecsE c.hist).getD a [])
def clkE (c : Cs) (a : Nat) : Nat := if (vecsE c.hist).length ≤ a then 1 else 0
set_option maxRecDepth 100000 in
set_option maxHeartbeats 4000000 in
theorem pclock_any {w0 w : World} {R : HProp} (hW : RunW w0) (p : Nat) (c : Cs) (hz : CZ c) (i : Nat) (h : Own w0 (CsP p c * R) w) :
    Calls Tryz.prog 61 #[dkV p, .int .i64 (i : Nat)] w fun e w' => e = .returned (.tuple #[.string (tx (clkB c i)), errV (clkE c i)]) ∧ Own w0 (CsP p c * R) w' := by
  obtain ⟨b1, hb_b1⟩ : ∃ zz_, zz_ = (w).heap.size := ⟨_, rfl⟩
  obtain ⟨w1, hw_w1⟩ : ∃ zz_, zz_ = (w).alloc (.cells #[.pointer (some ⟨p, 0, none⟩)] 38 (0, 0)) := ⟨_, rfl⟩
  have h_H1 := (h).alloc (.cells #[.pointer (some ⟨p, 0, none⟩)] 38 (0, 0))
  rw [← hb_b1, ← hw_w1] at h_H1
  have H1 := Lib.hid h_H1
  clear h_H1
  have c1 := Own.dk H1.out
  have ho1 : Own w0 (CsP p c * (DkO b1 p * R)) w1 := H1.out.perm (by ac_rfl)
  have hE0 := hz.r0
  obtain ⟨CB, hCB⟩ : ∃ X, X = clkB c i := ⟨_, rfl⟩
  obtain ⟨CE, hCE⟩ : ∃ X, X = clkE c i := ⟨_, rfl⟩
  rw [← hCB, ← hCE]
  have H := Lib.hid h; have HO1 := Lib.hid ho1; have HZ := Lib.hid hz; have HCB := Lib.hid hCB; have HCE := Lib.hid hCE
  clear h ho1 hz hCB hCE
  go_enter Tryz.func61, Tryz.ntmps61
  go_upto_region 1 with fail
  rw [← hb_b1, ← hw_w1]
  clear hb_b1 hw_w1
  go_wp2_with fail
  refine (csHistory_any p c HZ.out.i HZ.out.h60 HO1.out).mono ?_
  rintro e w2 ⟨v2, rfl, ho⟩
  have hrd : ReadsE w0 (EvSl v2 c.hist * (CsP p c * (DkO b1 p * R))) v2 c.hist := EvSl_reads HZ.out.i.hist
  have HO2 := Lib.hid ho
  clear ho
  have HRD := Lib.hid hrd
  clear hrd
  go_wp2_with fail
  refine (vectors_any v2 c.hist HO2.out HRD.out).mono ?_
  rintro e w3 ⟨v3, rs, rfl, hrs, ho⟩
  rw [hE0]
  have e0 : errV 0 = .nilIface := rfl
  rw [e0]
  have HO3 : Hid (Own w0 (LSl v3 rs * (CsP p c * R)) w3) := Lib.hid ((ho.perm (show _ = DkO b1 p * (EvSl v2 c.hist * (LSl v3 rs * (CsP p c * R))) by ac_rfl)).drop.drop)
  clear ho
  obtain ⟨n, hn⟩ : ∃ n, n = rs.length := ⟨_, rfl⟩
  have hnl : (vecsE c.hist).length = n := by rw [← hrs, List.length_map, hn]
  have hn60 : n ≤ 60 := by rw [← hnl]; exact HZ.out.vecL
  have hsh : ∃ ad cap, v3 = .slice ad n cap ∧ n ≤ cap ∧ cap ≤ 9223372036854775807 := by
    have h1 : Own w0 (Sl 57 1 v3 rs.length (rs.map (·.1)) * (starL rowP rs * (CsP p c * R))) w3 := HO3.out.perm (by unfold LSl; ac_rfl)
    obtain ⟨ad, cap, e, h2, h3, _⟩ := h1.rd
    rw [← hn] at e h2
    exact ⟨ad, cap, e, h2, h3⟩
  obtain ⟨ad, cap, rfl, q1, q2⟩ := hsh
  by_cases hi : n ≤ i
  · obtain rfl : CB = [] := by rw [HCB.out]; unfold clkB; rw [if_pos (by rw [hnl]; exact hi)]
    obtain rfl : CE = 1 := by rw [HCE.out]; unfold clkE; rw [if_pos (by rw [hnl]; exact hi)]
    have HN := Lib.hid hn; have HNL := Lib.hid hnl; have HRS := Lib.hid hrs
    clear hn hnl hrs
    go_wp2_with fail
    go_ret2
    exact ⟨rfl, HO3.out.drop⟩
  · have hil : i < rs.length := by omega
    obtain ⟨rv, l, hrl⟩ : ∃ rv l, rs[i] = (rv, l) := ⟨_, _, rfl⟩
    have hk : rs[i]? = some (rv, l) := by rw [List.getElem?_eq_getElem hil, hrl]
    have hll : (vecsE c.hist).getD i [] = l := by
      rw [← hrs, List.getD_eq_getElem?_getD, List.getElem?_map, hk]; rfl
    have hsm : Small l := vecs_small HZ.out.rH l (by
      rw [← HZ.out.vecE, ← hrs]
      exact List.mem_map.2 ⟨_, List.getElem_mem hil, by rw [hrl]⟩)
    have hI : ∀ x ∈ l, I64 x := fun x hx => by have := hsm.2 x hx; unfold I64; omega
    obtain rfl : CB = rowT l := by rw [HCB.out]; unfold clkB; rw [if_neg (by rw [hnl]; exact hi), hll]
    obtain rfl : CE = 0 := by rw [HCE.out]; unfold clkE; rw [if_neg (by rw [hnl]; exact hi)]
    have hcall := pnumbers_any hW rv l hsm (fun w ho => (Own.ls_row ho hk hI).choose_spec.choose_spec.choose_spec.2.2.2.2) HO3.out
    obtain ⟨T, hT⟩ : ∃ T, T = tx (rowT l) := ⟨_, rfl⟩
    rw [← hT] at hcall
    obtain ⟨b, off, cap', hv, q3, q4, hcell, _⟩ := Own.ls_row HO3.out hk hI
    cases hv
    have HN := Lib.hid hn; have HNL := Lib.hid hnl; have HRS := Lib.hid hrs; have HK := Lib.hid hk; have HRL := Lib.hid hrl; have HLL := Lib.hid hll; have HSM := Lib.hid hsm; have HI := Lib.hid hI; have HCALL := Lib.hid hcall; have HT := Lib.hid hT
    clear hn hnl hrs hk hrl hll hsm hI hcall hT
    go_wp2_with fail
    refine HCALL.out.mono ?_
    rintro e w4 ⟨rfl, ho⟩
    have HO4 := Lib.hid ho
    clear ho
    go_wp2_with fail
    go_ret2
    exact ⟨by rw [HT.out]; rfl, HO4.out.drop⟩
end Go.Proofs.YtdfjbnfdknpahaaGreatDoor
/- strconv.Itoa of a small number; strings.LastIndex and strings.Count at one byte. -/
namespace Go.Proofs.YtdfjbnfdknpahaaGreatDoor
set_option linter.unusedVariables false
set_option linter.unusedSimpArgs false
open Go.RowKit
def digB (i : Nat) : ByteArray := ⟨(Lib.decDigits i).toArray⟩
theorem small_ba (x : ByteArray) (l : List UInt8) (h : x.data.toList = l) : x = ⟨l.toArray⟩ := by
  subst h
  cases x
  simp
set_option maxRecDepth 100000 in
set_option maxHeartbeats 4000000 in
theorem stSmall (i : Nat) (h : i < 100) (w : World) :
    Calls Tryz.prog 144 #[.int .i64 (i : Int)] w fun e w' => e = .returned (.string (digB i)) ∧ w = w' := by
  go_enter Tryz.func144, Tryz.ntmps144
  go_name_bytes_deep 45 SM hSM
  have eSM : SM = Lib.smalls := by rw [← hSM]; decide +kernel
  subst eSM
  clear hSM
  go_name_bytes_deep 30 DG hDG
  have eDG : DG = Lib.digits36 := by rw [← hDG]; decide +kernel
  subst eDG
  clear hDG
  by_cases h10 : i < 10
  · have hsl : ∀ w, (Instr.slice 9 (.string Lib.digits36) (some (.int .i64 (i : Int))) (some (.int .i64 ((i : Int) + 1))) none).run Tryz.prog w = .ok (.string (Lib.digits36.extract i (i + 1))) w := fun w => by
      rw [run_slice_string w 9 Lib.digits36 .i64 .i64 _ _ Tryz.underlying9 (by omega) (by omega) (by rw [Lib.digits36_size]; omega), show ((i : Int)).toNat = i by omega, show ((i : Int) + 1).toNat = i + 1 by omega]
    go_wp2
    go_ret
    refine ⟨?_, rfl⟩
    show Ending.returned (Value.string (Lib.digits36.extract i (i + 1))) = _
    rw [small_ba (Lib.digits36.extract i (i + 1)) (Lib.decDigits i) (by rw [Lib.extract_data]; exact Lib.digits36_piece h10)]
    rfl
  · have hsl : ∀ w, (Instr.slice 9 (.string Lib.smalls) (some (.int .i64 ((i : Int) * 2))) (some (.int .i64 ((i : Int) * 2 + 2))) none).run Tryz.prog w = .ok (.string (Lib.smalls.extract (i * 2) (i * 2 + 2))) w := fun w => by
      rw [run_slice_string w 9 Lib.smalls .i64 .i64 _ _ Tryz.underlying9 (by omega) (by omega) (by rw [Lib.smalls_size]; omega), show ((i : Int) * 2).toNat = i * 2 by omega, show ((i : Int) * 2 + 2).toNat = i * 2 + 2 by omega]
    go_wp2
    go_ret
    refine ⟨?_, rfl⟩
    show Ending.returned (Value.string (Lib.smalls.extract (i * 2) (i * 2 + 2))) = _
    rw [small_ba (Lib.smalls.extract (i * 2) (i * 2 + 2)) (Lib.decDigits i) (by rw [Lib.extract_data]; exact Lib.smalls_piece h10 h)]
    rfl
set_option maxRecDepth 100000 in
set_option maxHeartbeats 4000000 in
theorem stFormat (i : Nat) (h : i < 100) (w : World) :
    Calls Tryz.prog 121 #[.int .i64 (i : Int), .int .i64 10] w fun e w' => e = .returned (.string (digB i)) ∧ w = w' := by
  have i0 : (0 : Int) ≤ (i : Int) := by omega
  have i1 : (i : Int) < 100 := by omega
  go_enter Tryz.func121, Tryz.ntmps121
  go_wp2_with fail
  refine (stSmall i h _).mono ?_
  rintro e w' ⟨rfl, rfl⟩
  go_wp2
  go_ret
  exact ⟨rfl, rfl⟩
set_option maxRecDepth 100000 in
set_option maxHeartbeats 4000000 in
theorem stItoa1 (i : Nat) (h : i < 100) (w : World) :
    Calls Tryz.prog 105 #[.int .i64 (i : Int)] w fun e w' => e = .returned (.string (digB i)) ∧ w = w' := by
  go_enter Tryz.func105, Tryz.ntmps105
  go_wp2_with fail
  refine (stFormat i h _).mono ?_
  rintro e w' ⟨rfl, rfl⟩
  go_wp2
  go_ret
  exact ⟨rfl, rfl⟩
set_option maxRecDepth 100000 in
set_option maxHeartbeats 4000000 in
theorem stItoa (i : Nat) (h : i < 100) (w : World) :
    Calls Tryz.prog 79 #[.int .i64 (i : Int)] w fun e w' => e = .returned (.string (digB i)) ∧ w = w' := by
  go_enter Tryz.func79, Tryz.ntmps79
  go_wp2_with fail
  refine (stItoa1 i h _).mono ?_
  rintro e w' ⟨rfl, rfl⟩
  go_wp2
  go_ret
  exact ⟨rfl, rfl⟩
end Go.Proofs.YtdfjbnfdknpahaaGreatDoor
/- run's way: what is on it. -/
namespace Go.Proofs.YtdfjbnfdknpahaaGreatDoor
set_option linter.unusedVariables false
set_option linter.unusedSimpArgs false
open Go.RowKit
abbrev PbO (b : Nat) (x y z : Int) : HProp := blk b (.cells #[.int .i64 x, .int .i64 y, .int .i64 z] 79 (0, 0))
theorem Own.pb {w0 w : World} {b : Nat} {x y z : Int} {R : HProp} (h : Own w0 (PbO b x y z * R) w) : w.cell? ⟨b, 0, none⟩ = some (.int .i64 x) ∧ w.cell? ⟨b, 1, none⟩ = some (.int .i64 y) ∧ w.cell? ⟨b, 2, none⟩ = some (.int .i64 z) :=
  ⟨(h.cell 0).trans rfl, (h.cell 1).trans rfl, (h.cell 2).trans rfl⟩
theorem pk_words {ps : List Ev} (h : ∀ p ∈ ps, pkErr p = 0) : ∀ x ∈ ps.map pkB, x.length ≤ 200 := fun x hx => by
  obtain ⟨p, hp, rfl⟩ := List.mem_map.1 hx
  obtain ⟨h1, h2, h3, _⟩ := pkErr0 (h p hp)
  simp [isMember] at h1 h2
  simp [isWord] at h3
  have d1 := (dec_len p.1.toNat).2
  have d2 := (dec_len p.2.1.toNat).2
  have d3 := (dec_len p.2.2.toNat).2
  unfold pkB
  simp only [List.length_append, List.length_cons, List.length_nil]
  omega
set_option maxRecDepth 100000 in
set_option maxHeartbeats 4000000 in
theorem pway_any {w0 w : World} {R : HProp} (p : Nat) (c : Cs) (hz : CZ c) (h : Own w0 (CsP p c * R) w) :
    Calls Tryz.prog 57 #[dkV p] w fun e w' => e = .returned (.string (tx (wayT c.net.all))) ∧ Own w0 (CsP p c * R) w' := by
  obtain ⟨ps, hps⟩ : ∃ ps, ps = c.net.all := ⟨_, rfl⟩
  have hok : ∀ q ∈ ps, pkErr q = 0 := by rw [hps]; exact hz.i.net.ok
  have hgood : ∀ q ∈ ps, goodEv q := by rw [hps]; exact hz.i.net.good
  have hlen : ps.length ≤ 40 := by rw [hps]; exact hz.i.net.len
  rw [← hps]
  obtain ⟨n, hn⟩ : ∃ n, n = ps.length := ⟨_, rfl⟩
  rw [← hn] at hlen
  have hrow : ∀ (v : Value) (w2 : World) (R' : HProp), Own w0 (StSl v (ps.map pkB) * R') w2 → Calls Tryz.prog 80 #[v] w2 fun e w' => e = .returned (.string (tx (wayT ps))) ∧ Own w0 (StSl v (ps.map pkB) * R') w' := fun v w2 R' ho => by
    have h3 : (ps.map pkB).length = ps.length := List.length_map ..
    have h4 := joinB_len (pk_words hok)
    exact prow_any v (ps.map pkB) (by omega) (by rw [h3] at h4; omega) ho
  obtain ⟨T, hT⟩ : ∃ T, T = tx (wayT ps) := ⟨_, rfl⟩
  rw [← hT] at hrow ⊢
  obtain ⟨b1, hb_b1⟩ : ∃ zz_, zz_ = (w).heap.size := ⟨_, rfl⟩
  obtain ⟨w1, hw_w1⟩ : ∃ zz_, zz_ = (w).alloc (.cells #[.pointer (some ⟨p, 0, none⟩)] 38 (0, 0)) := ⟨_, rfl⟩
  have h_H1 := (h).alloc (.cells #[.pointer (some ⟨p, 0, none⟩)] 38 (0, 0))
  rw [← hb_b1, ← hw_w1] at h_H1
  have H1 := Lib.hid h_H1
  clear h_H1
  have c1 := Own.dk H1.out
  have ho1 : Own w0 (CsP p c * (DkO b1 p * R)) w1 := H1.out.perm (by ac_rfl)
  have hway := csOnWay_any p c hz.i ho1
  rw [← hps] at hway
  have H := Lib.hid h; have HO1 := Lib.hid ho1; have HZ := Lib.hid hz; have HPS := Lib.hid hps; have HN := Lib.hid hn; have HOK := Lib.hid hok; have HGOOD := Lib.hid hgood; have HROW := Lib.hid hrow; have HT := Lib.hid hT; have HWAY := Lib.hid hway
  clear h ho1 hz hps hn hok hgood hrow hT hway
  go_enter Tryz.func57, Tryz.ntmps57
  go_upto_region 1 with fail
  rw [← hb_b1, ← hw_w1]
  clear hb_b1 hw_w1
  go_wp2_with fail
  refine HWAY.out.mono ?_
  rintro e w2 ⟨v2, rfl, ho⟩
  obtain ⟨R2, hR2⟩ : ∃ R2, R2 = PkSl v2 ps * (CsP p c * (DkO b1 p * R)) := ⟨_, rfl⟩
  rw [← hR2] at ho
  have hrd : ReadsE w0 R2 v2 ps := by rw [hR2]; exact PkSl_reads HGOOD.out
  obtain ⟨ad, cap, rfl, q1, q2⟩ := (hrd w2 ho).shape
  rw [← HN.out] at hrd q1 hR2 ⊢
  have HN0 : Hid (Own w0 (StSl (.slice none 0 0) [] * R2) w2) := Lib.hid (ho.sl_nil _ _)
  clear ho
  have HRD := Lib.hid hrd; have HR2 := Lib.hid hR2
  clear hrd hR2
  go_wp2_with fail
  go_loopw [3, 10] (fun sv iv wr => ∃ k : Nat, k ≤ n ∧ iv = .int .i64 k ∧ Hid (Own w0 (StSl sv ((ps.take k).map pkB) * R2) wr)) (fun _ iv _ => n - (intOf iv).toNat)
  case atStart => exact ⟨0, Nat.zero_le _, rfl, HN0⟩
  case round =>
    clear HN0
    obtain ⟨k, hk, rfl, HO⟩ := hrel
    by_cases hlt : k < n
    · have hkl : k < ps.length := by rw [← HN.out]; exact hlt
      obtain ⟨aa, eb, eo, es, e1, hea, hcs, _⟩ := HRD.out.at HO.out.drop k hkl
      subst e1
      obtain ⟨g0, g1, g2⟩ := hcs _ HO.out.drop
      have hev : evAt ps k = ps[k] := by unfold evAt; rw [List.getD_eq_getElem?_getD, List.getElem?_eq_getElem hkl]; rfl
      have hbk := HOK.out _ (List.getElem_mem hkl)
      have htk : (ps.take (k + 1)).map pkB = (ps.take k).map pkB ++ [pkB ps[k]] := by rw [List.take_succ_eq_append_getElem hkl, List.map_append]; rfl
      have hkn : ((ps.take k).map pkB).length = k := by rw [List.length_map, List.length_take]; omega
      rw [hev] at g0 g1 g2
      obtain ⟨x, hx⟩ : ∃ x, x = ps[k] := ⟨_, rfl⟩
      rw [← hx] at g0 g1 g2 hbk htk
      obtain ⟨h1, h2, h3, _⟩ := pkErr0 hbk
      simp [isMember] at h1 h2
      simp [isWord] at h3
      obtain ⟨m1, hm1⟩ : ∃ m : Nat, x.1 = (m : Int) := ⟨x.1.toNat, by omega⟩
      obtain ⟨m2, hm2⟩ : ∃ m : Nat, x.2.1 = (m : Int) := ⟨x.2.1.toNat, by omega⟩
      obtain ⟨m3, hm3⟩ : ∃ m : Nat, x.2.2 = (m : Int) := ⟨x.2.2.toNat, by omega⟩
      have hpk : pkB x = Lib.decDigits m1 ++ [62] ++ Lib.decDigits m2 ++ [58] ++ Lib.decDigits m3 := by
        unfold pkB; rw [hm1, hm2, hm3, Int.toNat_natCast, Int.toNat_natCast, Int.toNat_natCast]
      rw [hm1] at g0
      rw [hm2] at g1
      rw [hm3] at g2
      have hdg1 := fun w => stItoa m1 (by omega) w
      have hdg2 := fun w => stItoa m2 (by omega) w
      have hdg3 := fun w => stItoa m3 (by omega) w
      have hz1 := (dec_len m1).2
      have hz2 := (dec_len m2).2
      have hz3 := (dec_len m3).2
      obtain ⟨D1, hD1⟩ : ∃ D, D = tx (Lib.decDigits m1) := ⟨_, rfl⟩
      obtain ⟨D2, hD2⟩ : ∃ D, D = tx (Lib.decDigits m2) := ⟨_, rfl⟩
      obtain ⟨D3, hD3⟩ : ∃ D, D = tx (Lib.decDigits m3) := ⟨_, rfl⟩
      have s1 : D1.size ≤ 1001 := by rw [hD1, tx_size]; omega
      have s2 : D2.size ≤ 1001 := by rw [hD2, tx_size]; omega
      have s3 : D3.size ≤ 1001 := by rw [hD3, tx_size]; omega
      rw [show digB m1 = D1 from hD1.symm] at hdg1
      rw [show digB m2 = D2 from hD2.symm] at hdg2
      rw [show digB m3 = D3 from hD3.symm] at hdg3
      obtain ⟨X2, x2, z2, a2⟩ := add_let D1 ⟨#[62]⟩ (by omega) (by show 1 ≤ _; omega)
      have y2 : X2.size = D1.size + 1 := z2
      obtain ⟨X3, x3, z3, a3⟩ := add_let X2 D2 (by omega) (by omega)
      obtain ⟨X4, x4, z4, a4⟩ := add_let X3 ⟨#[58]⟩ (by omega) (by show 1 ≤ _; omega)
      have y4 : X4.size = X3.size + 1 := z4
      obtain ⟨X5, x5, z5, a5⟩ := add_let X4 D3 (by omega) (by omega)
      have hfin : X5 = tx (pkB x) := by
        rw [hpk, x5, x4, x3, x2, hD1, hD2, hD3, ← tx_add, ← tx_add, ← tx_add, ← tx_add]
        rfl
      obtain ⟨pre, hpre⟩ : ∃ pre, pre = (ps.take k).map pkB := ⟨_, rfl⟩
      rw [← hpre] at htk hkn
      obtain ⟨wq, hwq⟩ : ∃ wq, wq = wr := ⟨_, rfl⟩
      have hO := HO.out
      rw [← hpre] at hO
      obtain ⟨b5, hb_b5⟩ : ∃ zz_, zz_ = (wr).heap.size := ⟨_, rfl⟩
      obtain ⟨w5, hw_w5⟩ : ∃ zz_, zz_ = (wr).alloc (.cells #[.int .i64 m1, .int .i64 m2, .int .i64 m3] 79 (0, 0)) := ⟨_, rfl⟩
      have h_H5 := (hO).alloc (.cells #[.int .i64 m1, .int .i64 m2, .int .i64 m3] 79 (0, 0))
      rw [← hb_b5, ← hw_w5] at h_H5
      have H5 := Lib.hid h_H5
      clear h_H5
      obtain ⟨p0, p1, p2⟩ := H5.out.pb
      have hap : Own w0 (StSl _ pre * (PbO b5 m1 m2 m3 * R2)) w5.drew := (H5.out.perm (by ac_rfl)).drew
      have hal := fun (o : Obj) => (((H5.out.drew).alloc' o).pb)
      clear hO hcs hev x2 x3 x4 x5 z2 z3 z4 z5 y2 y4 s1 s2 s3 hD1 hD2 hD3 hz1 hz2 hz3 hm1 hm2 hm3 h1 h2 h3 hbk hpk hwq wq
      have HDG1 := Lib.hid hdg1; have HDG2 := Lib.hid hdg2; have HDG3 := Lib.hid hdg3; have HFIN := Lib.hid hfin; have HPRE := Lib.hid hpre; have HTK := Lib.hid htk; have HX := Lib.hid hx; have HAP := Lib.hid hap; have HAL := Lib.hid hal
      clear hdg1 hdg2 hdg3 hfin hpre htk hx hap hal
      go_upto_region 5 with fail
      rw [← hb_b5, ← hw_w5]
      clear hb_b5 hw_w5
      refine wp_region_planH 16 [] [(true, 0), (true, 1), (true, 2), (true, 5), (true, 6), (true, 10), (true, 11), (false, 3), (true, 4), (false, 7), (true, 8), (true, 9), (false, 12), (true, 13), (false, 14), (false, 15)] [16] (fun wS => wS.cell? ⟨b5, 0, none⟩ = some (.int .i64 m1) ∧ wS.cell? ⟨b5, 1, none⟩ = some (.int .i64 m2) ∧ wS.cell? ⟨b5, 2, none⟩ = some (.int .i64 m3)) (by kernel_rfl) (by kernel_rfl) (⟨p0, p1, p2⟩) ?_
      simp only [pickH, pick, List.getElem?_cons_succ, List.getElem?_cons_zero, Option.toList, Option.map_some, List.cons_append, List.nil_append]
      repeat (refine wpPure_step ?_ rfl ?_ ?_; rotate_left; (focus (intro _; first | with_reducible rfl | (go_simp; done) | (go_simp; with_reducible rfl) | rfl)); go_simp)
      refine wpPure_nil ?_
      repeat (refine wpMix_read ?_ rfl ?_ ?_; rotate_left; (focus (intro _ hS; obtain ⟨s1, s2, s3⟩ := hS; first | with_reducible rfl | (go_simp; done) | (go_simp; with_reducible rfl) | rfl)); go_simp)
      refine wpMix_write (fun K hK => ?_)
      go_simp
      refine (HDG1.out _).mono ?_
      rintro e w' ⟨rfl, rfl⟩
      refine hK _ _ ⟨⟨p0, p1, p2⟩, ?_⟩
      clear hK K
      go_simp
      repeat (refine wpMix_read ?_ rfl ?_ ?_; rotate_left; (focus (intro _ hS; obtain ⟨s1, s2, s3⟩ := hS; first | with_reducible rfl | (go_simp; done) | (go_simp; with_reducible rfl) | rfl)); go_simp)
      refine wpMix_write (fun K hK => ?_)
      go_simp
      refine (HDG2.out _).mono ?_
      rintro e w' ⟨rfl, rfl⟩
      refine hK _ _ ⟨⟨p0, p1, p2⟩, ?_⟩
      clear hK K
      go_simp
      repeat (refine wpMix_read ?_ rfl ?_ ?_; rotate_left; (focus (intro _ hS; obtain ⟨s1, s2, s3⟩ := hS; first | with_reducible rfl | (go_simp; done) | (go_simp; with_reducible rfl) | rfl)); go_simp)
      refine wpMix_write (fun K hK => ?_)
      go_simp
      refine (HDG3.out _).mono ?_
      rintro e w' ⟨rfl, rfl⟩
      refine hK _ _ ⟨⟨p0, p1, p2⟩, ?_⟩
      clear hK K
      go_simp
      repeat (refine wpMix_read ?_ rfl ?_ ?_; rotate_left; (focus (intro _ hS; obtain ⟨s1, s2, s3⟩ := hS; first | with_reducible rfl | (go_simp; done) | (go_simp; with_reducible rfl) | rfl)); go_simp)
      refine wpMix_write (fun K hK => ?_)
      go_simp
      refine hK _ _ ⟨HAL.out _, ?_⟩
      clear hK K
      go_simp
      refine wpMix_write (fun K hK => ?_)
      refine step_app rfl _ _ 23 rfl 9 1 16 _ info_str Tryz.underlying23 rfl (by decide) (by rfl) (HAP.out.alloc' _) (by rfl) (by rfl) (Rd_lit (by simp) (by unfold maxLen; omega)) (by intro u hu; simp at hu; subst hu; rfl) (by unfold maxLen; omega) (by omega) ?_
      intro v' w6 hown'
      have HO6 : Hid (Own w0 (StSl v' (pre ++ [pkB x]) * (PbO b5 m1 m2 m3 * R2)) w6) := Lib.hid (hown'.perm (show _ = StSl v' (pre ++ [pkB x]) * (PbO b5 m1 m2 m3 * R2) by unfold StSl; simp [HFIN.out]))
      clear hown'
      have HO7 : Hid (Own w0 (StSl v' (pre ++ [pkB x]) * R2) w6) := Lib.hid ((HO6.out.perm (show _ = PbO b5 m1 m2 m3 * (StSl v' (pre ++ [pkB x]) * R2) by ac_rfl)).drop)
      have hp6 := (HO6.out.perm (show _ = PbO b5 m1 m2 m3 * (StSl v' (pre ++ [pkB x]) * R2) by ac_rfl)).pb
      clear HO6
      refine hK _ _ ⟨hp6, ?_⟩
      clear hK K
      go_simp
      repeat (refine wpMix_read ?_ rfl ?_ ?_; rotate_left; (focus (intro _ hS; obtain ⟨s1, s2, s3⟩ := hS; first | with_reducible rfl | (go_simp; done) | (go_simp; with_reducible rfl) | rfl)); go_simp)
      refine wpMix_nil ?_
      go_wp2_with fail
      refine NoPanic.normal ?_
      go_wp2_with fail
      go_roundw
      case rel => exact ⟨k + 1, by omega, by go_num, by rw [HTK.out]; exact HO7⟩
      case measure => simp [intOf]; omega
    · have hkn : k = n := by omega
      subst hkn
      have ho := HO.out
      rw [List.take_of_length_le (by have := HN.out; omega)] at ho
      have hrr := HROW.out _ _ _ ho
      have HRR := Lib.hid hrr; have HO := Lib.hid ho
      clear hrr ho
      go_wp2_with fail
      refine HRR.out.mono ?_
      rintro e w3 ⟨rfl, ho⟩
      have HO2 : Hid (Own w0 (CsP p c * R) w3) := by
        have h1 := ho.drop
        rw [HR2.out] at h1
        exact Lib.hid ((h1.perm (show _ = PkSl _ ps * (DkO b1 p * (CsP p c * R)) by ac_rfl)).drop.drop)
      clear ho
      go_wp2_with fail
      go_ret
      exact ⟨rfl, HO2.out⟩
end Go.Proofs.YtdfjbnfdknpahaaGreatDoor
