/- Package cast: a group as it lies in memory; New. -/
import Derived.Test.YtldmdenojpnldaaDoorCause8
import Derived.Test.YtldmdenojpnldaaDoorCastP
import Derived.Test.YtldmdenojpnldaaDoorNet2
import Derived.Test.YtldmdenojpnldaaDoorEvSl
import Derived.Test.YtldmdenojpnldaaDoorMapOpen
import Derived.Deep.DeepCutAuto
import Derived.Deep.CutBlock
namespace Go.Proofs.YtldmdenojpnldaaDoor
set_option linter.unusedVariables false
set_option linter.unusedSimpArgs false
open Go.RowKit Go.Maps
abbrev CmR := Nat × Ca
def cmV (r : CmR) : Value := .pointer (some ⟨r.1, 0, none⟩)
def cmP (r : CmR) : HProp := CwP r.1 r.2
abbrev SRow := Int × SdR
abbrev sK : Int → Value := fun n => Value.int .i64 n
abbrev csHd (p nb sb : Nat) (mv hv : Value) : HProp := blk p (.cells #[mv, .pointer (some ⟨nb, 0, none⟩), .map (some sb), hv] 147 (0, 0))
def nilSdR : SdR := (.slice none 0 0, nilSd)
theorem sdRow_nil : sdRow nilSdR = emp := Sl_nil _ _
def CsO (p rb off cap nb sb : Nat) (hv : Value) (rs : List CmR) (ss : List SRow) (c : Cs) : HProp :=
  csHd p nb sb (.slice (some ⟨rb, off, none⟩) rs.length cap) hv * (TabO cmP cmV 52 rb off cap rs * (NtP nb c.net * (MpS sK I64 sdRow sdV sb ss * EvSl hv c.hist)))
def csIs (rs : List CmR) (ss : List SRow) (c : Cs) : Prop := rs.map (·.2) = c.mem ∧ mvals (fun r : SdR => r.2) ss = c.said
def CsP (p : Nat) (c : Cs) : HProp := hex fun (x : (Nat × Nat × Nat × Nat × Nat) × Value × List CmR × List SRow) => pur (csIs x.2.2.1 x.2.2.2 c) * CsO p x.1.1 x.1.2.1 x.1.2.2.1 x.1.2.2.2.1 x.1.2.2.2.2 x.2.1 x.2.2.1 x.2.2.2 c
theorem Own.cs_open {w0 w : World} {p : Nat} {c : Cs} {R : HProp} (h : Own w0 (CsP p c * R) w) : ∃ rb off cap nb sb hv rs ss, csIs rs ss c ∧ Own w0 (CsO p rb off cap nb sb hv rs ss c * R) w := by
  obtain ⟨⟨⟨rb, off, cap, nb, sb⟩, hv, rs, ss⟩, h⟩ := Own.ex h
  rw [star_assoc] at h
  obtain ⟨he, h⟩ := Own.pur_out h
  exact ⟨rb, off, cap, nb, sb, hv, rs, ss, he, h⟩
theorem Own.cs_close {w0 w : World} {p rb off cap nb sb : Nat} {hv : Value} {rs : List CmR} {ss : List SRow} {c : Cs} {R : HProp} (he : csIs rs ss c) (h : Own w0 (CsO p rb off cap nb sb hv rs ss c * R) w) : Own w0 (CsP p c * R) w := by
  refine Own.ex_mk ((rb, off, cap, nb, sb), hv, rs, ss) ?_
  rw [star_assoc]
  exact Own.pur_mk he h
section
variable {w0 w : World} {p rb off cap nb sb : Nat} {hv : Value} {rs : List CmR} {ss : List SRow} {c : Cs} {R : HProp}
theorem Own.cs_blk (h : Own w0 (CsO p rb off cap nb sb hv rs ss c * R) w) : Own w0 (csHd p nb sb (.slice (some ⟨rb, off, none⟩) rs.length cap) hv * (TabO cmP cmV 52 rb off cap rs * (NtP nb c.net * (MpS sK I64 sdRow sdV sb ss * (EvSl hv c.hist * R))))) w := h.perm (by unfold CsO; ac_rfl)
theorem Own.cs_tab (h : Own w0 (CsO p rb off cap nb sb hv rs ss c * R) w) : Own w0 (TabO cmP cmV 52 rb off cap rs * (csHd p nb sb (.slice (some ⟨rb, off, none⟩) rs.length cap) hv * (NtP nb c.net * (MpS sK I64 sdRow sdV sb ss * (EvSl hv c.hist * R))))) w := h.perm (by unfold CsO; ac_rfl)
theorem Own.cs_net (h : Own w0 (CsO p rb off cap nb sb hv rs ss c * R) w) : Own w0 (NtP nb c.net * (csHd p nb sb (.slice (some ⟨rb, off, none⟩) rs.length cap) hv * (TabO cmP cmV 52 rb off cap rs * (MpS sK I64 sdRow sdV sb ss * (EvSl hv c.hist * R))))) w := h.perm (by unfold CsO; ac_rfl)
theorem Own.cs_map (h : Own w0 (CsO p rb off cap nb sb hv rs ss c * R) w) : Own w0 (MpS sK I64 sdRow sdV sb ss * (csHd p nb sb (.slice (some ⟨rb, off, none⟩) rs.length cap) hv * (TabO cmP cmV 52 rb off cap rs * (NtP nb c.net * (EvSl hv c.hist * R))))) w := h.perm (by unfold CsO; ac_rfl)
theorem Own.cs_hist (h : Own w0 (CsO p rb off cap nb sb hv rs ss c * R) w) : Own w0 (EvSl hv c.hist * (csHd p nb sb (.slice (some ⟨rb, off, none⟩) rs.length cap) hv * (TabO cmP cmV 52 rb off cap rs * (NtP nb c.net * (MpS sK I64 sdRow sdV sb ss * R))))) w := h.perm (by unfold CsO; ac_rfl)
theorem Own.cs_facts (h : Own w0 (CsO p rb off cap nb sb hv rs ss c * R) w) :
    w.cell? ⟨p, 0, none⟩ = some (.slice (some ⟨rb, off, none⟩) rs.length cap) ∧ w.cell? ⟨p, 1, none⟩ = some (.pointer (some ⟨nb, 0, none⟩)) ∧ w.cell? ⟨p, 2, none⟩ = some (.map (some sb)) ∧ w.cell? ⟨p, 3, none⟩ = some hv ∧ (∀ i s, w.frozen? ⟨p, i, s⟩ = false) ∧
    (∀ (i : Nat) r, rs[i]? = some r → w.cell? ⟨rb, off + i, none⟩ = some (cmV r)) ∧ rs.length ≤ cap ∧ cap ≤ maxLen := by
  have h2 := h.cs_tab.tab_facts
  exact ⟨by rw [h.cs_blk.cell]; rfl, by rw [h.cs_blk.cell]; rfl, by rw [h.cs_blk.cell]; rfl, by rw [h.cs_blk.cell]; rfl, fun i s => h.cs_blk.free i s, h2.1, h2.2.2.1, h2.2.2.2⟩
end
theorem csIs_len {rs : List CmR} {ss : List SRow} {c : Cs} (he : csIs rs ss c) : rs.length = c.mem.length := by rw [← he.1, List.length_map]
theorem mapsd_made : ∀ w, (Instr.makeMap 144 none).run Tryd.prog w = .ok (.map (some w.heap.size)) (w.alloc (.map #[] 0)) := fun _ => by kernel_rfl
theorem mapsd_kind : Tryd.prog.underlying 144 = some (.map 3 56) := by kernel_rfl
theorem sd_zero : ∀ w, (zeroValue 56).run Tryd.prog w = .ok (sdV nilSdR) w := fun _ => by kernel_rfl
theorem info_cm : (Tryd.prog.info? 52).map (fun i => (i.zero, i.size, i.bytes)) = some (some (.pointer none), 1, 8) := by kernel_rfl
/-- A group in the making. -/
def CsNn (p nb sb : Nat) (mv : Value) (rs : List CmR) : HProp := csHd p nb sb mv (.slice none 0 0) * (Sl 52 1 mv rs.length (rs.map cmV) * (starL cmP rs * (NtP nb ⟨[], []⟩ * MpS sK I64 sdRow sdV sb [])))
def isGrp (n : Int) : Bool := decide (2 ≤ n) && decide (n ≤ 5)
set_option maxRecDepth 100000 in
set_option maxHeartbeats 4000000 in
theorem castGroup_any (n : Int) (w : World) :
    Calls Tryd.prog 72 #[.int .i64 n] w fun e w' => e = .returned (.bool (isGrp n)) ∧ w = w' := by
  unfold isGrp
  by_cases h1 : 2 ≤ n
  · have t1 : decide ((2 : Int) ≤ n) = true := decide_eq_true h1
    rw [t1, Bool.true_and]
    go_enter Tryd.func72, Tryd.ntmps72
    go_wp2
    go_ret
    exact ⟨rfl, rfl⟩
  · have t1 : decide ((2 : Int) ≤ n) = false := decide_eq_false h1
    rw [t1, Bool.false_and]
    go_enter Tryd.func72, Tryd.ntmps72
    go_wp2
    go_ret
    exact ⟨rfl, rfl⟩
section
variable {w0 w : World} {p nb sb : Nat} {mv : Value} {rs : List CmR} {R : HProp}
theorem csN_open (h : Own w0 (CsNn p nb sb mv rs * R) w) : Own w0 (csHd p nb sb mv (.slice none 0 0) * (Sl 52 1 mv rs.length (rs.map cmV) * (starL cmP rs * (NtP nb ⟨[], []⟩ * (MpS sK I64 sdRow sdV sb [] * R))))) w := h.perm (by unfold CsNn; ac_rfl)
theorem csN_app {q : Nat} {m : Ca} (h : Own w0 (CwP q m * (CsNn p nb sb mv rs * R)) w) : Own w0 (Sl 52 1 mv rs.length (rs.map cmV) * (csHd p nb sb mv (.slice none 0 0) * (starL cmP rs * (NtP nb ⟨[], []⟩ * (MpS sK I64 sdRow sdV sb [] * (CwP q m * R)))))) w := h.perm (by unfold CsNn; ac_rfl)
theorem csN_push {q : Nat} {m : Ca} {v' : Value}
    (h : Own w0 (Sl 52 1 v' (rs.length + 1) (rs.map cmV ++ [.pointer (some ⟨q, 0, none⟩)]) * (csHd p nb sb mv (.slice none 0 0) * (starL cmP rs * (NtP nb ⟨[], []⟩ * (MpS sK I64 sdRow sdV sb [] * (CwP q m * R)))))) w) :
    Own w0 (CsNn p nb sb v' (rs ++ [(q, m)]) * R) (w.setCell ⟨p, 0, none⟩ v') := by
  have h1 := h.second.setCell (i := 0) (v := v')
  refine h1.perm ?_
  unfold CsNn csHd
  rw [starL_snoc, List.length_append, List.map_append]
  simp only [List.length_singleton, List.map_cons, List.map_nil]
  show (blk p (.cells #[v', .pointer (some ⟨nb, 0, none⟩), .map (some sb), .slice none 0 0] 147 (0, 0)) * _ : HProp) = _
  unfold cmV
  rw [show cmP (q, m) = CwP q m from rfl]
  ac_rfl
theorem csN_done {n : Nat} (hn : 0 < rs.length) (hl : rs.map (·.2) = (List.range n).map fun i : Nat => caNew (i : Int)) (h : Own w0 (CsNn p nb sb mv rs * R) w) : Own w0 (CsP p (csNew n) * R) w := by
  obtain ⟨b, off, cap, rfl, h2⟩ := (csN_open h).second.slAt (by simpa using hn)
  refine Own.cs_close (rb := b) (off := off) (cap := cap) (nb := nb) (sb := sb) (hv := .slice none 0 0) (rs := rs) (ss := []) ⟨hl, rfl⟩ ((h2.sl_nil 102 3).perm ?_)
  unfold CsO TabO csHd EvSl
  show _ = _ * (_ * (NtP nb ⟨[], []⟩ * (_ * Sl 102 3 (.slice none 0 0) 0 []))) * R
  ac_rfl
end
set_option maxRecDepth 100000 in
set_option maxHeartbeats 4000000 in
theorem csNew_no (n : Int) (w : World) (h : isGrp n = false) :
    Calls Tryd.prog 36 #[.int .i64 n] w fun e w' => e = .returned (.tuple #[.pointer none, errV 1]) ∧ w = w' := by
  have H := Lib.hid h
  clear h
  go_enter Tryd.func36, Tryd.ntmps36
  go_wp2_with fail
  refine (castGroup_any _ _).mono ?_
  rintro e w' ⟨rfl, rfl⟩
  rw [H.out]
  go_wp2
  go_ret2
  exact ⟨rfl, rfl⟩
set_option maxRecDepth 100000 in
set_option maxHeartbeats 4000000 in
theorem csNew_yes {w0 w : World} {R : HProp} (n : Nat) (hg : isGrp n = true) (h : Own w0 R w) :
    Calls Tryd.prog 36 #[.int .i64 n] w fun e w' => ∃ p, e = .returned (.tuple #[.pointer (some ⟨p, 0, none⟩), errV 0]) ∧ Own w0 (CsP p (csNew n) * R) w' := by
  have hn5 : 2 ≤ n ∧ n ≤ 5 := by simp [isGrp] at hg; omega
  have hm1 := mapsd_made
  have HG := Lib.hid hg; have H := Lib.hid h
  clear hg h
  go_enter Tryd.func36, Tryd.ntmps36
  go_wp2_with fail
  refine (castGroup_any _ _).mono ?_
  rintro e w' ⟨rfl, rfl⟩
  rw [HG.out]
  go_wp2_with fail
  refine (ntNew_any H.out).mono ?_
  rintro e w1 ⟨nb, rfl, ho⟩
  have h1 := ho.ms_new (enc := sK) (ok := I64) (f := sdRow) (val := sdV)
  obtain ⟨sb, hsb⟩ : ∃ b, b = w1.heap.size := ⟨_, rfl⟩
  rw [← hsb] at h1
  have h2 := h1.alloc (.cells #[.slice none 0 0, .pointer (some ⟨nb, 0, none⟩), .map (some sb), .slice none 0 0] 147)
  obtain ⟨p, hp⟩ : ∃ b, b = sb + 1 := ⟨_, rfl⟩
  rw [World.size_alloc, ← hsb, ← hp] at h2
  have HN : Hid (Own w0 (CsNn p nb sb (.slice none 0 0) [] * R) ((w1.alloc (.map #[] 0)).alloc (.cells #[.slice none 0 0, .pointer (some ⟨nb, 0, none⟩), .map (some sb), .slice none 0 0] 147))) := Lib.hid ((h2.sl_nil 52 1).perm (by
    unfold CsNn csHd
    simp only [starL, List.length_nil, List.map_nil]
    rw [emp_star]
    ac_rfl))
  clear h1 h2 ho
  have HSB := Lib.hid hsb; have HP := Lib.hid hp
  clear hsb hp
  go_upto_block 0 with fail
  rw [← HSB.out, show sb + 1 = p from HP.out.symm]
  go_wp2_with fail
  go_loopw [17] (fun iv wr => ∃ (k : Nat) (mv : Value) (rs : List CmR), k ≤ n ∧ iv = .int .i64 k ∧ Hid (rs.length = k ∧ rs.map (·.2) = (List.range k).map fun i : Nat => caNew (i : Int)) ∧ Hid (Own w0 (CsNn p nb sb mv rs * R) wr)) (fun iv _ => n - (intOf iv).toNat)
  case atStart => exact ⟨0, _, [], Nat.zero_le _, rfl, Lib.hid ⟨rfl, rfl⟩, HN⟩
  case round =>
    clear HN
    obtain ⟨k, mv, rs, hk, rfl, HRS, HPP⟩ := hrel
    by_cases hlt : k < n
    rotate_left
    · have hkn : k = n := by omega
      subst hkn
      go_wp2
      go_ret2
      exact ⟨_, rfl, csN_done (by have := HRS.out.1; omega) HRS.out.2 HPP.out⟩
    have hm : isMember (k : Int) = true := by simp [isMember]; omega
    have hrl : rs.length = k := HRS.out.1
    have HM := Lib.hid hm; have HRL := Lib.hid hrl
    clear hm hrl
    go_wp2_with fail
    refine (cwNew_yes (k : Int) HM.out HPP.out).mono ?_
    rintro e w2 ⟨q, rfl, ho⟩
    rw [errV0]
    have h1 := csN_app ho
    have c1 : w2.cell? ⟨p, 0, none⟩ = some mv := (h1.second.cell 0).trans rfl
    obtain ⟨ad, cp, hmv, _⟩ := Own.rd h1
    subst hmv
    have HAP := Lib.hid h1
    clear h1 ho
    go_wp2_with (at_builtin; refine wpList_app rfl _ _ 145 rfl 52 1 8 _ info_cm Tryd.underlying145 rfl (by decide) rfl (HAP.out.alloc' _) rfl (by rfl) (Rd_lit (by simp) (by unfold maxLen; omega)) (by intro u hu; simp at hu; subst hu; rfl) (by have := HRL.out; unfold maxLen; omega) (by have := HRL.out; omega) ?_; intro v' w3 ho3; obtain ⟨ad', cp', hv', _⟩ := Own.rd ho3; subst hv'; have g1 := ho3.second.cell 0; have g2 := ho3.second.free 0 none; have HW := Lib.hid (csN_push ho3); clear ho3)
    go_round
    case rel =>
      refine ⟨k + 1, _, _, by omega, by go_num, Lib.hid ⟨by simp [HRL.out], ?_⟩, HW⟩
      rw [List.map_append, HRS.out.2, List.range_succ, List.map_append]
      rfl
    case measure => simp [intOf]; omega
end Go.Proofs.YtldmdenojpnldaaDoor
