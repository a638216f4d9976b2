/- Contracts of package cast, continued: OnWay, History, Drop, Twice. -/
import Derived.Test.YtldmdenojpnldaaDoorCast
namespace Go.Proofs.YtldmdenojpnldaaDoor
set_option linter.unusedVariables false
set_option linter.unusedSimpArgs false
open Go.RowKit Go.Maps
set_option maxRecDepth 100000 in
set_option maxHeartbeats 4000000 in
theorem cloneEv_any {w0 w : World} {R : HProp} (v : Value) (l : List Ev) (hl : Evs w v l) (hb : l.length ≤ 1000000) (h : Own w0 R w) :
    Calls Tryd.prog 74 #[v] w fun e w' => ∃ v', e = .returned v' ∧ Own w0 (EvSl v' l * R) w' := by
  obtain ⟨⟨ad, cap, rfl, hlc, hcap, hn, hc⟩, hi⟩ := id hl
  cases ad with
  | none =>
    have h0 := hn rfl
    subst h0
    have hl0 : l = [] := List.eq_nil_of_length_eq_zero (by omega)
    subst hl0
    clear hn hc hi hl hlc hcap hb
    have hnil := fun (w : World) => Lib.run_eql_slice_nil (P := Tryd.prog) w 88 102 none 0 0 0 0 Tryd.underlying88
    go_enter Tryd.func74, Tryd.ntmps74
    go_wp2
    go_ret
    exact ⟨_, rfl, h.sl_nil _ _⟩
  | some a =>
    have hnil := fun (w : World) => Lib.run_eql_slice_nil (P := Tryd.prog) w 88 102 (some a) l.length cap 0 0 Tryd.underlying88
    have H := Lib.hid h
    have HL := Lib.hid hl
    have HS : Hid (Own w0 (Sl 102 3 (.slice (some ⟨w.heap.size, 0, none⟩) 0 0) 0 [] * R) (w.alloc (.cells #[] 102))) := Lib.hid (Own.sl_mk (cs := #[]) (Nat.le_refl _) (Nat.zero_le _) rfl (Nat.le_refl _) (fun i hi => by simp at hi) (h.alloc _))
    clear hn hc hi hl h
    go_enter Tryd.func74, Tryd.ntmps74
    go_wp2_with (at_builtin; refine wpList_app rfl _ _ 88 rfl 102 3 24 _ info_ev Tryd.underlying88 rfl (by decide) rfl HS.out rfl (cells_len evCells 3 (fun _ => rfl) _) ((HL.out.1).alloc _) (ev_one _) (by unfold maxLen; omega) (by omega) ?_; intro v' w1 hown')
    go_ret
    exact ⟨_, rfl, by unfold EvSl; simpa using hown'⟩
section
variable {w0 w : World} {p rb off cap nb sb : Nat} {hv : Value} {rs : List CmR} {ss : List SRow} {c : Cs} {R : HProp}
/-- A net put back. -/
theorem Own.cs_net_put {nt : Nt} (h : Own w0 (NtP nb nt * (csHd p nb sb (.slice (some ⟨rb, off, none⟩) rs.length cap) hv * (TabO cmP cmV 52 rb off cap rs * (MpS sK I64 sdRow sdV sb ss * (EvSl hv c.hist * R))))) w) : Own w0 (CsO p rb off cap nb sb hv rs ss { c with net := nt } * R) w := h.perm (by unfold CsO; ac_rfl)
end
set_option maxRecDepth 100000 in
set_option maxHeartbeats 4000000 in
theorem csOnWay_any {w0 w : World} {R : HProp} (p : Nat) (c : Cs) (hI : CsI c) (h : Own w0 (CsP p c * R) w) :
    Calls Tryd.prog 38 #[.pointer (some ⟨p, 0, none⟩)] w fun e w' => ∃ v', e = .returned v' ∧ Own w0 (PkSl v' c.net.all * (CsP p c * R)) w' := by
  obtain ⟨rb, off, cap, nb, sb, hv, rs, ss, he, ho⟩ := h.cs_open
  obtain ⟨c0, c1, c2, c3, _⟩ := ho.cs_facts
  have HO := Lib.hid ho.cs_net
  have HE := Lib.hid he
  clear he ho
  have H := Lib.hid h; have HI := Lib.hid hI
  clear h hI
  go_enter Tryd.func38, Tryd.ntmps38
  go_wp2_with fail
  refine (ntAll_any nb c.net HI.out.net HO.out).mono ?_
  rintro e w2 ⟨v', rfl, ho⟩
  have HO2 := Lib.hid ho
  clear ho c0 c1 c2 c3
  go_wp2
  go_ret
  exact ⟨v', rfl, (Own.cs_close (c := c) HE.out (Own.cs_net_put (c := c) HO2.out.to6)).second⟩
set_option maxRecDepth 100000 in
set_option maxHeartbeats 4000000 in
theorem csDrop_any {w0 w : World} {R : HProp} (p : Nat) (c : Cs) (i : Int) (hI : CsI c) (h : Own w0 (CsP p c * R) w) :
    Calls Tryd.prog 41 #[.pointer (some ⟨p, 0, none⟩), .int .i64 i] w fun e w' => e = .returned (errV (ntDropErr c.net i)) ∧ Own w0 (CsP p (csDrop c i) * R) w' := by
  obtain ⟨rb, off, cap, nb, sb, hv, rs, ss, he, ho⟩ := h.cs_open
  obtain ⟨c0, c1, c2, c3, _⟩ := ho.cs_facts
  have HO := Lib.hid ho.cs_net
  have HE := Lib.hid he
  clear he ho
  have H := Lib.hid h; have HI := Lib.hid hI
  clear h hI
  go_enter Tryd.func41, Tryd.ntmps41
  go_wp2_with fail
  refine (ntDrop_any nb c.net i HI.out.net HO.out).mono ?_
  rintro e w2 ⟨rfl, ho⟩
  have HO2 := Lib.hid ho
  clear ho c0 c1 c2 c3
  go_wp2
  go_ret
  exact ⟨rfl, Own.cs_close (c := csDrop c i) HE.out (Own.cs_net_put (c := c) HO2.out)⟩
set_option maxRecDepth 100000 in
set_option maxHeartbeats 4000000 in
theorem csTwice_any {w0 w : World} {R : HProp} (p : Nat) (c : Cs) (i : Int) (hI : CsI c) (h : Own w0 (CsP p c * R) w) :
    Calls Tryd.prog 42 #[.pointer (some ⟨p, 0, none⟩), .int .i64 i] w fun e w' => e = .returned (errV (ntTwiceErr c.net i)) ∧ Own w0 (CsP p (csTwice c i) * R) w' := by
  obtain ⟨rb, off, cap, nb, sb, hv, rs, ss, he, ho⟩ := h.cs_open
  obtain ⟨c0, c1, c2, c3, _⟩ := ho.cs_facts
  have HO := Lib.hid ho.cs_net
  have HE := Lib.hid he
  clear he ho
  have H := Lib.hid h; have HI := Lib.hid hI
  clear h hI
  go_enter Tryd.func42, Tryd.ntmps42
  go_wp2_with fail
  refine (ntTwice_any nb c.net i HI.out.net HO.out).mono ?_
  rintro e w2 ⟨rfl, ho⟩
  have HO2 := Lib.hid ho
  clear ho c0 c1 c2 c3
  go_wp2
  go_ret
  exact ⟨rfl, Own.cs_close (c := csTwice c i) HE.out (Own.cs_net_put (c := c) HO2.out)⟩
set_option maxRecDepth 100000 in
set_option maxHeartbeats 4000000 in
theorem csHistory_any {w0 w : World} {R : HProp} (p : Nat) (c : Cs) (hI : CsI c) (hb : c.hist.length ≤ 100000) (h : Own w0 (CsP p c * R) w) :
    Calls Tryd.prog 46 #[.pointer (some ⟨p, 0, none⟩)] w fun e w' => ∃ v', e = .returned v' ∧ Own w0 (EvSl v' c.hist * (CsP p c * R)) w' := by
  obtain ⟨rb, off, cap, nb, sb, hv, rs, ss, he, ho⟩ := h.cs_open
  obtain ⟨c0, c1, c2, c3, _⟩ := ho.cs_facts
  have hev : Evs w hv c.hist := EvSl_reads hI.hist _ ho.cs_hist
  obtain ⟨ad, cp, hvs, _, _⟩ := hev.shape
  have HEV := Lib.hid hev
  subst hvs
  clear he ho hev
  have H := Lib.hid h; have HI := Lib.hid hI
  clear h hI
  go_enter Tryd.func46, Tryd.ntmps46
  go_wp2_with fail
  refine (cloneEv_any _ c.hist HEV.out (by omega) H.out).mono ?_
  rintro e w2 ⟨v', rfl, ho⟩
  have HO2 := Lib.hid ho
  clear ho c0 c1 c2 c3
  go_wp2
  go_ret
  exact ⟨v', rfl, HO2.out⟩
end Go.Proofs.YtldmdenojpnldaaDoor
