/- Contracts of package agree, continued: New. -/
import Derived.Test.YtldmdenojpnldaaDoorAgree5
namespace Go.Proofs.YtldmdenojpnldaaDoor
set_option linter.unusedVariables false
set_option linter.unusedSimpArgs false
open Go.RowKit Go.Maps
theorem info_agm : (Tryd.prog.info? 163).map (fun i => (i.zero, i.size, i.bytes)) = some (some (.pointer none), 1, 8) := by kernel_rfl
theorem mapgv_made : ∀ w, (Instr.makeMap 158 none).run Tryd.prog w = .ok (.map (some w.heap.size)) (w.alloc (.map #[] 0)) := fun _ => by kernel_rfl
theorem mapwho_made : ∀ w, (Instr.makeMap 159 none).run Tryd.prog w = .ok (.map (some w.heap.size)) (w.alloc (.map #[] 0)) := fun _ => by kernel_rfl
theorem mapwt_made : ∀ w, (Instr.makeMap 164 none).run Tryd.prog w = .ok (.map (some w.heap.size)) (w.alloc (.map #[] 0)) := fun _ => by kernel_rfl
abbrev agHd2 (p gb wb : Nat) (mv : Value) : HProp := blk p (.cells #[mv, .map (some gb), .map (some wb)] 162 (0, 0))
/-- A group in the making. -/
def AgNn (p gb wb : Nat) (mv : Value) (rs : List AgR) : HProp := agHd2 p gb wb mv * (Sl 163 1 mv rs.length (rs.map agV) * (starL agM rs * (MpS iK I64 stP Prod.fst gb [] * MpS iK I64 rowP Prod.fst wb [])))
section
variable {w0 w : World} {p gb wb : Nat} {mv : Value} {rs : List AgR} {R : HProp}
theorem agN_open (h : Own w0 (AgNn p gb wb mv rs * R) w) : Own w0 (agHd2 p gb wb mv * (Sl 163 1 mv rs.length (rs.map agV) * (starL agM rs * (MpS iK I64 stP Prod.fst gb [] * (MpS iK I64 rowP Prod.fst wb [] * R))))) w := h.perm (by unfold AgNn; ac_rfl)
theorem agN_app (o : Obj) (h : Own w0 (AgNn p gb wb mv rs * R) w) :
    Own w0 (Sl 163 1 mv rs.length (rs.map agV) * (agHd2 p gb wb mv * (starL agM rs * (MpS iK I64 stP Prod.fst gb [] * (MpS iK I64 rowP Prod.fst wb [] * (agM ⟨w.heap.size + 2, w.heap.size, w.heap.size + 1, .slice none 0 0, ⟨0, [], [], []⟩⟩ * R))))))
      ((((w.alloc (.map #[] 0)).alloc (.map #[] 0)).alloc (.cells #[.int .i64 0, .map (some w.heap.size), .map (some (w.heap.size + 1)), .slice none 0 0] 167)).alloc o) := by
  have h1 := ((((h.map_new (enc := fun n : Int => Value.int .i64 n) (ok := I64)).map_new (enc := fun n : Int => Value.int .i64 n) (ok := I64)).alloc (.cells #[.int .i64 0, .map (some w.heap.size), .map (some (w.heap.size + 1)), .slice none 0 0] 167)).sl_nil 3 1).perm (show _ = Sl 163 1 mv rs.length (rs.map agV) * (agHd2 p gb wb mv * (starL agM rs * (MpS iK I64 stP Prod.fst gb [] * (MpS iK I64 rowP Prod.fst wb [] * (agM ⟨w.heap.size + 2, w.heap.size, w.heap.size + 1, .slice none 0 0, ⟨0, [], [], []⟩⟩ * R))))) by
    unfold AgNn agM agBlk IntSl IMp
    simp only [World.size_alloc, setM, mvals, List.map_nil, List.length_nil]
    ac_rfl)
  exact h1.alloc' o
theorem agN_push {q mb1 mb2 : Nat} {hv v' : Value} {m : AgM}
    (h : Own w0 (Sl 163 1 v' (rs.length + 1) (rs.map agV ++ [.pointer (some ⟨q, 0, none⟩)]) * (agHd2 p gb wb mv * (starL agM rs * (MpS iK I64 stP Prod.fst gb [] * (MpS iK I64 rowP Prod.fst wb [] * (agM ⟨q, mb1, mb2, hv, m⟩ * R)))))) w) :
    Own w0 (AgNn p gb wb v' (rs ++ [⟨q, mb1, mb2, hv, m⟩]) * R) (w.setCell ⟨p, 0, none⟩ v') := by
  have h1 := h.second.setCell (i := 0) (v := v')
  refine h1.perm ?_
  unfold AgNn agHd2
  rw [starL_snoc, List.length_append, List.map_append]
  simp only [List.length_singleton, List.map_cons, List.map_nil]
  show (blk p (.cells #[v', .map (some gb), .map (some wb)] 162 (0, 0)) * _ : HProp) = _
  unfold agV
  ac_rfl
theorem agN_done {n : Nat} (hn : 0 < rs.length) (hl : rs.map (·.m) = List.replicate n ⟨0, [], [], []⟩) (h : Own w0 (AgNn p gb wb mv rs * R) w) : Own w0 (AgP p (agNew n) * R) w := by
  obtain ⟨b, off, cap, rfl, h2⟩ := (agN_open h).second.slAt (by simpa using hn)
  refine Own.ag_close (rb := b) (off := off) (cap := cap) (gb := gb) (wb := wb) (rs := rs) (gs := []) (ws := []) ⟨hl, rfl, rfl⟩ (h2.perm ?_)
  unfold AgO TabO agHd agHd2
  ac_rfl
end
set_option maxRecDepth 100000 in
set_option maxHeartbeats 4000000 in
theorem agNew_no (n : Int) (w : World) (h : isGroup n = false) :
    Calls Tryd.prog 48 #[.int .i64 n] w fun e w' => e = .returned (.tuple #[.pointer none, errV 1]) ∧ w = w' := by
  have H := Lib.hid h
  clear h
  go_enter Tryd.func48, Tryd.ntmps48
  go_wp2_with fail
  refine (group_any _ _).mono ?_
  rintro e w' ⟨rfl, rfl⟩
  rw [H.out]
  go_wp2
  go_ret2
  exact ⟨rfl, rfl⟩
set_option maxRecDepth 100000 in
set_option maxHeartbeats 4000000 in
theorem agNew_yes {w0 w : World} {R : HProp} (n : Nat) (hg : isGroup n = true) (h : Own w0 R w) :
    Calls Tryd.prog 48 #[.int .i64 n] w fun e w' => ∃ p, e = .returned (.tuple #[.pointer (some ⟨p, 0, none⟩), errV 0]) ∧ Own w0 (AgP p (agNew n) * R) w' := by
  have hn5 : 2 ≤ n ∧ n ≤ 5 := by simp [isGroup] at hg; omega
  have hm1 := mapgv_made
  have hm2 := mapwho_made
  have hm3 := mapwt_made
  have hm4 := mapint_made
  have h1 := (h.ms_new (enc := iK) (ok := I64) (f := stP) (val := Prod.fst)).ms_new (enc := iK) (ok := I64) (f := rowP) (val := Prod.fst)
  obtain ⟨gb, hgb⟩ : ∃ b, b = w.heap.size := ⟨_, rfl⟩
  rw [World.size_alloc, ← hgb] at h1
  have h2 := h1.alloc (.cells #[.slice none 0 0, .map (some gb), .map (some (gb + 1))] 162)
  obtain ⟨p, hp⟩ : ∃ b, b = gb + 2 := ⟨_, rfl⟩
  rw [World.size_alloc, World.size_alloc, ← hgb, show gb + 1 + 1 = gb + 2 from rfl, ← hp] at h2
  have HN : Hid (Own w0 (AgNn p gb (gb + 1) (.slice none 0 0) [] * R) (((w.alloc (.map #[] 0)).alloc (.map #[] 0)).alloc (.cells #[.slice none 0 0, .map (some gb), .map (some (gb + 1))] 162))) := Lib.hid ((h2.sl_nil 163 1).perm (by
    unfold AgNn agHd2
    simp only [starL, List.length_nil, List.map_nil]
    rw [emp_star]
    ac_rfl))
  clear h1 h2
  have HG := Lib.hid hg; have H := Lib.hid h; have HGB := Lib.hid hgb; have HP := Lib.hid hp
  clear hg h hgb hp
  go_enter Tryd.func48, Tryd.ntmps48
  go_wp2_with fail
  refine (group_any _ _).mono ?_
  rintro e w' ⟨rfl, rfl⟩
  rw [HG.out]
  go_upto_block 0 with fail
  rw [← HGB.out, show gb + 1 + 1 = p from HP.out.symm]
  go_wp2_with fail
  go_loopw [14] (fun i wr => ∃ (k : Nat) (mv : Value) (rs : List AgR), k ≤ n ∧ i = .int .i64 k ∧ Hid (rs.length = k ∧ rs.map (·.m) = List.replicate k ⟨0, [], [], []⟩) ∧ Hid (Own w0 (AgNn p gb (gb + 1) mv rs * R) wr)) (fun i _ => n - (intOf i).toNat)
  case atStart => exact ⟨0, _, [], Nat.zero_le _, rfl, Lib.hid ⟨rfl, rfl⟩, HN⟩
  case round =>
    clear HN
    obtain ⟨k, mv, rs, hk, rfl, HRS, HPP⟩ := hrel
    by_cases hlt : k < n
    rotate_left
    · have hkn : k = n := by omega
      subst hkn
      go_wp2
      go_ret2
      exact ⟨_, rfl, agN_done (by have := HRS.out.1; omega) HRS.out.2 HPP.out⟩
    have h1 := agN_open HPP.out
    have c1 : wr.cell? ⟨p, 0, none⟩ = some mv := (h1.cell 0).trans rfl
    have hrl : rs.length = k := HRS.out.1
    obtain ⟨ad, cp, hmv, _⟩ := Own.rd h1.second
    subst hmv
    have HRL := Lib.hid hrl
    clear hrl
    clear h1
    go_wp2_with (at_builtin; refine wpList_app rfl _ _ 160 rfl 163 1 8 _ info_agm Tryd.underlying160 rfl (by decide) rfl (agN_app _ HPP.out) rfl (by rfl) (Rd_lit (by simp) (by unfold maxLen; omega)) (by intro u hu; simp at hu; subst hu; rfl) (by have := HRL.out; unfold maxLen; omega) (by have := HRL.out; omega) ?_; intro v' w2 ho2; obtain ⟨ad', cp', hv', _⟩ := Own.rd ho2; subst hv'; have g1 := ho2.second.cell 0; have g2 := ho2.second.free 0 none; have HW := Lib.hid (agN_push ho2); clear ho2)
    go_round
    case rel =>
      refine ⟨k + 1, _, _, by omega, by go_num, Lib.hid ⟨by simp [HRL.out], ?_⟩, HW⟩
      rw [List.map_append, HRS.out.2]
      exact (List.replicate_succ' ..).symm
    case measure => simp [intOf]; omega
end Go.Proofs.YtldmdenojpnldaaDoor
