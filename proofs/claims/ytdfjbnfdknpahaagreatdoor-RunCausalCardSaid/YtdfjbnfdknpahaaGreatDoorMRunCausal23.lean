/- run's clock: the vector of an event. -/
import Derived.Test.YtdfjbnfdknpahaaGreatDoorMRunCausal17
import Derived.Test.YtdfjbnfdknpahaaGreatDoorMRunCausal22
import Derived.Test.YtdfjbnfdknpahaaGreatDoorMRunCausal0
import Derived.Test.YtdfjbnfdknpahaaGreatDoorProg
import Derived.Lib.Itoa
import Derived.Lib.ItoaNum
import Derived.Lib.ItoaWalk
import Derived.Lib.LastIndexByte
import Derived.Lib.Bytealg
import Derived.Lib.Strings
import Derived.Lib.Walk
import Derived.Test.YtdfjbnfdknpahaaGreatDoorMRunCausal9
import Derived.Test.YtdfjbnfdknpahaaGreatDoorMRunCausal16
import Derived.Test.YtdfjbnfdknpahaaGreatDoorMRunCausal6
import Derived.Shelf.Strings.SplitCore
namespace Go.Proofs.YtdfjbnfdknpahaaGreatDoor
set_option linter.unusedVariables false
set_option linter.unusedSimpArgs false
open Go.RowKit
abbrev DkO (b p : Nat) : HProp := blk b (.cells #[.pointer (some ⟨p, 0, none⟩)] 38 (0, 0))
abbrev dkV (p : Nat) : Value := .agg #[.pointer (some ⟨p, 0, none⟩)]
theorem Own.dk {w0 w : World} {b p : Nat} {R : HProp} (h : Own w0 (DkO b p * R) w) : w.cell? ⟨b, 0, none⟩ = some (.pointer (some ⟨p, 0, none⟩)) := (h.cell 0).trans rfl
theorem CZ.h60 {c : Cs} (h : CZ c) : c.hist.length ≤ 100000 := Nat.le_trans h.len (by decide)
theorem CZ.r0 {c : Cs} (h : CZ c) : (histR c.hist).2 = 0 := h.right
theorem CZ.rH {c : Cs} (h : CZ c) : RightH c.hist := (histR_ok _).1 h.right
theorem vecs_small {h : List Ev} (hr : RightH h) : ∀ v ∈ vecsR h, Small v := by
  intro v hv
  have h1 := (vecState_in hr h.length (Nat.le_refl _)).1 v hv
  have h2 := hr.1
  unfold vecIn at h1
  exact ⟨by omega, fun x hx => by have := h1.2 x hx; omega⟩
theorem CZ.vecE {c : Cs} (h : CZ c) : vecsE c.hist = vecsR c.hist := by unfold vecsE; rw [if_pos h.r0]
theorem CZ.vecL {c : Cs} (h : CZ c) : (vecsE c.hist).length ≤ 60 := by
  rw [h.vecE]; unfold vecsR; rw [(vecState_len c.hist c.hist.length).1]; exact h.len
def clkB (c : Cs) (a : Nat) : List UInt8 := if (vecsE c.hist).length ≤ a then [] else rowT ((vecsE c.hist).getD a [])
def clkE (c : Cs) (a : Nat) : Nat := if (vecsE c.hist).length ≤ a then 1 else 0
set_option maxRecDepth 100000 in
set_option maxHeartbeats 4000000 in
theorem pclock_any {w0 w : World} {R : HProp} (hW : RunW w0) (p : Nat) (c : Cs) (hz : CZ c) (i : Nat) (h : Own w0 (CsP p c * R) w) :
    Calls Tryz.prog 61 #[dkV p, .int .i64 (i : Nat)] w fun e w' => e = .returned (.tuple #[.string (tx (clkB c i)), errV (clkE c i)]) ∧ Own w0 (CsP p c * R) w' := by
  obtain ⟨b1, hb_b1⟩ : ∃ zz_, zz_ = (w).heap.size := ⟨_, rfl⟩
  obtain ⟨w1, hw_w1⟩ : ∃ zz_, zz_ = (w).alloc (.cells #[.pointer (some ⟨p, 0, none⟩)] 38 (0, 0)) := ⟨_, rfl⟩
  have h_H1 := (h).alloc (.cells #[.pointer (some ⟨p, 0, none⟩)] 38 (0, 0))
  rw [← hb_b1, ← hw_w1] at h_H1
  have H1 := Lib.hid h_H1
  clear h_H1
  have c1 := Own.dk H1.out
  have ho1 : Own w0 (CsP p c * (DkO b1 p * R)) w1 := H1.out.perm (by ac_rfl)
  have hE0 := hz.r0
  obtain ⟨CB, hCB⟩ : ∃ X, X = clkB c i := ⟨_, rfl⟩
  obtain ⟨CE, hCE⟩ : ∃ X, X = clkE c i := ⟨_, rfl⟩
  rw [← hCB, ← hCE]
  have H := Lib.hid h; have HO1 := Lib.hid ho1; have HZ := Lib.hid hz; have HCB := Lib.hid hCB; have HCE := Lib.hid hCE
  clear h ho1 hz hCB hCE
  go_enter Tryz.func61, Tryz.ntmps61
  go_upto_region 1 with fail
  rw [← hb_b1, ← hw_w1]
  clear hb_b1 hw_w1
  go_wp2_with fail
  refine (csHistory_any p c HZ.out.i HZ.out.h60 HO1.out).mono ?_
  rintro e w2 ⟨v2, rfl, ho⟩
  have hrd : ReadsE w0 (EvSl v2 c.hist * (CsP p c * (DkO b1 p * R))) v2 c.hist := EvSl_reads HZ.out.i.hist
  have HO2 := Lib.hid ho
  clear ho
  have HRD := Lib.hid hrd
  clear hrd
  go_wp2_with fail
  refine (vectors_any v2 c.hist HO2.out HRD.out).mono ?_
  rintro e w3 ⟨v3, rs, rfl, hrs, ho⟩
  rw [hE0]
  have e0 : errV 0 = .nilIface := rfl
  rw [e0]
  have HO3 : Hid (Own w0 (LSl v3 rs * (CsP p c * R)) w3) := Lib.hid ((ho.perm (show _ = DkO b1 p * (EvSl v2 c.hist * (LSl v3 rs * (CsP p c * R))) by ac_rfl)).drop.drop)
  clear ho
  obtain ⟨n, hn⟩ : ∃ n, n = rs.length := ⟨_, rfl⟩
  have hnl : (vecsE c.hist).length = n := by rw [← hrs, List.length_map, hn]
  have hn60 : n ≤ 60 := by rw [← hnl]; exact HZ.out.vecL
  have hsh : ∃ ad cap, v3 = .slice ad n cap ∧ n ≤ cap ∧ cap ≤ 9223372036854775807 := by
    have h1 : Own w0 (Sl 57 1 v3 rs.length (rs.map (·.1)) * (starL rowP rs * (CsP p c * R))) w3 := HO3.out.perm (by unfold LSl; ac_rfl)
    obtain ⟨ad, cap, e, h2, h3, _⟩ := h1.rd
    rw [← hn] at e h2
    exact ⟨ad, cap, e, h2, h3⟩
  obtain ⟨ad, cap, rfl, q1, q2⟩ := hsh
  by_cases hi : n ≤ i
  · obtain rfl : CB = [] := by rw [HCB.out]; unfold clkB; rw [if_pos (by rw [hnl]; exact hi)]
    obtain rfl : CE = 1 := by rw [HCE.out]; unfold clkE; rw [if_pos (by rw [hnl]; exact hi)]
    have HN := Lib.hid hn; have HNL := Lib.hid hnl; have HRS := Lib.hid hrs
    clear hn hnl hrs
    go_wp2_with fail
    go_ret2
    exact ⟨rfl, HO3.out.drop⟩
  · have hil : i < rs.length := by omega
    obtain ⟨rv, l, hrl⟩ : ∃ rv l, rs[i] = (rv, l) := ⟨_, _, rfl⟩
    have hk : rs[i]? = some (rv, l) := by rw [List.getElem?_eq_getElem hil, hrl]
    have hll : (vecsE c.hist).getD i [] = l := by
      rw [← hrs, List.getD_eq_getElem?_getD, List.getElem?_map, hk]; rfl
    have hsm : Small l := vecs_small HZ.out.rH l (by
      rw [← HZ.out.vecE, ← hrs]
      exact List.mem_map.2 ⟨_, List.getElem_mem hil, by rw [hrl]⟩)
    have hI : ∀ x ∈ l, I64 x := fun x hx => by have := hsm.2 x hx; unfold I64; omega
    obtain rfl : CB = rowT l := by rw [HCB.out]; unfold clkB; rw [if_neg (by rw [hnl]; exact hi), hll]
    obtain rfl : CE = 0 := by rw [HCE.out]; unfold clkE; rw [if_neg (by rw [hnl]; exact hi)]
    have hcall := pnumbers_any hW rv l hsm (fun w ho => (Own.ls_row ho hk hI).choose_spec.choose_spec.choose_spec.2.2.2.2) HO3.out
    obtain ⟨T, hT⟩ : ∃ T, T = tx (rowT l) := ⟨_, rfl⟩
    rw [← hT] at hcall
    obtain ⟨b, off, cap', hv, q3, q4, hcell, _⟩ := Own.ls_row HO3.out hk hI
    cases hv
    have HN := Lib.hid hn; have HNL := Lib.hid hnl; have HRS := Lib.hid hrs; have HK := Lib.hid hk; have HRL := Lib.hid hrl; have HLL := Lib.hid hll; have HSM := Lib.hid hsm; have HI := Lib.hid hI; have HCALL := Lib.hid hcall; have HT := Lib.hid hT
    clear hn hnl hrs hk hrl hll hsm hI hcall hT
    go_wp2_with fail
    refine HCALL.out.mono ?_
    rintro e w4 ⟨rfl, ho⟩
    have HO4 := Lib.hid ho
    clear ho
    go_wp2_with fail
    go_ret2
    exact ⟨by rw [HT.out]; rfl, HO4.out.drop⟩
end Go.Proofs.YtdfjbnfdknpahaaGreatDoor
/- strconv.Itoa of a small number; strings.LastIndex and strings.Count at one byte. -/
namespace Go.Proofs.YtdfjbnfdknpahaaGreatDoor
set_option linter.unusedVariables false
set_option linter.unusedSimpArgs false
open Go.RowKit
def digB (i : Nat) : ByteArray := ⟨(Lib.decDigits i).toArray⟩
theorem small_ba (x : ByteArray) (l : List UInt8) (h : x.data.toList = l) : x = ⟨l.toArray⟩ := by
  subst h
  cases x
  simp
set_option maxRecDepth 100000 in
set_option maxHeartbeats 4000000 in
theorem stSmall (i : Nat) (h : i < 100) (w : World) :
    Calls Tryz.prog 144 #[.int .i64 (i : Int)] w fun e w' => e = .returned (.string (digB i)) ∧ w = w' := by
  go_enter Tryz.func144, Tryz.ntmps144
  go_name_bytes_deep 45 SM hSM
  have eSM : SM = Lib.smalls := by rw [← hSM]; decide +kernel
  subst eSM
  clear hSM
  go_name_bytes_deep 30 DG hDG
  have eDG : DG = Lib.digits36 := by rw [← hDG]; decide +kernel
  subst eDG
  clear hDG
  by_cases h10 : i < 10
  · have hsl : ∀ w, (Instr.slice 9 (.string Lib.digits36) (some (.int .i64 (i : Int))) (some (.int .i64 ((i : Int) + 1))) none).run Tryz.prog w = .ok (.string (Lib.digits36.extract i (i + 1))) w := fun w => by
      rw [run_slice_string w 9 Lib.digits36 .i64 .i64 _ _ Tryz.underlying9 (by omega) (by omega) (by rw [Lib.digits36_size]; omega), show ((i : Int)).toNat = i by omega, show ((i : Int) + 1).toNat = i + 1 by omega]
    go_wp2
    go_ret
    refine ⟨?_, rfl⟩
    show Ending.returned (Value.string (Lib.digits36.extract i (i + 1))) = _
    rw [small_ba (Lib.digits36.extract i (i + 1)) (Lib.decDigits i) (by rw [Lib.extract_data]; exact Lib.digits36_piece h10)]
    rfl
  · have hsl : ∀ w, (Instr.slice 9 (.string Lib.smalls) (some (.int .i64 ((i : Int) * 2))) (some (.int .i64 ((i : Int) * 2 + 2))) none).run Tryz.prog w = .ok (.string (Lib.smalls.extract (i * 2) (i * 2 + 2))) w := fun w => by
      rw [run_slice_string w 9 Lib.smalls .i64 .i64 _ _ Tryz.underlying9 (by omega) (by omega) (by rw [Lib.smalls_size]; omega), show ((i : Int) * 2).toNat = i * 2 by omega, show ((i : Int) * 2 + 2).toNat = i * 2 + 2 by omega]
    go_wp2
    go_ret
    refine ⟨?_, rfl⟩
    show Ending.returned (Value.string (Lib.smalls.extract (i * 2) (i * 2 + 2))) = _
    rw [small_ba (Lib.smalls.extract (i * 2) (i * 2 + 2)) (Lib.decDigits i) (by rw [Lib.extract_data]; exact Lib.smalls_piece h10 h)]
    rfl
set_option maxRecDepth 100000 in
set_option maxHeartbeats 4000000 in
theorem stFormat (i : Nat) (h : i < 100) (w : World) :
    Calls Tryz.prog 121 #[.int .i64 (i : Int), .int .i64 10] w fun e w' => e = .returned (.string (digB i)) ∧ w = w' := by
  have i0 : (0 : Int) ≤ (i : Int) := by omega
  have i1 : (i : Int) < 100 := by omega
  go_enter Tryz.func121, Tryz.ntmps121
  go_wp2_with fail
  refine (stSmall i h _).mono ?_
  rintro e w' ⟨rfl, rfl⟩
  go_wp2
  go_ret
  exact ⟨rfl, rfl⟩
set_option maxRecDepth 100000 in
set_option maxHeartbeats 4000000 in
theorem stItoa1 (i : Nat) (h : i < 100) (w : World) :
    Calls Tryz.prog 105 #[.int .i64 (i : Int)] w fun e w' => e = .returned (.string (digB i)) ∧ w = w' := by
  go_enter Tryz.func105, Tryz.ntmps105
  go_wp2_with fail
  refine (stFormat i h _).mono ?_
  rintro e w' ⟨rfl, rfl⟩
  go_wp2
  go_ret
  exact ⟨rfl, rfl⟩
set_option maxRecDepth 100000 in
set_option maxHeartbeats 4000000 in
theorem stItoa (i : Nat) (h : i < 100) (w : World) :
    Calls Tryz.prog 79 #[.int .i64 (i : Int)] w fun e w' => e = .returned (.string (digB i)) ∧ w = w' := by
  go_enter Tryz.func79, Tryz.ntmps79
  go_wp2_with fail
  refine (stItoa1 i h _).mono ?_
  rintro e w' ⟨rfl, rfl⟩
  go_wp2
  go_ret
  exact ⟨rfl, rfl⟩
theorem byteBang (s : ByteArray) (j : Nat) (hj : j < s.size) : s.data[j]! = s[j] := by
  rw [getElem!_pos s.data j (by simpa using hj)]; rfl
end Go.Proofs.YtdfjbnfdknpahaaGreatDoor
/- run's way: what is on it. -/
namespace Go.Proofs.YtdfjbnfdknpahaaGreatDoor
set_option linter.unusedVariables false
set_option linter.unusedSimpArgs false
open Go.RowKit
abbrev PbO (b : Nat) (x y z : Int) : HProp := blk b (.cells #[.int .i64 x, .int .i64 y, .int .i64 z] 79 (0, 0))
theorem Own.pb {w0 w : World} {b : Nat} {x y z : Int} {R : HProp} (h : Own w0 (PbO b x y z * R) w) : w.cell? ⟨b, 0, none⟩ = some (.int .i64 x) ∧ w.cell? ⟨b, 1, none⟩ = some (.int .i64 y) ∧ w.cell? ⟨b, 2, none⟩ = some (.int .i64 z) :=
  ⟨(h.cell 0).trans rfl, (h.cell 1).trans rfl, (h.cell 2).trans rfl⟩
theorem pk_words {ps : List Ev} (h : ∀ p ∈ ps, pkErr p = 0) : ∀ x ∈ ps.map pkB, x.length ≤ 200 := fun x hx => by
  obtain ⟨p, hp, rfl⟩ := List.mem_map.1 hx
  obtain ⟨h1, h2, h3, _⟩ := pkErr0 (h p hp)
  simp [isMember] at h1 h2
  simp [isWord] at h3
  have d1 := (dec_len p.1.toNat).2
  have d2 := (dec_len p.2.1.toNat).2
  have d3 := (dec_len p.2.2.toNat).2
  unfold pkB
  simp only [List.length_append, List.length_cons, List.length_nil]
  omega
set_option maxRecDepth 100000 in
set_option maxHeartbeats 4000000 in
theorem pway_any {w0 w : World} {R : HProp} (p : Nat) (c : Cs) (hz : CZ c) (h : Own w0 (CsP p c * R) w) :
    Calls Tryz.prog 57 #[dkV p] w fun e w' => e = .returned (.string (tx (wayT c.net.all))) ∧ Own w0 (CsP p c * R) w' := by
  obtain ⟨ps, hps⟩ : ∃ ps, ps = c.net.all := ⟨_, rfl⟩
  have hok : ∀ q ∈ ps, pkErr q = 0 := by rw [hps]; exact hz.i.net.ok
  have hgood : ∀ q ∈ ps, goodEv q := by rw [hps]; exact hz.i.net.good
  have hlen : ps.length ≤ 40 := by rw [hps]; exact hz.i.net.len
  rw [← hps]
  obtain ⟨n, hn⟩ : ∃ n, n = ps.length := ⟨_, rfl⟩
  rw [← hn] at hlen
  have hrow : ∀ (v : Value) (w2 : World) (R' : HProp), Own w0 (StSl v (ps.map pkB) * R') w2 → Calls Tryz.prog 80 #[v] w2 fun e w' => e = .returned (.string (tx (wayT ps))) ∧ Own w0 (StSl v (ps.map pkB) * R') w' := fun v w2 R' ho => by
    have h3 : (ps.map pkB).length = ps.length := List.length_map ..
    have h4 := joinB_len (pk_words hok)
    exact prow_any v (ps.map pkB) (by omega) (by rw [h3] at h4; omega) ho
  obtain ⟨T, hT⟩ : ∃ T, T = tx (wayT ps) := ⟨_, rfl⟩
  rw [← hT] at hrow ⊢
  obtain ⟨b1, hb_b1⟩ : ∃ zz_, zz_ = (w).heap.size := ⟨_, rfl⟩
  obtain ⟨w1, hw_w1⟩ : ∃ zz_, zz_ = (w).alloc (.cells #[.pointer (some ⟨p, 0, none⟩)] 38 (0, 0)) := ⟨_, rfl⟩
  have h_H1 := (h).alloc (.cells #[.pointer (some ⟨p, 0, none⟩)] 38 (0, 0))
  rw [← hb_b1, ← hw_w1] at h_H1
  have H1 := Lib.hid h_H1
  clear h_H1
  have c1 := Own.dk H1.out
  have ho1 : Own w0 (CsP p c * (DkO b1 p * R)) w1 := H1.out.perm (by ac_rfl)
  have hway := csOnWay_any p c hz.i ho1
  rw [← hps] at hway
  have H := Lib.hid h; have HO1 := Lib.hid ho1; have HZ := Lib.hid hz; have HPS := Lib.hid hps; have HN := Lib.hid hn; have HOK := Lib.hid hok; have HGOOD := Lib.hid hgood; have HROW := Lib.hid hrow; have HT := Lib.hid hT; have HWAY := Lib.hid hway
  clear h ho1 hz hps hn hok hgood hrow hT hway
  go_enter Tryz.func57, Tryz.ntmps57
  go_upto_region 1 with fail
  rw [← hb_b1, ← hw_w1]
  clear hb_b1 hw_w1
  go_wp2_with fail
  refine HWAY.out.mono ?_
  rintro e w2 ⟨v2, rfl, ho⟩
  obtain ⟨R2, hR2⟩ : ∃ R2, R2 = PkSl v2 ps * (CsP p c * (DkO b1 p * R)) := ⟨_, rfl⟩
  rw [← hR2] at ho
  have hrd : ReadsE w0 R2 v2 ps := by rw [hR2]; exact PkSl_reads HGOOD.out
  obtain ⟨ad, cap, rfl, q1, q2⟩ := (hrd w2 ho).shape
  rw [← HN.out] at hrd q1 hR2 ⊢
  have HN0 : Hid (Own w0 (StSl (.slice none 0 0) [] * R2) w2) := Lib.hid (ho.sl_nil _ _)
  clear ho
  have HRD := Lib.hid hrd; have HR2 := Lib.hid hR2
  clear hrd hR2
  go_wp2_with fail
  go_loopw [3, 10] (fun sv iv wr => ∃ k : Nat, k ≤ n ∧ iv = .int .i64 k ∧ Hid (Own w0 (StSl sv ((ps.take k).map pkB) * R2) wr)) (fun _ iv _ => n - (intOf iv).toNat)
  case atStart => exact ⟨0, Nat.zero_le _, rfl, HN0⟩
  case round =>
    clear HN0
    obtain ⟨k, hk, rfl, HO⟩ := hrel
    by_cases hlt : k < n
    · have hkl : k < ps.length := by rw [← HN.out]; exact hlt
      obtain ⟨aa, eb, eo, es, e1, hea, hcs, _⟩ := HRD.out.at HO.out.drop k hkl
      subst e1
      obtain ⟨g0, g1, g2⟩ := hcs _ HO.out.drop
      have hev : evAt ps k = ps[k] := by unfold evAt; rw [List.getD_eq_getElem?_getD, List.getElem?_eq_getElem hkl]; rfl
      have hbk := HOK.out _ (List.getElem_mem hkl)
      have htk : (ps.take (k + 1)).map pkB = (ps.take k).map pkB ++ [pkB ps[k]] := by rw [List.take_succ_eq_append_getElem hkl, List.map_append]; rfl
      have hkn : ((ps.take k).map pkB).length = k := by rw [List.length_map, List.length_take]; omega
      rw [hev] at g0 g1 g2
      obtain ⟨x, hx⟩ : ∃ x, x = ps[k] := ⟨_, rfl⟩
      rw [← hx] at g0 g1 g2 hbk htk
      obtain ⟨h1, h2, h3, _⟩ := pkErr0 hbk
      simp [isMember] at h1 h2
      simp [isWord] at h3
      obtain ⟨m1, hm1⟩ : ∃ m : Nat, x.1 = (m : Int) := ⟨x.1.toNat, by omega⟩
      obtain ⟨m2, hm2⟩ : ∃ m : Nat, x.2.1 = (m : Int) := ⟨x.2.1.toNat, by omega⟩
      obtain ⟨m3, hm3⟩ : ∃ m : Nat, x.2.2 = (m : Int) := ⟨x.2.2.toNat, by omega⟩
      have hpk : pkB x = Lib.decDigits m1 ++ [62] ++ Lib.decDigits m2 ++ [58] ++ Lib.decDigits m3 := by
        unfold pkB; rw [hm1, hm2, hm3, Int.toNat_natCast, Int.toNat_natCast, Int.toNat_natCast]
      rw [hm1] at g0
      rw [hm2] at g1
      rw [hm3] at g2
      have hdg1 := fun w => stItoa m1 (by omega) w
      have hdg2 := fun w => stItoa m2 (by omega) w
      have hdg3 := fun w => stItoa m3 (by omega) w
      have hz1 := (dec_len m1).2
      have hz2 := (dec_len m2).2
      have hz3 := (dec_len m3).2
      obtain ⟨D1, hD1⟩ : ∃ D, D = tx (Lib.decDigits m1) := ⟨_, rfl⟩
      obtain ⟨D2, hD2⟩ : ∃ D, D = tx (Lib.decDigits m2) := ⟨_, rfl⟩
      obtain ⟨D3, hD3⟩ : ∃ D, D = tx (Lib.decDigits m3) := ⟨_, rfl⟩
      have s1 : D1.size ≤ 1001 := by rw [hD1, tx_size]; omega
      have s2 : D2.size ≤ 1001 := by rw [hD2, tx_size]; omega
      have s3 : D3.size ≤ 1001 := by rw [hD3, tx_size]; omega
      rw [show digB m1 = D1 from hD1.symm] at hdg1
      rw [show digB m2 = D2 from hD2.symm] at hdg2
      rw [show digB m3 = D3 from hD3.symm] at hdg3
      obtain ⟨X2, x2, z2, a2⟩ := add_let D1 ⟨#[62]⟩ (by omega) (by show 1 ≤ _; omega)
      have y2 : X2.size = D1.size + 1 := z2
      obtain ⟨X3, x3, z3, a3⟩ := add_let X2 D2 (by omega) (by omega)
      obtain ⟨X4, x4, z4, a4⟩ := add_let X3 ⟨#[58]⟩ (by omega) (by show 1 ≤ _; omega)
      have y4 : X4.size = X3.size + 1 := z4
      obtain ⟨X5, x5, z5, a5⟩ := add_let X4 D3 (by omega) (by omega)
      have hfin : X5 = tx (pkB x) := by
        rw [hpk, x5, x4, x3, x2, hD1, hD2, hD3, ← tx_add, ← tx_add, ← tx_add, ← tx_add]
        rfl
      obtain ⟨pre, hpre⟩ : ∃ pre, pre = (ps.take k).map pkB := ⟨_, rfl⟩
      rw [← hpre] at htk hkn
      obtain ⟨wq, hwq⟩ : ∃ wq, wq = wr := ⟨_, rfl⟩
      have hO := HO.out
      rw [← hpre] at hO
      obtain ⟨b5, hb_b5⟩ : ∃ zz_, zz_ = (wr).heap.size := ⟨_, rfl⟩
      obtain ⟨w5, hw_w5⟩ : ∃ zz_, zz_ = (wr).alloc (.cells #[.int .i64 m1, .int .i64 m2, .int .i64 m3] 79 (0, 0)) := ⟨_, rfl⟩
      have h_H5 := (hO).alloc (.cells #[.int .i64 m1, .int .i64 m2, .int .i64 m3] 79 (0, 0))
      rw [← hb_b5, ← hw_w5] at h_H5
      have H5 := Lib.hid h_H5
      clear h_H5
      obtain ⟨p0, p1, p2⟩ := H5.out.pb
      have hap : Own w0 (StSl _ pre * (PbO b5 m1 m2 m3 * R2)) w5.drew := (H5.out.perm (by ac_rfl)).drew
      have hal := fun (o : Obj) => (((H5.out.drew).alloc' o).pb)
      clear hO hcs hev x2 x3 x4 x5 z2 z3 z4 z5 y2 y4 s1 s2 s3 hD1 hD2 hD3 hz1 hz2 hz3 hm1 hm2 hm3 h1 h2 h3 hbk hpk hwq wq
      have HDG1 := Lib.hid hdg1; have HDG2 := Lib.hid hdg2; have HDG3 := Lib.hid hdg3; have HFIN := Lib.hid hfin; have HPRE := Lib.hid hpre; have HTK := Lib.hid htk; have HX := Lib.hid hx; have HAP := Lib.hid hap; have HAL := Lib.hid hal
      clear hdg1 hdg2 hdg3 hfin hpre htk hx hap hal
      go_upto_region 5 with fail
      rw [← hb_b5, ← hw_w5]
      clear hb_b5 hw_w5
      refine wp_region_planH 16 [] [(true, 0), (true, 1), (true, 2), (true, 5), (true, 6), (true, 10), (true, 11), (false, 3), (true, 4), (false, 7), (true, 8), (true, 9), (false, 12), (true, 13), (false, 14), (false, 15)] [16] (fun wS => wS.cell? ⟨b5, 0, none⟩ = some (.int .i64 m1) ∧ wS.cell? ⟨b5, 1, none⟩ = some (.int .i64 m2) ∧ wS.cell? ⟨b5, 2, none⟩ = some (.int .i64 m3)) (by kernel_rfl) (by kernel_rfl) (⟨p0, p1, p2⟩) ?_
      simp only [pickH, pick, List.getElem?_cons_succ, List.getElem?_cons_zero, Option.toList, Option.map_some, List.cons_append, List.nil_append]
      repeat (refine wpPure_step ?_ rfl ?_ ?_; rotate_left; (focus (intro _; first | with_reducible rfl | (go_simp; done) | (go_simp; with_reducible rfl) | rfl)); go_simp)
      refine wpPure_nil ?_
      repeat (refine wpMix_read ?_ rfl ?_ ?_; rotate_left; (focus (intro _ hS; obtain ⟨s1, s2, s3⟩ := hS; first | with_reducible rfl | (go_simp; done) | (go_simp; with_reducible rfl) | rfl)); go_simp)
      refine wpMix_write (fun K hK => ?_)
      go_simp
      refine (HDG1.out _).mono ?_
      rintro e w' ⟨rfl, rfl⟩
      refine hK _ _ ⟨⟨p0, p1, p2⟩, ?_⟩
      clear hK K
      go_simp
      repeat (refine wpMix_read ?_ rfl ?_ ?_; rotate_left; (focus (intro _ hS; obtain ⟨s1, s2, s3⟩ := hS; first | with_reducible rfl | (go_simp; done) | (go_simp; with_reducible rfl) | rfl)); go_simp)
      refine wpMix_write (fun K hK => ?_)
      go_simp
      refine (HDG2.out _).mono ?_
      rintro e w' ⟨rfl, rfl⟩
      refine hK _ _ ⟨⟨p0, p1, p2⟩, ?_⟩
      clear hK K
      go_simp
      repeat (refine wpMix_read ?_ rfl ?_ ?_; rotate_left; (focus (intro _ hS; obtain ⟨s1, s2, s3⟩ := hS; first | with_reducible rfl | (go_simp; done) | (go_simp; with_reducible rfl) | rfl)); go_simp)
      refine wpMix_write (fun K hK => ?_)
      go_simp
      refine (HDG3.out _).mono ?_
      rintro e w' ⟨rfl, rfl⟩
      refine hK _ _ ⟨⟨p0, p1, p2⟩, ?_⟩
      clear hK K
      go_simp
      repeat (refine wpMix_read ?_ rfl ?_ ?_; rotate_left; (focus (intro _ hS; obtain ⟨s1, s2, s3⟩ := hS; first | with_reducible rfl | (go_simp; done) | (go_simp; with_reducible rfl) | rfl)); go_simp)
      refine wpMix_write (fun K hK => ?_)
      go_simp
      refine hK _ _ ⟨HAL.out _, ?_⟩
      clear hK K
      go_simp
      refine wpMix_write (fun K hK => ?_)
      refine step_app rfl _ _ 23 rfl 9 1 16 _ info_str Tryz.underlying23 rfl (by decide) (by rfl) (HAP.out.alloc' _) (by rfl) (by rfl) (Rd_lit (by simp) (by unfold maxLen; omega)) (by intro u hu; simp at hu; subst hu; rfl) (by unfold maxLen; omega) (by omega) ?_
      intro v' w6 hown'
      have HO6 : Hid (Own w0 (StSl v' (pre ++ [pkB x]) * (PbO b5 m1 m2 m3 * R2)) w6) := Lib.hid (hown'.perm (show _ = StSl v' (pre ++ [pkB x]) * (PbO b5 m1 m2 m3 * R2) by unfold StSl; simp [HFIN.out]))
      clear hown'
      have HO7 : Hid (Own w0 (StSl v' (pre ++ [pkB x]) * R2) w6) := Lib.hid ((HO6.out.perm (show _ = PbO b5 m1 m2 m3 * (StSl v' (pre ++ [pkB x]) * R2) by ac_rfl)).drop)
      have hp6 := (HO6.out.perm (show _ = PbO b5 m1 m2 m3 * (StSl v' (pre ++ [pkB x]) * R2) by ac_rfl)).pb
      clear HO6
      refine hK _ _ ⟨hp6, ?_⟩
      clear hK K
      go_simp
      repeat (refine wpMix_read ?_ rfl ?_ ?_; rotate_left; (focus (intro _ hS; obtain ⟨s1, s2, s3⟩ := hS; first | with_reducible rfl | (go_simp; done) | (go_simp; with_reducible rfl) | rfl)); go_simp)
      refine wpMix_nil ?_
      go_wp2_with fail
      refine NoPanic.normal ?_
      go_wp2_with fail
      go_roundw
      case rel => exact ⟨k + 1, by omega, by go_num, by rw [HTK.out]; exact HO7⟩
      case measure => simp [intOf]; omega
    · have hkn : k = n := by omega
      subst hkn
      have ho := HO.out
      rw [List.take_of_length_le (by have := HN.out; omega)] at ho
      have hrr := HROW.out _ _ _ ho
      have HRR := Lib.hid hrr; have HO := Lib.hid ho
      clear hrr ho
      go_wp2_with fail
      refine HRR.out.mono ?_
      rintro e w3 ⟨rfl, ho⟩
      have HO2 : Hid (Own w0 (CsP p c * R) w3) := by
        have h1 := ho.drop
        rw [HR2.out] at h1
        exact Lib.hid ((h1.perm (show _ = PkSl _ ps * (DkO b1 p * (CsP p c * R)) by ac_rfl)).drop.drop)
      clear ho
      go_wp2_with fail
      go_ret
      exact ⟨rfl, HO2.out⟩
end Go.Proofs.YtdfjbnfdknpahaaGreatDoor
/- run's faces: the faces of the history, as words. -/
namespace Go.Proofs.YtdfjbnfdknpahaaGreatDoor
set_option linter.unusedVariables false
set_option linter.unusedSimpArgs false
open Go.RowKit
def fifoW : List UInt8 := [102, 105, 102, 111]
def causalW : List UInt8 := [99, 97, 117, 115, 97, 108]
def totalW : List UInt8 := [116, 111, 116, 97, 108]
def fcWords (f c t : Bool) (k : Nat) : List (List UInt8) := (([(f, fifoW), (c, causalW), (t, totalW)].take k).filter (·.1)).map (·.2)
theorem fcWords_row (f c t : Bool) : rowW (fcWords f c t 3) = faB f c t := by cases f <;> cases c <;> cases t <;> rfl
theorem fcWords_len (f c t : Bool) (k : Nat) : (fcWords f c t k).length ≤ 3 := by
  unfold fcWords
  rw [List.length_map]
  refine Nat.le_trans (List.length_filter_le _ _) ?_
  rw [List.length_take]
  exact Nat.min_le_right _ _
abbrev FbO (b : Nat) (f c t : Bool) : HProp := blk b (.cells #[.bool f, .bool c, .bool t] 87 (0, 0))
abbrev FeO (b : Nat) (f c t : Bool) : HProp := blk b (.cells #[.bool f, .string ⟨#[102, 105, 102, 111]⟩, .bool c, .string ⟨#[99, 97, 117, 115, 97, 108]⟩, .bool t, .string ⟨#[116, 111, 116, 97, 108]⟩] 170 (0, 0))
theorem Own.fe {w0 w : World} {b : Nat} {f c t : Bool} {R : HProp} (h : Own w0 (FeO b f c t * R) w) :
    w.cell? ⟨b, 0, none⟩ = some (.bool f) ∧ w.cell? ⟨b, 1, none⟩ = some (.string ⟨#[102, 105, 102, 111]⟩) ∧ w.cell? ⟨b, 2, none⟩ = some (.bool c) ∧ w.cell? ⟨b, 3, none⟩ = some (.string ⟨#[99, 97, 117, 115, 97, 108]⟩) ∧ w.cell? ⟨b, 4, none⟩ = some (.bool t) ∧ w.cell? ⟨b, 5, none⟩ = some (.string ⟨#[116, 111, 116, 97, 108]⟩) :=
  ⟨(h.cell 0).trans rfl, (h.cell 1).trans rfl, (h.cell 2).trans rfl, (h.cell 3).trans rfl, (h.cell 4).trans rfl, (h.cell 5).trans rfl⟩
set_option maxRecDepth 100000 in
set_option maxHeartbeats 4000000 in
theorem pfaces_any {w0 w : World} {R : HProp} (p : Nat) (c : Cs) (hz : CZ c) (h : Own w0 (CsP p c * R) w) :
    Calls Tryz.prog 60 #[dkV p] w fun e w' => e = .returned (.tuple #[.string (tx (faB (facesF c.hist) (facesC c.hist) (facesT c.hist))), errV (facesErr c.hist)]) ∧ Own w0 (CsP p c * R) w' := by
  obtain ⟨F, hF⟩ : ∃ X, X = facesF c.hist := ⟨_, rfl⟩
  obtain ⟨C, hC⟩ : ∃ X, X = facesC c.hist := ⟨_, rfl⟩
  obtain ⟨T, hT⟩ : ∃ X, X = facesT c.hist := ⟨_, rfl⟩
  rw [← hF, ← hC, ← hT]
  have hE0 : errV (facesErr c.hist) = .nilIface := by rw [hz.right]; rfl
  rw [hE0]
  obtain ⟨S, hS⟩ : ∃ S, S = tx (faB F C T) := ⟨_, rfl⟩
  rw [← hS]
  have hrow : ∀ (v : Value) (w2 : World) (R' : HProp), Own w0 (StSl v (fcWords F C T 3) * R') w2 → Calls Tryz.prog 80 #[v] w2 fun e w' => e = .returned (.string S) ∧ Own w0 (StSl v (fcWords F C T 3) * R') w' := fun v w2 R' ho => by
    have h1 := prow_any v (fcWords F C T 3) (Nat.le_trans (fcWords_len ..) (by decide)) (by cases F <;> cases C <;> cases T <;> decide) ho
    rw [fcWords_row, ← hS] at h1
    exact h1
  obtain ⟨b1, hb_b1⟩ : ∃ zz_, zz_ = (w).heap.size := ⟨_, rfl⟩
  obtain ⟨w1, hw_w1⟩ : ∃ zz_, zz_ = (w).alloc (.cells #[.pointer (some ⟨p, 0, none⟩)] 38 (0, 0)) := ⟨_, rfl⟩
  have h_H1 := (h).alloc (.cells #[.pointer (some ⟨p, 0, none⟩)] 38 (0, 0))
  rw [← hb_b1, ← hw_w1] at h_H1
  have H1 := Lib.hid h_H1
  clear h_H1
  have c1 := Own.dk H1.out
  have ho1 : Own w0 (CsP p c * (DkO b1 p * R)) w1 := H1.out.perm (by ac_rfl)
  have H := Lib.hid h; have HO1 := Lib.hid ho1; have HZ := Lib.hid hz; have HF := Lib.hid hF; have HC := Lib.hid hC; have HT := Lib.hid hT; have HE0 := Lib.hid hE0; have HS := Lib.hid hS; have HROW := Lib.hid hrow
  clear h ho1 hz hF hC hT hE0 hS hrow
  go_enter Tryz.func60, Tryz.ntmps60
  go_upto_region 1 with fail
  rw [← hb_b1, ← hw_w1]
  clear hb_b1 hw_w1
  go_wp2_with fail
  refine (csHistory_any p c HZ.out.i HZ.out.h60 HO1.out).mono ?_
  rintro e w2 ⟨v2, rfl, ho⟩
  have hrd : ReadsE w0 (EvSl v2 c.hist * (CsP p c * (DkO b1 p * R))) v2 c.hist := EvSl_reads HZ.out.i.hist
  have HO2 := Lib.hid ho
  clear ho
  have HRD := Lib.hid hrd
  clear hrd
  go_wp2_with fail
  refine (facesOf_any v2 c.hist HO2.out HRD.out).mono ?_
  rintro e w3 ⟨rfl, ho⟩
  rw [HE0.out, ← HF.out, ← HC.out, ← HT.out]
  have ho3 : Own w0 (CsP p c * R) w3 := (ho.perm (show _ = DkO b1 p * (EvSl v2 c.hist * (CsP p c * R)) by ac_rfl)).drop.drop
  obtain ⟨b4, hb_b4⟩ : ∃ zz_, zz_ = (w3).heap.size := ⟨_, rfl⟩
  obtain ⟨w4, hw_w4⟩ : ∃ zz_, zz_ = (w3).alloc (.cells #[.bool F, .bool C, .bool T] 87 (0, 0)) := ⟨_, rfl⟩
  have h_H4 := (ho3).alloc (.cells #[.bool F, .bool C, .bool T] 87 (0, 0))
  rw [← hb_b4, ← hw_w4] at h_H4
  have H4 := Lib.hid h_H4
  clear h_H4
  have f0 : w4.cell? ⟨b4, 0, none⟩ = some (.bool F) := (H4.out.cell 0).trans rfl
  have f1 : w4.cell? ⟨b4, 1, none⟩ = some (.bool C) := (H4.out.cell 1).trans rfl
  have f2 : w4.cell? ⟨b4, 2, none⟩ = some (.bool T) := (H4.out.cell 2).trans rfl
  have ho4 : Own w0 (CsP p c * R) w4 := H4.out.drop
  obtain ⟨b5, hb_b5⟩ : ∃ zz_, zz_ = (w4).heap.size := ⟨_, rfl⟩
  obtain ⟨w5, hw_w5⟩ : ∃ zz_, zz_ = (w4).alloc (.cells #[.bool F, .string ⟨#[102, 105, 102, 111]⟩, .bool C, .string ⟨#[99, 97, 117, 115, 97, 108]⟩, .bool T, .string ⟨#[116, 111, 116, 97, 108]⟩] 170 (0, 0)) := ⟨_, rfl⟩
  have h_H5 := (ho4).alloc (.cells #[.bool F, .string ⟨#[102, 105, 102, 111]⟩, .bool C, .string ⟨#[99, 97, 117, 115, 97, 108]⟩, .bool T, .string ⟨#[116, 111, 116, 97, 108]⟩] 170 (0, 0))
  rw [← hb_b5, ← hw_w5] at h_H5
  have H5 := Lib.hid h_H5
  clear h_H5
  have HN0 : Hid (Own w0 (StSl (.slice none 0 0) (fcWords F C T 0) * (FeO b5 F C T * (CsP p c * R))) w5) := Lib.hid (H5.out.sl_nil _ _)
  have HO3 := Lib.hid ho3; have HO4 := Lib.hid ho4
  clear ho3 ho4
  clear ho
  go_upto_region 2 with fail
  rw [← hb_b4, ← hw_w4]
  clear hb_b4 hw_w4
  go_upto_block 0 with fail
  rw [← hb_b5, ← hw_w5]
  clear hb_b5 hw_w5
  go_wp2_with fail
  go_loopw [6, 27] (fun sv iv wr => ∃ k : Nat, k ≤ 3 ∧ iv = .int .i64 k ∧ Hid (Own w0 (StSl sv (fcWords F C T k) * (FeO b5 F C T * (CsP p c * R))) wr)) (fun _ iv _ => 3 - (intOf iv).toNat)
  case atStart => exact ⟨0, Nat.zero_le _, rfl, HN0⟩
  case round =>
    clear HN0
    obtain ⟨k, hk, rfl, HO⟩ := hrel
    obtain ⟨g0, g1, g2, g3, g4, g5⟩ := Own.fe (HO.out.perm (show _ = FeO b5 F C T * (StSl _ (fcWords F C T k) * (CsP p c * R)) by ac_rfl))
    rcases (show k = 0 ∨ k = 1 ∨ k = 2 ∨ k = 3 by omega) with rfl | rfl | rfl | rfl
    · have hO := HO.out
      obtain ⟨b6, hb_b6⟩ : ∃ zz_, zz_ = (wr).heap.size := ⟨_, rfl⟩
      obtain ⟨w6, hw_w6⟩ : ∃ zz_, zz_ = (wr).alloc (.cells #[.bool F, .string ⟨#[102, 105, 102, 111]⟩] 170 (0, 0)) := ⟨_, rfl⟩
      have h_H6 := (hO).alloc (.cells #[.bool F, .string ⟨#[102, 105, 102, 111]⟩] 170 (0, 0))
      rw [← hb_b6, ← hw_w6] at h_H6
      have H6 := Lib.hid h_H6
      clear h_H6
      have d0 : w6.cell? ⟨b6, 0, none⟩ = some (.bool F) := (H6.out.cell 0).trans rfl
      have d1 : w6.cell? ⟨b6, 1, none⟩ = some (.string ⟨#[102, 105, 102, 111]⟩) := (H6.out.cell 1).trans rfl
      have HO6 := Lib.hid H6.out.drop
      clear hO
      have hs0 : F = false → fcWords F C T 1 = fcWords F C T 0 := fun h => by subst h; first | rfl | (cases F <;> rfl) | (cases F <;> cases C <;> rfl)
      have hs1 : F = true → fcWords F C T 1 = fcWords F C T 0 ++ [fifoW] := fun h => by subst h; first | rfl | (cases F <;> rfl) | (cases F <;> cases C <;> rfl)
      have hll := fcWords_len F C T 0
      obtain ⟨pre, hpre⟩ : ∃ pre, pre = fcWords F C T 0 := ⟨_, rfl⟩
      rw [← hpre] at hs0 hs1 hll HO6
      have HS0 := Lib.hid hs0; have HS1 := Lib.hid hs1; have HPRE := Lib.hid hpre
      clear hs0 hs1 hpre
      go_upto_region 6 with fail
      rw [← hb_b6, ← hw_w6]
      clear hb_b6 hw_w6
      obtain ⟨B, hB⟩ : ∃ B, B = F := ⟨_, rfl⟩
      rw [← hB] at d0
      cases B
      · have HB := Lib.hid hB
        clear hB
        go_wp2_with fail
        go_roundw
        case rel => exact ⟨1, by omega, by go_num, by rw [HS0.out HB.out.symm]; exact HO6⟩
        case measure => simp [intOf]
      · have HB := Lib.hid hB
        clear hB
        go_wp2_with (at_builtin; refine wpList_app rfl _ _ 23 rfl 9 1 16 _ info_str Tryz.underlying23 rfl (by decide) rfl (HO6.out.alloc' _) rfl (by rfl) (Rd_lit (by simp) (by unfold maxLen; omega)) (by intro u hu; simp at hu; subst hu; rfl) (by unfold maxLen; omega) (by omega) ?_; intro v' w7 hown; have HO7 : Hid (Own w0 (StSl v' (pre ++ [fifoW]) * (FeO b5 F C T * (CsP p c * R))) w7) := Lib.hid (hown.perm (show _ = StSl v' (pre ++ [fifoW]) * (FeO b5 F C T * (CsP p c * R)) by unfold StSl; simp; rfl)); clear hown)
        go_roundw
        case rel => exact ⟨1, by omega, by go_num, by rw [HS1.out HB.out.symm]; exact HO7⟩
        case measure => simp [intOf]
    · have hO := HO.out
      obtain ⟨b6, hb_b6⟩ : ∃ zz_, zz_ = (wr).heap.size := ⟨_, rfl⟩
      obtain ⟨w6, hw_w6⟩ : ∃ zz_, zz_ = (wr).alloc (.cells #[.bool C, .string ⟨#[99, 97, 117, 115, 97, 108]⟩] 170 (0, 0)) := ⟨_, rfl⟩
      have h_H6 := (hO).alloc (.cells #[.bool C, .string ⟨#[99, 97, 117, 115, 97, 108]⟩] 170 (0, 0))
      rw [← hb_b6, ← hw_w6] at h_H6
      have H6 := Lib.hid h_H6
      clear h_H6
      have d0 : w6.cell? ⟨b6, 0, none⟩ = some (.bool C) := (H6.out.cell 0).trans rfl
      have d1 : w6.cell? ⟨b6, 1, none⟩ = some (.string ⟨#[99, 97, 117, 115, 97, 108]⟩) := (H6.out.cell 1).trans rfl
      have HO6 := Lib.hid H6.out.drop
      clear hO
      have hs0 : C = false → fcWords F C T 2 = fcWords F C T 1 := fun h => by subst h; first | rfl | (cases F <;> rfl) | (cases F <;> cases C <;> rfl)
      have hs1 : C = true → fcWords F C T 2 = fcWords F C T 1 ++ [causalW] := fun h => by subst h; first | rfl | (cases F <;> rfl) | (cases F <;> cases C <;> rfl)
      have hll := fcWords_len F C T 1
      obtain ⟨pre, hpre⟩ : ∃ pre, pre = fcWords F C T 1 := ⟨_, rfl⟩
      rw [← hpre] at hs0 hs1 hll HO6
      have HS0 := Lib.hid hs0; have HS1 := Lib.hid hs1; have HPRE := Lib.hid hpre
      clear hs0 hs1 hpre
      go_upto_region 6 with fail
      rw [← hb_b6, ← hw_w6]
      clear hb_b6 hw_w6
      obtain ⟨B, hB⟩ : ∃ B, B = C := ⟨_, rfl⟩
      rw [← hB] at d0
      cases B
      · have HB := Lib.hid hB
        clear hB
        go_wp2_with fail
        go_roundw
        case rel => exact ⟨2, by omega, by go_num, by rw [HS0.out HB.out.symm]; exact HO6⟩
        case measure => simp [intOf]
      · have HB := Lib.hid hB
        clear hB
        go_wp2_with (at_builtin; refine wpList_app rfl _ _ 23 rfl 9 1 16 _ info_str Tryz.underlying23 rfl (by decide) rfl (HO6.out.alloc' _) rfl (by rfl) (Rd_lit (by simp) (by unfold maxLen; omega)) (by intro u hu; simp at hu; subst hu; rfl) (by unfold maxLen; omega) (by omega) ?_; intro v' w7 hown; have HO7 : Hid (Own w0 (StSl v' (pre ++ [causalW]) * (FeO b5 F C T * (CsP p c * R))) w7) := Lib.hid (hown.perm (show _ = StSl v' (pre ++ [causalW]) * (FeO b5 F C T * (CsP p c * R)) by unfold StSl; simp; rfl)); clear hown)
        go_roundw
        case rel => exact ⟨2, by omega, by go_num, by rw [HS1.out HB.out.symm]; exact HO7⟩
        case measure => simp [intOf]
    · have hO := HO.out
      obtain ⟨b6, hb_b6⟩ : ∃ zz_, zz_ = (wr).heap.size := ⟨_, rfl⟩
      obtain ⟨w6, hw_w6⟩ : ∃ zz_, zz_ = (wr).alloc (.cells #[.bool T, .string ⟨#[116, 111, 116, 97, 108]⟩] 170 (0, 0)) := ⟨_, rfl⟩
      have h_H6 := (hO).alloc (.cells #[.bool T, .string ⟨#[116, 111, 116, 97, 108]⟩] 170 (0, 0))
      rw [← hb_b6, ← hw_w6] at h_H6
      have H6 := Lib.hid h_H6
      clear h_H6
      have d0 : w6.cell? ⟨b6, 0, none⟩ = some (.bool T) := (H6.out.cell 0).trans rfl
      have d1 : w6.cell? ⟨b6, 1, none⟩ = some (.string ⟨#[116, 111, 116, 97, 108]⟩) := (H6.out.cell 1).trans rfl
      have HO6 := Lib.hid H6.out.drop
      clear hO
      have hs0 : T = false → fcWords F C T 3 = fcWords F C T 2 := fun h => by subst h; first | rfl | (cases F <;> rfl) | (cases F <;> cases C <;> rfl)
      have hs1 : T = true → fcWords F C T 3 = fcWords F C T 2 ++ [totalW] := fun h => by subst h; first | rfl | (cases F <;> rfl) | (cases F <;> cases C <;> rfl)
      have hll := fcWords_len F C T 2
      obtain ⟨pre, hpre⟩ : ∃ pre, pre = fcWords F C T 2 := ⟨_, rfl⟩
      rw [← hpre] at hs0 hs1 hll HO6
      have HS0 := Lib.hid hs0; have HS1 := Lib.hid hs1; have HPRE := Lib.hid hpre
      clear hs0 hs1 hpre
      go_upto_region 6 with fail
      rw [← hb_b6, ← hw_w6]
      clear hb_b6 hw_w6
      obtain ⟨B, hB⟩ : ∃ B, B = T := ⟨_, rfl⟩
      rw [← hB] at d0
      cases B
      · have HB := Lib.hid hB
        clear hB
        go_wp2_with fail
        go_roundw
        case rel => exact ⟨3, by omega, by go_num, by rw [HS0.out HB.out.symm]; exact HO6⟩
        case measure => simp [intOf]
      · have HB := Lib.hid hB
        clear hB
        go_wp2_with (at_builtin; refine wpList_app rfl _ _ 23 rfl 9 1 16 _ info_str Tryz.underlying23 rfl (by decide) rfl (HO6.out.alloc' _) rfl (by rfl) (Rd_lit (by simp) (by unfold maxLen; omega)) (by intro u hu; simp at hu; subst hu; rfl) (by unfold maxLen; omega) (by omega) ?_; intro v' w7 hown; have HO7 : Hid (Own w0 (StSl v' (pre ++ [totalW]) * (FeO b5 F C T * (CsP p c * R))) w7) := Lib.hid (hown.perm (show _ = StSl v' (pre ++ [totalW]) * (FeO b5 F C T * (CsP p c * R)) by unfold StSl; simp; rfl)); clear hown)
        go_roundw
        case rel => exact ⟨3, by omega, by go_num, by rw [HS1.out HB.out.symm]; exact HO7⟩
        case measure => simp [intOf]
    · have hrr := HROW.out _ _ _ HO.out
      have HRR := Lib.hid hrr
      clear hrr
      go_wp2_with fail
      refine HRR.out.mono ?_
      rintro e w8 ⟨rfl, ho⟩
      have HO8 := Lib.hid ho
      clear ho
      go_wp2_with fail
      go_ret2
      exact ⟨rfl, HO8.out.drop.drop⟩
end Go.Proofs.YtdfjbnfdknpahaaGreatDoor
/- run's wants: how many numbers a word wants, a map by words. -/
namespace Go.Proofs.YtdfjbnfdknpahaaGreatDoor
set_option linter.unusedVariables false
set_option linter.unusedSimpArgs false
open Go.RowKit Go.Maps
def stK (l : List UInt8) : Value := .string (tx l)
theorem tx_inj {a b : List UInt8} (h : tx a = tx b) : a = b := by
  have := congrArg (fun x : ByteArray => x.data.toList) h
  simpa [tx_list] using this
def stOk (l : List UInt8) : Prop := l.length ≤ 90000
theorem st_ke {P : Program} {k : TypeId} (hk : P.underlying k = some .string) : KE P k stK stOk :=
  ⟨string_keyed hk, fun x hx => ⟨.string (tx x).data.toList, by unfold stK; rw [keyOf_string hk]; simp [mapKey, hk]; rw [tx_size]; unfold stOk at hx; unfold maxLen; omega⟩, fun _ _ h => by injection h with h; exact tx_inj h⟩
def wantsM : List (List UInt8 × Value) := [(sayW, .int .i64 2), (giveW, .int .i64 1), (dropW, .int .i64 1), (twiceW, .int .i64 1), (wayW, .int .i64 0), (heardW, .int .i64 1), (facesW, .int .i64 0), (clockW, .int .i64 1)]
theorem wantsM_get (w : List UInt8) : mget wantsM w = (wantsB w).map fun n : Nat => Value.int .i64 n := by
  unfold wantsM wantsB
  simp only [mget, eq_comm (b := w)]
  repeat' split
  all_goals first | rfl | contradiction
theorem mapsi_kind : Tryz.prog.underlying 128 = some (.map 9 3) := by kernel_rfl
theorem mapsi_made : ∀ w, (Instr.makeMap 128 none).run Tryz.prog w = .ok (.map (some w.heap.size)) (w.alloc (.map #[] 0)) := fun _ => by kernel_rfl
theorem int_zero' : ∀ w, (zeroValue 3).run Tryz.prog w = .ok (.int .i64 0) w := fun _ => by kernel_rfl
section
variable {K : Type} [DecidableEq K] {P : Program} {k : TypeId} {enc : K → Value} {ok : K → Prop}
theorem wpList_ins (E : KE P k enc ok) {t e : TypeId} (ht : P.underlying t = some (.map k e)) {ops : Array Oper} {rest : List Oper} {o : Oper} {a : Act} {Q : Exit → Act → World → Prop}
    {w0 w : World} {b : Nat} {m : List (K × Value)} {R : HProp} (hown : Own w0 (Mp enc ok b m * R) w) {x : K} (hx : ok x)
    (hg : o.guard = none) (mo xo vo : Operand) (hop : o.op = Op.insert t mo xo vo) (hm : a.eval mo = .map (some b)) (hxo : a.eval xo = enc x) {v : Value} (hv : a.eval vo = v)
    (hK : ∀ w', Own w0 (Mp enc ok b (mput m x v) * R) w' → wpList P ops Q rest (a.put o.dst undef) w') : wpList P ops Q (o :: rest) a w := by
  refine wpList_plain hg fun K' hK' => ?_
  obtain ⟨w', hrun, ho⟩ := hown.map_put E ht hx v
  unfold Oper.wp
  simp [execOp, hop, hm, hxo, hv, hrun, Result.andThen]
  exact hK' _ _ (hK w' ho)
end
theorem wantsM_made : mput (mput (mput (mput (mput (mput (mput (mput ([] : List (List UInt8 × Value)) sayW (.int .i64 2)) giveW (.int .i64 1)) dropW (.int .i64 1)) twiceW (.int .i64 1)) wayW (.int .i64 0)) heardW (.int .i64 1)) facesW (.int .i64 0)) clockW (.int .i64 1) = wantsM := by rfl
set_option maxRecDepth 100000 in
set_option maxHeartbeats 4000000 in
theorem wants_any {w0 w : World} {R : HProp} (h : Own w0 R w) :
    Calls Tryz.prog 50 #[] w fun e w' => ∃ b, e = .returned (.map (some b)) ∧ Own w0 (Mp stK stOk b wantsM * R) w' := by
  have hmade := mapsi_made
  have h1 : Own w0 (Mp stK stOk w.heap.size [] * R) (w.alloc (.map #[] 0)) := Own.map_new h
  obtain ⟨b, hb⟩ : ∃ b, w.heap.size = b := ⟨_, rfl⟩
  rw [hb] at h1
  have HO := Lib.hid h1
  clear h1
  have H := Lib.hid h
  clear h
  go_enter Tryz.func50, Tryz.ntmps50
  go_upto_region 1 with fail
  go_wp2_with (refine wpList_ins (st_ke Tryz.underlying9) mapsi_kind HO.out (by unfold stOk; decide) rfl _ _ _ rfl (by rw [← hb]; rfl) rfl rfl ?_; intro w1 ho1; have HO := Lib.hid ho1; clear ho1)
  go_ret
  exact ⟨b, rfl, by rw [← wantsM_made]; exact HO.out⟩
end Go.Proofs.YtdfjbnfdknpahaaGreatDoor
/- strings.Split, strings.Join, strconv.Itoa: that the loaded program bears the texts that the library's contracts speak of. -/
namespace Go.Proofs.YtdfjbnfdknpahaaGreatDoor
set_option linter.unusedVariables false
set_option linter.unusedSimpArgs false
open Go.RowKit Go.Proofs
def splRen : Go.Shelf.Ren := ⟨fun | 138 => 93 | 143 => 94 | 195 => 112 | 197 => 113 | 217 => 47 | 218 => 114 | 219 => 115 | 221 => 71 | 224 => 134 | 225 => 133 | 260 => 132 | 266 => 70 | 267 => 135 | 268 => 92 | 314 => 154 | n => n, fun | 0 => 0 | 3 => 3 | 4 => 4 | 5 => 5 | 9 => 9 | 21 => 21 | 31 => 23 | 46 => 220 | 51 => 242 | 105 => 207 | 119 => 238 | 138 => 240 | 139 => 241 | 146 => 243 | n => n, fun | 1 => 2 | 3 => 3 | 4 => 4 | n => n⟩
theorem splL : Lays.n221 Tryz.prog splRen where
  mixed := by kernel_rfl
  f138 := Tryz.func93.trans (congrArg some (by kernel_rfl))
  f143 := Tryz.func94.trans (congrArg some (by kernel_rfl))
  f195 := Tryz.func112.trans (congrArg some (by kernel_rfl))
  f197 := Tryz.func113.trans (congrArg some (by kernel_rfl))
  f217 := Tryz.func47.trans (congrArg some (by kernel_rfl))
  f218 := Tryz.func114.trans (congrArg some (by kernel_rfl))
  f219 := Tryz.func115.trans (congrArg some (by kernel_rfl))
  f221 := Tryz.func71.trans (congrArg some (by kernel_rfl))
  f224 := Tryz.func134.trans (congrArg some (by kernel_rfl))
  f225 := Tryz.func133.trans (congrArg some (by kernel_rfl))
  f260 := Tryz.func132.trans (congrArg some (by kernel_rfl))
  f266 := Tryz.func70.trans (congrArg some (by kernel_rfl))
  f267 := Tryz.func135.trans (congrArg some (by kernel_rfl))
  f268 := Tryz.func92.trans (congrArg some (by kernel_rfl))
  f314 := Tryz.func154.trans (congrArg some (by kernel_rfl))
  t0 := Tryz.underlying0
  a0 := Tryz.isAgg0
  z0 := Tryz.sizeOf0
  v0 := Tryz.zeroValue0
  t3 := Tryz.underlying3
  a3 := Tryz.isAgg3
  z3 := Tryz.sizeOf3
  v3 := Tryz.zeroValue3
  t4 := Tryz.underlying4
  a4 := Tryz.isAgg4
  z4 := Tryz.sizeOf4
  v4 := Tryz.zeroValue4
  t5 := Tryz.underlying5
  a5 := Tryz.isAgg5
  z5 := Tryz.sizeOf5
  v5 := Tryz.zeroValue5
  t9 := Tryz.underlying9
  a9 := Tryz.isAgg9
  z9 := Tryz.sizeOf9
  v9 := Tryz.zeroValue9
  t21 := Tryz.underlying21
  a21 := Tryz.isAgg21
  z21 := Tryz.sizeOf21
  v21 := Tryz.zeroValue21
  t31 := Tryz.underlying23
  a31 := Tryz.isAgg23
  z31 := Tryz.sizeOf23
  v31 := Tryz.zeroValue23
  t46 := Tryz.underlying220
  a46 := Tryz.isAgg220
  z46 := Tryz.sizeOf220
  v46 := Tryz.zeroValue220
  t51 := Tryz.underlying242
  a51 := Tryz.isAgg242
  z51 := Tryz.sizeOf242
  v51 := Tryz.zeroValue242
  t105 := Tryz.underlying207
  a105 := Tryz.isAgg207
  z105 := Tryz.sizeOf207
  v105 := Tryz.zeroValue207
  t119 := Tryz.underlying238
  a119 := Tryz.isAgg238
  z119 := Tryz.sizeOf238
  t138 := Tryz.underlying240
  a138 := Tryz.isAgg240
  z138 := Tryz.sizeOf240
  v138 := Tryz.zeroValue240
  t139 := Tryz.underlying241
  a139 := Tryz.isAgg241
  z139 := Tryz.sizeOf241
  v139 := Tryz.zeroValue241
  t146 := Tryz.underlying243
  a146 := Tryz.isAgg243
  z146 := Tryz.sizeOf243
  v146 := Tryz.zeroValue243
  g1 := by kernel_rfl
  g3 := by kernel_rfl
  g4 := by kernel_rfl
end Go.Proofs.YtdfjbnfdknpahaaGreatDoor
