/- Contracts of package view: Chain. -/
import Derived.Test.YtkgnjkokbiefgaaView5
namespace Go.Proofs.Ytkgnjkokbiefgaa
set_option linter.unusedVariables false
set_option linter.unusedSimpArgs false
open Go.RowKit
abbrev Vw := Int × Value × List Int
def vwCells (x : Vw) : List Value := [.int .i64 x.1, x.2.1]
def ReadsV (w0 : World) (R : HProp) (v : Value) (L : List Vw) : Prop := (∀ w, Own w0 R w → Rd w v L.length (L.flatMap vwCells)) ∧ ∀ x ∈ L, Reads w0 R x.2.1 x.2.2
/-- What Chain answers from its i-th view on, where the one before (if any) is p: the place and the error. -/
def chainGo : Option Vw → Nat → List Vw → Nat × Nat
  | _, _, [] => (0, 0)
  | p, i, x :: r => if viewErr x.1 x.2.2 ≠ 0 then (i, viewErr x.1 x.2.2) else
    match p with
    | none => chainGo (some x) (i + 1) r
    | some p => if x.1 ≠ p.1 + 1 then (i, 3) else if mostB p.2.2 x.2.2 = false then (i, 8) else chainGo (some x) (i + 1) r
theorem chainGo_none (i : Nat) (x : Vw) (r : List Vw) : chainGo none i (x :: r) = if viewErr x.1 x.2.2 ≠ 0 then (i, viewErr x.1 x.2.2) else chainGo (some x) (i + 1) r := rfl
theorem chainGo_some (p : Vw) (i : Nat) (x : Vw) (r : List Vw) : chainGo (some p) i (x :: r) = if viewErr x.1 x.2.2 ≠ 0 then (i, viewErr x.1 x.2.2) else if x.1 ≠ p.1 + 1 then (i, 3) else if mostB p.2.2 x.2.2 = false then (i, 8) else chainGo (some x) (i + 1) r := rfl
theorem chainGo_bad (p : Option Vw) (i : Nat) (x : Vw) (r : List Vw) (h : viewErr x.1 x.2.2 ≠ 0) : chainGo p i (x :: r) = (i, viewErr x.1 x.2.2) := by
  cases p
  · rw [chainGo_none, if_pos h]
  · rw [chainGo_some, if_pos h]
def chainR (L : List Vw) : Nat × Nat := if 60 < L.length then (0, 4) else chainGo none 0 L
def chainPrev (L : List Vw) (k : Nat) : Option Vw := if k = 0 then none else L[k - 1]?
theorem ReadsV.more {w0 : World} {P R : HProp} {v : Value} {L : List Vw} (h : ReadsV w0 R v L) : ReadsV w0 (P * R) v L := ⟨fun w ho => h.1 w ho.drop, fun x hx => (h.2 x hx).more⟩
theorem ReadsV.shape {w0 w : World} {R : HProp} {v : Value} {L : List Vw} (h : ReadsV w0 R v L) (ho : Own w0 R w) : ∃ ad cap, v = .slice ad L.length cap ∧ L.length ≤ cap ∧ cap ≤ 9223372036854775807 := by
  obtain ⟨ad', cap', e, h1, h2, _, hc⟩ := h.1 w ho
  exact ⟨ad', cap', e, h1, h2⟩
theorem vw_get : ∀ (l : List Vw) (k j : Nat) (hk : k < l.length) (_hj : j < 2), (l.flatMap vwCells)[k * 2 + j]? = (vwCells l[k])[j]?
  | x :: r, 0, j, hk, hj => by
    simp only [List.flatMap_cons, Nat.zero_mul, Nat.zero_add, List.getElem_cons_zero]
    rw [List.getElem?_append_left (by simpa [vwCells] using hj)]
  | x :: r, k + 1, j, hk, hj => by
    simp only [List.flatMap_cons, List.getElem_cons_succ]
    rw [List.getElem?_append_right (by simp [vwCells]; omega)]
    rw [show (k + 1) * 2 + j - (vwCells x).length = k * 2 + j from by simp [vwCells]; omega]
    exact vw_get r k j (by simpa using hk) hj
theorem ReadsV.at {w0 : World} {R : HProp} {ad : Option Addr} {n cap : Nat} {L : List Vw} (h : ReadsV w0 R (.slice ad n cap) L) {w : World} (ho : Own w0 R w) (k : Nat) (hk : k < L.length) :
    ∃ a : Addr, ad = some a ∧ (∀ w, Own w0 R w → w.cell? (a.add (k * 2)) = some (.int .i64 L[k].1) ∧ w.cell? (a.add (k * 2 + 1)) = some L[k].2.1) ∧ Reads w0 R L[k].2.1 L[k].2.2 := by
  have key : ∀ w, Own w0 R w → ∃ a : Addr, ad = some a ∧ w.cell? (a.add (k * 2)) = some (.int .i64 L[k].1) ∧ w.cell? (a.add (k * 2 + 1)) = some L[k].2.1 := by
    intro w ho
    obtain ⟨ad', cap', e, h1, h2, _, hc⟩ := h.1 w ho
    cases e
    obtain ⟨a, ha, c0⟩ := hc (k * 2) _ (vw_get L k 0 hk (by omega))
    obtain ⟨a', ha', c1⟩ := hc (k * 2 + 1) _ (vw_get L k 1 hk (by omega))
    rw [ha] at ha'; cases ha'
    exact ⟨a, ha, c0, c1⟩
  obtain ⟨a, ha, _, _⟩ := key w ho
  refine ⟨a, ha, fun w ho => ?_, h.2 _ (List.getElem_mem hk)⟩
  obtain ⟨a', ha', c⟩ := key w ho
  rw [ha] at ha'; cases ha'
  exact c
theorem ReadsV.at2 {w0 : World} {R : HProp} {ad : Option Addr} {n cap : Nat} {L : List Vw} (h : ReadsV w0 R (.slice ad n cap) L) {w : World} (ho : Own w0 R w) (k : Nat) (hk : k < L.length) :
    ∃ (a : Addr) (eb eo : Nat) (es : Option Nat), ad = some a ∧ a.add (k * 2) = ⟨eb, eo, es⟩ ∧ (∀ w, Own w0 R w → w.cell? ⟨eb, eo, es⟩ = some (.int .i64 L[k].1) ∧ w.cell? ⟨eb, eo + 1, none⟩ = some L[k].2.1) ∧ Reads w0 R L[k].2.1 L[k].2.2 := by
  obtain ⟨a, ha, hc, hr⟩ := h.at ho k hk
  refine ⟨a, (a.add (k * 2)).block, (a.add (k * 2)).off, (a.add (k * 2)).spot, ha, rfl, fun w ho => ⟨(hc w ho).1, ?_⟩, hr⟩
  have h1 := (hc w ho).2
  have : a.add (k * 2 + 1) = ⟨(a.add (k * 2)).block, (a.add (k * 2)).off + 1, none⟩ := by
    unfold Addr.add
    rw [if_neg (by omega)]
    split
    · rename_i h0; simp [h0]
    · simp [Nat.add_assoc]
  rw [this] at h1
  exact h1
set_option maxRecDepth 100000 in
set_option maxHeartbeats 4000000 in
theorem viewChain_any {w0 w : World} {R : HProp} (v : Value) (L : List Vw) (hL : ReadsV w0 R v L) (h : Own w0 R w) :
    Calls Try.prog 24 #[v] w fun e w' => e = .returned (.tuple #[.int .i64 (chainR L).1, errV (chainR L).2]) ∧ Own w0 R w' := by
  obtain ⟨ad, cap, hv, hac, hac2⟩ := hL.shape h
  subst hv
  by_cases hlen : 60 < L.length
  · have hr : chainR L = (0, 4) := by unfold chainR; rw [if_pos hlen]
    have t1 : decide ((60 : Int) < (L.length : Int)) = true := by simp; omega
    have H := Lib.hid h; have HL := Lib.hid hL; have HR := Lib.hid hr
    clear h hL hr
    go_enter Try.func24, Try.ntmps24
    go_wp2
    go_ret2
    exact ⟨by rw [HR.out]; rfl, H.out⟩
  have hr : chainR L = chainGo none 0 L := by unfold chainR; rw [if_neg hlen]
  have t1 : decide ((60 : Int) < (L.length : Int)) = false := by simp; omega
  have H := Lib.hid h; have HL := Lib.hid hL; have HR := Lib.hid hr
  clear h hL hr
  go_enter Try.func24, Try.ntmps24
  go_wp2_with fail
  go_loopw [13] (fun i wr => ∃ k : Nat, k ≤ L.length ∧ i = .int .i64 k ∧ Hid (chainGo (chainPrev L k) k (L.drop k) = chainR L) ∧ Hid (Own w0 R wr) ∧ Hid (∀ x, chainPrev L k = some x → viewErr x.1 x.2.2 = 0)) (fun i _ => L.length - (intOf i).toNat)
  case atStart => exact ⟨0, Nat.zero_le _, rfl, Lib.hid HR.out.symm, H, Lib.hid (by intro x hx; cases hx)⟩
  case round =>
    obtain ⟨k, hk, rfl, hp, HO, hpv⟩ := hrel
    by_cases hlt : k < L.length
    rotate_left
    · have hfin : chainR L = (0, 0) := by
        have := hp.out
        rw [List.drop_of_length_le (by omega)] at this
        rw [← this]; unfold chainGo; rfl
      have HFIN := Lib.hid hfin
      clear hfin
      go_wp2
      go_ret2
      exact ⟨by rw [HFIN.out]; rfl, HO.out⟩
    obtain ⟨a, eb, eo, es, rfl, hea, hc, hRk⟩ := HL.out.at2 HO.out k hlt
    have hd : L.drop k = L[k] :: L.drop (k + 1) := List.drop_eq_getElem_cons hlt
    obtain ⟨x, hx⟩ : ∃ x, x = L[k] := ⟨_, rfl⟩
    rw [← hx] at hc hRk hd
    obtain ⟨n, va, A⟩ := x
    obtain ⟨ca, cb⟩ := hc _ HO.out
    have hg := hp.out
    rw [hd] at hg
    obtain ⟨sd, scap, hva, hac3, hac4⟩ := (hRk _ HO.out).shape
    simp only at hva hac3 hac4 ca cb hRk
    subst hva
    have HC := Lib.hid hc
    have HRK := Lib.hid hRk
    have HG := Lib.hid hg
    have HX := Lib.hid hx
    clear hc hRk hg hx hd
    obtain ⟨b1, hb1⟩ : ∃ c, c = wr.heap.size := ⟨_, rfl⟩
    have h1 := HO.out.alloc (.cells #[.int .i64 n, .slice sd A.length scap] 39)
    rw [← hb1] at h1
    obtain ⟨w1, hw1⟩ : ∃ w1, w1 = wr.alloc (.cells #[.int .i64 n, .slice sd A.length scap] 39) := ⟨_, rfl⟩
    rw [← hw1] at h1
    have HO1 : Hid (Own w0 (VwO b1 n (.slice sd A.length scap) * R) w1) := Lib.hid h1
    obtain ⟨c0, c1, _⟩ := HO1.out.vw
    have HRM : Hid (Reads w0 (VwO b1 n (.slice sd A.length scap) * R) (.slice sd A.length scap) A) := Lib.hid HRK.out.more
    clear h1
    go_upto_region 6 with fail
    rw [← hb1, ← hw1]
    clear hb1 hw1 ca cb
    by_cases he : viewErr n A = 0
    rotate_left
    · have hee := errV_pos he
      have hfin : chainR L = (k, viewErr n A) := by rw [← HG.out, chainGo_bad _ _ _ _ he]
      have HE := Lib.hid he; have HEE := Lib.hid hee; have HFIN := Lib.hid hfin
      clear he hee hfin
      go_wp2_with fail
      refine (viewCheck_any n _ A HO1.out HRM.out).mono ?_
      rintro e w2 ⟨rfl, ho⟩
      rw [HEE.out]
      have HO2 := Lib.hid ho
      clear ho
      go_wp2
      go_ret2
      exact ⟨by rw [HFIN.out]; exact congrArg (fun z => Ending.returned (.tuple #[.int .i64 k, z])) HEE.out.symm, HO2.out.drop⟩
    have hee : errV (viewErr n A) = .nilIface := by rw [he]; rfl
    have hn1 := (viewErr0 he).1.1
    have hn2 := (viewErr0 he).1.2
    have hA5 := (memErr_len (viewErr0 he).2).2
    by_cases hk0 : k = 0
    · have hp0 : chainPrev L k = none := by unfold chainPrev; rw [if_pos hk0]
      have hnext : chainGo (chainPrev L (k + 1)) (k + 1) (L.drop (k + 1)) = chainR L := by
        have h1 := HG.out
        rw [hp0, chainGo_none, if_neg (by simpa using he)] at h1
        rw [← h1]
        congr 1
        unfold chainPrev
        rw [if_neg (by omega), Nat.add_sub_cancel, List.getElem?_eq_getElem hlt, ← HX.out]
      have hpx : ∀ x, chainPrev L (k + 1) = some x → viewErr x.1 x.2.2 = 0 := by
        intro x hx
        unfold chainPrev at hx
        rw [if_neg (by omega), Nat.add_sub_cancel, List.getElem?_eq_getElem hlt, ← HX.out] at hx
        cases hx; exact he
      have t2 : ((k : Int) == 0) = true := by rw [beq_iff_eq]; omega
      have HE := Lib.hid he; have HEE := Lib.hid hee; have HNEXT := Lib.hid hnext; have HPX := Lib.hid hpx; have HP0 := Lib.hid hp0
      clear he hee hnext hpx hp0
      go_wp2_with fail
      refine (viewCheck_any n _ A HO1.out HRM.out).mono ?_
      rintro e w2 ⟨rfl, ho⟩
      rw [HEE.out]
      have HO2 := Lib.hid ho.drop
      clear ho
      go_wp2
      go_round
      case rel => exact ⟨k + 1, by omega, by go_num, HNEXT, HO2, HPX⟩
      case measure => simp [intOf]; omega
    obtain ⟨j, rfl⟩ : ∃ j, k = j + 1 := ⟨k - 1, by omega⟩
    have hj : j < L.length := by omega
    obtain ⟨a', fb, fo, fs, ha', hfa, hcy, hRy⟩ := HL.out.at2 HO.out j hj
    cases ha'
    obtain ⟨y, hy⟩ : ∃ y, y = L[j] := ⟨_, rfl⟩
    rw [← hy] at hcy hRy
    obtain ⟨m, vb, B⟩ := y
    simp only at hcy hRy
    have hpy : chainPrev L (j + 1) = some (m, vb, B) := by unfold chainPrev; rw [if_neg (by omega), Nat.add_sub_cancel, List.getElem?_eq_getElem hj, ← hy]
    have hv0 : viewErr m B = 0 := hpv.out _ hpy
    have hm1 := (viewErr0 hv0).1.1
    have hm2 := (viewErr0 hv0).1.2
    have hB5 := (memErr_len (viewErr0 hv0).2).2
    have hg := HG.out
    rw [hpy, chainGo_some, if_neg (by simpa using he)] at hg
    simp only at hg
    have hg2 := Lib.hid hg
    have HCY := Lib.hid hcy
    have HRY := Lib.hid hRy
    have hpx : ∀ x, chainPrev L (j + 1 + 1) = some x → viewErr x.1 x.2.2 = 0 := by
      intro x hx
      unfold chainPrev at hx
      rw [if_neg (by omega), Nat.add_sub_cancel, List.getElem?_eq_getElem hlt, ← HX.out] at hx
      cases hx; exact he
    have t2 : (((j + 1 : Nat) : Int) == 0) = false := by rw [beq_eq_false_iff_ne]; omega
    have HE := Lib.hid he; have HEE := Lib.hid hee; have HPX := Lib.hid hpx; have HPY := Lib.hid hpy; have HY := Lib.hid hy; have HV0 := Lib.hid hv0
    clear he hee hpx hpy hy hv0
    clear hg hcy hRy
    go_wp2_with fail
    refine (viewCheck_any n _ A HO1.out HRM.out).mono ?_
    rintro e w2 ⟨rfl, ho⟩
    rw [HEE.out]
    have HO2 := Lib.hid ho
    obtain ⟨d0, d1, _⟩ := ho.vw
    obtain ⟨f0, f1⟩ := HCY.out _ ho.drop
    clear ho c0 c1
    go_wp2_with fail
    by_cases hne : n = m + 1
    rotate_left
    · have hfin : chainR L = (j + 1, 3) := by rw [← hg2.out, if_pos hne]
      have t3 : (n != m + 1) = true := by simpa using hne
      have HNE := Lib.hid hne; have HFIN := Lib.hid hfin
      clear hne hfin
      go_quiet (fail)
      go_wp2
      go_ret2
      exact ⟨by rw [HFIN.out]; rfl, HO2.out.drop.drewN _⟩
    have t3 : (n != m + 1) = false := by simpa using hne
    cases hmo : mostB B A
    · have hfin : chainR L = (j + 1, 8) := by rw [← hg2.out, if_neg (by simpa using hne), if_pos hmo]
      have HNE := Lib.hid hne; have HFIN := Lib.hid hfin; have HMO := Lib.hid hmo
      clear hne hfin hmo
      go_quiet (fail)
      have HO3 := Lib.hid (HO2.out.drewN nq)
      obtain ⟨d0, d1, _⟩ := HO3.out.vw
      obtain ⟨f0, f1⟩ := HCY.out _ HO3.out.drop
      generalize w2.drewN nq = w3 at *
      go_wp2_with fail
      have hwj : IntKind.i64.wrap (j : Int) = (j : Int) := by rw [IntKind.wrap_i64]; omega
      have hj1 : (j : Int) < (L.length : Int) := by omega
      have hj0 : (0 : Int) ≤ (j : Int) := by omega
      refine wp_region_tail 8 (by kernel_rfl) (by kernel_rfl) ?_
      simp only [List.take_succ_cons, List.take_zero, List.drop_succ_cons, List.drop_zero]
      repeat still_step
      refine wpStill_nil ?_
      go_wp2_with fail
      refine (most_any vb _ B A HRY.out.more HRM.out (by omega) HO3.out.drew).mono ?_
      rintro e w4 ⟨rfl, ho⟩
      rw [HMO.out]
      have HO4 := Lib.hid ho.drop
      clear ho
      go_wp2_with fail
      go_ret2
      exact ⟨by rw [HFIN.out]; rfl, HO4.out⟩
    · have hnext : chainGo (chainPrev L (j + 1 + 1)) (j + 1 + 1) (L.drop (j + 1 + 1)) = chainR L := by
        rw [← hg2.out, if_neg (by simpa using hne), if_neg (by rw [hmo]; simp)]
        congr 1
        unfold chainPrev
        rw [if_neg (by omega), Nat.add_sub_cancel, List.getElem?_eq_getElem hlt, ← HX.out]
      have HNE := Lib.hid hne; have HNEXT := Lib.hid hnext; have HMO := Lib.hid hmo
      clear hne hnext hmo
      go_quiet (fail)
      have HO3 := Lib.hid (HO2.out.drewN nq)
      obtain ⟨d0, d1, _⟩ := HO3.out.vw
      obtain ⟨f0, f1⟩ := HCY.out _ HO3.out.drop
      generalize w2.drewN nq = w3 at *
      go_wp2_with fail
      have hwj : IntKind.i64.wrap (j : Int) = (j : Int) := by rw [IntKind.wrap_i64]; omega
      have hj1 : (j : Int) < (L.length : Int) := by omega
      have hj0 : (0 : Int) ≤ (j : Int) := by omega
      refine wp_region_tail 8 (by kernel_rfl) (by kernel_rfl) ?_
      simp only [List.take_succ_cons, List.take_zero, List.drop_succ_cons, List.drop_zero]
      repeat still_step
      refine wpStill_nil ?_
      go_wp2_with fail
      refine (most_any vb _ B A HRY.out.more HRM.out (by omega) HO3.out.drew).mono ?_
      rintro e w4 ⟨rfl, ho⟩
      rw [HMO.out]
      have HO4 := Lib.hid ho.drop
      clear ho
      go_wp2_with fail
      go_round
      case rel => exact ⟨j + 1 + 1, by omega, by go_num, HNEXT, HO4, HPX⟩
      case measure => simp [intOf]; omega
end Go.Proofs.Ytkgnjkokbiefgaa
