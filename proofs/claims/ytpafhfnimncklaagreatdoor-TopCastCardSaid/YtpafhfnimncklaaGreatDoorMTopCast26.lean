/- The package-level variable errors.errorType as the rows list it: what a walk has of it; a world that meets it. (After the guide's Toyas example.) -/
import Derived.Test.YtpafhfnimncklaaGreatDoorMTopCast18
import Derived.Test.YtpafhfnimncklaaGreatDoorRows
import Derived.ChangeSame
import Derived.ChangeVars
import Derived.JoinedOf
import Derived.LaidLaws
import Derived.LaidHandle
import Derived.Stop.Joined
import Derived.Test.YtpafhfnimncklaaGreatDoorMTopCast20
import Derived.Test.YtpafhfnimncklaaGreatDoorMTopCast25
import Derived.ProofKit
import Derived.KernelRfl
namespace Go.Proofs.YtpafhfnimncklaaGreatDoor
set_option linter.unusedVariables false
set_option linter.unusedSimpArgs false
open Go.ChangeShapes Go.WideShapes Go.RowKit
theorem errt : Tryz.prog.globalNamed "errors.errorType" = some 0 := by kernel_rfl
theorem rtt : (Tryz.prog.cutTypes.find? (·.1 == "internal/reflectlite.rtype")).map (·.2) = some 139 := by kernel_rfl
theorem oneRow : ((List.range 208).filter fun t => Tryz.prog.rowNamed t [101, 114, 114, 111, 114]) = [26] := by kernel_rfl
theorem typesSize : Tryz.prog.types.size = 208 := by kernel_rfl
def theLaid : List (String × DataW Unit) := [("errors.errorType", Rows.laid_errors_errorType)]
theorem handle_of_laid {W : World} (h : laidMetH Tryz.prog theLaid W) : As.Handle W := by
  have h' : laidMet Tryz.prog [] W ∧ handlesMet Tryz.prog theLaid W := h
  obtain ⟨name, u, ty, e1, e2, e3, e4, e5⟩ := h'.2 _ (List.mem_singleton.2 rfl)
  have en : name = [101, 114, 114, 111, 114] := (Option.some.inj e1).symm
  subst en
  obtain rfl := Option.some.inj (rtt.symm.trans e2)
  have hm : ty ∈ (List.range 208).filter fun t => Tryz.prog.rowNamed t [101, 114, 114, 111, 114] := List.mem_filter.2 ⟨List.mem_range.2 (by rw [← typesSize]; exact e3), e4⟩
  rw [oneRow] at hm
  obtain rfl := List.mem_singleton.1 hm
  have hh : typeHandle Tryz.prog 26 = .pointer (some ⟨5, 26, none⟩) := by kernel_rfl
  rw [hh] at e5
  unfold As.Handle
  simpa using World.var?_cell errt e5 0
def laidWorld (P : Program) (os : Os) : World :=
  { World.holding P os ⟨#[], #[], []⟩ with heap := (World.holding P os ⟨#[], #[], []⟩).heap.setIfInBounds 0 (.cells #[.iface 139 (.agg #[.pointer (some ⟨5, 26, none⟩)])] 120 (0, 0)) }
theorem laidWorld_met (os : Os) (args : Array Value) : laidMetH Tryz.prog theLaid ((laidWorld Tryz.prog os).forCall (fun _ _ => 0) ⟨#[], args, []⟩).memory :=
  laidMetH_of_parts (laidMet_nil _ _) (by kernel_rfl)
end Go.Proofs.YtpafhfnimncklaaGreatDoor
/- TopCast: what a group says and hears is logged as it was; packed as bytes it is read as it was. -/
namespace Go.Proofs.YtpafhfnimncklaaGreatDoor
set_option linter.unusedVariables false
set_option linter.unusedSimpArgs false
open Go.RowKit Go.Maps
theorem hist_goodT {N D c} (h : Cc N D c) : ∀ e ∈ c.hist, goodEv e := h.z.i.hist
theorem Own.ls_shT {w0 w : World} {v : Value} {rs : List (Value × List Int)} {R : HProp} (h : Own w0 (LSl v rs * R) w) : ∃ ad cap, v = .slice ad rs.length cap ∧ rs.length ≤ cap ∧ cap ≤ 9223372036854775807 := by
  have h1 : Own w0 (Sl 30 1 v rs.length (rs.map (·.1)) * (starL rowP rs * R)) w := h.perm (by unfold LSl; ac_rfl)
  obtain ⟨ad, cap, h2, h3, h4, _⟩ := Own.rd h1
  exact ⟨ad, cap, h2, h3, by have : (maxLen : Nat) = 9223372036854775807 := rfl; omega⟩
set_option maxRecDepth 100000 in
set_option maxHeartbeats 4000000 in
theorem topCast_law (w : World) (hg : As.Handle w) (n : Int) (_hn : I64 n) (vs : Value) (steps : List (List Int)) (hvs : Rows2 w vs steps) :
    Calls Tryz.prog 3 #[.int .i64 n, vs] w fun e w' => e = .returned (.bool true) ∧ Below w.heap.size w w' := by
  obtain ⟨sad, scap, rfl, hsc1, hsc2⟩ := hvs.shape
  have HO0 := Lib.hid (Own.start w)
  have HG := Lib.hid hg; have HVS := Lib.hid hvs
  clear hg hvs
  go_enter Tryz.func3, Tryz.ntmps3
  go_wp2_with fail
  refine (one_any HO0.out).mono ?_
  rintro e w1 ⟨rfl, ho⟩
  have HO1 := Lib.hid ho
  clear ho HO0
  cases hgr : isGrp n
  · have hcs : n < 2 ∨ (¬ n < 2 ∧ 5 < n) := by simp [isGrp] at hgr; omega
    have HGR := Lib.hid hgr
    clear hgr
    go_wp2_with fail
    refine (csNew_no n _ HGR.out).mono ?_
    rintro e w4 ⟨rfl, rfl⟩
    rw [show errV 1 = .iface 61 (.int .i64 1) from rfl]
    go_wp2
    go_ret
    exact ⟨rfl, HO1.out.below⟩
  have hnb : 2 ≤ n ∧ n ≤ 5 := by simpa [isGrp] using hgr
  obtain ⟨N, rfl⟩ : ∃ N : Nat, n = (N : Int) := ⟨n.toNat, by omega⟩
  have hN2 : 2 ≤ N := by omega
  have hN5 : N ≤ 5 := by omega
  have HI0 := Lib.hid (Cc.new hN2 hN5 true)
  have HGR := Lib.hid hgr
  clear hgr
  go_wp2_with fail
  refine (csNew_yes N HGR.out HO1.out).mono ?_
  rintro e w4 ⟨p, rfl, ho⟩
  rw [errV0]
  have HO4 := Lib.hid ho
  clear ho HO1
  go_upto_block 0 with fail
  refine tcLoop w HG.out (csNew N) HI0.out sad scap steps hsc1 hsc2 HVS.out HO4 ?_
  intros
  rename_i hcut
  obtain ⟨c, hi, ho⟩ := hcut
  have HO5 := Lib.hid ho
  have hbb : c.hist.length ≤ 100000 := by have := hi.z.len; omega
  have hef := hi.z.right
  have hcf := hi.z.causal
  have hff := hi.z.fifo
  have hr : RightH c.hist := (histR_ok _).1 hi.z.right
  have hE := (histR_ok _).2 hr
  have hgo := hist_goodT hi
  have HI5 := Lib.hid hi
  have HRR := Lib.hid hr
  have HEE := Lib.hid hE
  clear ho hi HI0 HO4 hr hE
  obtain ⟨T, hT⟩ : ∃ x, x = facesT c.hist := ⟨_, rfl⟩
  obtain ⟨LH, hLH⟩ : ∃ x, x = c.hist.length := ⟨_, rfl⟩
  have hlvl := (vecs_ok HRR.out).1
  have HEF := Lib.hid hef; have HCF := Lib.hid hcf; have HFF := Lib.hid hff; have HT := Lib.hid hT; have HGO := Lib.hid hgo; have HLH := Lib.hid hLH; have HLVL := Lib.hid hlvl
  clear hef hcf hff hT hgo hLH hlvl
  go_wp2_with fail
  refine (csHistory_any p c HI5.out.z.i hbb HO5.out).mono ?_
  rintro e w6 ⟨v6, rfl, ho⟩
  obtain ⟨had, hcp, hhv, hx1, hx2, _⟩ := Own.rd ho
  rw [← HLH.out] at hhv hx1
  subst hhv
  have HO6 := Lib.hid ho
  clear ho HO5
  go_wp2_with fail
  refine (lgNew_any HO6.out).mono ?_
  rintro e w7 ⟨j, rfl, ho⟩
  have HO7 := Lib.hid ho
  clear ho HO6
  go_upto_block 4 with fail
  refine tcDo w (CsP p c * emp) j LH hcp had c.hist HRR.out HLH.out hx1 hx2 HGO.out HO7 ?_
  intros
  rename_i w8 hcut
  have HO8 := Lib.hid hcut
  have hI8 := lgAt_I HRR.out (Nat.le_refl c.hist.length)
  have hs8 := lgAt_sync c.hist c.hist.length
  have hc8 := lgAt_crash (h := c.hist)
  have hI9 := hI8.sync
  have hIA := hI9.crash 0
  obtain ⟨s8, hs8e⟩ : ∃ s, s = lgAt c.hist c.hist.length := ⟨_, rfl⟩
  rw [← hs8e] at HO8 hI8 hs8 hc8 hI9 hIA
  obtain ⟨s9, hs9e⟩ : ∃ s, s = lgSync s8 := ⟨_, rfl⟩
  rw [← hs9e] at hc8 hI9 hIA
  obtain ⟨sA, hsAe⟩ : ∃ s, s = lgCrash s9 0 := ⟨_, rfl⟩
  rw [← hsAe] at hc8 hIA
  clear hcut HO7
  have HI8 := Lib.hid hI8; have HS8 := Lib.hid hs8; have HC8 := Lib.hid hc8; have HI9 := Lib.hid hI9; have HIA := Lib.hid hIA; have HS8E := Lib.hid hs8e; have HS9E := Lib.hid hs9e; have HSAE := Lib.hid hsAe
  clear hI8 hs8 hc8 hI9 hIA hs8e hs9e hsAe
  go_wp2_with fail
  refine (lgSync_any j s8 HI8.out HO8.out).mono ?_
  rintro e w9 ⟨rfl, ho⟩
  rw [HS8.out, errV0]
  rw [← HS9E.out] at ho
  have HO9 := Lib.hid ho
  clear ho HO8
  go_wp2_with fail
  refine (lgCrash_any j s9 0 HI9.out HO9.out).mono ?_
  rintro e wA ⟨rfl, ho⟩
  rw [← HSAE.out] at ho
  have HOA := Lib.hid ho
  clear ho HO9
  go_wp2_with fail
  refine (lgFaces_any j sA HIA.out HOA.out).mono ?_
  rintro e wB ⟨rfl, ho⟩
  rw [HC8.out, HEF.out, HCF.out, HFF.out, ← HT.out, errV0]
  have HOB := Lib.hid ho
  clear ho HOA
  obtain ⟨fb, hb_fb⟩ : ∃ zz_, zz_ = (wB).heap.size := ⟨_, rfl⟩
  obtain ⟨wC, hw_wC⟩ : ∃ zz_, zz_ = (wB).alloc (.cells #[.bool true, .bool true, .bool T] 44) := ⟨_, rfl⟩
  have h_HOC := (HOB.out).alloc (.cells #[.bool true, .bool true, .bool T] 44)
  rw [← hb_fb, ← hw_wC] at h_HOC
  have HOC := Lib.hid h_HOC
  clear h_HOC
  go_upto_region 29 with fail
  rw [← hb_fb, ← hw_wC]
  clear hb_fb hw_wC
  have HOD : Hid (Own w (EvSl (.slice had LH hcp) c.hist * (LgP j sA * (CsP p c * (FaO fb true true T * emp)))) wC) := Lib.hid ((show Own w (FaO fb true true T * (LgP j sA * (EvSl (.slice had LH hcp) c.hist * (CsP p c * emp)))) wC from HOC.out).perm (by ac_rfl))
  clear HOC HOB
  go_wp2_with fail
  refine (vectors_any _ c.hist HOD.out (EvSl_reads HGO.out)).mono ?_
  rintro e wD ⟨vD, rs, rfl, hrs, ho⟩
  rw [HEE.out, errV0]
  have hrs2 : rs.map (·.2) = vecsR c.hist := by rw [hrs]; unfold vecsE; rw [if_pos HEE.out]
  have hrl : rs.length = LH := by rw [HLH.out, ← HLVL.out, ← hrs2, List.length_map]
  obtain ⟨vad, vcap, hvv, hv1, hv2⟩ := ho.ls_shT
  rw [hrl] at hvv hv1
  subst hvv
  have HOE : Hid (Own w (LgP j sA * (EvSl (.slice had LH hcp) c.hist * (LSl (.slice vad LH vcap) rs * (FaO fb true true T * (CsP p c * emp))))) wD) := Lib.hid (ho.perm (by ac_rfl))
  obtain ⟨f0, f1, f2, _⟩ := (HOE.out.perm (show _ = FaO fb true true T * (LgP j sA * (EvSl (.slice had LH hcp) c.hist * (LSl (.slice vad LH vcap) rs * (CsP p c * emp)))) by ac_rfl)).fa
  clear ho HOD
  have HRS := Lib.hid hrs; have HRS2 := Lib.hid hrs2; have HRL := Lib.hid hrl
  clear hrs hrs2 hrl
  go_wp2_with fail
  refine (lgAll_any j sA HIA.out HOE.out).mono ?_
  rintro e wE ⟨vE, rfl, ho⟩
  rw [HC8.out] at ho
  have HOF := Lib.hid ho
  have hea := (EvSl_reads HGO.out) _ ho
  have heb := (EvSl_reads (v := .slice had LH hcp) HGO.out) _ (ho.perm (show _ = EvSl (.slice had LH hcp) c.hist * (EvSl vE c.hist * (LgP j sA * (LSl (.slice vad LH vcap) rs * (FaO fb true true T * (CsP p c * emp))))) by ac_rfl))
  have HEA := Lib.hid hea; have HEB := Lib.hid heb
  clear hea heb
  clear ho HOE f0 f1 f2
  go_wp2_with fail
  refine (sameEv_any _ _ c.hist HEA.out HEB.out).mono ?_
  rintro e wF ⟨rfl, nn, rfl⟩
  have HOG : Hid (Own w (EvSl (.slice had LH hcp) c.hist * (LSl (.slice vad LH vcap) rs * emp)) (wE.drewN nn)) := Lib.hid ((HOF.out.drewN nn).perm (show _ = EvSl vE c.hist * (LgP j sA * (FaO fb true true T * (CsP p c * (EvSl (.slice had LH hcp) c.hist * (LSl (.slice vad LH vcap) rs * emp))))) by ac_rfl)).drop.drop.drop.drop
  obtain ⟨wG, hwG⟩ : ∃ wG, wG = wE.drewN nn := ⟨_, rfl⟩
  rw [← hwG] at HOG ⊢
  clear hwG HOF HEA HEB
  go_upto_block 6 with fail
  refine tcEnd w LH hcp vcap had vad c HI5.out.z rs HRS2.out HLH.out hx1 hx2 HGO.out hv1 hv2 HOG ?_
  intros
  rename_i wH hcut
  have HOH := Lib.hid hcut
  clear hcut HOG
  go_wp2
  go_ret
  exact ⟨rfl, HOH.out.below⟩
end Go.Proofs.YtpafhfnimncklaaGreatDoor
/- Closed facts on the program as a whole, each asked once for all statements of the seat. -/
namespace Go.Proofs.YtpafhfnimncklaaGreatDoor.facts
set_option linter.unusedVariables false
set_option linter.unusedSimpArgs false
open Go.ChangeShapes Go.WideShapes Go.ChangeAt
theorem words_step (w r : List Char) (h : w.all (fun c => c != Char.ofNat 32) = true) : wordsSigns (w ++ Char.ofNat 32 :: r) = w :: wordsSigns r := by
  induction w with
  | nil => rfl
  | cons c w ih =>
    simp only [List.all_cons, Bool.and_eq_true, bne_iff_ne, ne_eq] at h
    rw [List.cons_append]
    have e : wordsSigns (c :: (w ++ Char.ofNat 32 :: r)) = match wordsSigns (w ++ Char.ofNat 32 :: r) with | x :: xs => (c :: x) :: xs | [] => [[c]] := by
      conv => lhs; unfold wordsSigns
      split
      · rename_i h1; cases h1
      · rename_i h1; injection h1 with h2 _; exact absurd h2 h.1
      · rename_i h1; injection h1 with h2 h3; subst h2 h3; rfl
    rw [e, ih (by simpa using h.2)]
theorem make_of (P : Program) (c : List Char) (rest : List (List Char)) (h : behindMainWord (wordsSigns P.initOrder.toList) = c :: rest) : P.make =
  if c == "gc".toList || c == "spec".toList then some .whole else if c == "cut".toList || (c == "finals".toList && rest.head? == some "cut".toList) then some .cut else if c == "carried".toList then some .carried else if P.headLifts.isEmpty then none else some (.lifted P.headLifts) := by
  unfold Program.make
  rw [h]
theorem mayEnter_of (P : Program) (c : List Char) (rest : List (List Char)) (h : behindMainWord (wordsSigns P.initOrder.toList) = c :: rest) : P.mayEnter = (
    ((c == "gc".toList || c == "spec".toList) && (rest.isEmpty || rest.head? == some "stop".toList)) ||
    (c == "carried".toList && rest.take 2 == ["gc".toList, "cut".toList] && !P.laysLater && !P.bearsReflect) ||
    ((stripLifts liftWords (c :: rest)).2.head? == some "cut".toList &&
      ((stripLifts liftWords (c :: rest)).1.contains "finals" || !P.laysLater) && ((stripLifts liftWords (c :: rest)).1.contains "reflectrows" || !P.bearsReflect) &&
      ((stripLifts liftWords (c :: rest)).1.contains "reflectrows" || !(stripLifts liftWords (c :: rest)).1.contains "leanrows") &&
      P.doorFits (stripLifts liftWords (c :: rest)).1)) := by
  unfold Program.mayEnter
  rw [h]
def hw0 : List Char := [Char.ofNat 104, Char.ofNat 97, Char.ofNat 114, Char.ofNat 110, Char.ofNat 101, Char.ofNat 115, Char.ofNat 115]
def hw1 : List Char := [Char.ofNat 102, Char.ofNat 48, Char.ofNat 50, Char.ofNat 51, Char.ofNat 50, Char.ofNat 102, Char.ofNat 50, Char.ofNat 99, Char.ofNat 48, Char.ofNat 100, Char.ofNat 55, Char.ofNat 56, Char.ofNat 99, Char.ofNat 51, Char.ofNat 53, Char.ofNat 99, Char.ofNat 101, Char.ofNat 53, Char.ofNat 56, Char.ofNat 51, Char.ofNat 57, Char.ofNat 97, Char.ofNat 100, Char.ofNat 53, Char.ofNat 102, Char.ofNat 51, Char.ofNat 52, Char.ofNat 51, Char.ofNat 97, Char.ofNat 100, Char.ofNat 100, Char.ofNat 57, Char.ofNat 55, Char.ofNat 57, Char.ofNat 56, Char.ofNat 51, Char.ofNat 56, Char.ofNat 102, Char.ofNat 98, Char.ofNat 53, Char.ofNat 99, Char.ofNat 100, Char.ofNat 97, Char.ofNat 49, Char.ofNat 54, Char.ofNat 48, Char.ofNat 57, Char.ofNat 49, Char.ofNat 99, Char.ofNat 99, Char.ofNat 55, Char.ofNat 99, Char.ofNat 53, Char.ofNat 98, Char.ofNat 51, Char.ofNat 49, Char.ofNat 53, Char.ofNat 102, Char.ofNat 54, Char.ofNat 52, Char.ofNat 97, Char.ofNat 97, Char.ofNat 54, Char.ofNat 52]
def hw2 : List Char := [Char.ofNat 99, Char.ofNat 117, Char.ofNat 116]
def hrest : List Char := [Char.ofNat 97, Char.ofNat 116, Char.ofNat 32, Char.ofNat 109, Char.ofNat 111, Char.ofNat 111, Char.ofNat 116, Char.ofNat 98, Char.ofNat 101, Char.ofNat 108, Char.ofNat 108, Char.ofNat 47, Char.ofNat 109, Char.ofNat 111, Char.ofNat 111, Char.ofNat 116, Char.ofNat 116, Char.ofNat 111, Char.ofNat 112, Char.ofNat 46, Char.ofNat 84, Char.ofNat 111, Char.ofNat 112, Char.ofNat 67, Char.ofNat 97, Char.ofNat 115, Char.ofNat 116]
set_option maxRecDepth 100000 in
theorem init_lit : Tryz.prog.initOrder = String.ofList [Char.ofNat 104, Char.ofNat 97, Char.ofNat 114, Char.ofNat 110, Char.ofNat 101, Char.ofNat 115, Char.ofNat 115, Char.ofNat 32, Char.ofNat 102, Char.ofNat 48, Char.ofNat 50, Char.ofNat 51, Char.ofNat 50, Char.ofNat 102, Char.ofNat 50, Char.ofNat 99, Char.ofNat 48, Char.ofNat 100, Char.ofNat 55, Char.ofNat 56, Char.ofNat 99, Char.ofNat 51, Char.ofNat 53, Char.ofNat 99, Char.ofNat 101, Char.ofNat 53, Char.ofNat 56, Char.ofNat 51, Char.ofNat 57, Char.ofNat 97, Char.ofNat 100, Char.ofNat 53, Char.ofNat 102, Char.ofNat 51, Char.ofNat 52, Char.ofNat 51, Char.ofNat 97, Char.ofNat 100, Char.ofNat 100, Char.ofNat 57, Char.ofNat 55, Char.ofNat 57, Char.ofNat 56, Char.ofNat 51, Char.ofNat 56, Char.ofNat 102, Char.ofNat 98, Char.ofNat 53, Char.ofNat 99, Char.ofNat 100, Char.ofNat 97, Char.ofNat 49, Char.ofNat 54, Char.ofNat 48, Char.ofNat 57, Char.ofNat 49, Char.ofNat 99, Char.ofNat 99, Char.ofNat 55, Char.ofNat 99, Char.ofNat 53, Char.ofNat 98, Char.ofNat 51, Char.ofNat 49, Char.ofNat 53, Char.ofNat 102, Char.ofNat 54, Char.ofNat 52, Char.ofNat 97, Char.ofNat 97, Char.ofNat 54, Char.ofNat 52, Char.ofNat 32, Char.ofNat 99, Char.ofNat 117, Char.ofNat 116, Char.ofNat 32, Char.ofNat 97, Char.ofNat 116, Char.ofNat 32, Char.ofNat 109, Char.ofNat 111, Char.ofNat 111, Char.ofNat 116, Char.ofNat 98, Char.ofNat 101, Char.ofNat 108, Char.ofNat 108, Char.ofNat 47, Char.ofNat 109, Char.ofNat 111, Char.ofNat 111, Char.ofNat 116, Char.ofNat 116, Char.ofNat 111, Char.ofNat 112, Char.ofNat 46, Char.ofNat 84, Char.ofNat 111, Char.ofNat 112, Char.ofNat 67, Char.ofNat 97, Char.ofNat 115, Char.ofNat 116] := by kernel_rfl
set_option maxRecDepth 100000 in
theorem init_chars : Tryz.prog.initOrder.toList = [Char.ofNat 104, Char.ofNat 97, Char.ofNat 114, Char.ofNat 110, Char.ofNat 101, Char.ofNat 115, Char.ofNat 115, Char.ofNat 32, Char.ofNat 102, Char.ofNat 48, Char.ofNat 50, Char.ofNat 51, Char.ofNat 50, Char.ofNat 102, Char.ofNat 50, Char.ofNat 99, Char.ofNat 48, Char.ofNat 100, Char.ofNat 55, Char.ofNat 56, Char.ofNat 99, Char.ofNat 51, Char.ofNat 53, Char.ofNat 99, Char.ofNat 101, Char.ofNat 53, Char.ofNat 56, Char.ofNat 51, Char.ofNat 57, Char.ofNat 97, Char.ofNat 100, Char.ofNat 53, Char.ofNat 102, Char.ofNat 51, Char.ofNat 52, Char.ofNat 51, Char.ofNat 97, Char.ofNat 100, Char.ofNat 100, Char.ofNat 57, Char.ofNat 55, Char.ofNat 57, Char.ofNat 56, Char.ofNat 51, Char.ofNat 56, Char.ofNat 102, Char.ofNat 98, Char.ofNat 53, Char.ofNat 99, Char.ofNat 100, Char.ofNat 97, Char.ofNat 49, Char.ofNat 54, Char.ofNat 48, Char.ofNat 57, Char.ofNat 49, Char.ofNat 99, Char.ofNat 99, Char.ofNat 55, Char.ofNat 99, Char.ofNat 53, Char.ofNat 98, Char.ofNat 51, Char.ofNat 49, Char.ofNat 53, Char.ofNat 102, Char.ofNat 54, Char.ofNat 52, Char.ofNat 97, Char.ofNat 97, Char.ofNat 54, Char.ofNat 52, Char.ofNat 32, Char.ofNat 99, Char.ofNat 117, Char.ofNat 116, Char.ofNat 32, Char.ofNat 97, Char.ofNat 116, Char.ofNat 32, Char.ofNat 109, Char.ofNat 111, Char.ofNat 111, Char.ofNat 116, Char.ofNat 98, Char.ofNat 101, Char.ofNat 108, Char.ofNat 108, Char.ofNat 47, Char.ofNat 109, Char.ofNat 111, Char.ofNat 111, Char.ofNat 116, Char.ofNat 116, Char.ofNat 111, Char.ofNat 112, Char.ofNat 46, Char.ofNat 84, Char.ofNat 111, Char.ofNat 112, Char.ofNat 67, Char.ofNat 97, Char.ofNat 115, Char.ofNat 116] := by rw [init_lit, String.toList_ofList]
set_option maxRecDepth 100000 in
theorem init_split : [Char.ofNat 104, Char.ofNat 97, Char.ofNat 114, Char.ofNat 110, Char.ofNat 101, Char.ofNat 115, Char.ofNat 115, Char.ofNat 32, Char.ofNat 102, Char.ofNat 48, Char.ofNat 50, Char.ofNat 51, Char.ofNat 50, Char.ofNat 102, Char.ofNat 50, Char.ofNat 99, Char.ofNat 48, Char.ofNat 100, Char.ofNat 55, Char.ofNat 56, Char.ofNat 99, Char.ofNat 51, Char.ofNat 53, Char.ofNat 99, Char.ofNat 101, Char.ofNat 53, Char.ofNat 56, Char.ofNat 51, Char.ofNat 57, Char.ofNat 97, Char.ofNat 100, Char.ofNat 53, Char.ofNat 102, Char.ofNat 51, Char.ofNat 52, Char.ofNat 51, Char.ofNat 97, Char.ofNat 100, Char.ofNat 100, Char.ofNat 57, Char.ofNat 55, Char.ofNat 57, Char.ofNat 56, Char.ofNat 51, Char.ofNat 56, Char.ofNat 102, Char.ofNat 98, Char.ofNat 53, Char.ofNat 99, Char.ofNat 100, Char.ofNat 97, Char.ofNat 49, Char.ofNat 54, Char.ofNat 48, Char.ofNat 57, Char.ofNat 49, Char.ofNat 99, Char.ofNat 99, Char.ofNat 55, Char.ofNat 99, Char.ofNat 53, Char.ofNat 98, Char.ofNat 51, Char.ofNat 49, Char.ofNat 53, Char.ofNat 102, Char.ofNat 54, Char.ofNat 52, Char.ofNat 97, Char.ofNat 97, Char.ofNat 54, Char.ofNat 52, Char.ofNat 32, Char.ofNat 99, Char.ofNat 117, Char.ofNat 116, Char.ofNat 32, Char.ofNat 97, Char.ofNat 116, Char.ofNat 32, Char.ofNat 109, Char.ofNat 111, Char.ofNat 111, Char.ofNat 116, Char.ofNat 98, Char.ofNat 101, Char.ofNat 108, Char.ofNat 108, Char.ofNat 47, Char.ofNat 109, Char.ofNat 111, Char.ofNat 111, Char.ofNat 116, Char.ofNat 116, Char.ofNat 111, Char.ofNat 112, Char.ofNat 46, Char.ofNat 84, Char.ofNat 111, Char.ofNat 112, Char.ofNat 67, Char.ofNat 97, Char.ofNat 115, Char.ofNat 116] = hw0 ++ Char.ofNat 32 :: (hw1 ++ Char.ofNat 32 :: (hw2 ++ Char.ofNat 32 :: hrest)) := by kernel_rfl
theorem init_words : wordsSigns Tryz.prog.initOrder.toList = hw0 :: hw1 :: hw2 :: wordsSigns hrest := by
  rw [init_chars.trans init_split]
  rw [words_step hw0 _ (by kernel_rfl)]
  rw [words_step hw1 _ (by kernel_rfl)]
  rw [words_step hw2 _ (by kernel_rfl)]
theorem behind (rs : List (List Char)) : behindMainWord (hw0 :: hw1 :: hw2 :: rs) = hw2 :: rs := by kernel_rfl
theorem strip (rs : List (List Char)) : stripLifts liftWords (hw2 :: rs) = ([], hw2 :: rs) := by kernel_rfl
theorem laysLater : Tryz.prog.laysLater = false := by kernel_rfl
theorem bearsReflect : Tryz.prog.bearsReflect = false := by kernel_rfl
theorem doorFits : Tryz.prog.doorFits [] = true := by kernel_rfl
theorem headLifts : Tryz.prog.headLifts = [] := by
  unfold Program.headLifts; rw [init_words, behind, strip]; generalize wordsSigns hrest = rs; kernel_rfl
theorem mayEnter : Tryz.prog.mayEnter = true := by
  rw [mayEnter_of Tryz.prog _ _ (by rw [init_words, behind]), strip, laysLater, bearsReflect, doorFits]; generalize wordsSigns hrest = rs; kernel_rfl
theorem lifts_eq : Tryz.prog.liftsFinal = false := by
  unfold Program.liftsFinal; rw [init_words, behind, headLifts]; generalize wordsSigns hrest = rs; kernel_rfl
theorem make_eq : (Tryz.prog.make == some .cut) = true := by
  rw [make_of Tryz.prog _ _ (by rw [init_words, behind]), headLifts]; generalize wordsSigns hrest = rs; kernel_rfl
theorem laidOut : laidOutB Tryz.prog = true := by kernel_rfl
theorem mapsRowed : mapsRowed Tryz.prog = true := by kernel_rfl
theorem stops : (Tryz.prog.stops == []) = true := by kernel_rfl
theorem stopKnobs : (Tryz.prog.stopKnobs == []) = true := by kernel_rfl
theorem stopsHeard : Tryz.prog.stopsHeard = true := by kernel_rfl
theorem own : ownKnob Tryz.prog.godebug = none := by kernel_rfl
theorem and_mk {a b : Bool} (ha : a = true) (hb : b = true) : (a && b) = true := by rw [ha, hb]; rfl
end Go.Proofs.YtpafhfnimncklaaGreatDoor.facts
/- The package-level variables that the log's rows list: errors.errorType, and three tables of the library that no walk reads; a world that meets them. -/
namespace Go.Proofs.YtpafhfnimncklaaGreatDoor
set_option linter.unusedVariables false
set_option linter.unusedSimpArgs false
open Go.ChangeShapes Go.WideShapes Go.RowKit
def theLaid4 : List (String × DataW Unit) := [("math/bits.deBruijn32tab", Rows.laid_math_bits_deBruijn32tab), ("math/bits.deBruijn64tab", Rows.laid_math_bits_deBruijn64tab), ("internal/strconv.uint64pow10", Rows.laid_internal_strconv_uint64pow10), ("errors.errorType", Rows.laid_errors_errorType)]
def theData4 : List (String × DataW Unit) := [("math/bits.deBruijn32tab", Rows.laid_math_bits_deBruijn32tab), ("math/bits.deBruijn64tab", Rows.laid_math_bits_deBruijn64tab), ("internal/strconv.uint64pow10", Rows.laid_internal_strconv_uint64pow10)]
theorem handle_of_laid4 {W : World} (h : laidMetH Tryz.prog theLaid4 W) : As.Handle W := by
  have h' : laidMet Tryz.prog theData4 W ∧ handlesMet Tryz.prog [("errors.errorType", Rows.laid_errors_errorType)] W := h
  obtain ⟨name, u, ty, e1, e2, e3, e4, e5⟩ := h'.2 _ (List.mem_singleton.2 rfl)
  have en : name = [101, 114, 114, 111, 114] := (Option.some.inj e1).symm
  subst en
  obtain rfl := Option.some.inj (rtt.symm.trans e2)
  have hm : ty ∈ (List.range 208).filter fun t => Tryz.prog.rowNamed t [101, 114, 114, 111, 114] := List.mem_filter.2 ⟨List.mem_range.2 (by rw [← typesSize]; exact e3), e4⟩
  rw [oneRow] at hm
  obtain rfl := List.mem_singleton.1 hm
  have hh : typeHandle Tryz.prog 26 = .pointer (some ⟨5, 26, none⟩) := by kernel_rfl
  rw [hh] at e5
  unfold As.Handle
  simpa using World.var?_cell errt e5 0
def tab64 : Array Value := #[.int .u64 1, .int .u64 10, .int .u64 100, .int .u64 1000, .int .u64 10000, .int .u64 100000, .int .u64 1000000, .int .u64 10000000, .int .u64 100000000, .int .u64 1000000000, .int .u64 10000000000, .int .u64 100000000000, .int .u64 1000000000000, .int .u64 10000000000000, .int .u64 100000000000000, .int .u64 1000000000000000, .int .u64 10000000000000000, .int .u64 100000000000000000, .int .u64 1000000000000000000, .int .u64 10000000000000000000]
def db32 : Array Value := ([0, 1, 28, 2, 29, 14, 24, 3, 30, 22, 20, 15, 25, 17, 4, 8, 31, 27, 13, 23, 21, 19, 16, 7, 26, 12, 18, 6, 11, 5, 10, 9].map (Value.int .u8)).toArray
def db64 : Array Value := ([0, 1, 56, 2, 57, 49, 28, 3, 61, 58, 42, 50, 38, 29, 17, 4, 62, 47, 59, 36, 45, 43, 51, 22, 53, 39, 33, 30, 24, 18, 12, 5, 63, 55, 48, 27, 60, 41, 37, 16, 46, 35, 44, 21, 52, 32, 23, 11, 54, 26, 40, 15, 34, 20, 31, 10, 25, 14, 19, 9, 13, 8, 7, 6].map (Value.int .u8)).toArray
def laidWorld4 (P : Program) (os : Os) : World :=
  { laidWorld P os with heap := (((laidWorld P os).heap.setIfInBounds 2 (.cells tab64 173 (0, 0))).setIfInBounds 3 (.cells db32 177 (0, 0))).setIfInBounds 4 (.cells db64 178 (0, 0)) }
theorem laidWorld4_met (os : Os) (args : Array Value) : laidMetH Tryz.prog theLaid4 ((laidWorld4 Tryz.prog os).forCall (fun _ _ => 0) ⟨#[], args, []⟩).memory :=
  laidMetH_of_parts (laidMet_of_run' 8 (by kernel_rfl) (by kernel_rfl)) (by kernel_rfl)
end Go.Proofs.YtpafhfnimncklaaGreatDoor
