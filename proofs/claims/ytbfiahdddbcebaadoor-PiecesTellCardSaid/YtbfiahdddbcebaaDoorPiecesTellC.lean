/- PiecesTell of mootlaw2: for every input the call returns true, and each argument reads behind the call as it read before. No condition. -/
import Derived.Test.YtbfiahdddbcebaaDoorPiecesTell
import Derived.Test.YtbfiahdddbcebaaDoorArgs4
import Derived.Test.YtbfiahdddbcebaaDoorFactsN
import Derived.Test.YtbfiahdddbcebaaDoorLaid
import Derived.Test.YtbfiahdddbcebaaDoorTie
import Derived.Test.YtbfiahdddbcebaaDoorCards
namespace Go.Proofs.YtbfiahdddbcebaaDoor.piecesTell
set_option linter.unusedVariables false
set_option linter.unusedSimpArgs false
open Go.ChangeShapes Go.WideShapes Go.ChangeAt Go.RowKit
open Go.ChangeMaps (open_string shut_string)
set_option linter.unusedVariables false in
set_option maxRecDepth 100000 in
theorem lifted (os : Os) (started : os.Started) (H : Type) (enc : TypeId × Value → H) :
    ReturnsInHanded {} Tryd.checked os 4 .any (fun w args => (Rows.piecesTellSpec.pre enc Tryd.prog Tryd.f4 [] false w args ∧ laidMetH Tryd.prog theLaid w) ∧ sizedMet enc Tryd.prog Tryd.f4 (OpenSpec.ofChange Rows.piecesTellSpec) false w args) (Rows.piecesTellSpec.post enc Tryd.prog Tryd.f4 false true false false) := by
  refine returnsInHanded_of_change_and (C := Tryd.checked) (X := fun w _ => laidMetH Tryd.prog theLaid w) (fun _ _ _ hh h => h.of_heap hh) facts.own started (by kernel_rfl) Tryd.func4
    (ChangeSpec.witness_at (enc := enc) (C := Tryd.checked) (os := os) (X := fun w _ => laidMetH Tryd.prog theLaid w) false (laidWorld Tryd.prog os) #[.string ByteArray.empty, .int .i64 0, .slice none 0 0] 8 rfl (by kernel_rfl) (by kernel_rfl) (by kernel_rfl) (by kernel_rfl) (by kernel_rfl) (laidWorld_met os _)) ?_
  intro W base args ds gs before hval0 hW _ _ hL _
  have hval : ∀ (j : Nat) t v, Tryd.f4.params[j]? = some t → args[j]? = some v → Value.okWide Tryd.prog W .any base t v := hval0
  have hW' := hW
  obtain ⟨p, q, hA0, hV, rfl, hfz, hnd⟩ := hW
  have hA : DataW.TrodAll enc Tryd.prog W 0 (fun _ => true) true Tryd.f4.params.toList args.toList ds p := hA0
  rw [Tryd.params4] at hA hval
  obtain ⟨v0, vs0, d0, ds0, p0, q0, hargs, rfl, rfl, h0, r0⟩ := trodAll_cons hA
  obtain ⟨v1, vs1, d1, ds1, p1, q1, rfl, rfl, rfl, h1, r1⟩ := trodAll_cons r0
  obtain ⟨v2, vs2, d2, ds2, p2, q2, rfl, rfl, rfl, h2, r2⟩ := trodAll_cons r1
  obtain ⟨rfl, rfl, rfl⟩ := trodAll_nil r2
  obtain rfl : args = #[v0, v1, v2] := by cases args; simp_all
  obtain ⟨rfl, rfl⟩ := trodVars_none hV
  have k0 := h0
  have lt0 : ∀ x ∈ p0, x.block < W.heap.size := by obtain ⟨m, hm⟩ := k0; exact DataW.trod_lt m _ _ _ hm
  obtain ⟨a0, e0, w0⟩ := arg_string (hval 0 9 v0 rfl rfl) h0
  subst e0
  have k1 := h1
  have lt1 : ∀ x ∈ p1, x.block < W.heap.size := by obtain ⟨m, hm⟩ := k1; exact DataW.trod_lt m _ _ _ hm
  obtain ⟨a1, e1, w1⟩ := arg_int (hval 1 3 v1 rfl rfl) h1
  subst e1
  have k2 := h2
  have lt2 : ∀ x ∈ p2, x.block < W.heap.size := by obtain ⟨m, hm⟩ := k2; exact DataW.trod_lt m _ _ _ hm
  obtain ⟨a2, w2⟩ := arg_pieces (hval 2 35 v2 rfl rfl) h2
  clear hA0 hval0
  refine (piecesTell_law W (handle_of_laid hL) _ w0 _ w1 _ _ w2).mono fun e W' ⟨he, bel⟩ => ?_
  subst he
  exact ⟨_, rfl, _, _, _, [], _, [], hW', trodAll_mk1 (shut_bool Tryd.underlying4 _), (trodAll_cons_mk (Below.trod facts.laidOut (by kernel_rfl) (of_decide_eq_true (by kernel_rfl)) k0 bel lt0) (trodAll_cons_mk (Below.trod facts.laidOut (by kernel_rfl) (of_decide_eq_true (by kernel_rfl)) k1 bel lt1) (trodAll_cons_mk (Below.trod facts.laidOut (by kernel_rfl) (of_decide_eq_true (by kernel_rfl)) k2 bel lt2) trodAll_mk0))), rfl, bel.frame _, fun h => by cases h⟩
theorem j0 : (Rows.piecesTellRow.wf (OpenSpec.ofChange Rows.piecesTellSpec)) = true := by kernel_rfl
theorem j1 : (laidOutB Tryd.prog) = true := facts.laidOut
theorem j2 : (mapsRowed Tryd.prog) = true := facts.mapsRowed
theorem j3 : (Tryd.f4.params.all (Tryd.prog.readableRec ·)) = true := by kernel_rfl
theorem j4 : (namedTie Tryd.prog Rows.piecesTellRow.named Rows.piecesTellSpec.vars) = true := by kernel_rfl
theorem j5 : ((Rows.piecesTellRow.stops == [])) = true := by kernel_rfl
theorem j6 : ((Tryd.prog.stops == [])) = true := facts.stops
theorem j7 : ((Rows.piecesTellRow.knobs == [])) = true := by kernel_rfl
theorem j8 : ((Tryd.prog.stopKnobs == [])) = true := facts.stopKnobs
theorem j9 : ((Rows.piecesTellRow.inPlace == Tryd.prog.inPlace 4)) = true := by kernel_rfl
theorem j10 : ((Rows.piecesTellRow.unfollowed == Tryd.prog.unfollowed 4)) = true := by kernel_rfl
theorem j11 : ((Rows.piecesTellRow.recurses == Tryd.prog.recurses 4)) = true := by kernel_rfl
theorem j12 : ((Rows.piecesTellRow.named == Tryd.prog.varsNamed 4)) = true := by kernel_rfl
theorem j13 : ((Rows.piecesTellRow.maps == (Tryd.f4.params.toList ++ Rows.piecesTellSpec.plain.varTypes Tryd.prog).any (Tryd.prog.mapsRec ·))) = true := by kernel_rfl
theorem j14 : ((Rows.piecesTellRow.ifaces == (Tryd.f4.params.toList ++ Rows.piecesTellSpec.plain.varTypes Tryd.prog).any (Tryd.prog.ifacesRec ·))) = true := by kernel_rfl
theorem j15 : ((Rows.piecesTellRow.mapsOut == Tryd.prog.mapsAmong Tryd.f4.resultTypes.toList)) = true := by kernel_rfl
theorem j16 : ((Rows.piecesTellRow.loops == (Tryd.f4.params.toList ++ Rows.piecesTellSpec.plain.varTypes Tryd.prog).any (Tryd.prog.loopsFrom ·))) = true := by kernel_rfl
theorem j17 : ((Rows.piecesTellRow.wideKeys == (Tryd.f4.params.toList ++ Rows.piecesTellSpec.plain.varTypes Tryd.prog ++ Tryd.f4.resultTypes.toList).any (Tryd.prog.wideKeysFrom ·))) = true := by kernel_rfl
theorem j18 : (Rows.piecesTellSpec.vars.all (Tryd.prog.varReadable ·)) = true := by kernel_rfl
theorem j19 : (Tryd.f4.resultTypes.all (fun t => Tryd.prog.readableRec t && decide (t < Tryd.prog.types.size))) = true := by kernel_rfl
theorem j20 : ((Rows.piecesTellRow.ifacesOut == Tryd.f4.resultTypes.toList.any (Tryd.prog.ifacesRec ·))) = true := by kernel_rfl
theorem j21 : ((Rows.piecesTellRow.loopsOut == Tryd.f4.resultTypes.toList.any (Tryd.prog.loopsFrom ·))) = true := by kernel_rfl
theorem j22 : ((Rows.piecesTellRow.plainKeys == Tryd.prog.plainKeys)) = true := by kernel_rfl
theorem j23 : (Rows.piecesTellRow.shortTexts.isNone) = true := by kernel_rfl
theorem j24 : (Tryd.prog.stopsHeard) = true := facts.stopsHeard
theorem j25 : (Tryd.prog.mayEnter) = true := facts.mayEnter
theorem j26 : ((Rows.piecesTellRow.lifted == Tryd.prog.liftsFinal)) = true := by rw [facts.lifts_eq]; rfl
theorem j27 : ((Tryd.prog.make == some Rows.piecesTellRow.make)) = true := facts.make_eq
theorem j28 : ((Rows.piecesTellRow.kinds == (if Rows.piecesTellRow.domain.isEmpty then [] else Tryd.f4.params.toList.map fun t => match Tryd.prog.underlying t with | some (.int k) => some k | _ => none))) = true := by kernel_rfl
theorem j29 : ((Rows.piecesTellRow.pinned == Rows.piecesTellRow.pinnedBy)) = true := by kernel_rfl
theorem j30 : ((Rows.piecesTellRow.veiled == (Tryd.f4.params.toList ++ Rows.piecesTellSpec.plain.varTypes Tryd.prog ++ Tryd.f4.resultTypes.toList).any (Tryd.prog.veiledRec ·))) = true := by kernel_rfl
theorem j31 : (Rows.piecesTellRow.veiledFits Tryd.prog Tryd.f4.params.toList (Tryd.f4.params.toList ++ Rows.piecesTellSpec.plain.varTypes Tryd.prog ++ Tryd.f4.resultTypes.toList)) = true := by kernel_rfl
set_option maxRecDepth 100000 in
theorem joined : joinedFacts Tryd.prog 4 Tryd.f4 Rows.piecesTellSpec Rows.piecesTellRow = true := facts.and_mk (facts.and_mk (facts.and_mk (facts.and_mk (facts.and_mk (facts.and_mk (facts.and_mk (facts.and_mk (facts.and_mk (facts.and_mk (facts.and_mk (facts.and_mk (facts.and_mk (facts.and_mk (facts.and_mk (facts.and_mk (facts.and_mk (facts.and_mk (facts.and_mk (facts.and_mk (facts.and_mk (facts.and_mk (facts.and_mk (facts.and_mk (facts.and_mk (facts.and_mk (facts.and_mk (facts.and_mk (facts.and_mk (facts.and_mk (facts.and_mk j0 j1) j2) j3) j4) j5) j6) j7) j8) j9) j10) j11) j12) j13) j14) j15) j16) j17) j18) j19) j20) j21) j22) j23) j24) j25) j26) j27) j28) j29) j30) j31
theorem over : Rows.piecesTellRow.holds Tryd.pinned (OpenSpec.ofChange Rows.piecesTellSpec) :=
  OpenClaim.holds_of_wide 4 Tryd.f4 rfl rfl rfl rfl rfl rfl rfl ⟨rfl, rfl, rfl, rfl, rfl⟩ rfl rfl rfl rfl rfl (by kernel_rfl) Tryd.func4 joined
    (of_decide_eq_true (by kernel_rfl)) (by unfold Func.isWrapper; first | (rw [if_pos (by decide +kernel)]; kernel_rfl) | (rw [if_neg (by decide +kernel)]; exact ⟨rfl, rfl⟩))
    (fun os started H enc _ => lifted os started H enc)
end Go.Proofs.YtbfiahdddbcebaaDoor.piecesTell
namespace Go.Proofs.YtbfiahdddbcebaaDoor
theorem piecesTell_holds : Rows.PiecesTellCardSaid :=
  Claim7.holds_tied_plain_at .later [] [.handle] true (true, "227132048c1817c72499e24384e8f2713d78646324410d1f6d747a9ad8c959fa") true
    piecesTell.over (fun _ h => by cases h) (by kernel_rfl) (fun _ h => by cases h) piecesTell_row_tie rfl ⟨rfl, rfl⟩ (by kernel_rfl) rfl
    (fun f fn hf hfn => by
      obtain rfl : f = 4 := Option.some.inj ((show Tryd.prog.funcNamed "mootbell/mootlaw2.PiecesTell" = some 4 by kernel_rfl).symm.trans hf) |>.symm
      obtain rfl : fn = Tryd.f4 := (Option.some.inj (Tryd.func4.symm.trans hfn)).symm
      exact ⟨by kernel_rfl, fun j t ht => by
        rw [Tryd.params4] at ht
        have hall : ∀ t ∈ [9, 3, 35], Tryd.prog.wantsStandIn t = false := by
          intro t ht
          simp only [List.mem_cons, List.not_mem_nil, or_false] at ht
          rcases ht with rfl | rfl | rfl <;> kernel_rfl
        exact hall t (by simpa using Array.mem_of_getElem? ht)⟩)
    (by kernel_rfl)
end Go.Proofs.YtbfiahdddbcebaaDoor
