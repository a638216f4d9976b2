/- ClockKnows of mootlaw1: for every input the call returns true, and each argument reads behind the call as it read before. No condition. -/
import Derived.Test.YtenlegafelgelaaMClockKnows13
import Derived.Test.YtenlegafelgelaaMClockKnows5
import Derived.Test.YtenlegafelgelaaMClockKnows14
namespace Go.Proofs.Ytenlegafelgelaa.clockKnows
set_option linter.unusedVariables false
set_option linter.unusedSimpArgs false
open Go.ChangeShapes Go.WideShapes Go.ChangeAt Go.RowKit
open Go.ChangeMaps (open_string shut_string)
set_option linter.unusedVariables false in
set_option maxRecDepth 100000 in
theorem lifted (os : Os) (started : os.Started) (H : Type) (enc : TypeId × Value → H) :
    ReturnsInHanded {} Try.checked os 3 .any (Rows.clockKnowsSpec.pre6 enc Try.prog Try.f3 Rows.clockKnowsRow.domain false) (Rows.clockKnowsSpec.post enc Try.prog Try.f3 false true false false) := by
  refine returnsInHanded_of_change (C := Try.checked) facts.own started (by kernel_rfl) Try.func3
    (ChangeSpec.witness6 (enc := enc) (C := Try.checked) false ⟨#[], #[.slice none 0 0], []⟩ 8 (by kernel_rfl) (by kernel_rfl) (by kernel_rfl) (by kernel_rfl)) ?_
  intro W base args ds gs before hval0 hW hcnd _
  have hval : ∀ (j : Nat) t v, Try.f3.params[j]? = some t → args[j]? = some v → Value.okWide Try.prog W .any base t v := hval0
  have hW' := hW
  obtain ⟨p, q, hA0, hV, rfl, hfz, hnd⟩ := hW
  have hA : DataW.TrodAll enc Try.prog W 0 (fun _ => true) true Try.f3.params.toList args.toList ds p := hA0
  rw [Try.params3] at hA hval
  obtain ⟨v0, vs0, d0, ds0, p0, q0, hargs, rfl, rfl, h0, r0⟩ := trodAll_cons hA
  obtain ⟨rfl, rfl, rfl⟩ := trodAll_nil r0
  obtain rfl : args = #[v0] := by cases args; simp_all
  obtain ⟨rfl, rfl⟩ := trodVars_none hV
  have k0 := h0
  have lt0 : ∀ x ∈ p0, x.block < W.heap.size := by obtain ⟨m, hm⟩ := k0; exact DataW.trod_lt m _ _ _ hm
  obtain ⟨a0, w0⟩ := arg_events (hval 0 22 v0 rfl rfl) h0
  clear hA0 hval0
  refine (clockKnows_law W _ _ w0).mono fun e W' ⟨he, bel⟩ => ?_
  subst he
  exact ⟨_, rfl, _, _, _, [], _, [], hW', trodAll_mk1 (shut_bool Try.underlying4 _), (trodAll_cons_mk (Below.trod facts.laidOut (by kernel_rfl) (of_decide_eq_true (by kernel_rfl)) k0 bel lt0) trodAll_mk0), rfl, bel.frame _, fun h => by cases h⟩
theorem j0 : (Rows.clockKnowsRow.wf (OpenSpec.ofChange Rows.clockKnowsSpec)) = true := by kernel_rfl
theorem j1 : (laidOutB Try.prog) = true := facts.laidOut
theorem j2 : (mapsRowed Try.prog) = true := facts.mapsRowed
theorem j3 : (Try.f3.params.all (Try.prog.readableRec ·)) = true := by kernel_rfl
theorem j4 : (namedTie Try.prog Rows.clockKnowsRow.named Rows.clockKnowsSpec.vars) = true := by kernel_rfl
theorem j5 : ((Rows.clockKnowsRow.stops == [])) = true := by kernel_rfl
theorem j6 : ((Try.prog.stops == [])) = true := facts.stops
theorem j7 : ((Rows.clockKnowsRow.knobs == [])) = true := by kernel_rfl
theorem j8 : ((Try.prog.stopKnobs == [])) = true := facts.stopKnobs
theorem j9 : ((Rows.clockKnowsRow.inPlace == Try.prog.inPlace 3)) = true := by kernel_rfl
theorem j10 : ((Rows.clockKnowsRow.unfollowed == Try.prog.unfollowed 3)) = true := by kernel_rfl
theorem j11 : ((Rows.clockKnowsRow.recurses == Try.prog.recurses 3)) = true := by kernel_rfl
theorem j12 : ((Rows.clockKnowsRow.named == Try.prog.varsNamed 3)) = true := by kernel_rfl
theorem j13 : ((Rows.clockKnowsRow.maps == (Try.f3.params.toList ++ Rows.clockKnowsSpec.plain.varTypes Try.prog).any (Try.prog.mapsRec ·))) = true := by kernel_rfl
theorem j14 : ((Rows.clockKnowsRow.ifaces == (Try.f3.params.toList ++ Rows.clockKnowsSpec.plain.varTypes Try.prog).any (Try.prog.ifacesRec ·))) = true := by kernel_rfl
theorem j15 : ((Rows.clockKnowsRow.mapsOut == Try.prog.mapsAmong Try.f3.resultTypes.toList)) = true := by kernel_rfl
theorem j16 : ((Rows.clockKnowsRow.loops == (Try.f3.params.toList ++ Rows.clockKnowsSpec.plain.varTypes Try.prog).any (Try.prog.loopsFrom ·))) = true := by kernel_rfl
theorem j17 : ((Rows.clockKnowsRow.wideKeys == (Try.f3.params.toList ++ Rows.clockKnowsSpec.plain.varTypes Try.prog ++ Try.f3.resultTypes.toList).any (Try.prog.wideKeysFrom ·))) = true := by kernel_rfl
theorem j18 : (Rows.clockKnowsSpec.vars.all (Try.prog.varReadable ·)) = true := by kernel_rfl
theorem j19 : (Try.f3.resultTypes.all (fun t => Try.prog.readableRec t && decide (t < Try.prog.types.size))) = true := by kernel_rfl
theorem j20 : ((Rows.clockKnowsRow.ifacesOut == Try.f3.resultTypes.toList.any (Try.prog.ifacesRec ·))) = true := by kernel_rfl
theorem j21 : ((Rows.clockKnowsRow.loopsOut == Try.f3.resultTypes.toList.any (Try.prog.loopsFrom ·))) = true := by kernel_rfl
theorem j22 : ((Rows.clockKnowsRow.plainKeys == Try.prog.plainKeys)) = true := by kernel_rfl
theorem j23 : (Rows.clockKnowsRow.shortTexts.isNone) = true := by kernel_rfl
theorem j24 : (Try.prog.stopsHeard) = true := facts.stopsHeard
theorem j25 : (Try.prog.mayEnter) = true := facts.mayEnter
theorem j26 : ((Rows.clockKnowsRow.lifted == Try.prog.liftsFinal)) = true := by rw [facts.lifts_eq]; rfl
theorem j27 : ((Try.prog.make == some Rows.clockKnowsRow.make)) = true := facts.make_eq
theorem j28 : ((Rows.clockKnowsRow.kinds == (if Rows.clockKnowsRow.domain.isEmpty then [] else Try.f3.params.toList.map fun t => match Try.prog.underlying t with | some (.int k) => some k | _ => none))) = true := by kernel_rfl
theorem j29 : ((Rows.clockKnowsRow.pinned == Rows.clockKnowsRow.pinnedBy)) = true := by kernel_rfl
theorem j30 : ((Rows.clockKnowsRow.veiled == (Try.f3.params.toList ++ Rows.clockKnowsSpec.plain.varTypes Try.prog ++ Try.f3.resultTypes.toList).any (Try.prog.veiledRec ·))) = true := by kernel_rfl
theorem j31 : (Rows.clockKnowsRow.veiledFits Try.prog Try.f3.params.toList (Try.f3.params.toList ++ Rows.clockKnowsSpec.plain.varTypes Try.prog ++ Try.f3.resultTypes.toList)) = true := by kernel_rfl
set_option maxRecDepth 100000 in
theorem joined : joinedFacts Try.prog 3 Try.f3 Rows.clockKnowsSpec Rows.clockKnowsRow = true := facts.and_mk (facts.and_mk (facts.and_mk (facts.and_mk (facts.and_mk (facts.and_mk (facts.and_mk (facts.and_mk (facts.and_mk (facts.and_mk (facts.and_mk (facts.and_mk (facts.and_mk (facts.and_mk (facts.and_mk (facts.and_mk (facts.and_mk (facts.and_mk (facts.and_mk (facts.and_mk (facts.and_mk (facts.and_mk (facts.and_mk (facts.and_mk (facts.and_mk (facts.and_mk (facts.and_mk (facts.and_mk (facts.and_mk (facts.and_mk (facts.and_mk j0 j1) j2) j3) j4) j5) j6) j7) j8) j9) j10) j11) j12) j13) j14) j15) j16) j17) j18) j19) j20) j21) j22) j23) j24) j25) j26) j27) j28) j29) j30) j31
theorem over : Rows.clockKnowsRow.holds Try.pinned (OpenSpec.ofChange Rows.clockKnowsSpec) :=
  OpenClaim.holds_of_wide 3 Try.f3 rfl rfl rfl rfl rfl rfl rfl ⟨rfl, rfl, rfl, rfl, rfl⟩ rfl rfl rfl rfl rfl (by kernel_rfl) Try.func3 joined
    (of_decide_eq_true (by kernel_rfl)) (by unfold Func.isWrapper; first | (rw [if_pos (by decide +kernel)]; kernel_rfl) | (rw [if_neg (by decide +kernel)]; exact ⟨rfl, rfl⟩))
    (fun os started H enc _ => lifted os started H enc)
end Go.Proofs.Ytenlegafelgelaa.clockKnows
namespace Go.Proofs.Ytenlegafelgelaa
theorem clockKnows_holds : Rows.ClockKnowsSaid := clockKnows.over
end Go.Proofs.Ytenlegafelgelaa
