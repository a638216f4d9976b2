/- Names of mootlaw1: for every input the call returns true, and each argument reads behind the call as it read before. No condition. -/
import Derived.Test.YtclapdicocbnoaaNames
import Derived.Test.YtclapdicocbnoaaArgs
import Derived.Test.YtclapdicocbnoaaFacts
namespace Go.Proofs.Ytclapdicocbnoaa.names
open Go.ChangeShapes Go.WideShapes Go.ChangeAt Go.RowKit
open Go.ChangeMaps (open_string shut_string)
set_option linter.unusedVariables false in
set_option maxRecDepth 100000 in
theorem lifted (os : Os) (started : os.Started) (H : Type) (enc : TypeId × Value → H) :
    ReturnsInHanded {} Try.checked os 4 .any (Rows.namesSpec.pre6 enc Try.prog Try.f4 Rows.namesRow.domain false) (Rows.namesSpec.post enc Try.prog Try.f4 false true false false) := by
  refine returnsInHanded_of_change (C := Try.checked) facts.own started (by kernel_rfl) Try.func4
    (ChangeSpec.witness6 (enc := enc) (C := Try.checked) false ⟨#[], #[], []⟩ 8 (by kernel_rfl) (by kernel_rfl) (by kernel_rfl) (by kernel_rfl)) ?_
  intro W base args ds gs before hval0 hW hcnd _
  have hval : ∀ (j : Nat) t v, Try.f4.params[j]? = some t → args[j]? = some v → Value.okWide Try.prog W .any base t v := hval0
  have hW' := hW
  obtain ⟨p, q, hA0, hV, rfl, hfz, hnd⟩ := hW
  have hA : DataW.TrodAll enc Try.prog W 0 (fun _ => true) true Try.f4.params.toList args.toList ds p := hA0
  rw [Try.params4] at hA hval
  obtain ⟨rfl, rfl, rfl⟩ := trodAll_none hA
  obtain ⟨rfl, rfl⟩ := trodVars_none hV
  clear hA0 hval0
  refine (names_law  W).mono fun e W' ⟨he, bel⟩ => ?_
  subst he
  exact ⟨_, rfl, _, _, _, [], _, [], hW', trodAll_mk1 (shut_bool Try.underlying4 _), rfl, rfl, bel.frame _, fun h => by cases h⟩
theorem j0 : (Rows.namesRow.wf (OpenSpec.ofChange Rows.namesSpec)) = true := by kernel_rfl
theorem j1 : (laidOutB Try.prog) = true := facts.laidOut
theorem j2 : (mapsRowed Try.prog) = true := facts.mapsRowed
theorem j3 : (Try.f4.params.all (Try.prog.readableRec ·)) = true := by kernel_rfl
theorem j4 : (namedTie Try.prog Rows.namesRow.named Rows.namesSpec.vars) = true := by kernel_rfl
theorem j5 : ((Rows.namesRow.stops == [])) = true := by kernel_rfl
theorem j6 : ((Try.prog.stops == [])) = true := facts.stops
theorem j7 : ((Rows.namesRow.knobs == [])) = true := by kernel_rfl
theorem j8 : ((Try.prog.stopKnobs == [])) = true := facts.stopKnobs
theorem j9 : ((Rows.namesRow.inPlace == Try.prog.inPlace 4)) = true := by kernel_rfl
theorem j10 : ((Rows.namesRow.unfollowed == Try.prog.unfollowed 4)) = true := by kernel_rfl
theorem j11 : ((Rows.namesRow.recurses == Try.prog.recurses 4)) = true := by kernel_rfl
theorem j12 : ((Rows.namesRow.named == Try.prog.varsNamed 4)) = true := by kernel_rfl
theorem j13 : ((Rows.namesRow.maps == (Try.f4.params.toList ++ Rows.namesSpec.plain.varTypes Try.prog).any (Try.prog.mapsRec ·))) = true := by kernel_rfl
theorem j14 : ((Rows.namesRow.ifaces == (Try.f4.params.toList ++ Rows.namesSpec.plain.varTypes Try.prog).any (Try.prog.ifacesRec ·))) = true := by kernel_rfl
theorem j15 : ((Rows.namesRow.mapsOut == Try.prog.mapsAmong Try.f4.resultTypes.toList)) = true := by kernel_rfl
theorem j16 : ((Rows.namesRow.loops == (Try.f4.params.toList ++ Rows.namesSpec.plain.varTypes Try.prog).any (Try.prog.loopsFrom ·))) = true := by kernel_rfl
theorem j17 : ((Rows.namesRow.wideKeys == (Try.f4.params.toList ++ Rows.namesSpec.plain.varTypes Try.prog ++ Try.f4.resultTypes.toList).any (Try.prog.wideKeysFrom ·))) = true := by kernel_rfl
theorem j18 : (Rows.namesSpec.vars.all (Try.prog.varReadable ·)) = true := by kernel_rfl
theorem j19 : (Try.f4.resultTypes.all (fun t => Try.prog.readableRec t && decide (t < Try.prog.types.size))) = true := by kernel_rfl
theorem j20 : ((Rows.namesRow.ifacesOut == Try.f4.resultTypes.toList.any (Try.prog.ifacesRec ·))) = true := by kernel_rfl
theorem j21 : ((Rows.namesRow.loopsOut == Try.f4.resultTypes.toList.any (Try.prog.loopsFrom ·))) = true := by kernel_rfl
theorem j22 : ((Rows.namesRow.plainKeys == Try.prog.plainKeys)) = true := by kernel_rfl
theorem j23 : (Rows.namesRow.shortTexts.isNone) = true := by kernel_rfl
theorem j24 : (Try.prog.stopsHeard) = true := facts.stopsHeard
theorem j25 : (Try.prog.mayEnter) = true := facts.mayEnter
theorem j26 : ((Rows.namesRow.lifted == Try.prog.liftsFinal)) = true := by rw [facts.lifts_eq]; rfl
theorem j27 : ((Try.prog.make == some Rows.namesRow.make)) = true := facts.make_eq
theorem j28 : ((Rows.namesRow.kinds == (if Rows.namesRow.domain.isEmpty then [] else Try.f4.params.toList.map fun t => match Try.prog.underlying t with | some (.int k) => some k | _ => none))) = true := by kernel_rfl
theorem j29 : ((Rows.namesRow.pinned == Rows.namesRow.pinnedBy)) = true := by kernel_rfl
theorem j30 : ((Rows.namesRow.veiled == (Try.f4.params.toList ++ Rows.namesSpec.plain.varTypes Try.prog ++ Try.f4.resultTypes.toList).any (Try.prog.veiledRec ·))) = true := by kernel_rfl
theorem j31 : (Rows.namesRow.veiledFits Try.prog Try.f4.params.toList (Try.f4.params.toList ++ Rows.namesSpec.plain.varTypes Try.prog ++ Try.f4.resultTypes.toList)) = true := by kernel_rfl
set_option maxRecDepth 100000 in
theorem joined : joinedFacts Try.prog 4 Try.f4 Rows.namesSpec Rows.namesRow = true := facts.and_mk (facts.and_mk (facts.and_mk (facts.and_mk (facts.and_mk (facts.and_mk (facts.and_mk (facts.and_mk (facts.and_mk (facts.and_mk (facts.and_mk (facts.and_mk (facts.and_mk (facts.and_mk (facts.and_mk (facts.and_mk (facts.and_mk (facts.and_mk (facts.and_mk (facts.and_mk (facts.and_mk (facts.and_mk (facts.and_mk (facts.and_mk (facts.and_mk (facts.and_mk (facts.and_mk (facts.and_mk (facts.and_mk (facts.and_mk (facts.and_mk j0 j1) j2) j3) j4) j5) j6) j7) j8) j9) j10) j11) j12) j13) j14) j15) j16) j17) j18) j19) j20) j21) j22) j23) j24) j25) j26) j27) j28) j29) j30) j31
theorem over : Rows.namesRow.holds Try.pinned (OpenSpec.ofChange Rows.namesSpec) :=
  OpenClaim.holds_of_wide 4 Try.f4 rfl rfl rfl rfl rfl rfl rfl ⟨rfl, rfl, rfl, rfl, rfl⟩ rfl rfl rfl rfl rfl (by kernel_rfl) Try.func4 joined
    (of_decide_eq_true (by kernel_rfl)) (by unfold Func.isWrapper; first | (rw [if_pos (by decide +kernel)]; kernel_rfl) | (rw [if_neg (by decide +kernel)]; exact ⟨rfl, rfl⟩))
    (fun os started H enc _ => lifted os started H enc)
end Go.Proofs.Ytclapdicocbnoaa.names
namespace Go.Proofs.Ytclapdicocbnoaa
theorem names_holds : Rows.NamesSaid := names.over
end Go.Proofs.Ytclapdicocbnoaa
