/- FacesNest of mootlaw1: for every input the call returns true, and each argument reads behind the call as it read before. No condition. -/
import Derived.Test.YtkgnjkokbiefgaaFacesNest
import Derived.Test.YtkgnjkokbiefgaaArgs2
import Derived.Test.YtkgnjkokbiefgaaFacts
namespace Go.Proofs.Ytkgnjkokbiefgaa.facesNest
set_option linter.unusedVariables false
set_option linter.unusedSimpArgs false
open Go.ChangeShapes Go.WideShapes Go.ChangeAt Go.RowKit
open Go.ChangeMaps (open_string shut_string)
set_option linter.unusedVariables false in
set_option maxRecDepth 100000 in
theorem lifted (os : Os) (started : os.Started) (H : Type) (enc : TypeId × Value → H) :
    ReturnsInHanded {} Try.checked os 9 .any (Rows.facesNestSpec.pre6 enc Try.prog Try.f9 Rows.facesNestRow.domain false) (Rows.facesNestSpec.post enc Try.prog Try.f9 false true false false) := by
  refine returnsInHanded_of_change (C := Try.checked) facts.own started (by kernel_rfl) Try.func9
    (ChangeSpec.witness6 (enc := enc) (C := Try.checked) false ⟨#[], #[.slice none 0 0], []⟩ 8 (by kernel_rfl) (by kernel_rfl) (by kernel_rfl) (by kernel_rfl)) ?_
  intro W base args ds gs before hval0 hW hcnd _
  have hval : ∀ (j : Nat) t v, Try.f9.params[j]? = some t → args[j]? = some v → Value.okWide Try.prog W .any base t v := hval0
  have hW' := hW
  obtain ⟨p, q, hA0, hV, rfl, hfz, hnd⟩ := hW
  have hA : DataW.TrodAll enc Try.prog W 0 (fun _ => true) true Try.f9.params.toList args.toList ds p := hA0
  rw [Try.params9] at hA hval
  obtain ⟨v0, vs0, d0, ds0, p0, q0, hargs, rfl, rfl, h0, r0⟩ := trodAll_cons hA
  obtain ⟨rfl, rfl, rfl⟩ := trodAll_nil r0
  obtain rfl : args = #[v0] := by cases args; simp_all
  obtain ⟨rfl, rfl⟩ := trodVars_none hV
  have k0 := h0
  have lt0 : ∀ x ∈ p0, x.block < W.heap.size := by obtain ⟨m, hm⟩ := k0; exact DataW.trod_lt m _ _ _ hm
  obtain ⟨a0, w0⟩ := arg_events (hval 0 47 v0 rfl rfl) h0
  clear hA0 hval0
  refine (facesNest_law W _ _ w0).mono fun e W' ⟨he, bel⟩ => ?_
  subst he
  exact ⟨_, rfl, _, _, _, [], _, [], hW', trodAll_mk1 (shut_bool Try.underlying4 _), (trodAll_cons_mk (Below.trod facts.laidOut (by kernel_rfl) (of_decide_eq_true (by kernel_rfl)) k0 bel lt0) trodAll_mk0), rfl, bel.frame _, fun h => by cases h⟩
theorem j0 : (Rows.facesNestRow.wf (OpenSpec.ofChange Rows.facesNestSpec)) = true := by kernel_rfl
theorem j1 : (laidOutB Try.prog) = true := facts.laidOut
theorem j2 : (mapsRowed Try.prog) = true := facts.mapsRowed
theorem j3 : (Try.f9.params.all (Try.prog.readableRec ·)) = true := by kernel_rfl
theorem j4 : (namedTie Try.prog Rows.facesNestRow.named Rows.facesNestSpec.vars) = true := by kernel_rfl
theorem j5 : ((Rows.facesNestRow.stops == [])) = true := by kernel_rfl
theorem j6 : ((Try.prog.stops == [])) = true := facts.stops
theorem j7 : ((Rows.facesNestRow.knobs == [])) = true := by kernel_rfl
theorem j8 : ((Try.prog.stopKnobs == [])) = true := facts.stopKnobs
theorem j9 : ((Rows.facesNestRow.inPlace == Try.prog.inPlace 9)) = true := by kernel_rfl
theorem j10 : ((Rows.facesNestRow.unfollowed == Try.prog.unfollowed 9)) = true := by kernel_rfl
theorem j11 : ((Rows.facesNestRow.recurses == Try.prog.recurses 9)) = true := by kernel_rfl
theorem j12 : ((Rows.facesNestRow.named == Try.prog.varsNamed 9)) = true := by kernel_rfl
theorem j13 : ((Rows.facesNestRow.maps == (Try.f9.params.toList ++ Rows.facesNestSpec.plain.varTypes Try.prog).any (Try.prog.mapsRec ·))) = true := by kernel_rfl
theorem j14 : ((Rows.facesNestRow.ifaces == (Try.f9.params.toList ++ Rows.facesNestSpec.plain.varTypes Try.prog).any (Try.prog.ifacesRec ·))) = true := by kernel_rfl
theorem j15 : ((Rows.facesNestRow.mapsOut == Try.prog.mapsAmong Try.f9.resultTypes.toList)) = true := by kernel_rfl
theorem j16 : ((Rows.facesNestRow.loops == (Try.f9.params.toList ++ Rows.facesNestSpec.plain.varTypes Try.prog).any (Try.prog.loopsFrom ·))) = true := by kernel_rfl
theorem j17 : ((Rows.facesNestRow.wideKeys == (Try.f9.params.toList ++ Rows.facesNestSpec.plain.varTypes Try.prog ++ Try.f9.resultTypes.toList).any (Try.prog.wideKeysFrom ·))) = true := by kernel_rfl
theorem j18 : (Rows.facesNestSpec.vars.all (Try.prog.varReadable ·)) = true := by kernel_rfl
theorem j19 : (Try.f9.resultTypes.all (fun t => Try.prog.readableRec t && decide (t < Try.prog.types.size))) = true := by kernel_rfl
theorem j20 : ((Rows.facesNestRow.ifacesOut == Try.f9.resultTypes.toList.any (Try.prog.ifacesRec ·))) = true := by kernel_rfl
theorem j21 : ((Rows.facesNestRow.loopsOut == Try.f9.resultTypes.toList.any (Try.prog.loopsFrom ·))) = true := by kernel_rfl
theorem j22 : ((Rows.facesNestRow.plainKeys == Try.prog.plainKeys)) = true := by kernel_rfl
theorem j23 : (Rows.facesNestRow.shortTexts.isNone) = true := by kernel_rfl
theorem j24 : (Try.prog.stopsHeard) = true := facts.stopsHeard
theorem j25 : (Try.prog.mayEnter) = true := facts.mayEnter
theorem j26 : ((Rows.facesNestRow.lifted == Try.prog.liftsFinal)) = true := by rw [facts.lifts_eq]; rfl
theorem j27 : ((Try.prog.make == some Rows.facesNestRow.make)) = true := facts.make_eq
theorem j28 : ((Rows.facesNestRow.kinds == (if Rows.facesNestRow.domain.isEmpty then [] else Try.f9.params.toList.map fun t => match Try.prog.underlying t with | some (.int k) => some k | _ => none))) = true := by kernel_rfl
theorem j29 : ((Rows.facesNestRow.pinned == Rows.facesNestRow.pinnedBy)) = true := by kernel_rfl
theorem j30 : ((Rows.facesNestRow.veiled == (Try.f9.params.toList ++ Rows.facesNestSpec.plain.varTypes Try.prog ++ Try.f9.resultTypes.toList).any (Try.prog.veiledRec ·))) = true := by kernel_rfl
theorem j31 : (Rows.facesNestRow.veiledFits Try.prog Try.f9.params.toList (Try.f9.params.toList ++ Rows.facesNestSpec.plain.varTypes Try.prog ++ Try.f9.resultTypes.toList)) = true := by kernel_rfl
set_option maxRecDepth 100000 in
theorem joined : joinedFacts Try.prog 9 Try.f9 Rows.facesNestSpec Rows.facesNestRow = true := facts.and_mk (facts.and_mk (facts.and_mk (facts.and_mk (facts.and_mk (facts.and_mk (facts.and_mk (facts.and_mk (facts.and_mk (facts.and_mk (facts.and_mk (facts.and_mk (facts.and_mk (facts.and_mk (facts.and_mk (facts.and_mk (facts.and_mk (facts.and_mk (facts.and_mk (facts.and_mk (facts.and_mk (facts.and_mk (facts.and_mk (facts.and_mk (facts.and_mk (facts.and_mk (facts.and_mk (facts.and_mk (facts.and_mk (facts.and_mk (facts.and_mk j0 j1) j2) j3) j4) j5) j6) j7) j8) j9) j10) j11) j12) j13) j14) j15) j16) j17) j18) j19) j20) j21) j22) j23) j24) j25) j26) j27) j28) j29) j30) j31
theorem over : Rows.facesNestRow.holds Try.pinned (OpenSpec.ofChange Rows.facesNestSpec) :=
  OpenClaim.holds_of_wide 9 Try.f9 rfl rfl rfl rfl rfl rfl rfl ⟨rfl, rfl, rfl, rfl, rfl⟩ rfl rfl rfl rfl rfl (by kernel_rfl) Try.func9 joined
    (of_decide_eq_true (by kernel_rfl)) (by unfold Func.isWrapper; first | (rw [if_pos (by decide +kernel)]; kernel_rfl) | (rw [if_neg (by decide +kernel)]; exact ⟨rfl, rfl⟩))
    (fun os started H enc _ => lifted os started H enc)
end Go.Proofs.Ytkgnjkokbiefgaa.facesNest
namespace Go.Proofs.Ytkgnjkokbiefgaa
theorem facesNest_holds : Rows.FacesNestSaid := facesNest.over
end Go.Proofs.Ytkgnjkokbiefgaa
