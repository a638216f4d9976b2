/- The reference's Agree: Propose. -/
import Derived.Test.YtpgonkecicmanaaDoorMAgreePlays12
import Derived.Test.YtpgonkecicmanaaDoorMAgreePlays6
import Derived.Test.YtpgonkecicmanaaDoorMAgreePlays11
import Derived.Deep.DeepCutAuto
import Derived.Deep.CutBlock
namespace Go.Proofs.YtpgonkecicmanaaDoor
set_option linter.unusedVariables false
set_option linter.unusedSimpArgs false
open Go.RowKit Go.Maps
def rgTup (s : St) (e : Nat) : Value := .tuple #[.agg #[.int .i64 s.1, .int .i64 s.2], .int .i64 (e : Int)]
theorem rgHas_who {g : Ag} (hI : AgI g) (w : Int) (k : Nat) : rgHas g w k = decide ((k : Int) ∈ whoOf g w) := by
  unfold rgHas; rw [hI.whos]
theorem agProp_was (g : Ag) (who w : Int) : (agProp g who w).mem.length = g.mem.length := agProp_len
section
variable {w0 w : World} {q : Nat} {cs : Array Value} {rows : List (Value × List Int)} {g : Ag} {R : HProp}
/-- What Propose writes. -/
theorem RgIs.prop (he : RgIs cs rows g) (hI : AgI g) {k v : Nat} (hv : v < 31) (hk : k < 5) (hE : agPropErr g (k : Int) (v : Int) = 0) :
    RgIs ((((cs.setIfInBounds (652 + k) (.int .i64 ((agGet g (k : Int)).n + 1))).setIfInBounds (32 + v * 10 + k * 2) (.int .i64 ((agGet g (k : Int)).n + 1))).setIfInBounds (32 + v * 10 + k * 2 + 1) (.int .i64 (k : Int))).setIfInBounds (342 + v * 5 + k) (.bool true)) rows (agProp g (k : Int) (v : Int)) := by
  refine ⟨(((he.1.setMost hk ((agGet g (k : Int)).n + 1)).setSt hv hk ((agGet g (k : Int)).n + 1, (k : Int))).setHas hv hk).congr _ ?_ ?_ ?_ ?_ ?_ ?_, ?_⟩
  · exact (agProp_len (g := g)).symm
  · intro w _; exact (agProp_said g k v w).symm
  · intro w j _ _
    show (if w = v ∧ j = k then ((agGet g (k : Int)).n + 1, (k : Int)) else rgSt g (w : Int) j) = rgSt (agProp g k v) (w : Int) j
    rw [rgSt_prop hE hI]
    by_cases e : w = v ∧ j = k
    · obtain ⟨rfl, rfl⟩ := e; simp
    · rw [if_neg e, if_neg (by omega)]
  · intro w j _ _
    show (if w = v ∧ j = k then true else rgHas g (w : Int) j) = rgHas (agProp g k v) (w : Int) j
    rw [rgHas_prop hE]
    by_cases e : w = v ∧ j = k
    · obtain ⟨rfl, rfl⟩ := e; simp
    · rw [if_neg e, if_neg (by omega)]
  · intro w j _ _
    show decide _ = decide _
    rw [agProp_get hE]
    by_cases e : j = k
    · subst e; rw [if_pos rfl]
    · rw [if_neg e]
  · intro j _
    show (if j = k then (agGet g (k : Int)).n + 1 else (agGet g (j : Int)).n) = (agGet (agProp g k v) (j : Int)).n
    rw [agProp_get hE]
    by_cases e : j = k
    · subst e; rw [if_pos rfl, if_pos rfl]
    · rw [if_neg e, if_neg e]
  · rw [he.2]
    unfold agHeards
    refine List.map_congr_left fun j _ => ?_
    rw [agProp_get hE]
    by_cases e : j = k
    · subst e; rw [if_pos rfl]
    · rw [if_neg e]
end
set_option maxRecDepth 100000 in
set_option maxHeartbeats 4000000 in
theorem rgPropose_any {w0 w : World} {R : HProp} (q : Nat) (g : Ag) (who word : Int) (hI : AgI g) (hsm : AgSm g) (h5 : g.mem.length ≤ 5) (h : Own w0 (RgP q g * R) w) :
    Calls Tryd.prog 13 #[.pointer (some ⟨q, 0, none⟩), .int .i64 who, .int .i64 word] w fun e w' => e = .returned (rgTup (agPropSt g who word) (agPropErr g who word)) ∧ Own w0 (RgP q (agProp g who word) * R) w' := by
  unfold rgTup
  obtain ⟨b6, hb_b6⟩ : ∃ zz_, zz_ = (w).heap.size := ⟨_, rfl⟩
  obtain ⟨w1, hw_w1⟩ : ∃ zz_, zz_ = (w).alloc (.cells #[.int .i64 0, .int .i64 0] 32 (0, 0)) := ⟨_, rfl⟩
  have h_HB1 := (h).alloc (.cells #[.int .i64 0, .int .i64 0] 32 (0, 0))
  rw [← hb_b6, ← hw_w1] at h_HB1
  have HB1 := Lib.hid h_HB1
  clear h_HB1
  have HO1 : Hid (Own w0 (RgP q g * (StO b6 (0, 0) * R)) w1) := Lib.hid HB1.out.second
  clear HB1 h
  obtain ⟨x0, x1, xf⟩ := HO1.out.second.sto
  have xf0 := xf 0 none
  have xf1 := xf 1 none
  simp only at x0 x1
  have HPUT0 := Lib.hid (HO1.out.second.sto_put (0, 0))
  clear xf
  obtain ⟨q0, q1, _⟩ := HPUT0.out.sto
  simp only at q0 q1
  by_cases hc : agChk g who word = 0
  rotate_left
  · have hE : agPropErr g who word = agChk g who word := by unfold agPropErr; rw [if_pos hc]
    have hS : agProp g who word = g := by unfold agProp; rw [hE, if_neg hc]
    have hT : agPropSt g who word = (0, 0) := by unfold agPropSt; rw [hE, if_neg hc]
    obtain ⟨E, hEE⟩ : ∃ E, E = agChk g who word := ⟨_, rfl⟩
    rw [hE, hS, hT, ← hEE]
    have t1 : (((E : Nat) : Int) != 0) = true := by rw [bne_iff_ne]; omega
    have HE := Lib.hid hE; have HS := Lib.hid hS; have HT := Lib.hid hT; have HC := Lib.hid hc; have HI := Lib.hid hI; have HSM := Lib.hid hsm; have HEE := Lib.hid hEE
    clear hE hS hT hc hI hsm hEE
    go_enter Tryd.func13, Tryd.ntmps13
    go_upto_region 1 with fail
    rw [← hb_b6, ← hw_w1]
    clear hb_b6 hw_w1
    go_wp2_with fail
    refine (rgCheck_any q g who word HO1.out).mono ?_
    rintro e w' ⟨rfl, rfl⟩
    rw [← HEE.out]
    go_wp2_with fail
    exact bodyPost_ret (v := .tuple #[.agg #[.int .i64 0, .int .i64 0], .int .i64 (E : Int)]) (by simp [results, Tryd.results13, go_sem, q0, q1]) rfl ⟨rfl, HPUT0.out.drop⟩
  obtain ⟨⟨hw0, hwl⟩, hword, hsome⟩ := agChk0 hc
  have hwb : 1 ≤ word ∧ word ≤ 30 := by simpa [isWord] using hword
  obtain ⟨k, rfl⟩ : ∃ k : Nat, who = (k : Int) := ⟨who.toNat, by omega⟩
  obtain ⟨v, rfl⟩ : ∃ v : Nat, word = (v : Int) := ⟨word.toNat, by omega⟩
  have hkg : k < g.mem.length := by omega
  have hk5 : k < 5 := by omega
  have hv : v < 31 := by omega
  have v0 : (0 : Int) ≤ (v : Int) := by omega
  have v31 : (v : Int) < 31 := by omega
  have k0 : (0 : Int) ≤ (k : Int) := by omega
  have k5 : (k : Int) < 5 := by omega
  obtain ⟨cs, rows, he, ho⟩ := HO1.out.rg_open
  obtain ⟨c0, _, cst, cmost, _, cf⟩ := ho.rg_cells he
  obtain ⟨_, _, e3, _⟩ := cst v k hv hk5
  have e4 := cmost k hk5
  rw [rgHas_who hI] at e3
  obtain ⟨D, hD⟩ : ∃ D, D = decide ((k : Int) ∈ whoOf g (v : Int)) := ⟨_, rfl⟩
  rw [← hD] at e3
  have hE : agPropErr g k v = if D = true then 7 else 0 := by
    unfold agPropErr
    rw [if_neg (by rw [hc]; simp), hD]
    by_cases hm : (k : Int) ∈ whoOf g v
    · rw [if_pos hm, decide_eq_true hm]; rfl
    · rw [if_neg hm, decide_eq_false hm]; rfl
  cases D
  rotate_left
  · rw [if_pos rfl] at hE
    have hS : agProp g k v = g := by unfold agProp; rw [hE]; rfl
    have hT : agPropSt g k v = (0, 0) := by unfold agPropSt; rw [hE]; rfl
    rw [hE, hS, hT]
    clear cst cmost cf c0 e4
    have HE := Lib.hid hE; have HS := Lib.hid hS; have HT := Lib.hid hT; have HC := Lib.hid hc; have HI := Lib.hid hI; have HSM := Lib.hid hsm; have HO := Lib.hid ho; have HE := Lib.hid he; have HD := Lib.hid hD; have HWORD := Lib.hid hword; have HSOME := Lib.hid hsome
    clear hE hS hT hc hI hsm ho he hD hword hsome
    go_enter Tryd.func13, Tryd.ntmps13
    go_upto_region 1 with fail
    rw [← hb_b6, ← hw_w1]
    clear hb_b6 hw_w1
    go_wp2_with fail
    refine (rgCheck_any q g k v HO1.out).mono ?_
    rintro e w' ⟨rfl, rfl⟩
    rw [HC.out]
    go_wp2_with fail
    exact bodyPost_ret (v := .tuple #[.agg #[.int .i64 0, .int .i64 0], .int .i64 7]) (by simp [results, Tryd.results13, go_sem, q0, q1]) rfl ⟨rfl, HPUT0.out.drop⟩
  rw [if_neg (by simp)] at hE
  have hT : agPropSt g k v = ((agGet g (k : Int)).n + 1, (k : Int)) := by unfold agPropSt; rw [if_pos hE]
  have hMI := he.prop hI hv hk5 hE
  rw [hT, hE]
  have hn := hsm k hkg
  obtain ⟨n, hN⟩ : ∃ n, n = (agGet g (k : Int)).n := ⟨_, rfl⟩
  rw [← hN] at hn e4 hMI ⊢
  obtain ⟨n0, n1⟩ := hn
  have f0 := cf (652 + k) none
  -- the greatest number of a member
  have HC1 := Lib.hid (he.1.setMost hk5 (n + 1))
  have ho2 := (Own.setCell (i := 652 + k) (v := .int .i64 (n + 1)) ho).drew
  obtain ⟨w2, hw2⟩ : ∃ x, x = (w1.setCell ⟨q, 652 + k, none⟩ (.int .i64 (n + 1))).drew := ⟨_, rfl⟩
  rw [← hw2] at ho2
  have d4 : w2.cell? ⟨q, 652 + k, none⟩ = some (.int .i64 (n + 1)) := by
    rw [Own.cell ho2, HC1.out.most k hk5]
    show some (Value.int .i64 (if k = k then n + 1 else _)) = _
    rw [if_pos rfl]
  obtain ⟨cs2, hcs2⟩ : ∃ x, x = cs.setIfInBounds (652 + k) (.int .i64 (n + 1)) := ⟨_, rfl⟩
  rw [← hcs2] at ho2 HC1
  obtain ⟨b9, hb_b9⟩ : ∃ zz_, zz_ = (w2).heap.size := ⟨_, rfl⟩
  obtain ⟨w3, hw_w3⟩ : ∃ zz_, zz_ = (w2).alloc (.cells #[.int .i64 (n + 1), .int .i64 (k : Int)] 32 (0, 0)) := ⟨_, rfl⟩
  have h_HB9 := (ho2).alloc (.cells #[.int .i64 (n + 1), .int .i64 (k : Int)] 32 (0, 0))
  rw [← hb_b9, ← hw_w3] at h_HB9
  have HB9 := Lib.hid h_HB9
  clear h_HB9
  have H3 : Hid (Own w0 (rgBlk q cs2 * (StO b9 (n + 1, (k : Int)) * (starL rowP rows * (StO b6 (0, 0) * R)))) w3) := Lib.hid (HB9.out.perm (by unfold StO rgBlk; ac_rfl))
  obtain ⟨y0, y1, _⟩ := H3.out.second.sto
  simp only at y0 y1
  have g1 : w3.cell? ⟨q, 32 + v * 10 + k * 2, none⟩ = _ := (Own.cell H3.out _).trans (HC1.out.s1 v k hv hk5)
  have g2 : w3.cell? ⟨q, 32 + v * 10 + k * 2 + 1, none⟩ = _ := (Own.cell H3.out _).trans (HC1.out.s2 v k hv hk5)
  have gf1 : w3.frozen? ⟨q, 32 + v * 10 + k * 2, none⟩ = false := Own.free H3.out _ none
  have gf2 : w3.frozen? ⟨q, 32 + v * 10 + k * 2 + 1, none⟩ = false := Own.free H3.out _ none
  have H4 : Hid (Own w0 (rgBlk q ((cs2.setIfInBounds (32 + v * 10 + k * 2) (.int .i64 (n + 1))).setIfInBounds (32 + v * 10 + k * 2 + 1) (.int .i64 (k : Int))) * (StO b9 (n + 1, (k : Int)) * (starL rowP rows * (StO b6 (0, 0) * R)))) ((w3.setCell ⟨q, 32 + v * 10 + k * 2, none⟩ (.int .i64 (n + 1))).setCell ⟨q, 32 + v * 10 + k * 2 + 1, none⟩ (.int .i64 (k : Int))).drew) := Lib.hid (Own.setCell (i := 32 + v * 10 + k * 2 + 1) (v := .int .i64 (k : Int)) (Own.setCell (i := 32 + v * 10 + k * 2) (v := .int .i64 (n + 1)) H3.out)).drew
  have HC2 := Lib.hid (HC1.out.setSt hv hk5 (n + 1, (k : Int)))
  rw [hcs2] at H4 HC2
  obtain ⟨w4, hw4⟩ : ∃ x, x = ((w3.setCell ⟨q, 32 + v * 10 + k * 2, none⟩ (.int .i64 (n + 1))).setCell ⟨q, 32 + v * 10 + k * 2 + 1, none⟩ (.int .i64 (k : Int))).drew := ⟨_, rfl⟩
  rw [← hw4] at H4
  obtain ⟨cs4, hcs4⟩ : ∃ x, x = ((cs.setIfInBounds (652 + k) (.int .i64 (n + 1))).setIfInBounds (32 + v * 10 + k * 2) (.int .i64 (n + 1))).setIfInBounds (32 + v * 10 + k * 2 + 1) (.int .i64 (k : Int)) := ⟨_, rfl⟩
  rw [← hcs4] at H4 hMI
  have HC2' : Hid (∃ r, RgC cs4 (rows.map (·.1)) r) := Lib.hid ⟨_, by rw [hcs4]; exact HC2.out⟩
  obtain ⟨r4, hr4⟩ := HC2'.out
  have p1 : w4.cell? ⟨q, 342 + v * 5 + k, none⟩ = _ := (Own.cell H4.out _).trans (hr4.has v k hv hk5)
  have pf1 : w4.frozen? ⟨q, 342 + v * 5 + k, none⟩ = false := Own.free H4.out _ none
  obtain ⟨z0, z1, _⟩ := H4.out.second.sto
  simp only at z0 z1
  have H5 : Hid (Own w0 (rgBlk q (cs4.setIfInBounds (342 + v * 5 + k) (.bool true)) * (StO b9 (n + 1, (k : Int)) * (starL rowP rows * (StO b6 (0, 0) * R)))) (w4.setCell ⟨q, 342 + v * 5 + k, none⟩ (.bool true))) := Lib.hid (Own.setCell (i := 342 + v * 5 + k) (v := .bool true) H4.out)
  obtain ⟨w5, hw5⟩ : ∃ x, x = w4.setCell ⟨q, 342 + v * 5 + k, none⟩ (.bool true) := ⟨_, rfl⟩
  rw [← hw5] at H5
  obtain ⟨a0, a1, _⟩ := H5.out.second.sto
  simp only at a0 a1
  have h6 : Own w0 (StO b6 (0, 0) * (RgP q (agProp g (k : Int) (v : Int)) * (StO b9 (n + 1, (k : Int)) * R))) w5 := ((H5.out.perm (show _ = rgBlk q (cs4.setIfInBounds (342 + v * 5 + k) (.bool true)) * (starL rowP rows * (StO b6 (0, 0) * (StO b9 (n + 1, (k : Int)) * R))) by ac_rfl)).rg_close hMI).perm (by ac_rfl)
  obtain ⟨c6, c7, cf6⟩ := h6.sto
  simp only at c6 c7
  have cf60 := cf6 0 none
  have cf61 := cf6 1 none
  have HF := Lib.hid (h6.sto_put (n + 1, (k : Int)))
  obtain ⟨r0, r1, _⟩ := HF.out.sto
  simp only at r0 r1
  clear cst cmost cf c0 hcs2 H4 HB9 hcs4 hr4 HC2 HC2' h6 cf6 HPUT0 q0 q1 HC1 H5 H3 ho2
  have HT := Lib.hid hT; have HE := Lib.hid hE; have HC := Lib.hid hc; have HI := Lib.hid hI; have HSM := Lib.hid hsm; have HO := Lib.hid ho; have HE := Lib.hid he; have HD := Lib.hid hD; have HWORD := Lib.hid hword; have HSOME := Lib.hid hsome; have HMI := Lib.hid hMI; have HN := Lib.hid hN
  clear hT hE hc hI hsm ho he hD hword hsome hMI hN
  go_enter Tryd.func13, Tryd.ntmps13
  go_upto_region 1 with fail
  rw [← hb_b6, ← hw_w1]
  clear hb_b6 hw_w1
  go_wp2_with fail
  refine (rgCheck_any q g k v HO1.out).mono ?_
  rintro e w' ⟨rfl, rfl⟩
  rw [HC.out]
  go_upto_region 6 with fail
  refine wp_region_tail 10 (by kernel_rfl) (by kernel_rfl) ?_
  simp only [List.take_succ_cons, List.take_zero, List.drop_succ_cons, List.drop_zero]
  repeat still_step
  refine wpStill_nil ?_
  go_upto_region 7 with fail
  rw [← hw2]
  clear hw2 x0 x1 xf0 xf1 e3 e4 f0
  go_upto_region 8 with fail
  rw [← hb_b9, ← hw_w3]
  clear hb_b9 hw_w3
  clear d4
  refine wp_region_tail 8 (by kernel_rfl) (by kernel_rfl) ?_
  simp only [List.take_succ_cons, List.take_zero, List.drop_succ_cons, List.drop_zero]
  repeat still_step
  refine wpStill_nil ?_
  go_upto_region 9 with fail
  rw [← hw4]
  clear hw4 y0 y1 g1 g2 gf1 gf2
  go_upto_region 10 with fail
  rw [← hw5]
  clear hw5 z0 z1 p1 pf1
  go_wp2_with fail
  exact bodyPost_ret (v := .tuple #[.agg #[.int .i64 (n + 1), .int .i64 (k : Int)], .int .i64 0]) (by simp [results, Tryd.results13, go_sem, r0, r1]) rfl ⟨rfl, (HF.out.drop.perm (show _ = StO b9 (n + 1, (k : Int)) * (RgP q (agProp g (k : Int) (v : Int)) * R) by ac_rfl)).drop⟩
end Go.Proofs.YtpgonkecicmanaaDoor
/- Pieces of a function's text, found by their numbers. -/
namespace Go.Proofs.YtpgonkecicmanaaDoor
set_option linter.unusedVariables false
set_option linter.unusedSimpArgs false
open Go.RowKit
def findIf (t : Nat) : Code → Option Code
  | .cond (.tmp k) a b => if k = t then some (.cond (.tmp k) a b) else match findIf t a with
    | some c => some c
    | none => findIf t b
  | .seq a b => match findIf t a with
    | some c => some c
    | none => findIf t b
  | .block _ c => findIf t c
  | .loop c => findIf t c
  | .scope c => findIf t c
  | _ => none
def findBlock (t : Nat) : Code → Option Code
  | .cond _ a b => match findBlock t a with
    | some c => some c
    | none => findBlock t b
  | .seq a b => match findBlock t a with
    | some c => some c
    | none => findBlock t b
  | .block k c => if k = t then some (.block k c) else findBlock t c
  | .loop c => findBlock t c
  | .scope c => findBlock t c
  | _ => none
def findRegion (t : Nat) : Code → Option Code
  | .cond _ a b => match findRegion t a with
    | some c => some c
    | none => findRegion t b
  | .seq a b => match findRegion t a with
    | some c => some c
    | none => findRegion t b
  | .region k o d => if k = t then some (.region k o d) else none
  | .block _ c => findRegion t c
  | .loop c => findRegion t c
  | .scope c => findRegion t c
  | _ => none
end Go.Proofs.YtpgonkecicmanaaDoor
/- The reference's Agree: Settle: the least of those that wait. -/
namespace Go.Proofs.YtpgonkecicmanaaDoor
set_option linter.unusedVariables false
set_option linter.unusedSimpArgs false
open Go.RowKit Go.Maps
theorem BestTo.skip1 {C : Nat → Bool} {T : Nat → St} {v b : Nat} {l : St} (h : BestTo C T (v - 1) b l) (h1 : 1 ≤ v) (hc : C v = false) : BestTo C T (v + 1 - 1) b l := by
  obtain ⟨j, rfl⟩ : ∃ j, v = j + 1 := ⟨v - 1, by omega⟩
  exact BestTo.skip h hc
theorem BestTo.take1 {C : Nat → Bool} {T : Nat → St} {v b : Nat} {l : St} (h : BestTo C T (v - 1) b l) (h1 : 1 ≤ v) (hc : C v = true) (hl : b = 0 ∨ stLess (T v) l = true) : BestTo C T (v + 1 - 1) v (T v) := by
  obtain ⟨j, rfl⟩ : ∃ j, v = j + 1 := ⟨v - 1, by omega⟩
  exact BestTo.take h hc hl
theorem BestTo.keep1 {C : Nat → Bool} {T : Nat → St} {v b : Nat} {l : St} (h : BestTo C T (v - 1) b l) (h1 : 1 ≤ v) (hb : b ≠ 0) (hl : stLess (T v) l = false) : BestTo C T (v + 1 - 1) b l := by
  obtain ⟨j, rfl⟩ : ∃ j, v = j + 1 := ⟨v - 1, by omega⟩
  exact BestTo.keep h hb hl
theorem heard_word {g : Ag} {N k : Nat} {m : AgM} (hG : GvI (gvOf g) N) (hm : AgMJ (gvOf g) N k m) : ∀ x ∈ m.heard, isWord x = true := fun x hx => by
  have h1 := (hm.has x).2 (.inr hx)
  obtain ⟨s, hs, _⟩ := List.mem_map.1 h1
  exact hG.words x s hs
theorem Own.rg_row {w0 w : World} {q : Nat} {cs : Array Value} {rows : List (Value × List Int)} {g : Ag} {R : HProp} (he : RgIs cs rows g) {k : Nat} (hk : k < 5) (hI : ∀ x ∈ (agGet g (k : Int)).heard, I64 x) (h : Own w0 (rgBlk q cs * (starL rowP rows * R)) w) :
    ∃ ad cap, w.cell? ⟨q, 657 + k, none⟩ = some (.slice ad (agGet g (k : Int)).heard.length cap) ∧ Ints w (.slice ad (agGet g (k : Int)).heard.length cap) (agGet g (k : Int)).heard := by
  obtain ⟨hl, h1, h2⟩ := he.heard hk
  have h3 := h.second
  rw [starL_split rowP rows k hl] at h3
  have h4 : Own w0 (IntSl rows[k].1 rows[k].2 * _) w := h3.perm (by unfold rowP; rw [star_assoc])
  rw [h1] at h4
  obtain ⟨ad, cap, hs⟩ := Own.int_shape h4
  refine ⟨ad, cap, ?_, ?_⟩
  · rw [Own.cell h, h2, hs]
  · have h5 := IntSl_reads hI _ h4
    rw [hs] at h5; exact h5
noncomputable def rgBest_code : Code := ((Tryd.f15.body.bind (findBlock 2)).getD .skip)
set_option maxRecDepth 1000000 in
set_option maxHeartbeats 4000000 in
theorem rgBest {Q : Exit → Act → World → Prop} {u2 u3 u4 u5 u6 u7 u8 u9 u10 u11 u12 u16 u17 u18 u19 u20 u21 u22 u23 u24 u25 u26 u27 u28 u29 u30 u31 u32 u33 u34 u35 u36 u37 u38 u39 u40 u41 u42 u43 u44 u45 u46 u47 u48 u49 u50 u51 u52 u53 u54 u55 u56 u57 u58 u59 u60 u61 u62 u63 u64 u65 u66 u67 u68 u69 u70 u71 u72 u73 u74 u75 u76 u77 u78 u79 u80 u81 u82 u83 u84 u85 u86 u87 u88 u89 u90 u91 u92 u93 u94 u95 u96 u97 u98 u99 u100 u101 u102 u103 u104 u105 u106 u107 u108 u109 u110 u111 u112 u113 u114 u115 u116 u117 u118 u119 u120 u121 u122 u123 u124 u125 u126 u127 u128 u129 u130 u131 u132 u133 u134 u135 u136 u137 u138 u139 u140 u141 u142 u143 u144 u145 u146 u147 u148 u149 u150 u151 u152 : Value} {w2 : World} {w0 : World} {R : HProp} (q b14 k N : Nat) (g : Ag) (m : AgM) (hI : AgI g) (hN : N = g.mem.length) (hk : k < N) (h5 : N ≤ 5) (hm : AgMJ (gvOf g) N k m) (HO : Hid (Own w0 (StO b14 (0, 0) * (RgP q (agWith g k m) * R)) w2))
    (hK : ∀ (v13 v15 v16 v17 v18 v66 v67 v68 v69 v70 v71 v72 v73 v74 v75 v76 v77 v78 v79 v80 v81 v82 v83 v84 v85 v86 v87 v88 v89 v90 v91 v92 v93 v94 v95 v96 v97 v98 v99 v100 v101 v102 v103 v104 v105 v106 v107 v108 v109 v110 v111 v112 v113 v114 v115 v116 v117 v118 v119 v120 v121 : Value) (wx : World), (∃ (b : Nat) (l : St), v13 = .int .i64 (b : Int) ∧ BestTo (rgC g k m) (rgT g k m) 30 b l ∧ Own w0 (RgP q (agWith g k m) * R) wx) → Q .normal ⟨List.toArray ((.pointer (some ⟨q, 0, none⟩)) :: (.int .i64 (k : Int)) :: u2 :: u3 :: u4 :: u5 :: u6 :: u7 :: u8 :: u9 :: u10 :: u11 :: u12 :: v13 :: (.pointer (some ⟨b14, 0, none⟩)) :: v15 :: v16 :: v17 :: v18 :: u19 :: u20 :: u21 :: u22 :: u23 :: u24 :: u25 :: u26 :: u27 :: u28 :: u29 :: u30 :: u31 :: u32 :: u33 :: u34 :: u35 :: u36 :: u37 :: u38 :: u39 :: u40 :: u41 :: u42 :: u43 :: u44 :: u45 :: u46 :: u47 :: u48 :: u49 :: u50 :: u51 :: u52 :: u53 :: u54 :: u55 :: u56 :: u57 :: u58 :: u59 :: u60 :: u61 :: u62 :: u63 :: u64 :: u65 :: v66 :: v67 :: v68 :: v69 :: v70 :: v71 :: v72 :: v73 :: v74 :: v75 :: v76 :: v77 :: v78 :: v79 :: v80 :: v81 :: v82 :: v83 :: v84 :: v85 :: v86 :: v87 :: v88 :: v89 :: v90 :: v91 :: v92 :: v93 :: v94 :: v95 :: v96 :: v97 :: v98 :: v99 :: v100 :: v101 :: v102 :: v103 :: v104 :: v105 :: v106 :: v107 :: v108 :: v109 :: v110 :: v111 :: v112 :: v113 :: v114 :: v115 :: v116 :: v117 :: v118 :: v119 :: v120 :: v121 :: u122 :: u123 :: u124 :: u125 :: u126 :: u127 :: u128 :: u129 :: u130 :: u131 :: u132 :: u133 :: u134 :: u135 :: u136 :: u137 :: u138 :: u139 :: u140 :: u141 :: u142 :: u143 :: u144 :: u145 :: u146 :: u147 :: u148 :: u149 :: u150 :: u151 :: u152 :: []), []⟩ wx) :
    Code.wp Tryd.prog rgBest_code Q ⟨List.toArray ((.pointer (some ⟨q, 0, none⟩)) :: (.int .i64 (k : Int)) :: u2 :: u3 :: u4 :: u5 :: u6 :: u7 :: u8 :: u9 :: u10 :: u11 :: u12 :: (.int .i64 0) :: (.pointer (some ⟨b14, 0, none⟩)) :: (.int .i64 1) :: u16 :: u17 :: u18 :: u19 :: u20 :: u21 :: u22 :: u23 :: u24 :: u25 :: u26 :: u27 :: u28 :: u29 :: u30 :: u31 :: u32 :: u33 :: u34 :: u35 :: u36 :: u37 :: u38 :: u39 :: u40 :: u41 :: u42 :: u43 :: u44 :: u45 :: u46 :: u47 :: u48 :: u49 :: u50 :: u51 :: u52 :: u53 :: u54 :: u55 :: u56 :: u57 :: u58 :: u59 :: u60 :: u61 :: u62 :: u63 :: u64 :: u65 :: u66 :: u67 :: u68 :: u69 :: u70 :: u71 :: u72 :: u73 :: u74 :: u75 :: u76 :: u77 :: u78 :: u79 :: u80 :: u81 :: u82 :: u83 :: u84 :: u85 :: u86 :: u87 :: u88 :: u89 :: u90 :: u91 :: u92 :: u93 :: u94 :: u95 :: u96 :: u97 :: u98 :: u99 :: u100 :: u101 :: u102 :: u103 :: u104 :: u105 :: u106 :: u107 :: u108 :: u109 :: u110 :: u111 :: u112 :: u113 :: u114 :: u115 :: u116 :: u117 :: u118 :: u119 :: u120 :: u121 :: u122 :: u123 :: u124 :: u125 :: u126 :: u127 :: u128 :: u129 :: u130 :: u131 :: u132 :: u133 :: u134 :: u135 :: u136 :: u137 :: u138 :: u139 :: u140 :: u141 :: u142 :: u143 :: u144 :: u145 :: u146 :: u147 :: u148 :: u149 :: u150 :: u151 :: u152 :: []), []⟩ w2 := by
  conv => arg 2; whnf
  have HK := Lib.hid hK
  clear hK
  have hkg : k < g.mem.length := by omega
  have hG : GvI (gvOf g) N := by rw [hN]; exact hI.gv (by omega)
  have hget : agGet (agWith g k m) (k : Int) = m := by rw [agWith_get hkg, if_pos rfl]
  have hHI : ∀ x ∈ m.heard, I64 x := fun x hx => isWord_I64 (heard_word hG hm x hx)
  have hmaxr : ∀ v : Nat, (gvOf g (v : Int)).length = N ∨ (v : Int) ∉ m.knew := fun v => by
    by_cases hv : (v : Int) ∈ m.knew
    · exact .inl (hm.knewC _ hv)
    · exact .inr hv
  obtain ⟨C, hC⟩ : ∃ C, C = rgC g k m := ⟨_, rfl⟩
  obtain ⟨T, hT⟩ : ∃ T, T = rgT g k m := ⟨_, rfl⟩
  obtain ⟨G, hGG⟩ : ∃ G, G = agWith g k m := ⟨_, rfl⟩
  rw [← hC, ← hT, ← hGG] at HK
  rw [← hGG] at HO hget
  have hGv : gvOf G = gvOf g := by rw [hGG]; rfl
  have hGl : G.mem.length = g.mem.length := by rw [hGG]; exact agWith_len g k m
  have k0 : (0 : Int) ≤ (k : Int) := by omega
  have k5 : (k : Int) < 5 := by omega
  have HI := Lib.hid hI; have HN := Lib.hid hN; have HM := Lib.hid hm; have HG := Lib.hid hG; have HGET := Lib.hid hget; have HHI := Lib.hid hHI; have HMAXR := Lib.hid hmaxr; have HC := Lib.hid hC; have HT := Lib.hid hT; have HGG := Lib.hid hGG; have HGV := Lib.hid hGv; have HGL := Lib.hid hGl
  clear hI hN hm hG hget hHI hmaxr hC hT hGG hGv hGl
  go_wp2_with fail
  go_loopw [13, 15] (fun bv iv wr => ∃ (v b : Nat) (l : St), 1 ≤ v ∧ v ≤ 31 ∧ bv = .int .i64 (b : Int) ∧ iv = .int .i64 (v : Int) ∧ Hid (BestTo C T (v - 1) b l) ∧ Hid (Own w0 (StO b14 l * (RgP q G * R)) wr)) (fun _ iv _ => 31 - (intOf iv).toNat)
  case atStart => exact ⟨1, 0, (0, 0), by omega, by omega, rfl, rfl, Lib.hid (BestTo.start C T (0, 0)), HO⟩
  case round =>
    clear HO
    obtain ⟨v, b, l, hv1, hv31, rfl, rfl, HB, HP⟩ := hrel
    by_cases hlt : v < 31
    rotate_left
    · have hv : v = 31 := by omega
      subst hv
      go_wp2_with fail
      apply HK.out
      exact ⟨b, l, rfl, HB.out, HP.out.drop⟩
    obtain ⟨cs, rows, he, ho⟩ := HP.out.second.rg_open
    obtain ⟨_, _, cst, _⟩ := ho.rg_cells he
    obtain ⟨e1, e2, e3, e4⟩ := cst v k hlt (by omega)
    obtain ⟨ad, cap, e5, hrd⟩ := ho.rg_row he (k := k) (by omega) (by rw [HGET.out]; exact HHI.out)
    rw [HGET.out] at e4 e5 hrd
    have v0 : (0 : Int) ≤ (v : Int) := by omega
    have v31 : (v : Int) < 31 := by omega
    have t1 : decide ((v : Int) ≤ 30) = true := decide_eq_true (by omega)
    have hgs : rgSt G (v : Int) k = rgSt g (v : Int) k := by unfold rgSt; rw [HGV.out]
    have hgh : rgHas G (v : Int) k = rgHas g (v : Int) k := by unfold rgHas; rw [HGV.out]
    rw [hgs] at e1 e2
    rw [hgh] at e3
    have hCv : C v = (rgHas g (v : Int) k && !decide ((v : Int) ∈ m.heard)) := by rw [HC.out]; rfl
    have hTv : T v = if (v : Int) ∈ m.knew then maxSt (gvOf g (v : Int)) else rgSt g (v : Int) k := by rw [HT.out]; rfl
    obtain ⟨D, hD⟩ : ∃ D, D = decide ((v : Int) ∈ m.heard) := ⟨_, rfl⟩
    obtain ⟨E, hE⟩ : ∃ E, E = rgHas g (v : Int) k := ⟨_, rfl⟩
    obtain ⟨L, hL⟩ : ∃ L, L = m.heard.length := ⟨_, rfl⟩
    rw [← hD, ← hE] at hCv
    rw [← hE] at e3
    rw [← hL] at e5
    rw [← hL] at hrd
    have HIN := Lib.hid (refIn_any (.slice ad L cap) m.heard (v : Int) wr hrd)
    rw [← hD] at HIN
    clear hrd cst hgs hgh
    have HCV := Lib.hid hCv; have HTV := Lib.hid hTv; have HD := Lib.hid hD; have HE := Lib.hid hE; have HL := Lib.hid hL; have HE := Lib.hid he; have HO := Lib.hid ho
    clear hCv hTv hD hE hL he ho
    by_cases hc : E = true ∧ D = false
    rotate_left
    · have hCf : C v = false := by
        rw [HCV.out]
        cases E
        · rfl
        · cases D
          · exact absurd ⟨rfl, rfl⟩ hc
          · rfl
      have HS : Hid (BestTo C T (v + 1 - 1) b l) := Lib.hid (HB.out.skip1 hv1 hCf)
      have hcs : E = false ∨ (E = true ∧ D = true) := by
        cases E
        · exact .inl rfl
        · cases D
          · exact absurd ⟨rfl, rfl⟩ hc
          · exact .inr ⟨rfl, rfl⟩
      have HC := Lib.hid hc; have HCF := Lib.hid hCf
      clear hc hCf
      rcases hcs with rfl | ⟨rfl, rfl⟩
      all_goals
        go_wp2_with fail
        refine HIN.out.mono ?_
        rintro e w' ⟨rfl, rfl⟩
        go_wp2_with fail
        go_round
        case rel => exact ⟨v + 1, b, l, by omega, by omega, rfl, by go_num, HS, HP⟩
        case measure => simp [intOf]; omega
    obtain ⟨rfl, rfl⟩ := hc
    have hCt : C v = true := by rw [HCV.out]; rfl
    obtain ⟨s0, hs0⟩ : ∃ s, s = rgSt g (v : Int) k := ⟨_, rfl⟩
    obtain ⟨KN, hKN⟩ : ∃ x, x = decide ((v : Int) ∈ m.knew) := ⟨_, rfl⟩
    rw [← hs0] at e1 e2 HTV
    rw [← hKN] at e4
    obtain ⟨b17, hb_b17⟩ : ∃ zz_, zz_ = (wr).heap.size := ⟨_, rfl⟩
    obtain ⟨w1, hw_w1⟩ : ∃ zz_, zz_ = (wr).alloc (.cells #[.int .i64 s0.1, .int .i64 s0.2] 32 (0, 0)) := ⟨_, rfl⟩
    have h_HB17 := (HP.out).alloc (.cells #[.int .i64 s0.1, .int .i64 s0.2] 32 (0, 0))
    rw [← hb_b17, ← hw_w1] at h_HB17
    have HB17 := Lib.hid h_HB17
    clear h_HB17
    have H1 : Hid (Own w0 (RgP q G * (StO b17 s0 * (StO b14 l * R))) w1) := Lib.hid (HB17.out.perm (show _ = RgP q G * ((blk b17 _) * (StO b14 l * R)) by ac_rfl))
    have e4' : w1.cell? ⟨q, 497 + v * 5 + k, none⟩ = some (.bool KN) := by
      obtain ⟨cs', rows', he', ho'⟩ := H1.out.rg_open
      obtain ⟨_, _, cst', _⟩ := ho'.rg_cells he'
      obtain ⟨_, _, _, e⟩ := cst' v k hlt (by omega)
      rw [e, HGET.out, hKN]
    clear HB17 HO
    have hgN : 0 < g.mem.length := by omega
    have hg5 : g.mem.length ≤ 5 := by rw [← HN.out]; exact h5
    have HCT := Lib.hid hCt; have HS0 := Lib.hid hs0; have HKN := Lib.hid hKN; have HGN := Lib.hid hgN; have HG5 := Lib.hid hg5
    clear hCt hs0 hKN hgN hg5
    go_upto_region 24 with first | (refine HIN.out.mono ?_; rintro e w' ⟨rfl, rfl⟩) | fail
    rw [← hb_b17, ← hw_w1]
    clear hb_b17 hw_w1
    clear e1 e2 e3 e4 e5
    go_upto_if 105 with fail
    go_cut [] from 106 to 111 (fun wx => Own w0 (StO b17 (T v) * (StO b14 l * (RgP q G * R))) wx)
    case first =>
      cases KN
      · have hT0 : T v = s0 := by rw [HTV.out, if_neg (of_decide_eq_false HKN.out.symm)]
        have HF : Hid (Own w0 (StO b17 (T v) * (StO b14 l * (RgP q G * R))) w1) := Lib.hid (by rw [hT0]; exact H1.out.perm (by ac_rfl))
        have HT0 := Lib.hid hT0
        clear hT0
        go_wp2_with fail
        go_meet
        exact HF.out
      · have hkn := of_decide_eq_true HKN.out.symm
        have hT0 : T v = maxSt (gvOf g (v : Int)) := by rw [HTV.out, if_pos hkn]
        have hfl : (gvOf g (v : Int)).length = g.mem.length := by rw [← HN.out]; exact HM.out.knewC _ hkn
        have HT0 := Lib.hid hT0; have HFL := Lib.hid hfl; have HKN := Lib.hid hkn
        clear hT0 hfl hkn
        go_wp2_with fail
        refine (rgFinal_any q g G HGV.out HGL.out v hlt HI.out HGN.out HG5.out H1.out).mono ?_
        rintro e w2 ⟨xa, xb, rfl, hx, ho⟩
        rw [decide_eq_true HFL.out]
        have hx1 := hx HFL.out
        rw [← HT0.out] at hx1
        have h2 := ho.second
        obtain ⟨_, _, xf⟩ := h2.sto
        have xf0 := xf 0 none
        have xf1 := xf 1 none
        have HF : Hid (Own w0 (StO b17 (T v) * (StO b14 l * (RgP q G * R))) ((w2.setCell ⟨b17, 0, none⟩ (.int .i64 xa)).setCell ⟨b17, 1, none⟩ (.int .i64 xb))) := Lib.hid ((h2.sto_put (xa, xb)).perm (by rw [← hx1]; ac_rfl))
        obtain ⟨c0, c1, _⟩ := h2.sto
        clear ho hx hx1 h2 xf
        go_wp2_with fail
        go_meet
        exact HF.out
    case rest =>
    clear e4' H1
    obtain ⟨tv, hte⟩ : ∃ t, t = T v := ⟨_, rfl⟩
    rw [← hte] at hcut
    obtain ⟨x0, x1, _⟩ := hcut.sto
    obtain ⟨y0, y1, _⟩ := hcut.second.sto
    obtain ⟨B, hBl⟩ : ∃ B, B = stLess tv l := ⟨_, rfl⟩
    have HLS := Lib.hid (rgLess_any tv l hcut)
    rw [← hBl] at HLS
    clear hcut
    have HTE := Lib.hid hte; have HBL := Lib.hid hBl
    clear hte hBl
    go_wp2_with fail
    refine HLS.out.mono ?_
    rintro e w3 ⟨rfl, ho⟩
    obtain ⟨z0, z1, _⟩ := ho.sto
    obtain ⟨_, _, yf⟩ := ho.second.sto
    have yf0 := yf 0 none
    have yf1 := yf 1 none
    have HN3 : Hid (Own w0 (StO b14 tv * (RgP q G * R)) ((w3.setCell ⟨b14, 0, none⟩ (.int .i64 tv.1)).setCell ⟨b14, 1, none⟩ (.int .i64 tv.2))) := Lib.hid (ho.second.sto_put tv |>.perm (show _ = StO b17 tv * (StO b14 tv * (RgP q G * R)) by ac_rfl)).drop
    have HO3 := Lib.hid ho.drop
    clear x0 x1 y0 y1 HLS ho yf
    by_cases htake : b = 0 ∨ B = true
    · have HS : Hid (BestTo C T (v + 1 - 1) v tv) := Lib.hid (by rw [HTE.out]; exact HB.out.take1 hv1 HCT.out (by rw [← HTE.out, ← HBL.out]; exact htake))
      have hcs : ((b : Int) == 0) = true ∨ (((b : Int) == 0) = false ∧ B = true) := by
        by_cases h0 : b = 0
        · exact .inl (by rw [h0]; rfl)
        · exact .inr ⟨by rw [beq_eq_false_iff_ne]; omega, htake.resolve_left h0⟩
      have HTAKE := Lib.hid htake
      clear htake
      rcases hcs with tb | ⟨tb, rfl⟩
      all_goals
        go_wp2_with fail
        go_round
        case rel => exact ⟨v + 1, v, tv, by omega, by omega, rfl, by go_num, HS, HN3⟩
        case measure => simp [intOf]; omega
    · have hb0 : b ≠ 0 := fun h => htake (.inl h)
      have hB0 : B = false := by
        cases B
        · rfl
        · exact absurd (.inr rfl) htake
      have HS : Hid (BestTo C T (v + 1 - 1) b l) := Lib.hid (HB.out.keep1 hv1 hb0 (by rw [← HTE.out, ← HBL.out]; exact hB0))
      have tb : ((b : Int) == 0) = false := by rw [beq_eq_false_iff_ne]; omega
      subst hB0
      have HTAKE := Lib.hid htake; have HB0 := Lib.hid hb0
      clear htake hb0
      go_wp2_with fail
      go_round
      case rel => exact ⟨v + 1, b, l, by omega, by omega, rfl, by go_num, HS, HO3⟩
      case measure => simp [intOf]; omega
end Go.Proofs.YtpgonkecicmanaaDoor
