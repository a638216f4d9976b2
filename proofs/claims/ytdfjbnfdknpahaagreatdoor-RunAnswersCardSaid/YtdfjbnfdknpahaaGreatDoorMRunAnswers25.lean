/- run.Run: the answers to a text. -/
import Derived.Test.YtdfjbnfdknpahaaGreatDoorMRunAnswers23
import Derived.Test.YtdfjbnfdknpahaaGreatDoorMRunAnswers24
import Derived.Test.YtdfjbnfdknpahaaGreatDoorMRunAnswers4
import Derived.Test.YtdfjbnfdknpahaaGreatDoorMRunAnswers1
import Derived.Test.YtdfjbnfdknpahaaGreatDoorMRunAnswers16
namespace Go.Proofs.YtdfjbnfdknpahaaGreatDoor
set_option linter.unusedVariables false
set_option linter.unusedSimpArgs false
open Go.RowKit
attribute [local go_sem] Oper.semAt_some
set_option maxRecDepth 100000 in
set_option maxHeartbeats 4000000 in
theorem linesF_any {w0 w : World} {R : HProp} (t : List UInt8) (h : Own w0 R w) :
    Calls Tryz.prog 12 #[.string (tx t)] w fun e w' => ∃ b, e = .returned (.func (.func 34) #[] #[.pointer (some ⟨b, 0, none⟩)]) ∧ Own w0 (TbO b t * R) w' := by
  obtain ⟨S, hS⟩ : ∃ S, S = tx t := ⟨_, rfl⟩
  rw [← hS]
  obtain ⟨b1, hb_b1⟩ : ∃ zz_, zz_ = (w).heap.size := ⟨_, rfl⟩
  obtain ⟨w1, hw_w1⟩ : ∃ zz_, zz_ = (w).alloc (.cells #[.string S] 9 (0, 0)) := ⟨_, rfl⟩
  have h_H1 := (h).alloc (.cells #[.string S] 9 (0, 0))
  rw [← hb_b1, ← hw_w1] at h_H1
  have H1 := Lib.hid h_H1
  clear h_H1
  have H := Lib.hid h; have HS := Lib.hid hS
  clear h hS
  go_enter Tryz.func12, Tryz.ntmps12
  go_upto_region 1 with fail
  rw [← hb_b1, ← hw_w1]
  clear hb_b1 hw_w1
  go_wp2_with fail
  go_ret
  exact ⟨b1, rfl, by rw [HS.out] at H1; exact H1.out⟩
set_option maxHeartbeats 4000000 in
set_option maxRecDepth 1000000 in
theorem run_any {w : World} (hW : RunW w) (t : List UInt8) : Calls Tryz.prog 6 #[.string (tx t)] w fun e w' => e = .returned (.string (tx (runB t))) ∧ Below w.heap.size w w' := by
  have hln : ∀ (ty : TypeId) (w : World), (Builtin.len_ #[9] ty #[.string (tx t)]).run Tryz.prog w = .ok (.int .i64 (t.length : Int)) w := fun ty w => by
    rw [run_len_string w _ _ _ Tryz.underlying9, tx_size]; rfl
  obtain ⟨n, hn⟩ : ∃ n, n = t.length := ⟨_, rfl⟩
  have hgr : isGrp 3 = true := by decide
  have hnw := csNew_yes (w0 := w) (w := w) 3 hgr (Own.start w)
  have hlf := fun (w2 : World) (R : HProp) (h : Own w R w2) => linesF_any t h
  obtain ⟨T, hT⟩ : ∃ T, T = tx t := ⟨_, rfl⟩
  rw [← hT] at hln hlf ⊢
  rw [← hn] at hln
  obtain ⟨A, hA⟩ : ∃ A, A = tx (runB t) := ⟨_, rfl⟩
  rw [← hA]
  have HGR := Lib.hid hgr; have HNW := Lib.hid hnw; have HT := Lib.hid hT; have HA := Lib.hid hA; have HLF := Lib.hid hlf; have HN := Lib.hid hn
  clear hgr hnw hT hA hlf hn
  refine (callsIn_wide (n := 3)).1 ?_
  refine callsIn_of_wp_marks Tryz.func6 rfl trivial ?_ rfl
  simp only [Tryz.ntmps6, List.size_toArray, List.length_cons, List.length_nil, Nat.reduceAdd, Nat.reduceSub, Array.replicate_succ, Array.replicate_zero, List.push_toArray, List.append_toArray, List.nil_append, List.cons_append]
  refine wpIn_wide.2 ?_
  by_cases h3 : 3000 < n
  · have hr : runB t = tooLong := by unfold runB; rw [if_pos (by rw [← HN.out]; exact h3)]
    have hA2 : A = ⟨#[116, 111, 111, 32, 108, 111, 110, 103, 10]⟩ := by rw [HA.out, hr]; rfl
    have HR := Lib.hid hr; have HA2 := Lib.hid hA2
    clear hr hA2
    go_wp2_with fail
    exact ⟨_, results_tmp rfl _ _ _, by rw [HA2.out]; rfl, Below.refl _ _⟩
  · go_wp2_with fail
    refine HNW.out.mono ?_
    rintro e w2 ⟨p, rfl, ho⟩
    rw [show errV 0 = .nilIface from rfl]
    obtain ⟨b5, hb_b5⟩ : ∃ zz_, zz_ = (w2).heap.size := ⟨_, rfl⟩
    obtain ⟨w5, hw_w5⟩ : ∃ zz_, zz_ = (w2).alloc (.cells #[.pointer (some ⟨p, 0, none⟩)] 38 (0, 0)) := ⟨_, rfl⟩
    have h_H5 := (ho).alloc (.cells #[.pointer (some ⟨p, 0, none⟩)] 38 (0, 0))
    rw [← hb_b5, ← hw_w5] at h_H5
    have H5 := Lib.hid h_H5
    clear h_H5
    obtain ⟨b6, hb_b6⟩ : ∃ zz_, zz_ = (w5).heap.size := ⟨_, rfl⟩
    obtain ⟨w6, hw_w6⟩ : ∃ zz_, zz_ = (w5).alloc (.cells #[.pointer none, .slice none 0 0] 42 (0, 0)) := ⟨_, rfl⟩
    have h_H6 := (H5.out).alloc (.cells #[.pointer none, .slice none 0 0] 42 (0, 0))
    rw [← hb_b6, ← hw_w6] at h_H6
    have H6 := Lib.hid h_H6
    clear h_H6
    have hbu := Own.bu_new H5.out
    rw [← hb_b6, ← hw_w6] at hbu
    have hbu : Own w (BuO b6 [] * (DkO b5 p * (CsP p (csNew 3) * emp))) w6 := hbu
    clear ho H6 H5
    have HBU := Lib.hid hbu
    clear hbu
    go_upto_region 7 with fail
    rw [← hb_b5, ← hw_w5]
    clear hb_b5 hw_w5
    go_upto_region 8 with fail
    rw [← hb_b6, ← hw_w6]
    clear hb_b6 hw_w6
    go_wp2_with fail
    refine (HLF.out _ _ HBU.out).mono ?_
    rintro e w7 ⟨b7, rfl, ho7⟩
    have HO7 := Lib.hid ho7
    clear ho7
    go_wp2_with fail
    have ht3 : t.length ≤ 3000 := by rw [← HN.out]; omega
    obtain ⟨I, hI⟩ : ∃ I : List (List UInt8) → HProp, I = fun pre => BuO b6 (runA (csNew 3) (pre.map trimB)) * (CsP p (runC (csNew 3) (pre.map trimB)) * DkO b5 p) := ⟨_, rfl⟩
    have ho8 : Own w (TbO b7 t * I []) w7 := by
      rw [hI]
      exact HO7.out.perm (show TbO b7 t * (BuO b6 [] * (DkO b5 p * (CsP p (csNew 3) * emp))) = TbO b7 t * (BuO b6 [] * (CsP p (csNew 3) * DkO b5 p)) by rw [star_emp]; ac_rfl)
    have HI := Lib.hid hI
    clear hI
    clear HO7 HBU
    refine wp_rangeOwn (w0 := w) (gf := 34) (lb := #[.pointer (some ⟨b7, 0, none⟩)]) rfl (enters_of Tryz.func34 (by kernel_rfl) rfl) (fun x : List UInt8 => .string (tx x)) (TbO b7 t) (TbO b7 []) I (rawL t) ho8 rfl (fun l J W hY hO => callsIn_wide.2 (lines_any l b7 J t (by omega) hY hO))
      (fun x => { tmps := #[.string T, undef, .string ⟨#[]⟩, .pointer (some ⟨p, 0, none⟩), .nilIface, .pointer (some ⟨b5, 0, none⟩), .pointer (some ⟨b6, 0, none⟩), .string (tx x), .string T, .int .i64 n, .bool (decide (3000 < (n : Int))), .tuple #[.pointer (some ⟨p, 0, none⟩), .nilIface], .tuple #[.pointer (some ⟨p, 0, none⟩), .nilIface], .pointer (some ⟨p, 0, none⟩), .nilIface, .nilIface, .bool false, .pointer (some ⟨p, 0, none⟩), .agg #[.pointer (some ⟨p, 0, none⟩)], .string T, .func (.func 34) #[] #[.pointer (some ⟨b7, 0, none⟩)], .string (tx x), undef, undef, undef, undef, undef, undef, undef], defers := [] }) ?assign ?body ?done
    case assign =>
      intro l x W K hK
      have HK_ := Lib.hid hK
      clear hK
      gi_wp2
      exact HK_.out
    case body =>
      intro l U pre x W hpre hO
      have hxr : x ∈ rawL t := by
        obtain ⟨q, hq⟩ := hpre
        rw [← hq]
        exact List.mem_append_left _ (List.mem_append_right _ (List.mem_singleton.2 rfl))
      have hxl : x.length ≤ 3000 := Nat.le_trans ((rawL_len t).2 x hxr) ht3
      have hpl : pre.length ≤ 3000 := by
        have h1 := hpre.length_le
        rw [List.length_append] at h1
        have h2 := (rawL_len t).1
        omega
      have htl := trimB_len x
      obtain ⟨c, hc⟩ : ∃ c, c = runC (csNew 3) (pre.map trimB) := ⟨_, rfl⟩
      obtain ⟨L, hL⟩ : ∃ L, L = runA (csNew 3) (pre.map trimB) := ⟨_, rfl⟩
      have hcz : CZ c := by rw [hc]; exact cz3.runC _
      have hLl : L.length ≤ 3000 * 10000002 := by
        have h1 := cz3.runLen (pre.map trimB)
        rw [List.length_map] at h1
        rw [hL]
        exact Nat.le_trans h1 (Nat.mul_le_mul_right _ hpl)
      obtain ⟨y, hy⟩ : ∃ y, y = trimB x := ⟨_, rfl⟩
      rw [← hy] at htl
      have hal := hcz.ansLen y
      have hfin : I (pre ++ [x]) = BuO b6 (L ++ ((lineA c y).2 ++ [10])) * (CsP p (lineA c y).1 * DkO b5 p) := by
        rw [HI.out]
        show BuO b6 (runA (csNew 3) ((pre ++ [x]).map trimB)) * (CsP p (runC (csNew 3) ((pre ++ [x]).map trimB)) * DkO b5 p) = _
        rw [List.map_append, List.map_cons, List.map_nil, runA_snoc, runC_snoc, ← hc, ← hL, ← hy]
      rw [hfin]
      have hO1 : Own w (CsP p c * (BuO b6 L * (DkO b5 p * U))) W := by
        rw [HI.out] at hO
        exact hO.perm (show U * (BuO b6 (runA (csNew 3) (pre.map trimB)) * (CsP p (runC (csNew 3) (pre.map trimB)) * DkO b5 p)) = _ by rw [← hc, ← hL]; ac_rfl)
      have hcell : ∀ W, Own w (CsP p c * (BuO b6 L * (DkO b5 p * U))) W → W.cell? ⟨b5, 0, none⟩ = some (.pointer (some ⟨p, 0, none⟩)) := fun W ho => Own.dk (ho.perm (show _ = DkO b5 p * (CsP p c * (BuO b6 L * U)) by ac_rfl))
      have c0 := hcell W hO1
      have htr := fun W => trim_any (w := W) x (by omega)
      rw [← hy] at htr
      have han := fun (W : World) (ho : Own w (CsP p c * (BuO b6 L * (DkO b5 p * U))) W) => pans_any hW p c hcz y (by omega) ho
      obtain ⟨z, hz⟩ : ∃ z, z = (lineA c y).2 := ⟨_, rfl⟩
      obtain ⟨c', hc'⟩ : ∃ c', c' = (lineA c y).1 := ⟨_, rfl⟩
      simp only [← hz, ← hc'] at han hal ⊢
      have hwr := fun (W : World) (ho : Own w (BuO b6 L * (CsP p c' * (DkO b5 p * U))) W) => buWrite_any b6 L (z ++ [10]) (by rw [List.length_append, List.length_singleton]; omega) ho
      obtain ⟨X, hX⟩ : ∃ X, X = tx x := ⟨_, rfl⟩
      obtain ⟨Y, hY⟩ : ∃ Y, Y = tx y := ⟨_, rfl⟩
      obtain ⟨Z, hZ⟩ : ∃ Z, Z = tx z := ⟨_, rfl⟩
      obtain ⟨V, hV⟩ : ∃ V, V = tx (z ++ [10]) := ⟨_, rfl⟩
      have hadd : ∀ w : World, (Op.stringOp .add Z ⟨#[10]⟩).run Tryz.prog w = .ok (.string V) w := fun w => by
        have e : V = Z ++ ⟨#[10]⟩ := by rw [hV, hZ, ← tx_add]; rfl
        rw [e]
        exact run_string_add_sum _ _ _ (by rw [hZ, tx_size]; show z.length + 1 ≤ _; omega)
      simp only [← hX, ← hY] at htr
      simp only [← hY, ← hZ] at han
      simp only [← hV] at hwr
      simp only [← hX]
      have HTR : Hid (∀ W, Calls Tryz.prog 15 #[.string X, .string ⟨#[10]⟩] W fun e w' => e = .returned (.string Y) ∧ W = w') := Lib.hid htr
      have HO := Lib.hid hO; have HO1 := Lib.hid hO1; have HAN := Lib.hid han; have HWR := Lib.hid hwr; have HX := Lib.hid hX; have HY := Lib.hid hY; have HZ := Lib.hid hZ; have HV := Lib.hid hV; have HZ := Lib.hid hz; have HC' := Lib.hid hc'; have HFIN := Lib.hid hfin; have HCZ := Lib.hid hcz; have HC := Lib.hid hc; have HL := Lib.hid hL; have HY := Lib.hid hy; have HCELL := Lib.hid hcell; have HPRE := Lib.hid hpre
      clear hO hO1 han hwr hX hY hZ hV hz hc' hfin hcz hc hL hy hcell hpre
      clear htr hxr
      gi_wp2
      refine wpIn_region_all [[0, 1, 2, 3, 4, 5], [1, 0, 2, 3, 4, 5], [1, 2, 0, 3, 4, 5]] (by kernel_rfl) (by kernel_rfl) ?_
      intro Lo hLo
      obtain ⟨W1, hW1⟩ : ∃ W1, W1 = W.drew := ⟨_, rfl⟩
      have hO2 := HO1.out.drew
      rw [← hW1] at hO2 ⊢
      clear hW1 c0
      have c0 := HCELL.out W1 hO2
      have HO2 := Lib.hid hO2
      clear hO2
      simp only [List.mem_cons, List.not_mem_nil, or_false] at hLo
      rcases hLo with rfl | rfl | rfl
      all_goals
        simp only [List.filterMap_cons, List.filterMap_nil, List.getElem?_cons_zero, List.getElem?_cons_succ]
        gi_wp2
        refine ⟨trivial, ?_⟩
        refine (CallsIn.inRound l (callsIn_wide.2 (HTR.out _))).mono ?_
        rintro e w' ⟨rfl, rfl⟩
        gi_wp2
        refine ⟨trivial, ?_⟩
        refine (CallsIn.inRound l (callsIn_wide.2 (HAN.out _ HO2.out))).mono ?_
        rintro e W2 ⟨rfl, ho⟩
        have HO3 : Hid (Own w (BuO b6 L * (CsP p c' * (DkO b5 p * U))) W2) := Lib.hid (ho.perm (by ac_rfl))
        clear ho
        gi_wp2
        refine ⟨trivial, ?_⟩
        refine (CallsIn.inRound l (callsIn_wide.2 (HWR.out _ HO3.out))).mono ?_
        rintro e W3 ⟨v, rfl, ho⟩
        have HO4 := Lib.hid ho
        clear ho
        gi_wp2
        exact HO4.out.perm (show BuO b6 (L ++ (z ++ [10])) * (CsP p c' * (DkO b5 p * U)) = U * (BuO b6 (L ++ (z ++ [10])) * (CsP p c' * DkO b5 p)) by ac_rfl)
    case done =>
      intro D W hO
      have hr : runB t = sessB t := by unfold runB; rw [if_neg (by omega)]
      have hA2 : tx (sessB t) = A := by rw [HA.out, hr]
      have hO2 : Own w (BuO b6 (sessB t) * (blk D (.deferred (some [])) * (TbO b7 [] * (CsP p (runC (csNew 3) ((rawL t).map trimB)) * DkO b5 p)))) W := by
        rw [HI.out] at hO
        exact hO.perm (show blk D (.deferred (some [])) * (TbO b7 [] * (BuO b6 (sessB t) * (CsP p (runC (csNew 3) ((rawL t).map trimB)) * DkO b5 p))) = _ by ac_rfl)
      have hst := buString_any b6 (sessB t) hO2
      rw [hA2] at hst
      have HO := Lib.hid hO; have HR := Lib.hid hr; have HA2 := Lib.hid hA2; have HO2 := Lib.hid hO2; have HST := Lib.hid hst
      clear hO hr hA2 hO2 hst
      go_wp2_with fail
      refine HST.out.mono ?_
      rintro e W4 ⟨rfl, ho⟩
      have hK := ho.blk_at.1
      have HB : Hid (Below w.heap.size w (W4.putObj D (.deferred none))) := Lib.hid (ho.putObj (o' := .deferred none)).below
      clear ho
      go_wp2_with fail
      refine ⟨by simp, .inl ⟨_, _, rfl, run_takeDeferred hK, ?_⟩⟩
      exact ⟨_, results_tmp rfl _ _ _, rfl, HB.out⟩
end Go.Proofs.YtdfjbnfdknpahaaGreatDoor
/- Contracts of the reference's vectors: the fault of one; is one below another. -/
namespace Go.Proofs.YtdfjbnfdknpahaaGreatDoor
set_option linter.unusedVariables false
set_option linter.unusedSimpArgs false
open Go.RowKit
theorem any_false {l : List Int} (h : ∀ j (h : j < l.length), isCount l[j] = true) : (l.any fun n => !isCount n) = false := by
  rw [List.any_eq_false]
  intro x hx
  obtain ⟨j, hj, rfl⟩ := List.mem_iff_getElem.1 hx
  simp [h j hj]
set_option maxRecDepth 100000 in
set_option maxHeartbeats 4000000 in
theorem refVector_any (v : Value) (l : List Int) (w : World) (hl : Ints w v l) :
    Calls Tryz.prog 68 #[v] w fun e w' => e = .returned (.int .i64 (vecErr l : Nat)) ∧ w = w' := by
  obtain ⟨ad, cap, rfl, hlc, hcap⟩ := hl.shape
  have HL := Lib.hid hl
  clear hl
  by_cases h5 : l.length = 5
  rotate_left
  · have h5' : ((l.length : Int) != 5) = true := by rw [bne_iff_ne]; omega
    have hv : vecErr l = 3 := by simp [vecErr, h5]
    have HV := Lib.hid hv; have H5 := Lib.hid h5
    clear hv h5
    go_enter Tryz.func68, Tryz.ntmps68
    go_wp2
    go_ret
    exact ⟨by rw [HV.out]; rfl, rfl⟩
  have h5' : ((l.length : Int) != 5) = false := by rw [bne_eq_false_iff_eq]; omega
  have hle : 5 ≤ l.length := by omega
  have H5 := Lib.hid h5
  clear h5
  go_enter Tryz.func68, Tryz.ntmps68
  go_wp2_with fail
  go_loop [3] (fun i => ∃ k : Nat, k ≤ 5 ∧ i = .int .i64 k ∧ Hid (∀ j (h : j < k) (h' : j < l.length), isCount l[j] = true)) (fun i => 5 - (intOf i).toNat)
  case atStart => exact ⟨0, Nat.zero_le _, rfl, fun j h => by omega⟩
  case round =>
    obtain ⟨k, hk, rfl, hp⟩ := hrel
    by_cases hlt : k < 5
    rotate_left
    · go_wp2
      go_ret
      refine ⟨?_, rfl⟩
      have : vecErr l = 0 := by unfold vecErr; rw [if_neg (by rw [H5.out]; simp), any_false (fun j hj => hp.out j (by have := H5.out; omega) hj)]; rfl
      rw [this]; rfl
    have hlt' : k < l.length := by omega
    obtain ⟨aa, rfl, hca⟩ := HL.out.at k hlt'
    obtain ⟨x, hx⟩ : ∃ x, x = l[k] := ⟨_, rfl⟩
    rw [← hx] at hca
    have bad : isCount x = false → vecErr l = 1 := fun h => by
      unfold vecErr
      rw [if_neg (by rw [H5.out]; simp), if_pos]
      rw [List.any_eq_true]
      exact ⟨l[k], List.getElem_mem hlt', by rw [← hx, h]; rfl⟩
    have good : isCount x = true → ∀ j (h : j < k + 1) (h' : j < l.length), isCount l[j] = true := fun h j h1 h2 => by
      by_cases hj : j < k
      · exact hp.out j hj h2
      · have : j = k := by omega
        subst this; rw [← hx]; exact h
    have HX := Lib.hid hx; have BAD := Lib.hid bad; have GOOD := Lib.hid good
    clear hx bad good
    by_cases h0 : x < 0
    · go_wp2
      go_ret
      exact ⟨by rw [BAD.out (by first | (simp [isCount]; done) | (simp [isCount]; omega))]; rfl, rfl⟩
    by_cases h1 : 1000000 < x
    · go_wp2
      go_ret
      exact ⟨by rw [BAD.out (by first | (simp [isCount]; done) | (simp [isCount]; omega))]; rfl, rfl⟩
    go_wp2
    go_round
    case rel => exact ⟨k + 1, by omega, by go_num, GOOD.out (by first | (simp [isCount]; done) | (simp [isCount]; omega))⟩
    case measure => simp [intOf]; omega
end Go.Proofs.YtdfjbnfdknpahaaGreatDoor
/- The reference's Cause: what it is in memory; ready, List, Say. -/
namespace Go.Proofs.YtdfjbnfdknpahaaGreatDoor
set_option linter.unusedVariables false
set_option linter.unusedSimpArgs false
open Go.RowKit
def rcCells (me : Int) (clk : List Int) (v : Value) : List Value := .int .i64 me :: (clk.map (Value.int .i64) ++ [v])
abbrev rcBlk (p : Nat) (me : Int) (clk : List Int) (v : Value) : HProp := blk p (.cells (rcCells me clk v).toArray 68 (0, 0))
def RcO (p : Nat) (v : Value) (rows : List SdR) (me : Int) (clk : List Int) : HProp := rcBlk p me clk v * Sl 59 3 v rows.length (rows.flatMap sdCells)
theorem rcc_at {me : Int} {clk : List Int} {v : Value} (h5 : clk.length = 5) {k : Nat} (hk : k < 5) : (rcCells me clk v)[1 + k]? = some (.int .i64 (clk.getD k 0)) := by
  unfold rcCells
  rw [Nat.add_comm, List.getElem?_cons_succ, List.getElem?_append_left (by simp; omega), List.getElem?_map, List.getElem?_eq_getElem (by omega), List.getD_eq_getElem?_getD, List.getElem?_eq_getElem (by omega)]; rfl
theorem rcc_last {me : Int} {clk : List Int} {v : Value} (h5 : clk.length = 5) : (rcCells me clk v)[6]? = some v := by
  unfold rcCells
  rw [List.getElem?_cons_succ, List.getElem?_append_right (by simp; omega)]; simp [h5]
theorem rcc_set {me : Int} {clk : List Int} {v : Value} (h5 : clk.length = 5) {k : Nat} (hk : k < 5) (x : Int) : (rcCells me clk v).set (1 + k) (.int .i64 x) = rcCells me (clk.set k x) v := by
  unfold rcCells
  rw [Nat.add_comm, List.set_cons_succ, List.set_append_left _ _ (by simp; omega), List.map_set]
theorem rcc_put {me : Int} {clk : List Int} {v v' : Value} (h5 : clk.length = 5) : (rcCells me clk v).set 6 v' = rcCells me clk v' := by
  unfold rcCells
  rw [List.set_cons_succ, List.set_append_right _ _ (by simp; omega)]; simp [h5]
section
variable {w0 w : World} {p : Nat} {v : Value} {rows : List SdR} {me : Int} {clk : List Int} {R : HProp}
theorem Own.rcb_facts (h5 : clk.length = 5) (h : Own w0 (rcBlk p me clk v * R) w) :
    w.cell? ⟨p, 0, none⟩ = some (.int .i64 me) ∧ (∀ k, k < 5 → w.cell? ⟨p, 1 + k, none⟩ = some (.int .i64 (clk.getD k 0))) ∧ w.cell? ⟨p, 6, none⟩ = some v ∧ (∀ k s, w.frozen? ⟨p, k, s⟩ = false) := by
  refine ⟨?_, fun k hk => ?_, ?_, fun k s => Own.free h k s⟩
  · rw [Own.cell h]; rfl
  · rw [Own.cell h, List.getElem?_toArray]; exact rcc_at h5 hk
  · rw [Own.cell h, List.getElem?_toArray]; exact rcc_last h5
theorem Own.rcb_bump (h5 : clk.length = 5) {k : Nat} (hk : k < 5) (x : Int) (h : Own w0 (rcBlk p me clk v * R) w) : Own w0 (rcBlk p me (clk.set k x) v * R) (w.setCell ⟨p, 1 + k, none⟩ (.int .i64 x)) := by
  have h1 := Own.setCell (i := 1 + k) (v := .int .i64 x) h
  rw [List.setIfInBounds_toArray, rcc_set h5 hk] at h1
  exact h1
theorem Own.rcb_put (h5 : clk.length = 5) (v' : Value) (h : Own w0 (rcBlk p me clk v * R) w) : Own w0 (rcBlk p me clk v' * R) (w.setCell ⟨p, 6, none⟩ v') := by
  have h1 := Own.setCell (i := 6) (v := v') h
  rw [List.setIfInBounds_toArray, rcc_put h5] at h1
  exact h1
theorem Own.rc_blk (h : Own w0 (RcO p v rows me clk * R) w) : Own w0 (rcBlk p me clk v * (Sl 59 3 v rows.length (rows.flatMap sdCells) * R)) w := h.perm (by unfold RcO; ac_rfl)
theorem Own.rc_sl (h : Own w0 (RcO p v rows me clk * R) w) : Own w0 (Sl 59 3 v rows.length (rows.flatMap sdCells) * (rcBlk p me clk v * R)) w := h.perm (by unfold RcO; ac_rfl)
theorem Own.rc_shape (h : Own w0 (RcO p v rows me clk * R) w) : ∃ ad cap, v = .slice ad rows.length cap ∧ rows.length ≤ cap ∧ cap ≤ 9223372036854775807 := by
  obtain ⟨ad, cap, e, h1, h2, _⟩ := Own.rd h.rc_sl
  exact ⟨ad, cap, e, h1, by simpa [maxLen] using h2⟩
theorem Own.rc_at (h : Own w0 (RcO p v rows me clk * R) w) (hl : 0 < rows.length) :
    ∃ b off cap, v = .slice (some ⟨b, off, none⟩) rows.length cap ∧ rows.length ≤ cap ∧ cap ≤ 9223372036854775807 ∧ ∀ (k : Nat) (h : k < rows.length), w.cell? ⟨b, off + k * 3, none⟩ = some (.int .i64 rows[k].2.who) ∧ w.cell? ⟨b, off + k * 3 + 1, none⟩ = some (.int .i64 rows[k].2.word) ∧ w.cell? ⟨b, off + k * 3 + 2, none⟩ = some rows[k].1 := by
  obtain ⟨b, off, cap, e, h0⟩ := Own.slAt h.rc_sl (by rw [sd_len]; omega)
  obtain ⟨h1, h2, _, hc, _⟩ := h0.slAt_facts
  refine ⟨b, off, cap, e, h1, by simpa [maxLen] using h2, fun k hk => ⟨?_, ?_, ?_⟩⟩
  · have := cells_get sdCells 3 (fun _ => rfl) rows k 0 hk (by omega)
    exact hc (k * 3) (.int .i64 rows[k].2.who) (by simpa [sdCells] using this)
  · have := cells_get sdCells 3 (fun _ => rfl) rows k 1 hk (by omega)
    have h3 := hc (k * 3 + 1) (.int .i64 rows[k].2.word) (by simpa [sdCells] using this)
    rw [Nat.add_assoc]; exact h3
  · have := cells_get sdCells 3 (fun _ => rfl) rows k 2 hk (by omega)
    have h3 := hc (k * 3 + 2) rows[k].1 (by simpa [sdCells] using this)
    rw [Nat.add_assoc]; exact h3
end
set_option maxRecDepth 100000 in
set_option maxHeartbeats 4000000 in
theorem rcReady_any {w0 w : World} {R : HProp} (p : Nat) (clk : List Int) (s : Sd) (cv : Value) (hs : s.clk.length = 5) (hb : ∀ i, i < 5 → 0 ≤ clk.getD i 0 ∧ clk.getD i 0 ≤ 1000000) (hF : ∀ w', Own w0 R w' → (∀ i, i < 5 → w'.cell? ⟨p, 1 + i, none⟩ = some (.int .i64 (clk.getD i 0))) ∧ Ints w' cv s.clk) (h : Own w0 R w) :
    Calls Tryz.prog 69 #[.pointer (some ⟨p, 0, none⟩), .agg #[.int .i64 s.who, .int .i64 s.word, cv]] w fun e w' => e = .returned (.bool (caReady clk s)) ∧ Own w0 R w' := by
  obtain ⟨vad, vcap, hcv, hvc1, hvc2⟩ := (hF _ h).2.shape
  subst hcv
  obtain ⟨q, hq⟩ : ∃ q, q = s.who := ⟨_, rfl⟩
  rw [hs] at hvc1 hF ⊢
  rw [← hq]
  obtain ⟨b1, hb_b1⟩ : ∃ zz_, zz_ = (w).heap.size := ⟨_, rfl⟩
  obtain ⟨w1, hw_w1⟩ : ∃ zz_, zz_ = (w).alloc (.cells #[.int .i64 q, .int .i64 s.word, .slice vad 5 vcap] 59 (0, 0)) := ⟨_, rfl⟩
  have h_HO := (h).alloc (.cells #[.int .i64 q, .int .i64 s.word, .slice vad 5 vcap] 59 (0, 0))
  rw [← hb_b1, ← hw_w1] at h_HO
  have HO := Lib.hid h_HO
  clear h_HO
  have HB1 := Lib.hid HO.out
  clear HO
  have H := Lib.hid h; have HF := Lib.hid hF; have HB := Lib.hid hb; have HQ := Lib.hid hq; have HS := Lib.hid hs
  clear h hF hb hq hs
  go_enter Tryz.func69, Tryz.ntmps69
  go_upto_region 1 with fail
  rw [← hb_b1, ← hw_w1]
  clear hb_b1 hw_w1
  go_wp2_with fail
  go_loopw [5] (fun iv wr => ∃ i : Nat, i ≤ 5 ∧ iv = .int .i64 i ∧ Hid (∀ j, j < i → caOk1 clk s j = true) ∧ Hid (Own w0 (blk b1 (.cells #[.int .i64 q, .int .i64 s.word, .slice vad 5 vcap] 59 (0, 0)) * R) wr)) (fun iv _ => 5 - (intOf iv).toNat)
  case atStart => exact ⟨0, Nat.zero_le _, rfl, Lib.hid (fun j hj => absurd hj (by omega)), HB1⟩
  case round =>
    clear HB1
    obtain ⟨i, hi, rfl, HJ, HO⟩ := hrel
    have x0 := (HO.out.cell 0).trans rfl
    have x2 := (HO.out.cell 2).trans rfl
    obtain ⟨hc, hvv⟩ := HF.out _ HO.out.drop
    by_cases hlt : i < 5
    rotate_left
    · have hall : caReady clk s = true := caReady_yes (fun j hj => HJ.out j (by omega))
      have HALL := Lib.hid hall; have HC := Lib.hid hc; have HVV := Lib.hid hvv
      clear hall hc hvv
      go_wp2
      go_ret
      exact ⟨(show _ = Ending.returned (.bool true) from rfl).trans (by rw [HALL.out]), HO.out.drop⟩
    obtain ⟨aa, rfl, hca⟩ := hvv.at i (by rw [HS.out]; exact hlt)
    obtain ⟨z, hz⟩ : ∃ z, z = s.clk[i]'(by rw [HS.out]; exact hlt) := ⟨_, rfl⟩
    rw [← hz] at hca
    have hzg : s.clk.getD i 0 = z := by rw [hz, List.getD_eq_getElem?_getD, List.getElem?_eq_getElem (by rw [HS.out]; exact hlt)]; rfl
    have d := hc i hlt
    obtain ⟨y0, y1⟩ := HB.out i hlt
    obtain ⟨y, hy⟩ : ∃ y, y = clk.getD i 0 := ⟨_, rfl⟩
    rw [← hy] at d y0 y1
    have i0 : (0 : Int) ≤ (i : Int) := Int.natCast_nonneg i
    have i5 : (i : Int) < 5 := by omega
    obtain ⟨B, hB⟩ : ∃ B, B = caOk1 clk s i := ⟨_, rfl⟩
    have hB2 := hB
    unfold caOk1 at hB2
    rw [hzg, ← hy, ← HQ.out] at hB2
    clear hc hvv
    by_cases hiq : (i : Int) = q
    · rw [if_pos hiq] at hB2
      have t1 : ((i : Int) == q) = true := by rw [beq_iff_eq]; exact hiq
      cases B
      · have t3 : (z != y + 1) = true := by rw [bne_iff_ne]; exact of_decide_eq_false hB2.symm
        have hno := caReady_no (s := s) (clk := clk) hlt hB.symm
        have HZ := Lib.hid hz; have HZG := Lib.hid hzg; have HY := Lib.hid hy; have HB := Lib.hid hB; have HB2 := Lib.hid hB2; have HIQ := Lib.hid hiq; have HNO := Lib.hid hno
        clear hz hzg hy hB hB2 hiq hno
        go_wp2_with fail
        go_quiet (fail)
        go_wp2
        go_ret
        exact ⟨(show _ = Ending.returned (.bool false) from rfl).trans (by rw [HNO.out]), (HO.out.drewN _).drop⟩
      · have t3 : (z != y + 1) = false := by rw [bne_eq_false_iff_eq]; exact of_decide_eq_true hB2.symm
        have hn : ∀ j, j < i + 1 → caOk1 clk s j = true := fun j hj => by
          rcases Nat.lt_succ_iff_lt_or_eq.1 hj with h | h
          · exact HJ.out j h
          · rw [h]; exact hB.symm
        have HZ := Lib.hid hz; have HZG := Lib.hid hzg; have HY := Lib.hid hy; have HB := Lib.hid hB; have HB2 := Lib.hid hB2; have HIQ := Lib.hid hiq; have HN := Lib.hid hn
        clear hz hzg hy hB hB2 hiq hn
        go_wp2_with fail
        go_quiet (fail)
        go_wp2
        go_round
        case rel => exact ⟨i + 1, by omega, by go_num, HN, Lib.hid (HO.out.drewN _)⟩
        case measure => simp [intOf]; omega
    · rw [if_neg hiq] at hB2
      have t1 : ((i : Int) == q) = false := by rw [beq_eq_false_iff_ne]; exact hiq
      cases B
      · have t3 : decide (y < z) = true := by have := of_decide_eq_false hB2.symm; simp; omega
        have hno := caReady_no (s := s) (clk := clk) hlt hB.symm
        have HZ := Lib.hid hz; have HZG := Lib.hid hzg; have HY := Lib.hid hy; have HB := Lib.hid hB; have HB2 := Lib.hid hB2; have HIQ := Lib.hid hiq; have HNO := Lib.hid hno
        clear hz hzg hy hB hB2 hiq hno
        go_wp2_with fail
        go_quiet (fail)
        go_wp2
        go_ret
        exact ⟨(show _ = Ending.returned (.bool false) from rfl).trans (by rw [HNO.out]), (HO.out.drewN _).drop⟩
      · have t3 : decide (y < z) = false := by have := of_decide_eq_true hB2.symm; simp; omega
        have hn : ∀ j, j < i + 1 → caOk1 clk s j = true := fun j hj => by
          rcases Nat.lt_succ_iff_lt_or_eq.1 hj with h | h
          · exact HJ.out j h
          · rw [h]; exact hB.symm
        have HZ := Lib.hid hz; have HZG := Lib.hid hzg; have HY := Lib.hid hy; have HB := Lib.hid hB; have HB2 := Lib.hid hB2; have HIQ := Lib.hid hiq; have HN := Lib.hid hn
        clear hz hzg hy hB hB2 hiq hn
        go_wp2_with fail
        go_quiet (fail)
        go_wp2
        go_round
        case rel => exact ⟨i + 1, by omega, by go_num, HN, Lib.hid (HO.out.drewN _)⟩
        case measure => simp [intOf]; omega
theorem take_snoc5 {l : List Int} {k : Nat} (h5 : l.length = 5) (hk : k < 5) : l.take (k + 1) = l.take k ++ [l.getD k 0] := by
  rw [List.take_succ_eq_append_getElem (by omega), List.getD_eq_getElem?_getD, List.getElem?_eq_getElem (by omega)]; rfl
set_option maxRecDepth 100000 in
set_option maxHeartbeats 4000000 in
theorem rcList_any {w0 w : World} {R : HProp} (p : Nat) (clk : List Int) (h5 : clk.length = 5) (hF : ∀ w', Own w0 R w' → ∀ i, i < 5 → w'.cell? ⟨p, 1 + i, none⟩ = some (.int .i64 (clk.getD i 0))) (h : Own w0 R w) :
    Calls Tryz.prog 67 #[.pointer (some ⟨p, 0, none⟩)] w fun e w' => ∃ v', e = .returned v' ∧ Own w0 (IntSl v' clk * R) w' := by
  have H := Lib.hid h; have HF := Lib.hid hF; have H5 := Lib.hid h5
  clear h hF h5
  go_enter Tryz.func67, Tryz.ntmps67
  go_wp2_with fail
  go_loopw [3, 4] (fun ov iv wr => ∃ i : Nat, i ≤ 5 ∧ iv = .int .i64 i ∧ Hid (Own w0 (IntSl ov (clk.take i) * R) wr)) (fun _ iv _ => 5 - (intOf iv).toNat)
  case atStart => exact ⟨0, Nat.zero_le _, rfl, Lib.hid (H.out.sl_nil 3 1)⟩
  case round =>
    obtain ⟨i, hi, rfl, HO⟩ := hrel
    by_cases hlt : i < 5
    rotate_left
    · go_wp2
      go_ret
      have := HO.out
      rw [List.take_of_length_le (by rw [H5.out]; omega)] at this
      exact ⟨_, rfl, this⟩
    have d := HF.out _ HO.out.drop i hlt
    have hsn := take_snoc5 H5.out hlt
    obtain ⟨y, hy⟩ : ∃ y, y = clk.getD i 0 := ⟨_, rfl⟩
    rw [← hy] at d hsn
    have htl : (clk.take i).length ≤ 5 := by rw [List.length_take]; omega
    have fin : ∀ (v' : Value) (w' : World), Own w0 (Sl 3 1 v' ((clk.take i).length + 1) ((clk.take i).map (Value.int .i64) ++ [Value.int .i64 y]) * R) w' → Own w0 (IntSl v' (clk.take (i + 1)) * R) w' := fun v' w' h => by
      rw [hsn]
      unfold IntSl
      rw [List.map_append, List.length_append]
      exact h
    have i0 : (0 : Int) ≤ (i : Int) := by omega
    have i5 : (i : Int) < 5 := by omega
    have FIN := Lib.hid fin; have HY := Lib.hid hy; have HSN := Lib.hid hsn
    clear fin hy hsn
    go_wp2_with (at_builtin; refine wpList_app rfl _ _ 57 rfl 3 1 8 _ info_int Tryz.underlying57 rfl (by decide) rfl ((HO.out.alloc' _)) rfl (by rfl) (Rd_lit (by simp) (by unfold maxLen; omega)) (by intro u hu; simp at hu; subst hu; rfl) (by unfold maxLen; omega) (by omega) ?_; intro v' w' hown; have HN := Lib.hid hown; clear hown)
    go_wp2_with fail
    go_roundw
    case rel => exact ⟨i + 1, by omega, by go_num, Lib.hid (FIN.out _ _ HN.out)⟩
    case measure => simp [intOf]; omega
set_option maxRecDepth 100000 in
set_option maxHeartbeats 4000000 in
theorem rcSay_any {w0 w : World} {R : HProp} (p : Nat) (c : Ca) (v : Value) (word : Int) (hI : CaI c) (h : Own w0 (rcBlk p c.me c.clk v * R) w) :
    Calls Tryz.prog 41 #[.pointer (some ⟨p, 0, none⟩), .int .i64 word] w fun e w' => ∃ v', e = .returned (.tuple #[.agg #[.int .i64 (caSaid c word).who, .int .i64 (caSaid c word).word, v'], .int .i64 (caSayErr c word : Nat)]) ∧ Own w0 (IntSl v' (caSaid c word).clk * (rcBlk p (caSay c word).me (caSay c word).clk v * R)) w' := by
  obtain ⟨q, hq⟩ : ∃ q : Nat, c.me = (q : Int) := ⟨c.me.toNat, by have := hI.me; simp [isMember] at this; omega⟩
  have hq5 : q < 5 := by have := hI.me; simp [isMember] at this; omega
  have h5 := (vecErr0 hI.clk).1
  obtain ⟨y, hy⟩ : ∃ y, y = c.clk.getD q 0 := ⟨_, rfl⟩
  have hyb := vec_get hI.clk q
  rw [← hy] at hyb
  have hat : caAt c.clk c.me = y := by unfold caAt; rw [hq, Int.toNat_natCast, hy]
  obtain ⟨y0, y1⟩ := hyb
  obtain ⟨b1, hb_b1⟩ : ∃ zz_, zz_ = (w).heap.size := ⟨_, rfl⟩
  obtain ⟨w1, hw_w1⟩ : ∃ zz_, zz_ = (w).alloc (.cells #[.int .i64 0, .int .i64 0, .slice none 0 0] 59 (0, 0)) := ⟨_, rfl⟩
  have h_HO := (h).alloc (.cells #[.int .i64 0, .int .i64 0, .slice none 0 0] 59 (0, 0))
  rw [← hb_b1, ← hw_w1] at h_HO
  have HO := Lib.hid h_HO
  clear h_HO
  have HO1 : Hid (Own w0 (rcBlk p c.me c.clk v * (SdO b1 0 0 (.slice none 0 0) * R)) w1) := Lib.hid (HO.out.perm (star_left_comm _ _ _))
  have hz : Own w0 (SdO b1 0 0 (.slice none 0 0) * (rcBlk p c.me c.clk v * R)) w1 := HO.out
  obtain ⟨z0, z1, z2, zf⟩ := hz.sd
  have zf0 := zf 0 none
  have zf1 := zf 1 none
  have zf2 := zf 2 none
  have hbad := hz.sd_put 0 0 (.slice none 0 0)
  clear zf hz
  cases hw : isWord word
  · have hE : caSayErr c word = 1 := by unfold caSayErr; rw [if_pos hw]
    have hS : caSay c word = c := by unfold caSay; rw [hE]; rfl
    have hT : caSaid c word = ⟨0, 0, []⟩ := by unfold caSaid; rw [hE]; rfl
    have hx : word < 1 ∨ (¬ word < 1 ∧ 30 < word) := by simp [isWord] at hw; omega
    rw [hE, hS, hT]
    obtain ⟨p0, p1, p2, _⟩ := hbad.sd
    have HB := Lib.hid (hbad.drop.sl_nil 3 1)
    have HE := Lib.hid hE; have HS := Lib.hid hS; have HT := Lib.hid hT; have HI := Lib.hid hI; have HQ := Lib.hid hq; have HY := Lib.hid hy; have HAT := Lib.hid hat; have HW := Lib.hid hw; have H5 := Lib.hid h5
    clear hE hS hT hI hq hy hat hw h5
    clear hbad
    rcases hx with hx | ⟨hx, hxx⟩
    all_goals
      go_enter Tryz.func41, Tryz.ntmps41
      go_upto_region 1 with fail
      rw [← hb_b1, ← hw_w1]
      clear hb_b1 hw_w1
      go_wp2_with fail
      exact bodyPost_ret (v := .tuple #[.agg #[.int .i64 0, .int .i64 0, .slice none 0 0], .int .i64 1]) (by simp [results, Tryz.results41, go_sem, p0, p1, p2]) rfl ⟨_, rfl, HB.out⟩
  have hwb : 1 ≤ word ∧ word ≤ 30 := by simpa [isWord] using hw
  obtain ⟨c0, hc, _, hf⟩ := HO1.out.rcb_facts h5
  have d0 := hc q hq5
  rw [← hy] at d0
  have q0 : (0 : Int) ≤ (q : Int) := by omega
  have q5 : (q : Int) < 5 := by omega
  rw [hq] at c0
  by_cases hy1 : y = 1000000
  · have hE : caSayErr c word = 4 := by unfold caSayErr; rw [if_neg (by rw [hw]; simp), hat, if_pos hy1]
    have hS : caSay c word = c := by unfold caSay; rw [hE]; rfl
    have hT : caSaid c word = ⟨0, 0, []⟩ := by unfold caSaid; rw [hE]; rfl
    have t1 : (y == 1000000) = true := by rw [beq_iff_eq]; exact hy1
    rw [hE, hS, hT]
    obtain ⟨p0, p1, p2, _⟩ := hbad.drew.sd
    have HB := Lib.hid (hbad.drew.drop.sl_nil 3 1)
    have HE := Lib.hid hE; have HS := Lib.hid hS; have HT := Lib.hid hT; have HI := Lib.hid hI; have HQ := Lib.hid hq; have HY := Lib.hid hy; have HAT := Lib.hid hat; have HW := Lib.hid hw; have H5 := Lib.hid h5; have HY1 := Lib.hid hy1
    clear hE hS hT hI hq hy hat hw h5 hy1
    clear hbad hc hf
    go_enter Tryz.func41, Tryz.ntmps41
    go_upto_region 1 with fail
    rw [← hb_b1, ← hw_w1]
    clear hb_b1 hw_w1
    go_upto_region 3 with fail
    refine wp_region_tail 9 (by kernel_rfl) (by kernel_rfl) ?_
    simp only [List.take_succ_cons, List.take_zero, List.drop_succ_cons, List.drop_zero]
    repeat still_step
    refine wpStill_nil ?_
    go_wp2_with fail
    exact bodyPost_ret (v := .tuple #[.agg #[.int .i64 0, .int .i64 0, .slice none 0 0], .int .i64 4]) (by simp [results, Tryz.results41, go_sem, p0, p1, p2]) rfl ⟨_, rfl, HB.out⟩
  have hE : caSayErr c word = 0 := by unfold caSayErr; rw [if_neg (by rw [hw]; simp), hat, if_neg hy1]
  have hS : caSay c word = ⟨c.me, c.clk.set q (y + 1), c.waits⟩ := by unfold caSay caBump; rw [hE, hat, hq, Int.toNat_natCast]; rfl
  have hT : caSaid c word = ⟨q, word, c.clk.set q (y + 1)⟩ := by unfold caSaid caBump; rw [hE, hat, hq, Int.toNat_natCast]; rfl
  have hIs := hI.say word
  rw [hS] at hIs
  have t1 : (y == 1000000) = false := by rw [beq_eq_false_iff_ne]; exact hy1
  have s0 := HO1.out.rcb_bump h5 hq5 (y + 1)
  have f0 := hf (1 + q) none
  obtain ⟨D, hD⟩ : ∃ D, D = c.clk.set q (y + 1) := ⟨_, rfl⟩
  obtain ⟨w2, hw2⟩ : ∃ w2, w2 = w1.setCell ⟨p, 1 + q, none⟩ (.int .i64 (y + 1)) := ⟨_, rfl⟩
  rw [← hw2, ← hD] at s0
  rw [← hD] at hS hT hIs
  rw [hE, hS, hT]
  have hDv : vecErr D = 0 := hIs.clk
  have hD5 := (vecErr0 hDv).1
  have HO2 := Lib.hid s0
  clear HO hc hf s0 hbad z0 z1 z2 zf0 zf1 zf2
  have HQ := Lib.hid hq
  clear hq
  have HE := Lib.hid hE; have HS := Lib.hid hS; have HT := Lib.hid hT; have HI := Lib.hid hI; have HY := Lib.hid hy; have HAT := Lib.hid hat; have HW := Lib.hid hw; have H5 := Lib.hid h5; have HY1 := Lib.hid hy1; have HIS := Lib.hid hIs; have HD := Lib.hid hD; have HDV := Lib.hid hDv; have HD5 := Lib.hid hD5
  clear hE hS hT hI hy hat hw h5 hy1 hIs hD hDv hD5
  go_enter Tryz.func41, Tryz.ntmps41
  go_upto_region 1 with fail
  rw [← hb_b1, ← hw_w1]
  clear hb_b1 hw_w1
  go_upto_region 3 with fail
  refine wp_region_tail 9 (by kernel_rfl) (by kernel_rfl) ?_
  simp only [List.take_succ_cons, List.take_zero, List.drop_succ_cons, List.drop_zero]
  repeat still_step
  refine wpStill_nil ?_
  go_upto_region 5 with fail
  refine wp_region_tail 12 (by kernel_rfl) (by kernel_rfl) ?_
  simp only [List.take_succ_cons, List.take_zero, List.drop_succ_cons, List.drop_zero]
  repeat still_step
  refine wpStill_nil ?_
  go_upto_region 6 with fail
  rw [← hw2]
  clear d0 c0 f0 hw2 t1
  have HO3 := Lib.hid HO2.out.drew.drew.drew
  obtain ⟨c0, _, _, _⟩ := HO2.out.rcb_facts HD5.out
  rw [HQ.out] at c0
  refine wp_region_planH 7 [] [(true, 0), (true, 1), (true, 2), (true, 3), (true, 4), (true, 5), (false, 6)] [7, 8, 9] (fun wS => (wS.cell? ⟨p, 0, none⟩ = some (.int .i64 q))) (by kernel_rfl) (by kernel_rfl) (c0) ?_
  simp only [pickH, pick, List.getElem?_cons_succ, List.getElem?_cons_zero, Option.toList, Option.map_some, List.cons_append, List.nil_append]
  repeat (refine wpPure_step ?_ rfl ?_ ?_; rotate_left; (focus (intro _; first | with_reducible rfl | (go_simp; done) | (go_simp; with_reducible rfl) | rfl)); go_simp)
  refine wpPure_nil ?_
  repeat (refine wpMix_read ?_ rfl ?_ ?_; rotate_left; (focus (intro _ hS; obtain s1 := hS; first | with_reducible rfl | (go_simp; done) | (go_simp; with_reducible rfl) | rfl)); go_simp)
  refine wpMix_write (fun K hK => ?_)
  go_simp
  refine (rcList_any p D HD5.out (fun w' ho i hi => (ho.rcb_facts HD5.out).2.1 i hi) HO3.out).mono ?_
  rintro e w4 ⟨v4, rfl, ho⟩
  obtain ⟨x1, x2, x3, x4⟩ := (ho.perm (show _ = SdO b1 0 0 (.slice none 0 0) * (IntSl v4 D * (rcBlk p c.me D v * R)) by ac_rfl)).sd
  have x40 := x4 0 none
  have x41 := x4 1 none
  have x42 := x4 2 none
  obtain ⟨ad4, cap4, hv4, _⟩ := Own.rd ho
  subst hv4
  have hput := (ho.perm (show _ = SdO b1 0 0 (.slice none 0 0) * (IntSl (.slice ad4 D.length cap4) D * (rcBlk p c.me D v * R)) by ac_rfl)).sd_put (q : Int) word (.slice ad4 D.length cap4)
  obtain ⟨p0, p1, p2, _⟩ := hput.sd
  have HPUT := Lib.hid hput.drop
  obtain ⟨k0, _, _, _⟩ := (ho.perm (star_left_comm _ _ _)).rcb_facts HD5.out
  rw [HQ.out] at k0
  have k0' := (hput.third.rcb_facts HD5.out).1
  rw [HQ.out] at k0'
  clear ho hput x4 c0
  refine hK _ _ ⟨k0, ?_⟩
  clear hK K
  go_simp
  refine wpMix_nil ?_
  go_wp2_with fail
  refine NoPanic.normal ?_
  go_wp2_with fail
  exact bodyPost_ret (v := .tuple #[.agg #[.int .i64 q, .int .i64 word, .slice ad4 D.length cap4], .int .i64 0]) (by simp [results, Tryz.results41, go_sem, p0, p1, p2]) rfl ⟨_, rfl, HPUT.out⟩
end Go.Proofs.YtdfjbnfdknpahaaGreatDoor
