/- VectorJoins: what is joined is the least above both; a step is above, and not below. -/
import Derived.Test.YtclapdicocbnoaaStablePlain
namespace Go.Proofs.Ytclapdicocbnoaa
set_option linter.unusedVariables false
set_option linter.unusedSimpArgs false
open Go.RowKit
theorem bothErr_of {a b : List Int} (ha : vecErr a = 0) (hb : vecErr b = 0) : bothErr a b = 0 := by simp [bothErr, ha, hb]
theorem zipMax_comm (a b : List Int) (h : a.length = b.length) : zipMax a b = zipMax b a := by
  refine List.ext_getElem (by rw [zipMax_len a b h, zipMax_len b a h.symm, h]) fun k h1 h2 => ?_
  have hl := zipMax_len a b h
  rw [zipMax_get a b k (by omega) (by omega), zipMax_get b a k (by omega) (by omega), Int.max_def, Int.max_def]
  split <;> split <;> omega
theorem leq_join_left (a b : List Int) (h : a.length = b.length) : leq a (zipMax a b) = true := by
  have hl := zipMax_len a b h
  refine (leq_iff a _ hl.symm).2 fun k h1 h2 => ?_
  rw [zipMax_get a b k h1 (by omega)]; exact Int.le_max_left _ _
theorem leq_join_right (a b : List Int) (h : a.length = b.length) : leq b (zipMax a b) = true := by
  rw [zipMax_comm a b h]; exact leq_join_left b a h.symm
theorem leq_join_iff (a b c : List Int) (h : a.length = b.length) (h' : a.length = c.length) : (leq a c && leq b c) = leq (zipMax a b) c := by
  have hl := zipMax_len a b h
  rw [Bool.eq_iff_iff, Bool.and_eq_true, leq_iff a c h', leq_iff b c (by omega), leq_iff _ c (by omega)]
  constructor
  · rintro ⟨h1, h2⟩ k hk hk'
    rw [zipMax_get a b k (by omega) (by omega), Int.max_def]
    split
    · exact h2 k (by omega) hk'
    · exact h1 k (by omega) hk'
  · intro h1
    constructor
    · intro k hk hk'
      have := h1 k (by omega) hk'
      rw [zipMax_get a b k hk (by omega)] at this
      exact Int.le_trans (Int.le_max_left _ _) this
    · intro k hk hk'
      have := h1 k (by omega) hk'
      rw [zipMax_get a b k (by omega) hk] at this
      exact Int.le_trans (Int.le_max_right _ _) this
theorem stepErr0 {v : List Int} {who : Int} (h : stepErr v who = 0) : vecErr v = 0 ∧ ∃ k : Nat, ∃ hk : k < v.length, who = k ∧ v[k] ≠ 1000000 ∧ stepOf v who = v.set k (v[k] + 1) := by
  have h' := h
  unfold stepErr at h
  split at h
  · rename_i h1; exact absurd h h1
  · rename_i h1
    have hv : vecErr v = 0 := by omega
    split at h
    · cases h
    · rename_i h2
      split at h
      · cases h
      · rename_i h3
        have hw : 0 ≤ who ∧ who < 5 := by simpa [isMember] using h2
        obtain ⟨k, rfl⟩ := Int.eq_ofNat_of_zero_le hw.1
        have h5 := (vecErr0 hv).1
        have hk : k < v.length := by omega
        have e : v.getD k 0 = v[k] := by simp [hk]
        refine ⟨hv, k, hk, rfl, by rw [Int.toNat_natCast, e] at h3; exact h3, ?_⟩
        unfold stepOf
        rw [if_pos h', Int.toNat_natCast, e]
theorem vecErr_step {v : List Int} {who : Int} (h : stepErr v who = 0) : vecErr (stepOf v who) = 0 := by
  obtain ⟨hv, k, hk, rfl, hne, he⟩ := stepErr0 h
  rw [he]
  have h5 := (vecErr0 hv).1
  refine vecErr_get (by simp [h5]) fun j hj => ?_
  have h1 := vecErr_at hv k hk
  by_cases hjk : k = j
  · subst hjk; rw [List.getElem_set_self]; omega
  · rw [List.getElem_set_ne hjk]; exact vecErr_at hv j (by simpa using hj)
theorem step_up {v : List Int} {who : Int} (h : stepErr v who = 0) : leq v (stepOf v who) = true ∧ leq (stepOf v who) v = false := by
  obtain ⟨hv, k, hk, rfl, hne, he⟩ := stepErr0 h
  rw [he]
  constructor
  · refine (leq_iff _ _ (by simp)).2 fun j h1 h2 => ?_
    by_cases hjk : k = j
    · subst hjk; rw [List.getElem_set_self]; omega
    · rw [List.getElem_set_ne hjk]; exact Int.le_refl _
  · cases hx : leq (v.set k (v[k] + 1)) v with
    | false => rfl
    | true =>
      have := (leq_iff _ _ (by simp)).1 hx k (by simpa using hk) hk
      rw [List.getElem_set_self] at this; omega
theorem Own.alloc_at {w0 w : World} {R : HProp} {b : Nat} (h : Own w0 R w) (hb : b = w.heap.size) (o : Obj) : Own w0 (blk b o * R) (w.alloc o) := hb ▸ h.alloc o
theorem Reads_lit {w0 : World} {R : HProp} {b n : Nat} {t : TypeId} {cs : Array Value} {l : List Int} (hcs : cs.toList = l.map (Value.int .i64)) (hn : n = l.length) (hI : ∀ x ∈ l, I64 x) (hm : l.length ≤ 100000) :
    Reads w0 (blk b (.cells cs t (0, 0)) * R) (.slice (some ⟨b, 0, none⟩) n n) l := fun w ho => by
  subst hn
  refine ⟨Rd_one (fun i u hi => ?_) (Nat.le_refl _) (by unfold maxLen; omega), hI⟩
  rw [ho.cell, ← Array.getElem?_toList, hcs]; exact hi
set_option maxRecDepth 100000 in
set_option maxHeartbeats 8000000 in
theorem vectorJoins_law (w : World) (va : Value) (a : List Int) (ha : Ints w va a) (vb : Value) (b : List Int) (hb : Ints w vb b) (vc : Value) (c : List Int) (hc : Ints w vc c) (who : Int) (_hw : I64 who) :
    Calls Try.prog 12 #[va, vb, vc, .int .i64 who] w fun e w' => e = .returned (.bool true) ∧ Below w.heap.size w w' := by
  have G1 := Lib.hid (show joinOf [1, 2, 0, 0, 0] [3, 0, 0, 0, 1] = [3, 2, 0, 0, 1] from by decide)
  have G2 := Lib.hid (show errV (bothErr [1, 2, 0, 0, 0] [3, 0, 0, 0, 1]) = .nilIface from by rw [show bothErr [1, 2, 0, 0, 0] [3, 0, 0, 0, 1] = 0 from by decide]; rfl)
  have HA := Lib.hid ha; have HB := Lib.hid hb; have HC := Lib.hid hc
  clear ha hb hc
  go_enter Try.func12, Try.ntmps12
  go_wp2_with fail
  refine (join_any (((Own.start w).alloc' _).alloc_at (b := w.heap.size + 1) (by simp) _) _ _ [1, 2, 0, 0, 0] [3, 0, 0, 0, 1] ((Ints_lit rfl rfl rfl (by simp [I64]) (by simp)).alloc _) (Reads_lit rfl rfl (by simp [I64]) (by simp))).mono ?_
  rintro e w1 ⟨v0, rfl, ho⟩
  rw [G2.out]
  rw [G1.out] at ho
  obtain ⟨ob, off, ocap, rfl, ho1, ho2, hoc, _⟩ := ho.ints_at (by simp)
  have c0 := hoc 0 (by simp)
  have c1 := hoc 1 (by simp)
  have c4 := hoc 4 (by simp)
  simp only [List.length_cons, List.length_nil, Nat.add_zero] at c0 c1 c4
  have H1 := Lib.hid ho.drop.drop
  clear ho hoc
  go_wp2_with fail
  clear c0 c1 c4
  by_cases h0 : bothErr a b = 0
  · have hva := (bothErr0 h0).1
    have hvb := (bothErr0 h0).2
    have hl : a.length = b.length := by have h1 := (vecErr0 hva).1; have h2 := (vecErr0 hvb).1; omega
    have hvj := vecErr_zipMax hva hvb
    have E0 := Lib.hid (show errV (bothErr a b) = .nilIface from by rw [h0]; rfl)
    have E1 := Lib.hid (show errV (bothErr b a) = .nilIface from by rw [bothErr_swap h0]; rfl)
    have J0 := Lib.hid (show joinOf a b = zipMax a b from by unfold joinOf; rw [if_pos h0])
    have J1 := Lib.hid (show joinOf b a = zipMax a b from by unfold joinOf; rw [if_pos (bothErr_swap h0), zipMax_comm b a hl.symm])
    have VA := Lib.hid hva; have VB := Lib.hid hvb; have VJ := Lib.hid hvj; have HL := Lib.hid hl
    clear h0 hva hvb hl hvj
    refine (join_any H1.out va vb a b (HA.out.later H1.out) HB.out.reads).mono ?_
    rintro e w2 ⟨vj, rfl, ho⟩
    rw [E0.out]
    rw [J0.out] at ho
    have H2 := Lib.hid ho
    clear ho
    go_wp2_with fail
    refine (join_any H2.out vb va b a (HB.out.later H2.out) HA.out.reads).mono ?_
    rintro e w3 ⟨vk, rfl, ho⟩
    rw [E1.out]
    rw [J1.out] at ho
    have H3 := Lib.hid ho
    have RJ := Lib.hid (IntSl_reads (w0 := w) (R := emp) (v := vj) (vecErr_I64 VJ.out))
    clear ho
    go_wp2_with fail
    refine (leq_any va vj a (zipMax a b) _ (HA.out.later H3.out) (RJ.out _ H3.out.drop)).mono ?_
    rintro e w' ⟨rfl, rfl⟩
    rw [bothErr_of VA.out VJ.out, leq_join_left _ _ HL.out, errV0]
    go_wp2_with fail
    refine (leq_any vb vj b (zipMax a b) _ (HB.out.later H3.out) (RJ.out _ H3.out.drop)).mono ?_
    rintro e w' ⟨rfl, rfl⟩
    rw [bothErr_of VB.out VJ.out, leq_join_right _ _ HL.out, errV0]
    go_wp2_with fail
    refine (sameInts_any vj vk (zipMax a b) (zipMax a b) _ (RJ.out _ H3.out.drop) (IntSl_reads (vecErr_I64 VJ.out) _ H3.out)).mono ?_
    rintro e w' ⟨rfl, n3, rfl⟩
    rw [show (zipMax a b == zipMax a b) = true from beq_iff_eq.2 rfl]
    go_wp2_with fail
    have H4 := Lib.hid (H3.out.drewN n3)
    clear H3
    by_cases hs : stepErr a who = 0
    · have S0 := Lib.hid (show errV (stepErr a who) = .nilIface from by rw [hs]; rfl)
      have VS := Lib.hid (vecErr_step hs)
      have SU := Lib.hid (step_up hs)
      clear hs
      refine (step_any H4.out va a who HA.out.reads).mono ?_
      rintro e w4 ⟨vs, rfl, ho⟩
      rw [S0.out]
      have H5 := Lib.hid ho
      have RS := Lib.hid (IntSl_reads (w0 := w) (R := IntSl vk (zipMax a b) * (IntSl vj (zipMax a b) * emp)) (v := vs) (vecErr_I64 VS.out) _ ho)
      clear ho H4
      go_wp2_with fail
      refine (leq_any va vs a (stepOf a who) _ (HA.out.later H5.out) RS.out).mono ?_
      rintro e w' ⟨rfl, rfl⟩
      rw [bothErr_of VA.out VS.out, SU.out.1, errV0]
      go_wp2_with fail
      refine (leq_any vs va (stepOf a who) a _ RS.out (HA.out.later H5.out)).mono ?_
      rintro e w' ⟨rfl, rfl⟩
      rw [bothErr_of VS.out VA.out, SU.out.2, errV0]
      go_wp2_with fail
      by_cases hc0 : vecErr c = 0
      · have VC := Lib.hid hc0
        have HR := Lib.hid (leq_join_iff a b c HL.out (by have h1 := (vecErr0 VA.out).1; have h2 := (vecErr0 hc0).1; omega))
        clear hc0
        cases hp : leq a c <;> cases hq : leq b c
        all_goals
          have HP := Lib.hid hp; have HQ := Lib.hid hq
          clear hp hq
          refine (leq_any va vc a c _ (HA.out.later H5.out) (HC.out.later H5.out)).mono ?_
          rintro e w' ⟨rfl, rfl⟩
          rw [bothErr_of VA.out VC.out, HP.out, errV0]
          go_wp2_with fail
          refine (leq_any vb vc b c _ (HB.out.later H5.out) (HC.out.later H5.out)).mono ?_
          rintro e w' ⟨rfl, rfl⟩
          rw [bothErr_of VB.out VC.out, HQ.out, errV0]
          go_wp2_with fail
          refine (leq_any vj vc (zipMax a b) c _ (RJ.out _ H5.out.drop.drop) (HC.out.later H5.out)).mono ?_
          rintro e w' ⟨rfl, rfl⟩
          rw [bothErr_of VJ.out VC.out, ← HR.out, HP.out, HQ.out, errV0]
          go_wp2
          go_ret
          exact ⟨rfl, H5.out.below⟩
      · have hce : ∀ l : List Int, vecErr l = 0 → bothErr l c = vecErr c := fun l hl => by simp [bothErr, hl]
        obtain ⟨m, hm⟩ := errV_some hc0
        have HZ := Lib.hid (show (vecErr c == 0) = false from by rw [beq_eq_false_iff_ne]; exact hc0)
        have HCE := Lib.hid hce; have HM := Lib.hid hm
        clear hc0 hce hm
        refine (leq_any va vc a c _ (HA.out.later H5.out) (HC.out.later H5.out)).mono ?_
        rintro e w' ⟨rfl, rfl⟩
        rw [HCE.out a VA.out, HZ.out, HM.out]
        go_wp2_with fail
        refine (leq_any vb vc b c _ (HB.out.later H5.out) (HC.out.later H5.out)).mono ?_
        rintro e w' ⟨rfl, rfl⟩
        rw [HCE.out b VB.out, HZ.out, HM.out]
        go_wp2_with fail
        refine (leq_any vj vc (zipMax a b) c _ (RJ.out _ H5.out.drop.drop) (HC.out.later H5.out)).mono ?_
        rintro e w' ⟨rfl, rfl⟩
        rw [HCE.out _ VJ.out, HZ.out, HM.out]
        go_wp2
        go_ret
        exact ⟨rfl, H5.out.below⟩
    · obtain ⟨m', hm'⟩ := errV_some hs
      have HS := Lib.hid hm'
      clear hs hm'
      refine (step_any H4.out va a who HA.out.reads).mono ?_
      rintro e w4 ⟨vs, rfl, ho⟩
      rw [HS.out]
      have H5 := Lib.hid ho
      clear ho H4
      go_wp2_with fail
      by_cases hc0 : vecErr c = 0
      · have VC := Lib.hid hc0
        have HR := Lib.hid (leq_join_iff a b c HL.out (by have h1 := (vecErr0 VA.out).1; have h2 := (vecErr0 hc0).1; omega))
        clear hc0
        cases hp : leq a c <;> cases hq : leq b c
        all_goals
          have HP := Lib.hid hp; have HQ := Lib.hid hq
          clear hp hq
          refine (leq_any va vc a c _ (HA.out.later H5.out) (HC.out.later H5.out)).mono ?_
          rintro e w' ⟨rfl, rfl⟩
          rw [bothErr_of VA.out VC.out, HP.out, errV0]
          go_wp2_with fail
          refine (leq_any vb vc b c _ (HB.out.later H5.out) (HC.out.later H5.out)).mono ?_
          rintro e w' ⟨rfl, rfl⟩
          rw [bothErr_of VB.out VC.out, HQ.out, errV0]
          go_wp2_with fail
          refine (leq_any vj vc (zipMax a b) c _ (RJ.out _ H5.out.drop.drop) (HC.out.later H5.out)).mono ?_
          rintro e w' ⟨rfl, rfl⟩
          rw [bothErr_of VJ.out VC.out, ← HR.out, HP.out, HQ.out, errV0]
          go_wp2
          go_ret
          exact ⟨rfl, H5.out.below⟩
      · have hce : ∀ l : List Int, vecErr l = 0 → bothErr l c = vecErr c := fun l hl => by simp [bothErr, hl]
        obtain ⟨m, hm⟩ := errV_some hc0
        have HZ := Lib.hid (show (vecErr c == 0) = false from by rw [beq_eq_false_iff_ne]; exact hc0)
        have HCE := Lib.hid hce; have HM := Lib.hid hm
        clear hc0 hce hm
        refine (leq_any va vc a c _ (HA.out.later H5.out) (HC.out.later H5.out)).mono ?_
        rintro e w' ⟨rfl, rfl⟩
        rw [HCE.out a VA.out, HZ.out, HM.out]
        go_wp2_with fail
        refine (leq_any vb vc b c _ (HB.out.later H5.out) (HC.out.later H5.out)).mono ?_
        rintro e w' ⟨rfl, rfl⟩
        rw [HCE.out b VB.out, HZ.out, HM.out]
        go_wp2_with fail
        refine (leq_any vj vc (zipMax a b) c _ (RJ.out _ H5.out.drop.drop) (HC.out.later H5.out)).mono ?_
        rintro e w' ⟨rfl, rfl⟩
        rw [HCE.out _ VJ.out, HZ.out, HM.out]
        go_wp2
        go_ret
        exact ⟨rfl, H5.out.below⟩
  · obtain ⟨m, he⟩ := errV_some h0
    have HE := Lib.hid he
    clear he h0
    refine (join_any H1.out va vb a b (HA.out.later H1.out) HB.out.reads).mono ?_
    rintro e w2 ⟨vj, rfl, ho⟩
    rw [HE.out]
    have H2 := Lib.hid ho
    clear ho
    go_wp2
    go_ret
    exact ⟨rfl, H2.out.below⟩
end Go.Proofs.Ytclapdicocbnoaa
