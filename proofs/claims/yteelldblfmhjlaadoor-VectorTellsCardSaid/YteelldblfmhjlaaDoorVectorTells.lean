/- VectorTells: what is wrong with any vector; of any two the greater numbers, whether one is below, whether they are apart; any step. -/
import Derived.Test.YteelldblfmhjlaaDoorRef1
import Derived.Test.YteelldblfmhjlaaDoorTold
import Derived.Test.YteelldblfmhjlaaDoorSet
import Derived.Deep.DeepCutAuto
import Derived.Deep.CutBlock
namespace Go.Proofs.YteelldblfmhjlaaDoor
set_option linter.unusedVariables false
set_option linter.unusedSimpArgs false
open Go.RowKit
def VT0 (X : Bool) (w1 : World) (c : Value) (wx : World) : Prop := c = .bool X ∧ wx = w1
def VT1 (w : World) (a : List Int) (who : Int) (f st : Value) (wx : World) : Prop := f = .int .i64 (stepErr a who : Nat) ∧ Own w (IntSl st (stepOf a who) * emp) wx
def VT2 (w : World) (a b : List Int) (e : Value) (wx : World) : Prop := e = .int .i64 (bothErr a b : Nat) ∧ Own w emp wx
def VT3 (w : World) (R : HProp) (a b : List Int) (j : Value) (wx : World) : Prop := Own w (IntSl j (joinOf a b) * R) wx
def VT4 (w : World) (R : HProp) (x y : Bool) (u v : Value) (wx : World) : Prop := u = .bool x ∧ v = .bool y ∧ Own w R wx
theorem zipMax_take {a b : List Int} (h : a.length = b.length) {k : Nat} (h1 : k < a.length) (h2 : k < b.length) : (zipMax a b).take (k + 1) = (zipMax a b).take k ++ [max a[k] b[k]] := by
  have h3 : k < (zipMax a b).length := by rw [zipMax_len a b h]; exact h1
  rw [List.take_succ_eq_append_getElem h3, zipMax_get a b k h1 h2 h3]
theorem vt_five {w0 w : World} {R : HProp} {a : List Int} {v : Value} (h5 : a.length = 5) (h : Own w0 (Sl 3 1 v (0 + a.length) ([] ++ a.map (Value.int .i64)) * R) w) : Own w0 (IntSl v a * R) w := by
  rw [Nat.zero_add, List.nil_append] at h; exact h
theorem Own.ints5 {w0 w : World} {v : Value} {l : List Int} {R : HProp} (h : Own w0 (IntSl v l * R) w) (h5 : l.length = 5) :
    ∃ b off cap, v = .slice (some ⟨b, off, none⟩) 5 cap ∧ 5 ≤ cap ∧ (∀ i (_ : i < 5) x, l.getD i 0 = x → w.cell? ⟨b, off + i, none⟩ = some (.int .i64 x)) ∧ (∀ i s, w.frozen? ⟨b, i, s⟩ = false) ∧
      ∀ i (_ : i < 5) x, Own w0 (IntSl v (l.set i x) * R) (w.setCell ⟨b, off + i, none⟩ (.int .i64 x)) := by
  obtain ⟨b, off, cap, h1, h2, h3, h4, h6, _, _, h7⟩ := h.ints_at (by omega)
  rw [h5] at h1 h2
  refine ⟨b, off, cap, h1, h2, fun i hi x hx => ?_, h6, fun i hi x => h7 i x (by omega)⟩
  rw [h4 i (by omega), ← hx, List.getD_eq_getElem?_getD, List.getElem?_eq_getElem (by omega)]; rfl
theorem stepOf_I64 (a : List Int) (who : Int) : ∀ x ∈ stepOf a who, I64 x := by
  unfold stepOf
  split
  · rename_i h
    have h0 : vecErr a = 0 := by
      unfold stepErr at h
      by_cases h0 : vecErr a = 0
      · exact h0
      · rw [if_pos h0] at h; exact h
    intro x hx
    rcases List.mem_or_eq_of_mem_set hx with hx | rfl
    · have := (vecErr0 h0).2 x hx; unfold I64; omega
    · have : 0 ≤ a.getD who.toNat 0 ∧ a.getD who.toNat 0 ≤ 1000000 := by
        rw [List.getD_eq_getElem?_getD]
        cases hy : a[who.toNat]? with
        | none => simp
        | some y => exact (vecErr0 h0).2 y (List.mem_of_getElem? hy)
      unfold I64; omega
  · intro x hx; cases hx
theorem joinOf_I64 (a b : List Int) : ∀ x ∈ joinOf a b, I64 x := by
  unfold joinOf
  split
  · rename_i h
    have h1 := bothErr0 h
    have hl : a.length = b.length := by have := (vecErr0 h1.1).1; have := (vecErr0 h1.2).1; omega
    intro x hx
    obtain ⟨j, hj, rfl⟩ := List.mem_iff_getElem.1 hx
    have hja : j < a.length := by rw [zipMax_len a b hl] at hj; exact hj
    rw [zipMax_get a b j hja (by omega) hj]
    have h2 := (vecErr0 h1.1).2 _ (List.getElem_mem hja)
    have h3 := (vecErr0 h1.2).2 _ (List.getElem_mem (show j < b.length by omega))
    unfold I64; omega
  · intro x hx; cases hx
set_option maxRecDepth 100000 in
set_option maxHeartbeats 4000000 in
theorem vectorTells_law (w : World) (hg : As.Handle w) (va : Value) (a : List Int) (ha : Ints w va a) (vb : Value) (b : List Int) (hb : Ints w vb b) (who : Int) (_hw : I64 who) :
    Calls Tryd.prog 3 #[va, vb, .int .i64 who] w fun e w' => e = .returned (.bool true) ∧ Below w.heap.size w w' := by
  obtain ⟨aad, acap, rfl, hac1, hac2⟩ := ha.shape
  obtain ⟨bad, bcap, rfl, hbc1, hbc2⟩ := hb.shape
  obtain ⟨E, hE⟩ : ∃ E, E = vecErr a := ⟨_, rfl⟩
  have HA := Lib.hid ha; have HB := Lib.hid hb; have HE := Lib.hid hE; have HG := Lib.hid hg
  clear ha hb hE hg
  go_enter Tryd.func3, Tryd.ntmps3
  go_wp2_with fail
  refine (refVector_any _ a w HA.out).mono ?_
  rintro e w' ⟨rfl, rfl⟩
  rw [← HE.out]
  go_wp2_with fail
  refine (vcheck_any _ a w HA.out).mono ?_
  rintro e w' ⟨rfl, rfl⟩
  rw [← HE.out]
  go_wp2_with fail
  refine (sameErr_any HG.out E (E : Int) (Own.start w)).mono ?_
  rintro e w1 ⟨rfl, ho⟩
  rw [show ((E : Int) == (E : Int)) = true from beq_self_eq_true _]
  have HO1 := Lib.hid ho
  clear ho
  obtain ⟨X, hX⟩ : ∃ X : Bool, X = (decide (E = 0) && !isMember who) := ⟨_, rfl⟩
  go_upto_region 5 with fail
  go_cut [38] (fun c wx => VT0 X w1 c wx)
  case first =>
    by_cases h0 : E = 0
    rotate_left
    · have t0 : ((E : Int) == 0) = false := by rw [beq_eq_false_iff_ne]; omega
      have hx : X = false := by rw [hX]; simp [h0]
      have H0 := Lib.hid h0; have HX := Lib.hid hX
      clear h0 hX
      go_wp2_with fail
      go_meet
      exact ⟨by rw [hx], rfl⟩
    have t0 : ((E : Int) == 0) = true := by rw [beq_iff_eq]; omega
    by_cases h1 : who < 0
    · have hx : X = true := by rw [hX]; simp [h0, isMember]; omega
      have H0 := Lib.hid h0; have HX := Lib.hid hX
      clear h0 hX
      go_wp2_with fail
      go_meet
      exact ⟨by rw [hx], rfl⟩
    by_cases h2 : 4 < who
    · have hx : X = true := by rw [hX]; simp [h0, isMember]; omega
      have H0 := Lib.hid h0; have HX := Lib.hid hX
      clear h0 hX
      go_wp2_with fail
      go_meet
      exact ⟨by rw [hx], rfl⟩
    have hx : X = false := by rw [hX]; simp [h0, isMember]; omega
    have H0 := Lib.hid h0; have HX := Lib.hid hX
    clear h0 hX
    go_wp2_with fail
    go_meet
    exact ⟨by rw [hx], rfl⟩
  case rest =>
  obtain ⟨rfl, rfl⟩ := hcut
  go_upto_if 38 with fail
  go_cut [9, 10] (fun f st wx => VT1 w a who f st wx)
  case first =>
    by_cases h0 : E = 0
    rotate_left
    · have t0 : ((E : Int) == 0) = false := by rw [beq_eq_false_iff_ne]; omega
      have hs : stepErr a who = E := by unfold stepErr; rw [if_pos (by rw [← HE.out]; exact h0)]; exact HE.out.symm
      have hs2 : stepOf a who = [] := by unfold stepOf; rw [if_neg (by rw [hs]; exact h0)]
      have hx : X = false := by rw [hX]; simp [h0]
      subst hx
      have HS := Lib.hid hs; have HS2 := Lib.hid hs2; have H0 := Lib.hid h0; have HX := Lib.hid hX
      clear hs hs2 h0 hX
      go_wp2_with fail
      go_meet
      exact ⟨by rw [HS.out], by rw [HS2.out]; exact HO1.out.sl_nil _ _⟩
    have t0 : ((E : Int) == 0) = true := by rw [beq_iff_eq]; omega
    have hv0 : vecErr a = 0 := by rw [← HE.out]; exact h0
    have hl5 : a.length = 5 := (vecErr0 hv0).1
    by_cases h1 : isMember who = false
    · have hs : stepErr a who = 1 := by unfold stepErr; rw [if_neg (by rw [hv0]; simp), if_pos h1]
      have hs2 : stepOf a who = [] := by unfold stepOf; rw [if_neg (by rw [hs]; simp)]
      have hx : X = true := by rw [hX]; simp [h0, h1]
      subst hx
      have HS := Lib.hid hs; have HS2 := Lib.hid hs2; have H0 := Lib.hid h0; have HV0 := Lib.hid hv0; have H1 := Lib.hid h1; have HL5 := Lib.hid hl5; have HX := Lib.hid hX
      clear hs hs2 h0 hv0 h1 hl5 hX
      go_wp2_with fail
      go_meet
      exact ⟨by rw [HS.out]; rfl, by rw [HS2.out]; exact HO1.out.sl_nil _ _⟩
    have hx : X = false := by rw [hX]; simp [h1]
    subst hx
    have HX := Lib.hid hX
    clear hX
    have hm : 0 ≤ who ∧ who < 5 := by simp [isMember] at h1; omega
    obtain ⟨k, rfl⟩ := Int.eq_ofNat_of_zero_le hm.1
    have hk : k < 5 := by omega
    have hka : k < a.length := by omega
    obtain ⟨aa, rfl, hca⟩ := HA.out.at_later k hka
    obtain ⟨x, hx⟩ : ∃ x, x = a[k] := ⟨_, rfl⟩
    rw [← hx] at hca
    have hxd : a.getD k 0 = x := by rw [hx, List.getD_eq_getElem?_getD, List.getElem?_eq_getElem hka]; rfl
    have hxb : 0 ≤ x ∧ x ≤ 1000000 := by rw [hx]; exact (vecErr0 hv0).2 _ (List.getElem_mem hka)
    have hc1 := hca _ _ HO1.out
    have HCA := Lib.hid hca
    clear hca
    by_cases h2 : x = 1000000
    · have t1 : (x == 1000000) = true := by rw [beq_iff_eq]; exact h2
      have hs : stepErr a k = 4 := by unfold stepErr; rw [if_neg (by rw [hv0]; simp), if_neg (by simpa using h1), if_pos (by rw [Int.toNat_natCast, hxd]; exact h2)]
      have hs2 : stepOf a k = [] := by unfold stepOf; rw [if_neg (by rw [hs]; simp)]
      have HS := Lib.hid hs; have HS2 := Lib.hid hs2; have H0 := Lib.hid h0; have HV0 := Lib.hid hv0; have H1 := Lib.hid h1; have HL5 := Lib.hid hl5; have HX := Lib.hid hx; have HXD := Lib.hid hxd; have H2 := Lib.hid h2
      clear hs hs2 h0 hv0 h1 hl5 hx hxd h2
      go_wp2_with fail
      go_meet
      exact ⟨by rw [HS.out]; rfl, by rw [HS2.out]; exact HO1.out.sl_nil _ _⟩
    have t1 : (x == 1000000) = false := by rw [beq_eq_false_iff_ne]; exact h2
    have hs : stepErr a k = 0 := by unfold stepErr; rw [if_neg (by rw [hv0]; simp), if_neg (by simpa using h1), if_neg (by rw [Int.toNat_natCast, hxd]; exact h2)]
    have hs2 : stepOf a k = a.set k (x + 1) := by unfold stepOf; rw [if_pos hs, Int.toNat_natCast, hxd]
    have hrd := (HA.out.later HO1.out).1
    have HS := Lib.hid hs; have HS2 := Lib.hid hs2; have H0 := Lib.hid h0; have HV0 := Lib.hid hv0; have H1 := Lib.hid h1; have HL5 := Lib.hid hl5; have HX := Lib.hid hx; have HXD := Lib.hid hxd; have H2 := Lib.hid h2; have HRD := Lib.hid hrd
    clear hs hs2 h0 hv0 h1 hl5 hx hxd h2 hrd
    go_wp2_with (at_builtin; refine wpList_app rfl _ _ 22 rfl 3 1 8 _ info_int Tryd.underlying22 rfl (by decide) rfl (HO1.out.sl_nil _ _) rfl (by simp [HL5.out]) HRD.out (int_one _) (by have := HL5.out; unfold maxLen; omega) (by have := HL5.out; omega) ?_; intro v' w2 hown; have ho2 := vt_five HL5.out hown; clear hown; obtain ⟨b2, off2, cap2, rfl, hcp2, hcell2, hfr2, hput⟩ := ho2.ints5 HL5.out; have hck := hcell2 k hk x HXD.out; have hfk := hfr2 (off2 + k) none; have HP2 := Lib.hid (hput k hk (x + 1)); clear hput hcell2 hfr2 ho2)
    go_meet
    exact ⟨by rw [HS.out, H0.out], by rw [HS2.out]; exact HP2.out⟩
  case rest =>
    have HC := Lib.hid hcut.2
    obtain ⟨rfl, _⟩ := hcut
    clear HO1
    go_wp2_with fail
    refine (step_any HC.out _ a who (fun w' h' => HA.out.later h')).mono ?_
    rintro e w2 ⟨v1, rfl, ho⟩
    have HD := Lib.hid ho
    clear ho
    go_wp2_with fail
    refine (sameErr_any HG.out (stepErr a who) (stepErr a who : Int) HD.out).mono ?_
    rintro e w3 ⟨rfl, ho⟩
    rw [show ((stepErr a who : Int) == (stepErr a who : Int)) = true from beq_self_eq_true _]
    have HE1 := Lib.hid ho
    clear ho HD
    go_wp2_with fail
    refine (sameInts_any v1 u10 _ _ _ (IntSl_reads (stepOf_I64 a who) _ HE1.out) ((IntSl_reads (stepOf_I64 a who)).more _ HE1.out)).mono ?_
    rintro e w' ⟨rfl, n1, rfl⟩
    rw [show (stepOf a who == stepOf a who) = true from beq_iff_eq.2 rfl]
    have HO1 := Lib.hid (HE1.out.drop.drop.drewN n1)
    clear HE1
    go_upto_if 74 with fail
    go_cut [7] (fun ev wx => VT2 w a b ev wx)
    case first =>
      by_cases h0 : E = 0
      · have t0 : ((E : Int) == 0) = true := by rw [beq_iff_eq]; omega
        have hBB : bothErr a b = vecErr b := by unfold bothErr; rw [if_pos (by rw [← HE.out]; exact h0)]
        have H0 := Lib.hid h0; have HBB := Lib.hid hBB
        clear h0 hBB
        go_wp2_with fail
        refine (refVector_any _ b _ (HB.out.later HO1.out)).mono ?_
        rintro e w' ⟨rfl, rfl⟩
        go_wp2_with fail
        go_meet
        exact ⟨by rw [HBB.out], HO1.out⟩
      · have t0 : ((E : Int) == 0) = false := by rw [beq_eq_false_iff_ne]; omega
        have hBB : bothErr a b = E := by unfold bothErr; rw [if_neg (by rw [← HE.out]; exact h0)]; exact HE.out.symm
        have H0 := Lib.hid h0; have HBB := Lib.hid hBB
        clear h0 hBB
        go_wp2_with fail
        go_meet
        exact ⟨by rw [HBB.out], HO1.out⟩
    case rest =>
    have HO2 := Lib.hid hcut.2
    obtain ⟨rfl, _⟩ := hcut
    clear HO1
    obtain ⟨B, hBe⟩ : ∃ B, B = bothErr a b := ⟨_, rfl⟩
    rw [← hBe]
    have HBE := Lib.hid hBe
    clear hBe
    go_upto_block 0 with fail
    go_cut [14] (fun jv wx => VT3 w emp a b jv wx)
    case first =>
      by_cases h0 : B = 0
      rotate_left
      · have t0 : ((B : Int) == 0) = false := by rw [beq_eq_false_iff_ne]; omega
        have hj : joinOf a b = [] := by unfold joinOf; rw [if_neg (by rw [← HBE.out]; exact h0)]
        have H0 := Lib.hid h0; have HJ := Lib.hid hj
        clear h0 hj
        go_wp2_with fail
        refine wp_loop_rounds 1 ?_
        rw [rounds_succ]
        go_wp2_with fail
        all_goals
          go_meet
          unfold VT3
          rw [HJ.out]
          exact HO2.out.sl_nil _ _
      have t0 : ((B : Int) == 0) = true := by rw [beq_iff_eq]; omega
      have h00 : bothErr a b = 0 := by rw [← HBE.out]; exact h0
      have hla : a.length = 5 := (vecErr0 (bothErr0 h00).1).1
      have hlb : b.length = 5 := (vecErr0 (bothErr0 h00).2).1
      have hj : joinOf a b = zipMax a b := by unfold joinOf; rw [if_pos h00]
      have hzl : (zipMax a b).length = 5 := by rw [zipMax_len a b (by omega)]; exact hla
      have hla1 : 5 ≤ a.length := by omega
      have hla2 : a.length ≤ 5 := by omega
      have hlb1 : 5 ≤ b.length := by omega
      have H0 := Lib.hid h0; have H00 := Lib.hid h00; have HLA := Lib.hid hla; have HLB := Lib.hid hlb; have HJ := Lib.hid hj; have HZL := Lib.hid hzl
      clear h0 h00 hla hlb hj hzl
      go_wp2_with fail
      go_loopw [14, 17] (fun jv i wr => ∃ k : Nat, k ≤ 5 ∧ i = .int .i64 k ∧ Hid (Own w (IntSl jv ((zipMax a b).take k) * emp) wr)) (fun _ i _ => 5 - (intOf i).toNat)
      case atStart => exact ⟨0, Nat.zero_le _, rfl, Lib.hid (HO2.out.sl_nil _ _)⟩
      case round =>
        obtain ⟨k, hk, rfl, hp⟩ := hrel
        by_cases hlt : k < 5
        rotate_left
        · have hk5 : ¬ (k < a.length) := by omega
          go_wp2_with fail
          go_meet
          unfold VT3
          have := hp.out
          rw [List.take_of_length_le (by rw [HZL.out]; omega)] at this
          rw [HJ.out]
          exact this
        have hka : k < a.length := by omega
        have hkb : k < b.length := by omega
        obtain ⟨aa, rfl, hca⟩ := HA.out.at_later k hka
        obtain ⟨ab, rfl, hcb⟩ := HB.out.at_later k hkb
        obtain ⟨x, hx⟩ : ∃ x, x = a[k] := ⟨_, rfl⟩
        obtain ⟨y, hy⟩ : ∃ x, x = b[k] := ⟨_, rfl⟩
        rw [← hx] at hca
        rw [← hy] at hcb
        have hz := zipMax_take (a := a) (b := b) (by rw [HLA.out, HLB.out]) hka hkb
        rw [← hx, ← hy] at hz
        have htl : ((zipMax a b).take k).length = k := by rw [List.length_take, HZL.out]; omega
        have htk : ((zipMax a b).take k).length ≤ 5 := by omega
        have c1 := hca _ _ hp.out
        have c2 := hcb _ _ hp.out
        have fin : ∀ (z : Int) (v' : Value) (w' : World), z = max x y → Own w (Sl 3 1 v' (((zipMax a b).take k).length + 1) (((zipMax a b).take k).map (Value.int .i64) ++ [Value.int .i64 z]) * emp) w' → Own w (IntSl v' ((zipMax a b).take (k + 1)) * emp) w' := fun z v' w' hz' h => by
          rw [hz, ← hz']
          unfold IntSl
          rw [List.map_append, List.length_append]
          exact h
        have HCA := Lib.hid hca; have HCB := Lib.hid hcb; have HX := Lib.hid hx; have HY := Lib.hid hy; have HZ := Lib.hid hz; have HTL := Lib.hid htl; have FIN := Lib.hid fin
        clear hca hcb hx hy hz htl fin
        by_cases hle : y < x
        · have hd : decide (y < x) = true := by simp; omega
          go_wp2_with fail
          go_quiet (fail)
          go_wp2_with (at_builtin; refine wpList_app rfl _ _ 22 rfl 3 1 8 _ info_int Tryd.underlying22 rfl (by decide) rfl (((hp.out.drewN _).alloc' _)) rfl (by rfl) (Rd_lit (by simp) (by unfold maxLen; omega)) (by intro u hu; simp at hu; subst hu; rfl) (by unfold maxLen; omega) (by omega) ?_; intro v' w' hown; have HN := Lib.hid hown; clear hown)
          go_wp2_with fail
          go_roundw
          case rel => exact ⟨k + 1, by omega, by go_num, Lib.hid (FIN.out x _ _ (by omega) HN.out)⟩
          case measure => simp [intOf]; omega
        · have hd : decide (y < x) = false := by simp; omega
          go_wp2_with fail
          go_quiet (fail)
          go_wp2_with (at_builtin; refine wpList_app rfl _ _ 22 rfl 3 1 8 _ info_int Tryd.underlying22 rfl (by decide) rfl (((hp.out.drewN _).alloc' _)) rfl (by rfl) (Rd_lit (by simp) (by unfold maxLen; omega)) (by intro u hu; simp at hu; subst hu; rfl) (by unfold maxLen; omega) (by omega) ?_; intro v' w' hown; have HN := Lib.hid hown; clear hown)
          go_wp2_with fail
          go_roundw
          case rel => exact ⟨k + 1, by omega, by go_num, Lib.hid (FIN.out y _ _ (by omega) HN.out)⟩
          case measure => simp [intOf]; omega
    case rest =>
    have HO3 : Hid (Own w (IntSl u14 (joinOf a b) * emp) wc) := Lib.hid hcut
    clear hcut HO2
    obtain ⟨X, hX⟩ : ∃ X : Bool, X = (bothErr a b == 0 && leq a b) := ⟨_, rfl⟩
    obtain ⟨Y, hY⟩ : ∃ X : Bool, X = (bothErr a b == 0 && (!leq a b && !leq b a)) := ⟨_, rfl⟩
    go_upto_if 111 with fail
    go_cut [15, 16] (fun u v wx => VT4 w (IntSl u14 (joinOf a b) * emp) X Y u v wx)
    case first =>
      by_cases h0 : B = 0
      rotate_left
      · have t0 : ((B : Int) == 0) = false := by rw [beq_eq_false_iff_ne]; omega
        have hx : X = false := by rw [hX, ← HBE.out]; simp [h0]
        have hy : Y = false := by rw [hY, ← HBE.out]; simp [h0]
        have H0 := Lib.hid h0; have HX := Lib.hid hX; have HY := Lib.hid hY
        clear h0 hX hY
        go_wp2_with fail
        go_meet
        exact ⟨by rw [hx], by rw [hy], HO3.out⟩
      have t0 : ((B : Int) == 0) = true := by rw [beq_iff_eq]; omega
      have h00 : bothErr a b = 0 := by rw [← HBE.out]; exact h0
      have hla : a.length = 5 := (vecErr0 (bothErr0 h00).1).1
      have hlb : b.length = 5 := (vecErr0 (bothErr0 h00).2).1
      cases h1 : leq a b
      rotate_left
      · have hx : X = true := by rw [hX]; simp [h00, h1]
        have hy : Y = false := by rw [hY]; simp [h1]
        have H0 := Lib.hid h0; have H00 := Lib.hid h00; have HLA := Lib.hid hla; have HLB := Lib.hid hlb; have H1 := Lib.hid h1; have HX := Lib.hid hX; have HY := Lib.hid hY
        clear h0 h00 hla hlb h1 hX hY
        go_wp2_with fail
        refine (refLeq_any _ _ a b _ (HA.out.later HO3.out) (HB.out.later HO3.out) HLA.out HLB.out).mono ?_
        rintro e w' ⟨rfl, n2, rfl⟩
        rw [H1.out]
        go_wp2_with fail
        go_meet
        exact ⟨by rw [hx], by rw [hy], HO3.out.drewN _⟩
      have hx : X = false := by rw [hX]; simp [h1]
      have hy : Y = (!leq b a) := by rw [hY]; simp [h00, h1]
      have H0 := Lib.hid h0; have H00 := Lib.hid h00; have HLA := Lib.hid hla; have HLB := Lib.hid hlb; have H1 := Lib.hid h1; have HX := Lib.hid hX; have HY := Lib.hid hY; have HX := Lib.hid hx; have HY := Lib.hid hy
      clear h0 h00 hla hlb h1 hX hY hx hy
      go_wp2_with fail
      refine (refLeq_any _ _ a b _ (HA.out.later HO3.out) (HB.out.later HO3.out) HLA.out HLB.out).mono ?_
      rintro e w' ⟨rfl, n2, rfl⟩
      rw [H1.out]
      go_wp2_with fail
      refine (refLeq_any _ _ b a _ (HB.out.later (HO3.out.drewN n2)) (HA.out.later (HO3.out.drewN n2)) HLB.out HLA.out).mono ?_
      rintro e w' ⟨rfl, n3, rfl⟩
      go_wp2_with fail
      go_meet
      exact ⟨by rw [HX.out], by rw [HY.out], HO3.out.drewN _⟩
    case rest =>
    have HO4 : Hid (Own w (IntSl u14 (joinOf a b) * emp) wc) := Lib.hid hcut.2.2
    obtain ⟨rfl, rfl, _⟩ := hcut
    have HX := Lib.hid hX; have HY := Lib.hid hY
    clear hX hY
    clear HO3
    go_wp2_with fail
    refine (join_any HO4.out _ _ a b (HA.out.later HO4.out) (fun w' h' => HB.out.later h')).mono ?_
    rintro e w5 ⟨v2, rfl, ho⟩
    rw [← HBE.out]
    have HO5 := Lib.hid ho
    clear ho HO4
    go_wp2_with fail
    refine (sameErr_any HG.out B (B : Int) HO5.out).mono ?_
    rintro e w6 ⟨rfl, ho⟩
    rw [show ((B : Int) == (B : Int)) = true from beq_self_eq_true _]
    have HO6 := Lib.hid ho
    clear ho HO5
    go_wp2_with fail
    refine (sameInts_any v2 u14 _ _ _ (IntSl_reads (joinOf_I64 a b) _ HO6.out) ((IntSl_reads (joinOf_I64 a b)).more _ HO6.out)).mono ?_
    rintro e w' ⟨rfl, n4, rfl⟩
    rw [show (joinOf a b == joinOf a b) = true from beq_iff_eq.2 rfl]
    have HO7 := Lib.hid (HO6.out.drop.drop.drewN n4)
    clear HO6
    go_wp2_with fail
    refine (leq_any _ _ a b _ (HA.out.later HO7.out) (HB.out.later HO7.out)).mono ?_
    rintro e w' ⟨rfl, rfl⟩
    rw [← HX.out, ← HBE.out]
    go_wp2_with fail
    refine (sameErr_any HG.out B (B : Int) HO7.out).mono ?_
    rintro e w8 ⟨rfl, ho⟩
    rw [show ((B : Int) == (B : Int)) = true from beq_self_eq_true _]
    have HO8 := Lib.hid ho
    clear ho HO7
    go_wp2_with fail
    refine (apart_any _ _ a b _ (HA.out.later HO8.out) (HB.out.later HO8.out)).mono ?_
    rintro e w' ⟨rfl, rfl⟩
    rw [← HY.out, ← HBE.out]
    go_wp2_with fail
    refine (sameErr_any HG.out B (B : Int) HO8.out).mono ?_
    rintro e w9 ⟨rfl, ho⟩
    rw [show ((B : Int) == (B : Int)) = true from beq_self_eq_true _]
    have HO9 := Lib.hid ho
    clear ho HO8
    go_wp2_with fail
    go_ret
    exact ⟨by simp, HO9.out.below⟩
end Go.Proofs.YteelldblfmhjlaaDoor
