/- FifoPlays: any words that come, in any order: what is refused, what is heard, what waits. -/
import Derived.Test.YteelldblfmhjlaaDoorRefFifo2
import Derived.Test.YteelldblfmhjlaaDoorSet
import Derived.Deep.RegionLaw
import Derived.Deep.DeepCutAuto
import Derived.Deep.CutBlock
namespace Go.Proofs.YteelldblfmhjlaaDoor
set_option linter.unusedVariables false
set_option linter.unusedSimpArgs false
open Go.RowKit
/-- Three numbers in a block of their own. -/
def Tri (b : Nat) (l : List Int) : HProp := blk b (.cells (l.map (Value.int .i64)).toArray 55 (0, 0))
theorem Own.tri_cell {w0 w : World} {b : Nat} {l : List Int} {R : HProp} (h : Own w0 (Tri b l * R) w) (i : Nat) (hi : i < l.length) : w.cell? ⟨b, i, none⟩ = some (.int .i64 l[i]) := by
  rw [Own.cell h]; simp [hi]
theorem Own.tri_free {w0 w : World} {b : Nat} {l : List Int} {R : HProp} (h : Own w0 (Tri b l * R) w) (i : Nat) : w.frozen? ⟨b, i, none⟩ = false := Own.free h i none
theorem Own.tri_set {w0 w : World} {b : Nat} {l : List Int} {R : HProp} (i : Nat) (x : Int) (h : Own w0 (Tri b l * R) w) : Own w0 (Tri b (l.set i x) * R) (w.setCell ⟨b, i, none⟩ (.int .i64 x)) := by
  have h1 := Own.setCell (i := i) (v := .int .i64 x) h
  unfold Tri
  refine h1.perm ?_
  simp [List.map_set]
def FpN (w : World) (l : List Int) (R : HProp) (nv : Value) (wx : World) : Prop := Own w (IntSl nv l * R) wx
def FpV (w : World) (b : Nat) (R : HProp) (wx : World) : Prop := ∃ x y z : Int, Own w (Tri b [x, y, z] * R) wx
theorem fi_err0 {f : Fi} {who n word : Int} (h : fiErr f who n word = 0) : isMember who = true ∧ 1 ≤ n ∧ n ≤ 1000000 ∧ isWord word = true ∧ fiHas f who n = false := by
  unfold fiErr at h
  split at h
  · cases h
  split at h
  · cases h
  split at h
  · cases h
  split at h
  · cases h
  split at h
  · cases h
  refine ⟨?_, by omega, by omega, ?_, ?_⟩
  · rename_i h1 _ _ _ _; cases hm : isMember who <;> simp_all
  · cases hm : isWord word <;> simp_all
  · cases hm : fiHas f who n <;> simp_all
theorem drain_fit (who : Int) : ∀ (c : Nat) (nx : Int) (m : List ((Int × Int) × Int)), (∀ p ∈ m, 1 ≤ p.1.2 ∧ p.1.2 ≤ 1000000 ∧ 1 ≤ p.2 ∧ p.2 ≤ 30) → 1 ≤ nx → nx ≤ 1000001 →
    1 ≤ (fiDrain who c nx m).2.1 ∧ (fiDrain who c nx m).2.1 ≤ 1000001 ∧ (∀ p ∈ (fiDrain who c nx m).2.2, 1 ≤ p.1.2 ∧ p.1.2 ≤ 1000000 ∧ 1 ≤ p.2 ∧ p.2 ≤ 30) ∧ (fiDrain who c nx m).1.length + (fiDrain who c nx m).2.2.length = m.length ∧ (∀ x ∈ (fiDrain who c nx m).1, 1 ≤ x ∧ x ≤ 30) ∧ ((mget m (who, nx)).isSome = true → 0 < c → 0 < (fiDrain who c nx m).1.length)
  | 0, nx, m, h, h1, h2 => ⟨h1, h2, h, by simp [fiDrain], by simp [fiDrain], fun _ h => by omega⟩
  | c + 1, nx, m, h, h1, h2 => by
    unfold fiDrain
    cases hg : mget m (who, nx) with
    | none => exact ⟨h1, h2, h, by simp, by simp, fun h => by cases h⟩
    | some x =>
      have hp := h _ (mget_mem hg)
      have hl := mdel_len hg
      obtain ⟨a, b, c', d, e, _⟩ := drain_fit who c (nx + 1) (mdel m (who, nx)) (fun p hp => h p (mem_mdel hp)) (by omega) (by simp only at hp; omega)
      refine ⟨a, b, c', ?_, ?_, fun _ _ => by simp⟩
      · simp only [List.length_cons]; omega
      · intro y hy
        rcases List.mem_cons.1 hy with rfl | hy
        · exact hp.2.2
        · exact e y hy
theorem fiTake_fit {f : Fi} (h : fiFit f) (who n word : Int) : fiFit (fiTake f who n word) ∧ ∀ x ∈ fiOut f who n word, I64 x := by
  unfold fiTake fiOut
  by_cases he : fiErr f who n word = 0
  rotate_left
  · rw [if_neg he, if_neg he]; exact ⟨h, fun x hx => by cases hx⟩
  rw [if_pos he, if_pos he]
  obtain ⟨h1, h2, h3, h4, h5⟩ := fi_err0 he
  obtain ⟨a1, a2, a3, a4⟩ := h
  have hw : 0 ≤ who ∧ who < 5 := by simpa [isMember] using h1
  have hwd : 1 ≤ word ∧ word ≤ 30 := by simpa [isWord] using h4
  have hk : who.toNat < f.next.length := by omega
  have hnx : fiN f who ∈ f.next := by
    unfold fiN
    rw [List.getD_eq_getElem?_getD, List.getElem?_eq_getElem hk]
    exact List.getElem_mem hk
  have hno : mget f.waits (who, n) = none := by
    unfold fiHas at h5
    cases hm : mget f.waits (who, n) with
    | none => rfl
    | some y => rw [hm] at h5; simp at h5
  have hput : mput f.waits (who, n) word = f.waits ++ [((who, n), word)] := mput_new (mget_none.1 hno)
  have D := drain_fit who (mput f.waits (who, n) word).length (fiN f who) (mput f.waits (who, n) word) (fun p hp => by
    rw [hput] at hp
    rcases List.mem_append.1 hp with hp | hp
    · exact a4 p hp
    · simp at hp; subst hp; exact ⟨h2, h3, hwd.1, hwd.2⟩) (a2 _ hnx).1 (a2 _ hnx).2
  have hlen : (mput f.waits (who, n) word).length = f.waits.length + 1 := by rw [hput]; simp
  unfold fiEnd
  refine ⟨⟨by rw [List.length_set]; exact a1, fun x hx => ?_, ?_, D.2.2.1⟩, fun x hx => by have := D.2.2.2.2.1 x hx; unfold I64; omega⟩
  · rcases List.mem_or_eq_of_mem_set hx with hx | rfl
    · exact a2 x hx
    · exact ⟨D.1, D.2.1⟩
  · simp only
    by_cases hn : n = fiN f who
    · have hs : (mget (mput f.waits (who, n) word) (who, fiN f who)).isSome = true := by
        rw [← hn, mget_mput]; simp
      have := D.2.2.2.2.2 hs (by omega)
      omega
    · have : ¬ 40 ≤ f.waits.length := fun h => by
        unfold fiErr at he
        rw [if_neg (by rw [h1]; simp), if_neg (by omega), if_neg (by omega), if_neg (by rw [h4]; simp), if_neg (by rw [h5]; simp), if_pos ⟨hn, h⟩] at he
        cases he
      omega
theorem rfNew {w0 w : World} {q : Nat} {R : HProp} (h : Own w0 (blk q (.cells #[.int .i64 0, .int .i64 0, .int .i64 0, .int .i64 0, .int .i64 0, .slice none 0 0] 54 (0, 0)) * R) w) : Own w0 (RfP q fiNew * R) w := by
  refine Own.rf_close (v := .slice none 0 0) ?_
  unfold RfO CmSl
  rw [show fiNew.waits = [] from rfl, List.length_nil, List.flatMap_nil, Sl_nil, star_emp]
  exact h
theorem fiNew_fit : fiFit fiNew := ⟨rfl, fun x hx => by simp [fiNew] at hx; omega, by simp [fiNew], fun p hp => by simp [fiNew] at hp⟩
theorem take_snoc5 {l : List Int} {k : Nat} (h5 : l.length = 5) (hk : k < 5) : l.take (k + 1) = l.take k ++ [l.getD k 0] := by
  rw [List.take_succ_eq_append_getElem (by omega), List.getD_eq_getElem?_getD, List.getElem?_eq_getElem (by omega)]; rfl
set_option maxRecDepth 100000 in
set_option maxHeartbeats 4000000 in
theorem fifoPlays_law (w : World) (hg : As.Handle w) (vs : Value) (steps : List (List Int)) (hvs : Rows2 w vs steps) :
    Calls Tryd.prog 6 #[vs] w fun e w' => e = .returned (.bool true) ∧ Below w.heap.size w w' := by
  obtain ⟨sad, scap, rfl, hsc1, hsc2⟩ := hvs.shape
  have HVS := Lib.hid hvs; have HG := Lib.hid hg
  clear hvs hg
  go_enter Tryd.func6, Tryd.ntmps6
  go_wp2_with fail
  refine (fiNew_any (Own.start w)).mono ?_
  rintro e w' ⟨p, rfl, ho⟩
  obtain ⟨q, hq⟩ : ∃ q, q = w'.heap.size := ⟨_, rfl⟩
  have ho1 := rfNew (ho.alloc (.cells #[.int .i64 0, .int .i64 0, .int .i64 0, .int .i64 0, .int .i64 0, .slice none 0 0] 54))
  rw [← hq] at ho1
  have HO := Lib.hid (ho1.perm (star_left_comm _ _ _))
  have HF0 := Lib.hid fiNew_fit
  clear ho ho1
  go_wp2_with fail
  rw [← hq]
  clear hq
  go_loopw [5] (fun i wr => ∃ (k : Nat) (f : Fi), k ≤ steps.length ∧ k ≤ 120 ∧ i = .int .i64 k ∧ Hid (fiFit f) ∧ Hid (Own w (FiP p f * (RfP q f * emp)) wr)) (fun i _ => steps.length - (intOf i).toNat)
  case atStart => exact ⟨0, _, Nat.zero_le _, Nat.zero_le _, rfl, HF0, HO⟩
  case round =>
    clear HO HF0
    obtain ⟨k, f, hk, hk2, rfl, HF, HP⟩ := hrel
    by_cases h1 : k < steps.length
    rotate_left
    · go_wp2
      go_ret
      exact ⟨rfl, HP.out.below⟩
    by_cases h2 : k < 120
    rotate_left
    · go_wp2
      go_ret
      exact ⟨rfl, HP.out.below⟩
    obtain ⟨a2, rad, rcap, e2, hr, hc⟩ := HVS.out.at_later k h1
    obtain ⟨row, hrow⟩ : ∃ row, row = steps[k] := ⟨_, rfl⟩
    rw [← hrow] at hr hc
    subst e2
    obtain ⟨vb, hvb⟩ : ∃ b, b = wr.heap.size := ⟨_, rfl⟩
    have ht := HP.out.alloc (.cells #[.int .i64 0, .int .i64 0, .int .i64 0] 55)
    rw [← hvb] at ht
    have HT : Hid (Own w (Tri vb [0, 0, 0] * (FiP p f * (RfP q f * emp))) (wr.alloc (.cells #[.int .i64 0, .int .i64 0, .int .i64 0] 55))) := Lib.hid ht
    have HR := Lib.hid hr; have HC := Lib.hid hc; have HROW := Lib.hid hrow
    clear hr hc hrow
    clear ht
    go_upto_block 2 with fail
    rw [← hvb]
    clear hvb
    go_cut [7] (fun jv wx => FpV w vb (FiP p f * (RfP q f * emp)) wx)
    case first =>
      go_wp2_with fail
      go_loopw [7] (fun jv w2 => ∃ (j : Nat) (l : List Int), j ≤ 3 ∧ jv = .int .i64 j ∧ Hid (l.length = 3) ∧ Hid (Own w (Tri vb l * (FiP p f * (RfP q f * emp))) w2)) (fun jv _ => 3 - (intOf jv).toNat)
      case atStart => exact ⟨0, [0, 0, 0], Nat.zero_le _, rfl, Lib.hid rfl, HT⟩
      case round =>
        obtain ⟨j, l, hj, rfl, hl, hp⟩ := hrel
        have c1 := HC.out _ _ hp.out
        have fin : FpV w vb (FiP p f * (RfP q f * emp)) wr := by
          obtain ⟨x, y, z, rfl⟩ : ∃ x y z, l = [x, y, z] := by
            have h3 := hl.out
            match l, h3 with
            | [x, y, z], _ => exact ⟨x, y, z, rfl⟩
          exact ⟨x, y, z, hp.out⟩
        have FIN := Lib.hid fin
        clear fin
        by_cases h3 : j < row.length
        rotate_left
        · go_wp2_with fail
          go_meet
          exact FIN.out
        by_cases h4 : j < 3
        rotate_left
        · go_wp2_with fail
          go_meet
          exact FIN.out
        obtain ⟨b3, rfl, hcb⟩ := HR.out.at_later j h3
        have c2 := hcb _ _ hp.out
        have hjl : j < l.length := by rw [hl.out]; exact h4
        have c3 := hp.out.tri_cell j hjl
        have c4 := hp.out.tri_free j
        have HS := Lib.hid (hp.out.tri_set j row[j])
        have i0 : (0 : Int) ≤ (j : Int) := by omega
        have i3 : (j : Int) < 3 := by omega
        clear hcb
        go_wp2_with fail
        go_roundw
        case rel => exact ⟨j + 1, l.set j row[j], by omega, by go_num, Lib.hid (by rw [List.length_set]; exact hl.out), HS⟩
        case measure => simp [intOf]; omega
    case rest =>
    obtain ⟨x, y, z, hT⟩ := hcut
    have HT2 := Lib.hid hT
    have d0 : wc.cell? ⟨vb, 0, none⟩ = some (.int .i64 x) := hT.tri_cell 0 (by simp)
    have d1 : wc.cell? ⟨vb, 1, none⟩ = some (.int .i64 y) := hT.tri_cell 1 (by simp)
    have d2 : wc.cell? ⟨vb, 2, none⟩ = some (.int .i64 z) := hT.tri_cell 2 (by simp)
    clear hT HT
    go_wp2_with fail
    refine (refFi_any q f x y z HF.out (HT2.out.perm (show _ = RfP q f * (FiP p f * (Tri vb [x, y, z] * emp)) by ac_rfl))).mono ?_
    rintro e w3 ⟨v1, rfl, ho⟩
    obtain ⟨g, hgd⟩ : ∃ g, g = fiTake f x y z := ⟨_, rfl⟩
    obtain ⟨O, hOd⟩ : ∃ g, g = fiOut f x y z := ⟨_, rfl⟩
    obtain ⟨E, hEd⟩ : ∃ g, g = fiErr f x y z := ⟨_, rfl⟩
    have hgf := fiTake_fit HF.out x y z
    rw [← hgd, ← hOd] at ho hgf
    rw [← hEd]
    have ho3 := ho.perm (show _ = Tri vb [x, y, z] * (IntSl v1 O * (RfP q g * (FiP p f * emp))) by ac_rfl)
    have HO3 := Lib.hid ho
    have d0' : w3.cell? ⟨vb, 0, none⟩ = some (.int .i64 x) := ho3.tri_cell 0 (by simp)
    have d1' : w3.cell? ⟨vb, 1, none⟩ = some (.int .i64 y) := ho3.tri_cell 1 (by simp)
    have d2' : w3.cell? ⟨vb, 2, none⟩ = some (.int .i64 z) := ho3.tri_cell 2 (by simp)
    have HGF := Lib.hid hgf.1
    have HOI := Lib.hid hgf.2
    have HGD := Lib.hid hgd; have HOD := Lib.hid hOd; have HED := Lib.hid hEd
    clear hgd hOd hEd
    clear ho ho3 d0 d1 d2 hgf HT2
    go_wp2_with fail
    refine (fiTake_any p f x y z HF.out (HO3.out.perm (show _ = FiP p f * (IntSl v1 O * (RfP q g * (Tri vb [x, y, z] * emp))) by ac_rfl))).mono ?_
    rintro e w4 ⟨v2, rfl, ho⟩
    rw [← HGD.out, ← HOD.out] at ho
    rw [← HED.out]
    have HO4 := Lib.hid ho
    clear ho d0' d1' d2' HO3
    go_wp2_with fail
    refine (sameErr_any HG.out E (E : Int) HO4.out).mono ?_
    rintro e w5 ⟨rfl, ho⟩
    rw [show ((E : Int) == (E : Int)) = true from beq_self_eq_true _]
    have HO5 := Lib.hid ho
    clear ho HO4
    go_wp2_with fail
    refine (sameInts_any v2 v1 O O _ (IntSl_reads HOI.out _ HO5.out) ((IntSl_reads HOI.out).more.more _ HO5.out)).mono ?_
    rintro e w' ⟨rfl, n6, rfl⟩
    rw [show (O == O) = true from beq_iff_eq.2 rfl]
    have HO6 := Lib.hid ((HO5.out.perm (show _ = IntSl v2 O * (IntSl v1 O * (Tri vb [x, y, z] * (RfP q g * (FiP p g * emp)))) by ac_rfl)).drop.drop.drop.drewN n6)
    clear HO5
    have h5g := Lib.hid HGF.out.1
    go_upto_block 4 with fail
    go_cut [13] (fun nv wx => FpN w g.next (RfP q g * (FiP p g * emp)) nv wx)
    case first =>
      go_wp2_with fail
      go_loopw [13, 14] (fun nv jv wr => ∃ j : Nat, j ≤ 5 ∧ jv = .int .i64 j ∧ Hid (Own w (IntSl nv (g.next.take j) * (RfP q g * (FiP p g * emp))) wr)) (fun _ jv _ => 5 - (intOf jv).toNat)
      case atStart => exact ⟨0, Nat.zero_le _, rfl, Lib.hid (HO6.out.sl_nil _ _)⟩
      case round =>
        obtain ⟨j, hj, rfl, hp⟩ := hrel
        by_cases h3 : j < 5
        rotate_left
        · go_wp2_with fail
          go_meet
          have := hp.out
          rw [List.take_of_length_le (by rw [h5g.out]; omega)] at this
          exact this
        obtain ⟨vr, hov⟩ := (hp.out.perm (star_left_comm _ _ _)).rf_open
        have c1 := (hov.rf_facts h5g.out).1 j h3
        have hb := HGF.out.2.1 (g.next.getD j 0) (by have := h5g.out; simp [show j < g.next.length from by omega])
        obtain ⟨hx, hhx⟩ : ∃ hx, g.next.getD j 0 = hx + 1 := ⟨g.next.getD j 0 - 1, by omega⟩
        rw [hhx, Int.add_sub_cancel] at c1
        have hsn := take_snoc5 h5g.out h3
        rw [hhx] at hb hsn
        have htl : (g.next.take j).length ≤ 5 := by rw [List.length_take]; omega
        have hb2 : 0 ≤ hx ∧ hx ≤ 1000000 := by omega
        have fin : ∀ (v' : Value) (w' : World), Own w (Sl 3 1 v' ((g.next.take j).length + 1) ((g.next.take j).map (Value.int .i64) ++ [Value.int .i64 (hx + 1)]) * (RfP q g * (FiP p g * emp))) w' → Own w (IntSl v' (g.next.take (j + 1)) * (RfP q g * (FiP p g * emp))) w' := fun v' w' h => by
          rw [hsn]
          unfold IntSl
          rw [List.map_append, List.length_append]
          exact h
        have i0 : (0 : Int) ≤ (j : Int) := by omega
        have i3 : (j : Int) < 5 := by omega
        have FIN := Lib.hid fin; have HHX := Lib.hid hhx; have HSN := Lib.hid hsn; have HOV := Lib.hid hov
        clear fin hhx hsn hov
        clear hb
        go_wp2_with (at_builtin; refine wpList_app rfl _ _ 22 rfl 3 1 8 _ info_int Tryd.underlying22 rfl (by decide) rfl ((hp.out.alloc' _)) rfl (by rfl) (Rd_lit (by simp) (by unfold maxLen; omega)) (by intro u hu; simp at hu; subst hu; rfl) (by unfold maxLen; omega) (by omega) ?_; intro v' w' hown; have HN := Lib.hid hown; clear hown)
        go_wp2_with fail
        go_roundw
        case rel => exact ⟨j + 1, by omega, by go_num, Lib.hid (FIN.out _ _ HN.out)⟩
        case measure => simp [intOf]; omega
    case rest =>
    have h7 : Own w (IntSl u13 g.next * (RfP q g * (FiP p g * emp))) wc := hcut
    clear hcut HO6
    obtain ⟨vr, hov⟩ := (h7.perm (star_left_comm _ _ _)).rf_open
    obtain ⟨ad, cap, hvr, hcap1, hcap2⟩ := hov.rf_shape
    subst hvr
    have HO7 : Hid (Own w (FiP p g * (RfO q (.slice ad g.waits.length cap) g * (IntSl u13 g.next * emp))) wc) := Lib.hid (hov.perm (by ac_rfl))
    have HNI : Hid (∀ x ∈ g.next, I64 x) := Lib.hid (fun x hx => by have := HGF.out.2.1 x hx; unfold I64; omega)
    clear h7 hov
    go_wp2_with fail
    go_region_law (first
      | (go_simp; go_at_call 29; refine (fiNext_any p g h5g.out HO7.out.drew).mono ?_; rintro e w8 ⟨v8, rfl, ho⟩; have c5 := ((ho.perm (show _ = RfO q (.slice ad g.waits.length cap) g * (IntSl v8 g.next * (IntSl u13 g.next * (FiP p g * emp))) by ac_rfl)).rf_facts h5g.out).2.1; have HO8 := Lib.hid ho; clear ho)
      | (go_simp; go_at_call 15; refine (sameInts_any v8 u13 g.next g.next _ (IntSl_reads HNI.out _ HO8.out) ((IntSl_reads HNI.out).more.more.more _ HO8.out)).mono ?_; rintro e w' ⟨rfl, n9, rfl⟩; rw [show (g.next == g.next) = true from beq_iff_eq.2 rfl]; have HO9 := Lib.hid ((HO8.out.perm (show _ = FiP p g * (RfO q (.slice ad g.waits.length cap) g * (IntSl v8 g.next * (IntSl u13 g.next * emp))) by ac_rfl)).drewN n9))
      | (go_simp; go_at_call 27; refine (fiWaits_any p g h5g.out HO9.out).mono ?_; rintro e w' ⟨rfl, rfl⟩))
    all_goals
      go_wp2_with fail
      have hfin := ((HO9.out.perm (show _ = IntSl v8 g.next * (IntSl u13 g.next * (RfO q (.slice ad g.waits.length cap) g * (FiP p g * emp))) by ac_rfl)).drop.drop.rf_close).perm (star_left_comm _ _ _)
      have HFIN := Lib.hid hfin
      clear hfin
      go_roundw
      case rel => exact ⟨k + 1, g, by omega, by omega, by go_num, HGF, HFIN⟩
      case measure => simp [intOf]; omega
end Go.Proofs.YteelldblfmhjlaaDoor
