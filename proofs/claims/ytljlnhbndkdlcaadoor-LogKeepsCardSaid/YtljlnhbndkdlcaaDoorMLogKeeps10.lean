/- As XHeld, where two writes come up at once: both orders are walked. -/
import Derived.Test.YtljlnhbndkdlcaaDoorMLogKeeps3
import Derived.Test.YtljlnhbndkdlcaaDoorMLogKeeps9
namespace Go.Proofs.YtljlnhbndkdlcaaDoor
set_option linter.unusedVariables false
set_option linter.unusedSimpArgs false
open Go.RowKit
section
variable {P : Program} {ops : Array Oper} {md : Region.Mode} {S : World → Prop} {Q : Exit → Act → World → Prop}
def headF (md : Region.Mode) (ops : Array Oper) (r : List Nat) (n k1 k2 : Nat) (q1 q2 : List (Bool × Nat)) : List (Bool × Nat) → Array Bool → Bool
  | [], listed => decide (Region.ready md ops listed = [k1, k2]) && decide (k1 < n) && decide (k2 < n) && decide (q2.length = q1.length) && headH md ops r n q1 (listed.setIfInBounds k1 true) && headH md ops r n q2 (listed.setIfInBounds k2 true)
  | (true, k) :: l, listed => decide (k < n) && (Region.ready md ops listed).contains k && Region.free md ops listed k && headF md ops r n k1 k2 q1 q2 l (listed.setIfInBounds k true)
  | (false, k) :: l, listed => decide (k < n) && decide (Region.ready md ops listed = [k]) && headF md ops r n k1 k2 q1 q2 l (listed.setIfInBounds k true)
theorem wpAnyHL_mono {L L' : Array Bool → Act → World → Prop} (hL : ∀ listed a w, L listed a w → L' listed a w) : ∀ (f : Nat) (listed : Array Bool) (a : Act) (w : World), wpAnyHL P md ops Q S L f listed a w → wpAnyHL P md ops Q S L' f listed a w
  | 0, _, _, _, h => hL _ _ _ h
  | f + 1, _, _, _, h => ⟨h.1, fun i hi => wpOp_mono (fun a' w' h' => ⟨h'.1, wpAnyHL_mono hL f _ a' w' h'.2⟩) (h.2 i hi)⟩
theorem wpAnyHL_planF {n k1 k2 : Nat} {m r : List Nat} {q1 q2 : List (Bool × Nat)} {Lq : Act → World → Prop} {L0 : List Oper} (hops : ops = L0.toArray) (hsel : Region.noSelect ops = true) (hQ : ∀ d v c a w, Q (.panic c) (Act.put a d v) w → Q (.panic c) a w) (hs : sinkX md ops n m = true) (hl : linkX md ops n m = true) :
    ∀ (l : List (Bool × Nat)) (listed : Array Bool) (a : Act) (w : World), HInv md ops n m listed → (∀ i ∈ m, listed.getD i false = true) → S w →
    headF md ops r n k1 k2 q1 q2 l listed = true → wpMix P ops S Q (fun a w => wpMix P ops S Q Lq (pickH L0 ((false, k1) :: q1)) a w ∧ wpMix P ops S Q Lq (pickH L0 ((false, k2) :: q2)) a w) (pickH L0 l) a w →
    wpAnyHL P md ops Q S (fun listed' a' w' => ((∀ i < n, listed'.getD i true = true) ∧ ordB md ops r listed' = true) ∧ Lq a' w') (l.length + (q1.length + 1)) listed a w
  | [], listed, a, w, inv, hm, hS, hB, h => by
    simp only [headF, Bool.and_eq_true, decide_eq_true_eq] at hB
    obtain ⟨⟨⟨⟨⟨hr, h1n⟩, h2n⟩, hlen⟩, hB1⟩, hB2⟩ := hB
    rw [List.length_nil, Nat.zero_add]
    have go : ∀ (k : Nat) (q : List (Bool × Nat)), k < n → q.length = q1.length → k ∈ Region.ready md ops listed → headH md ops r n q (listed.setIfInBounds k true) = true → wpMix P ops S Q Lq (pickH L0 ((false, k) :: q)) a w →
        wpOp P ops Q k (fun a' w' => S w' ∧ wpAnyHL P md ops Q S (fun listed' a' w' => ((∀ i < n, listed'.getD i true = true) ∧ ordB md ops r listed' = true) ∧ Lq a' w') q1.length (listed.setIfInBounds k true) a' w') a w := by
      intro k q hkn hq hk hBk hk2
      obtain ⟨_, o, h0, _⟩ := mem_ready.1 hk
      have h0' : L0[k]? = some o := by rw [hops] at h0; simpa using h0
      simp only [pickH, h0', Option.map_some, Option.toList, List.cons_append, List.nil_append] at hk2
      have inv' := inv.set hk (.inl hkn)
      refine wpOp_mono (K := fun a' w' => S w' ∧ wpMix P ops S Q Lq (pickH L0 q) a' w') (fun a' w' h' => ⟨h'.1, by
        have := wpAnyHL_plan hops hsel hQ hs hl q _ _ _ inv' (fun i hi => getD_set_true (hm i hi)) h'.1 hBk h'.2
        rw [hq] at this
        exact this⟩) ?_
      unfold wpOp
      simp only [h0]
      exact hk2
    refine ⟨by rw [hr]; simp, fun j hj => ?_⟩
    have hj' := hj
    rw [hr] at hj'
    rcases List.mem_cons.1 hj' with rfl | hj'
    · exact go j q1 h1n rfl hj hB1 h.1
    · obtain rfl : j = k2 := by simpa using hj'
      exact go j q2 h2n hlen hj hB2 h.2
  | (true, k) :: l, listed, a, w, inv, hm, hS, hB, h => by
    simp only [headF, Bool.and_eq_true, decide_eq_true_eq] at hB
    obtain ⟨⟨⟨hkn, hr⟩, hf⟩, hB'⟩ := hB
    have hr' : k ∈ Region.ready md ops listed := by simpa using hr
    obtain ⟨_, o, h0, _⟩ := mem_ready.1 hr'
    have h0' : L0[k]? = some o := by rw [hops] at h0; simpa using h0
    simp only [pickH, h0', Option.map_some, Option.toList, List.cons_append, List.nil_append] at h
    obtain ⟨v, hy, hK⟩ := h
    rw [List.length_cons, show l.length + 1 + (q1.length + 1) = (l.length + (q1.length + 1)) + 1 by omega]
    refine head_takeH h0 hsel hQ hs hl hkn (fun listed' a' w' hL => ordB_ready hL.1.2 hL.1.1) (l.length + (q1.length + 1)) listed a w inv hm (Region.free_spec h0 hf) hr' hy hS ?_
    exact wpAnyHL_planF hops hsel hQ hs hl l _ _ _ (inv.set hr' (.inl hkn)) (fun i hi => getD_set_true (hm i hi)) hS hB' hK
  | (false, k) :: l, listed, a, w, inv, hm, hS, hB, h => by
    simp only [headF, Bool.and_eq_true, decide_eq_true_eq] at hB
    obtain ⟨⟨hkn, hr⟩, hB'⟩ := hB
    have hr' : k ∈ Region.ready md ops listed := by rw [hr]; simp
    obtain ⟨_, o, h0, _⟩ := mem_ready.1 hr'
    have h0' : L0[k]? = some o := by rw [hops] at h0; simpa using h0
    simp only [pickH, h0', Option.map_some, Option.toList, List.cons_append, List.nil_append] at h
    rw [List.length_cons, show l.length + 1 + (q1.length + 1) = (l.length + (q1.length + 1)) + 1 by omega]
    refine ⟨List.ne_nil_of_mem hr', fun j hj => ?_⟩
    rw [hr] at hj
    have hjk : j = k := by simpa using hj
    subst hjk
    have inv' := inv.set hr' (.inl hkn)
    refine wpOp_mono (K := fun a' w' => S w' ∧ wpMix P ops S Q _ (pickH L0 l) a' w') (fun a' w' h' => ⟨h'.1, wpAnyHL_planF hops hsel hQ hs hl l _ _ _ inv' (fun i hi => getD_set_true (hm i hi)) h'.1 hB' h'.2⟩) ?_
    unfold wpOp
    simp only [h0]
    exact h
def planF (ops : Array Oper) (n : Nat) (p : List (Bool × Nat)) (k1 k2 : Nat) (q1 q2 : List (Bool × Nat)) (r : List Nat) : Bool :=
  Region.noSelect ops && sinkX .any ops n [] && linkX .any ops n [] && headF .any ops r n k1 k2 q1 q2 p (Array.replicate ops.size false) && decide ((p.length + (q1.length + 1)) + r.length = ops.size)
theorem wp_region_planF {id : Nat} {Q : Exit → Act → World → Prop} {a : Act} {w : World} {l : List Oper} (n : Nat) (p : List (Bool × Nat)) (k1 k2 : Nat) (q1 q2 : List (Bool × Nat)) (r : List Nat) (S : World → Prop) (hm : P.follows .mixedOrders = true) (hB : planF l.toArray n p k1 k2 q1 q2 r = true) (hS : S w.drew)
    (h : wpMix P l.toArray S (NoPanic Q) (fun a w => wpMix P l.toArray S (NoPanic Q) (fun a' w' => wpList P l.toArray (NoPanic Q) (pick l r) a' w') (pickH l ((false, k1) :: q1)) a w ∧ wpMix P l.toArray S (NoPanic Q) (fun a' w' => wpList P l.toArray (NoPanic Q) (pick l r) a' w') (pickH l ((false, k2) :: q2)) a w) (pickH l p) a w.drew) : (Code.region id l.toArray true).wp P Q a w := by
  refine wp_region_noPanic ?_
  simp only [planF, Bool.and_eq_true, decide_eq_true_eq] at hB
  obtain ⟨⟨⟨⟨hsel, hs⟩, hl⟩, hh⟩, hlen⟩ := hB
  have inv0 : HInv .any l.toArray n [] (Array.replicate l.toArray.size false) :=
    ⟨by simp, fun j oj _ hl => (by rw [getD_replicate_false] at hl; cases hl), fun t _ ht _ => getD_in (by simpa using ht) (getD_replicate_false _ _)⟩
  refine wp_region_any hm ?_
  have hQ : ∀ d v c a w, NoPanic Q (.panic c) (Act.put a d v) w → NoPanic Q (.panic c) a w := fun _ _ _ _ _ h => h.elim
  have H1 := wpAnyHL_planF (P := P) (md := .any) (r := r) (Lq := fun a' w' => wpList P l.toArray (NoPanic Q) (pick l r) a' w') rfl hsel hQ hs hl p _ a _ inv0 (fun i hi => by cases hi) hS hh h
  have H := wpAny_of_HL (g := r.length) (fun listed a' w' hL => wpAny_of_ord hsel hQ r listed a' w' hL.1.2 hL.2) _ _ _ _ H1
  rw [hlen] at H
  exact H
end
end Go.Proofs.YtljlnhbndkdlcaaDoor
/- Package log: Do, continued. -/
namespace Go.Proofs.YtljlnhbndkdlcaaDoor
set_option linter.unusedVariables false
set_option linter.unusedSimpArgs false
open Go.RowKit
/-- The next history. -/
noncomputable def lgNext_code : Code := ((Tryd.f8.body.bind (findRegion 3)).getD .skip)
set_option maxRecDepth 1000000 in
set_option maxHeartbeats 4000000 in
theorem lgNext {Q : Exit → Act → World → Prop} {u1 u2 u4 u5 u6 u7 u8 u9 u10 u11 u12 u13 u14 u15 u16 u17 u18 u19 u20 u21 u22 u23 u24 u25 u26 u27 u28 u29 u30 u31 u32 u33 u34 u35 u36 u37 u38 u39 u40 u41 u42 u43 u44 u45 u46 u47 u48 u49 u50 u51 u52 u53 u54 u55 u56 u57 u58 u59 u60 u61 u62 u63 u64 u65 u66 : Value} {w1 : World} (w0 : World) (R : HProp) (p b1 : Nat) (hv : Value) (s : Lg) (e : Ev) (HI : Hid (LgI s)) (HO : Hid (Own w0 (EvO b1 e * (LgO p hv s * R)) w1))
    (hK : ∀ (v5 v13 v14 v15 v16 v17 v18 v19 v20 : Value) (wx : World), (Own w0 (EvSl v5 (s.h ++ [e]) * (EvO b1 e * (LgO p hv s * R))) wx) → Q .normal ⟨List.toArray ((.pointer (some ⟨p, 0, none⟩)) :: u1 :: u2 :: (.pointer (some ⟨b1, 0, none⟩)) :: u4 :: v5 :: u6 :: u7 :: u8 :: u9 :: u10 :: u11 :: u12 :: v13 :: v14 :: v15 :: v16 :: v17 :: v18 :: v19 :: v20 :: u21 :: u22 :: u23 :: u24 :: u25 :: u26 :: u27 :: u28 :: u29 :: u30 :: u31 :: u32 :: u33 :: u34 :: u35 :: u36 :: u37 :: u38 :: u39 :: u40 :: u41 :: u42 :: u43 :: u44 :: u45 :: u46 :: u47 :: u48 :: u49 :: u50 :: u51 :: u52 :: u53 :: u54 :: u55 :: u56 :: u57 :: u58 :: u59 :: u60 :: u61 :: u62 :: u63 :: u64 :: u65 :: u66 :: []), []⟩ wx) :
    Code.wp Tryd.prog lgNext_code Q ⟨List.toArray ((.pointer (some ⟨p, 0, none⟩)) :: u1 :: u2 :: (.pointer (some ⟨b1, 0, none⟩)) :: u4 :: u5 :: u6 :: u7 :: u8 :: u9 :: u10 :: u11 :: u12 :: u13 :: u14 :: u15 :: u16 :: u17 :: u18 :: u19 :: u20 :: u21 :: u22 :: u23 :: u24 :: u25 :: u26 :: u27 :: u28 :: u29 :: u30 :: u31 :: u32 :: u33 :: u34 :: u35 :: u36 :: u37 :: u38 :: u39 :: u40 :: u41 :: u42 :: u43 :: u44 :: u45 :: u46 :: u47 :: u48 :: u49 :: u50 :: u51 :: u52 :: u53 :: u54 :: u55 :: u56 :: u57 :: u58 :: u59 :: u60 :: u61 :: u62 :: u63 :: u64 :: u65 :: u66 :: []), []⟩ w1 := by
  conv => arg 2; whnf
  have HK := Lib.hid hK
  clear hK
  obtain ⟨x0, x1, x2⟩ := HO.out.drew.ev
  obtain ⟨c0, _⟩ := HO.out.drew.drop.lg_facts
  have hlen := HI.out.hr.1
  obtain ⟨y1, y2, y3⟩ := e
  simp only at x0 x1 x2
  have HEV := Lib.hid (HO.out.drew.drop.lg_evs HI.out.hr)
  obtain ⟨H, hH⟩ : ∃ x, x = s.h := ⟨_, rfl⟩
  rw [← hH] at hlen HEV
  have HHH := Lib.hid hH
  clear hH
  refine wp_region_planF 8 [(true, 0), (true, 1), (true, 2), (true, 3), (true, 5)] 4 6 [(false, 6), (false, 7)] [(false, 4), (false, 7)] [8] (fun wS => wS.cell? ⟨p, 0, none⟩ = some hv ∧ wS.cell? ⟨b1, 0, none⟩ = some (.int .i64 y1) ∧ wS.cell? ⟨b1, 1, none⟩ = some (.int .i64 y2) ∧ wS.cell? ⟨b1, 2, none⟩ = some (.int .i64 y3)) (by kernel_rfl) (by kernel_rfl) ⟨c0, x0, x1, x2⟩ ?_
  simp only [pickH, pick, List.getElem?_cons_succ, List.getElem?_cons_zero, Option.toList, Option.map_some, List.cons_append, List.nil_append]
  repeat (refine wpMix_read ?_ rfl ?_ ?_; rotate_left; (focus (intro _ hS; obtain ⟨s1, s2, s3, s4⟩ := hS; first | with_reducible rfl | (go_simp; done) | (go_simp; with_reducible rfl) | rfl)); go_simp)
  refine wpMix_nil ⟨?_, ?_⟩
  · refine wpMix_write (fun K hK => ?_)
    go_simp
    refine (cloneEv_any hv H HEV.out (by omega) HO.out.drew).mono ?_
    rintro e w2 ⟨v2, rfl, ho⟩
    obtain ⟨ad2, cp2, hv2, _⟩ := Own.rd ho
    subst hv2
    clear c0 x0 x1 x2
    obtain ⟨x0, x1, x2⟩ := ho.drop.ev
    obtain ⟨c0, _⟩ := ho.drop.drop.lg_facts
    simp only at x0 x1 x2
    have HO2 := Lib.hid ho
    clear ho
    refine hK _ _ ⟨⟨c0, x0, x1, x2⟩, ?_⟩
    clear hK K
    go_simp
    refine wpMix_write (fun K hK => ?_)
    go_simp
    obtain ⟨b3, hb_b3⟩ : ∃ zz_, zz_ = (w2).heap.size := ⟨_, rfl⟩
    obtain ⟨w3, hw_w3⟩ : ∃ zz_, zz_ = (w2).alloc (.cells #[.int .i64 y1, .int .i64 y2, .int .i64 y3] 28 (0, 0)) := ⟨_, rfl⟩
    have h_HB := (HO2.out).alloc (.cells #[.int .i64 y1, .int .i64 y2, .int .i64 y3] 28 (0, 0))
    rw [← hb_b3, ← hw_w3] at h_HB
    have HB := Lib.hid h_HB
    clear h_HB
    rw [← hb_b3, ← hw_w3]
    clear hb_b3 hw_w3
    have HB2 : Hid (Own w0 (Sl 28 3 (.slice ad2 H.length cp2) H.length (H.flatMap evCells) * (EvO b3 (y1, y2, y3) * (EvO b1 (y1, y2, y3) * (LgO p hv s * R)))) w3) := Lib.hid (HB.out.perm (by unfold EvSl EvO; ac_rfl))
    clear HB HO2 c0 x0 x1 x2
    obtain ⟨x0, x1, x2⟩ := HB2.out.drop.drop.ev
    obtain ⟨c0, _⟩ := HB2.out.drop.drop.drop.lg_facts
    simp only at x0 x1 x2
    refine hK _ _ ⟨⟨c0, x0, x1, x2⟩, ?_⟩
    clear hK K
    go_simp
    refine wpMix_write (fun K hK => ?_)
    have hsrc : Rd w3 (.slice (some ⟨b3, 0, none⟩) 1 1) 1 [.int .i64 y1, .int .i64 y2, .int .i64 y3] := Rd_one (fun i u hi => by
      rw [(HB2.out.perm (show _ = EvO b3 (y1, y2, y3) * (Sl 28 3 (.slice ad2 H.length cp2) H.length (H.flatMap evCells) * (EvO b1 (y1, y2, y3) * (LgO p hv s * R))) by ac_rfl)).cell]
      match i, hi with
      | 0, hi => exact hi
      | 1, hi => exact hi
      | 2, hi => exact hi) (Nat.le_refl _) (by unfold maxLen; omega)
    refine step_app rfl _ _ 33 rfl 28 3 24 _ info_ev Tryd.underlying33 rfl (by decide) (by rfl) HB2.out (by rfl) (by rfl) hsrc (by intro u hu; simp at hu; rcases hu with rfl | rfl | rfl <;> rfl) (by unfold maxLen; omega) (by omega) ?_
    intro v5 w5 ho5
    clear c0 x0 x1 x2 hsrc
    have ho6 : Own w0 (EvSl v5 (H ++ [(y1, y2, y3)]) * (EvO b1 (y1, y2, y3) * (LgO p hv s * R))) w5 := Own.evs_snoc (l2 := [(y1, y2, y3)]) (ho5.perm (show _ = EvO b3 (y1, y2, y3) * (Sl 28 3 v5 (H.length + 1) (H.flatMap evCells ++ [(y1, y2, y3)].flatMap evCells) * (EvO b1 (y1, y2, y3) * (LgO p hv s * R))) by
      show Sl _ _ _ _ (_ ++ evCells (y1, y2, y3)) * _ = _
      simp only [List.flatMap_cons, List.flatMap_nil, List.append_nil]
      ac_rfl)).drop
    obtain ⟨x0, x1, x2⟩ := ho6.drop.ev
    obtain ⟨c0, _⟩ := ho6.drop.drop.lg_facts
    simp only at x0 x1 x2
    have HF := Lib.hid ho6
    clear ho5 ho6 HB2
    refine hK _ _ ⟨⟨c0, x0, x1, x2⟩, ?_⟩
    clear hK K
    go_simp
    refine wpMix_nil ?_
    go_wp2_with fail
    refine NoPanic.normal ?_
    apply HK.out
    rw [← HHH.out]
    exact HF.out
  · refine wpMix_write (fun K hK => ?_)
    go_simp
    obtain ⟨b3, hb_b3⟩ : ∃ zz_, zz_ = (w1).heap.size := ⟨_, rfl⟩
    obtain ⟨w3, hw_w3⟩ : ∃ zz_, zz_ = (w1).alloc (.cells #[.int .i64 y1, .int .i64 y2, .int .i64 y3] 28 (0, 0)) := ⟨_, rfl⟩
    have h_HB := (HO.out).alloc (.cells #[.int .i64 y1, .int .i64 y2, .int .i64 y3] 28 (0, 0))
    rw [← hb_b3, ← hw_w3] at h_HB
    have HB := Lib.hid h_HB
    clear h_HB
    rw [← hb_b3, ← hw_w3]
    clear hb_b3 hw_w3
    have HB2 : Hid (Own w0 (EvO b3 (y1, y2, y3) * (EvO b1 (y1, y2, y3) * (LgO p hv s * R))) w3.drew) := Lib.hid HB.out.drew
    clear HB c0 x0 x1 x2
    obtain ⟨x0, x1, x2⟩ := HB2.out.drop.ev
    obtain ⟨c0, _⟩ := HB2.out.drop.drop.lg_facts
    have HEV2 := Lib.hid (HB2.out.drop.drop.lg_evs HI.out.hr)
    rw [← HHH.out] at HEV2
    simp only at x0 x1 x2
    refine hK _ _ ⟨⟨c0, x0, x1, x2⟩, ?_⟩
    clear hK K
    go_simp
    refine wpMix_write (fun K hK => ?_)
    go_simp
    refine (cloneEv_any hv H HEV2.out (by omega) HB2.out).mono ?_
    rintro e w2 ⟨v2, rfl, ho⟩
    obtain ⟨ad2, cp2, hv2, _⟩ := Own.rd ho
    subst hv2
    clear c0 x0 x1 x2
    obtain ⟨x0, x1, x2⟩ := ho.drop.drop.ev
    obtain ⟨c0, _⟩ := ho.drop.drop.drop.lg_facts
    simp only at x0 x1 x2
    have HB3 : Hid (Own w0 (Sl 28 3 (.slice ad2 H.length cp2) H.length (H.flatMap evCells) * (EvO b3 (y1, y2, y3) * (EvO b1 (y1, y2, y3) * (LgO p hv s * R)))) w2) := Lib.hid ho
    clear ho HB2 HEV2
    refine hK _ _ ⟨⟨c0, x0, x1, x2⟩, ?_⟩
    clear hK K
    go_simp
    refine wpMix_write (fun K hK => ?_)
    have hsrc : Rd w2 (.slice (some ⟨b3, 0, none⟩) 1 1) 1 [.int .i64 y1, .int .i64 y2, .int .i64 y3] := Rd_one (fun i u hi => by
      rw [(HB3.out.perm (show _ = EvO b3 (y1, y2, y3) * (Sl 28 3 (.slice ad2 H.length cp2) H.length (H.flatMap evCells) * (EvO b1 (y1, y2, y3) * (LgO p hv s * R))) by ac_rfl)).cell]
      match i, hi with
      | 0, hi => exact hi
      | 1, hi => exact hi
      | 2, hi => exact hi) (Nat.le_refl _) (by unfold maxLen; omega)
    refine step_app rfl _ _ 33 rfl 28 3 24 _ info_ev Tryd.underlying33 rfl (by decide) (by rfl) HB3.out (by rfl) (by rfl) hsrc (by intro u hu; simp at hu; rcases hu with rfl | rfl | rfl <;> rfl) (by unfold maxLen; omega) (by omega) ?_
    intro v5 w5 ho5
    clear c0 x0 x1 x2 hsrc
    have ho6 : Own w0 (EvSl v5 (H ++ [(y1, y2, y3)]) * (EvO b1 (y1, y2, y3) * (LgO p hv s * R))) w5 := Own.evs_snoc (l2 := [(y1, y2, y3)]) (ho5.perm (show _ = EvO b3 (y1, y2, y3) * (Sl 28 3 v5 (H.length + 1) (H.flatMap evCells ++ [(y1, y2, y3)].flatMap evCells) * (EvO b1 (y1, y2, y3) * (LgO p hv s * R))) by
      show Sl _ _ _ _ (_ ++ evCells (y1, y2, y3)) * _ = _
      simp only [List.flatMap_cons, List.flatMap_nil, List.append_nil]
      ac_rfl)).drop
    obtain ⟨x0, x1, x2⟩ := ho6.drop.ev
    obtain ⟨c0, _⟩ := ho6.drop.drop.lg_facts
    simp only at x0 x1 x2
    have HF := Lib.hid ho6
    clear ho5 ho6 HB3
    refine hK _ _ ⟨⟨c0, x0, x1, x2⟩, ?_⟩
    clear hK K
    go_simp
    refine wpMix_nil ?_
    go_wp2_with fail
    refine NoPanic.normal ?_
    apply HK.out
    rw [← HHH.out]
    exact HF.out
end Go.Proofs.YtljlnhbndkdlcaaDoor
/- Package log: Do, the whole. -/
namespace Go.Proofs.YtljlnhbndkdlcaaDoor
set_option linter.unusedVariables false
set_option linter.unusedSimpArgs false
open Go.RowKit
theorem Own.lg_next {w0 w : World} {p : Nat} {hv v : Value} {s : Lg} {h' : List Ev} {R : HProp} (h : Own w0 (LgO p hv s * (EvSl v h' * R)) w) : Own w0 (LgP p { s with h := h' } * R) (w.setCell ⟨p, 0, none⟩ v) := by
  have h1 := (h.perm (show _ = EvSl hv s.h * (blk p (.cells #[hv, .string (strL s.bs), .int .i64 (s.safe : Nat), .int .i64 s.left, .bool s.st] 60 (0, 0)) * (EvSl v h' * R)) by unfold LgO; ac_rfl)).drop
  have h2 := h1.setCell (i := 0) (v := v)
  refine Own.lg_close (hv := v) (h2.perm ?_)
  unfold LgO
  rw [show (#[hv, .string (strL s.bs), .int .i64 (s.safe : Nat), .int .i64 s.left, .bool s.st] : Array Value).setIfInBounds 0 v = #[v, .string (strL s.bs), .int .i64 (s.safe : Nat), .int .i64 s.left, .bool s.st] by simp [Array.setIfInBounds]]
  ac_rfl
theorem sl_shp {w0 w : World} {ty : TypeId} {size : Nat} {v : Value} {n : Nat} {xs : List Value} {R : HProp} (h : Own w0 (Sl ty size v n xs * R) w) : ∃ ad L cp, v = .slice ad L cp := by
  obtain ⟨ad, cp, e, _⟩ := Own.rd h
  exact ⟨ad, n, cp, e⟩
theorem half_is {e : Ev} (h : okEv e) : ∃ k, (encE e).length = k ∧ 6 ≤ k ∧ k ≤ 9 := ⟨_, rfl, (encE_len h).1, (encE_len h).2⟩
set_option maxRecDepth 100000 in
set_option maxHeartbeats 4000000 in
theorem lgDo_any {w0 w : World} {R : HProp} (p : Nat) (s : Lg) (ev : Ev) (hI : LgI s) (hg : goodEv ev) (h : Own w0 (LgP p s * R) w) :
    Calls Tryd.prog 8 #[.pointer (some ⟨p, 0, none⟩), evV ev] w fun e w' => e = .returned (errV (lgErr s ev)) ∧ Own w0 (LgP p (lgDo s ev) * R) w' := by
  obtain ⟨hv, ho⟩ := h.lg_open
  obtain ⟨_, _, _, _, c4, _⟩ := ho.lg_facts
  obtain ⟨y1, y2, y3⟩ := ev
  unfold evV
  obtain ⟨b1, hb_b1⟩ : ∃ zz_, zz_ = (w).heap.size := ⟨_, rfl⟩
  obtain ⟨w1, hw_w1⟩ : ∃ zz_, zz_ = (w).alloc (.cells #[.int .i64 y1, .int .i64 y2, .int .i64 y3] 28 (0, 0)) := ⟨_, rfl⟩
  have h_H1 := (ho).alloc (.cells #[.int .i64 y1, .int .i64 y2, .int .i64 y3] 28 (0, 0))
  rw [← hb_b1, ← hw_w1] at h_H1
  have H1 := Lib.hid h_H1
  clear h_H1
  have HO1 : Hid (Own w0 (EvO b1 (y1, y2, y3) * (LgO p hv s * R)) w1) := H1
  obtain ⟨_, _, _, _, d4, _⟩ := H1.out.drop.lg_facts
  clear c4 ho H1
  cases hst : s.st
  rotate_left
  · have h1 : lgDo s (y1, y2, y3) = s := by unfold lgDo; rw [if_pos hst]
    have h2 : lgErr s (y1, y2, y3) = 6 := by unfold lgErr; rw [if_pos hst]
    rw [hst] at d4
    rw [h1, h2]
    have H := Lib.hid h; have HI := Lib.hid hI; have HST := Lib.hid hst; have H1 := Lib.hid h1; have H2 := Lib.hid h2; have HG := Lib.hid hg
    clear h hI hst h1 h2 hg
    go_enter Tryd.func8, Tryd.ntmps8
    go_upto_region 1 with fail
    rw [← hb_b1, ← hw_w1]
    clear hb_b1 hw_w1
    go_wp2
    go_ret
    exact ⟨rfl, Own.lg_close HO1.out.drop⟩
  rw [hst] at d4
  obtain ⟨E, hE⟩ : ∃ E, E = (histR (s.h ++ [(y1, y2, y3)])).2 := ⟨_, rfl⟩
  have hds : lgDo s (y1, y2, y3) = if E ≠ 0 then s else if s.left = 0 then { s with st := true, left := -1, bs := s.bs ++ halfE (y1, y2, y3) } else { s with st := false, left := dec1 s.left, bs := s.bs ++ encE (y1, y2, y3), h := s.h ++ [(y1, y2, y3)] } := by
    unfold lgDo; rw [if_neg (by rw [hst]; simp), ← hE]
  have hes : lgErr s (y1, y2, y3) = if E ≠ 0 then E else if s.left = 0 then 6 else 0 := by
    unfold lgErr; rw [if_neg (by rw [hst]; simp), ← hE]
  have hgd : ∀ x ∈ s.h ++ [(y1, y2, y3)], goodEv x := fun x hx => by
    rcases List.mem_append.1 hx with hx | hx
    · exact okEv_good (hI.hr.ok x hx)
    · rw [List.mem_singleton.1 hx]; exact hg
  have H := Lib.hid h; have HST := Lib.hid hst; have HG := Lib.hid hg; have HGD := Lib.hid hgd
  clear h hst hg hgd
  have HI := Lib.hid hI
  by_cases h0 : E = 0
  rotate_left
  · rw [if_pos h0] at hds hes
    rw [hds, hes]
    have hee := errV_ne h0
    have HDS := Lib.hid hds; have HES := Lib.hid hes; have HE := Lib.hid hE; have H0 := Lib.hid h0; have HEE := Lib.hid hee
    clear hds hes hE h0 hee
    clear hI
    go_enter Tryd.func8, Tryd.ntmps8
    go_upto_region 1 with fail
    rw [← hb_b1, ← hw_w1]
    clear hb_b1 hw_w1
    go_upto_region 3 with fail
    refine lgNext w0 R p b1 hv s (y1, y2, y3) HI HO1 ?_
    intros
    rename_i wq hpp
    have HP := Lib.hid hpp
    clear hpp d4
    go_wp2_with fail
    refine (hRight_any _ (s.h ++ [(y1, y2, y3)]) HP.out (EvSl_reads HGD.out)).mono ?_
    rintro e w2 ⟨rfl, ho⟩
    rw [← HE.out, HEE.out]
    have HO2 := Lib.hid ho
    clear ho HP
    go_wp2
    go_ret
    exact ⟨by rw [HEE.out]; rfl, Own.lg_close HO2.out.drop.drop⟩
  rw [if_neg (by simpa using h0)] at hds hes
  have hrn : RightH (s.h ++ [(y1, y2, y3)]) := (histR_ok _).1 (by rw [← hE]; exact h0)
  have hok : okEv (y1, y2, y3) := hrn.ok _ (by simp)
  obtain ⟨⟨k1, k2⟩, ⟨k3, k4⟩, k5, k6⟩ := id hok
  simp only at k1 k2 k3 k4 k5 k6
  obtain ⟨a, rfl⟩ : ∃ a : Nat, y1 = (a : Int) := ⟨y1.toNat, by omega⟩
  obtain ⟨b, rfl⟩ : ∃ a : Nat, y2 = (a : Int) := ⟨y2.toNat, by omega⟩
  obtain ⟨c, rfl⟩ : ∃ a : Nat, y3 = (a : Int) := ⟨y3.toNat, by omega⟩
  have hlL := hI.left
  have hbl := hI.len
  have hln := encE_len hok
  obtain ⟨LE, hLE⟩ : ∃ x, x = encE ((a : Int), (b : Int), (c : Int)) := ⟨_, rfl⟩
  have hhf : halfE ((a : Int), (b : Int), (c : Int)) = LE.take (LE.length / 2) := by rw [hLE]; rfl
  rw [← hLE] at hln
  rw [hhf, ← hLE] at hds
  have hLs := strL_size LE
  obtain ⟨D, hD⟩ : ∃ D, decide (s.left = 0) = D := ⟨_, rfl⟩
  clear hI
  have HE := Lib.hid hE; have H0 := Lib.hid h0; have HRN := Lib.hid hrn; have HOK := Lib.hid hok; have HHF := Lib.hid hhf; have HLL := Lib.hid hlL
  clear hE h0 hrn hok hhf hlL
  go_enter Tryd.func8, Tryd.ntmps8
  go_upto_region 1 with fail
  rw [← hb_b1, ← hw_w1]
  clear hb_b1 hw_w1
  go_upto_region 3 with fail
  refine lgNext w0 R p b1 hv s _ HI HO1 ?_
  intros
  rename_i v5n _ _ _ _ _ _ _ _ wq hpp
  obtain ⟨ad5, n5, cp5, hv5⟩ := sl_shp (show Own w0 (Sl 28 3 v5n _ _ * _) wq from hpp)
  subst hv5
  have HP := Lib.hid hpp
  clear hpp d4
  go_wp2_with fail
  refine (hRight_any _ (s.h ++ [((a : Int), (b : Int), (c : Int))]) HP.out (EvSl_reads HGD.out)).mono ?_
  rintro e w2 ⟨rfl, ho⟩
  rw [← HE.out, H0.out, errV0]
  obtain ⟨x0, x1, x2⟩ := ho.drop.ev
  simp only at x0 x1 x2
  have HO2 := Lib.hid ho
  clear ho HP
  go_upto_region 7 with fail
  refine lgLine b1 a b c (by omega) (by omega) (by omega) x0 x1 x2 ?_
  intros
  rename_i hpp
  obtain ⟨rfl, rfl⟩ := hpp
  clear x0 x1 x2
  rw [← hLE]
  have HO3 : Hid (Own w0 (LgO p hv s * (EvSl (.slice ad5 n5 cp5) (s.h ++ [((a : Int), (b : Int), (c : Int))]) * (EvO b1 ((a : Int), (b : Int), (c : Int)) * R))) w2.drew) := Lib.hid (HO2.out.drew.perm (by ac_rfl))
  clear HO2
  go_wp2_with fail
  refine (lgStep_any p hv s HLL.out HO3.out).mono ?_
  rintro e w3 ⟨rfl, ho⟩
  rw [hD]
  obtain ⟨e0, e1, e2, e3, e4, ef⟩ := ho.lg_facts
  have e1' : w3.cell? ⟨p, 1, none⟩ = some (.string (strL s.bs)) := e1
  have hbs := strL_size s.bs
  have HLQ := Lib.hid hLE
  clear hLE
  cases D
  · have hz : ¬ s.left = 0 := by simpa using hD
    rw [if_neg hz] at hds hes
    have had : ∀ w : World, (Op.stringOp .add (strL s.bs) (strL LE)).run Tryd.prog w = .ok (.string (strL s.bs ++ strL LE)) w := fun w => run_string_add_sum _ _ _ (by omega)
    rw [strL_app] at had
    have hs1 : Own w0 (LgO p hv { lgStep s with bs := s.bs ++ LE } * (EvSl (.slice ad5 n5 cp5) (s.h ++ [((a : Int), (b : Int), (c : Int))]) * (EvO b1 ((a : Int), (b : Int), (c : Int)) * R))) (w3.setCell ⟨p, 1, none⟩ (.string (strL (s.bs ++ LE)))) := ho.lg_set 1 _ rfl rfl (by simp [Array.setIfInBounds])
    obtain ⟨w4, hw4⟩ : ∃ x, x = w3.setCell ⟨p, 1, none⟩ (.string (strL (s.bs ++ LE))) := ⟨_, rfl⟩
    rw [← hw4] at hs1
    obtain ⟨f0, _, _, _, _, ff⟩ := hs1.lg_facts
    have hs2 := hs1.lg_next
    rw [show ({ ({ lgStep s with bs := s.bs ++ LE } : Lg) with h := s.h ++ [((a : Int), (b : Int), (c : Int))] } : Lg) = { s with st := false, left := dec1 s.left, bs := s.bs ++ LE, h := s.h ++ [((a : Int), (b : Int), (c : Int))] } by unfold lgStep; rw [hD]] at hs2
    have HS2 := Lib.hid hs2
    obtain ⟨B, hB⟩ : ∃ x, x = strL s.bs := ⟨_, rfl⟩
    obtain ⟨T, hT⟩ : ∃ x, x = strL LE := ⟨_, rfl⟩
    obtain ⟨U, hU⟩ : ∃ x, x = strL (s.bs ++ LE) := ⟨_, rfl⟩
    rw [← hB] at had e1'
    rw [← hT] at had ⊢
    rw [← hU] at had hw4
    clear hs1 hs2 hB hT hU ho e1 hLs hbs
    have HDS := Lib.hid hds; have HES := Lib.hid hes; have HD := Lib.hid hD; have HZ := Lib.hid hz; have HLN := Lib.hid hln
    clear hds hes hD hz hln
    go_upto_region 12 with fail
    rw [← hw4]
    clear hw4 e0 e1' e2 e3 e4 ef
    go_wp2
    go_ret
    exact ⟨by rw [HES.out]; rfl, by rw [HDS.out]; exact (HS2.out.perm (star_left_comm _ _ _)).drop⟩
  · have hz : s.left = 0 := by simpa using hD
    rw [if_pos hz] at hds hes
    have hd1 : dec1 s.left = -1 := by rw [hz]; rfl
    obtain ⟨K, hK, hK9⟩ : ∃ K : Nat, K = LE.length / 2 ∧ K ≤ LE.length := ⟨_, rfl, by omega⟩
    rw [← hK] at hds
    have hTs := strL_size (LE.take K)
    rw [List.length_take] at hTs
    have had : ∀ w : World, (Op.stringOp .add (strL s.bs) (strL (LE.take K))).run Tryd.prog w = .ok (.string (strL s.bs ++ strL (LE.take K))) w := fun w => run_string_add_sum _ _ _ (by omega)
    have hsl : ∀ w : World, (Instr.slice 9 (.string (strL LE)) none (some (.int .i64 (K : Int))) none).run Tryd.prog w = .ok (.string (strL (LE.take K))) w := fun w => by
      rw [run_slice_string_h w 9 (strL LE) Tryd.underlying9 .i64 _ (by omega) (by rw [hLs]; omega), Int.toNat_natCast, strL_take]
    rw [strL_app] at had
    have hs1 : Own w0 (LgO p hv { lgStep s with bs := s.bs ++ LE.take K } * (EvSl (.slice ad5 n5 cp5) (s.h ++ [((a : Int), (b : Int), (c : Int))]) * (EvO b1 ((a : Int), (b : Int), (c : Int)) * R))) (w3.setCell ⟨p, 1, none⟩ (.string (strL (s.bs ++ LE.take K)))) := ho.lg_set 1 _ rfl rfl (by simp [Array.setIfInBounds])
    rw [show ({ lgStep s with bs := s.bs ++ LE.take K } : Lg) = { s with st := true, left := -1, bs := s.bs ++ LE.take K } by unfold lgStep; rw [hD, hd1]] at hs1
    have HS2 : Hid (Own w0 (LgP p (lgDo s ((a : Int), (b : Int), (c : Int))) * R) ((w3.setCell ⟨p, 1, none⟩ (.string (strL (s.bs ++ LE.take K)))).drew)) := Lib.hid (by
      rw [hds]
      exact Own.drew (Own.lg_close (hs1.perm (show _ = EvSl (.slice ad5 n5 cp5) (s.h ++ [((a : Int), (b : Int), (c : Int))]) * (EvO b1 ((a : Int), (b : Int), (c : Int)) * (LgO p hv { s with st := true, left := -1, bs := s.bs ++ LE.take K } * R)) by ac_rfl)).drop.drop))
    obtain ⟨B, hB⟩ : ∃ x, x = strL s.bs := ⟨_, rfl⟩
    obtain ⟨T, hT⟩ : ∃ x, x = strL LE := ⟨_, rfl⟩
    obtain ⟨V, hV⟩ : ∃ x, x = strL (LE.take K) := ⟨_, rfl⟩
    obtain ⟨U, hU⟩ : ∃ x, x = strL (s.bs ++ LE.take K) := ⟨_, rfl⟩
    rw [← hB] at had e1'
    rw [← hT] at hsl hLs ⊢
    rw [← hV] at had hsl
    rw [← hU] at had HS2
    obtain ⟨KI, hKI⟩ : ∃ x : Int, (K : Int) = x := ⟨_, rfl⟩
    rw [hKI] at hsl
    have hn4 : (T.size = 6 ∧ KI = 3) ∨ (T.size = 7 ∧ KI = 3) ∨ (T.size = 8 ∧ KI = 4) ∨ (T.size = 9 ∧ KI = 4) := by omega
    clear hs1 hB hT hU hV ho e1 hbs hTs hK hK9 hd1 hKI
    have hln' := hln
    have HDS := Lib.hid hds; have HES := Lib.hid hes; have HD := Lib.hid hD; have HZ := Lib.hid hz; have HLN := Lib.hid hln; have HLS := Lib.hid hLs; have HLN' := Lib.hid hln'
    clear hds hes hD hz hln hLs hln'
    have hw3 : IntKind.i64.wrap 3 = 3 := by decide
    have hw4 : IntKind.i64.wrap 4 = 4 := by decide
    rcases hn4 with ⟨n1, rfl⟩ | ⟨n1, rfl⟩ | ⟨n1, rfl⟩ | ⟨n1, rfl⟩
    all_goals
      go_upto_region 9 with fail
      refine wp_region_planH 12 [] [(true, 0), (true, 1), (true, 2), (true, 3), (true, 4), (true, 5), (true, 6), (true, 7), (true, 8), (true, 9), (true, 10), (true, 11)] [12] (fun wS => wS = w3.drew) (by kernel_rfl) (by kernel_rfl) (rfl) ?_
      simp only [pickH, pick, List.getElem?_cons_succ, List.getElem?_cons_zero, Option.toList, Option.map_some, List.cons_append, List.nil_append]
      repeat (refine wpPure_step ?_ rfl ?_ ?_; rotate_left; (focus (intro _; first | with_reducible rfl | (go_simp; done) | (go_simp; with_reducible rfl) | rfl)); go_simp)
      refine wpPure_nil ?_
      repeat (refine wpMix_read ?_ rfl ?_ ?_; rotate_left; (focus (intro _ hS; obtain rfl := hS; first | with_reducible rfl | (go_simp; done) | (go_simp; with_reducible rfl) | rfl)); go_simp)
      refine wpMix_nil ?_
      go_wp2_with fail
      refine NoPanic.normal ?_
      go_wp2
      go_ret
      exact ⟨by rw [HES.out]; rfl, HS2.out⟩
end Go.Proofs.YtljlnhbndkdlcaaDoor
/- Package log: Crash. -/
namespace Go.Proofs.YtljlnhbndkdlcaaDoor
set_option linter.unusedVariables false
set_option linter.unusedSimpArgs false
open Go.RowKit
theorem Own.lg_cutH {w0 w : World} {p : Nat} {ad : Option Addr} {n cap k : Nat} {s : Lg} {R : HProp} (hk : k ≤ s.h.length) (hn : n = s.h.length) (h : Own w0 (LgO p (.slice ad n cap) s * R) w) :
    Own w0 (LgO p (.slice ad k cap) { s with h := s.h.take k } * R) (w.setCell ⟨p, 0, none⟩ (.slice ad k cap)) := by
  have h1 := h.perm (show _ = EvSl (.slice ad n cap) s.h * (blk p (.cells #[.slice ad n cap, .string (strL s.bs), .int .i64 (s.safe : Nat), .int .i64 s.left, .bool s.st] 60 (0, 0)) * R) by unfold LgO; ac_rfl)
  have h2 : Own w0 (EvSl (.slice ad k cap) (s.h.take k) * (blk p (.cells #[.slice ad n cap, .string (strL s.bs), .int .i64 (s.safe : Nat), .int .i64 s.left, .bool s.st] 60 (0, 0)) * R)) w := by
    have hlen : (s.h.take k).length = k := by rw [List.length_take]; omega
    refine Own.cons h1 fun x hx => ?_
    rcases hx with ⟨e, h2, h3, h4⟩ | ⟨b, off, cp, cs, e, h2, h3, h4, h5, h6, h7⟩
    · left
      cases e
      have hk0 : k = 0 := by omega
      subst hk0
      exact ⟨rfl, by rw [hlen], by simp, h4⟩
    · right
      cases e
      refine ⟨b, off, cap, cs, by rw [hlen], by omega, h3, ?_, h5, fun i hi => ?_, h7⟩
      · rw [cells_len evCells 3 (fun _ => rfl), hlen]
      · have hi2 : i < (s.h.flatMap evCells).length := by
          rw [cells_len evCells 3 (fun _ => rfl), hlen] at hi
          rw [cells_len evCells 3 (fun _ => rfl)]; omega
        rw [h6 i hi2]
        have e2 : s.h.flatMap evCells = (s.h.take k).flatMap evCells ++ (s.h.drop k).flatMap evCells := by rw [← List.flatMap_append, List.take_append_drop]
        rw [e2, List.getElem?_append_left hi]
  have h3 := (h2.perm (star_left_comm _ _ _)).setCell (i := 0) (v := .slice ad k cap)
  refine h3.perm ?_
  unfold LgO
  rw [show (#[.slice ad n cap, .string (strL s.bs), .int .i64 (s.safe : Nat), .int .i64 s.left, .bool s.st] : Array Value).setIfInBounds 0 (.slice ad k cap) = #[.slice ad k cap, .string (strL s.bs), .int .i64 (s.safe : Nat), .int .i64 s.left, .bool s.st] by simp [Array.setIfInBounds]]
  ac_rfl
theorem ev_size (w : World) : (sizeOf 28).run Tryd.prog w = .ok 3 w := Tryd.sizeOf28 w
theorem cut_ev {ad : Option Addr} {n cap k : Nat} (hk : k ≤ cap) (w : World) : (Instr.sliceAt 33 (.slice ad n cap) none (some (.int .i64 (k : Int))) none).run Tryd.prog w = .ok (.slice ad k cap) w := by
  have he : ∀ a : Addr, a.add 0 = a := fun a => by simp [Addr.add]
  have h2 : (if cap = 0 then ad else ad.map (·.add (0 * 3))) = ad := by
    split
    · rfl
    · cases ad with
      | none => rfl
      | some a => simp [he]
  simp [Instr.sliceAt, Instr.slice, Instr.sliceBounds, Instr.sliceBound, asIntOf, run_underlying Tryd.underlying33, ev_size, hk, Result.andThen]
  cases ad with
  | none => simp
  | some a => simp [he]
set_option maxRecDepth 100000 in
set_option maxHeartbeats 4000000 in
theorem lgCrash_any {w0 w : World} {R : HProp} (p : Nat) (s : Lg) (keep : Int) (hI : LgI s) (h : Own w0 (LgP p s * R) w) :
    Calls Tryd.prog 15 #[.pointer (some ⟨p, 0, none⟩), .int .i64 keep] w fun e w' => e = .returned (.tuple #[]) ∧ Own w0 (LgP p (lgCrash s keep) * R) w' := by
  obtain ⟨hv, ho⟩ := h.lg_open
  obtain ⟨ad, n, cap, rfl, hnc, hn⟩ : ∃ ad n cap, hv = .slice ad n cap ∧ n ≤ cap ∧ n = s.h.length := by
    obtain ⟨ad, cp, e, h1, _⟩ := Own.rd (show Own w0 (Sl 28 3 hv s.h.length (s.h.flatMap evCells) * _) w from (ho.perm (show _ = EvSl hv s.h * (blk p (.cells #[hv, .string (strL s.bs), .int .i64 (s.safe : Nat), .int .i64 s.left, .bool s.st] 60 (0, 0)) * R) by unfold LgO; ac_rfl)))
    exact ⟨ad, _, cp, e, h1, rfl⟩
  obtain ⟨c0, c1, c2, c3, c4, cf⟩ := ho.lg_facts
  have hbl := hI.len
  have hsf := hI.safe
  obtain ⟨hhi1, hhi2⟩ := lgHigh_le hI keep
  obtain ⟨hlast, htk⟩ := lg_last hI keep
  have hlines := lg_lines keep hI
  obtain ⟨hcut, _, _, _, hA, _⟩ := lg_cut hI keep
  have hhd : lgHigh s keep = s.safe + (if keep ≤ 0 then 0 else if keep ≤ ((s.bs.length : Nat) : Int) - s.safe then keep.toNat else s.bs.length - s.safe) := rfl
  obtain ⟨N, hN⟩ : ∃ x, x = s.bs.length := ⟨_, rfl⟩
  obtain ⟨F, hF⟩ : ∃ x, x = s.safe := ⟨_, rfl⟩
  obtain ⟨M, hM⟩ : ∃ x, x = lgHigh s keep := ⟨_, rfl⟩
  obtain ⟨k, hk⟩ : ∃ x, x = lgCut s keep := ⟨_, rfl⟩
  obtain ⟨C, hC⟩ : ∃ x, x = (lgCrash s keep).bs := ⟨_, rfl⟩
  have hCe : C = encH (s.h.take k) := by rw [hC, hk]; rfl
  have hCr : lgCrash s keep = ⟨s.h.take k, C, C.length, -1, false⟩ := by rw [hCe, hk]; rfl
  rw [← hk, ← hM] at hA
  rw [← hCe] at hA
  rw [← hM, ← hC] at hlast htk
  rw [← hC, ← hk] at hlines
  rw [← hk] at hcut
  rw [← hM, ← hN, ← hF] at hhd
  rw [← hN] at hbl hsf hhi2
  rw [← hF] at hsf hhi1 c2
  rw [← hM] at hhi1 hhi2
  have hsz := strL_size s.bs
  have hszC := strL_size C
  have hsl1 : ∀ w : World, (Instr.slice 9 (.string (strL s.bs)) none (some (.int .i64 (M : Int))) none).run Tryd.prog w = .ok (.string (strL (s.bs.take M))) w := fun w => by
    rw [run_slice_string_h w 9 (strL s.bs) Tryd.underlying9 .i64 _ (by omega) (by rw [hsz]; omega), Int.toNat_natCast, strL_take]
  have hsz2 := strL_size (s.bs.take M)
  rw [List.length_take] at hsz2
  have hsl2 : ∀ w : World, (Instr.slice 9 (.string (strL (s.bs.take M))) none (some (.int .i64 (C.length : Int))) none).run Tryd.prog w = .ok (.string (strL C)) w := fun w => by
    rw [run_slice_string_h w 9 (strL (s.bs.take M)) Tryd.underlying9 .i64 _ (by omega) (by rw [hsz2]; omega), Int.toNat_natCast, strL_take, htk]
  have HLI : Hid (∀ w, Calls Tryd.prog 34 #[.string (strL (s.bs.take M)), .string ⟨#[10]⟩] w fun e w' => e = .returned (.int .i64 ((C.length : Int) - 1)) ∧ w = w') := Lib.hid (fun w => by
    have h1 := stLast (strL (s.bs.take M)) (by rw [hsz2]; omega) w
    rw [show Lib.lastIndexByte (strL (s.bs.take M)) 10 = (C.length : Int) - 1 from hlast] at h1
    exact h1)
  have HCT : Hid (∀ w, Calls Tryd.prog 35 #[.string (strL C), .string ⟨#[10]⟩] w fun e w' => e = .returned (.int .i64 (k : Int)) ∧ w = w') := Lib.hid (fun w => by
    have h1 := stCount (strL C) w
    rw [show (strL C).data.toList = C from by simp [strL], hlines] at h1
    exact h1)
  have hM2 : (F : Int) + max 0 (min keep ((N : Int) - (F : Int))) = (M : Int) := by
    rw [hhd, Int.max_def, Int.min_def]
    split <;> split <;> (split <;> omega)
  have hw1 : IntKind.i64.wrap ((N : Int) - (F : Int)) = (N : Int) - (F : Int) := IntWalk.i64_in _ (by omega)
  have hw2 : IntKind.i64.wrap ((F : Int) + max 0 (min keep ((N : Int) - (F : Int)))) = (M : Int) := by rw [hM2]; exact IntWalk.i64_in _ (by omega)
  have hw3 : IntKind.i64.wrap (M : Int) = (M : Int) := IntWalk.i64_in _ (by omega)
  have hx1 : (strL s.bs).extract 0 M = strL (s.bs.take M) := strL_take _ _
  have hx2 : (strL (s.bs.take M)).extract 0 C.length = strL C := by rw [strL_take, htk]
  have HO := Lib.hid ho
  obtain ⟨B, hB⟩ : ∃ x, x = strL s.bs := ⟨_, rfl⟩
  obtain ⟨B2, hB2⟩ : ∃ x, x = strL (s.bs.take M) := ⟨_, rfl⟩
  obtain ⟨B3, hB3⟩ : ∃ x, x = strL C := ⟨_, rfl⟩
  obtain ⟨LC, hLC⟩ : ∃ x, x = C.length := ⟨_, rfl⟩
  rw [← hB] at c1 hsl1 hsz hx1
  rw [← hN] at hsz
  rw [← hB2] at hsl1 hsl2 HLI hsz2 hx1 hx2
  rw [← hB3] at hsl2 HCT hszC hx2
  rw [← hLC] at hsl2 HLI hA hszC hx2
  have hszM : B2.size = M := by rw [hsz2, ← hN]; omega
  clear hB2 hsz2 htk hlast hlines hhd
  have HB := Lib.hid hB; have HB3 := Lib.hid hB3
  clear hB hB3
  have HN' := Lib.hid hn
  have H := Lib.hid h; have HI := Lib.hid hI; have HN := Lib.hid hN; have HF := Lib.hid hF; have HM := Lib.hid hM; have HK := Lib.hid hk; have HC := Lib.hid hC; have HCE := Lib.hid hCe; have HCR := Lib.hid hCr; have HLC := Lib.hid hLC; have HO := Lib.hid ho
  clear h hI hN hF hM hk hC hCe hCr hLC ho
  go_enter Tryd.func15, Tryd.ntmps15
  go_upto_region 0 with fail
  refine wp_region_planH 23 [] [(true, 0), (true, 1), (true, 2), (true, 3), (true, 4), (true, 5), (true, 6), (true, 7), (true, 8), (true, 9), (true, 10), (true, 11), (true, 12), (true, 13), (true, 14), (true, 15), (true, 16), (true, 17), (true, 18), (false, 19), (false, 20), (true, 21), (true, 22)] [23] (fun wS => wS = w.drew) (by kernel_rfl) (by kernel_rfl) (rfl) ?_
  simp only [pickH, pick, List.getElem?_cons_succ, List.getElem?_cons_zero, Option.toList, Option.map_some, List.cons_append, List.nil_append]
  repeat (refine wpPure_step ?_ rfl ?_ ?_; rotate_left; (focus (intro _; first | with_reducible rfl | (go_simp; done) | (go_simp; with_reducible rfl) | rfl)); go_simp)
  refine wpPure_nil ?_
  repeat (refine wpMix_read ?_ rfl ?_ ?_; rotate_left; (focus (intro _ hS; obtain rfl := hS; first | with_reducible rfl | (go_simp; done) | (go_simp; with_reducible rfl) | rfl)); go_simp)
  refine wpMix_write (fun K hK => ?_)
  go_simp
  refine hK _ _ ⟨rfl, ?_⟩
  clear hK K
  go_simp
  refine wpMix_write (fun K hK => ?_)
  go_simp
  refine hK _ _ ⟨rfl, ?_⟩
  clear hK K
  go_simp
  repeat (refine wpMix_read ?_ rfl ?_ ?_; rotate_left; (focus (intro _ hS; obtain rfl := hS; first | with_reducible rfl | (go_simp; done) | (go_simp; with_reducible rfl) | rfl)); go_simp)
  refine wpMix_nil ?_
  go_wp2_with fail
  refine NoPanic.normal ?_
  go_wp2_with fail
  refine (HLI.out _).mono ?_
  rintro e w' ⟨rfl, rfl⟩
  go_wp2_with fail
  obtain ⟨wa, hwa⟩ : ∃ x, x = w.drew := ⟨_, rfl⟩
  have HOA : Hid (Own w0 (LgO p (.slice ad n cap) s * R) wa) := Lib.hid (by rw [hwa]; exact HO.out.drew)
  rw [← hwa]
  clear hwa HO c0 c1 c2 c3 c4 cf
  have hkc : k ≤ cap := by have := HN'.out; omega
  have hcut2 := fun w => cut_ev (ad := ad) (n := n) hkc w
  obtain ⟨c0, _, _, _, _, cf⟩ := HOA.out.lg_facts
  refine wp_region_planH 10 [] [(true, 0), (true, 1), (true, 2), (true, 3), (true, 4), (true, 5), (false, 6), (true, 7), (true, 8), (true, 9)] [10] (fun wS => wS = wa.drew) (by kernel_rfl) (by kernel_rfl) (rfl) ?_
  simp only [pickH, pick, List.getElem?_cons_succ, List.getElem?_cons_zero, Option.toList, Option.map_some, List.cons_append, List.nil_append]
  repeat (refine wpPure_step ?_ rfl ?_ ?_; rotate_left; (focus (intro _; first | with_reducible rfl | (go_simp; done) | (go_simp; with_reducible rfl) | rfl)); go_simp)
  refine wpPure_nil ?_
  repeat (refine wpMix_read ?_ rfl ?_ ?_; rotate_left; (focus (intro _ hS; obtain rfl := hS; first | with_reducible rfl | (go_simp; done) | (go_simp; with_reducible rfl) | rfl)); go_simp)
  refine wpMix_write (fun K hK => ?_)
  go_simp
  refine (HCT.out _).mono ?_
  rintro e w' ⟨rfl, rfl⟩
  refine hK _ _ ⟨rfl, ?_⟩
  clear hK K
  go_simp
  repeat (refine wpMix_read ?_ rfl ?_ ?_; rotate_left; (focus (intro _ hS; obtain rfl := hS; first | with_reducible rfl | (go_simp; done) | (go_simp; with_reducible rfl) | rfl)); go_simp)
  refine wpMix_nil ?_
  go_wp2_with fail
  refine NoPanic.normal ?_
  have ho7 := (HOA.out.lg_cutH (k := k) hcut HN'.out).drew
  obtain ⟨w7, hw7⟩ : ∃ x, x = (wa.setCell ⟨p, 0, none⟩ (.slice ad k cap)).drew := ⟨_, rfl⟩
  rw [← hw7] at ho7 ⊢
  clear hw7 c0 cf HOA
  have e1 := ho7.lg_set (s' := { ({ s with h := s.h.take k } : Lg) with bs := C }) 1 (.string (strL C)) rfl rfl (by simp [Array.setIfInBounds])
  obtain ⟨_, _, _, _, _, f1⟩ := ho7.lg_facts
  obtain ⟨w8, hw8⟩ : ∃ x, x = w7.setCell ⟨p, 1, none⟩ (.string (strL C)) := ⟨_, rfl⟩
  rw [← hw8] at e1
  have e2 := e1.lg_set (s' := { ({ ({ s with h := s.h.take k } : Lg) with bs := C } : Lg) with safe := C.length }) 2 (.int .i64 (C.length : Nat)) rfl rfl (by simp [Array.setIfInBounds])
  obtain ⟨w9, hw9⟩ : ∃ x, x = w8.setCell ⟨p, 2, none⟩ (.int .i64 (C.length : Nat)) := ⟨_, rfl⟩
  rw [← hw9] at e2
  have e3 := e2.lg_set (s' := { ({ ({ ({ s with h := s.h.take k } : Lg) with bs := C } : Lg) with safe := C.length } : Lg) with left := -1 }) 3 (.int .i64 (-1)) rfl rfl (by simp [Array.setIfInBounds])
  obtain ⟨wb, hwb⟩ : ∃ x, x = w9.setCell ⟨p, 3, none⟩ (.int .i64 (-1)) := ⟨_, rfl⟩
  rw [← hwb] at e3
  have e4 := e3.lg_set (s' := ⟨s.h.take k, C, C.length, -1, false⟩) 4 (.bool false) rfl rfl (by simp [Array.setIfInBounds])
  rw [← HCR.out] at e4
  have HF := Lib.hid (Own.lg_close e4)
  obtain ⟨g0, g1, g2, g3, g4, gf⟩ := ho7.lg_facts
  subst hw8
  subst hw9
  subst hwb
  rw [← HB3.out, ← HLC.out] at HF
  clear e1 e2 e3 e4 ho7 f1
  go_wp2
  go_end0
  exact ⟨rfl, HF.out⟩
end Go.Proofs.YtljlnhbndkdlcaaDoor
