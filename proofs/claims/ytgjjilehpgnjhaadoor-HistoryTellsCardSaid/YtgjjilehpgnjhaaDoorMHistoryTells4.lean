/- A law for a drawn region in which reads stand beside writes: what is read is the same in every world that meets S, and each write shows S anew; the last operations come one behind the other. -/
import Derived.Test.YtgjjilehpgnjhaaDoorMHistoryTells3
import Derived.Test.YtgjjilehpgnjhaaDoorMHistoryTells1
namespace Go.Proofs.YtgjjilehpgnjhaaDoor
set_option linter.unusedVariables false
set_option linter.unusedSimpArgs false
open Go.RowKit
section
variable {P : Program} {ops : Array Oper} {md : Region.Mode} {S : World → Prop} {Q : Exit → Act → World → Prop}
def wpMix (P : Program) (ops : Array Oper) (S : World → Prop) (Q : Exit → Act → World → Prop) (K : Act → World → Prop) : List (Bool × Oper) → Act → World → Prop
  | [], a, w => K a w
  | (true, o) :: l, a, w => ∃ v, YieldsIf P ops S o v a ∧ wpMix P ops S Q K l (a.put o.dst v) w
  | (false, o) :: l, a, w => if Region.wanted o (yielded ops a.tmps) = true then (o.wp P a w (fun a' w' => S w' ∧ wpMix P ops S Q K l a' w') Q ∨ (o.asks P a w ∧ LetsOut Q)) else S w ∧ wpMix P ops S Q K l (a.put o.dst undef) w
theorem wpMix_nil {K : Act → World → Prop} {a : Act} {w : World} (h : K a w) : wpMix P ops S Q K [] a w := h
theorem wpMix_read {K : Act → World → Prop} {a : Act} {w : World} {o : Oper} {l : List (Bool × Oper)} (v : Value) (hg : o.guard = none) (hv : ∀ w, S w → (execOp a.eval o).run P w = .ok (.value v) w) (h : wpMix P ops S Q K l (a.put o.dst v) w) : wpMix P ops S Q K ((true, o) :: l) a w :=
  ⟨v, .inl ⟨by simp [Region.wanted, hg], hv⟩, h⟩
theorem wpMix_write {K : Act → World → Prop} {a : Act} {w : World} {o : Oper} {l : List (Bool × Oper)}
    (h : ∀ K' : Act → World → Prop, (∀ a' w', (S w' ∧ wpMix P ops S Q K l a' w') → K' a' w') → if Region.wanted o (yielded ops a.tmps) = true then Oper.wp P o a w K' Q else K' (a.put o.dst undef) w) : wpMix P ops S Q K ((false, o) :: l) a w := by
  have h1 := h _ (fun _ _ h => h)
  unfold wpMix
  split
  · rename_i hw; rw [if_pos hw] at h1; exact .inl h1
  · rename_i hw; rw [if_neg hw] at h1; exact h1
/-- The walk's first part: S holds behind each operation; L at its end. -/
def wpAnyHL (P : Program) (md : Region.Mode) (ops : Array Oper) (Q : Exit → Act → World → Prop) (S : World → Prop) (L : Array Bool → Act → World → Prop) : Nat → Array Bool → Act → World → Prop
  | 0, listed, a, w => L listed a w
  | f + 1, listed, a, w => Region.ready md ops listed ≠ [] ∧ ∀ i ∈ Region.ready md ops listed, wpOp P ops Q i (fun a' w' => S w' ∧ wpAnyHL P md ops Q S L f (listed.setIfInBounds i true) a' w') a w
theorem wpAny_of_HL {g : Nat} {L : Array Bool → Act → World → Prop} (hL : ∀ listed a w, L listed a w → wpAny P md ops Q g listed a w) :
    ∀ (f : Nat) (listed : Array Bool) (a : Act) (w : World), wpAnyHL P md ops Q S L f listed a w → wpAny P md ops Q (f + g) listed a w
  | 0, listed, a, w, h => by rw [Nat.zero_add]; exact hL _ _ _ h
  | f + 1, listed, a, w, h => by
    rw [show f + 1 + g = (f + g) + 1 by omega]
    exact ⟨fun h0 => absurd h0 h.1, fun i hi => wpOp_mono (fun a' w' h' => wpAny_of_HL hL f _ a' w' h'.2) (h.2 i hi)⟩
theorem head_takeH {n i : Nat} {m : List Nat} {oi : Oper} {v : Value} {L : Array Bool → Act → World → Prop} (hi : ops[i]? = some oi) (hsel : Region.noSelect ops = true)
    (hQ : ∀ d v c a w, Q (.panic c) (Act.put a d v) w → Q (.panic c) a w)
    (hs : sinkX md ops n m = true) (hl : linkX md ops n m = true) (hin : i < n) (hdone : ∀ listed a w, L listed a w → ∀ j ∈ Region.ready md ops listed, n ≤ j) :
    ∀ (f : Nat) (listed : Array Bool) (a : Act) (w : World), HInv md ops n m listed → (∀ i ∈ m, listed.getD i false = true) →
      (∀ j oj, ops[j]? = some oj → j ≠ i → listed.getD j true = false → (∀ e ∈ oj.after, Region.binds md e = true → e.on ≠ i) → oi.apart ops oj = true) →
      i ∈ Region.ready md ops listed → YieldsIf P ops S oi v a → S w →
      wpAnyHL P md ops Q S L f (listed.setIfInBounds i true) (a.put oi.dst v) w → wpAnyHL P md ops Q S L (f + 1) listed a w := by
  have sel := Region.noSelect_spec hsel
  intro f
  induction f with
  | zero =>
    intro listed a w inv hm _ hr hy hS H
    have hun := (mem_ready.1 hr).1
    refine ⟨List.ne_nil_of_mem hr, fun j hj => ?_⟩
    have hjn : j < n := Nat.lt_of_not_le fun h => none_aheadX hs hl inv hm hin hun j h hj
    by_cases hji : j = i
    · subst hji; exact hy.wpOp hi hS ⟨hS, H⟩
    · have := hdone _ _ _ H j (ready_mono hj hji)
      omega
  | succ f ih =>
    intro listed a w inv hm hfree hr hy hS H
    have hun := (mem_ready.1 hr).1
    refine ⟨List.ne_nil_of_mem hr, fun j hj => ?_⟩
    have hjn : j < n := Nat.lt_of_not_le fun h => none_aheadX hs hl inv hm hin hun j h hj
    by_cases hji : j = i
    · subst hji; exact hy.wpOp hi hS ⟨hS, H⟩
    obtain ⟨hjun, oj, hoj, hall⟩ := mem_ready.1 hj
    have hnot : ∀ e ∈ oj.after, Region.binds md e = true → e.on ≠ i := fun e he hb heq => by
      have h1 := hall e he hb
      rw [heq, getD_both hun] at h1
      cases h1
    have h2 := wpOp_putIf hoj (hfree j oj hoj hji hjun hnot) (sel i oi · · hi) (sel j oj · · hoj) (fun c a w => hQ oi.dst v c a w) hy (H.2 j (ready_mono hj hji))
    refine wpOp_mono (fun a' w' h3 => ⟨h3.2.1, ih _ a' w' (inv.set hj (.inl hjn)) (fun k hk => getD_set_true (hm k hk)) (fun k ok hk hki hun' hno => hfree k ok hk hki ?_ hno) (ready_mono hr (Ne.symm hji)) h3.1 h3.2.1 ?_⟩) h2
    · by_cases hjk : j = k
      · subst hjk; exact hjun
      · rwa [getD_set_ne true hjk] at hun'
    · rw [Array.setIfInBounds_comm _ _ hji]
      exact h3.2.2
/-- An order of the first n: what reads is taken as soon as it may; what writes is the only one that may come up. -/
def headH (md : Region.Mode) (ops : Array Oper) (r : List Nat) (n : Nat) : List (Bool × Nat) → Array Bool → Bool
  | [], listed => (List.range n).all (fun i => listed.getD i false) && ordB md ops r listed
  | (true, k) :: l, listed => decide (k < n) && (Region.ready md ops listed).contains k && Region.free md ops listed k && headH md ops r n l (listed.setIfInBounds k true)
  | (false, k) :: l, listed => decide (k < n) && decide (Region.ready md ops listed = [k]) && headH md ops r n l (listed.setIfInBounds k true)
def pickH (l : List Oper) : List (Bool × Nat) → List (Bool × Oper)
  | [] => []
  | (b, k) :: r => ((l[k]?).map fun o => (b, o)).toList ++ pickH l r
theorem wpAnyHL_plan {n : Nat} {m r : List Nat} {Lq : Act → World → Prop} {L0 : List Oper} (hops : ops = L0.toArray) (hsel : Region.noSelect ops = true) (hQ : ∀ d v c a w, Q (.panic c) (Act.put a d v) w → Q (.panic c) a w) (hs : sinkX md ops n m = true) (hl : linkX md ops n m = true) :
    ∀ (l : List (Bool × Nat)) (listed : Array Bool) (a : Act) (w : World), HInv md ops n m listed → (∀ i ∈ m, listed.getD i false = true) → S w →
    headH md ops r n l listed = true → wpMix P ops S Q Lq (pickH L0 l) a w →
    wpAnyHL P md ops Q S (fun listed' a' w' => ((∀ i < n, listed'.getD i true = true) ∧ ordB md ops r listed' = true) ∧ Lq a' w') l.length listed a w
  | [], listed, a, w, _, _, _, hB, h => by
    simp only [headH, Bool.and_eq_true] at hB
    exact ⟨⟨fun i hi => getD_true_of (by simpa using List.all_eq_true.1 hB.1 i (List.mem_range.2 hi)), hB.2⟩, h⟩
  | (true, k) :: l, listed, a, w, inv, hm, hS, hB, h => by
    simp only [headH, Bool.and_eq_true, decide_eq_true_eq] at hB
    obtain ⟨⟨⟨hkn, hr⟩, hf⟩, hB'⟩ := hB
    have hr' : k ∈ Region.ready md ops listed := by simpa using hr
    obtain ⟨_, o, h0, _⟩ := mem_ready.1 hr'
    have h0' : L0[k]? = some o := by rw [hops] at h0; simpa using h0
    simp only [pickH, h0', Option.map_some, Option.toList, List.cons_append, List.nil_append] at h
    obtain ⟨v, hy, hK⟩ := h
    refine head_takeH h0 hsel hQ hs hl hkn (fun listed' a' w' hL => ordB_ready hL.1.2 hL.1.1) l.length listed a w inv hm (Region.free_spec h0 hf) hr' hy hS ?_
    exact wpAnyHL_plan hops hsel hQ hs hl l _ _ _ (inv.set hr' (.inl hkn)) (fun i hi => getD_set_true (hm i hi)) hS hB' hK
  | (false, k) :: l, listed, a, w, inv, hm, hS, hB, h => by
    simp only [headH, Bool.and_eq_true, decide_eq_true_eq] at hB
    obtain ⟨⟨hkn, hr⟩, hB'⟩ := hB
    have hr' : k ∈ Region.ready md ops listed := by rw [hr]; simp
    obtain ⟨_, o, h0, _⟩ := mem_ready.1 hr'
    have h0' : L0[k]? = some o := by rw [hops] at h0; simpa using h0
    simp only [pickH, h0', Option.map_some, Option.toList, List.cons_append, List.nil_append] at h
    refine ⟨List.ne_nil_of_mem hr', fun j hj => ?_⟩
    rw [hr] at hj
    have hjk : j = k := by simpa using hj
    subst hjk
    have inv' := inv.set hr' (.inl hkn)
    refine wpOp_mono (K := fun a' w' => S w' ∧ wpMix P ops S Q Lq (pickH L0 l) a' w') (fun a' w' h' => ⟨h'.1, wpAnyHL_plan hops hsel hQ hs hl l _ _ _ inv' (fun i hi => getD_set_true (hm i hi)) h'.1 hB' h'.2⟩) ?_
    unfold wpOp
    simp only [h0]
    exact h
def planH (ops : Array Oper) (n : Nat) (m : List Nat) (p : List (Bool × Nat)) (r : List Nat) : Bool :=
  Region.noSelect ops && sinkX .any ops n m && linkX .any ops n m && (match preX .any ops m (Array.replicate ops.size false) with | some listed => headH .any ops r n p listed | none => false) && decide (m.length + (p.length + r.length) = ops.size)
theorem wp_region_planH {id : Nat} {Q : Exit → Act → World → Prop} {a : Act} {w : World} {l : List Oper} (n : Nat) (m : List Nat) (p : List (Bool × Nat)) (r : List Nat) (S : World → Prop) (hm : P.follows .mixedOrders = true) (hB : planH l.toArray n m p r = true) (hS : S w.drew)
    (h : wpPure P l.toArray (fun a1 => wpMix P l.toArray S (NoPanic Q) (fun a' w' => wpList P l.toArray (NoPanic Q) (pick l r) a' w') (pickH l p) a1 w.drew) (pick l m) a) : (Code.region id l.toArray true).wp P Q a w := by
  refine wp_region_noPanic ?_
  simp only [planH, Bool.and_eq_true, decide_eq_true_eq] at hB
  obtain ⟨⟨⟨⟨hsel, hs⟩, hl⟩, hh⟩, hlen⟩ := hB
  have inv0 : HInv .any l.toArray n m (Array.replicate l.toArray.size false) :=
    ⟨by simp, fun j oj _ hl => (by rw [getD_replicate_false] at hl; cases hl), fun t _ ht _ => getD_in (by simpa using ht) (getD_replicate_false _ _)⟩
  cases hp : preX .any l.toArray m (Array.replicate l.toArray.size false) with
  | none => rw [hp] at hh; cases hh
  | some out =>
    rw [hp] at hh
    obtain ⟨inv1, hmo⟩ := preX_inv m _ out (fun _ h => h) inv0 hp
    refine wp_region_any hm ?_
    have hQ : ∀ d v c a w, NoPanic Q (.panic c) (Act.put a d v) w → NoPanic Q (.panic c) a w := fun _ _ _ _ _ h => h.elim
    have H := wpAny_pre (P := P) (md := .any) (w := w.drew) (f := p.length + r.length) (Q := NoPanic Q) rfl hsel hQ m _ out a hp h (fun a1 h1 => by
      have H1 := wpAnyHL_plan (md := .any) (r := r) rfl hsel hQ hs hl _ out a1 _ inv1 hmo hS hh h1
      exact wpAny_of_HL (g := r.length) (fun listed a' w' hL => wpAny_of_ord hsel hQ r listed a' w' hL.1.2 hL.2) _ _ _ _ H1)
    rw [hlen] at H
    exact H
/-- A quiet call in a region of reads: of a contract 'e = .. ∧ w = w''. -/
theorem quiet_same {f : FuncId} {args : Array Value} {w : World} {n : Nat} {v : Value} (h : Calls P f args (w.drewN n) fun e w' => e = .returned v ∧ w.drewN n = w') : Calls P f args (w.drewN n) fun e w'' => e = .returned v ∧ ∃ m, w'' = w.drewN m :=
  h.mono fun _ _ ⟨he, hm⟩ => ⟨he, n, hm.symm⟩
end
theorem wpMix_readW {P : Program} {ops : Array Oper} {S : World → Prop} {Q : Exit → Act → World → Prop} {K : Act → World → Prop} {a : Act} {w : World} {o : Oper} {l : List (Bool × Oper)} (v : Value) (hw : Region.wanted o (yielded ops a.tmps) = true) (hv : ∀ w, S w → (execOp a.eval o).run P w = .ok (.value v) w) (h : wpMix P ops S Q K l (a.put o.dst v) w) : wpMix P ops S Q K ((true, o) :: l) a w :=
  ⟨v, .inl ⟨hw, hv⟩, h⟩
end Go.Proofs.YtgjjilehpgnjhaaDoor
/- Pieces of a function's text, found by their numbers. -/
namespace Go.Proofs.YtgjjilehpgnjhaaDoor
set_option linter.unusedVariables false
set_option linter.unusedSimpArgs false
open Go.RowKit
def findIf (t : Nat) : Code → Option Code
  | .cond (.tmp k) a b => if k = t then some (.cond (.tmp k) a b) else match findIf t a with
    | some c => some c
    | none => findIf t b
  | .seq a b => match findIf t a with
    | some c => some c
    | none => findIf t b
  | .block _ c => findIf t c
  | .loop c => findIf t c
  | .scope c => findIf t c
  | _ => none
def findBlock (t : Nat) : Code → Option Code
  | .cond _ a b => match findBlock t a with
    | some c => some c
    | none => findBlock t b
  | .seq a b => match findBlock t a with
    | some c => some c
    | none => findBlock t b
  | .block k c => if k = t then some (.block k c) else findBlock t c
  | .loop c => findBlock t c
  | .scope c => findBlock t c
  | _ => none
def findRegion (t : Nat) : Code → Option Code
  | .cond _ a b => match findRegion t a with
    | some c => some c
    | none => findRegion t b
  | .seq a b => match findRegion t a with
    | some c => some c
    | none => findRegion t b
  | .region k o d => if k = t then some (.region k o d) else none
  | .block _ c => findRegion t c
  | .loop c => findRegion t c
  | .scope c => findRegion t c
  | _ => none
end Go.Proofs.YtgjjilehpgnjhaaDoor
/- The reference's history: which event is wrong, and how. -/
namespace Go.Proofs.YtgjjilehpgnjhaaDoor
set_option linter.unusedVariables false
set_option linter.unusedSimpArgs false
open Go.RowKit
/-- Who said a word, or nobody. -/
def byOf (l : List Ev) (w : Int) : Int := if 0 ≤ saidAt l w then (evAt l (saidAt l w).toNat).1 else -1
theorem byOf_nil (w : Int) : byOf [] w = -1 := rfl
theorem whereI_snoc_old {α : Type} (p : α → Bool) (l : List α) (x : α) (h : 0 ≤ whereI p l) : whereI p (l ++ [x]) = whereI p l := by
  rcases whereI_cases p l with ⟨h1, _⟩ | ⟨k, hk, h1, h2, h3⟩
  · omega
  · rw [h1]
    refine whereI_hit p _ k (by simp; omega) (fun j hj => ?_) ?_
    · rw [List.getElem_append_left (by omega)]; exact h3 j hj
    · rw [List.getElem_append_left hk]; exact h2
theorem whereI_snoc_new {α : Type} (p : α → Bool) (l : List α) (x : α) (h : whereI p l < 0) : whereI p (l ++ [x]) = if p x = true then (l.length : Int) else -1 := by
  rcases whereI_cases p l with ⟨_, h2⟩ | ⟨k, hk, h1, _⟩
  · by_cases hx : p x = true
    · rw [if_pos hx]
      refine whereI_hit p _ l.length (by simp) (fun j hj => ?_) (by simpa using hx)
      rw [List.getElem_append_left hj]; exact h2 _ (List.getElem_mem hj)
    · rw [if_neg hx]
      refine whereI_miss p _ (fun j hj => ?_)
      rw [List.length_append, List.length_singleton] at hj
      by_cases hjl : j < l.length
      · rw [List.getElem_append_left hjl]; exact h2 _ (List.getElem_mem hjl)
      · have : j = l.length := by omega
        subst this
        simp only [List.getElem_concat_length]
        simpa using hx
  · omega
theorem evAt_snoc (l : List Ev) (x : Ev) (k : Nat) : evAt (l ++ [x]) k = if k < l.length then evAt l k else if k = l.length then x else (0, 0, 0) := by
  unfold evAt
  rw [List.getD_eq_getElem?_getD]
  by_cases h : k < l.length
  · rw [if_pos h, List.getElem?_append_left h, List.getD_eq_getElem?_getD]
  · rw [if_neg h, List.getElem?_append_right (by omega)]
    by_cases h2 : k = l.length
    · rw [if_pos h2]; subst h2; simp
    · rw [if_neg h2, List.getElem?_eq_none (by simp; omega)]; rfl
theorem saidAt_lt (l : List Ev) (w : Int) (h : 0 ≤ saidAt l w) : (saidAt l w).toNat < l.length := by
  unfold saidAt at h ⊢
  rcases whereI_cases (saysB w) l with ⟨h1, _⟩ | ⟨k, hk, h1, _⟩
  · omega
  · rw [h1]; simpa using hk
theorem byOf_snoc {l : List Ev} {x : Ev} (w : Int) (hr : evErr l x = 0) : byOf (l ++ [x]) w = if saysB w x = true then x.1 else byOf l w := by
  unfold byOf
  by_cases h0 : 0 ≤ saidAt l w
  · have e : saidAt (l ++ [x]) w = saidAt l w := whereI_snoc_old _ l x h0
    have hlt := saidAt_lt l w h0
    rw [e, if_pos h0, if_pos h0, evAt_snoc, if_pos hlt, if_neg]
    intro hs
    unfold saysB at hs
    simp only [Bool.and_eq_true, decide_eq_true_eq] at hs
    unfold evErr at hr
    by_cases h1 : rightB x = false
    · rw [if_pos h1] at hr; cases hr
    rw [if_neg h1, if_pos (.inl ⟨hs.1, by rw [hs.2]; exact h0⟩)] at hr
    cases hr
  · have e : saidAt (l ++ [x]) w = if saysB w x = true then (l.length : Int) else -1 := whereI_snoc_new _ l x (by unfold saidAt at h0; omega)
    rw [e, if_neg h0]
    by_cases hs : saysB w x = true
    · rw [if_pos hs, if_pos hs, if_pos (by omega), evAt_snoc, Int.toNat_natCast, if_neg (by omega), if_pos rfl]
    · rw [if_neg hs, if_neg hs, if_neg (by omega)]
theorem byOf_step {h : List Ev} {k : Nat} (w : Int) (hk : k < h.length) (hr : evErr (h.take k) (evAt h k) = 0) : byOf (h.take (k + 1)) w = if saysB w (evAt h k) = true then (evAt h k).1 else byOf (h.take k) w := by
  have hev : evAt h k = h[k] := by unfold evAt; rw [List.getD_eq_getElem?_getD, List.getElem?_eq_getElem hk]; rfl
  rw [hev] at hr ⊢
  rw [List.take_succ_eq_append_getElem hk]
  exact byOf_snoc w hr
theorem byOf_I64 {h : List Ev} (hg : ∀ e ∈ h, goodEv e) (w : Int) : I64 (byOf h w) := by
  unfold byOf
  by_cases h0 : 0 ≤ saidAt h w
  · rw [if_pos h0]
    have hlt := saidAt_lt h w h0
    unfold evAt
    rw [List.getD_eq_getElem?_getD, List.getElem?_eq_getElem hlt]
    exact (hg _ (List.getElem_mem hlt)).1
  · rw [if_neg h0]; unfold I64; omega
theorem saidAt_neg' {l : List Ev} {w : Int} : ¬ 0 ≤ saidAt l w → saidAt l w = -1 := fun h => by
  unfold saidAt at h ⊢
  rcases whereI_cases (saysB w) l with ⟨h1, _⟩ | ⟨k, hk, h1, _⟩
  · exact h1
  · omega
/-- A right event ahead has its who among the members. -/
theorem byOf_pos {l : List Ev} (hr : ∀ k (hk : k < l.length), rightB l[k] = true) (w : Int) : (0 ≤ byOf l w ↔ 0 ≤ saidAt l w) := by
  unfold byOf
  by_cases h0 : 0 ≤ saidAt l w
  · rw [if_pos h0]
    have hlt := saidAt_lt l w h0
    unfold evAt
    rw [List.getD_eq_getElem?_getD, List.getElem?_eq_getElem hlt]
    have := hr _ hlt
    unfold rightB isMember at this
    simp only [Bool.and_eq_true, decide_eq_true_eq] at this
    exact ⟨fun _ => h0, fun _ => this.1.1⟩
  · rw [if_neg h0]
    exact ⟨fun h => by omega, fun h => absurd h h0⟩
end Go.Proofs.YtgjjilehpgnjhaaDoor
/- The reference's table of befores, plainly: it is what the program's pasts are. -/
namespace Go.Proofs.YtgjjilehpgnjhaaDoor
set_option linter.unusedVariables false
set_option linter.unusedSimpArgs false
open Go.RowKit
/-- The table in the making: direct ones, as far as row i0 and column k0. -/
def tAll (h : List Ev) (i k : Nat) : Bool := decide (k < h.length) && (decide (i < k) && directB (evAt h i) (evAt h k))
def tIni (h : List Ev) (i0 k0 : Nat) (i k : Nat) : Bool := tAll h i k && (decide (i < i0) || (decide (i = i0) && decide (k < k0)))
def tStage (h : List Ev) : Nat → Nat → Nat → Bool
  | 0, i, k => tAll h i k
  | m + 1, i, k => tStage h m i k || (decide (i < m) && (decide (m < k) && (tStage h m i m && tStage h m m k)))
def tMid (h : List Ev) (m i0 k0 : Nat) (i k : Nat) : Bool := tStage h m i k || (decide (i < m) && (decide (m < k) && (tStage h m i m && tStage h m m k)) && (decide (i < i0) || (decide (i = i0) && decide (k < k0))))
theorem tStage_lt (h : List Ev) : ∀ m i k, tStage h m i k = true → k < h.length ∧ i < k
  | 0, i, k, e => by
    unfold tStage tAll at e
    simp only [Bool.and_eq_true, decide_eq_true_eq] at e
    exact ⟨e.1, e.2.1⟩
  | m + 1, i, k, e => by
    unfold tStage at e
    simp only [Bool.or_eq_true, Bool.and_eq_true, decide_eq_true_eq] at e
    rcases e with e | ⟨e1, e2, e3, e4⟩
    · exact tStage_lt h m i k e
    · exact ⟨(tStage_lt h m m k e4).1, by omega⟩
theorem tStage_bef (h : List Ev) : ∀ m i k, tStage h m i k = true → bef h k i = true
  | 0, i, k, e => by
    have hl := tStage_lt h 0 i k e
    unfold tStage tAll at e
    simp only [Bool.and_eq_true, decide_eq_true_eq] at e
    exact (bef_iff h k i hl.1).2 ⟨i, hl.2, e.2.2, .inl rfl⟩
  | m + 1, i, k, e => by
    unfold tStage at e
    simp only [Bool.or_eq_true, Bool.and_eq_true, decide_eq_true_eq] at e
    rcases e with e | ⟨e1, e2, e3, e4⟩
    · exact tStage_bef h m i k e
    · exact bef_trans h k m i (tStage_bef h m m k e4) (tStage_bef h m i m e3)
theorem tStage_mono (h : List Ev) (i k : Nat) : ∀ s t, s ≤ t → tStage h s i k = true → tStage h t i k = true := by
  intro s t hst e
  induction t with
  | zero =>
    have : s = 0 := by omega
    subst this; exact e
  | succ t ih =>
    by_cases hs : s = t + 1
    · subst hs; exact e
    · unfold tStage
      rw [ih (by omega), Bool.true_or]
theorem bef_tStage (h : List Ev) : ∀ k, k < h.length → ∀ i, bef h k i = true → ∀ s, k ≤ s → tStage h s i k = true := by
  intro k
  induction k using Nat.strongRecOn with
  | ind k ih =>
    intro hk i hb s hs
    obtain ⟨m, hm, hd, hc⟩ := (bef_iff h k i hk).1 hb
    have h0 : tStage h 0 m k = true := by
      unfold tStage tAll
      simp only [Bool.and_eq_true, decide_eq_true_eq]
      exact ⟨hk, hm, hd⟩
    rcases hc with rfl | hc
    · exact tStage_mono h m k 0 s (Nat.zero_le _) h0
    · have h1 := ih m hm (by omega) i hc m (Nat.le_refl _)
      have h2 := tStage_mono h m k 0 m (Nat.zero_le _) h0
      have hi := (tStage_lt h m i m h1).2
      refine tStage_mono h i k (m + 1) s (by omega) ?_
      unfold tStage
      rw [h1, h2]
      simp only [Bool.and_self, Bool.and_true, Bool.or_eq_true, Bool.and_eq_true, decide_eq_true_eq]
      exact .inr ⟨hi, hm⟩
theorem tStage_all (h : List Ev) (i k : Nat) : tStage h h.length i k = bef h k i := by
  rw [Bool.eq_iff_iff]
  refine ⟨tStage_bef h _ i k, fun hb => ?_⟩
  by_cases hk : k < h.length
  · exact bef_tStage h k hk i hb _ (by omega)
  · rw [bef_none h k i (by omega)] at hb; cases hb
/-! The tables, step by step -/
theorem tIni_zero (h : List Ev) (i k : Nat) : tIni h 0 0 i k = false := by unfold tIni; simp
theorem tIni_row (h : List Ev) (i0 i k : Nat) : tIni h i0 h.length i k = tIni h (i0 + 1) 0 i k := by
  unfold tIni tAll
  by_cases hk : k < h.length
  · rw [decide_eq_true hk]
    by_cases h1 : i < i0
    · rw [decide_eq_true h1, decide_eq_true (show i < i0 + 1 by omega)]; simp
    · by_cases h2 : i = i0
      · rw [decide_eq_false h1, decide_eq_true h2, decide_eq_true (show i < i0 + 1 by omega)]; simp
      · rw [decide_eq_false h1, decide_eq_false h2, decide_eq_false (show ¬ i < i0 + 1 by omega)]; simp
  · rw [decide_eq_false hk]; simp
theorem tIni_all (h : List Ev) (i k : Nat) : tIni h h.length 0 i k = tStage h 0 i k := by
  unfold tIni tStage
  by_cases hk : tAll h i k = true
  · have := tStage_lt h 0 i k hk
    rw [hk, decide_eq_true (show i < h.length by omega)]; simp
  · rw [Bool.eq_false_iff.2 hk]; simp
theorem tIni_step (h : List Ev) (i0 k0 i k : Nat) : tIni h i0 (k0 + 1) i k = if i = i0 ∧ k = k0 then tAll h i0 k0 else tIni h i0 k0 i k := by
  unfold tIni
  by_cases h1 : i = i0 ∧ k = k0
  · rw [if_pos h1, h1.1, h1.2]; simp
  · rw [if_neg h1]
    congr 2
    by_cases h2 : i = i0
    · rw [decide_eq_true h2, Bool.true_and, Bool.true_and]
      by_cases h3 : k < k0
      · rw [decide_eq_true h3, decide_eq_true (show k < k0 + 1 by omega)]
      · have : k ≠ k0 := fun e => h1 ⟨h2, e⟩
        rw [decide_eq_false h3, decide_eq_false (show ¬ k < k0 + 1 by omega)]
    · rw [decide_eq_false h2, Bool.false_and, Bool.false_and]
theorem tMid_zero (h : List Ev) (m i k : Nat) : tMid h m 0 0 i k = tStage h m i k := by unfold tMid; simp
theorem tMid_row (h : List Ev) (m i0 i k : Nat) : tMid h m i0 h.length i k = tMid h m (i0 + 1) 0 i k := by
  unfold tMid
  by_cases hk : k < h.length
  · rw [decide_eq_true hk]
    by_cases h1 : i < i0
    · rw [decide_eq_true h1, decide_eq_true (show i < i0 + 1 by omega)]; simp
    · by_cases h2 : i = i0
      · rw [decide_eq_false h1, decide_eq_true h2, decide_eq_true (show i < i0 + 1 by omega)]; simp
      · rw [decide_eq_false h1, decide_eq_false h2, decide_eq_false (show ¬ i < i0 + 1 by omega)]; simp
  · cases h3 : tStage h m m k
    · simp
    · exact absurd (tStage_lt h m m k h3).1 hk
theorem tMid_all (h : List Ev) (m i k : Nat) : tMid h m m 0 i k = tStage h (m + 1) i k := by
  unfold tMid
  conv => rhs; unfold tStage
  congr 1
  by_cases h1 : i < m
  · rw [decide_eq_true h1]; simp
  · rw [decide_eq_false h1]; simp
theorem tMid_step (h : List Ev) (m i0 k0 i k : Nat) (hi : i0 < m) (hk : m < k0) (h1 : tStage h m i0 m = true) : tMid h m i0 (k0 + 1) i k = if i = i0 ∧ k = k0 then (tMid h m i0 k0 i0 k0 || tStage h m m k0) else tMid h m i0 k0 i k := by
  unfold tMid
  by_cases h2 : i = i0 ∧ k = k0
  · rw [if_pos h2, h2.1, h2.2, h1]; simp [hi, hk]
  · rw [if_neg h2]
    congr 3
    by_cases h3 : i = i0
    · rw [decide_eq_true h3, Bool.true_and, Bool.true_and]
      by_cases h4 : k < k0
      · rw [decide_eq_true h4, decide_eq_true (show k < k0 + 1 by omega)]
      · have : k ≠ k0 := fun e => h2 ⟨h3, e⟩
        rw [decide_eq_false h4, decide_eq_false (show ¬ k < k0 + 1 by omega)]
    · rw [decide_eq_false h3, Bool.false_and, Bool.false_and]
theorem tMid_low (h : List Ev) (m i0 k0 i k : Nat) (hk : k ≤ m) : tMid h m i0 k0 i k = tStage h m i k := by
  unfold tMid
  rw [decide_eq_false (show ¬ m < k by omega)]; simp
theorem tMid_own (h : List Ev) (m i0 k0 k : Nat) : tMid h m i0 k0 m k = tStage h m m k := by
  unfold tMid
  rw [decide_eq_false (show ¬ m < m by omega)]; simp
theorem tMid_skip (h : List Ev) (m i0 i k : Nat) (h1 : tStage h m i0 m = false) : tMid h m i0 0 i k = tMid h m (i0 + 1) 0 i k := by
  unfold tMid
  by_cases h2 : i = i0
  · rw [h2, h1]; simp
  · by_cases h3 : i < i0
    · rw [decide_eq_true h3, decide_eq_true (show i < i0 + 1 by omega)]; simp
    · rw [decide_eq_false h3, decide_eq_false (show ¬ i < i0 + 1 by omega)]; simp
theorem tMid_first (h : List Ev) (m i0 i k : Nat) : tMid h m i0 (m + 1) i k = tMid h m i0 0 i k := by
  unfold tMid
  by_cases hk : m < k
  · rw [decide_eq_false (show ¬ k < m + 1 by omega)]; simp
  · rw [decide_eq_false hk]; simp
theorem tIni_first (h : List Ev) (i0 i k : Nat) : tIni h i0 (i0 + 1) i k = tIni h i0 0 i k := by
  unfold tIni
  cases ht : tAll h i k
  · simp
  · have h1 := (tStage_lt h 0 i k ht).2
    by_cases h2 : i = i0
    · rw [decide_eq_false (show ¬ k < i0 + 1 by omega)]; simp
    · rw [decide_eq_false h2]; simp
end Go.Proofs.YtgjjilehpgnjhaaDoor
