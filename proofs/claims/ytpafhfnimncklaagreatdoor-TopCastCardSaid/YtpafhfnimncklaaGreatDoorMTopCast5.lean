/- A law for a drawn region: some slots are moved first, the rest of the first n operations read, the others come in a given order. -/
import Derived.Test.YtpafhfnimncklaaGreatDoorMTopCast4
import Derived.Test.YtpafhfnimncklaaGreatDoorMTopCast2
import Derived.Deep.DeepCutAuto
import Derived.Deep.CutBlock
import Derived.Lib.SliceRun
namespace Go.Proofs.YtpafhfnimncklaaGreatDoor
set_option linter.unusedVariables false
set_option linter.unusedSimpArgs false
open Go.RowKit
section
variable {P : Program} {ops : Array Oper} {md : Region.Mode}
structure HInv (md : Region.Mode) (ops : Array Oper) (n : Nat) (m : List Nat) (listed : Array Bool) : Prop where
  size : listed.size = ops.size
  closed : ∀ j oj, ops[j]? = some oj → listed.getD j false = true → ∀ e ∈ oj.after, Region.binds md e = true → listed.getD e.on false = true
  tail : ∀ t, n ≤ t → t < ops.size → t ∉ m → listed.getD t true = false
theorem HInv.set {n i : Nat} {m : List Nat} {listed : Array Bool} (inv : HInv md ops n m listed) (hi : i ∈ Region.ready md ops listed) (hin : i < n ∨ i ∈ m) : HInv md ops n m (listed.setIfInBounds i true) := by
  obtain ⟨_, oi, hoi, hall⟩ := mem_ready.1 hi
  refine ⟨by simp [inv.size], fun j oj hj hl e he hb => ?_, fun t ht ht' htm => by
    rw [getD_set_ne true (fun e => by
      subst e
      rcases hin with h | h
      · omega
      · exact htm h)]; exact inv.tail t ht ht' htm⟩
  by_cases hij : i = j
  · subst hij
    have : oj = oi := Option.some.inj (hj.symm.trans hoi)
    subst this
    exact getD_set_true (hall e he hb)
  · rw [getD_set_ne false hij] at hl
    exact getD_set_true (inv.closed j oj hj hl e he hb)
/-- Each operation behind n that is not moved first waits for one such from n on. -/
def linkX (md : Region.Mode) (ops : Array Oper) (n : Nat) (m : List Nat) : Bool :=
  !m.contains n && (List.range ops.size).all fun t => decide (t ≤ n) || m.contains t || (List.range t).any fun s => decide (n ≤ s) && !m.contains s && Region.waitsFor md ops t s
def sinkX (md : Region.Mode) (ops : Array Oper) (n : Nat) (m : List Nat) : Bool :=
  (List.range n).all fun i => m.contains i || (List.range (n + 1)).any fun j => decide (i < j) && Region.waitsFor md ops j i
theorem none_aheadX {n : Nat} {m : List Nat} {listed : Array Bool} (hs : sinkX md ops n m = true) (hl : linkX md ops n m = true) (inv : HInv md ops n m listed) (hm : ∀ i ∈ m, listed.getD i false = true) {i : Nat} (hi : i < n) (hun : listed.getD i true = false) :
    ∀ t, n ≤ t → t ∉ Region.ready md ops listed := by
  have key : ∀ (d i : Nat), n - i = d → i < n → listed.getD i true = false → n ∉ Region.ready md ops listed := by
    intro d
    induction d using Nat.strongRecOn with
    | _ d ih =>
      intro i hd hi hun hr
      have huni := getD_both hun
      obtain ⟨_, on, hon, hall⟩ := mem_ready.1 hr
      have h0 := List.all_eq_true.1 hs i (List.mem_range.2 hi)
      rw [Bool.or_eq_true] at h0
      rcases h0 with h0 | h0
      · have := hm i (by simpa using h0)
        rw [huni] at this; cases this
      obtain ⟨j, hj, hj2⟩ := List.any_eq_true.1 h0
      simp only [Bool.and_eq_true, decide_eq_true_eq] at hj2
      obtain ⟨oj, hoj, e, he, hb, heon⟩ := Region.waitsFor_spec hj2.2
      have hjn := List.mem_range.1 hj
      by_cases hjt : j = n
      · subst hjt
        rw [hoj] at hon; cases hon
        have := hall e he hb
        rw [heon, huni] at this; cases this
      · cases hlj : listed.getD j false with
        | true =>
          have := inv.closed j oj hoj hlj e he hb
          rw [heon, huni] at this; cases this
        | false => exact ih (n - j) (by omega) j rfl (by omega) (getD_in (by rw [inv.size]; exact (Array.getElem?_eq_some_iff.1 hoj).1) hlj) hr
  intro t ht hr
  rcases Nat.eq_or_lt_of_le ht with rfl | hlt
  · exact key _ i rfl hi hun hr
  · obtain ⟨_, ot, hot, hall⟩ := mem_ready.1 hr
    have htlt : t < ops.size := (Array.getElem?_eq_some_iff.1 hot).1
    have hl' := hl
    simp only [linkX, Bool.and_eq_true] at hl'
    have h1 := List.all_eq_true.1 hl'.2 t (List.mem_range.2 htlt)
    simp only [Bool.or_eq_true, decide_eq_true_eq] at h1
    rcases h1 with (h1 | h1) | h1
    · omega
    · have := hm t (by simpa using h1)
      obtain ⟨hrl, _⟩ := mem_ready.1 hr
      rw [getD_both hrl] at this; cases this
    · obtain ⟨s, hs1, hs2⟩ := List.any_eq_true.1 h1
      simp only [Bool.and_eq_true, decide_eq_true_eq] at hs2
      have hst := List.mem_range.1 hs1
      obtain ⟨o', ho', e, he, hb, heon⟩ := Region.waitsFor_spec hs2.2
      rw [hot] at ho'; cases ho'
      have := hall e he hb
      rw [heon, getD_both (inv.tail s hs2.1.1 (by omega) (by simpa using hs2.1.2))] at this
      cases this
theorem head_takeX {w : World} {n i : Nat} {m : List Nat} {oi : Oper} {v : Value} {L : Array Bool → Act → Prop} (hi : ops[i]? = some oi) (hsel : Region.noSelect ops = true)
    (hs : sinkX md ops n m = true) (hl : linkX md ops n m = true) (hin : i < n) (hdone : ∀ listed a, L listed a → ∀ j ∈ Region.ready md ops listed, n ≤ j) :
    ∀ (f : Nat) (listed : Array Bool) (a : Act), HInv md ops n m listed → (∀ i ∈ m, listed.getD i false = true) →
      (∀ j oj, ops[j]? = some oj → j ≠ i → listed.getD j true = false → (∀ e ∈ oj.after, Region.binds md e = true → e.on ≠ i) → oi.apart ops oj = true) →
      i ∈ Region.ready md ops listed → YieldsAt P ops w oi v a →
      wpAnyL P md ops w n L f (listed.setIfInBounds i true) (a.put oi.dst v) → wpAnyL P md ops w n L (f + 1) listed a := by
  have sel := Region.noSelect_spec hsel
  intro f
  induction f with
  | zero =>
    intro listed a inv hm _ hr hy H
    have hun := (mem_ready.1 hr).1
    refine ⟨List.ne_nil_of_mem hr, fun j hj => ?_⟩
    have hjn : j < n := Nat.lt_of_not_le fun h => none_aheadX hs hl inv hm hin hun j h hj
    by_cases hji : j = i
    · subst hji; exact ⟨hjn, hy.stOp hi H⟩
    · have := hdone _ _ H j (ready_mono hj hji)
      omega
  | succ f ih =>
    intro listed a inv hm hfree hr hy H
    have hun := (mem_ready.1 hr).1
    refine ⟨List.ne_nil_of_mem hr, fun j hj => ?_⟩
    have hjn : j < n := Nat.lt_of_not_le fun h => none_aheadX hs hl inv hm hin hun j h hj
    refine ⟨hjn, ?_⟩
    by_cases hji : j = i
    · subst hji; exact hy.stOp hi H
    obtain ⟨hjun, oj, hoj, hall⟩ := mem_ready.1 hj
    have hnot : ∀ e ∈ oj.after, Region.binds md e = true → e.on ≠ i := fun e he hb heq => by
      have h1 := hall e he hb
      rw [heq, getD_both hun] at h1
      cases h1
    have h2 := stOp_put hoj (hfree j oj hoj hji hjun hnot) (sel i oi · · hi) (sel j oj · · hoj) hy (H.2 j (ready_mono hj hji)).2
    refine stOp_mono (fun a' h3 => ih _ a' (inv.set hj (.inl hjn)) (fun k hk => getD_set_true (hm k hk)) (fun k ok hk hki hun' hno => hfree k ok hk hki ?_ hno) (ready_mono hr (Ne.symm hji)) h3.1 ?_) h2
    · by_cases hjk : j = k
      · subst hjk; exact hjun
      · rwa [getD_set_ne true hjk] at hun'
    · rw [Array.setIfInBounds_comm _ _ hji]
      exact h3.2
def headX (md : Region.Mode) (ops : Array Oper) (r : List Nat) (n : Nat) : List Nat → Array Bool → Bool
  | [], listed => (List.range n).all (fun i => listed.getD i false) && ordB md ops r listed
  | k :: l, listed => decide (k < n) && (Region.ready md ops listed).contains k && Region.free md ops listed k && headX md ops r n l (listed.setIfInBounds k true)
theorem getD_true_of {listed : Array Bool} {i : Nat} (h : listed.getD i false = true) : listed.getD i true = true := by
  rcases Nat.lt_or_ge i listed.size with h' | h'
  · simp [h'] at h ⊢; exact h
  · simp [Array.getElem?_eq_none h'] at h
theorem wpAnyL_planX {w : World} {n : Nat} {m r : List Nat} {Lq : Act → Prop} {L0 : List Oper} (hops : ops = L0.toArray) (hsel : Region.noSelect ops = true) (hs : sinkX md ops n m = true) (hl : linkX md ops n m = true) :
    ∀ (l : List Nat) (listed : Array Bool) (a : Act), HInv md ops n m listed → (∀ i ∈ m, listed.getD i false = true) →
    headX md ops r n l listed = true → wpStill P ops w Lq (pick L0 l) a →
    wpAnyL P md ops w n (fun listed' a' => ((∀ i < n, listed'.getD i true = true) ∧ ordB md ops r listed' = true) ∧ Lq a') l.length listed a
  | [], listed, a, _, _, hB, h => by
    simp only [headX, Bool.and_eq_true] at hB
    exact ⟨⟨fun i hi => getD_true_of (by simpa using List.all_eq_true.1 hB.1 i (List.mem_range.2 hi)), hB.2⟩, h⟩
  | k :: l, listed, a, inv, hm, hB, h => by
    simp only [headX, Bool.and_eq_true, decide_eq_true_eq] at hB
    obtain ⟨⟨⟨hkn, hr⟩, hf⟩, hB'⟩ := hB
    have hr' : k ∈ Region.ready md ops listed := by simpa using hr
    obtain ⟨_, o, h0, _⟩ := mem_ready.1 hr'
    have h0' : L0[k]? = some o := by rw [hops] at h0; simpa using h0
    simp only [pick, h0', Option.toList, List.cons_append, List.nil_append] at h
    have hst : stOp P ops w k (wpStill P ops w Lq (pick L0 l)) a := by unfold stOp; simp only [h0]; exact h
    obtain ⟨v, hy, hK⟩ := yieldsAt_of_stOp h0 hst
    refine head_takeX h0 hsel hs hl hkn (fun listed' a' hL => ordB_ready hL.1.2 hL.1.1) l.length listed a inv hm (Region.free_spec h0 hf) hr' hy ?_
    exact wpAnyL_planX hops hsel hs hl l _ _ (inv.set hr' (.inl hkn)) (fun i hi => getD_set_true (hm i hi)) hB' hK
/-- What is taken first, whatever the world. -/
def preX (md : Region.Mode) (ops : Array Oper) : List Nat → Array Bool → Option (Array Bool)
  | [], listed => some listed
  | k :: l, listed => if (Region.ready md ops listed).contains k && Region.free md ops listed k then preX md ops l (listed.setIfInBounds k true) else none
theorem preX_mono : ∀ (l : List Nat) (listed out : Array Bool), preX md ops l listed = some out → (∀ i, listed.getD i false = true → out.getD i false = true)
  | [], listed, out, h => by simp only [preX, Option.some.injEq] at h; subst h; exact fun _ h => h
  | k :: l, listed, out, h => by
    unfold preX at h
    split at h
    · exact fun i hi => preX_mono l _ out h i (getD_set_true hi)
    · cases h
theorem preX_inv {n : Nat} {m : List Nat} : ∀ (l : List Nat) (listed out : Array Bool), (∀ i ∈ l, i ∈ m) → HInv md ops n m listed → preX md ops l listed = some out → HInv md ops n m out ∧ (∀ i ∈ l, out.getD i false = true)
  | [], listed, out, _, inv, h => by simp only [preX, Option.some.injEq] at h; subst h; exact ⟨inv, fun i hi => by cases hi⟩
  | k :: l, listed, out, hm, inv, h => by
    unfold preX at h
    split at h
    · rename_i hc
      simp only [Bool.and_eq_true] at hc
      have hr' : k ∈ Region.ready md ops listed := by simpa using hc.1
      obtain ⟨a, b⟩ := preX_inv l _ out (fun i hi => hm i (by simp [hi])) (inv.set hr' (.inr (hm k (by simp)))) h
      refine ⟨a, fun i hi => ?_⟩
      rcases List.mem_cons.1 hi with rfl | hi
      · obtain ⟨_, o, ho, _⟩ := mem_ready.1 hr'
        have hlt : i < listed.size := by rw [inv.size]; exact (Array.getElem?_eq_some_iff.1 ho).1
        exact preX_mono l _ out h i (by simp [hlt])
      · exact b i hi
    · cases h
/-- The values of what is taken first. -/
def wpPure (P : Program) (ops : Array Oper) (K : Act → Prop) : List Oper → Act → Prop
  | [], a => K a
  | o :: l, a => ∃ v, Yields P ops o v a ∧ wpPure P ops K l (a.put o.dst v)
theorem wpPure_nil {K : Act → Prop} {a : Act} (h : K a) : wpPure P ops K [] a := h
theorem wpPure_step {K : Act → Prop} {a : Act} {o : Oper} {l : List Oper} (v : Value) (hg : o.guard = none) (hv : ∀ w, (execOp a.eval o).run P w = .ok (.value v) w) (h : wpPure P ops K l (a.put o.dst v)) : wpPure P ops K (o :: l) a :=
  ⟨v, .inl ⟨by simp [Region.wanted, hg], hv⟩, h⟩
theorem wpAny_pre {w : World} {f : Nat} {L0 : List Oper} {Q : Exit → Act → World → Prop} {K : Act → Prop} (hops : ops = L0.toArray) (hsel : Region.noSelect ops = true) (hQ : ∀ d v c a w, Q (.panic c) (Act.put a d v) w → Q (.panic c) a w) :
    ∀ (m : List Nat) (listed out : Array Bool) (a : Act), preX md ops m listed = some out → wpPure P ops K (pick L0 m) a → (∀ a', K a' → wpAny P md ops Q f out a' w) → wpAny P md ops Q (m.length + f) listed a w
  | [], listed, out, a, hp, h, hK => by
    simp only [preX, Option.some.injEq] at hp; subst hp
    rw [List.length_nil, Nat.zero_add]
    exact hK a h
  | k :: m, listed, out, a, hp, h, hK => by
    unfold preX at hp
    split at hp
    · rename_i hc
      simp only [Bool.and_eq_true] at hc
      have hr' : k ∈ Region.ready md ops listed := by simpa using hc.1
      obtain ⟨_, o, h0, _⟩ := mem_ready.1 hr'
      have h0' : L0[k]? = some o := by rw [hops] at h0; simpa using h0
      simp only [pick, h0', Option.toList, List.cons_append, List.nil_append] at h
      obtain ⟨v, hy, hK'⟩ := h
      rw [show (k :: m).length + f = (m.length + f) + 1 by simp only [List.length_cons]; omega]
      exact wpAny_take h0 hsel hc.2 hc.1 (fun c a w => hQ o.dst v c a w) hy (wpAny_pre hops hsel hQ m _ out _ hp hK' hK)
    · cases hp
def planX (ops : Array Oper) (n : Nat) (m r : List Nat) : Bool :=
  Region.noSelect ops && decide (n < ops.size) && true && sinkX .any ops n m && linkX .any ops n m && (match preX .any ops m (Array.replicate ops.size false) with | some listed => headX .any ops r n ((List.range n).filter fun i => !m.contains i) listed | none => false) && decide (m.length + (((List.range n).filter fun i => !m.contains i).length + r.length) = ops.size)
theorem wp_region_planX {id : Nat} {Q : Exit → Act → World → Prop} {a : Act} {w : World} {l : List Oper} (n : Nat) (m r : List Nat) (hm : P.follows .mixedOrders = true) (hB : planX l.toArray n m r = true)
    (h : wpPure P l.toArray (fun a1 => wpStill P l.toArray w.drew (fun a' => wpList P l.toArray (NoPanic Q) (pick l r) a' w.drew) (pick l ((List.range n).filter fun i => !m.contains i)) a1) (pick l m) a) : (Code.region id l.toArray true).wp P Q a w := by
  refine wp_region_noPanic ?_
  simp only [planX, Bool.and_eq_true, decide_eq_true_eq] at hB
  obtain ⟨⟨⟨⟨⟨⟨hsel, hn⟩, _⟩, hs⟩, hl⟩, hh⟩, hlen⟩ := hB
  have inv0 : HInv .any l.toArray n m (Array.replicate l.toArray.size false) :=
    ⟨by simp, fun j oj _ hl => (by rw [getD_replicate_false] at hl; cases hl), fun t _ ht _ => getD_in (by simpa using ht) (getD_replicate_false _ _)⟩
  cases hp : preX .any l.toArray m (Array.replicate l.toArray.size false) with
  | none => rw [hp] at hh; cases hh
  | some out =>
    rw [hp] at hh
    obtain ⟨inv1, hmo⟩ := preX_inv m _ out (fun _ h => h) inv0 hp
    refine wp_region_any hm ?_
    have hQ : ∀ d v c a w, NoPanic Q (.panic c) (Act.put a d v) w → NoPanic Q (.panic c) a w := fun _ _ _ _ _ h => h.elim
    have H := wpAny_pre (P := P) (md := .any) (f := ((List.range n).filter fun i => !m.contains i).length + r.length) (Q := NoPanic Q) rfl hsel hQ m _ out a hp h (fun a1 h1 => by
      have H1 := wpAnyL_planX (md := .any) (r := r) rfl hsel hs hl _ out a1 inv1 hmo hh h1
      exact wpAny_of_head (Q' := NoPanic Q) (g := r.length) (fun listed a' hL => wpAny_of_ord hsel hQ r listed a' _ hL.1.2 hL.2) _ _ _ H1)
    rw [hlen] at H
    exact H
end
end Go.Proofs.YtpafhfnimncklaaGreatDoor
/- A law for a drawn region in which reads stand beside writes: what is read is the same in every world that meets S, and each write shows S anew; the last operations come one behind the other. -/
namespace Go.Proofs.YtpafhfnimncklaaGreatDoor
set_option linter.unusedVariables false
set_option linter.unusedSimpArgs false
open Go.RowKit
section
variable {P : Program} {ops : Array Oper} {md : Region.Mode} {S : World → Prop} {Q : Exit → Act → World → Prop}
def wpMix (P : Program) (ops : Array Oper) (S : World → Prop) (Q : Exit → Act → World → Prop) (K : Act → World → Prop) : List (Bool × Oper) → Act → World → Prop
  | [], a, w => K a w
  | (true, o) :: l, a, w => ∃ v, YieldsIf P ops S o v a ∧ wpMix P ops S Q K l (a.put o.dst v) w
  | (false, o) :: l, a, w => if Region.wanted o (yielded ops a.tmps) = true then (o.wp P a w (fun a' w' => S w' ∧ wpMix P ops S Q K l a' w') Q ∨ (o.asks P a w ∧ LetsOut Q)) else S w ∧ wpMix P ops S Q K l (a.put o.dst undef) w
theorem wpMix_nil {K : Act → World → Prop} {a : Act} {w : World} (h : K a w) : wpMix P ops S Q K [] a w := h
theorem wpMix_read {K : Act → World → Prop} {a : Act} {w : World} {o : Oper} {l : List (Bool × Oper)} (v : Value) (hg : o.guard = none) (hv : ∀ w, S w → (execOp a.eval o).run P w = .ok (.value v) w) (h : wpMix P ops S Q K l (a.put o.dst v) w) : wpMix P ops S Q K ((true, o) :: l) a w :=
  ⟨v, .inl ⟨by simp [Region.wanted, hg], hv⟩, h⟩
theorem wpMix_write {K : Act → World → Prop} {a : Act} {w : World} {o : Oper} {l : List (Bool × Oper)}
    (h : ∀ K' : Act → World → Prop, (∀ a' w', (S w' ∧ wpMix P ops S Q K l a' w') → K' a' w') → if Region.wanted o (yielded ops a.tmps) = true then Oper.wp P o a w K' Q else K' (a.put o.dst undef) w) : wpMix P ops S Q K ((false, o) :: l) a w := by
  have h1 := h _ (fun _ _ h => h)
  unfold wpMix
  split
  · rename_i hw; rw [if_pos hw] at h1; exact .inl h1
  · rename_i hw; rw [if_neg hw] at h1; exact h1
/-- The walk's first part: S holds behind each operation; L at its end. -/
def wpAnyHL (P : Program) (md : Region.Mode) (ops : Array Oper) (Q : Exit → Act → World → Prop) (S : World → Prop) (L : Array Bool → Act → World → Prop) : Nat → Array Bool → Act → World → Prop
  | 0, listed, a, w => L listed a w
  | f + 1, listed, a, w => Region.ready md ops listed ≠ [] ∧ ∀ i ∈ Region.ready md ops listed, wpOp P ops Q i (fun a' w' => S w' ∧ wpAnyHL P md ops Q S L f (listed.setIfInBounds i true) a' w') a w
theorem wpAny_of_HL {g : Nat} {L : Array Bool → Act → World → Prop} (hL : ∀ listed a w, L listed a w → wpAny P md ops Q g listed a w) :
    ∀ (f : Nat) (listed : Array Bool) (a : Act) (w : World), wpAnyHL P md ops Q S L f listed a w → wpAny P md ops Q (f + g) listed a w
  | 0, listed, a, w, h => by rw [Nat.zero_add]; exact hL _ _ _ h
  | f + 1, listed, a, w, h => by
    rw [show f + 1 + g = (f + g) + 1 by omega]
    exact ⟨fun h0 => absurd h0 h.1, fun i hi => wpOp_mono (fun a' w' h' => wpAny_of_HL hL f _ a' w' h'.2) (h.2 i hi)⟩
theorem head_takeH {n i : Nat} {m : List Nat} {oi : Oper} {v : Value} {L : Array Bool → Act → World → Prop} (hi : ops[i]? = some oi) (hsel : Region.noSelect ops = true)
    (hQ : ∀ d v c a w, Q (.panic c) (Act.put a d v) w → Q (.panic c) a w)
    (hs : sinkX md ops n m = true) (hl : linkX md ops n m = true) (hin : i < n) (hdone : ∀ listed a w, L listed a w → ∀ j ∈ Region.ready md ops listed, n ≤ j) :
    ∀ (f : Nat) (listed : Array Bool) (a : Act) (w : World), HInv md ops n m listed → (∀ i ∈ m, listed.getD i false = true) →
      (∀ j oj, ops[j]? = some oj → j ≠ i → listed.getD j true = false → (∀ e ∈ oj.after, Region.binds md e = true → e.on ≠ i) → oi.apart ops oj = true) →
      i ∈ Region.ready md ops listed → YieldsIf P ops S oi v a → S w →
      wpAnyHL P md ops Q S L f (listed.setIfInBounds i true) (a.put oi.dst v) w → wpAnyHL P md ops Q S L (f + 1) listed a w := by
  have sel := Region.noSelect_spec hsel
  intro f
  induction f with
  | zero =>
    intro listed a w inv hm _ hr hy hS H
    have hun := (mem_ready.1 hr).1
    refine ⟨List.ne_nil_of_mem hr, fun j hj => ?_⟩
    have hjn : j < n := Nat.lt_of_not_le fun h => none_aheadX hs hl inv hm hin hun j h hj
    by_cases hji : j = i
    · subst hji; exact hy.wpOp hi hS ⟨hS, H⟩
    · have := hdone _ _ _ H j (ready_mono hj hji)
      omega
  | succ f ih =>
    intro listed a w inv hm hfree hr hy hS H
    have hun := (mem_ready.1 hr).1
    refine ⟨List.ne_nil_of_mem hr, fun j hj => ?_⟩
    have hjn : j < n := Nat.lt_of_not_le fun h => none_aheadX hs hl inv hm hin hun j h hj
    by_cases hji : j = i
    · subst hji; exact hy.wpOp hi hS ⟨hS, H⟩
    obtain ⟨hjun, oj, hoj, hall⟩ := mem_ready.1 hj
    have hnot : ∀ e ∈ oj.after, Region.binds md e = true → e.on ≠ i := fun e he hb heq => by
      have h1 := hall e he hb
      rw [heq, getD_both hun] at h1
      cases h1
    have h2 := wpOp_putIf hoj (hfree j oj hoj hji hjun hnot) (sel i oi · · hi) (sel j oj · · hoj) (fun c a w => hQ oi.dst v c a w) hy (H.2 j (ready_mono hj hji))
    refine wpOp_mono (fun a' w' h3 => ⟨h3.2.1, ih _ a' w' (inv.set hj (.inl hjn)) (fun k hk => getD_set_true (hm k hk)) (fun k ok hk hki hun' hno => hfree k ok hk hki ?_ hno) (ready_mono hr (Ne.symm hji)) h3.1 h3.2.1 ?_⟩) h2
    · by_cases hjk : j = k
      · subst hjk; exact hjun
      · rwa [getD_set_ne true hjk] at hun'
    · rw [Array.setIfInBounds_comm _ _ hji]
      exact h3.2.2
/-- An order of the first n: what reads is taken as soon as it may; what writes is the only one that may come up. -/
def headH (md : Region.Mode) (ops : Array Oper) (r : List Nat) (n : Nat) : List (Bool × Nat) → Array Bool → Bool
  | [], listed => (List.range n).all (fun i => listed.getD i false) && ordB md ops r listed
  | (true, k) :: l, listed => decide (k < n) && (Region.ready md ops listed).contains k && Region.free md ops listed k && headH md ops r n l (listed.setIfInBounds k true)
  | (false, k) :: l, listed => decide (k < n) && decide (Region.ready md ops listed = [k]) && headH md ops r n l (listed.setIfInBounds k true)
def pickH (l : List Oper) : List (Bool × Nat) → List (Bool × Oper)
  | [] => []
  | (b, k) :: r => ((l[k]?).map fun o => (b, o)).toList ++ pickH l r
theorem wpAnyHL_plan {n : Nat} {m r : List Nat} {Lq : Act → World → Prop} {L0 : List Oper} (hops : ops = L0.toArray) (hsel : Region.noSelect ops = true) (hQ : ∀ d v c a w, Q (.panic c) (Act.put a d v) w → Q (.panic c) a w) (hs : sinkX md ops n m = true) (hl : linkX md ops n m = true) :
    ∀ (l : List (Bool × Nat)) (listed : Array Bool) (a : Act) (w : World), HInv md ops n m listed → (∀ i ∈ m, listed.getD i false = true) → S w →
    headH md ops r n l listed = true → wpMix P ops S Q Lq (pickH L0 l) a w →
    wpAnyHL P md ops Q S (fun listed' a' w' => ((∀ i < n, listed'.getD i true = true) ∧ ordB md ops r listed' = true) ∧ Lq a' w') l.length listed a w
  | [], listed, a, w, _, _, _, hB, h => by
    simp only [headH, Bool.and_eq_true] at hB
    exact ⟨⟨fun i hi => getD_true_of (by simpa using List.all_eq_true.1 hB.1 i (List.mem_range.2 hi)), hB.2⟩, h⟩
  | (true, k) :: l, listed, a, w, inv, hm, hS, hB, h => by
    simp only [headH, Bool.and_eq_true, decide_eq_true_eq] at hB
    obtain ⟨⟨⟨hkn, hr⟩, hf⟩, hB'⟩ := hB
    have hr' : k ∈ Region.ready md ops listed := by simpa using hr
    obtain ⟨_, o, h0, _⟩ := mem_ready.1 hr'
    have h0' : L0[k]? = some o := by rw [hops] at h0; simpa using h0
    simp only [pickH, h0', Option.map_some, Option.toList, List.cons_append, List.nil_append] at h
    obtain ⟨v, hy, hK⟩ := h
    refine head_takeH h0 hsel hQ hs hl hkn (fun listed' a' w' hL => ordB_ready hL.1.2 hL.1.1) l.length listed a w inv hm (Region.free_spec h0 hf) hr' hy hS ?_
    exact wpAnyHL_plan hops hsel hQ hs hl l _ _ _ (inv.set hr' (.inl hkn)) (fun i hi => getD_set_true (hm i hi)) hS hB' hK
  | (false, k) :: l, listed, a, w, inv, hm, hS, hB, h => by
    simp only [headH, Bool.and_eq_true, decide_eq_true_eq] at hB
    obtain ⟨⟨hkn, hr⟩, hB'⟩ := hB
    have hr' : k ∈ Region.ready md ops listed := by rw [hr]; simp
    obtain ⟨_, o, h0, _⟩ := mem_ready.1 hr'
    have h0' : L0[k]? = some o := by rw [hops] at h0; simpa using h0
    simp only [pickH, h0', Option.map_some, Option.toList, List.cons_append, List.nil_append] at h
    refine ⟨List.ne_nil_of_mem hr', fun j hj => ?_⟩
    rw [hr] at hj
    have hjk : j = k := by simpa using hj
    subst hjk
    have inv' := inv.set hr' (.inl hkn)
    refine wpOp_mono (K := fun a' w' => S w' ∧ wpMix P ops S Q Lq (pickH L0 l) a' w') (fun a' w' h' => ⟨h'.1, wpAnyHL_plan hops hsel hQ hs hl l _ _ _ inv' (fun i hi => getD_set_true (hm i hi)) h'.1 hB' h'.2⟩) ?_
    unfold wpOp
    simp only [h0]
    exact h
def planH (ops : Array Oper) (n : Nat) (m : List Nat) (p : List (Bool × Nat)) (r : List Nat) : Bool :=
  Region.noSelect ops && sinkX .any ops n m && linkX .any ops n m && (match preX .any ops m (Array.replicate ops.size false) with | some listed => headH .any ops r n p listed | none => false) && decide (m.length + (p.length + r.length) = ops.size)
theorem wp_region_planH {id : Nat} {Q : Exit → Act → World → Prop} {a : Act} {w : World} {l : List Oper} (n : Nat) (m : List Nat) (p : List (Bool × Nat)) (r : List Nat) (S : World → Prop) (hm : P.follows .mixedOrders = true) (hB : planH l.toArray n m p r = true) (hS : S w.drew)
    (h : wpPure P l.toArray (fun a1 => wpMix P l.toArray S (NoPanic Q) (fun a' w' => wpList P l.toArray (NoPanic Q) (pick l r) a' w') (pickH l p) a1 w.drew) (pick l m) a) : (Code.region id l.toArray true).wp P Q a w := by
  refine wp_region_noPanic ?_
  simp only [planH, Bool.and_eq_true, decide_eq_true_eq] at hB
  obtain ⟨⟨⟨⟨hsel, hs⟩, hl⟩, hh⟩, hlen⟩ := hB
  have inv0 : HInv .any l.toArray n m (Array.replicate l.toArray.size false) :=
    ⟨by simp, fun j oj _ hl => (by rw [getD_replicate_false] at hl; cases hl), fun t _ ht _ => getD_in (by simpa using ht) (getD_replicate_false _ _)⟩
  cases hp : preX .any l.toArray m (Array.replicate l.toArray.size false) with
  | none => rw [hp] at hh; cases hh
  | some out =>
    rw [hp] at hh
    obtain ⟨inv1, hmo⟩ := preX_inv m _ out (fun _ h => h) inv0 hp
    refine wp_region_any hm ?_
    have hQ : ∀ d v c a w, NoPanic Q (.panic c) (Act.put a d v) w → NoPanic Q (.panic c) a w := fun _ _ _ _ _ h => h.elim
    have H := wpAny_pre (P := P) (md := .any) (w := w.drew) (f := p.length + r.length) (Q := NoPanic Q) rfl hsel hQ m _ out a hp h (fun a1 h1 => by
      have H1 := wpAnyHL_plan (md := .any) (r := r) rfl hsel hQ hs hl _ out a1 _ inv1 hmo hS hh h1
      exact wpAny_of_HL (g := r.length) (fun listed a' w' hL => wpAny_of_ord hsel hQ r listed a' w' hL.1.2 hL.2) _ _ _ _ H1)
    rw [hlen] at H
    exact H
/-- A quiet call in a region of reads: of a contract 'e = .. ∧ w = w''. -/
theorem quiet_same {f : FuncId} {args : Array Value} {w : World} {n : Nat} {v : Value} (h : Calls P f args (w.drewN n) fun e w' => e = .returned v ∧ w.drewN n = w') : Calls P f args (w.drewN n) fun e w'' => e = .returned v ∧ ∃ m, w'' = w.drewN m :=
  h.mono fun _ _ ⟨he, hm⟩ => ⟨he, n, hm.symm⟩
end
theorem wpMix_readW {P : Program} {ops : Array Oper} {S : World → Prop} {Q : Exit → Act → World → Prop} {K : Act → World → Prop} {a : Act} {w : World} {o : Oper} {l : List (Bool × Oper)} (v : Value) (hw : Region.wanted o (yielded ops a.tmps) = true) (hv : ∀ w, S w → (execOp a.eval o).run P w = .ok (.value v) w) (h : wpMix P ops S Q K l (a.put o.dst v) w) : wpMix P ops S Q K ((true, o) :: l) a w :=
  ⟨v, .inl ⟨hw, hv⟩, h⟩
end Go.Proofs.YtpafhfnimncklaaGreatDoor
/- Contracts of package view: what is wrong with members, and with a view. -/
namespace Go.Proofs.YtpafhfnimncklaaGreatDoor
set_option linter.unusedVariables false
set_option linter.unusedSimpArgs false
open Go.RowKit
def memGo : Int → List Int → Nat
  | _, [] => 0
  | last, m :: r => if isMember m = false then 1 else if m ≤ last then 3 else memGo m r
def memErr (l : List Int) : Nat := if l = [] then 5 else memGo (-1) l
def viewErr (n : Int) (l : List Int) : Nat := if isCount n = false then 1 else memErr l
end Go.Proofs.YtpafhfnimncklaaGreatDoor
/- Contracts of package view: who is shared by two lists. -/
namespace Go.Proofs.YtpafhfnimncklaaGreatDoor
set_option linter.unusedVariables false
set_option linter.unusedSimpArgs false
open Go.RowKit
theorem whereIs_spec (p : Int → Bool) : ∀ (l : List Int) (q : Nat), whereIs p l = q → ∃ (h : q < l.length), (∀ j (hj : j < q), p (l[j]'(by omega)) = false) ∧ p l[q] = true
  | [], q, h => by
    exfalso
    simp only [whereIs] at h
    omega
  | x :: r, q, h => by
    unfold whereIs at h
    by_cases hx : p x = true
    · rw [if_pos hx] at h
      have : q = 0 := by omega
      subst this
      exact ⟨by simp, fun j hj => by omega, by simpa using hx⟩
    · rw [if_neg hx] at h
      split at h
      · omega
      rename_i h0
      obtain ⟨q', rfl⟩ : ∃ q', q = q' + 1 := ⟨q - 1, by omega⟩
      obtain ⟨h1, h2, h3⟩ := whereIs_spec p r q' (by omega)
      refine ⟨by simp; omega, fun j hj => ?_, by simpa using h3⟩
      cases j with
      | zero => simpa using hx
      | succ j => simpa using h2 j (by omega)
def keepB (B : List Int) (l : List Int) : List Int := l.filter fun x => decide (x ∈ B)
/-- The front of a row kept, the rest cleared. -/
theorem clear_back {w0 w : World} {b off n cap i : Nat} {M : List Int} {R : HProp} (hi : i ≤ n) (hM : M.length = n) (h : Own w0 (IntSl (.slice (some ⟨b, off, none⟩) n cap) M * R) w) :
    (∀ j, j < n → (w.cell? ⟨b, off + j, none⟩).isSome = true) ∧ (∀ j, w.frozen? ⟨b, off + j, none⟩ = false) ∧ Own w0 (IntSl (.slice (some ⟨b, off, none⟩) i cap) (M.take i) * R) (w.setCells b (off + i) (List.replicate (n - i) (.int .i64 0))) := by
  unfold IntSl at h
  rw [hM] at h
  rcases h.sl_cases with ⟨h1, _⟩ | ⟨b', off', cap', cs, h1, h2, h3, h4, h5, h6, ho⟩
  · cases h1
  injection h1 with e1 e2 e3
  injection e1 with e1
  injection e1 with e1 e4
  subst e1; subst e4; subst e3
  rw [Nat.mul_one] at h4 h5
  have hlt : (M.take i).length = i := by rw [List.length_take]; omega
  refine ⟨fun j hj => ?_, fun j => ho.free _ _, ?_⟩
  · rw [ho.cell, h6 j (by omega)]
    simp [show j < M.length by omega]
  · unfold IntSl
    rw [hlt]
    refine Own.sl_mk (by omega) h3 (by simp; omega) (by rw [setL_size]; omega) (fun j hj => ?_) (Own.setCells _ _ _ _ ho)
    rw [List.length_map, hlt] at hj
    rw [setL_out _ _ _ _ (by left; omega), h6 j (by omega), List.getElem?_map, List.getElem?_map, List.getElem?_take, if_pos hj]
theorem int_zero : ∀ w, (zeroValue 3).run Tryz.prog w = .ok (.int .i64 0) w := fun _ => by kernel_rfl
end Go.Proofs.YtpafhfnimncklaaGreatDoor
/- Contracts of package view: Shared, most. -/
namespace Go.Proofs.YtpafhfnimncklaaGreatDoor
set_option linter.unusedVariables false
set_option linter.unusedSimpArgs false
open Go.RowKit
theorem keepB_le (B l : List Int) : (keepB B l).length ≤ l.length := List.length_filter_le _ _
def mostB (A B : List Int) : Bool := decide ((A.length : Int) < 2 * ((keepB B A).length : Int))
end Go.Proofs.YtpafhfnimncklaaGreatDoor
