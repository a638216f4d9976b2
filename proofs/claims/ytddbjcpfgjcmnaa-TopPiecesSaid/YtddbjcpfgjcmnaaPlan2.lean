/- A law for a drawn region: some slots are moved first, the rest of the first n operations read, the others come in a given order. -/
import Derived.Test.YtddbjcpfgjcmnaaPlan
namespace Go.Proofs.Ytddbjcpfgjcmnaa
set_option linter.unusedVariables false
set_option linter.unusedSimpArgs false
open Go.RowKit
section
variable {P : Program} {ops : Array Oper} {md : Region.Mode}
structure HInv (md : Region.Mode) (ops : Array Oper) (n : Nat) (m : List Nat) (listed : Array Bool) : Prop where
  size : listed.size = ops.size
  closed : ∀ j oj, ops[j]? = some oj → listed.getD j false = true → ∀ e ∈ oj.after, Region.binds md e = true → listed.getD e.on false = true
  tail : ∀ t, n ≤ t → t < ops.size → t ∉ m → listed.getD t true = false
theorem HInv.set {n i : Nat} {m : List Nat} {listed : Array Bool} (inv : HInv md ops n m listed) (hi : i ∈ Region.ready md ops listed) (hin : i < n ∨ i ∈ m) : HInv md ops n m (listed.setIfInBounds i true) := by
  obtain ⟨_, oi, hoi, hall⟩ := mem_ready.1 hi
  refine ⟨by simp [inv.size], fun j oj hj hl e he hb => ?_, fun t ht ht' htm => by
    rw [getD_set_ne true (fun e => by
      subst e
      rcases hin with h | h
      · omega
      · exact htm h)]; exact inv.tail t ht ht' htm⟩
  by_cases hij : i = j
  · subst hij
    have : oj = oi := Option.some.inj (hj.symm.trans hoi)
    subst this
    exact getD_set_true (hall e he hb)
  · rw [getD_set_ne false hij] at hl
    exact getD_set_true (inv.closed j oj hj hl e he hb)
/-- Each operation behind n that is not moved first waits for one such from n on. -/
def linkX (md : Region.Mode) (ops : Array Oper) (n : Nat) (m : List Nat) : Bool :=
  !m.contains n && (List.range ops.size).all fun t => decide (t ≤ n) || m.contains t || (List.range t).any fun s => decide (n ≤ s) && !m.contains s && Region.waitsFor md ops t s
def sinkX (md : Region.Mode) (ops : Array Oper) (n : Nat) (m : List Nat) : Bool :=
  (List.range n).all fun i => m.contains i || (List.range (n + 1)).any fun j => decide (i < j) && Region.waitsFor md ops j i
theorem none_aheadX {n : Nat} {m : List Nat} {listed : Array Bool} (hs : sinkX md ops n m = true) (hl : linkX md ops n m = true) (inv : HInv md ops n m listed) (hm : ∀ i ∈ m, listed.getD i false = true) {i : Nat} (hi : i < n) (hun : listed.getD i true = false) :
    ∀ t, n ≤ t → t ∉ Region.ready md ops listed := by
  have key : ∀ (d i : Nat), n - i = d → i < n → listed.getD i true = false → n ∉ Region.ready md ops listed := by
    intro d
    induction d using Nat.strongRecOn with
    | _ d ih =>
      intro i hd hi hun hr
      have huni := getD_both hun
      obtain ⟨_, on, hon, hall⟩ := mem_ready.1 hr
      have h0 := List.all_eq_true.1 hs i (List.mem_range.2 hi)
      rw [Bool.or_eq_true] at h0
      rcases h0 with h0 | h0
      · have := hm i (by simpa using h0)
        rw [huni] at this; cases this
      obtain ⟨j, hj, hj2⟩ := List.any_eq_true.1 h0
      simp only [Bool.and_eq_true, decide_eq_true_eq] at hj2
      obtain ⟨oj, hoj, e, he, hb, heon⟩ := Region.waitsFor_spec hj2.2
      have hjn := List.mem_range.1 hj
      by_cases hjt : j = n
      · subst hjt
        rw [hoj] at hon; cases hon
        have := hall e he hb
        rw [heon, huni] at this; cases this
      · cases hlj : listed.getD j false with
        | true =>
          have := inv.closed j oj hoj hlj e he hb
          rw [heon, huni] at this; cases this
        | false => exact ih (n - j) (by omega) j rfl (by omega) (getD_in (by rw [inv.size]; exact (Array.getElem?_eq_some_iff.1 hoj).1) hlj) hr
  intro t ht hr
  rcases Nat.eq_or_lt_of_le ht with rfl | hlt
  · exact key _ i rfl hi hun hr
  · obtain ⟨_, ot, hot, hall⟩ := mem_ready.1 hr
    have htlt : t < ops.size := (Array.getElem?_eq_some_iff.1 hot).1
    have hl' := hl
    simp only [linkX, Bool.and_eq_true] at hl'
    have h1 := List.all_eq_true.1 hl'.2 t (List.mem_range.2 htlt)
    simp only [Bool.or_eq_true, decide_eq_true_eq] at h1
    rcases h1 with (h1 | h1) | h1
    · omega
    · have := hm t (by simpa using h1)
      obtain ⟨hrl, _⟩ := mem_ready.1 hr
      rw [getD_both hrl] at this; cases this
    · obtain ⟨s, hs1, hs2⟩ := List.any_eq_true.1 h1
      simp only [Bool.and_eq_true, decide_eq_true_eq] at hs2
      have hst := List.mem_range.1 hs1
      obtain ⟨o', ho', e, he, hb, heon⟩ := Region.waitsFor_spec hs2.2
      rw [hot] at ho'; cases ho'
      have := hall e he hb
      rw [heon, getD_both (inv.tail s hs2.1.1 (by omega) (by simpa using hs2.1.2))] at this
      cases this
theorem head_takeX {w : World} {n i : Nat} {m : List Nat} {oi : Oper} {v : Value} {L : Array Bool → Act → Prop} (hi : ops[i]? = some oi) (hsel : Region.noSelect ops = true)
    (hs : sinkX md ops n m = true) (hl : linkX md ops n m = true) (hin : i < n) (hdone : ∀ listed a, L listed a → ∀ j ∈ Region.ready md ops listed, n ≤ j) :
    ∀ (f : Nat) (listed : Array Bool) (a : Act), HInv md ops n m listed → (∀ i ∈ m, listed.getD i false = true) →
      (∀ j oj, ops[j]? = some oj → j ≠ i → listed.getD j true = false → (∀ e ∈ oj.after, Region.binds md e = true → e.on ≠ i) → oi.apart ops oj = true) →
      i ∈ Region.ready md ops listed → YieldsAt P ops w oi v a →
      wpAnyL P md ops w n L f (listed.setIfInBounds i true) (a.put oi.dst v) → wpAnyL P md ops w n L (f + 1) listed a := by
  have sel := Region.noSelect_spec hsel
  intro f
  induction f with
  | zero =>
    intro listed a inv hm _ hr hy H
    have hun := (mem_ready.1 hr).1
    refine ⟨List.ne_nil_of_mem hr, fun j hj => ?_⟩
    have hjn : j < n := Nat.lt_of_not_le fun h => none_aheadX hs hl inv hm hin hun j h hj
    by_cases hji : j = i
    · subst hji; exact ⟨hjn, hy.stOp hi H⟩
    · have := hdone _ _ H j (ready_mono hj hji)
      omega
  | succ f ih =>
    intro listed a inv hm hfree hr hy H
    have hun := (mem_ready.1 hr).1
    refine ⟨List.ne_nil_of_mem hr, fun j hj => ?_⟩
    have hjn : j < n := Nat.lt_of_not_le fun h => none_aheadX hs hl inv hm hin hun j h hj
    refine ⟨hjn, ?_⟩
    by_cases hji : j = i
    · subst hji; exact hy.stOp hi H
    obtain ⟨hjun, oj, hoj, hall⟩ := mem_ready.1 hj
    have hnot : ∀ e ∈ oj.after, Region.binds md e = true → e.on ≠ i := fun e he hb heq => by
      have h1 := hall e he hb
      rw [heq, getD_both hun] at h1
      cases h1
    have h2 := stOp_put hoj (hfree j oj hoj hji hjun hnot) (sel i oi · · hi) (sel j oj · · hoj) hy (H.2 j (ready_mono hj hji)).2
    refine stOp_mono (fun a' h3 => ih _ a' (inv.set hj (.inl hjn)) (fun k hk => getD_set_true (hm k hk)) (fun k ok hk hki hun' hno => hfree k ok hk hki ?_ hno) (ready_mono hr (Ne.symm hji)) h3.1 ?_) h2
    · by_cases hjk : j = k
      · subst hjk; exact hjun
      · rwa [getD_set_ne true hjk] at hun'
    · rw [Array.setIfInBounds_comm _ _ hji]
      exact h3.2
def headX (md : Region.Mode) (ops : Array Oper) (r : List Nat) (n : Nat) : List Nat → Array Bool → Bool
  | [], listed => (List.range n).all (fun i => listed.getD i false) && ordB md ops r listed
  | k :: l, listed => decide (k < n) && (Region.ready md ops listed).contains k && Region.free md ops listed k && headX md ops r n l (listed.setIfInBounds k true)
theorem getD_true_of {listed : Array Bool} {i : Nat} (h : listed.getD i false = true) : listed.getD i true = true := by
  rcases Nat.lt_or_ge i listed.size with h' | h'
  · simp [h'] at h ⊢; exact h
  · simp [Array.getElem?_eq_none h'] at h
theorem wpAnyL_planX {w : World} {n : Nat} {m r : List Nat} {Lq : Act → Prop} {L0 : List Oper} (hops : ops = L0.toArray) (hsel : Region.noSelect ops = true) (hs : sinkX md ops n m = true) (hl : linkX md ops n m = true) :
    ∀ (l : List Nat) (listed : Array Bool) (a : Act), HInv md ops n m listed → (∀ i ∈ m, listed.getD i false = true) →
    headX md ops r n l listed = true → wpStill P ops w Lq (pick L0 l) a →
    wpAnyL P md ops w n (fun listed' a' => ((∀ i < n, listed'.getD i true = true) ∧ ordB md ops r listed' = true) ∧ Lq a') l.length listed a
  | [], listed, a, _, _, hB, h => by
    simp only [headX, Bool.and_eq_true] at hB
    exact ⟨⟨fun i hi => getD_true_of (by simpa using List.all_eq_true.1 hB.1 i (List.mem_range.2 hi)), hB.2⟩, h⟩
  | k :: l, listed, a, inv, hm, hB, h => by
    simp only [headX, Bool.and_eq_true, decide_eq_true_eq] at hB
    obtain ⟨⟨⟨hkn, hr⟩, hf⟩, hB'⟩ := hB
    have hr' : k ∈ Region.ready md ops listed := by simpa using hr
    obtain ⟨_, o, h0, _⟩ := mem_ready.1 hr'
    have h0' : L0[k]? = some o := by rw [hops] at h0; simpa using h0
    simp only [pick, h0', Option.toList, List.cons_append, List.nil_append] at h
    have hst : stOp P ops w k (wpStill P ops w Lq (pick L0 l)) a := by unfold stOp; simp only [h0]; exact h
    obtain ⟨v, hy, hK⟩ := yieldsAt_of_stOp h0 hst
    refine head_takeX h0 hsel hs hl hkn (fun listed' a' hL => ordB_ready hL.1.2 hL.1.1) l.length listed a inv hm (Region.free_spec h0 hf) hr' hy ?_
    exact wpAnyL_planX hops hsel hs hl l _ _ (inv.set hr' (.inl hkn)) (fun i hi => getD_set_true (hm i hi)) hB' hK
/-- What is taken first, whatever the world. -/
def preX (md : Region.Mode) (ops : Array Oper) : List Nat → Array Bool → Option (Array Bool)
  | [], listed => some listed
  | k :: l, listed => if (Region.ready md ops listed).contains k && Region.free md ops listed k then preX md ops l (listed.setIfInBounds k true) else none
theorem preX_mono : ∀ (l : List Nat) (listed out : Array Bool), preX md ops l listed = some out → (∀ i, listed.getD i false = true → out.getD i false = true)
  | [], listed, out, h => by simp only [preX, Option.some.injEq] at h; subst h; exact fun _ h => h
  | k :: l, listed, out, h => by
    unfold preX at h
    split at h
    · exact fun i hi => preX_mono l _ out h i (getD_set_true hi)
    · cases h
theorem preX_inv {n : Nat} {m : List Nat} : ∀ (l : List Nat) (listed out : Array Bool), (∀ i ∈ l, i ∈ m) → HInv md ops n m listed → preX md ops l listed = some out → HInv md ops n m out ∧ (∀ i ∈ l, out.getD i false = true)
  | [], listed, out, _, inv, h => by simp only [preX, Option.some.injEq] at h; subst h; exact ⟨inv, fun i hi => by cases hi⟩
  | k :: l, listed, out, hm, inv, h => by
    unfold preX at h
    split at h
    · rename_i hc
      simp only [Bool.and_eq_true] at hc
      have hr' : k ∈ Region.ready md ops listed := by simpa using hc.1
      obtain ⟨a, b⟩ := preX_inv l _ out (fun i hi => hm i (by simp [hi])) (inv.set hr' (.inr (hm k (by simp)))) h
      refine ⟨a, fun i hi => ?_⟩
      rcases List.mem_cons.1 hi with rfl | hi
      · obtain ⟨_, o, ho, _⟩ := mem_ready.1 hr'
        have hlt : i < listed.size := by rw [inv.size]; exact (Array.getElem?_eq_some_iff.1 ho).1
        exact preX_mono l _ out h i (by simp [hlt])
      · exact b i hi
    · cases h
/-- The values of what is taken first. -/
def wpPure (P : Program) (ops : Array Oper) (K : Act → Prop) : List Oper → Act → Prop
  | [], a => K a
  | o :: l, a => ∃ v, Yields P ops o v a ∧ wpPure P ops K l (a.put o.dst v)
theorem wpPure_nil {K : Act → Prop} {a : Act} (h : K a) : wpPure P ops K [] a := h
theorem wpPure_step {K : Act → Prop} {a : Act} {o : Oper} {l : List Oper} (v : Value) (hg : o.guard = none) (hv : ∀ w, (execOp a.eval o).run P w = .ok (.value v) w) (h : wpPure P ops K l (a.put o.dst v)) : wpPure P ops K (o :: l) a :=
  ⟨v, .inl ⟨by simp [Region.wanted, hg], hv⟩, h⟩
theorem wpAny_pre {w : World} {f : Nat} {L0 : List Oper} {Q : Exit → Act → World → Prop} {K : Act → Prop} (hops : ops = L0.toArray) (hsel : Region.noSelect ops = true) (hQ : ∀ d v c a w, Q (.panic c) (Act.put a d v) w → Q (.panic c) a w) :
    ∀ (m : List Nat) (listed out : Array Bool) (a : Act), preX md ops m listed = some out → wpPure P ops K (pick L0 m) a → (∀ a', K a' → wpAny P md ops Q f out a' w) → wpAny P md ops Q (m.length + f) listed a w
  | [], listed, out, a, hp, h, hK => by
    simp only [preX, Option.some.injEq] at hp; subst hp
    rw [List.length_nil, Nat.zero_add]
    exact hK a h
  | k :: m, listed, out, a, hp, h, hK => by
    unfold preX at hp
    split at hp
    · rename_i hc
      simp only [Bool.and_eq_true] at hc
      have hr' : k ∈ Region.ready md ops listed := by simpa using hc.1
      obtain ⟨_, o, h0, _⟩ := mem_ready.1 hr'
      have h0' : L0[k]? = some o := by rw [hops] at h0; simpa using h0
      simp only [pick, h0', Option.toList, List.cons_append, List.nil_append] at h
      obtain ⟨v, hy, hK'⟩ := h
      rw [show (k :: m).length + f = (m.length + f) + 1 by simp only [List.length_cons]; omega]
      exact wpAny_take h0 hsel hc.2 hc.1 (fun c a w => hQ o.dst v c a w) hy (wpAny_pre hops hsel hQ m _ out _ hp hK' hK)
    · cases hp
def planX (ops : Array Oper) (n : Nat) (m r : List Nat) : Bool :=
  Region.noSelect ops && decide (n < ops.size) && true && sinkX .any ops n m && linkX .any ops n m && (match preX .any ops m (Array.replicate ops.size false) with | some listed => headX .any ops r n ((List.range n).filter fun i => !m.contains i) listed | none => false) && decide (m.length + (((List.range n).filter fun i => !m.contains i).length + r.length) = ops.size)
theorem wp_region_planX {id : Nat} {Q : Exit → Act → World → Prop} {a : Act} {w : World} {l : List Oper} (n : Nat) (m r : List Nat) (hm : P.follows .mixedOrders = true) (hB : planX l.toArray n m r = true)
    (h : wpPure P l.toArray (fun a1 => wpStill P l.toArray w.drew (fun a' => wpList P l.toArray (NoPanic Q) (pick l r) a' w.drew) (pick l ((List.range n).filter fun i => !m.contains i)) a1) (pick l m) a) : (Code.region id l.toArray true).wp P Q a w := by
  refine wp_region_noPanic ?_
  simp only [planX, Bool.and_eq_true, decide_eq_true_eq] at hB
  obtain ⟨⟨⟨⟨⟨⟨hsel, hn⟩, _⟩, hs⟩, hl⟩, hh⟩, hlen⟩ := hB
  have inv0 : HInv .any l.toArray n m (Array.replicate l.toArray.size false) :=
    ⟨by simp, fun j oj _ hl => (by rw [getD_replicate_false] at hl; cases hl), fun t _ ht _ => getD_in (by simpa using ht) (getD_replicate_false _ _)⟩
  cases hp : preX .any l.toArray m (Array.replicate l.toArray.size false) with
  | none => rw [hp] at hh; cases hh
  | some out =>
    rw [hp] at hh
    obtain ⟨inv1, hmo⟩ := preX_inv m _ out (fun _ h => h) inv0 hp
    refine wp_region_any hm ?_
    have hQ : ∀ d v c a w, NoPanic Q (.panic c) (Act.put a d v) w → NoPanic Q (.panic c) a w := fun _ _ _ _ _ h => h.elim
    have H := wpAny_pre (P := P) (md := .any) (f := ((List.range n).filter fun i => !m.contains i).length + r.length) (Q := NoPanic Q) rfl hsel hQ m _ out a hp h (fun a1 h1 => by
      have H1 := wpAnyL_planX (md := .any) (r := r) rfl hsel hs hl _ out a1 inv1 hmo hh h1
      exact wpAny_of_head (Q' := NoPanic Q) (g := r.length) (fun listed a' hL => wpAny_of_ord hsel hQ r listed a' _ hL.1.2 hL.2) _ _ _ H1)
    rw [hlen] at H
    exact H
end
end Go.Proofs.Ytddbjcpfgjcmnaa
