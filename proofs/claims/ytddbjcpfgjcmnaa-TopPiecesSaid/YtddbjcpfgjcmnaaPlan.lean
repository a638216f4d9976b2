/- A law for a drawn region: the first n operations read, the others come in a given order; slots may be moved early. -/
import Derived.Test.YtddbjcpfgjcmnaaBase
import Derived.Deep.RegionHeld3
namespace Go.Proofs.Ytddbjcpfgjcmnaa
set_option linter.unusedVariables false
set_option linter.unusedSimpArgs false
open Go.RowKit
section
variable {P : Program} {ops : Array Oper} {md : Region.Mode}

/-- Each operation behind n waits for one from n on. -/
def linkB (md : Region.Mode) (ops : Array Oper) (n : Nat) : Bool :=
  (List.range ops.size).all fun t => decide (t ≤ n) || (List.range t).any fun s => decide (n ≤ s) && Region.waitsFor md ops t s

theorem none_ahead {n : Nat} {listed : Array Bool} (hs : Region.sinkB md ops n = true) (hl : linkB md ops n = true) (inv : HeadInv md ops n listed) {i : Nat} (hi : i < n) (hun : listed.getD i true = false) :
    ∀ t, n ≤ t → t ∉ Region.ready md ops listed := by
  have key : ∀ (d i : Nat), n - i = d → i < n → listed.getD i true = false → n ∉ Region.ready md ops listed := by
    intro d
    induction d using Nat.strongRecOn with
    | _ d ih =>
      intro i hd hi hun hr
      obtain ⟨_, on, hon, hall⟩ := mem_ready.1 hr
      obtain ⟨j, hj, hj2⟩ := List.any_eq_true.1 (List.all_eq_true.1 hs i (List.mem_range.2 hi))
      simp only [Bool.and_eq_true, decide_eq_true_eq] at hj2
      obtain ⟨oj, hoj, e, he, hb, heon⟩ := Region.waitsFor_spec hj2.2
      have hjn := List.mem_range.1 hj
      have huni := getD_both hun
      by_cases hjt : j = n
      · subst hjt
        rw [hoj] at hon; cases hon
        have := hall e he hb
        rw [heon, huni] at this; cases this
      · cases hlj : listed.getD j false with
        | true =>
          have := inv.closed j oj hoj hlj e he hb
          rw [heon, huni] at this; cases this
        | false => exact ih (n - j) (by omega) j rfl (by omega) (getD_in (by rw [inv.size]; exact (Array.getElem?_eq_some_iff.1 hoj).1) hlj) hr
  intro t ht hr
  rcases Nat.eq_or_lt_of_le ht with rfl | hlt
  · exact key _ i rfl hi hun hr
  · obtain ⟨_, ot, hot, hall⟩ := mem_ready.1 hr
    have htlt : t < ops.size := (Array.getElem?_eq_some_iff.1 hot).1
    have h1 := List.all_eq_true.1 hl t (List.mem_range.2 htlt)
    simp only [Bool.or_eq_true, decide_eq_true_eq] at h1
    rcases h1 with h1 | h1
    · omega
    · obtain ⟨s, hs1, hs2⟩ := List.any_eq_true.1 h1
      simp only [Bool.and_eq_true, decide_eq_true_eq] at hs2
      have hst := List.mem_range.1 hs1
      obtain ⟨o', ho', e, he, hb, heon⟩ := Region.waitsFor_spec hs2.2
      rw [hot] at ho'; cases ho'
      have := hall e he hb
      rw [heon, getD_both (inv.tail s hs2.1 (by omega))] at this
      cases this

/-- The first n operations only read: whichever comes up first, the values are those of the text's order. -/
theorem head_take {w : World} {n i : Nat} {oi : Oper} {v : Value} {L : Array Bool → Act → Prop} (hi : ops[i]? = some oi) (hsel : Region.noSelect ops = true)
    (hs : Region.sinkB md ops n = true) (hl : linkB md ops n = true) (hin : i < n) (hdone : ∀ listed a, L listed a → ∀ j ∈ Region.ready md ops listed, n ≤ j) :
    ∀ (f : Nat) (listed : Array Bool) (a : Act), HeadInv md ops n listed →
      (∀ j oj, ops[j]? = some oj → j ≠ i → listed.getD j true = false → (∀ e ∈ oj.after, Region.binds md e = true → e.on ≠ i) → oi.apart ops oj = true) →
      i ∈ Region.ready md ops listed → YieldsAt P ops w oi v a →
      wpAnyL P md ops w n L f (listed.setIfInBounds i true) (a.put oi.dst v) → wpAnyL P md ops w n L (f + 1) listed a := by
  have sel := Region.noSelect_spec hsel
  intro f
  induction f with
  | zero =>
    intro listed a inv _ hr hy H
    have hun := (mem_ready.1 hr).1
    refine ⟨List.ne_nil_of_mem hr, fun j hj => ?_⟩
    have hjn : j < n := Nat.lt_of_not_le fun h => none_ahead hs hl inv hin hun j h hj
    by_cases hji : j = i
    · subst hji; exact ⟨hjn, hy.stOp hi H⟩
    · have := hdone _ _ H j (ready_mono hj hji)
      omega
  | succ f ih =>
    intro listed a inv hfree hr hy H
    have hun := (mem_ready.1 hr).1
    refine ⟨List.ne_nil_of_mem hr, fun j hj => ?_⟩
    have hjn : j < n := Nat.lt_of_not_le fun h => none_ahead hs hl inv hin hun j h hj
    refine ⟨hjn, ?_⟩
    by_cases hji : j = i
    · subst hji; exact hy.stOp hi H
    obtain ⟨hjun, oj, hoj, hall⟩ := mem_ready.1 hj
    have hnot : ∀ e ∈ oj.after, Region.binds md e = true → e.on ≠ i := fun e he hb heq => by
      have h1 := hall e he hb
      rw [heq, getD_both hun] at h1
      cases h1
    have h2 := stOp_put hoj (hfree j oj hoj hji hjun hnot) (sel i oi · · hi) (sel j oj · · hoj) hy (H.2 j (ready_mono hj hji)).2
    refine stOp_mono (fun a' h3 => ih _ a' (inv.set hj hjn) (fun k ok hk hki hun' hno => hfree k ok hk hki ?_ hno) (ready_mono hr (Ne.symm hji)) h3.1 ?_) h2
    · by_cases hjk : j = k
      · subst hjk; exact hjun
      · rwa [getD_set_ne true hjk] at hun'
    · rw [Array.setIfInBounds_comm _ _ hji]
      exact h3.2

theorem asks_move {o : Oper} (hm : (match o.op with | .move _ => true | .assign _ => true | _ => false) = true) {a : Act} {w : World} : ¬ o.asks P a w := by
  obtain ⟨dst, op, ty, pos, after, guard⟩ := o
  intro h
  cases op <;> simp at hm <;> exact absurd h.1 (by simp [execOp]; exact nofun)

def isMv (o : Oper) : Bool := match o.op with | .move _ => true | .assign _ => true | _ => false
/-- An order of what is left: each is the only one that may come up, or moves a slot and may come first. -/
def ordB (md : Region.Mode) (ops : Array Oper) : List Nat → Array Bool → Bool
  | [], listed => (Region.ready md ops listed).isEmpty
  | k :: r, listed => (decide (Region.ready md ops listed = [k]) || ((Region.ready md ops listed).contains k && Region.free md ops listed k && ((ops[k]?).map isMv).getD false)) && ordB md ops r (listed.setIfInBounds k true)
def pick (l : List Oper) : List Nat → List Oper
  | [] => []
  | k :: r => (l[k]?).toList ++ pick l r

theorem wpAny_of_ord {l : List Oper} {Q : Exit → Act → World → Prop} (hsel : Region.noSelect l.toArray = true) (hQ : ∀ d v c a w, Q (.panic c) (Act.put a d v) w → Q (.panic c) a w) :
    ∀ (r : List Nat) (listed : Array Bool) (a : Act) (w : World), ordB md l.toArray r listed = true → wpList P l.toArray Q (pick l r) a w → wpAny P md l.toArray Q r.length listed a w
  | [], _, _, _, hB, h => ⟨by simpa [ordB] using hB, h⟩
  | k :: r, listed, a, w, hB, h => by
    simp only [ordB, Bool.and_eq_true, Bool.or_eq_true, decide_eq_true_eq] at hB
    obtain ⟨hk, hB⟩ := hB
    cases ho : l[k]? with
    | none =>
      exfalso
      rcases hk with hk | hk
      · have : k ∈ Region.ready md l.toArray listed := by rw [hk]; simp
        obtain ⟨_, o, h2, _⟩ := mem_ready.1 this
        simp [ho] at h2
      · simp [ho] at hk
    | some o =>
      have ho' : l.toArray[k]? = some o := by simpa using ho
      simp only [pick, ho, Option.toList, List.cons_append, List.nil_append] at h
      rcases hk with hk | ⟨⟨hk1, hk2⟩, hk3⟩
      · refine ⟨fun h1 => (by rw [hk] at h1; cases h1), fun i hi => ?_⟩
        rw [hk] at hi
        have hik : i = k := by simpa using hi
        subst hik
        refine wpOp_mono (K := wpList P l.toArray Q (pick l r)) (fun a' w' h' => wpAny_of_ord hsel hQ r _ a' w' hB h') ?_
        unfold wpOp; simp only [ho']; exact h
      · have hmv : isMv o = true := by simpa [ho] using hk3
        unfold wpList at h
        have step : ∀ v, Yields P l.toArray o v a → wpList P l.toArray Q (pick l r) (a.put o.dst v) w → wpAny P md l.toArray Q (r.length + 1) listed a w := fun v hy hw =>
          wpAny_take ho' hsel hk2 hk1 (fun c a w => hQ o.dst v c a w) hy (wpAny_of_ord hsel hQ r _ _ w hB hw)
        by_cases hw : Region.wanted o (yielded l.toArray a.tmps) = true
        · rw [if_pos hw] at h
          rcases h with h | h
          · obtain ⟨dst, op, ty, pos, after, guard⟩ := o
            cases op <;> simp [isMv] at hmv
            · exact step _ (.inl ⟨hw, fun _ => rfl⟩) h
            · exact step _ (.inl ⟨hw, fun _ => rfl⟩) h
          · exact absurd h.1 (asks_move hmv)
        · rw [if_neg hw] at h
          exact step _ (.inr ⟨by simpa using hw, rfl⟩) h

/-- The order is one for what is behind the first n. -/
def headB (md : Region.Mode) (ops : Array Oper) (r : List Nat) : Nat → Nat → Array Bool → Bool
  | 0, _, listed => ordB md ops r listed
  | f + 1, k, listed => (Region.ready md ops listed).contains k && Region.free md ops listed k && headB md ops r f (k + 1) (listed.setIfInBounds k true)
/-- How a drawn region may be walked: the first n read, then the others in the order r. -/
def planB (ops : Array Oper) (n : Nat) (r : List Nat) : Bool :=
  Region.noSelect ops && decide (n < ops.size) && decide (n + r.length = ops.size) && Region.sinkB .any ops n && linkB .any ops n && r.all (fun k => decide (n ≤ k)) && headB .any ops r n 0 (Array.replicate ops.size false)

theorem ordB_ready {n : Nat} {r : List Nat} {listed : Array Bool} (h : ordB md ops r listed = true) (inv : ∀ i < n, listed.getD i true = true) : ∀ j ∈ Region.ready md ops listed, n ≤ j := by
  intro j hj
  refine Nat.le_of_not_lt fun hlt => ?_
  have := (mem_ready.1 hj).1
  rw [inv j hlt] at this
  cases this

theorem wpAnyL_plan {w : World} {n : Nat} {r : List Nat} {Lq : Act → Prop} (hsel : Region.noSelect ops = true) (hs : Region.sinkB md ops n = true) (hl : linkB md ops n = true) (hn : n < ops.size) :
    ∀ (l : List Oper) (k : Nat) (listed : Array Bool) (a : Act), (∀ j, j < l.length → l[j]? = ops[k + j]?) → k + l.length = n → HeadInv md ops n listed → (∀ i < k, listed.getD i true = true) →
    headB md ops r l.length k listed = true → wpStill P ops w Lq l a →
    wpAnyL P md ops w n (fun listed' a' => ((∀ i < n, listed'.getD i true = true) ∧ ordB md ops r listed' = true) ∧ Lq a') l.length listed a
  | [], k, listed, a, _, hk, _, hdn, hB, h => by
    have : k = n := by simpa using hk
    subst this
    exact ⟨⟨hdn, by simpa [headB] using hB⟩, h⟩
  | o :: l, k, listed, a, hll, hk, inv, hdn, hB, h => by
    have h0 : ops[k]? = some o := by simpa using (hll 0 (by simp)).symm
    simp only [List.length_cons, headB, Bool.and_eq_true] at hB
    obtain ⟨⟨hr, hf⟩, hB'⟩ := hB
    have hkn : k < n := by simp only [List.length_cons] at hk; omega
    have hr' : k ∈ Region.ready md ops listed := by simpa using hr
    have hst : stOp P ops w k (wpStill P ops w Lq l) a := by unfold stOp; simp only [h0]; exact h
    obtain ⟨v, hy, hK⟩ := yieldsAt_of_stOp h0 hst
    refine head_take h0 hsel hs hl hkn (fun listed' a' hL => ordB_ready hL.1.2 hL.1.1) l.length listed a inv (Region.free_spec h0 hf) hr' hy ?_
    refine wpAnyL_plan hsel hs hl hn l (k + 1) _ _ (fun j hj => by have := hll (j + 1) (by simp; omega); simpa [Nat.add_assoc, Nat.add_comm 1 j] using this) (by simp only [List.length_cons] at hk; omega) (inv.set hr' hkn) (fun i hi => ?_) hB' hK
    by_cases hik : k = i
    · subst hik
      have hlt : k < listed.size := by rw [inv.size]; omega
      simp [hlt]
    · rw [getD_set_ne true hik]; exact hdn i (by omega)

/-- A drawn region by a plan: the first n operations read; the others come in the order r. -/
theorem wp_region_plan0 {id : Nat} {Q : Exit → Act → World → Prop} {a : Act} {w : World} {l : List Oper} (n : Nat) (r : List Nat) (hm : P.follows .mixedOrders = true) (hB : planB l.toArray n r = true)
    (hQ : ∀ d v c a w, Q (.panic c) (Act.put a d v) w → Q (.panic c) a w)
    (h : wpStill P l.toArray w.drew (fun a' => wpList P l.toArray Q (pick l r) a' w.drew) (l.take n) a) : (Code.region id l.toArray true).wp P Q a w := by
  simp only [planB, Bool.and_eq_true, decide_eq_true_eq] at hB
  obtain ⟨⟨⟨⟨⟨⟨hsel, hn⟩, hsz⟩, hs⟩, hl⟩, _⟩, hh⟩ := hB
  have hn' : n < l.length := by simpa using hn
  have htl : (l.take n).length = n := by simp; omega
  have inv0 : HeadInv .any l.toArray n (Array.replicate l.toArray.size false) :=
    ⟨by simp, fun j oj _ hl => (by rw [getD_replicate_false] at hl; cases hl), fun t _ ht => getD_in (by simpa using ht) (getD_replicate_false _ _)⟩
  have H := wpAnyL_plan (md := .any) (r := r) hsel hs hl hn (l.take n) 0 _ a (fun j hj => by
    have hj' : j < n := by rw [htl] at hj; exact hj
    simp [hj']) (by simpa using htl) inv0 (fun i hi => absurd hi (Nat.not_lt_zero _)) (by rw [htl]; exact hh) h
  refine wp_region_any hm ?_
  have := wpAny_of_head (Q' := Q) (g := r.length) (fun listed a' hL => wpAny_of_ord hsel hQ r listed a' _ hL.1.2 hL.2) _ _ _ H
  rw [htl, hsz] at this
  exact this
/-- The same, where the region is shown not to panic: behind it 'NoPanic.normal' gives the post back. -/
theorem wp_region_plan {id : Nat} {Q : Exit → Act → World → Prop} {a : Act} {w : World} {l : List Oper} (n : Nat) (r : List Nat) (hm : P.follows .mixedOrders = true) (hB : planB l.toArray n r = true)
    (h : wpStill P l.toArray w.drew (fun a' => wpList P l.toArray (NoPanic Q) (pick l r) a' w.drew) (l.take n) a) : (Code.region id l.toArray true).wp P Q a w :=
  wp_region_noPanic (wp_region_plan0 n r hm hB (fun _ _ _ _ _ h => h.elim) h)
end
end Go.Proofs.Ytddbjcpfgjcmnaa
