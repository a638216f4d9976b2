/- How arguments that hold structs read, as plain facts: events, views. -/
import Derived.Test.YtdfjbnfdknpahaaGreatDoorMRunCausal1
import Derived.ChangeArms
import Derived.Deep.Fields
import Derived.Test.YtdfjbnfdknpahaaGreatDoorMRunCausal0
import Derived.Deep.RegionHeld3
import Derived.Deep.DeepCutAuto
import Derived.Deep.CutBlock
namespace Go.Proofs.YtdfjbnfdknpahaaGreatDoor
set_option linter.unusedVariables false
set_option linter.unusedSimpArgs false
open Go.ChangeShapes Go.WideShapes Go.ChangeAt Go.RowKit Go.Deep
open Go.ChangeMaps (open_string shut_string)
variable {H : Type} {enc : TypeId × Value → H} {w : World} {b0 : Nat} {d : DataW H} {p : List MemPlace} {v : Value}
/-- A slice of structs, off its cells' reading. -/
theorem trod_recs {α : Type} (cells : α → List Value) (sz : Nat) (hsz : ∀ x, (cells x).length = sz) (hpos : 0 < sz) (good : α → Prop) {t e : TypeId} (ht : Tryz.prog.underlying t = some (.slice e)) (hce : Tryz.prog.cellsOf e = sz)
    (hel : ∀ n cs x, DataW.trod enc Tryz.prog w 0 (fun _ => true) true n e cs = some x → ∃ y, cs = cells y ∧ good y)
    {fuel : Nat} {cs : List Value} {x : DataW H × List MemPlace} (h : DataW.trod enc Tryz.prog w 0 (fun _ => true) true fuel t cs = some x) :
    ∃ (v : Value) (l : List α), cs = [v] ∧ Rd w v l.length (l.flatMap cells) ∧ ∀ x ∈ l, good x := by
  rcases open_slice ht h with ⟨rfl, _⟩ | ⟨a, len, cap, m, n, D, Pl, rfl, _, hl, hm, hmm, _, hx⟩
  · exact ⟨_, [], rfl, ⟨none, 0, rfl, Nat.le_refl _, Nat.zero_le _, fun _ => rfl, fun i u h => by simp at h⟩, fun x h => by cases h⟩
  have hlm : len ≤ m := by rw [hmm]; split <;> omega
  obtain ⟨l, hll, hlx⟩ := list_of len (fun i y => (∀ j, j < sz → w.cell? (a.add (i * sz + j)) = (cells y)[j]?) ∧ good y) (fun i hi => by
    obtain ⟨cs', h1, h2⟩ := hx i (by omega)
    rw [hce] at h1
    obtain ⟨_, hlen, hcell⟩ := World.cells?_some h1
    obtain ⟨y, rfl, hg⟩ := hel _ _ _ h2
    exact ⟨y, fun j hj => by rw [← add_add]; exact hcell j hj, hg⟩)
  refine ⟨_, l, rfl, ?_, fun x hx => ?_⟩
  · rw [hll]
    refine ⟨some a, cap, rfl, hl, hm, by simp, fun i u hu => ⟨a, rfl, ?_⟩⟩
    have hi : i < l.length * sz := by
      have := (List.getElem?_eq_some_iff.1 hu).1
      rwa [cells_len cells sz hsz] at this
    have hk : i / sz < l.length := by rw [Nat.div_lt_iff_lt_mul hpos]; exact hi
    have hj : i % sz < sz := Nat.mod_lt _ hpos
    have hij : i / sz * sz + i % sz = i := by rw [Nat.mul_comm]; exact Nat.div_add_mod i sz
    have h1 := cells_get cells sz hsz l (i / sz) (i % sz) hk hj
    rw [hij, hu] at h1
    have h2 := (hlx (i / sz) l[i / sz] (List.getElem?_eq_getElem hk)).1 (i % sz) hj
    rw [hij] at h2
    rw [h2, ← h1]
  · obtain ⟨i, hi, rfl⟩ := List.getElem_of_mem hx
    exact (hlx i _ (List.getElem?_eq_getElem hi)).2
def evCells (e : Ev) : List Value := [.int .i64 e.1, .int .i64 e.2.1, .int .i64 e.2.2]
def goodEv (e : Ev) : Prop := I64 e.1 ∧ I64 e.2.1 ∧ I64 e.2.2
def Evs (w : World) (v : Value) (h : List Ev) : Prop := Rd w v h.length (h.flatMap evCells) ∧ ∀ e ∈ h, goodEv e
set_option maxRecDepth 100000 in
theorem trod_ev (n : Nat) (cs : List Value) (x : DataW H × List MemPlace) (h : DataW.trod enc Tryz.prog w 0 (fun _ => true) true n 112 cs = some x) : ∃ e : Ev, cs = evCells e ∧ goodEv e := by
  obtain ⟨xs, n, _, _, hl, hxl, hf⟩ := DataW.trod_struct Tryz.underlying112 h
  have hl3 : cs.length = 3 := by rw [hl]; kernel_rfl
  have hx3 : xs.length = 3 := by rw [hxl]; rfl
  match cs, hl3, xs, hx3 with
  | [a, b, c], _, [x0, x1, x2], _ =>
    have g0 : DataW.trod enc Tryz.prog w 0 (fun _ => true) true n 3 ((([a, b, c] : List Value).drop 0).take (Tryz.prog.cellsOf 3)) = some x0 := hf 0 _ rfl
    have g1 : DataW.trod enc Tryz.prog w 0 (fun _ => true) true n 3 ((([a, b, c] : List Value).drop 1).take (Tryz.prog.cellsOf 3)) = some x1 := hf 1 _ rfl
    have g2 : DataW.trod enc Tryz.prog w 0 (fun _ => true) true n 3 ((([a, b, c] : List Value).drop 2).take (Tryz.prog.cellsOf 3)) = some x2 := hf 2 _ rfl
    rw [cells_int] at g0 g1 g2
    obtain ⟨n0, e0, _, w0⟩ := DataW.trod_int Tryz.underlying3 g0
    obtain ⟨n1, e1, _, w1⟩ := DataW.trod_int Tryz.underlying3 g1
    obtain ⟨n2, e2, _, w2⟩ := DataW.trod_int Tryz.underlying3 g2
    simp at e0 e1 e2
    subst e0 e1 e2
    exact ⟨(n0, n1, n2), rfl, I64_of_wf w0, I64_of_wf w1, I64_of_wf w2⟩
set_option maxRecDepth 100000 in
theorem arg_events (hv : Value.okWide Tryz.prog w .any b0 61 v) (h : DataW.Trod enc Tryz.prog w 0 (fun _ => true) true 61 v d p) : ∃ l, Evs w v l := by
  obtain ⟨ad, n, c, rfl⟩ := okWide_slice Tryz.underlying61 hv
  obtain ⟨fuel, hf⟩ := h
  obtain ⟨v', l, he, hr⟩ := trod_recs evCells 3 (fun _ => rfl) (by omega) goodEv Tryz.underlying61 (by kernel_rfl) trod_ev hf
  simp [Value.cells] at he
  exact ⟨l, he ▸ hr⟩
end Go.Proofs.YtdfjbnfdknpahaaGreatDoor
/- A law for a drawn region: the first n operations read, the others come in a given order; slots may be moved early. -/
namespace Go.Proofs.YtdfjbnfdknpahaaGreatDoor
set_option linter.unusedVariables false
set_option linter.unusedSimpArgs false
open Go.RowKit
section
variable {P : Program} {ops : Array Oper} {md : Region.Mode}

/-- Each operation behind n waits for one from n on. -/
def linkB (md : Region.Mode) (ops : Array Oper) (n : Nat) : Bool :=
  (List.range ops.size).all fun t => decide (t ≤ n) || (List.range t).any fun s => decide (n ≤ s) && Region.waitsFor md ops t s

theorem none_ahead {n : Nat} {listed : Array Bool} (hs : Region.sinkB md ops n = true) (hl : linkB md ops n = true) (inv : HeadInv md ops n listed) {i : Nat} (hi : i < n) (hun : listed.getD i true = false) :
    ∀ t, n ≤ t → t ∉ Region.ready md ops listed := by
  have key : ∀ (d i : Nat), n - i = d → i < n → listed.getD i true = false → n ∉ Region.ready md ops listed := by
    intro d
    induction d using Nat.strongRecOn with
    | _ d ih =>
      intro i hd hi hun hr
      obtain ⟨_, on, hon, hall⟩ := mem_ready.1 hr
      obtain ⟨j, hj, hj2⟩ := List.any_eq_true.1 (List.all_eq_true.1 hs i (List.mem_range.2 hi))
      simp only [Bool.and_eq_true, decide_eq_true_eq] at hj2
      obtain ⟨oj, hoj, e, he, hb, heon⟩ := Region.waitsFor_spec hj2.2
      have hjn := List.mem_range.1 hj
      have huni := getD_both hun
      by_cases hjt : j = n
      · subst hjt
        rw [hoj] at hon; cases hon
        have := hall e he hb
        rw [heon, huni] at this; cases this
      · cases hlj : listed.getD j false with
        | true =>
          have := inv.closed j oj hoj hlj e he hb
          rw [heon, huni] at this; cases this
        | false => exact ih (n - j) (by omega) j rfl (by omega) (getD_in (by rw [inv.size]; exact (Array.getElem?_eq_some_iff.1 hoj).1) hlj) hr
  intro t ht hr
  rcases Nat.eq_or_lt_of_le ht with rfl | hlt
  · exact key _ i rfl hi hun hr
  · obtain ⟨_, ot, hot, hall⟩ := mem_ready.1 hr
    have htlt : t < ops.size := (Array.getElem?_eq_some_iff.1 hot).1
    have h1 := List.all_eq_true.1 hl t (List.mem_range.2 htlt)
    simp only [Bool.or_eq_true, decide_eq_true_eq] at h1
    rcases h1 with h1 | h1
    · omega
    · obtain ⟨s, hs1, hs2⟩ := List.any_eq_true.1 h1
      simp only [Bool.and_eq_true, decide_eq_true_eq] at hs2
      have hst := List.mem_range.1 hs1
      obtain ⟨o', ho', e, he, hb, heon⟩ := Region.waitsFor_spec hs2.2
      rw [hot] at ho'; cases ho'
      have := hall e he hb
      rw [heon, getD_both (inv.tail s hs2.1 (by omega))] at this
      cases this

/-- The first n operations only read: whichever comes up first, the values are those of the text's order. -/
theorem head_take {w : World} {n i : Nat} {oi : Oper} {v : Value} {L : Array Bool → Act → Prop} (hi : ops[i]? = some oi) (hsel : Region.noSelect ops = true)
    (hs : Region.sinkB md ops n = true) (hl : linkB md ops n = true) (hin : i < n) (hdone : ∀ listed a, L listed a → ∀ j ∈ Region.ready md ops listed, n ≤ j) :
    ∀ (f : Nat) (listed : Array Bool) (a : Act), HeadInv md ops n listed →
      (∀ j oj, ops[j]? = some oj → j ≠ i → listed.getD j true = false → (∀ e ∈ oj.after, Region.binds md e = true → e.on ≠ i) → oi.apart ops oj = true) →
      i ∈ Region.ready md ops listed → YieldsAt P ops w oi v a →
      wpAnyL P md ops w n L f (listed.setIfInBounds i true) (a.put oi.dst v) → wpAnyL P md ops w n L (f + 1) listed a := by
  have sel := Region.noSelect_spec hsel
  intro f
  induction f with
  | zero =>
    intro listed a inv _ hr hy H
    have hun := (mem_ready.1 hr).1
    refine ⟨List.ne_nil_of_mem hr, fun j hj => ?_⟩
    have hjn : j < n := Nat.lt_of_not_le fun h => none_ahead hs hl inv hin hun j h hj
    by_cases hji : j = i
    · subst hji; exact ⟨hjn, hy.stOp hi H⟩
    · have := hdone _ _ H j (ready_mono hj hji)
      omega
  | succ f ih =>
    intro listed a inv hfree hr hy H
    have hun := (mem_ready.1 hr).1
    refine ⟨List.ne_nil_of_mem hr, fun j hj => ?_⟩
    have hjn : j < n := Nat.lt_of_not_le fun h => none_ahead hs hl inv hin hun j h hj
    refine ⟨hjn, ?_⟩
    by_cases hji : j = i
    · subst hji; exact hy.stOp hi H
    obtain ⟨hjun, oj, hoj, hall⟩ := mem_ready.1 hj
    have hnot : ∀ e ∈ oj.after, Region.binds md e = true → e.on ≠ i := fun e he hb heq => by
      have h1 := hall e he hb
      rw [heq, getD_both hun] at h1
      cases h1
    have h2 := stOp_put hoj (hfree j oj hoj hji hjun hnot) (sel i oi · · hi) (sel j oj · · hoj) hy (H.2 j (ready_mono hj hji)).2
    refine stOp_mono (fun a' h3 => ih _ a' (inv.set hj hjn) (fun k ok hk hki hun' hno => hfree k ok hk hki ?_ hno) (ready_mono hr (Ne.symm hji)) h3.1 ?_) h2
    · by_cases hjk : j = k
      · subst hjk; exact hjun
      · rwa [getD_set_ne true hjk] at hun'
    · rw [Array.setIfInBounds_comm _ _ hji]
      exact h3.2

theorem asks_move {o : Oper} (hm : (match o.op with | .move _ => true | .assign _ => true | _ => false) = true) {a : Act} {w : World} : ¬ o.asks P a w := by
  obtain ⟨dst, op, ty, pos, after, guard⟩ := o
  intro h
  cases op <;> simp at hm <;> exact absurd h.1 (by simp [execOp]; exact nofun)

def isMv (o : Oper) : Bool := match o.op with | .move _ => true | .assign _ => true | _ => false
/-- An order of what is left: each is the only one that may come up, or moves a slot and may come first. -/
def ordB (md : Region.Mode) (ops : Array Oper) : List Nat → Array Bool → Bool
  | [], listed => (Region.ready md ops listed).isEmpty
  | k :: r, listed => (decide (Region.ready md ops listed = [k]) || ((Region.ready md ops listed).contains k && Region.free md ops listed k && ((ops[k]?).map isMv).getD false)) && ordB md ops r (listed.setIfInBounds k true)
def pick (l : List Oper) : List Nat → List Oper
  | [] => []
  | k :: r => (l[k]?).toList ++ pick l r

theorem wpAny_of_ord {l : List Oper} {Q : Exit → Act → World → Prop} (hsel : Region.noSelect l.toArray = true) (hQ : ∀ d v c a w, Q (.panic c) (Act.put a d v) w → Q (.panic c) a w) :
    ∀ (r : List Nat) (listed : Array Bool) (a : Act) (w : World), ordB md l.toArray r listed = true → wpList P l.toArray Q (pick l r) a w → wpAny P md l.toArray Q r.length listed a w
  | [], _, _, _, hB, h => ⟨by simpa [ordB] using hB, h⟩
  | k :: r, listed, a, w, hB, h => by
    simp only [ordB, Bool.and_eq_true, Bool.or_eq_true, decide_eq_true_eq] at hB
    obtain ⟨hk, hB⟩ := hB
    cases ho : l[k]? with
    | none =>
      exfalso
      rcases hk with hk | hk
      · have : k ∈ Region.ready md l.toArray listed := by rw [hk]; simp
        obtain ⟨_, o, h2, _⟩ := mem_ready.1 this
        simp [ho] at h2
      · simp [ho] at hk
    | some o =>
      have ho' : l.toArray[k]? = some o := by simpa using ho
      simp only [pick, ho, Option.toList, List.cons_append, List.nil_append] at h
      rcases hk with hk | ⟨⟨hk1, hk2⟩, hk3⟩
      · refine ⟨fun h1 => (by rw [hk] at h1; cases h1), fun i hi => ?_⟩
        rw [hk] at hi
        have hik : i = k := by simpa using hi
        subst hik
        refine wpOp_mono (K := wpList P l.toArray Q (pick l r)) (fun a' w' h' => wpAny_of_ord hsel hQ r _ a' w' hB h') ?_
        unfold wpOp; simp only [ho']; exact h
      · have hmv : isMv o = true := by simpa [ho] using hk3
        unfold wpList at h
        have step : ∀ v, Yields P l.toArray o v a → wpList P l.toArray Q (pick l r) (a.put o.dst v) w → wpAny P md l.toArray Q (r.length + 1) listed a w := fun v hy hw =>
          wpAny_take ho' hsel hk2 hk1 (fun c a w => hQ o.dst v c a w) hy (wpAny_of_ord hsel hQ r _ _ w hB hw)
        by_cases hw : Region.wanted o (yielded l.toArray a.tmps) = true
        · rw [if_pos hw] at h
          rcases h with h | h
          · obtain ⟨dst, op, ty, pos, after, guard⟩ := o
            cases op <;> simp [isMv] at hmv
            · exact step _ (.inl ⟨hw, fun _ => rfl⟩) h
            · exact step _ (.inl ⟨hw, fun _ => rfl⟩) h
          · exact absurd h.1 (asks_move hmv)
        · rw [if_neg hw] at h
          exact step _ (.inr ⟨by simpa using hw, rfl⟩) h

/-- The order is one for what is behind the first n. -/
def headB (md : Region.Mode) (ops : Array Oper) (r : List Nat) : Nat → Nat → Array Bool → Bool
  | 0, _, listed => ordB md ops r listed
  | f + 1, k, listed => (Region.ready md ops listed).contains k && Region.free md ops listed k && headB md ops r f (k + 1) (listed.setIfInBounds k true)
/-- How a drawn region may be walked: the first n read, then the others in the order r. -/
def planB (ops : Array Oper) (n : Nat) (r : List Nat) : Bool :=
  Region.noSelect ops && decide (n < ops.size) && decide (n + r.length = ops.size) && Region.sinkB .any ops n && linkB .any ops n && r.all (fun k => decide (n ≤ k)) && headB .any ops r n 0 (Array.replicate ops.size false)

theorem ordB_ready {n : Nat} {r : List Nat} {listed : Array Bool} (h : ordB md ops r listed = true) (inv : ∀ i < n, listed.getD i true = true) : ∀ j ∈ Region.ready md ops listed, n ≤ j := by
  intro j hj
  refine Nat.le_of_not_lt fun hlt => ?_
  have := (mem_ready.1 hj).1
  rw [inv j hlt] at this
  cases this

theorem wpAnyL_plan {w : World} {n : Nat} {r : List Nat} {Lq : Act → Prop} (hsel : Region.noSelect ops = true) (hs : Region.sinkB md ops n = true) (hl : linkB md ops n = true) (hn : n < ops.size) :
    ∀ (l : List Oper) (k : Nat) (listed : Array Bool) (a : Act), (∀ j, j < l.length → l[j]? = ops[k + j]?) → k + l.length = n → HeadInv md ops n listed → (∀ i < k, listed.getD i true = true) →
    headB md ops r l.length k listed = true → wpStill P ops w Lq l a →
    wpAnyL P md ops w n (fun listed' a' => ((∀ i < n, listed'.getD i true = true) ∧ ordB md ops r listed' = true) ∧ Lq a') l.length listed a
  | [], k, listed, a, _, hk, _, hdn, hB, h => by
    have : k = n := by simpa using hk
    subst this
    exact ⟨⟨hdn, by simpa [headB] using hB⟩, h⟩
  | o :: l, k, listed, a, hll, hk, inv, hdn, hB, h => by
    have h0 : ops[k]? = some o := by simpa using (hll 0 (by simp)).symm
    simp only [List.length_cons, headB, Bool.and_eq_true] at hB
    obtain ⟨⟨hr, hf⟩, hB'⟩ := hB
    have hkn : k < n := by simp only [List.length_cons] at hk; omega
    have hr' : k ∈ Region.ready md ops listed := by simpa using hr
    have hst : stOp P ops w k (wpStill P ops w Lq l) a := by unfold stOp; simp only [h0]; exact h
    obtain ⟨v, hy, hK⟩ := yieldsAt_of_stOp h0 hst
    refine head_take h0 hsel hs hl hkn (fun listed' a' hL => ordB_ready hL.1.2 hL.1.1) l.length listed a inv (Region.free_spec h0 hf) hr' hy ?_
    refine wpAnyL_plan hsel hs hl hn l (k + 1) _ _ (fun j hj => by have := hll (j + 1) (by simp; omega); simpa [Nat.add_assoc, Nat.add_comm 1 j] using this) (by simp only [List.length_cons] at hk; omega) (inv.set hr' hkn) (fun i hi => ?_) hB' hK
    by_cases hik : k = i
    · subst hik
      have hlt : k < listed.size := by rw [inv.size]; omega
      simp [hlt]
    · rw [getD_set_ne true hik]; exact hdn i (by omega)

/-- A drawn region by a plan: the first n operations read; the others come in the order r. -/
theorem wp_region_plan0 {id : Nat} {Q : Exit → Act → World → Prop} {a : Act} {w : World} {l : List Oper} (n : Nat) (r : List Nat) (hm : P.follows .mixedOrders = true) (hB : planB l.toArray n r = true)
    (hQ : ∀ d v c a w, Q (.panic c) (Act.put a d v) w → Q (.panic c) a w)
    (h : wpStill P l.toArray w.drew (fun a' => wpList P l.toArray Q (pick l r) a' w.drew) (l.take n) a) : (Code.region id l.toArray true).wp P Q a w := by
  simp only [planB, Bool.and_eq_true, decide_eq_true_eq] at hB
  obtain ⟨⟨⟨⟨⟨⟨hsel, hn⟩, hsz⟩, hs⟩, hl⟩, _⟩, hh⟩ := hB
  have hn' : n < l.length := by simpa using hn
  have htl : (l.take n).length = n := by simp; omega
  have inv0 : HeadInv .any l.toArray n (Array.replicate l.toArray.size false) :=
    ⟨by simp, fun j oj _ hl => (by rw [getD_replicate_false] at hl; cases hl), fun t _ ht => getD_in (by simpa using ht) (getD_replicate_false _ _)⟩
  have H := wpAnyL_plan (md := .any) (r := r) hsel hs hl hn (l.take n) 0 _ a (fun j hj => by
    have hj' : j < n := by rw [htl] at hj; exact hj
    simp [hj']) (by simpa using htl) inv0 (fun i hi => absurd hi (Nat.not_lt_zero _)) (by rw [htl]; exact hh) h
  refine wp_region_any hm ?_
  have := wpAny_of_head (Q' := Q) (g := r.length) (fun listed a' hL => wpAny_of_ord hsel hQ r listed a' _ hL.1.2 hL.2) _ _ _ H
  rw [htl, hsz] at this
  exact this
/-- The same, where the region is shown not to panic: behind it 'NoPanic.normal' gives the post back. -/
theorem wp_region_plan {id : Nat} {Q : Exit → Act → World → Prop} {a : Act} {w : World} {l : List Oper} (n : Nat) (r : List Nat) (hm : P.follows .mixedOrders = true) (hB : planB l.toArray n r = true)
    (h : wpStill P l.toArray w.drew (fun a' => wpList P l.toArray (NoPanic Q) (pick l r) a' w.drew) (l.take n) a) : (Code.region id l.toArray true).wp P Q a w :=
  wp_region_noPanic (wp_region_plan0 n r hm hB (fun _ _ _ _ _ h => h.elim) h)
end
end Go.Proofs.YtdfjbnfdknpahaaGreatDoor
/- Contracts of package vector, the second part; the comparison of lists. -/
namespace Go.Proofs.YtdfjbnfdknpahaaGreatDoor
set_option linter.unusedVariables false
set_option linter.unusedSimpArgs false
open Go.RowKit
def joinOf (a b : List Int) : List Int := if bothErr a b = 0 then zipMax a b else []
/-- One number of a list is another. -/
def stepErr (v : List Int) (who : Int) : Nat := if vecErr v ≠ 0 then vecErr v else if isMember who = false then 1 else if v.getD who.toNat 0 = 1000000 then 4 else 0
def stepOf (v : List Int) (who : Int) : List Int := if stepErr v who = 0 then v.set who.toNat (v.getD who.toNat 0 + 1) else []
/-- A list that was written out. -/
theorem Ints_lit {w : World} {b n : Nat} {t : TypeId} {cs : Array Value} {l : List Int} (hb : b = w.heap.size) (hcs : cs.toList = l.map (Value.int .i64)) (hn : n = l.length) (hI : ∀ x ∈ l, I64 x) (hm : l.length ≤ 100000) :
    Ints (w.alloc (.cells cs t)) (.slice (some ⟨b, 0, none⟩) n n) l := by
  subst hb; subst hn
  refine ⟨?_, hI⟩
  have := Rd_alloc (w := w) (t := t) (cs := cs) (n := l.length) (by unfold maxLen; omega)
  rw [hcs] at this; exact this
theorem bothErr_swap {a b : List Int} (h : bothErr a b = 0) : bothErr b a = 0 := by
  have := bothErr0 h; simp [bothErr, this.1, this.2]
theorem bothErr_self {a b : List Int} (h : bothErr a b = 0) : bothErr a a = 0 := by
  have := bothErr0 h; simp [bothErr, this.1]
theorem leq_refl : ∀ a : List Int, leq a a = true
  | [] => rfl
  | x :: r => by simp [leq, leq_refl r]
theorem leq_antisymm {a b : List Int} (hl : a.length = b.length) (h1 : leq a b = true) (h2 : leq b a = true) : a = b :=
  List.ext_getElem hl fun i h h' => Int.le_antisymm ((leq_iff a b hl).1 h1 i h h') ((leq_iff b a hl.symm).1 h2 i h' h)
theorem Below_drewN {B : Nat} {a w : World} (h : Below B a w) (n : Nat) : Below B a (w.drewN n) := ⟨h.os, h.tape, h.output, h.size, h.block⟩
theorem Own.drewN {w0 w : World} {P : HProp} (h : Own w0 P w) (n : Nat) : Own w0 P (w.drewN n) := h.same rfl rfl rfl rfl
theorem Own.int_shape {w0 w : World} {v : Value} {l : List Int} {R : HProp} (h : Own w0 (IntSl v l * R) w) : ∃ ad cap, v = .slice ad l.length cap := by
  obtain ⟨ad, cap, h1, _⟩ := Own.rd h
  exact ⟨ad, cap, h1⟩
end Go.Proofs.YtdfjbnfdknpahaaGreatDoor
/- Contracts of package history: what is wrong with an event, with a history. -/
namespace Go.Proofs.YtdfjbnfdknpahaaGreatDoor
set_option linter.unusedVariables false
set_option linter.unusedSimpArgs false
open Go.RowKit
def evV (x : Ev) : Value := .agg #[.int .i64 x.1, .int .i64 x.2.1, .int .i64 x.2.2]
def EvO (b : Nat) (x : Ev) : HProp := blk b (.cells #[.int .i64 x.1, .int .i64 x.2.1, .int .i64 x.2.2] 112 (0, 0))
theorem Own.ev {w0 w : World} {b : Nat} {x : Ev} {R : HProp} (h : Own w0 (EvO b x * R) w) : w.cell? ⟨b, 0, none⟩ = some (.int .i64 x.1) ∧ w.cell? ⟨b, 1, none⟩ = some (.int .i64 x.2.1) ∧ w.cell? ⟨b, 2, none⟩ = some (.int .i64 x.2.2) :=
  ⟨(Own.cell h 0).trans rfl, (Own.cell h 1).trans rfl, (Own.cell h 2).trans rfl⟩
def ReadsE (w0 : World) (R : HProp) (v : Value) (l : List Ev) : Prop := ∀ w, Own w0 R w → Evs w v l
theorem Evs.later {w0 w : World} {P : HProp} {v : Value} {l : List Ev} (h : Evs w0 v l) (ho : Own w0 P w) : Evs w v l := ⟨h.1.later ho, h.2⟩
theorem Evs.reads {w0 : World} {R : HProp} {v : Value} {l : List Ev} (h : Evs w0 v l) : ReadsE w0 R v l := fun _ ho => h.later ho
theorem ReadsE.more {w0 : World} {P R : HProp} {v : Value} {l : List Ev} (h : ReadsE w0 R v l) : ReadsE w0 (P * R) v l := fun _ ho => h _ ho.drop
theorem Evs.shape {w : World} {v : Value} {l : List Ev} (h : Evs w v l) : ∃ ad cap, v = .slice ad l.length cap ∧ l.length ≤ cap ∧ cap ≤ 9223372036854775807 := by
  obtain ⟨ad, cap, rfl, h1, h2, _⟩ := h.1
  exact ⟨ad, cap, rfl, h1, h2⟩
theorem ev_get (l : List Ev) (k j : Nat) (hk : k < l.length) (hj : j < 3) : (l.flatMap evCells)[k * 3 + j]? = (evCells l[k])[j]? := cells_get evCells 3 (fun _ => rfl) l k j hk hj
theorem ReadsE.at {w0 : World} {R : HProp} {ad : Option Addr} {n cap : Nat} {l : List Ev} (h : ReadsE w0 R (.slice ad n cap) l) {w : World} (ho : Own w0 R w) (k : Nat) (hk : k < l.length) :
    ∃ (a : Addr) (eb eo : Nat) (es : Option Nat), ad = some a ∧ a.add (k * 3) = ⟨eb, eo, es⟩ ∧ (∀ w, Own w0 R w → w.cell? ⟨eb, eo, es⟩ = some (.int .i64 (evAt l k).1) ∧ w.cell? ⟨eb, eo + 1, none⟩ = some (.int .i64 (evAt l k).2.1) ∧ w.cell? ⟨eb, eo + 2, none⟩ = some (.int .i64 (evAt l k).2.2)) ∧ goodEv (evAt l k) := by
  have hev : evAt l k = l[k] := by unfold evAt; rw [List.getD_eq_getElem?_getD, List.getElem?_eq_getElem hk]; rfl
  rw [hev]
  have key : ∀ w, Own w0 R w → ∃ a : Addr, ad = some a ∧ w.cell? (a.add (k * 3)) = some (.int .i64 l[k].1) ∧ w.cell? (a.add (k * 3 + 1)) = some (.int .i64 l[k].2.1) ∧ w.cell? (a.add (k * 3 + 2)) = some (.int .i64 l[k].2.2) := by
    intro w ho
    obtain ⟨ad', cap', e, h1, h2, _, hc⟩ := (h w ho).1
    cases e
    obtain ⟨a, ha, c0⟩ := hc (k * 3) _ (ev_get l k 0 hk (by omega))
    obtain ⟨a', ha', c1⟩ := hc (k * 3 + 1) _ (ev_get l k 1 hk (by omega))
    obtain ⟨a'', ha'', c2⟩ := hc (k * 3 + 2) _ (ev_get l k 2 hk (by omega))
    rw [ha] at ha' ha''; cases ha'; cases ha''
    exact ⟨a, ha, c0, c1, c2⟩
  have hadd : ∀ (a : Addr) j, 0 < j → a.add (k * 3 + j) = ⟨(a.add (k * 3)).block, (a.add (k * 3)).off + j, none⟩ := by
    intro a j hj
    unfold Addr.add
    rw [if_neg (by omega)]
    split
    · rename_i h0; simp [h0]
    · simp [Nat.add_assoc]
  obtain ⟨a, ha, _⟩ := key w ho
  refine ⟨a, (a.add (k * 3)).block, (a.add (k * 3)).off, (a.add (k * 3)).spot, ha, rfl, fun w ho => ?_, (h w ho).2 _ (List.getElem_mem hk)⟩
  obtain ⟨a', ha', c0, c1, c2⟩ := key w ho
  rw [ha] at ha'; cases ha'
  rw [hadd a 1 (by omega)] at c1
  rw [hadd a 2 (by omega)] at c2
  exact ⟨c0, c1, c2⟩
theorem Evs.front {w : World} {ad : Option Addr} {n cap k : Nat} {l : List Ev} (h : Evs w (.slice ad n cap) l) (hk : k ≤ n) : Evs w (.slice ad k cap) (l.take k) := by
  obtain ⟨⟨ad', cap', e, h1, h2, h3, hc⟩, hg⟩ := h
  cases e
  have hl : (l.take k).length = k := by simp; omega
  refine ⟨⟨ad, cap, by rw [hl], by omega, h2, h3, fun i u hu => hc i u ?_⟩, fun x hx => hg x (List.mem_of_mem_take hx)⟩
  have hi : i < (l.take k).length * 3 := by
    have := (List.getElem?_eq_some_iff.1 hu).1
    rwa [cells_len evCells 3 (fun _ => rfl)] at this
  rw [← List.take_append_drop k l, List.flatMap_append, List.getElem?_append_left (by rw [cells_len evCells 3 (fun _ => rfl)]; exact hi)]
  exact hu
theorem ReadsE.front {w0 : World} {R : HProp} {ad : Option Addr} {n cap k : Nat} {l : List Ev} (h : ReadsE w0 R (.slice ad n cap) l) (hk : k ≤ n) : ReadsE w0 R (.slice ad k cap) (l.take k) := fun _ ho => (h _ ho).front hk
def saidF (c : Nat) : Value := .func (.func 153) #[] #[.pointer (some ⟨c, 0, none⟩)]
set_option maxRecDepth 100000 in
set_option maxHeartbeats 4000000 in
theorem said1_any {w0 w : World} {R : HProp} (c : Nat) (word : Int) (x : Ev) (h : Own w0 R w) (hc : ∀ w', Own w0 R w' → w'.cell? ⟨c, 0, none⟩ = some (.int .i64 word)) :
    Calls Tryz.prog 153 #[evV x, .pointer (some ⟨c, 0, none⟩)] w fun e w' => e = .returned (.bool (saysB word x)) ∧ Own w0 R w' := by
  obtain ⟨a, b, d⟩ := x
  unfold evV
  obtain ⟨b1, hb_b1⟩ : ∃ zz_, zz_ = (w).heap.size := ⟨_, rfl⟩
  obtain ⟨w1, hw_w1⟩ : ∃ zz_, zz_ = (w).alloc (.cells #[.int .i64 a, .int .i64 b, .int .i64 d] 112 (0, 0)) := ⟨_, rfl⟩
  have h_HO := (h).alloc (.cells #[.int .i64 a, .int .i64 b, .int .i64 d] 112 (0, 0))
  rw [← hb_b1, ← hw_w1] at h_HO
  have HO := Lib.hid h_HO
  clear h_HO
  obtain ⟨c0, c1, c2⟩ := (show Own w0 (EvO b1 (a, b, d) * R) w1 from HO.out).ev
  have c3 := hc _ HO.out.drop
  simp only at c0 c1 c2
  have H := Lib.hid h; have HC := Lib.hid hc
  clear h hc
  by_cases h1 : b = 2
  · subst h1
    have h2 : saysB word (a, 2, d) = (d == word) := by unfold saysB; simp [Bool.beq_eq_decide_eq]
    have H2 := Lib.hid h2
    clear h2
    go_enter Tryz.func153, Tryz.ntmps153
    go_upto_region 1 with fail
    rw [← hb_b1, ← hw_w1]
    clear hb_b1 hw_w1
    go_wp2
    go_ret
    exact ⟨by rw [H2.out]; rfl, HO.out.drop⟩
  · have h2 : saysB word (a, b, d) = false := by unfold saysB; simp [h1]
    have h3 : (b == 2) = false := by simpa using h1
    have H2 := Lib.hid h2; have H1 := Lib.hid h1
    clear h2 h1
    go_enter Tryz.func153, Tryz.ntmps153
    go_upto_region 1 with fail
    rw [← hb_b1, ← hw_w1]
    clear hb_b1 hw_w1
    go_wp2
    go_ret
    exact ⟨by rw [H2.out]; rfl, HO.out.drop⟩
set_option maxRecDepth 100000 in
set_option maxHeartbeats 4000000 in
theorem saidIndex_any {w0 w : World} {R : HProp} (c : Nat) (word : Int) (v : Value) (l : List Ev) (h : Own w0 R w) (hc : ∀ w', Own w0 R w' → w'.cell? ⟨c, 0, none⟩ = some (.int .i64 word)) (hl : ReadsE w0 R v l) :
    Calls Tryz.prog 152 #[v, saidF c] w fun e w' => e = .returned (.int .i64 (saidAt l word)) ∧ Own w0 R w' := by
  obtain ⟨ad, cap, rfl, hlc, hcap⟩ := (hl _ h).shape
  unfold saidF
  have H := Lib.hid h; have HL := Lib.hid hl; have HC := Lib.hid hc
  clear h hl hc
  go_enter Tryz.func152, Tryz.ntmps152
  go_wp2_with fail
  go_loopw [8] (fun i wr => ∃ k : Nat, k ≤ l.length ∧ i = .int .i64 k ∧ Hid (Own w0 R wr) ∧ Hid (∀ j (_ : j < k) (h : j < l.length), saysB word l[j] = false)) (fun i _ => l.length - (intOf i).toNat)
  case atStart => exact ⟨0, Nat.zero_le _, rfl, H, Lib.hid (fun j h => by omega)⟩
  case round =>
    obtain ⟨k, hk, rfl, HO, hp⟩ := hrel
    by_cases hlt : k < l.length
    rotate_left
    · have hm : saidAt l word = -1 := whereI_miss _ l (fun j h => hp.out j (by omega) h)
      have HM := Lib.hid hm
      clear hm
      go_wp2
      go_ret
      exact ⟨by rw [HM.out]; rfl, HO.out⟩
    obtain ⟨aa, eb, eo, es, rfl, hea, hcs, hgd⟩ := HL.out.at HO.out k hlt
    obtain ⟨x, hx⟩ : ∃ x, x = evAt l k := ⟨_, rfl⟩
    rw [← hx] at hcs
    have hxk : x = l[k] := by rw [hx]; unfold evAt; rw [List.getD_eq_getElem?_getD, List.getElem?_eq_getElem hlt]; rfl
    obtain ⟨c0, c1, c2⟩ := hcs _ HO.out
    have HCS := Lib.hid hcs; have HX := Lib.hid hx; have HGD := Lib.hid hgd
    clear hcs hx hgd
    cases hs : saysB word x
    · have hn : ∀ j (_ : j < k + 1) (h : j < l.length), saysB word l[j] = false := fun j h1 h2 => by
        by_cases e : j = k
        · subst e; rw [← hxk]; exact hs
        · exact hp.out j (by omega) h2
      have HN := Lib.hid hn; have HXK := Lib.hid hxk
      clear hn hxk
      go_wp2_with fail
      refine (said1_any c word x HO.out HC.out).mono ?_
      rintro e w' ⟨rfl, ho⟩
      rw [hs]
      have HO2 := Lib.hid ho
      clear ho c0 c1 c2
      go_wp2
      go_round
      case rel => exact ⟨k + 1, by omega, by go_num, HO2, HN⟩
      case measure => simp [intOf]; omega
    · have hm : saidAt l word = k := whereI_hit _ l k hlt (fun j h => hp.out j h (by omega)) (by rw [← hxk]; exact hs)
      have HM := Lib.hid hm; have HXK := Lib.hid hxk
      clear hm hxk
      go_wp2_with fail
      refine (said1_any c word x HO.out HC.out).mono ?_
      rintro e w' ⟨rfl, ho⟩
      rw [hs]
      have HO2 := Lib.hid ho
      clear ho c0 c1 c2
      go_wp2
      go_ret
      exact ⟨by rw [HM.out]; rfl, HO2.out⟩
set_option maxRecDepth 100000 in
set_option maxHeartbeats 4000000 in
theorem said_any {w0 w : World} {R : HProp} (word : Int) (v : Value) (l : List Ev) (h : Own w0 R w) (hl : ReadsE w0 R v l) :
    Calls Tryz.prog 131 #[v, .int .i64 word] w fun e w' => e = .returned (.int .i64 (saidAt l word)) ∧ Own w0 R w' := by
  obtain ⟨b1, hb_b1⟩ : ∃ zz_, zz_ = (w).heap.size := ⟨_, rfl⟩
  obtain ⟨w1, hw_w1⟩ : ∃ zz_, zz_ = (w).alloc (.cells #[.int .i64 word] 3 (0, 0)) := ⟨_, rfl⟩
  have h_HO := (h).alloc (.cells #[.int .i64 word] 3 (0, 0))
  rw [← hb_b1, ← hw_w1] at h_HO
  have HO := Lib.hid h_HO
  clear h_HO
  have hc : ∀ w', Own w0 (blk b1 (.cells #[.int .i64 word] 3 (0, 0)) * R) w' → w'.cell? ⟨b1, 0, none⟩ = some (.int .i64 word) := fun w' ho => (Own.cell ho 0).trans rfl
  have H := Lib.hid h; have HL := Lib.hid hl; have HC := Lib.hid hc
  clear h hl hc
  go_enter Tryz.func131, Tryz.ntmps131
  go_upto_region 1 with fail
  rw [← hb_b1, ← hw_w1]
  clear hb_b1 hw_w1
  go_wp2_with fail
  refine (saidIndex_any b1 word v l HO.out HC.out HL.out.more).mono ?_
  rintro e w' ⟨rfl, ho⟩
  have HO2 := Lib.hid ho.drop
  clear ho
  go_wp2
  go_ret
  exact ⟨rfl, HO2.out⟩
set_option maxRecDepth 100000 in
set_option maxHeartbeats 4000000 in
theorem right_any {w0 w : World} {R : HProp} (x : Ev) (h : Own w0 R w) :
    Calls Tryz.prog 149 #[evV x] w fun e w' => e = .returned (.bool (rightB x)) ∧ Own w0 R w' := by
  obtain ⟨a, b, d⟩ := x
  unfold evV
  obtain ⟨b1, hb_b1⟩ : ∃ zz_, zz_ = (w).heap.size := ⟨_, rfl⟩
  obtain ⟨w1, hw_w1⟩ : ∃ zz_, zz_ = (w).alloc (.cells #[.int .i64 a, .int .i64 b, .int .i64 d] 112 (0, 0)) := ⟨_, rfl⟩
  have h_HO := (h).alloc (.cells #[.int .i64 a, .int .i64 b, .int .i64 d] 112 (0, 0))
  rw [← hb_b1, ← hw_w1] at h_HO
  have HO := Lib.hid h_HO
  clear h_HO
  obtain ⟨c0, c1, c2⟩ := (show Own w0 (EvO b1 (a, b, d) * R) w1 from HO.out).ev
  simp only at c0 c1 c2
  have H := Lib.hid h
  clear h
  cases hm : isMember a
  · have hr : rightB (a, b, d) = false := by unfold rightB; simp [hm]
    have HR := Lib.hid hr
    clear hr
    go_enter Tryz.func149, Tryz.ntmps149
    go_upto_region 1 with fail
    rw [← hb_b1, ← hw_w1]
    clear hb_b1 hw_w1
    go_wp2_with fail
    refine (member_any a _).mono ?_
    rintro e w' ⟨rfl, rfl⟩
    rw [hm]
    go_wp2
    go_ret
    exact ⟨by rw [HR.out]; rfl, HO.out.drop⟩
  by_cases h1 : b = 1
  · subst h1
    have hr : rightB (a, 1, d) = (d == 0) := by unfold rightB; simp [hm, Bool.beq_eq_decide_eq]
    have HR := Lib.hid hr
    clear hr
    go_enter Tryz.func149, Tryz.ntmps149
    go_upto_region 1 with fail
    rw [← hb_b1, ← hw_w1]
    clear hb_b1 hw_w1
    go_wp2_with fail
    refine (member_any a _).mono ?_
    rintro e w' ⟨rfl, rfl⟩
    rw [hm]
    go_wp2
    go_ret
    exact ⟨by rw [HR.out]; rfl, HO.out.drop⟩
  have t1 : (b == 1) = false := by simpa using h1
  by_cases h2 : b = 2
  · subst h2
    have hr : rightB (a, 2, d) = isWord d := by unfold rightB; simp [hm]
    have HR := Lib.hid hr
    clear hr
    go_enter Tryz.func149, Tryz.ntmps149
    go_upto_region 1 with fail
    rw [← hb_b1, ← hw_w1]
    clear hb_b1 hw_w1
    go_wp2_with fail
    refine (member_any a _).mono ?_
    rintro e w' ⟨rfl, rfl⟩
    rw [hm]
    go_wp2_with fail
    refine (word_any d _).mono ?_
    rintro e w' ⟨rfl, rfl⟩
    go_wp2
    go_ret
    exact ⟨by rw [HR.out]; rfl, HO.out.drop⟩
  have t2 : (b == 2) = false := by simpa using h2
  by_cases h3 : b = 3
  · subst h3
    have hr : rightB (a, 3, d) = isWord d := by unfold rightB; simp [hm]
    have HR := Lib.hid hr
    clear hr
    go_enter Tryz.func149, Tryz.ntmps149
    go_upto_region 1 with fail
    rw [← hb_b1, ← hw_w1]
    clear hb_b1 hw_w1
    go_wp2_with fail
    refine (member_any a _).mono ?_
    rintro e w' ⟨rfl, rfl⟩
    rw [hm]
    go_wp2_with fail
    refine (word_any d _).mono ?_
    rintro e w' ⟨rfl, rfl⟩
    go_wp2
    go_ret
    exact ⟨by rw [HR.out]; rfl, HO.out.drop⟩
  have t3 : (b == 3) = false := by simpa using h3
  have hr : rightB (a, b, d) = false := by unfold rightB; simp [h1, h2, h3]
  have HR := Lib.hid hr; have H1 := Lib.hid h1; have H2 := Lib.hid h2; have H3 := Lib.hid h3
  clear hr h1 h2 h3
  go_enter Tryz.func149, Tryz.ntmps149
  go_upto_region 1 with fail
  rw [← hb_b1, ← hw_w1]
  clear hb_b1 hw_w1
  go_wp2_with fail
  refine (member_any a _).mono ?_
  rintro e w' ⟨rfl, rfl⟩
  rw [hm]
  go_wp2
  go_ret
  exact ⟨by rw [HR.out]; rfl, HO.out.drop⟩
end Go.Proofs.YtdfjbnfdknpahaaGreatDoor
