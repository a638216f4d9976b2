/- Plain laws of a fifo that hears one sender, and of what a sender keeps. -/
import Derived.Test.YteelldblfmhjlaaDoorAgain
import Derived.Test.YteelldblfmhjlaaDoorFifoBack
namespace Go.Proofs.YteelldblfmhjlaaDoor
set_option linter.unusedVariables false
set_option linter.unusedSimpArgs false
open Go.RowKit
theorem nodup_map_on {α β : Type} (f : α → β) : ∀ (l : List α), l.Nodup → (∀ x ∈ l, ∀ y ∈ l, f x = f y → x = y) → (l.map f).Nodup
  | [], _, _ => by simp
  | x :: r, h, hf => by
    simp only [List.nodup_cons] at h
    rw [List.map_cons, List.nodup_cons]
    refine ⟨fun hm => ?_, nodup_map_on f r h.2 (fun a ha b hb => hf a (List.mem_cons_of_mem _ ha) b (List.mem_cons_of_mem _ hb))⟩
    obtain ⟨y, hy, e⟩ := List.mem_map.1 hm
    exact h.1 (hf y (List.mem_cons_of_mem _ hy) x (by simp) e ▸ hy)
theorem mget_of_mem {m : List ((Int × Int) × Int)} (hn : (m.map (·.1)).Nodup) {p : (Int × Int) × Int} (h : p ∈ m) : mget m p.1 = some p.2 := by
  obtain ⟨j, hj, e⟩ := List.getElem_of_mem h
  exact mget_at hn (j := j) (by rw [List.getElem?_eq_getElem hj, e])
theorem drain_room (who : Int) : ∀ (c : Nat) (nx : Int) (m : List ((Int × Int) × Int)), (m.map (·.1)).Nodup → (∀ i, i < c → mget m (who, nx + (i : Int)) ≠ none) → c ≤ m.length
  | 0, _, _, _, _ => Nat.zero_le _
  | c + 1, nx, m, hn, h => by
    have h0 := h 0 (by omega)
    simp at h0
    obtain ⟨v, hv⟩ := Option.ne_none_iff_exists'.1 h0
    have h1 := mdel_len hv
    have ih := drain_room who c (nx + 1) (mdel m (who, nx)) (mdel_nodup hn) (fun i hi => by
      rw [mget_mdel m hn, if_neg (by intro e; injection e with _ e; omega)]
      have := h (i + 1) (by omega)
      rwa [show nx + 1 + (i : Int) = nx + ((i + 1 : Nat) : Int) from by omega])
    omega
/-- What holds of a fifo that hears the words of all, h of which it has heard. -/
structure FInv (all : List Int) (f : Fi) (h : Nat) : Prop where
  len5 : f.next.length = 5
  nxt : ∀ x ∈ f.next, 1 ≤ x ∧ x ≤ 1000001
  nx : fiN f 0 = (h : Int) + 1
  hle : h ≤ all.length
  keys : ∀ p ∈ f.waits, p.1.1 = 0 ∧ (h : Int) + 1 < p.1.2 ∧ p.1.2 ≤ all.length ∧ all[(p.1.2 - 1).toNat]? = some p.2
  nodup : (f.waits.map (·.1)).Nodup
def wordsOk (all : List Int) : Prop := all.length ≤ 30 ∧ ∀ x ∈ all, 1 ≤ x ∧ x ≤ 30
theorem FInv.few {all : List Int} {f : Fi} {h : Nat} (hi : FInv all f h) (hw : wordsOk all) : f.waits.length ≤ 30 := by
  have h1 : ((f.waits.map (·.1)).map (·.2)).Nodup := nodup_map_on _ _ hi.nodup (fun x hx y hy e => by
    obtain ⟨p, hp, rfl⟩ := List.mem_map.1 hx
    obtain ⟨q, hq, rfl⟩ := List.mem_map.1 hy
    exact Prod.ext ((hi.keys p hp).1.trans (hi.keys q hq).1.symm) e)
  have h2 := distinct_le 30 _ h1 (fun x hx => by
    obtain ⟨y, hy, rfl⟩ := List.mem_map.1 hx
    obtain ⟨p, hp, rfl⟩ := List.mem_map.1 hy
    have := hi.keys p hp
    have := hw.1
    omega)
  simpa using h2
theorem FInv.fit {all : List Int} {f : Fi} {h : Nat} (hi : FInv all f h) (hw : wordsOk all) : fiFit f :=
  ⟨hi.len5, hi.nxt, by have := hi.few hw; omega, fun p hp => by
    have h1 := hi.keys p hp
    have h2 := hw.2 p.2 (List.mem_of_getElem? h1.2.2.2)
    have := hw.1
    omega⟩
theorem fInv_new (all : List Int) : FInv all fiNew 0 := ⟨rfl, by simp [fiNew], rfl, Nat.zero_le _, by simp [fiNew], by simp [fiNew]⟩
theorem he_take {all : List Int} {f : Fi} {h : Nat} (hi : FInv all f h) (hw : wordsOk all) (k : Nat) (x : Int) (hk1 : 1 ≤ k) (hk : k ≤ all.length) (hx : all[k - 1]? = some x) :
    heErr f k x = 0 ∧ ∃ c, FInv all (fiTake f 0 k x) (h + c) ∧ all.take h ++ fiOut f 0 k x = all.take (h + c) ∧ (∀ j, fiHas f 0 j = true → fiHas (fiTake f 0 k x) 0 j = true) ∧ fiHas (fiTake f 0 k x) 0 k = true := by
  have hm0 : isMember 0 = true := by decide
  have hx30 := hw.2 x (List.mem_of_getElem? hx)
  have hwd : isWord x = true := by simp [isWord]; omega
  have hw1 := hw.1
  have hf1 : ¬ (k : Int) < 1 := by omega
  have hf2 : ¬ (1000000 : Int) < (k : Int) := by omega
  have hfew := hi.few hw
  cases hh : fiHas f 0 k
  case true =>
    have he : fiErr f 0 k x = 7 := by simp [fiErr, hm0, hf1, hf2, hwd, hh]
    have ht : fiTake f 0 k x = f := by simp [fiTake, he]
    refine ⟨by simp [heErr, he], 0, by rw [ht]; exact hi, by simp [fiOut, he], fun j hj => by rw [ht]; exact hj, by rw [ht]; exact hh⟩
  case false =>
    have he : fiErr f 0 k x = 0 := by
      have : ¬ 40 ≤ f.waits.length := by omega
      simp [fiErr, hm0, hf1, hf2, hwd, hh, this]
    have hno : mget f.waits (0, (k : Int)) = none ∧ (h : Int) + 1 ≤ k := by
      unfold fiHas at hh
      rw [hi.nx] at hh
      simp at hh
      exact ⟨hh.1, by omega⟩
    have hm' : mput f.waits (0, (k : Int)) x = f.waits ++ [((0, (k : Int)), x)] := mput_new (mget_none.1 hno.1)
    obtain ⟨m', hme⟩ : ∃ m', m' = mput f.waits (0, (k : Int)) x := ⟨_, rfl⟩
    have hnd : (m'.map (·.1)).Nodup := by rw [hme]; exact mput_nodup hi.nodup
    have hkeys : ∀ p ∈ m', p.1.1 = 0 ∧ (h : Int) + 1 ≤ p.1.2 ∧ p.1.2 ≤ all.length ∧ all[(p.1.2 - 1).toNat]? = some p.2 := fun p hp => by
      rw [hme, hm'] at hp
      rcases List.mem_append.1 hp with hp | hp
      · have := hi.keys p hp
        exact ⟨this.1, by omega, this.2.2.1, this.2.2.2⟩
      · simp at hp; subst hp
        refine ⟨rfl, hno.2, by simp; omega, ?_⟩
        simp only
        rw [show ((k : Int) - 1).toNat = k - 1 from by omega]; exact hx
    have hex : ∃ c : Nat, mget m' (0, (h : Int) + 1 + (c : Int)) = none := ⟨all.length - h, by
      rw [mget_none]
      intro p hp e
      have := hkeys p hp
      rw [e] at this
      have := hi.hle
      simp only at *
      omega⟩
    obtain ⟨c, hc0, hcl⟩ := exists_least hex
    have hcs : ∀ i, i < c → mget m' (0, (h : Int) + 1 + (i : Int)) ≠ none := fun i hi e => by have := hcl i e; omega
    have hcv : ∀ i, i < c → mget m' (0, (h : Int) + 1 + (i : Int)) = some (all.getD (h + i) 0) ∧ h + i < all.length := fun i hic => by
      obtain ⟨v, hv⟩ := Option.ne_none_iff_exists'.1 (hcs i hic)
      have hk2 := hkeys _ (mget_mem hv)
      simp only at hk2
      rw [show ((h : Int) + 1 + (i : Int) - 1).toNat = h + i from by omega] at hk2
      rw [hv, List.getD_eq_getElem?_getD, hk2.2.2.2]
      exact ⟨rfl, by omega⟩
    have hd := drain_spec 0 (fun i => all.getD (h + i) 0) c m'.length ((h : Int) + 1) m' (drain_room 0 c _ m' hnd hcs) hnd (fun i hic => (hcv i hic).1) hc0
    have hE : fiEnd f 0 k x = fiDrain 0 m'.length ((h : Int) + 1) m' := by unfold fiEnd; rw [hi.nx, ← hme]
    obtain ⟨d1, d2, d3, d4, d5, d6⟩ := hd
    rw [← hE] at d1 d2 d3 d4 d5 d6
    have hcN : h + c ≤ all.length := by
      rcases Nat.eq_zero_or_pos c with h0 | h0
      · have := hi.hle; omega
      · have := (hcv (c - 1) (by omega)).2; omega
    have htk : fiTake f 0 k x = ⟨f.next.set 0 ((h : Int) + 1 + c), (fiEnd f 0 k x).2.2⟩ := by
      unfold fiTake
      rw [if_pos he, d2]; rfl
    have hnx2 : fiN ⟨f.next.set 0 ((h : Int) + 1 + c), (fiEnd f 0 k x).2.2⟩ 0 = (h : Int) + 1 + c := by
      unfold fiN
      have := hi.len5
      simp [show 0 < f.next.length from by omega]
    have hhas : ∀ j, (mget m' (0, j)).isSome = true ∨ j < (h : Int) + 1 → fiHas (fiTake f 0 k x) 0 j = true := fun j hj => by
      rw [htk]
      unfold fiHas
      rw [hnx2]
      simp only [Bool.or_eq_true, decide_eq_true_eq, d6]
      by_cases hr : (h : Int) + 1 ≤ j ∧ j < (h : Int) + 1 + c
      · exact .inr hr.2
      · rcases hj with hj | hj
        · left; rw [if_neg (by rintro ⟨_, h2⟩; exact hr h2)]; exact hj
        · right; omega
    refine ⟨by simp [heErr, he], c, ?_, ?_, ?_, ?_⟩
    · rw [htk]
      refine ⟨by simp [hi.len5], fun y hy => ?_, by rw [hnx2]; omega, hcN, fun p hp => ?_, d4⟩
      · rcases List.mem_or_eq_of_mem_set hy with hy | rfl
        · exact hi.nxt y hy
        · omega
      · have h1 := hkeys p (d5 p hp)
        have h2 := mget_of_mem d4 hp
        rw [d6] at h2
        have h3 : ¬ (p.1.1 = 0 ∧ (h : Int) + 1 ≤ p.1.2 ∧ p.1.2 < (h : Int) + 1 + c) := fun hr => by rw [if_pos hr] at h2; cases h2
        rw [if_neg h3] at h2
        have h4 : p.1.2 ≠ (h : Int) + 1 + c := fun e => by
          have : p.1 = (0, (h : Int) + 1 + c) := Prod.ext h1.1 e
          rw [this, hc0] at h2; cases h2
        exact ⟨h1.1, by have h5 := h1.1; have h6 := h1.2.1; have h7 : ¬ p.1.2 < (h : Int) + 1 + c := fun hl => h3 ⟨h5, h6, hl⟩; omega, h1.2.2⟩
    · unfold fiOut
      rw [if_pos he, d1, List.take_add]
      congr 1
      apply List.ext_getElem?
      intro i
      rw [List.getElem?_take, List.getElem?_drop]
      by_cases hic : i < c
      · rw [if_pos hic, List.getElem?_map, List.getElem?_range hic, Option.map_some, List.getD_eq_getElem?_getD, List.getElem?_eq_getElem (hcv i hic).2]; rfl
      · rw [if_neg hic, List.getElem?_eq_none (by simp; omega)]
    · intro j hj
      apply hhas
      unfold fiHas at hj
      rw [hi.nx] at hj
      simp only [Bool.or_eq_true, decide_eq_true_eq] at hj
      rcases hj with hj | hj
      · left
        rw [hme, mget_mput]
        by_cases e : ((0 : Int), (k : Int)) = (0, j)
        · rw [if_pos e]; rfl
        · rw [if_neg e]; exact hj
      · exact .inr hj
    · apply hhas
      left
      rw [hme, mget_mput, if_pos rfl]; rfl
/-- All have come: all is heard. -/
theorem he_all {all : List Int} {f : Fi} {h : Nat} (hi : FInv all f h) (ha : ∀ j : Nat, 1 ≤ j → j ≤ all.length → fiHas f 0 j = true) : h = all.length := by
  rcases Nat.lt_or_ge h all.length with hlt | hge
  · exfalso
    have h1 := ha (h + 1) (by omega) (by omega)
    unfold fiHas at h1
    rw [hi.nx] at h1
    simp only [Bool.or_eq_true, decide_eq_true_eq] at h1
    rcases h1 with h1 | h1
    · obtain ⟨v, hv⟩ := Option.isSome_iff_exists.1 h1
      have := hi.keys _ (mget_mem hv)
      simp only at this
      omega
    · omega
  · have := hi.hle; omega
theorem heLacks_mem {all : List Int} {f : Fi} {h : Nat} (hi : FInv all f h) (hw : wordsOk all) (x : Int) : x ∈ heLacks f (all.length : Int) ↔ (h : Int) + 1 ≤ x ∧ x ≤ all.length ∧ fiHas f 0 x = false := by
  have hw1 := hw.1
  have hle := hi.hle
  have hc : isCount (all.length : Int) = true := by simp [isCount]; omega
  unfold heLacks
  rw [hc, if_pos rfl, hi.nx, List.take_of_length_le (by
    unfold heRow
    refine Nat.le_trans (List.length_filter_le _ _) ?_
    simp; omega)]
  unfold heRow
  simp only [List.mem_filter, List.mem_map, List.mem_range, Bool.not_eq_true']
  constructor
  · rintro ⟨⟨i, hi2, rfl⟩, h2⟩; exact ⟨by omega, by omega, h2⟩
  · rintro ⟨h1, h2, h3⟩; exact ⟨⟨(x - ((h : Int) + 1)).toNat, by omega, by omega⟩, h3⟩
theorem heLacks_len (f : Fi) (u : Int) : (heLacks f u).length ≤ 40 := by
  unfold heLacks
  by_cases h : isCount u = true
  · rw [if_pos h, List.length_take]; exact Nat.min_le_left _ _
  · rw [if_neg h]; exact Nat.zero_le _
def keptOf (all : List Int) : List (Int × Int) := (List.range all.length).map fun i : Nat => ((i : Int) + 1, all.getD i 0)
theorem keptOf_snoc (all : List Int) (x : Int) : keptOf (all ++ [x]) = keptOf all ++ [((all.length : Int) + 1, x)] := by
  unfold keptOf
  rw [List.length_append, List.length_singleton, List.range_succ, List.map_append]
  congr 1
  · apply List.map_congr_left
    intro i hi
    have := List.mem_range.1 hi
    simp [List.getElem?_append, this]
  · simp
theorem mget_snoc {K V : Type} [DecidableEq K] (a : List (K × V)) (p : K × V) (z : K) : mget (a ++ [p]) z = match mget a z with | some v => some v | none => if p.1 = z then some p.2 else none := by
  induction a with
  | nil => simp [mget]
  | cons q r ihh =>
    simp only [List.cons_append]; unfold mget
    by_cases e : q.1 = z <;> simp [e, ihh]
theorem mget_keptOf (all : List Int) (n : Int) : mget (keptOf all) n = if 1 ≤ n ∧ n ≤ all.length then some (all.getD (n - 1).toNat 0) else none := by
  unfold keptOf
  have hgen : ∀ c : Nat, mget ((List.range c).map fun i : Nat => ((i : Int) + 1, all.getD i 0)) n = if 1 ≤ n ∧ n ≤ c then some (all.getD (n - 1).toNat 0) else none := by
    intro c
    induction c with
    | zero => rw [if_neg (by omega)]; rfl
    | succ c ih =>
      rw [List.range_succ, List.map_append, List.map_cons, List.map_nil, mget_snoc, ih]
      by_cases h : 1 ≤ n ∧ n ≤ c
      · have h' : 1 ≤ n ∧ n ≤ ((c + 1 : Nat) : Int) := ⟨h.1, by omega⟩
        simp only [if_pos h, if_pos h']
      · simp only [if_neg h]
        by_cases e : (c : Int) + 1 = n
        · rw [if_pos e, if_pos ⟨by omega, by omega⟩, ← e]
          simp
        · rw [if_neg e, if_neg (by omega)]
  exact hgen all.length
theorem mget_filter {K V : Type} [DecidableEq K] (m : List (K × V)) (f : K → Bool) (x : K) : mget (m.filter fun p => f p.1) x = if f x = true then mget m x else none := by
  induction m with
  | nil => simp [mget]
  | cons p r ih =>
    rw [List.filter_cons]
    by_cases hp : f p.1 = true
    · rw [if_pos hp]
      unfold mget
      by_cases e : p.1 = x
      · rw [if_pos e, if_pos e, if_pos (e ▸ hp)]
      · rw [if_neg e, if_neg e, ih]
    · rw [if_neg hp, ih]
      by_cases e : p.1 = x
      · rw [if_neg (e ▸ hp), if_neg (e ▸ hp)]
      · conv => rhs; rw [mget, if_neg e]
end Go.Proofs.YteelldblfmhjlaaDoor
