/- Plain laws of a fifo that hears one member. -/
import Derived.Test.YteelldblfmhjlaaDoorAgainP
namespace Go.Proofs.YteelldblfmhjlaaDoor
set_option linter.unusedVariables false
set_option linter.unusedSimpArgs false
open Go.RowKit
/-- What holds of a fifo that hears the words of all, h of which it has heard. -/
structure FIW (wh : Nat) (all : List Int) (f : Fi) (h : Nat) : Prop where
  len5 : f.next.length = 5
  nxt : ∀ x ∈ f.next, 1 ≤ x ∧ x ≤ 1000001
  nx : fiN f (wh : Int) = (h : Int) + 1
  hle : h ≤ all.length
  keys : ∀ p ∈ f.waits, p.1.1 = (wh : Int) ∧ (h : Int) + 1 < p.1.2 ∧ p.1.2 ≤ all.length ∧ all[(p.1.2 - 1).toNat]? = some p.2
  nodup : (f.waits.map (·.1)).Nodup
theorem FIW.few {wh : Nat} {all : List Int} {f : Fi} {h : Nat} (hi : FIW wh all f h) (hw : wordsOk all) : f.waits.length ≤ 30 := by
  have h1 : ((f.waits.map (·.1)).map (·.2)).Nodup := nodup_map_on _ _ hi.nodup (fun x hx y hy e => by
    obtain ⟨p, hp, rfl⟩ := List.mem_map.1 hx
    obtain ⟨q, hq, rfl⟩ := List.mem_map.1 hy
    exact Prod.ext ((hi.keys p hp).1.trans (hi.keys q hq).1.symm) e)
  have h2 := distinct_le 30 _ h1 (fun x hx => by
    obtain ⟨y, hy, rfl⟩ := List.mem_map.1 hx
    obtain ⟨p, hp, rfl⟩ := List.mem_map.1 hy
    have := hi.keys p hp
    have := hw.1
    omega)
  simpa using h2
theorem FIW.fit {wh : Nat} {all : List Int} {f : Fi} {h : Nat} (hi : FIW wh all f h) (hw : wordsOk all) : fiFit f :=
  ⟨hi.len5, hi.nxt, by have := hi.few hw; omega, fun p hp => by
    have h1 := hi.keys p hp
    have h2 := hw.2 p.2 (List.mem_of_getElem? h1.2.2.2)
    have := hw.1
    omega⟩
theorem fiw_new (wh : Nat) (hwh : wh < 5) (all : List Int) : FIW wh all fiNew 0 := ⟨rfl, by simp [fiNew], by (have : wh = 0 ∨ wh = 1 ∨ wh = 2 ∨ wh = 3 ∨ wh = 4 := by omega); rcases this with rfl | rfl | rfl | rfl | rfl <;> rfl, Nat.zero_le _, by simp [fiNew], by simp [fiNew]⟩
theorem fw_take {wh : Nat} (hwh : wh < 5) {all : List Int} {f : Fi} {h : Nat} (hi : FIW wh all f h) (hw : wordsOk all) (k : Nat) (x : Int) (hk1 : 1 ≤ k) (hk : k ≤ all.length) (hx : all[k - 1]? = some x) :
    fiErr f (wh : Int) k x = (if fiHas f (wh : Int) k then 7 else 0) ∧ ∃ c, FIW wh all (fiTake f (wh : Int) k x) (h + c) ∧ all.take h ++ fiOut f (wh : Int) k x = all.take (h + c) ∧ (∀ j, fiHas f (wh : Int) j = true → fiHas (fiTake f (wh : Int) k x) (wh : Int) j = true) ∧ fiHas (fiTake f (wh : Int) k x) (wh : Int) k = true ∧ (∀ j, fiHas (fiTake f (wh : Int) k x) (wh : Int) j = true → fiHas f (wh : Int) j = true ∨ j = (k : Int)) := by
  have hm0 : isMember (wh : Int) = true := by simp [isMember]; omega
  have hx30 := hw.2 x (List.mem_of_getElem? hx)
  have hwd : isWord x = true := by simp [isWord]; omega
  have hw1 := hw.1
  have hf1 : ¬ (k : Int) < 1 := by omega
  have hf2 : ¬ (1000000 : Int) < (k : Int) := by omega
  have hfew := hi.few hw
  cases hh : fiHas f (wh : Int) k
  case true =>
    have he : fiErr f (wh : Int) k x = 7 := by simp [fiErr, hm0, hf1, hf2, hwd, hh]
    have ht : fiTake f (wh : Int) k x = f := by simp [fiTake, he]
    refine ⟨by rw [he]; rfl, 0, by rw [ht]; exact hi, by simp [fiOut, he], fun j hj => by rw [ht]; exact hj, by rw [ht]; exact hh, fun j hj => by rw [ht] at hj; exact .inl hj⟩
  case false =>
    have he : fiErr f (wh : Int) k x = 0 := by
      have : ¬ 40 ≤ f.waits.length := by omega
      simp [fiErr, hm0, hf1, hf2, hwd, hh, this]
    have hno : mget f.waits ((wh : Int), (k : Int)) = none ∧ (h : Int) + 1 ≤ k := by
      unfold fiHas at hh
      rw [hi.nx] at hh
      simp at hh
      exact ⟨hh.1, by omega⟩
    have hm' : mput f.waits ((wh : Int), (k : Int)) x = f.waits ++ [(((wh : Int), (k : Int)), x)] := mput_new (mget_none.1 hno.1)
    obtain ⟨m', hme⟩ : ∃ m', m' = mput f.waits ((wh : Int), (k : Int)) x := ⟨_, rfl⟩
    have hnd : (m'.map (·.1)).Nodup := by rw [hme]; exact mput_nodup hi.nodup
    have hkeys : ∀ p ∈ m', p.1.1 = (wh : Int) ∧ (h : Int) + 1 ≤ p.1.2 ∧ p.1.2 ≤ all.length ∧ all[(p.1.2 - 1).toNat]? = some p.2 := fun p hp => by
      rw [hme, hm'] at hp
      rcases List.mem_append.1 hp with hp | hp
      · have := hi.keys p hp
        exact ⟨this.1, by omega, this.2.2.1, this.2.2.2⟩
      · simp at hp; subst hp
        refine ⟨rfl, hno.2, by simp; omega, ?_⟩
        simp only
        rw [show ((k : Int) - 1).toNat = k - 1 from by omega]; exact hx
    have hex : ∃ c : Nat, mget m' ((wh : Int), (h : Int) + 1 + (c : Int)) = none := ⟨all.length - h, by
      rw [mget_none]
      intro p hp e
      have := hkeys p hp
      rw [e] at this
      have := hi.hle
      simp only at *
      omega⟩
    obtain ⟨c, hc0, hcl⟩ := exists_least hex
    have hcs : ∀ i, i < c → mget m' ((wh : Int), (h : Int) + 1 + (i : Int)) ≠ none := fun i hi e => by have := hcl i e; omega
    have hcv : ∀ i, i < c → mget m' ((wh : Int), (h : Int) + 1 + (i : Int)) = some (all.getD (h + i) 0) ∧ h + i < all.length := fun i hic => by
      obtain ⟨v, hv⟩ := Option.ne_none_iff_exists'.1 (hcs i hic)
      have hk2 := hkeys _ (mget_mem hv)
      simp only at hk2
      rw [show ((h : Int) + 1 + (i : Int) - 1).toNat = h + i from by omega] at hk2
      rw [hv, List.getD_eq_getElem?_getD, hk2.2.2.2]
      exact ⟨rfl, by omega⟩
    have hd := drain_spec (wh : Int) (fun i => all.getD (h + i) 0) c m'.length ((h : Int) + 1) m' (drain_room (wh : Int) c _ m' hnd hcs) hnd (fun i hic => (hcv i hic).1) hc0
    have hE : fiEnd f (wh : Int) k x = fiDrain (wh : Int) m'.length ((h : Int) + 1) m' := by unfold fiEnd; rw [hi.nx, ← hme]
    obtain ⟨d1, d2, d3, d4, d5, d6⟩ := hd
    rw [← hE] at d1 d2 d3 d4 d5 d6
    have hcN : h + c ≤ all.length := by
      rcases Nat.eq_zero_or_pos c with h0 | h0
      · have := hi.hle; omega
      · have := (hcv (c - 1) (by omega)).2; omega
    have htk : fiTake f (wh : Int) k x = ⟨f.next.set wh ((h : Int) + 1 + c), (fiEnd f (wh : Int) k x).2.2⟩ := by
      unfold fiTake
      rw [if_pos he, d2, Int.toNat_natCast]
    have hnx2 : fiN ⟨f.next.set wh ((h : Int) + 1 + c), (fiEnd f (wh : Int) k x).2.2⟩ (wh : Int) = (h : Int) + 1 + c := by
      unfold fiN
      have := hi.len5
      simp [show wh < f.next.length from by omega]
    have hhas : ∀ j, (mget m' ((wh : Int), j)).isSome = true ∨ j < (h : Int) + 1 → fiHas (fiTake f (wh : Int) k x) (wh : Int) j = true := fun j hj => by
      rw [htk]
      unfold fiHas
      rw [hnx2]
      simp only [Bool.or_eq_true, decide_eq_true_eq, d6]
      by_cases hr : (h : Int) + 1 ≤ j ∧ j < (h : Int) + 1 + c
      · exact .inr hr.2
      · rcases hj with hj | hj
        · left; rw [if_neg (by rintro ⟨_, h2⟩; exact hr h2)]; exact hj
        · right; omega
    refine ⟨by rw [he]; rfl, c, ?_, ?_, ?_, ?_, ?_⟩
    · rw [htk]
      refine ⟨by simp [hi.len5], fun y hy => ?_, by rw [hnx2]; omega, hcN, fun p hp => ?_, d4⟩
      · rcases List.mem_or_eq_of_mem_set hy with hy | rfl
        · exact hi.nxt y hy
        · omega
      · have h1 := hkeys p (d5 p hp)
        have h2 := mget_of_mem d4 hp
        rw [d6] at h2
        have h3 : ¬ (p.1.1 = (wh : Int) ∧ (h : Int) + 1 ≤ p.1.2 ∧ p.1.2 < (h : Int) + 1 + c) := fun hr => by rw [if_pos hr] at h2; cases h2
        rw [if_neg h3] at h2
        have h4 : p.1.2 ≠ (h : Int) + 1 + c := fun e => by
          have : p.1 = ((wh : Int), (h : Int) + 1 + c) := Prod.ext h1.1 e
          rw [this, hc0] at h2; cases h2
        exact ⟨h1.1, by have h5 := h1.1; have h6 := h1.2.1; have h7 : ¬ p.1.2 < (h : Int) + 1 + c := fun hl => h3 ⟨h5, h6, hl⟩; omega, h1.2.2⟩
    · unfold fiOut
      rw [if_pos he, d1, List.take_add]
      congr 1
      apply List.ext_getElem?
      intro i
      rw [List.getElem?_take, List.getElem?_drop]
      by_cases hic : i < c
      · rw [if_pos hic, List.getElem?_map, List.getElem?_range hic, Option.map_some, List.getD_eq_getElem?_getD, List.getElem?_eq_getElem (hcv i hic).2]; rfl
      · rw [if_neg hic, List.getElem?_eq_none (by simp; omega)]
    · intro j hj
      apply hhas
      unfold fiHas at hj
      rw [hi.nx] at hj
      simp only [Bool.or_eq_true, decide_eq_true_eq] at hj
      rcases hj with hj | hj
      · left
        rw [hme, mget_mput]
        by_cases e : ((wh : Int), (k : Int)) = ((wh : Int), j)
        · rw [if_pos e]; rfl
        · rw [if_neg e]; exact hj
      · exact .inr hj
    · apply hhas
      left
      rw [hme, mget_mput, if_pos rfl]; rfl
    · intro j hj
      rw [htk] at hj
      unfold fiHas at hj ⊢
      rw [hnx2] at hj
      rw [hi.nx]
      simp only [Bool.or_eq_true, decide_eq_true_eq, d6] at hj ⊢
      have old : (mget m' ((wh : Int), j)).isSome = true → ((mget f.waits ((wh : Int), j)).isSome = true ∨ j < (h : Int) + 1) ∨ j = (k : Int) := fun hs => by
        rw [hme, mget_mput] at hs
        by_cases e : ((wh : Int), (k : Int)) = ((wh : Int), j)
        · injection e with _ e; exact .inr e.symm
        · rw [if_neg e] at hs; exact .inl (.inl hs)
      rcases hj with hj | hj
      · by_cases hr : (wh : Int) = (wh : Int) ∧ (h : Int) + 1 ≤ j ∧ j < (h : Int) + 1 + c
        · rw [if_pos (by simpa using hr)] at hj; cases hj
        · rw [if_neg (by simpa using hr)] at hj; exact old hj
      · by_cases hl : j < (h : Int) + 1
        · exact .inl (.inr hl)
        · have := (hcv (j - ((h : Int) + 1)).toNat (by omega)).1
          rw [show (h : Int) + 1 + (((j - ((h : Int) + 1)).toNat : Nat) : Int) = j from by omega] at this
          exact old (by rw [this]; rfl)
/-- How far it has come: the numbers ahead have come, the next one has not. -/
theorem fw_many {wh : Nat} {all : List Int} {f : Fi} {h : Nat} (hi : FIW wh all f h) : (∀ j : Nat, 1 ≤ j → j ≤ h → fiHas f (wh : Int) j = true) ∧ fiHas f (wh : Int) ((h : Int) + 1) = false := by
  refine ⟨fun j h1 h2 => ?_, ?_⟩
  · unfold fiHas; rw [hi.nx]; simp; omega
  · unfold fiHas
    rw [hi.nx]
    simp only [Bool.or_eq_false_iff, decide_eq_false_iff_not]
    refine ⟨?_, by omega⟩
    cases hm : mget f.waits ((wh : Int), (h : Int) + 1) with
    | none => rfl
    | some v =>
      have := (hi.keys _ (mget_mem hm)).2.1
      simp only at this
      omega
end Go.Proofs.YteelldblfmhjlaaDoor
