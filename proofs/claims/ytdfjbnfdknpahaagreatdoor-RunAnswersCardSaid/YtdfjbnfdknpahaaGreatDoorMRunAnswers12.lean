/- Plain law of FacesNest: what is causal is fifo; with one hearing less at the end it is no worse; where only one speaks fifo is causal. -/
import Derived.Test.YtdfjbnfdknpahaaGreatDoorMRunAnswers10
import Derived.Test.YtdfjbnfdknpahaaGreatDoorMRunAnswers11
import Derived.Test.YtdfjbnfdknpahaaGreatDoorMRunAnswers9
namespace Go.Proofs.YtdfjbnfdknpahaaGreatDoor
set_option linter.unusedVariables false
set_option linter.unusedSimpArgs false
open Go.RowKit
theorem heardL_split (h : List Ev) (m : Nat) (who : Int) : heardL h who = heardL (h.take m) who ++ heardL (h.drop m) who := by
  unfold heardL
  rw [← List.map_append, ← List.filter_append, List.take_append_drop]
theorem whereIs_eq (p : Int → Bool) : ∀ l : List Int, whereIs p l = whereI p l
  | [] => rfl
  | x :: r => by
    unfold whereIs whereI
    rw [whereIs_eq p r]
theorem idx_cases (l : List Int) (x : Int) : (idxI l x = -1 ∧ x ∉ l) ∨ ∃ (k : Nat) (hk : k < l.length), idxI l x = k ∧ l[k] = x ∧ ∀ j (h : j < k), l[j]'(by omega) ≠ x := by
  unfold idxI
  rw [whereIs_eq]
  rcases whereI_cases (fun n => decide (n = x)) l with ⟨h1, h2⟩ | ⟨k, hk, h1, h2, h3⟩
  · exact .inl ⟨h1, fun hx => by simpa using h2 x hx⟩
  · exact .inr ⟨k, hk, h1, by simpa using h2, fun j hj => by simpa using h3 j hj⟩
theorem idx_mk {l : List Int} {x : Int} {k : Nat} (hk : k < l.length) (h1 : l[k] = x) (h2 : ∀ j (h : j < k), l[j]'(by omega) ≠ x) : idxI l x = k := by
  unfold idxI
  rw [whereIs_eq]
  exact whereI_hit _ l k hk (fun j hj => by simpa using h2 j hj) (by simpa using h1)
theorem idx_mem {l r : List Int} {x : Int} (hx : x ∈ l) : ∃ k : Nat, k < l.length ∧ idxI (l ++ r) x = k ∧ idxI l x = k := by
  rcases idx_cases l x with ⟨_, h2⟩ | ⟨k, hk, h1, h2, h3⟩
  · exact absurd hx h2
  · refine ⟨k, hk, idx_mk (by simp; omega) (by rw [List.getElem_append_left hk]; exact h2) (fun j hj => by rw [List.getElem_append_left (by omega)]; exact h3 j hj), h1⟩
/-- A right history's beginning is right. -/
theorem RightH.front {h : List Ev} (hr : RightH h) (m : Nat) (hm : m ≤ h.length) : RightH (h.take m) := by
  refine ⟨by simp; have := hr.1; omega, fun k hk => ?_⟩
  have hk' : k < m := by simp at hk; omega
  have h1 := hr.2 k (by omega)
  rw [List.take_take, Nat.min_eq_left (by omega), List.getElem_take]
  exact h1
/-- Words are said once. -/
theorem RightH.once {h : List Ev} (hr : RightH h) {i j : Nat} (hi : i < h.length) (hj : j < h.length) (h1 : (evAt h i).2.1 = 2) (h2 : (evAt h j).2.1 = 2) (h3 : (evAt h i).2.2 = (evAt h j).2.2) : i = j := by
  have key : ∀ {i j : Nat}, i < j → j < h.length → (evAt h i).2.1 = 2 → (evAt h j).2.1 = 2 → (evAt h i).2.2 = (evAt h j).2.2 → False := by
    intro i j hij hj h1 h2 h3
    have he := hr.2 j hj
    rw [← evAt_get hj] at he
    have hs : 0 ≤ saidAt (h.take j) (evAt h j).2.2 := by
      unfold saidAt
      rw [whereI_any]
      refine List.any_eq_true.2 ⟨evAt h i, ?_, by unfold saysB; simp [h1, h3]⟩
      rw [← evAt_take hij, evAt_get (by simp; omega)]
      exact List.getElem_mem _
    unfold evErr at he
    split at he
    · cases he
    split at he
    · cases he
    rename_i h5
    exact h5 (.inl ⟨h2, hs⟩)
  rcases Nat.lt_trichotomy i j with h | h | h
  · exact (key h hj h1 h2 h3).elim
  · exact h
  · exact (key h hi h2 h1 h3.symm).elim
/-- Nobody has a word twice. -/
theorem RightH.fresh {h : List Ev} (hr : RightH h) {m : Nat} (hm : m < h.length) (hw : (evAt h m).2.1 ≠ 1) : (evAt h m).2.2 ∉ heardL (h.take m) (evAt h m).1 := by
  intro hin
  obtain ⟨e, he, hee⟩ := List.mem_map.1 hin
  obtain ⟨he1, he2⟩ := List.mem_filter.1 he
  obtain ⟨i, hi, rfl⟩ := List.getElem_of_mem he1
  have him : i < m := by simp at hi; omega
  rw [show (h.take m)[i] = evAt h i by rw [← evAt_take him, evAt_get hi]] at he2 hee
  unfold heardB at he2
  simp only [Bool.and_eq_true, decide_eq_true_eq, Bool.not_eq_true', decide_eq_false_iff_not] at he2
  have hright := hr.2 m hm
  rw [← evAt_get hm] at hright
  have hwhat := evErr0 hright
  have hwhi := evErr0 (show evErr (h.take i) (evAt h i) = 0 by have := hr.2 i (by omega); rw [← evAt_get (by omega)] at this; exact this)
  have hm2 : (evAt h m).2.1 = 2 ∨ (evAt h m).2.1 = 3 := by rcases rightB_what hwhat with h1 | h1 | h1; exact absurd h1 hw; exact .inl h1; exact .inr h1
  have hi2 : (evAt h i).2.1 = 2 ∨ (evAt h i).2.1 = 3 := by rcases rightB_what hwhi with h1 | h1 | h1; exact absurd h1 he2.2; exact .inl h1; exact .inr h1
  rcases hm2 with hm2 | hm2
  · -- said at m: nobody said it ahead, so nobody heard it
    rcases hi2 with hi2 | hi2
    · have := hr.once (by omega) hm hi2 hm2 hee; omega
    · obtain ⟨j, hj, _, h5, h6, _⟩ := hr.said (show i < h.length by omega) hi2
      have := hr.once (show j < h.length by omega) hm h5 hm2 (by rw [h6, hee])
      omega
  · obtain ⟨j, hj, _, h5, h6, h7, _, h8⟩ := hr.said hm hm2
    rcases hi2 with hi2 | hi2
    · have := hr.once (show i < h.length by omega) (show j < h.length by omega) hi2 h5 (by rw [hee, h6])
      subst this
      exact h7 he2.1
    · refine h8 ?_
      have : evAt h i = evAt h m := by
        refine Prod.ext he2.1 (Prod.ext ?_ hee)
        rw [hi2, hm2]
      rw [← this, ← evAt_take him, evAt_get hi]
      exact List.getElem_mem _
end Go.Proofs.YtdfjbnfdknpahaaGreatDoor
/- Causal order, plainly: the history is right, causal, fifo; all heard all; how many events. -/
namespace Go.Proofs.YtdfjbnfdknpahaaGreatDoor
set_option linter.unusedVariables false
set_option linter.unusedSimpArgs false
open Go.RowKit Go.Maps
theorem nodup_sub_len {α : Type} [DecidableEq α] : ∀ (l m : List α), l.Nodup → (∀ x ∈ l, x ∈ m) → l.length ≤ m.length
  | [], m, _, _ => Nat.zero_le _
  | x :: r, m, hn, hs => by
    rw [List.nodup_cons] at hn
    have h1 := hs x (List.mem_cons_self ..)
    have h2 := nodup_sub_len r (m.erase x) hn.2 (fun y hy => by
      rw [List.mem_erase_of_ne (by rintro rfl; exact hn.1 hy)]
      exact hs y (List.mem_cons_of_mem _ hy))
    have h3 := List.length_erase_of_mem h1
    have h4 : 0 < m.length := List.length_pos_of_mem h1
    simp only [List.length_cons]
    omega
/-- What a say ahead of an event was of, its member has. -/
theorem CI.befHas {n S c h} (I : CI n S c h) : ∀ k (hk : k < h.length) i (hi : i < h.length), h[i].2.1 = 2 → bef h k i = true → wk (h.take (k + 1)) h[k].1 h[i].2.2 := by
  intro k
  induction k using Nat.strongRecOn with
  | _ k ih =>
    intro hk i hi h2 hb
    have ev : ∀ j (hj : j < h.length), evAt h j = h[j] := fun j hj => by unfold evAt; rw [List.getD_eq_getElem?_getD, List.getElem?_eq_getElem hj]; rfl
    have mem : ∀ j (hj : j < h.length) m, j < m → h[j] ∈ h.take m := fun j hj m hm => by
      rw [List.mem_take_iff_getElem]
      exact ⟨j, by omega, rfl⟩
    obtain ⟨m, hm, hd, h3⟩ := (bef_iff h k i hk).1 hb
    have hm' : m < h.length := by omega
    rw [ev m hm', ev k hk] at hd
    unfold directB at hd
    simp only [Bool.or_eq_true, Bool.and_eq_true, decide_eq_true_eq] at hd
    rcases hd with hd | ⟨hd1, hd2, hd3⟩
    · rcases h3 with rfl | h3
      · exact ⟨h[m], mem m hm' _ (by omega), hd, rfl⟩
      · obtain ⟨e, he, e1, e2⟩ := ih m hm hm' i hi h2 h3
        refine ⟨e, ?_, e1.trans hd, e2⟩
        rw [List.mem_take_iff_getElem] at he ⊢
        obtain ⟨j, hj, hje⟩ := he
        exact ⟨j, by omega, hje⟩
    · rcases h3 with rfl | h3
      · exact ⟨h[k], mem k hk _ (by omega), rfl, hd3.symm⟩
      · have hw := ih m hm hm' i hi h2 h3
        obtain ⟨sa, hsa, _⟩ := I.D _ (List.getElem_mem hi)
        obtain ⟨s, hs, _⟩ := I.D _ (List.getElem_mem hm')
        have hle := I.I m hm' s _ sa hd2 hs hsa hw
        rw [hd3] at hs
        by_cases e : h[i].2.2 = h[k].2.2
        · exact ⟨h[k], mem k hk _ (by omega), rfl, e.symm⟩
        · obtain ⟨x, hx, x1, x2⟩ := I.H k hk s _ sa hs hsa e hle
          refine ⟨x, ?_, x1, x2⟩
          rw [List.mem_take_iff_getElem] at hx ⊢
          obtain ⟨j, hj, hje⟩ := hx
          exact ⟨j, by omega, hje⟩
theorem heardL_mem {h : List Ev} {k w : Int} (hno : ∀ e ∈ h, e.2.1 = 2 ∨ e.2.1 = 3) : w ∈ heardL h k ↔ wk h k w := by
  unfold heardL wk
  rw [List.mem_map]
  constructor
  · rintro ⟨e, he, h1⟩
    obtain ⟨h2, h3⟩ := List.mem_filter.1 he
    unfold heardB at h3
    simp only [Bool.and_eq_true, decide_eq_true_eq] at h3
    exact ⟨e, h2, h3.1, h1⟩
  · rintro ⟨e, he, h1, h2⟩
    refine ⟨e, List.mem_filter.2 ⟨he, ?_⟩, h2⟩
    unfold heardB
    rcases hno e he with h3 | h3 <;> simp [h1, h3]
/-- Of who hears a word: what all of it stands ahead stands ahead. -/
theorem hasAhead_of {h : List Ev} {a b k : Int} (hno : ∀ e ∈ h, e.2.1 = 2 ∨ e.2.1 = 3) (hb : wk h k b) (hq : ∀ q (hq : q < h.length), h[q].1 = k → h[q].2.2 = b → wk (h.take q) k a) : hasAhead h a b k = true := by
  have ex : ∃ q, ∃ hq : q < h.length, h[q].1 = k ∧ h[q].2.2 = b := by
    obtain ⟨e, he, h1, h2⟩ := hb
    obtain ⟨q, hq, rfl⟩ := List.getElem_of_mem he
    exact ⟨q, hq, h1, h2⟩
  obtain ⟨q, hmin, hqq⟩ : ∃ q, (∀ p, p < q → ¬ ∃ hp : p < h.length, h[p].1 = k ∧ h[p].2.2 = b) ∧ ∃ hq : q < h.length, h[q].1 = k ∧ h[q].2.2 = b := by
    obtain ⟨q, hq⟩ := ex
    induction q using Nat.strongRecOn with
    | _ q ih =>
      by_cases hc : ∃ p, p < q ∧ ∃ hp : p < h.length, h[p].1 = k ∧ h[p].2.2 = b
      · obtain ⟨p, hp, hpp⟩ := hc
        exact ih p hp hpp
      · exact ⟨q, fun p hp hh => hc ⟨p, hp, hh⟩, hq⟩
  obtain ⟨hql, h1, h2⟩ := hqq
  have hno' : ∀ e ∈ h.take q, e.2.1 = 2 ∨ e.2.1 = 3 := fun e he => hno e (List.mem_of_mem_take he)
  have ha := (heardL_mem hno').2 (hq q hql h1 h2)
  have hnb : b ∉ heardL (h.take q) k := fun hc => by
    obtain ⟨e, he, e1, e2⟩ := (heardL_mem hno').1 hc
    rw [List.mem_take_iff_getElem] at he
    obtain ⟨p, hp, rfl⟩ := he
    exact hmin p (by omega) ⟨by omega, e1, e2⟩
  have hB := (heardL_mem hno).2 hb
  unfold hasAhead
  rw [heardL_split h q k] at hB ⊢
  obtain ⟨i, hi1, hi2, _⟩ := idx_mem (r := heardL (h.drop q) k) ha
  rcases idx_cases (heardL (h.take q) k ++ heardL (h.drop q) k) b with ⟨_, hx⟩ | ⟨j, hj, hj1, hj2, _⟩
  · exact absurd hB hx
  rw [hi2, hj1]
  have : (heardL (h.take q) k).length ≤ j := by
    apply Decidable.byContradiction
    intro hlt
    apply hnb
    rw [List.getElem_append_left (by omega)] at hj2
    rw [← hj2]; exact List.getElem_mem _
  simp only [Bool.and_eq_true, decide_eq_true_eq]
  omega
theorem CI.what {n S c h} (I : CI n S c h) : ∀ e ∈ h, e.2.1 = 2 ∨ e.2.1 = 3 := fun e he => by
  obtain ⟨s, _, _, h1⟩ := I.D e he
  exact h1.imp (·.1) (·.1)
theorem CI.ahead {n S c h} (I : CI n S c h) {k i : Nat} (hk : k < h.length) (hi : i < h.length) (h1 : h[k].2.1 = 2) (h2 : h[i].2.1 = 2) (hb : bef h k i = true) : aheadB h h[i].2.2 h[k].2.2 = true := by
  have hw := I.befHas k hk i hi h2 hb
  obtain ⟨sa, hsa, _⟩ := I.D _ (List.getElem_mem hi)
  obtain ⟨s, hs, _⟩ := I.D _ (List.getElem_mem hk)
  have hle := I.I k hk s _ sa h1 hs hsa hw
  unfold aheadB
  rw [List.all_eq_true]
  intro e he
  cases hh : hearsB h[k].2.2 e
  · rfl
  unfold hearsB at hh
  simp only [Bool.and_eq_true, decide_eq_true_eq] at hh
  simp only [Bool.not_true, Bool.false_or]
  by_cases ee : h[i].2.2 = h[k].2.2
  · have hB := (heardL_mem I.what).2 (⟨e, he, rfl, hh.2⟩ : wk h e.1 h[k].2.2)
    unfold hasAhead
    rw [ee]
    rcases idx_cases (heardL h e.1) h[k].2.2 with ⟨_, hx⟩ | ⟨j, hj, hj1, _⟩
    · exact absurd hB hx
    · rw [hj1]; simp
  · refine hasAhead_of I.what ⟨e, he, rfl, hh.2⟩ (fun q hq q1 q2 => ?_)
    have := I.H q hq s _ sa (by rw [q2]; exact hs) hsa (by rw [q2]; exact ee) hle
    rw [q1] at this
    exact this
theorem CI.pairs {n S c h} (I : CI n S c h) : h.length ≤ n * S.length := by
  have h1 := nodup_sub_len (h.map fun e => (e.1, e.2.2)) ((List.range n).flatMap fun i : Nat => S.map fun e => ((i : Int), e.1)) I.P (fun x hx => by
    obtain ⟨e, he, rfl⟩ := List.mem_map.1 hx
    obtain ⟨s, hs, ⟨r1, r2⟩, _⟩ := I.D e he
    rw [List.mem_flatMap]
    refine ⟨e.1.toNat, List.mem_range.2 (by omega), List.mem_map.2 ⟨(e.2.2, s), mget_mem' hs, ?_⟩⟩
    show ((e.1.toNat : Int), e.2.2) = _
    rw [Int.toNat_of_nonneg r1])
  rw [List.length_map, List.length_flatMap] at h1
  have h2 : ((List.range n).map fun i : Nat => (S.map fun e => ((i : Int), e.1)).length) = List.replicate n S.length := by
    simp [List.map_const']
  rw [h2] at h1
  simpa using h1
theorem CI.all {n S c h} (I : CI n S c h) (hf : ∀ w s k, mget S w = some s → Rg n k → wk h k w) : h.length = n * S.length := by
  refine Nat.le_antisymm I.pairs ?_
  have hn : ((List.range n).flatMap fun i : Nat => S.map fun e => ((i : Int), e.1)).Nodup := by
    rw [List.nodup_iff_pairwise_ne, List.pairwise_flatMap]
    refine ⟨fun i _ => ?_, ?_⟩
    · have h3 := I.nd
      rw [List.nodup_iff_pairwise_ne, List.pairwise_map] at h3
      rw [List.pairwise_map]
      exact h3.imp fun hne hh => hne (by injection hh)
    · refine List.Pairwise.imp ?_ List.nodup_range
      intro i j hij x hx y hy hxy
      obtain ⟨a, _, rfl⟩ := List.mem_map.1 hx
      obtain ⟨b, _, rfl⟩ := List.mem_map.1 hy
      injection hxy with h3 _
      exact hij (by omega)
  have h1 := nodup_sub_len _ (h.map fun e => (e.1, e.2.2)) hn (fun x hx => by
    rw [List.mem_flatMap] at hx
    obtain ⟨i, hi, hx⟩ := hx
    obtain ⟨e, he, rfl⟩ := List.mem_map.1 hx
    obtain ⟨p, hp, hpe⟩ := List.getElem_of_mem he
    have hg : mget S e.1 = some e.2 := mget_at I.nd (j := p) (by rw [List.getElem?_eq_getElem hp, hpe])
    obtain ⟨y, hy, y1, y2⟩ := hf _ _ (i : Int) hg ⟨by omega, by have := List.mem_range.1 hi; omega⟩
    exact List.mem_map.2 ⟨y, hy, by rw [y1, y2]⟩)
  rw [List.length_map, List.length_flatMap] at h1
  have h2 : ((List.range n).map fun i : Nat => (S.map fun e => ((i : Int), e.1)).length) = List.replicate n S.length := by
    simp [List.map_const']
  rw [h2] at h1
  simpa using h1
theorem CZ.len {c : Cs} (h : CZ c) : c.hist.length ≤ 60 := by
  have h1 := h.ci.pairs
  have h2 := h.L
  rw [Nat.mul_comm] at h2
  omega
theorem CZ.right {c : Cs} (h : CZ c) : facesErr c.hist = 0 := (histR_ok _).2 ⟨h.len, h.ci.R⟩
theorem CZ.skip {c : Cs} (h : CZ c) (k i : Nat) (hk : k < c.hist.length) (hi : i < k) : skipB c.hist k i = true := by
  have ev : ∀ j (hj : j < c.hist.length), evAt c.hist j = c.hist[j] := fun j hj => by unfold evAt; rw [List.getD_eq_getElem?_getD, List.getElem?_eq_getElem hj]; rfl
  unfold skipB
  rw [ev k hk, ev i (by omega)]
  by_cases h1 : (c.hist[i]'(by omega)).2.1 = 2
  rotate_left
  · rw [decide_eq_true h1]; rfl
  by_cases h2 : c.hist[k].2.1 = 2
  rotate_left
  · rw [decide_eq_true h2]; simp
  cases hb : bef c.hist k i
  · simp
  · rw [h.ci.ahead hk (by omega) h2 h1 hb]; simp
end Go.Proofs.YtdfjbnfdknpahaaGreatDoor
/- Contracts of package clock: numbers. -/
namespace Go.Proofs.YtdfjbnfdknpahaaGreatDoor
set_option linter.unusedVariables false
set_option linter.unusedSimpArgs false
open Go.RowKit
end Go.Proofs.YtdfjbnfdknpahaaGreatDoor
/- Contracts of package clock, continued: vectors. -/
namespace Go.Proofs.YtdfjbnfdknpahaaGreatDoor
set_option linter.unusedVariables false
set_option linter.unusedSimpArgs false
open Go.RowKit
/-- A row of owned lists of ints: a slice of them. -/
def LSl (v : Value) (rs : List (Value × List Int)) : HProp := Sl 57 1 v rs.length (rs.map (·.1)) * starL rowP rs
/-- The same in an array of five. -/
def L5 (b : Nat) (rs : List (Value × List Int)) : HProp := blk b (.cells (rs.map (·.1)).toArray 217 (0, 0)) * starL rowP rs
theorem rows_one {rs : List (Value × List Int)} {k : Nat} {v : Value} {l : List Int} (h : rs[k]? = some (v, l)) : starL rowP rs = IntSl v l * starL rowP (rs.eraseIdx k) := by
  obtain ⟨hlt, he⟩ := List.getElem?_eq_some_iff.1 h
  rw [starL_split rowP rs k hlt, he]; rfl
theorem Own.l5_cell {w0 w : World} {b k : Nat} {rs : List (Value × List Int)} {v : Value} {l : List Int} {R : HProp} (h : Own w0 (L5 b rs * R) w) (hk : rs[k]? = some (v, l)) : w.cell? ⟨b, k, none⟩ = some v := by
  have h1 : Own w0 (blk b (.cells (rs.map (·.1)).toArray 217 (0, 0)) * (starL rowP rs * R)) w := h.perm (by unfold L5; ac_rfl)
  rw [Own.cell h1]; simp [hk]
theorem Own.l5_free {w0 w : World} {b : Nat} {rs : List (Value × List Int)} {R : HProp} (h : Own w0 (L5 b rs * R) w) : ∀ i, w.frozen? ⟨b, i, none⟩ = false := by
  have h1 : Own w0 (blk b (.cells (rs.map (·.1)).toArray 217 (0, 0)) * (starL rowP rs * R)) w := h.perm (by unfold L5; ac_rfl)
  exact fun i => Own.free h1 i none
theorem Own.l5_row {w0 w : World} {b k : Nat} {rs : List (Value × List Int)} {v : Value} {l : List Int} {R : HProp} (h : Own w0 (L5 b rs * R) w) (hk : rs[k]? = some (v, l)) (hI : ∀ x ∈ l, I64 x) : Ints w v l := by
  have h1 : Own w0 (IntSl v l * (starL rowP (rs.eraseIdx k) * (blk b (.cells (rs.map (·.1)).toArray 217 (0, 0)) * R))) w := h.perm (by unfold L5; rw [rows_one hk]; ac_rfl)
  exact ⟨Own.rd h1, hI⟩
theorem Own.l5_put {w0 w : World} {b k : Nat} {rs : List (Value × List Int)} {v : Value} {l : List Int} {R : HProp} (h : Own w0 (IntSl v l * (L5 b rs * R)) w) (hk : k < rs.length) : Own w0 (L5 b (rs.set k (v, l)) * R) (w.setCell ⟨b, k, none⟩ v) := by
  have h1 : Own w0 (rowP rs[k] * (blk b (.cells (rs.map (·.1)).toArray 217 (0, 0)) * (IntSl v l * (starL rowP (rs.eraseIdx k) * R)))) w := h.perm (by unfold L5; rw [starL_split rowP rs k hk]; ac_rfl)
  have h2 := h1.drop.setCell (i := k) (v := v)
  refine h2.perm ?_
  unfold L5
  rw [starL_set rowP rs k hk]
  show _ = blk b _ * (IntSl v l * starL rowP (rs.eraseIdx k)) * R
  rw [List.map_set, show ((rs.map (·.1)).set k (v, l).1).toArray = (rs.map (·.1)).toArray.setIfInBounds k v by simp]
  ac_rfl
theorem Own.ls_row {w0 w : World} {v rv : Value} {k : Nat} {rs : List (Value × List Int)} {l : List Int} {R : HProp} (h : Own w0 (LSl v rs * R) w) (hk : rs[k]? = some (rv, l)) (hI : ∀ x ∈ l, I64 x) :
    ∃ b off cap, v = .slice (some ⟨b, off, none⟩) rs.length cap ∧ rs.length ≤ cap ∧ cap ≤ 9223372036854775807 ∧ w.cell? ⟨b, off + k, none⟩ = some rv ∧ Ints w rv l := by
  obtain ⟨hlt, _⟩ := List.getElem?_eq_some_iff.1 hk
  have h1 : Own w0 (Sl 57 1 v rs.length (rs.map (·.1)) * (starL rowP rs * R)) w := h.perm (by unfold LSl; ac_rfl)
  obtain ⟨b, off, cap, e1, h2⟩ := h1.slAt (by simp; omega)
  have f := h2.slAt_facts
  have h3 : Own w0 (IntSl rv l * (starL rowP (rs.eraseIdx k) * (Sl 57 1 v rs.length (rs.map (·.1)) * R))) w := h.perm (by unfold LSl; rw [rows_one hk]; ac_rfl)
  exact ⟨b, off, cap, e1, f.1, f.2.1, f.2.2.2.1 k rv (by simp [hk]), Own.rd h3, hI⟩
theorem Own.ls_snoc {w0 w : World} {v x : Value} {rs : List (Value × List Int)} {l : List Int} {R : HProp} (h : Own w0 (Sl 57 1 v (rs.length + 1) (rs.map (·.1) ++ [x]) * (IntSl x l * (starL rowP rs * R))) w) : Own w0 (LSl v (rs ++ [(x, l)]) * R) w := by
  refine h.perm ?_
  unfold LSl
  rw [starL_snoc]
  show _ = Sl 57 1 v (rs ++ [(x, l)]).length ((rs ++ [(x, l)]).map (·.1)) * (IntSl x l * starL rowP rs) * R
  simp only [List.length_append, List.length_cons, List.length_nil, List.map_append, List.map_cons, List.map_nil, Nat.zero_add]
  ac_rfl
theorem LSl_nil : LSl (.slice none 0 0) [] = emp := by
  unfold LSl; rw [show starL rowP ([] : List (Value × List Int)) = emp from rfl, star_emp]; exact Sl_nil _ _
theorem L5_nil {b : Nat} : L5 b (List.replicate 5 (.slice none 0 0, [])) = blk b (.cells #[.slice none 0 0, .slice none 0 0, .slice none 0 0, .slice none 0 0, .slice none 0 0] 217 (0, 0)) := by
  unfold L5
  rw [starL_nils rowP (.slice none 0 0, []) (by unfold rowP IntSl; exact Sl_nil _ _), star_emp]
  rfl
set_option maxRecDepth 100000 in
set_option maxHeartbeats 4000000 in
theorem cloneNil_any (w : World) :
    Calls Tryz.prog 97 #[.slice none 0 0] w fun e w' => e = .returned (.slice none 0 0) ∧ w = w' := by
  have hnil := fun (w : World) => Lib.run_eql_slice_nil (P := Tryz.prog) w 57 3 none 0 0 0 0 Tryz.underlying57
  go_enter Tryz.func97, Tryz.ntmps97
  go_wp2
  go_ret
  exact ⟨rfl, rfl⟩
end Go.Proofs.YtdfjbnfdknpahaaGreatDoor
/- Contracts of package clock, continued: the vectors of a right history. -/
namespace Go.Proofs.YtdfjbnfdknpahaaGreatDoor
set_option linter.unusedVariables false
set_option linter.unusedSimpArgs false
open Go.RowKit
theorem vecIn_I64 {k : Nat} {v : List Int} (h : vecIn k v) (hk : k ≤ 1000) : ∀ x ∈ v, I64 x := fun x hx => by have := h.2 x hx; unfold I64; omega
set_option maxRecDepth 100000 in
set_option maxHeartbeats 4000000 in
theorem of_any {w0 w : World} {R : HProp} (v : Value) (hs : List Ev) (h : Own w0 R w) (hv : ReadsE w0 R v hs) (hr : RightH hs) :
    Calls Tryz.prog 111 #[v] w fun e w' => ∃ v' rs, e = .returned v' ∧ rs.map (·.2) = vecsR hs ∧ Own w0 (LSl v' rs * R) w' := by
  obtain ⟨had, hcap, rfl, hc1, hc2⟩ := (hv _ h).shape
  obtain ⟨n, hn⟩ : ∃ n, n = hs.length := ⟨_, rfl⟩
  have hlen := hr.1
  rw [← hn] at hc1 hlen hv ⊢
  obtain ⟨lb, hb_lb⟩ : ∃ zz_, zz_ = (w).heap.size := ⟨_, rfl⟩
  obtain ⟨w1, hw_w1⟩ : ∃ zz_, zz_ = (w).alloc (.cells #[.slice none 0 0, .slice none 0 0, .slice none 0 0, .slice none 0 0, .slice none 0 0] 217 (0, 0)) := ⟨_, rfl⟩
  have h_HO1 := (h).alloc (.cells #[.slice none 0 0, .slice none 0 0, .slice none 0 0, .slice none 0 0, .slice none 0 0] 217 (0, 0))
  rw [← hb_lb, ← hw_w1] at h_HO1
  have HO1 := Lib.hid h_HO1
  clear h_HO1
  have HO2 : Hid (Own w0 (LSl (.slice none 0 0) [] * (L5 lb (List.replicate 5 (.slice none 0 0, [])) * R)) w1) := Lib.hid (by rw [LSl_nil, emp_star, L5_nil]; exact HO1.out)
  clear HO1
  have H := Lib.hid h; have HV := Lib.hid hv; have HN := Lib.hid hn; have HR := Lib.hid hr
  clear h hv hn hr
  go_enter Tryz.func111, Tryz.ntmps111
  go_upto_region 3 with fail
  rw [← hb_lb, ← hw_w1]
  clear hb_lb hw_w1
  go_wp2_with fail
  go_loopw [10, 3] (fun iv ov wr => ∃ (k : Nat) (ro rl : List (Value × List Int)), k ≤ n ∧ iv = .int .i64 k ∧ Hid (ro.map (·.2) = (vecState hs k).1) ∧ Hid (rl.map (·.2) = (vecState hs k).2) ∧ Hid (∀ (q : Nat) v, rl[q]? = some (v, []) → v = .slice none 0 0) ∧ Hid (Own w0 (LSl ov ro * (L5 lb rl * R)) wr)) (fun iv _ _ => n - (intOf iv).toNat)
  case atStart => exact ⟨0, [], List.replicate 5 (.slice none 0 0, []), Nat.zero_le _, rfl, Lib.hid rfl, Lib.hid rfl, Lib.hid (by intro q v hq; rw [List.getElem?_replicate] at hq; split at hq <;> simp at hq; exact hq.symm), HO2⟩
  case round =>
    clear HO2
    obtain ⟨k, ro, rl, hk, rfl, HRO, HRL, HZ, HO⟩ := hrel
    by_cases hlt : k < n
    rotate_left
    · have hkn : k = n := by omega
      have hro := HRO.out
      rw [hkn, HN.out] at hro
      have HRO := Lib.hid hro
      clear hro
      go_wp2
      go_ret
      exact ⟨_, ro, rfl, HRO.out, (HO.out.perm (star_left_comm _ _ _)).drop⟩
    have hkl : k < hs.length := by rw [← HN.out]; exact hlt
    obtain ⟨aa, pb, po, ps, rfl, hea, hcs, _⟩ := HV.out.more.more.at HO.out k hkl
    have hwho := HR.out.who hkl
    have hsd := HR.out.said hkl
    obtain ⟨hl1, hl2⟩ := vecState_len hs k
    obtain ⟨hi1, hi2⟩ := vecState_in HR.out k (by omega)
    have hv0 := vec0_in hi2 (evAt hs k).1.toNat
    have hv1 := vec1_in HR.out hkl hl1 hi1 hi2
    have hstate : vecState hs (k + 1) = ((vecState hs k).1 ++ [vecNext hs k (vecState hs k)], (vecState hs k).2.set (evAt hs k).1.toNat (vecNext hs k (vecState hs k))) := rfl
    have hnx : vecNext hs k (vecState hs k) = (vec1 hs k (vecState hs k)).set (evAt hs k).1.toNat ((vec1 hs k (vecState hs k)).getD (evAt hs k).1.toNat 0 + 1) := rfl
    have h1d : vec1 hs k (vecState hs k) = if (evAt hs k).2.1 = 3 then zipMax (vec0 (vecState hs k) (evAt hs k).1.toNat) ((vecState hs k).1.getD (saidAt (hs.take k) (evAt hs k).2.2).toNat []) else vec0 (vecState hs k) (evAt hs k).1.toNat := rfl
    have h0d : vec0 (vecState hs k) (evAt hs k).1.toNat = if (vecState hs k).2.getD (evAt hs k).1.toNat [] = [] then zero5 else (vecState hs k).2.getD (evAt hs k).1.toNat [] := rfl
    have hsaid := fun (w1 : World) (R' : HProp) (word : Int) (ho : Own w0 (R' * R) w1) => said_any (w0 := w0) (w := w1) (R := R' * R) word (.slice (some aa) k hcap) (hs.take k) ho (HV.out.front (by omega)).more
    obtain ⟨V1, hV1⟩ : ∃ V1, V1 = vec1 hs k (vecState hs k) := ⟨_, rfl⟩
    obtain ⟨V0, hV0⟩ : ∃ V0, V0 = vec0 (vecState hs k) (evAt hs k).1.toNat := ⟨_, rfl⟩
    rw [← hV1] at hnx h1d hv1
    rw [← hV0] at h1d h0d hv0
    obtain ⟨x, hx⟩ : ∃ x, x = evAt hs k := ⟨_, rfl⟩
    rw [← hx] at hcs hwho hsd hstate hnx h1d h0d
    obtain ⟨c0, c1, c2⟩ := hcs _ HO.out
    obtain ⟨x1, x2, x3⟩ := x
    simp only at c0 c1 c2 hwho hsd hstate hnx h1d h0d
    obtain ⟨q, rfl⟩ : ∃ q : Nat, x1 = (q : Int) := ⟨x1.toNat, by omega⟩
    simp only [Int.toNat_natCast] at hstate hnx h1d h0d
    have hq5 : q < 5 := by omega
    have hrll : rl.length = 5 := by rw [← List.length_map (f := (·.2)), HRL.out, hl2]
    have hrol : ro.length = k := by rw [← List.length_map (f := (·.2)), HRO.out, hl1]
    obtain ⟨L, hL⟩ : ∃ L, L = (vecState hs k).2.getD q [] := ⟨_, rfl⟩
    have hLg : (vecState hs k).2[q]? = some L := by rw [hL, List.getD_eq_getElem?_getD, List.getElem?_eq_getElem (by omega)]; rfl
    rw [← hL] at h0d
    obtain ⟨lv, hlv⟩ := map_at HRL.out hLg
    have hLin : L = [] ∨ vecIn k L := by rw [hL]; exact vec_getD hi2 q
    obtain ⟨eb, hb_eb⟩ : ∃ zz_, zz_ = (wr).heap.size := ⟨_, rfl⟩
    obtain ⟨w2, hw_w2⟩ : ∃ zz_, zz_ = (wr).alloc (.cells #[.int .i64 (q : Int), .int .i64 x2, .int .i64 x3] 112 (0, 0)) := ⟨_, rfl⟩
    have h_HO1 := (HO.out).alloc (.cells #[.int .i64 (q : Int), .int .i64 x2, .int .i64 x3] 112 (0, 0))
    rw [← hb_eb, ← hw_w2] at h_HO1
    have HO1 := Lib.hid h_HO1
    clear h_HO1
    have HE1 : Hid (Own w0 (EvO eb ((q : Int), x2, x3) * (LSl u3 ro * (L5 lb rl * R))) w2) := HO1
    have HE2 : Hid (Own w0 (L5 lb rl * (EvO eb ((q : Int), x2, x3) * (LSl u3 ro * R))) w2) := Lib.hid (HO1.out.perm (by unfold EvO; ac_rfl))
    clear HO1
    obtain ⟨d0, d1, d2⟩ := HE1.out.ev
    simp only at d0 d1 d2
    have e1 := HE2.out.l5_cell hlv
    have k0 : (0 : Int) ≤ (k : Int) := by omega
    have kn : (k : Int) ≤ (n : Int) := by omega
    have kc : (k : Int) ≤ (hcap : Int) := by omega
    have hc0 : hcap ≠ 0 := by omega
    have q0 : (0 : Int) ≤ (q : Int) := by omega
    have q5 : (q : Int) < 5 := by omega
    have HLV := Lib.hid hlv
    have HI1 := Lib.hid hi1
    have HHV0 := Lib.hid hv0; have HHV1 := Lib.hid hv1
    have HVV0 := Lib.hid hV0; have HVV1 := Lib.hid hV1
    have HCS := Lib.hid hcs; have HX := Lib.hid hx; have HWHO := Lib.hid hwho; have HSTATE := Lib.hid hstate; have HNX := Lib.hid hnx; have H1D := Lib.hid h1d; have H0D := Lib.hid h0d; have HSAID := Lib.hid hsaid; have HSD := Lib.hid hsd; have HRLL := Lib.hid hrll; have HROL := Lib.hid hrol; have HL := Lib.hid hL; have HLG := Lib.hid hLg; have HLIN := Lib.hid hLin; have HL1 := Lib.hid hl1; have HL2 := Lib.hid hl2
    clear hcs hx hwho hstate hnx h1d h0d hsaid hsd hrll hrol hL hLg hLin hl1 hl2
    clear hlv hi1 hi2 hv0 hv1 hV0 hV1
    go_upto_region 6 with fail
    rw [← hb_eb, ← hw_w2]
    clear hb_eb hw_w2
    clear c0 c1 c2
    go_cut [7] (fun v wx => (L = [] ∧ v = .slice none 0 0 ∧ Own w0 (EvO eb ((q : Int), x2, x3) * (LSl u3 ro * (L5 lb rl * R))) wx) ∨ (L ≠ [] ∧ Own w0 (IntSl v L * (EvO eb ((q : Int), x2, x3) * (LSl u3 ro * (L5 lb rl * R)))) wx))
    case first =>
      by_cases hLe : L = []
      · have hlv : lv = .slice none 0 0 := HZ.out q lv (by rw [HLV.out, hLe])
        subst hlv
        have HLE := Lib.hid hLe
        clear hLe
        go_wp2_with fail
        refine (cloneNil_any _).mono ?_
        rintro e w' ⟨rfl, rfl⟩
        go_wp2_with fail
        go_meet
        exact .inl ⟨HLE.out, rfl, HE1.out⟩
      · have hrow := HE2.out.l5_row HLV.out (by rcases HLIN.out with h9 | h9; exact absurd h9 hLe; exact vecIn_I64 h9 (by omega))
        have hll : L.length = 5 := by rcases HLIN.out with h9 | h9; exact absurd h9 hLe; exact h9.1
        have HLE := Lib.hid hLe; have HROW := Lib.hid hrow; have HLL := Lib.hid hll
        clear hLe hrow hll
        go_wp2_with fail
        refine (cloneInts_any HE1.out _ L HROW.out (by rw [HLL.out]; omega)).mono ?_
        rintro e w' ⟨v', rfl, ho⟩
        have HO3 := Lib.hid ho
        clear ho
        go_wp2_with fail
        go_meet
        exact .inr ⟨HLE.out, HO3.out⟩
    case rest =>
    have HCUT := Lib.hid hcut
    clear hcut HE1 HE2 d0 d1 d2 e1
    go_upto_region 7 with fail
    go_cut [21] (fun t wx => t = .bool (decide (L = [])) ∧ wx = wc)
    case first =>
      rcases HCUT.out with ⟨hLe, rfl, _⟩ | ⟨hLe, ho⟩
      · have hnil := fun (w : World) => Lib.run_eql_slice_nil (P := Tryz.prog) w 57 3 none 0 0 0 0 Tryz.underlying57
        have hd := decide_eq_true hLe
        have HLE := Lib.hid hLe; have HD := Lib.hid hd
        clear hLe hd
        clear HCUT
        go_wp2_with fail
        go_meet
        exact ⟨by rw [HD.out], rfl⟩
      · have hp : 0 < L.length := List.length_pos_iff.2 hLe
        obtain ⟨b, off, cap, rfl, _⟩ := ho.ints_at hp
        have hnil := fun (w : World) => Lib.run_eql_slice_nil (P := Tryz.prog) w 57 3 (some ⟨b, off, none⟩) L.length cap 0 0 Tryz.underlying57
        have hd := decide_eq_false hLe
        have HLE := Lib.hid hLe; have HD := Lib.hid hd
        clear hLe hd
        clear HCUT ho hp
        go_wp2_with fail
        go_meet
        exact ⟨by rw [HD.out], rfl⟩
    case rest =>
    obtain ⟨rfl, rfl⟩ := hcut
    go_upto_if 21 with fail
    go_cut [7] (fun v wx => Own w0 (IntSl v V0 * (EvO eb ((q : Int), x2, x3) * (LSl u3 ro * (L5 lb rl * R)))) wx)
    case first =>
      rcases HCUT.out with ⟨hLe, rfl, ho⟩ | ⟨hLe, ho⟩
      · have hvv : V0 = zero5 := by rw [H0D.out, if_pos hLe]
        have ht := decide_eq_true hLe
        rw [ht]
        have HO3 := Lib.hid ho
        have HLE := Lib.hid hLe; have HT := Lib.hid ht; have HVV := Lib.hid hvv
        clear hLe ht hvv
        clear HCUT ho
        go_wp2_with (at_make; refine wpList_mk rfl _ _ 57 rfl 3 8 (.int .i64 0) Tryz.underlying57 info_int rfl 5 rfl rfl (by omega) (by decide) HO3.out ?_; intro mb w9 ho; have HO9 := Lib.hid ho.sl_of_at; clear ho)
        go_meet
        rw [HVV.out]
        exact HO9.out
      · have hvv : V0 = L := by rw [H0D.out, if_neg hLe]
        have ht := decide_eq_false hLe
        rw [ht]
        have HO3 := Lib.hid ho
        have HLE := Lib.hid hLe; have HT := Lib.hid ht; have HVV := Lib.hid hvv
        clear hLe ht hvv
        clear HCUT ho
        go_wp2_with fail
        go_meet
        rw [HVV.out]
        exact HO3.out
    case rest =>
    clear HCUT
    have HI3 := Lib.hid hcut
    clear hcut
    have HE3 : Hid (Own w0 (EvO eb ((q : Int), x2, x3) * (IntSl u7 V0 * (LSl u3 ro * (L5 lb rl * R)))) wc) := Lib.hid (HI3.out.perm (by ac_rfl))
    obtain ⟨d0, d1, d2⟩ := HE3.out.ev
    simp only at d0 d1 d2
    have hlv0 := HHV0.out.1
    have hI0 := vecIn_I64 HHV0.out (by omega)
    have HLV0 := Lib.hid hlv0; have HI0 := Lib.hid hI0
    clear hlv0 hI0
    go_upto_if 25 with fail
    go_cut [7] (fun v wx => Own w0 (IntSl v V1 * (EvO eb ((q : Int), x2, x3) * (LSl u3 ro * (L5 lb rl * R)))) wx)
    case first =>
      by_cases h3 : x2 = 3
      rotate_left
      · have t1 : (x2 == 3) = false := by simpa using h3
        have hvv : V1 = V0 := by rw [H1D.out, if_neg h3]
        have H3 := Lib.hid h3; have HVV := Lib.hid hvv
        clear h3 hvv
        go_wp2_with fail
        go_meet
        rw [HVV.out]
        exact HI3.out
      · subst h3
        obtain ⟨i, hik, hsi, _⟩ := HSD.out rfl
        obtain ⟨B, hB⟩ : ∃ B, B = (vecState hs k).1.getD i [] := ⟨_, rfl⟩
        have hvv : V1 = zipMax V0 B := by rw [H1D.out, if_pos rfl, hsi, Int.toNat_natCast, hB]
        have hBg : (vecState hs k).1[i]? = some B := by rw [hB, List.getD_eq_getElem?_getD, List.getElem?_eq_getElem (by rw [HL1.out]; exact hik)]; rfl
        have hBin : vecIn k B := HI1.out B (List.mem_of_getElem? hBg)
        have hBI := vecIn_I64 hBin (by omega)
        have hBl := hBin.1
        obtain ⟨rv, hrv⟩ := map_at HRO.out hBg
        obtain ⟨ob, off, ocap, ho1, hoc1, hoc2, _, _⟩ := (HE3.out.drop.drop).ls_row hrv hBI
        rw [HROL.out] at ho1 hoc1
        have i0 : (0 : Int) ≤ (i : Int) := by omega
        have ik : (i : Int) < (k : Int) := by omega
        have HRR : Hid (∀ (w' : World) (R' : HProp), Own w0 (LSl (.slice (some ⟨ob, off, none⟩) k ocap) ro * R') w' → w'.cell? ⟨ob, off + i, none⟩ = some rv ∧ Ints w' rv B) := Lib.hid (fun w' R' ho => by
          obtain ⟨ob', off', ocap', e1, _, _, e2, e3⟩ := ho.ls_row hrv hBI
          injection e1 with e1 _ _
          injection e1 with e1
          injection e1 with e1 e4 _
          subst e1; subst e4
          exact ⟨e2, e3⟩)
        have HSI := Lib.hid hsi; have HB := Lib.hid hB; have HVV := Lib.hid hvv; have HBG := Lib.hid hBg; have HBIN := Lib.hid hBin; have HBI := Lib.hid hBI; have HBL := Lib.hid hBl; have HRV := Lib.hid hrv
        clear hsi hB hvv hBg hBin hBI hBl hrv
        go_wp2_with fail
        refine wp_region_planX 7 [0, 1] [7, 8, 9, 10, 11] (by kernel_rfl) (by kernel_rfl) ?_
        simp only [List.range_succ, List.range_zero, List.nil_append, List.filter_cons, List.filter_nil, List.filter_append, List.contains_cons, List.contains_nil, Nat.reduceBEq, Bool.or_false, Bool.or_true, Bool.not_false, Bool.not_true, if_true, if_false, Bool.false_eq_true, ↓reduceIte, pick, List.getElem?_cons_succ, List.getElem?_cons_zero, Option.toList, List.cons_append, List.nil_append]
        repeat (refine wpPure_step ?_ rfl ?_ ?_; rotate_left; (focus (intro _; first | with_reducible rfl | (go_simp; done) | (go_simp; with_reducible rfl) | rfl)); go_simp)
        refine wpPure_nil ?_
        repeat still_step
        refine wpStill_nil ?_
        go_wp2_with fail
        refine (HSAID.out _ (EvO eb ((q : Int), 3, x3) * (IntSl u7 V0 * (LSl u3 ro * L5 lb rl))) x3 (HE3.out.drew.perm (by ac_rfl))).mono ?_
        rintro e w3 ⟨rfl, ho⟩
        rw [HSI.out]
        subst ho1
        have HE4 : Hid (Own w0 (LSl (.slice (some ⟨ob, off, none⟩) k ocap) ro * (IntSl u7 V0 * (EvO eb ((q : Int), 3, x3) * (L5 lb rl * R)))) w3) := Lib.hid (ho.perm (by ac_rfl))
        clear ho
        have HV0R : Hid (Ints w3 u7 V0) := Lib.hid ((IntSl_reads HI0.out) _ (HE4.out.perm (star_left_comm _ _ _)))
        have HBR : Hid (Reads w0 (LSl (.slice (some ⟨ob, off, none⟩) k ocap) ro * (IntSl u7 V0 * (EvO eb ((q : Int), 3, x3) * (L5 lb rl * R)))) rv B) := Lib.hid (fun w' ho => (HRR.out _ _ ho).2)
        have f1 := (HRR.out _ _ HE4.out).1
        go_wp2_with fail
        refine (joined_any HE4.out u7 rv V0 B HV0R.out HBR.out (by rw [HLV0.out, HBL.out]) (by rw [HLV0.out]; omega)).mono ?_
        rintro e w5 ⟨v5, rfl, ho⟩
        have HJ : Hid (Own w0 (IntSl v5 (zipMax V0 B) * (EvO eb ((q : Int), 3, x3) * (LSl (.slice (some ⟨ob, off, none⟩) k ocap) ro * (L5 lb rl * R)))) w5) := Lib.hid ((ho.perm (show _ = IntSl u7 V0 * (IntSl v5 (zipMax V0 B) * (EvO eb ((q : Int), 3, x3) * (LSl (.slice (some ⟨ob, off, none⟩) k ocap) ro * (L5 lb rl * R)))) by ac_rfl)).drop)
        clear ho
        go_wp2_with fail
        refine NoPanic.normal ?_
        go_wp2_with fail
        go_meet
        rw [HVV.out]
        exact HJ.out
    case rest =>
    clear HI3 HE3 d0 d1 d2
    have HI3 := Lib.hid hcut
    clear hcut
    have hb1 := getD_bound HHV1.out.2 (Int.le_refl 0) (Int.natCast_nonneg k) q
    have hl1v := HHV1.out.1
    obtain ⟨m, hm⟩ : ∃ m, m = V1.getD q 0 := ⟨_, rfl⟩
    rw [← hm] at hb1
    have hm0 := hb1.1
    have hmk := hb1.2
    have hnx2 := HNX.out
    rw [← hm] at hnx2
    obtain ⟨V2, hV2⟩ : ∃ V2, V2 = V1.set q (m + 1) := ⟨_, rfl⟩
    rw [← hV2] at hnx2
    have hV2l : V2.length = 5 := by rw [hV2, List.length_set]; exact hl1v
    have hV2I : ∀ x ∈ V2, I64 x := by
      intro x hx
      rw [hV2] at hx
      rcases List.mem_or_eq_of_mem_set hx with hx | hx
      · exact vecIn_I64 HHV1.out (by omega) x hx
      · rw [hx]; unfold I64; omega
    obtain ⟨vb, voff, vcap, e1, hvc1, hvc2, hcell, hfz, _, _, hset⟩ := HI3.out.ints_at (by omega)
    have f1 := hcell q (by omega)
    rw [show V1[q]'(by omega) = m from by rw [hm, List.getD_eq_getElem?_getD, List.getElem?_eq_getElem (by omega)]; rfl] at f1
    have hst := hset q (m + 1) (by omega)
    rw [← hV2] at hst
    rw [hl1v] at e1 hvc1
    unfold maxLen at hvc2
    subst e1
    have HE3 : Hid (Own w0 (EvO eb ((q : Int), x2, x3) * (IntSl (.slice (some ⟨vb, voff, none⟩) 5 vcap) V1 * (LSl u3 ro * (L5 lb rl * R)))) wc) := Lib.hid (HI3.out.perm (by ac_rfl))
    obtain ⟨d0, _, _⟩ := HE3.out.ev
    simp only at d0
    obtain ⟨ws, hws⟩ : ∃ ws, ws = wc.setCell ⟨vb, voff + q, none⟩ (.int .i64 (m + 1)) := ⟨_, rfl⟩
    rw [← hws] at hst
    have HS1 : Hid (Own w0 (EvO eb ((q : Int), x2, x3) * (IntSl (.slice (some ⟨vb, voff, none⟩) 5 vcap) V2 * (LSl u3 ro * (L5 lb rl * R)))) ws) := Lib.hid (hst.perm (by ac_rfl))
    have HM := Lib.hid hm; have HB1 := Lib.hid hb1; have HNX2 := Lib.hid hnx2; have HV2 := Lib.hid hV2; have HCELL := Lib.hid hcell; have HSET := Lib.hid hset; have HL1V := Lib.hid hl1v
    clear hm hb1 hnx2 hV2 hcell hset hl1v
    have HV2L := Lib.hid hV2l
    have HV2I := Lib.hid hV2I
    clear hst hV2l hV2I
    go_upto_region 12 with fail
    rw [← hws]
    clear hws d0 f1 hfz HI3 HE3
    obtain ⟨d0, _, _⟩ := HS1.out.ev
    simp only at d0
    have HS2 : Hid (Own w0 (IntSl (.slice (some ⟨vb, voff, none⟩) 5 vcap) V2 * (L5 lb rl * (EvO eb ((q : Int), x2, x3) * (LSl u3 ro * R)))) ws) := Lib.hid (HS1.out.perm (by ac_rfl))
    have f2 := HS2.out.drop.l5_cell HLV.out
    have f3 := HS2.out.drop.l5_free
    have hput := HS2.out.l5_put (k := q) (by rw [HRLL.out]; exact hq5)
    obtain ⟨wt, hwt⟩ : ∃ wt, wt = ws.setCell ⟨lb, q, none⟩ (.slice (some ⟨vb, voff, none⟩) 5 vcap) := ⟨_, rfl⟩
    rw [← hwt] at hput
    have HP := Lib.hid hput
    clear hput
    go_upto_region 13 with fail
    rw [← hwt]
    clear hwt d0 f2 f3 HS1 HS2
    have hqr : (rl.set q (.slice (some ⟨vb, voff, none⟩) 5 vcap, V2))[q]? = some (.slice (some ⟨vb, voff, none⟩) 5 vcap, V2) := by rw [List.getElem?_set, if_pos rfl, if_pos (by rw [HRLL.out]; exact hq5)]
    have hint := HP.out.l5_row hqr HV2I.out
    have HQR := Lib.hid hqr; have HINT := Lib.hid hint
    clear hqr hint
    go_wp2_with fail
    refine (cloneInts_any HP.out _ V2 HINT.out (by rw [HV2L.out]; omega)).mono ?_
    rintro e w6 ⟨v6, rfl, ho⟩
    obtain ⟨ad6, cap6, hv6⟩ := ho.int_shape
    rw [HV2L.out] at hv6
    subst hv6
    obtain ⟨V6, hV6⟩ : ∃ V6, V6 = Value.slice ad6 5 cap6 := ⟨_, rfl⟩
    rw [← hV6] at ho
    have HA : Hid (Own w0 (Sl 57 1 u3 ro.length (ro.map (·.1)) * (IntSl V6 V2 * (starL rowP ro * (EvO eb ((q : Int), x2, x3) * (L5 lb (rl.set q (.slice (some ⟨vb, voff, none⟩) 5 vcap, V2)) * R))))) w6) := Lib.hid (ho.perm (by unfold LSl; ac_rfl))
    clear ho
    have hrol := HROL.out
    have hone : (Value.slice ad6 5 cap6).oneCell' = true := rfl
    have HONE := Lib.hid hone
    have HRO2 : Hid ((ro ++ [(V6, V2)]).map (·.2) = (vecState hs (k + 1)).1) := Lib.hid (by rw [HSTATE.out, HNX2.out, List.map_append, HRO.out]; rfl)
    have HRL2 : Hid ((rl.set q (.slice (some ⟨vb, voff, none⟩) 5 vcap, V2)).map (·.2) = (vecState hs (k + 1)).2) := Lib.hid (by rw [HSTATE.out, HNX2.out, map_put HRL.out])
    have HZ2 : Hid (∀ (j : Nat) v, (rl.set q (.slice (some ⟨vb, voff, none⟩) 5 vcap, V2))[j]? = some (v, []) → v = .slice none 0 0) := Lib.hid (fun j v hj => by
      rw [List.getElem?_set] at hj
      split at hj
      · split at hj
        · have h7 := congrArg (fun z => z.2.length) (Option.some.inj hj)
          simp only [HV2L.out] at h7
          cases h7
        · cases hj
      · exact HZ.out j v hj)
    clear hone
    rw [hV6] at HA HRO2
    clear hV6 V6
    go_wp2_with (at_builtin; refine wpList_app rfl _ _ 82 rfl 57 1 24 _ info_ints Tryz.underlying82 rfl (by decide) rfl (HA.out.alloc' _) rfl (by rfl) (Rd_lit (by simp) (by unfold maxLen; omega)) (by intro u hu; simp at hu; subst hu; exact HONE.out) (by unfold maxLen; omega) (by omega) ?_; intro v' w7 hown; have HO7 : Hid (Own w0 (LSl v' (ro ++ [(.slice ad6 5 cap6, V2)]) * (L5 lb (rl.set q (.slice (some ⟨vb, voff, none⟩) 5 vcap, V2)) * R)) w7) := Lib.hid (by have h9 := hown.ls_snoc; exact (h9.perm (show _ = EvO eb ((q : Int), x2, x3) * (LSl v' (ro ++ [(.slice ad6 5 cap6, V2)]) * (L5 lb (rl.set q (.slice (some ⟨vb, voff, none⟩) 5 vcap, V2)) * R)) by ac_rfl)).drop); clear hown)
    go_roundw
    case rel => exact ⟨k + 1, _, _, by omega, by go_num, HRO2, HRL2, HZ2, HO7⟩
    case measure => simp [intOf]; omega
def vecsE (hs : List Ev) : List (List Int) := if (histR hs).2 = 0 then vecsR hs else []
set_option maxRecDepth 100000 in
set_option maxHeartbeats 4000000 in
theorem vectors_any {w0 w : World} {R : HProp} (v : Value) (hs : List Ev) (h : Own w0 R w) (hv : ReadsE w0 R v hs) :
    Calls Tryz.prog 88 #[v] w fun e w' => ∃ v' rs, e = .returned (.tuple #[v', errV (histR hs).2]) ∧ rs.map (·.2) = vecsE hs ∧ Own w0 (LSl v' rs * R) w' := by
  obtain ⟨had, hcap, rfl, hc1, hc2⟩ := (hv _ h).shape
  obtain ⟨E, hE⟩ : ∃ E, E = (histR hs).2 := ⟨_, rfl⟩
  by_cases h0 : E = 0
  · have hrh := (histR_ok hs).1 (by rw [← hE]; exact h0)
    have hee : errV E = .nilIface := by rw [h0]; rfl
    have H := Lib.hid h; have HV := Lib.hid hv; have HE := Lib.hid hE; have H0 := Lib.hid h0; have HRH := Lib.hid hrh; have HEE := Lib.hid hee
    clear h hv hE h0 hrh hee
    go_enter Tryz.func88, Tryz.ntmps88
    go_wp2_with fail
    refine (hRight_any _ hs H.out HV.out).mono ?_
    rintro e w2 ⟨rfl, ho⟩
    rw [← HE.out, HEE.out]
    have HO2 := Lib.hid ho
    clear ho
    go_wp2_with fail
    refine (of_any _ hs HO2.out HV.out HRH.out).mono ?_
    rintro e w3 ⟨v3, rs, rfl, hm, ho⟩
    have HO3 := Lib.hid ho
    have HM := Lib.hid hm
    clear hm
    clear ho
    go_wp2
    go_ret2
    exact ⟨v3, rs, by rw [← HE.out, HEE.out]; rfl, by unfold vecsE; rw [← HE.out, if_pos H0.out]; exact HM.out, HO3.out⟩
  · have hee := errV_ne h0
    have H := Lib.hid h; have HV := Lib.hid hv; have HE := Lib.hid hE; have H0 := Lib.hid h0; have HEE := Lib.hid hee
    clear h hv hE h0 hee
    go_enter Tryz.func88, Tryz.ntmps88
    go_wp2_with fail
    refine (hRight_any _ hs H.out HV.out).mono ?_
    rintro e w2 ⟨rfl, ho⟩
    rw [← HE.out, HEE.out]
    have HO2 := Lib.hid ho
    clear ho
    go_wp2
    go_ret2
    exact ⟨.slice none 0 0, [], by rw [← HE.out, HEE.out]; rfl, by unfold vecsE; rw [← HE.out, if_neg H0.out]; rfl, by rw [LSl_nil, emp_star]; exact HO2.out⟩
end Go.Proofs.YtdfjbnfdknpahaaGreatDoor
