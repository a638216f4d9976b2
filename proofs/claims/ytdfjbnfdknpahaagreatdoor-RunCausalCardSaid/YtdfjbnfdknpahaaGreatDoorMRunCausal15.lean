/- Causal order, plainly: the history is right, causal, fifo; all heard all; how many events. -/
import Derived.Test.YtdfjbnfdknpahaaGreatDoorMRunCausal14
import Derived.Test.YtdfjbnfdknpahaaGreatDoorMRunCausal12
import Derived.Test.YtdfjbnfdknpahaaGreatDoorMRunCausal11
namespace Go.Proofs.YtdfjbnfdknpahaaGreatDoor
set_option linter.unusedVariables false
set_option linter.unusedSimpArgs false
open Go.RowKit Go.Maps
theorem nodup_sub_len {α : Type} [DecidableEq α] : ∀ (l m : List α), l.Nodup → (∀ x ∈ l, x ∈ m) → l.length ≤ m.length
  | [], m, _, _ => Nat.zero_le _
  | x :: r, m, hn, hs => by
    rw [List.nodup_cons] at hn
    have h1 := hs x (List.mem_cons_self ..)
    have h2 := nodup_sub_len r (m.erase x) hn.2 (fun y hy => by
      rw [List.mem_erase_of_ne (by rintro rfl; exact hn.1 hy)]
      exact hs y (List.mem_cons_of_mem _ hy))
    have h3 := List.length_erase_of_mem h1
    have h4 : 0 < m.length := List.length_pos_of_mem h1
    simp only [List.length_cons]
    omega
theorem cz_nodup_map {α β : Type} (f : α → β) (l : List α) (hn : l.Nodup) (hi : ∀ x ∈ l, ∀ y ∈ l, f x = f y → x = y) : (l.map f).Nodup := by
  induction l with
  | nil => simp
  | cons x r ih =>
    rw [List.nodup_cons] at hn
    rw [List.map_cons, List.nodup_cons]
    refine ⟨fun hc => ?_, ih hn.2 fun a ha b hb => hi a (List.mem_cons_of_mem _ ha) b (List.mem_cons_of_mem _ hb)⟩
    obtain ⟨y, hy, hxy⟩ := List.mem_map.1 hc
    have := hi y (List.mem_cons_of_mem _ hy) x (List.mem_cons_self ..) hxy
    exact hn.1 (this ▸ hy)
/-- What a say ahead of an event was of, its member has. -/
theorem CI.befHas {n S c h} (I : CI n S c h) : ∀ k (hk : k < h.length) i (hi : i < h.length), h[i].2.1 = 2 → bef h k i = true → wk (h.take (k + 1)) h[k].1 h[i].2.2 := by
  intro k
  induction k using Nat.strongRecOn with
  | _ k ih =>
    intro hk i hi h2 hb
    have ev : ∀ j (hj : j < h.length), evAt h j = h[j] := fun j hj => by unfold evAt; rw [List.getD_eq_getElem?_getD, List.getElem?_eq_getElem hj]; rfl
    have mem : ∀ j (hj : j < h.length) m, j < m → h[j] ∈ h.take m := fun j hj m hm => by
      rw [List.mem_take_iff_getElem]
      exact ⟨j, by omega, rfl⟩
    obtain ⟨m, hm, hd, h3⟩ := (bef_iff h k i hk).1 hb
    have hm' : m < h.length := by omega
    rw [ev m hm', ev k hk] at hd
    unfold directB at hd
    simp only [Bool.or_eq_true, Bool.and_eq_true, decide_eq_true_eq] at hd
    rcases hd with hd | ⟨hd1, hd2, hd3⟩
    · rcases h3 with rfl | h3
      · exact ⟨h[m], mem m hm' _ (by omega), hd, rfl⟩
      · obtain ⟨e, he, e1, e2⟩ := ih m hm hm' i hi h2 h3
        refine ⟨e, ?_, e1.trans hd, e2⟩
        rw [List.mem_take_iff_getElem] at he ⊢
        obtain ⟨j, hj, hje⟩ := he
        exact ⟨j, by omega, hje⟩
    · rcases h3 with rfl | h3
      · exact ⟨h[k], mem k hk _ (by omega), rfl, hd3.symm⟩
      · have hw := ih m hm hm' i hi h2 h3
        obtain ⟨sa, hsa, _⟩ := I.D _ (List.getElem_mem hi)
        obtain ⟨s, hs, _⟩ := I.D _ (List.getElem_mem hm')
        have hle := I.I m hm' s _ sa hd2 hs hsa hw
        rw [hd3] at hs
        by_cases e : h[i].2.2 = h[k].2.2
        · exact ⟨h[k], mem k hk _ (by omega), rfl, e.symm⟩
        · obtain ⟨x, hx, x1, x2⟩ := I.H k hk s _ sa hs hsa e hle
          refine ⟨x, ?_, x1, x2⟩
          rw [List.mem_take_iff_getElem] at hx ⊢
          obtain ⟨j, hj, hje⟩ := hx
          exact ⟨j, by omega, hje⟩
theorem heardL_mem {h : List Ev} {k w : Int} (hno : ∀ e ∈ h, e.2.1 = 2 ∨ e.2.1 = 3) : w ∈ heardL h k ↔ wk h k w := by
  unfold heardL wk
  rw [List.mem_map]
  constructor
  · rintro ⟨e, he, h1⟩
    obtain ⟨h2, h3⟩ := List.mem_filter.1 he
    unfold heardB at h3
    simp only [Bool.and_eq_true, decide_eq_true_eq] at h3
    exact ⟨e, h2, h3.1, h1⟩
  · rintro ⟨e, he, h1, h2⟩
    refine ⟨e, List.mem_filter.2 ⟨he, ?_⟩, h2⟩
    unfold heardB
    rcases hno e he with h3 | h3 <;> simp [h1, h3]
/-- Of who hears a word: what all of it stands ahead stands ahead. -/
theorem hasAhead_of {h : List Ev} {a b k : Int} (hno : ∀ e ∈ h, e.2.1 = 2 ∨ e.2.1 = 3) (hb : wk h k b) (hq : ∀ q (hq : q < h.length), h[q].1 = k → h[q].2.2 = b → wk (h.take q) k a) : hasAhead h a b k = true := by
  have ex : ∃ q, ∃ hq : q < h.length, h[q].1 = k ∧ h[q].2.2 = b := by
    obtain ⟨e, he, h1, h2⟩ := hb
    obtain ⟨q, hq, rfl⟩ := List.getElem_of_mem he
    exact ⟨q, hq, h1, h2⟩
  obtain ⟨q, hmin, hqq⟩ : ∃ q, (∀ p, p < q → ¬ ∃ hp : p < h.length, h[p].1 = k ∧ h[p].2.2 = b) ∧ ∃ hq : q < h.length, h[q].1 = k ∧ h[q].2.2 = b := by
    obtain ⟨q, hq⟩ := ex
    induction q using Nat.strongRecOn with
    | _ q ih =>
      by_cases hc : ∃ p, p < q ∧ ∃ hp : p < h.length, h[p].1 = k ∧ h[p].2.2 = b
      · obtain ⟨p, hp, hpp⟩ := hc
        exact ih p hp hpp
      · exact ⟨q, fun p hp hh => hc ⟨p, hp, hh⟩, hq⟩
  obtain ⟨hql, h1, h2⟩ := hqq
  have hno' : ∀ e ∈ h.take q, e.2.1 = 2 ∨ e.2.1 = 3 := fun e he => hno e (List.mem_of_mem_take he)
  have ha := (heardL_mem hno').2 (hq q hql h1 h2)
  have hnb : b ∉ heardL (h.take q) k := fun hc => by
    obtain ⟨e, he, e1, e2⟩ := (heardL_mem hno').1 hc
    rw [List.mem_take_iff_getElem] at he
    obtain ⟨p, hp, rfl⟩ := he
    exact hmin p (by omega) ⟨by omega, e1, e2⟩
  have hB := (heardL_mem hno).2 hb
  unfold hasAhead
  rw [heardL_split h q k] at hB ⊢
  obtain ⟨i, hi1, hi2, _⟩ := idx_mem (r := heardL (h.drop q) k) ha
  rcases idx_cases (heardL (h.take q) k ++ heardL (h.drop q) k) b with ⟨_, hx⟩ | ⟨j, hj, hj1, hj2, _⟩
  · exact absurd hB hx
  rw [hi2, hj1]
  have : (heardL (h.take q) k).length ≤ j := by
    apply Decidable.byContradiction
    intro hlt
    apply hnb
    rw [List.getElem_append_left (by omega)] at hj2
    rw [← hj2]; exact List.getElem_mem _
  simp only [Bool.and_eq_true, decide_eq_true_eq]
  omega
theorem CI.what {n S c h} (I : CI n S c h) : ∀ e ∈ h, e.2.1 = 2 ∨ e.2.1 = 3 := fun e he => by
  obtain ⟨s, _, _, h1⟩ := I.D e he
  exact h1.imp (·.1) (·.1)
theorem CI.ahead {n S c h} (I : CI n S c h) {k i : Nat} (hk : k < h.length) (hi : i < h.length) (h1 : h[k].2.1 = 2) (h2 : h[i].2.1 = 2) (hb : bef h k i = true) : aheadB h h[i].2.2 h[k].2.2 = true := by
  have hw := I.befHas k hk i hi h2 hb
  obtain ⟨sa, hsa, _⟩ := I.D _ (List.getElem_mem hi)
  obtain ⟨s, hs, _⟩ := I.D _ (List.getElem_mem hk)
  have hle := I.I k hk s _ sa h1 hs hsa hw
  unfold aheadB
  rw [List.all_eq_true]
  intro e he
  cases hh : hearsB h[k].2.2 e
  · rfl
  unfold hearsB at hh
  simp only [Bool.and_eq_true, decide_eq_true_eq] at hh
  simp only [Bool.not_true, Bool.false_or]
  by_cases ee : h[i].2.2 = h[k].2.2
  · have hB := (heardL_mem I.what).2 (⟨e, he, rfl, hh.2⟩ : wk h e.1 h[k].2.2)
    unfold hasAhead
    rw [ee]
    rcases idx_cases (heardL h e.1) h[k].2.2 with ⟨_, hx⟩ | ⟨j, hj, hj1, _⟩
    · exact absurd hB hx
    · rw [hj1]; simp
  · refine hasAhead_of I.what ⟨e, he, rfl, hh.2⟩ (fun q hq q1 q2 => ?_)
    have := I.H q hq s _ sa (by rw [q2]; exact hs) hsa (by rw [q2]; exact ee) hle
    rw [q1] at this
    exact this
theorem CI.pairs {n S c h} (I : CI n S c h) : h.length ≤ n * S.length := by
  have h1 := nodup_sub_len (h.map fun e => (e.1, e.2.2)) ((List.range n).flatMap fun i : Nat => S.map fun e => ((i : Int), e.1)) I.P (fun x hx => by
    obtain ⟨e, he, rfl⟩ := List.mem_map.1 hx
    obtain ⟨s, hs, ⟨r1, r2⟩, _⟩ := I.D e he
    rw [List.mem_flatMap]
    refine ⟨e.1.toNat, List.mem_range.2 (by omega), List.mem_map.2 ⟨(e.2.2, s), mget_mem' hs, ?_⟩⟩
    show ((e.1.toNat : Int), e.2.2) = _
    rw [Int.toNat_of_nonneg r1])
  rw [List.length_map, List.length_flatMap] at h1
  have h2 : ((List.range n).map fun i : Nat => (S.map fun e => ((i : Int), e.1)).length) = List.replicate n S.length := by
    simp [List.map_const']
  rw [h2] at h1
  simpa using h1
theorem CI.all {n S c h} (I : CI n S c h) (hf : ∀ w s k, mget S w = some s → Rg n k → wk h k w) : h.length = n * S.length := by
  refine Nat.le_antisymm I.pairs ?_
  have hn : ((List.range n).flatMap fun i : Nat => S.map fun e => ((i : Int), e.1)).Nodup := by
    rw [List.nodup_iff_pairwise_ne, List.pairwise_flatMap]
    refine ⟨fun i _ => ?_, ?_⟩
    · have h3 := I.nd
      rw [List.nodup_iff_pairwise_ne, List.pairwise_map] at h3
      rw [List.pairwise_map]
      exact h3.imp fun hne hh => hne (by injection hh)
    · refine List.Pairwise.imp ?_ List.nodup_range
      intro i j hij x hx y hy hxy
      obtain ⟨a, _, rfl⟩ := List.mem_map.1 hx
      obtain ⟨b, _, rfl⟩ := List.mem_map.1 hy
      injection hxy with h3 _
      exact hij (by omega)
  have h1 := nodup_sub_len _ (h.map fun e => (e.1, e.2.2)) hn (fun x hx => by
    rw [List.mem_flatMap] at hx
    obtain ⟨i, hi, hx⟩ := hx
    obtain ⟨e, he, rfl⟩ := List.mem_map.1 hx
    obtain ⟨p, hp, hpe⟩ := List.getElem_of_mem he
    have hg : mget S e.1 = some e.2 := mget_at I.nd (j := p) (by rw [List.getElem?_eq_getElem hp, hpe])
    obtain ⟨y, hy, y1, y2⟩ := hf _ _ (i : Int) hg ⟨by omega, by have := List.mem_range.1 hi; omega⟩
    exact List.mem_map.2 ⟨y, hy, by rw [y1, y2]⟩)
  rw [List.length_map, List.length_flatMap] at h1
  have h2 : ((List.range n).map fun i : Nat => (S.map fun e => ((i : Int), e.1)).length) = List.replicate n S.length := by
    simp [List.map_const']
  rw [h2] at h1
  simpa using h1
def saysN (h : List Ev) : Nat := (h.filter fun e => decide (e.2.1 = 2)).length
def hearsN (h : List Ev) : Nat := (h.filter fun e => decide (e.2.1 = 3)).length
theorem CI.says {n S c h} (I : CI n S c h) : saysN h = S.length := by
  have hnd : h.Nodup := by
    have := I.P
    rw [List.nodup_iff_pairwise_ne, List.pairwise_map] at this
    rw [List.nodup_iff_pairwise_ne]
    exact this.imp fun hne hh => hne (by rw [hh])
  have hw : ((h.filter fun e => decide (e.2.1 = 2)).map fun e => e.2.2).Nodup := by
    refine cz_nodup_map _ _ (hnd.filter _) (fun x hx y hy hxy => ?_)
    obtain ⟨x1, x2⟩ := List.mem_filter.1 hx
    obtain ⟨y1, y2⟩ := List.mem_filter.1 hy
    have x3 := of_decide_eq_true x2
    have y3 := of_decide_eq_true y2
    obtain ⟨s, hs, _, h1⟩ := I.D x x1
    obtain ⟨t, ht, _, h2⟩ := I.D y y1
    rw [hxy, ht] at hs
    injection hs with hs
    subst hs
    have e1 : x.1 = y.1 := by
      rcases h1 with ⟨_, h1⟩ | ⟨h1, _⟩
      · rcases h2 with ⟨_, h2⟩ | ⟨h2, _⟩
        · rw [← h1, ← h2]
        · rw [y3] at h2; exact absurd h2 (by decide)
      · rw [x3] at h1; exact absurd h1 (by decide)
    obtain ⟨a, b, d⟩ := x
    obtain ⟨a', b', d'⟩ := y
    simp only at e1 x3 y3 hxy
    rw [e1, x3, y3, hxy]
  have h1 := nodup_sub_len _ (S.map (·.1)) hw (fun x hx => by
    obtain ⟨e, he, rfl⟩ := List.mem_map.1 hx
    obtain ⟨s, hs, _⟩ := I.D e (List.mem_filter.1 he).1
    exact List.mem_map.2 ⟨_, mget_mem' hs, rfl⟩)
  have h2 := nodup_sub_len (S.map (·.1)) ((h.filter fun e => decide (e.2.1 = 2)).map fun e => e.2.2) I.nd (fun x hx => by
    obtain ⟨e, he, rfl⟩ := List.mem_map.1 hx
    obtain ⟨p, hp, hpe⟩ := List.getElem_of_mem he
    have hg : mget S e.1 = some e.2 := mget_at I.nd (j := p) (by rw [List.getElem?_eq_getElem hp, hpe])
    exact List.mem_map.2 ⟨_, List.mem_filter.2 ⟨I.saidEv hg, by simp⟩, rfl⟩)
  rw [List.length_map, List.length_map] at h1 h2
  unfold saysN
  omega
theorem says_hears : ∀ (h : List Ev), (∀ e ∈ h, e.2.1 = 2 ∨ e.2.1 = 3) → saysN h + hearsN h = h.length
  | [], _ => rfl
  | e :: r, hh => by
    have ih := says_hears r (fun x hx => hh x (List.mem_cons_of_mem _ hx))
    unfold saysN hearsN at ih ⊢
    rcases hh e (List.mem_cons_self ..) with h1 | h1
    · rw [List.filter_cons_of_pos (by simp [h1]), List.filter_cons_of_neg (by simp [h1])]
      simp only [List.length_cons]; omega
    · rw [List.filter_cons_of_neg (by simp [h1]), List.filter_cons_of_pos (by simp [h1])]
      simp only [List.length_cons]; omega
theorem CZ.len {c : Cs} (h : CZ c) : c.hist.length ≤ 60 := by
  have h1 := h.ci.pairs
  have h2 := h.L
  rw [Nat.mul_comm] at h2
  omega
theorem CZ.right {c : Cs} (h : CZ c) : facesErr c.hist = 0 := (histR_ok _).2 ⟨h.len, h.ci.R⟩
theorem CZ.skip {c : Cs} (h : CZ c) (k i : Nat) (hk : k < c.hist.length) (hi : i < k) : skipB c.hist k i = true := by
  have ev : ∀ j (hj : j < c.hist.length), evAt c.hist j = c.hist[j] := fun j hj => by unfold evAt; rw [List.getD_eq_getElem?_getD, List.getElem?_eq_getElem hj]; rfl
  unfold skipB
  rw [ev k hk, ev i (by omega)]
  by_cases h1 : (c.hist[i]'(by omega)).2.1 = 2
  rotate_left
  · rw [decide_eq_true h1]; rfl
  by_cases h2 : c.hist[k].2.1 = 2
  rotate_left
  · rw [decide_eq_true h2]; simp
  cases hb : bef c.hist k i
  · simp
  · rw [h.ci.ahead hk (by omega) h2 h1 hb]; simp
theorem CZ.causal {c : Cs} (h : CZ c) : facesC c.hist = true := by
  unfold facesC
  rw [h.right]
  simp only [decide_true, Bool.true_and]
  unfold causalB
  exact (upTo_iff _ _).2 fun k hk => (upTo_iff _ _).2 fun i hi => h.skip k i hk hi
theorem CZ.fifo {c : Cs} (h : CZ c) : facesF c.hist = true := by
  unfold facesF
  rw [h.right]
  simp only [decide_true, Bool.true_and]
  unfold fifoB
  exact (upTo_iff _ _).2 fun k hk => (upTo_iff _ _).2 fun i hi => by unfold fifoOk; rw [h.skip k i hk hi]; rfl
/-- Where nothing was dropped and nothing is on its way all heard all. -/
theorem CZ.full {c : Cs} (h : CZ c) (hn : ND c) (hw : c.net.all = []) : ∀ w s k, mget c.said w = some s → Rg c.mem.length k → wk c.hist k w := by
  intro w s k hs hk
  obtain ⟨j, rfl⟩ : ∃ j : Nat, k = (j : Int) := ⟨k.toNat, by have := hk.1; omega⟩
  have hj : j < c.mem.length := by have := hk.2; omega
  have key : ∀ p, ∀ hp : p < c.said.length, wk c.hist j c.said[p].1 := by
    intro p
    induction p using Nat.strongRecOn with
    | _ p ih =>
      intro hp
      have hg : mget c.said c.said[p].1 = some c.said[p].2 := mget_at h.ci.nd (j := p) (by rw [List.getElem?_eq_getElem hp])
      apply Classical.byContradiction
      intro hno
      obtain ⟨hr, h1, _, _, h5⟩ := h.ci.sd _ _ hg
      have hne : (j : Int) ≠ c.said[p].2.who := fun e => by
        apply hno
        rw [e]
        exact ⟨_, h.ci.saidEv hg, rfl, rfl⟩
      have hwt : c.said[p].2 ∈ c.mem[j].waits := by
        rcases hn _ _ hg j hj hne with h2 | h2 | h2
        · exact absurd h2 hno
        · exact h2
        · rw [hw] at h2; cases h2
      have hnr := h.W j hj _ hwt
      have hA := h.ci.A _ _ (j : Int) hg hk
      have hlt : caAt (clkF c j) c.said[p].2.who < nm c.said[p].2 := by
        have : ¬ nm c.said[p].2 ≤ caAt (clkF c j) c.said[p].2.who := fun hh => hno (hA.2 hh)
        omega
      have n5 := h.ci.n5
      -- what it knew is known
      have known : ∀ i, Rg c.mem.length i → ∀ x, 1 ≤ x → x ≤ caAt c.said[p].2.clk i → (i = c.said[p].2.who ∧ x = nm c.said[p].2) ∨ x ≤ caAt (clkF c j) i := fun i hi x hx1 hx2 => by
        rcases h.ci.F p hp i x hi hx1 hx2 with h3 | ⟨q, hq, h3, h4⟩
        · exact .inl h3
        · right
          have hgq : mget c.said (c.said[q]'(by omega)).1 = some (c.said[q]'(by omega)).2 := mget_at h.ci.nd (j := q) (by rw [List.getElem?_eq_getElem (by omega)])
          have := (h.ci.A _ _ (j : Int) hgq hk).1 (ih q hq (by omega))
          rw [h4, h3] at this
          exact this
      have hready : caReady (clkF c j) c.said[p].2 = true := by
        unfold caReady
        rw [List.all_eq_true]
        intro i hi
        have hi5 := List.mem_range.1 hi
        unfold caOk1
        have g1 : c.said[p].2.clk.getD i 0 = caAt c.said[p].2.clk (i : Int) := by unfold caAt; rw [Int.toNat_natCast]
        have g2 : (clkF c j).getD i 0 = caAt (clkF c j) (i : Int) := by unfold caAt; rw [Int.toNat_natCast]
        rw [g1, g2]
        have hpos : 0 ≤ caAt (clkF c j) (i : Int) := by
          rw [clkF_at hj]
          exact (vec_get (h.i.mem j hj).ok.clk _).1
        by_cases ei : (i : Int) = c.said[p].2.who
        · rw [if_pos ei, decide_eq_true_iff]
          rw [ei] at hpos ⊢
          have e1 : caAt c.said[p].2.clk c.said[p].2.who = nm c.said[p].2 := rfl
          by_cases e2 : nm c.said[p].2 = 1
          · omega
          · rcases known _ hr (nm c.said[p].2 - 1) (by omega) (by omega) with ⟨_, h3⟩ | h3
            · omega
            · omega
        · rw [if_neg ei, decide_eq_true_iff]
          by_cases hin : i < c.mem.length
          · by_cases e0 : caAt c.said[p].2.clk (i : Int) ≤ 0
            · omega
            · rcases known (i : Int) ⟨by omega, by omega⟩ _ (by omega) (Int.le_refl _) with ⟨h3, _⟩ | h3
              · exact absurd h3 ei
              · exact h3
          · have := h.ci.Z2 _ _ (i : Int) hg (by omega)
            omega
      rw [clkF_at hj, hnr] at hready
      cases hready
  obtain ⟨p, hp, hpe⟩ := List.getElem_of_mem (mget_mem' hs)
  have := key p hp
  rw [hpe] at this
  exact this
end Go.Proofs.YtdfjbnfdknpahaaGreatDoor
/- Contracts of package clock: numbers. -/
namespace Go.Proofs.YtdfjbnfdknpahaaGreatDoor
set_option linter.unusedVariables false
set_option linter.unusedSimpArgs false
open Go.RowKit
end Go.Proofs.YtdfjbnfdknpahaaGreatDoor
/- Contracts of package clock, continued: vectors. -/
namespace Go.Proofs.YtdfjbnfdknpahaaGreatDoor
set_option linter.unusedVariables false
set_option linter.unusedSimpArgs false
open Go.RowKit
/-- A row of owned lists of ints: a slice of them. -/
def LSl (v : Value) (rs : List (Value × List Int)) : HProp := Sl 57 1 v rs.length (rs.map (·.1)) * starL rowP rs
/-- The same in an array of five. -/
def L5 (b : Nat) (rs : List (Value × List Int)) : HProp := blk b (.cells (rs.map (·.1)).toArray 217 (0, 0)) * starL rowP rs
theorem rows_one {rs : List (Value × List Int)} {k : Nat} {v : Value} {l : List Int} (h : rs[k]? = some (v, l)) : starL rowP rs = IntSl v l * starL rowP (rs.eraseIdx k) := by
  obtain ⟨hlt, he⟩ := List.getElem?_eq_some_iff.1 h
  rw [starL_split rowP rs k hlt, he]; rfl
theorem Own.l5_cell {w0 w : World} {b k : Nat} {rs : List (Value × List Int)} {v : Value} {l : List Int} {R : HProp} (h : Own w0 (L5 b rs * R) w) (hk : rs[k]? = some (v, l)) : w.cell? ⟨b, k, none⟩ = some v := by
  have h1 : Own w0 (blk b (.cells (rs.map (·.1)).toArray 217 (0, 0)) * (starL rowP rs * R)) w := h.perm (by unfold L5; ac_rfl)
  rw [Own.cell h1]; simp [hk]
theorem Own.l5_free {w0 w : World} {b : Nat} {rs : List (Value × List Int)} {R : HProp} (h : Own w0 (L5 b rs * R) w) : ∀ i, w.frozen? ⟨b, i, none⟩ = false := by
  have h1 : Own w0 (blk b (.cells (rs.map (·.1)).toArray 217 (0, 0)) * (starL rowP rs * R)) w := h.perm (by unfold L5; ac_rfl)
  exact fun i => Own.free h1 i none
theorem Own.l5_row {w0 w : World} {b k : Nat} {rs : List (Value × List Int)} {v : Value} {l : List Int} {R : HProp} (h : Own w0 (L5 b rs * R) w) (hk : rs[k]? = some (v, l)) (hI : ∀ x ∈ l, I64 x) : Ints w v l := by
  have h1 : Own w0 (IntSl v l * (starL rowP (rs.eraseIdx k) * (blk b (.cells (rs.map (·.1)).toArray 217 (0, 0)) * R))) w := h.perm (by unfold L5; rw [rows_one hk]; ac_rfl)
  exact ⟨Own.rd h1, hI⟩
theorem Own.l5_put {w0 w : World} {b k : Nat} {rs : List (Value × List Int)} {v : Value} {l : List Int} {R : HProp} (h : Own w0 (IntSl v l * (L5 b rs * R)) w) (hk : k < rs.length) : Own w0 (L5 b (rs.set k (v, l)) * R) (w.setCell ⟨b, k, none⟩ v) := by
  have h1 : Own w0 (rowP rs[k] * (blk b (.cells (rs.map (·.1)).toArray 217 (0, 0)) * (IntSl v l * (starL rowP (rs.eraseIdx k) * R)))) w := h.perm (by unfold L5; rw [starL_split rowP rs k hk]; ac_rfl)
  have h2 := h1.drop.setCell (i := k) (v := v)
  refine h2.perm ?_
  unfold L5
  rw [starL_set rowP rs k hk]
  show _ = blk b _ * (IntSl v l * starL rowP (rs.eraseIdx k)) * R
  rw [List.map_set, show ((rs.map (·.1)).set k (v, l).1).toArray = (rs.map (·.1)).toArray.setIfInBounds k v by simp]
  ac_rfl
theorem Own.ls_row {w0 w : World} {v rv : Value} {k : Nat} {rs : List (Value × List Int)} {l : List Int} {R : HProp} (h : Own w0 (LSl v rs * R) w) (hk : rs[k]? = some (rv, l)) (hI : ∀ x ∈ l, I64 x) :
    ∃ b off cap, v = .slice (some ⟨b, off, none⟩) rs.length cap ∧ rs.length ≤ cap ∧ cap ≤ 9223372036854775807 ∧ w.cell? ⟨b, off + k, none⟩ = some rv ∧ Ints w rv l := by
  obtain ⟨hlt, _⟩ := List.getElem?_eq_some_iff.1 hk
  have h1 : Own w0 (Sl 57 1 v rs.length (rs.map (·.1)) * (starL rowP rs * R)) w := h.perm (by unfold LSl; ac_rfl)
  obtain ⟨b, off, cap, e1, h2⟩ := h1.slAt (by simp; omega)
  have f := h2.slAt_facts
  have h3 : Own w0 (IntSl rv l * (starL rowP (rs.eraseIdx k) * (Sl 57 1 v rs.length (rs.map (·.1)) * R))) w := h.perm (by unfold LSl; rw [rows_one hk]; ac_rfl)
  exact ⟨b, off, cap, e1, f.1, f.2.1, f.2.2.2.1 k rv (by simp [hk]), Own.rd h3, hI⟩
theorem Own.ls_snoc {w0 w : World} {v x : Value} {rs : List (Value × List Int)} {l : List Int} {R : HProp} (h : Own w0 (Sl 57 1 v (rs.length + 1) (rs.map (·.1) ++ [x]) * (IntSl x l * (starL rowP rs * R))) w) : Own w0 (LSl v (rs ++ [(x, l)]) * R) w := by
  refine h.perm ?_
  unfold LSl
  rw [starL_snoc]
  show _ = Sl 57 1 v (rs ++ [(x, l)]).length ((rs ++ [(x, l)]).map (·.1)) * (IntSl x l * starL rowP rs) * R
  simp only [List.length_append, List.length_cons, List.length_nil, List.map_append, List.map_cons, List.map_nil, Nat.zero_add]
  ac_rfl
theorem LSl_nil : LSl (.slice none 0 0) [] = emp := by
  unfold LSl; rw [show starL rowP ([] : List (Value × List Int)) = emp from rfl, star_emp]; exact Sl_nil _ _
theorem L5_nil {b : Nat} : L5 b (List.replicate 5 (.slice none 0 0, [])) = blk b (.cells #[.slice none 0 0, .slice none 0 0, .slice none 0 0, .slice none 0 0, .slice none 0 0] 217 (0, 0)) := by
  unfold L5
  rw [starL_nils rowP (.slice none 0 0, []) (by unfold rowP IntSl; exact Sl_nil _ _), star_emp]
  rfl
set_option maxRecDepth 100000 in
set_option maxHeartbeats 4000000 in
theorem cloneNil_any (w : World) :
    Calls Tryz.prog 97 #[.slice none 0 0] w fun e w' => e = .returned (.slice none 0 0) ∧ w = w' := by
  have hnil := fun (w : World) => Lib.run_eql_slice_nil (P := Tryz.prog) w 57 3 none 0 0 0 0 Tryz.underlying57
  go_enter Tryz.func97, Tryz.ntmps97
  go_wp2
  go_ret
  exact ⟨rfl, rfl⟩
end Go.Proofs.YtdfjbnfdknpahaaGreatDoor
