/- Causal order, plainly: the history is right, causal, fifo; all heard all; how many events. -/
import Derived.Test.YtpafhfnimncklaaGreatDoorMTopCast11
import Derived.Test.YtpafhfnimncklaaGreatDoorMTopCast2
import Derived.Test.YtpafhfnimncklaaGreatDoorMTopCast9
import Derived.Test.YtpafhfnimncklaaGreatDoorMTopCast6
import Derived.Test.YtpafhfnimncklaaGreatDoorMTopCast5
import Derived.Test.YtpafhfnimncklaaGreatDoorMTopCast1
namespace Go.Proofs.YtpafhfnimncklaaGreatDoor
set_option linter.unusedVariables false
set_option linter.unusedSimpArgs false
open Go.RowKit Go.Maps
theorem nodup_sub_len {α : Type} [DecidableEq α] : ∀ (l m : List α), l.Nodup → (∀ x ∈ l, x ∈ m) → l.length ≤ m.length
  | [], m, _, _ => Nat.zero_le _
  | x :: r, m, hn, hs => by
    rw [List.nodup_cons] at hn
    have h1 := hs x (List.mem_cons_self ..)
    have h2 := nodup_sub_len r (m.erase x) hn.2 (fun y hy => by
      rw [List.mem_erase_of_ne (by rintro rfl; exact hn.1 hy)]
      exact hs y (List.mem_cons_of_mem _ hy))
    have h3 := List.length_erase_of_mem h1
    have h4 : 0 < m.length := List.length_pos_of_mem h1
    simp only [List.length_cons]
    omega
theorem cz_nodup_map {α β : Type} (f : α → β) (l : List α) (hn : l.Nodup) (hi : ∀ x ∈ l, ∀ y ∈ l, f x = f y → x = y) : (l.map f).Nodup := by
  induction l with
  | nil => simp
  | cons x r ih =>
    rw [List.nodup_cons] at hn
    rw [List.map_cons, List.nodup_cons]
    refine ⟨fun hc => ?_, ih hn.2 fun a ha b hb => hi a (List.mem_cons_of_mem _ ha) b (List.mem_cons_of_mem _ hb)⟩
    obtain ⟨y, hy, hxy⟩ := List.mem_map.1 hc
    have := hi y (List.mem_cons_of_mem _ hy) x (List.mem_cons_self ..) hxy
    exact hn.1 (this ▸ hy)
/-- What a say ahead of an event was of, its member has. -/
theorem CI.befHas {n S c h} (I : CI n S c h) : ∀ k (hk : k < h.length) i (hi : i < h.length), h[i].2.1 = 2 → bef h k i = true → wk (h.take (k + 1)) h[k].1 h[i].2.2 := by
  intro k
  induction k using Nat.strongRecOn with
  | _ k ih =>
    intro hk i hi h2 hb
    have ev : ∀ j (hj : j < h.length), evAt h j = h[j] := fun j hj => by unfold evAt; rw [List.getD_eq_getElem?_getD, List.getElem?_eq_getElem hj]; rfl
    have mem : ∀ j (hj : j < h.length) m, j < m → h[j] ∈ h.take m := fun j hj m hm => by
      rw [List.mem_take_iff_getElem]
      exact ⟨j, by omega, rfl⟩
    obtain ⟨m, hm, hd, h3⟩ := (bef_iff h k i hk).1 hb
    have hm' : m < h.length := by omega
    rw [ev m hm', ev k hk] at hd
    unfold directB at hd
    simp only [Bool.or_eq_true, Bool.and_eq_true, decide_eq_true_eq] at hd
    rcases hd with hd | ⟨hd1, hd2, hd3⟩
    · rcases h3 with rfl | h3
      · exact ⟨h[m], mem m hm' _ (by omega), hd, rfl⟩
      · obtain ⟨e, he, e1, e2⟩ := ih m hm hm' i hi h2 h3
        refine ⟨e, ?_, e1.trans hd, e2⟩
        rw [List.mem_take_iff_getElem] at he ⊢
        obtain ⟨j, hj, hje⟩ := he
        exact ⟨j, by omega, hje⟩
    · rcases h3 with rfl | h3
      · exact ⟨h[k], mem k hk _ (by omega), rfl, hd3.symm⟩
      · have hw := ih m hm hm' i hi h2 h3
        obtain ⟨sa, hsa, _⟩ := I.D _ (List.getElem_mem hi)
        obtain ⟨s, hs, _⟩ := I.D _ (List.getElem_mem hm')
        have hle := I.I m hm' s _ sa hd2 hs hsa hw
        rw [hd3] at hs
        by_cases e : h[i].2.2 = h[k].2.2
        · exact ⟨h[k], mem k hk _ (by omega), rfl, e.symm⟩
        · obtain ⟨x, hx, x1, x2⟩ := I.H k hk s _ sa hs hsa e hle
          refine ⟨x, ?_, x1, x2⟩
          rw [List.mem_take_iff_getElem] at hx ⊢
          obtain ⟨j, hj, hje⟩ := hx
          exact ⟨j, by omega, hje⟩
theorem heardL_mem {h : List Ev} {k w : Int} (hno : ∀ e ∈ h, e.2.1 = 2 ∨ e.2.1 = 3) : w ∈ heardL h k ↔ wk h k w := by
  unfold heardL wk
  rw [List.mem_map]
  constructor
  · rintro ⟨e, he, h1⟩
    obtain ⟨h2, h3⟩ := List.mem_filter.1 he
    unfold heardB at h3
    simp only [Bool.and_eq_true, decide_eq_true_eq] at h3
    exact ⟨e, h2, h3.1, h1⟩
  · rintro ⟨e, he, h1, h2⟩
    refine ⟨e, List.mem_filter.2 ⟨he, ?_⟩, h2⟩
    unfold heardB
    rcases hno e he with h3 | h3 <;> simp [h1, h3]
/-- Of who hears a word: what all of it stands ahead stands ahead. -/
theorem hasAhead_of {h : List Ev} {a b k : Int} (hno : ∀ e ∈ h, e.2.1 = 2 ∨ e.2.1 = 3) (hb : wk h k b) (hq : ∀ q (hq : q < h.length), h[q].1 = k → h[q].2.2 = b → wk (h.take q) k a) : hasAhead h a b k = true := by
  have ex : ∃ q, ∃ hq : q < h.length, h[q].1 = k ∧ h[q].2.2 = b := by
    obtain ⟨e, he, h1, h2⟩ := hb
    obtain ⟨q, hq, rfl⟩ := List.getElem_of_mem he
    exact ⟨q, hq, h1, h2⟩
  obtain ⟨q, hmin, hqq⟩ : ∃ q, (∀ p, p < q → ¬ ∃ hp : p < h.length, h[p].1 = k ∧ h[p].2.2 = b) ∧ ∃ hq : q < h.length, h[q].1 = k ∧ h[q].2.2 = b := by
    obtain ⟨q, hq⟩ := ex
    induction q using Nat.strongRecOn with
    | _ q ih =>
      by_cases hc : ∃ p, p < q ∧ ∃ hp : p < h.length, h[p].1 = k ∧ h[p].2.2 = b
      · obtain ⟨p, hp, hpp⟩ := hc
        exact ih p hp hpp
      · exact ⟨q, fun p hp hh => hc ⟨p, hp, hh⟩, hq⟩
  obtain ⟨hql, h1, h2⟩ := hqq
  have hno' : ∀ e ∈ h.take q, e.2.1 = 2 ∨ e.2.1 = 3 := fun e he => hno e (List.mem_of_mem_take he)
  have ha := (heardL_mem hno').2 (hq q hql h1 h2)
  have hnb : b ∉ heardL (h.take q) k := fun hc => by
    obtain ⟨e, he, e1, e2⟩ := (heardL_mem hno').1 hc
    rw [List.mem_take_iff_getElem] at he
    obtain ⟨p, hp, rfl⟩ := he
    exact hmin p (by omega) ⟨by omega, e1, e2⟩
  have hB := (heardL_mem hno).2 hb
  unfold hasAhead
  rw [heardL_split h q k] at hB ⊢
  obtain ⟨i, hi1, hi2, _⟩ := idx_mem (r := heardL (h.drop q) k) ha
  rcases idx_cases (heardL (h.take q) k ++ heardL (h.drop q) k) b with ⟨_, hx⟩ | ⟨j, hj, hj1, hj2, _⟩
  · exact absurd hB hx
  rw [hi2, hj1]
  have : (heardL (h.take q) k).length ≤ j := by
    apply Decidable.byContradiction
    intro hlt
    apply hnb
    rw [List.getElem_append_left (by omega)] at hj2
    rw [← hj2]; exact List.getElem_mem _
  simp only [Bool.and_eq_true, decide_eq_true_eq]
  omega
theorem CI.what {n S c h} (I : CI n S c h) : ∀ e ∈ h, e.2.1 = 2 ∨ e.2.1 = 3 := fun e he => by
  obtain ⟨s, _, _, h1⟩ := I.D e he
  exact h1.imp (·.1) (·.1)
theorem CI.ahead {n S c h} (I : CI n S c h) {k i : Nat} (hk : k < h.length) (hi : i < h.length) (h1 : h[k].2.1 = 2) (h2 : h[i].2.1 = 2) (hb : bef h k i = true) : aheadB h h[i].2.2 h[k].2.2 = true := by
  have hw := I.befHas k hk i hi h2 hb
  obtain ⟨sa, hsa, _⟩ := I.D _ (List.getElem_mem hi)
  obtain ⟨s, hs, _⟩ := I.D _ (List.getElem_mem hk)
  have hle := I.I k hk s _ sa h1 hs hsa hw
  unfold aheadB
  rw [List.all_eq_true]
  intro e he
  cases hh : hearsB h[k].2.2 e
  · rfl
  unfold hearsB at hh
  simp only [Bool.and_eq_true, decide_eq_true_eq] at hh
  simp only [Bool.not_true, Bool.false_or]
  by_cases ee : h[i].2.2 = h[k].2.2
  · have hB := (heardL_mem I.what).2 (⟨e, he, rfl, hh.2⟩ : wk h e.1 h[k].2.2)
    unfold hasAhead
    rw [ee]
    rcases idx_cases (heardL h e.1) h[k].2.2 with ⟨_, hx⟩ | ⟨j, hj, hj1, _⟩
    · exact absurd hB hx
    · rw [hj1]; simp
  · refine hasAhead_of I.what ⟨e, he, rfl, hh.2⟩ (fun q hq q1 q2 => ?_)
    have := I.H q hq s _ sa (by rw [q2]; exact hs) hsa (by rw [q2]; exact ee) hle
    rw [q1] at this
    exact this
theorem CI.pairs {n S c h} (I : CI n S c h) : h.length ≤ n * S.length := by
  have h1 := nodup_sub_len (h.map fun e => (e.1, e.2.2)) ((List.range n).flatMap fun i : Nat => S.map fun e => ((i : Int), e.1)) I.P (fun x hx => by
    obtain ⟨e, he, rfl⟩ := List.mem_map.1 hx
    obtain ⟨s, hs, ⟨r1, r2⟩, _⟩ := I.D e he
    rw [List.mem_flatMap]
    refine ⟨e.1.toNat, List.mem_range.2 (by omega), List.mem_map.2 ⟨(e.2.2, s), mget_mem' hs, ?_⟩⟩
    show ((e.1.toNat : Int), e.2.2) = _
    rw [Int.toNat_of_nonneg r1])
  rw [List.length_map, List.length_flatMap] at h1
  have h2 : ((List.range n).map fun i : Nat => (S.map fun e => ((i : Int), e.1)).length) = List.replicate n S.length := by
    simp [List.map_const']
  rw [h2] at h1
  simpa using h1
theorem CI.all {n S c h} (I : CI n S c h) (hf : ∀ w s k, mget S w = some s → Rg n k → wk h k w) : h.length = n * S.length := by
  refine Nat.le_antisymm I.pairs ?_
  have hn : ((List.range n).flatMap fun i : Nat => S.map fun e => ((i : Int), e.1)).Nodup := by
    rw [List.nodup_iff_pairwise_ne, List.pairwise_flatMap]
    refine ⟨fun i _ => ?_, ?_⟩
    · have h3 := I.nd
      rw [List.nodup_iff_pairwise_ne, List.pairwise_map] at h3
      rw [List.pairwise_map]
      exact h3.imp fun hne hh => hne (by injection hh)
    · refine List.Pairwise.imp ?_ List.nodup_range
      intro i j hij x hx y hy hxy
      obtain ⟨a, _, rfl⟩ := List.mem_map.1 hx
      obtain ⟨b, _, rfl⟩ := List.mem_map.1 hy
      injection hxy with h3 _
      exact hij (by omega)
  have h1 := nodup_sub_len _ (h.map fun e => (e.1, e.2.2)) hn (fun x hx => by
    rw [List.mem_flatMap] at hx
    obtain ⟨i, hi, hx⟩ := hx
    obtain ⟨e, he, rfl⟩ := List.mem_map.1 hx
    obtain ⟨p, hp, hpe⟩ := List.getElem_of_mem he
    have hg : mget S e.1 = some e.2 := mget_at I.nd (j := p) (by rw [List.getElem?_eq_getElem hp, hpe])
    obtain ⟨y, hy, y1, y2⟩ := hf _ _ (i : Int) hg ⟨by omega, by have := List.mem_range.1 hi; omega⟩
    exact List.mem_map.2 ⟨y, hy, by rw [y1, y2]⟩)
  rw [List.length_map, List.length_flatMap] at h1
  have h2 : ((List.range n).map fun i : Nat => (S.map fun e => ((i : Int), e.1)).length) = List.replicate n S.length := by
    simp [List.map_const']
  rw [h2] at h1
  simpa using h1
def saysN (h : List Ev) : Nat := (h.filter fun e => decide (e.2.1 = 2)).length
def hearsN (h : List Ev) : Nat := (h.filter fun e => decide (e.2.1 = 3)).length
theorem CI.says {n S c h} (I : CI n S c h) : saysN h = S.length := by
  have hnd : h.Nodup := by
    have := I.P
    rw [List.nodup_iff_pairwise_ne, List.pairwise_map] at this
    rw [List.nodup_iff_pairwise_ne]
    exact this.imp fun hne hh => hne (by rw [hh])
  have hw : ((h.filter fun e => decide (e.2.1 = 2)).map fun e => e.2.2).Nodup := by
    refine cz_nodup_map _ _ (hnd.filter _) (fun x hx y hy hxy => ?_)
    obtain ⟨x1, x2⟩ := List.mem_filter.1 hx
    obtain ⟨y1, y2⟩ := List.mem_filter.1 hy
    have x3 := of_decide_eq_true x2
    have y3 := of_decide_eq_true y2
    obtain ⟨s, hs, _, h1⟩ := I.D x x1
    obtain ⟨t, ht, _, h2⟩ := I.D y y1
    rw [hxy, ht] at hs
    injection hs with hs
    subst hs
    have e1 : x.1 = y.1 := by
      rcases h1 with ⟨_, h1⟩ | ⟨h1, _⟩
      · rcases h2 with ⟨_, h2⟩ | ⟨h2, _⟩
        · rw [← h1, ← h2]
        · rw [y3] at h2; exact absurd h2 (by decide)
      · rw [x3] at h1; exact absurd h1 (by decide)
    obtain ⟨a, b, d⟩ := x
    obtain ⟨a', b', d'⟩ := y
    simp only at e1 x3 y3 hxy
    rw [e1, x3, y3, hxy]
  have h1 := nodup_sub_len _ (S.map (·.1)) hw (fun x hx => by
    obtain ⟨e, he, rfl⟩ := List.mem_map.1 hx
    obtain ⟨s, hs, _⟩ := I.D e (List.mem_filter.1 he).1
    exact List.mem_map.2 ⟨_, mget_mem' hs, rfl⟩)
  have h2 := nodup_sub_len (S.map (·.1)) ((h.filter fun e => decide (e.2.1 = 2)).map fun e => e.2.2) I.nd (fun x hx => by
    obtain ⟨e, he, rfl⟩ := List.mem_map.1 hx
    obtain ⟨p, hp, hpe⟩ := List.getElem_of_mem he
    have hg : mget S e.1 = some e.2 := mget_at I.nd (j := p) (by rw [List.getElem?_eq_getElem hp, hpe])
    exact List.mem_map.2 ⟨_, List.mem_filter.2 ⟨I.saidEv hg, by simp⟩, rfl⟩)
  rw [List.length_map, List.length_map] at h1 h2
  unfold saysN
  omega
theorem says_hears : ∀ (h : List Ev), (∀ e ∈ h, e.2.1 = 2 ∨ e.2.1 = 3) → saysN h + hearsN h = h.length
  | [], _ => rfl
  | e :: r, hh => by
    have ih := says_hears r (fun x hx => hh x (List.mem_cons_of_mem _ hx))
    unfold saysN hearsN at ih ⊢
    rcases hh e (List.mem_cons_self ..) with h1 | h1
    · rw [List.filter_cons_of_pos (by simp [h1]), List.filter_cons_of_neg (by simp [h1])]
      simp only [List.length_cons]; omega
    · rw [List.filter_cons_of_neg (by simp [h1]), List.filter_cons_of_pos (by simp [h1])]
      simp only [List.length_cons]; omega
theorem CZ.len {c : Cs} (h : CZ c) : c.hist.length ≤ 60 := by
  have h1 := h.ci.pairs
  have h2 := h.L
  rw [Nat.mul_comm] at h2
  omega
theorem CZ.right {c : Cs} (h : CZ c) : facesErr c.hist = 0 := (histR_ok _).2 ⟨h.len, h.ci.R⟩
theorem CZ.skip {c : Cs} (h : CZ c) (k i : Nat) (hk : k < c.hist.length) (hi : i < k) : skipB c.hist k i = true := by
  have ev : ∀ j (hj : j < c.hist.length), evAt c.hist j = c.hist[j] := fun j hj => by unfold evAt; rw [List.getD_eq_getElem?_getD, List.getElem?_eq_getElem hj]; rfl
  unfold skipB
  rw [ev k hk, ev i (by omega)]
  by_cases h1 : (c.hist[i]'(by omega)).2.1 = 2
  rotate_left
  · rw [decide_eq_true h1]; rfl
  by_cases h2 : c.hist[k].2.1 = 2
  rotate_left
  · rw [decide_eq_true h2]; simp
  cases hb : bef c.hist k i
  · simp
  · rw [h.ci.ahead hk (by omega) h2 h1 hb]; simp
theorem CZ.causal {c : Cs} (h : CZ c) : facesC c.hist = true := by
  unfold facesC
  rw [h.right]
  simp only [decide_true, Bool.true_and]
  unfold causalB
  exact (upTo_iff _ _).2 fun k hk => (upTo_iff _ _).2 fun i hi => h.skip k i hk hi
theorem CZ.fifo {c : Cs} (h : CZ c) : facesF c.hist = true := by
  unfold facesF
  rw [h.right]
  simp only [decide_true, Bool.true_and]
  unfold fifoB
  exact (upTo_iff _ _).2 fun k hk => (upTo_iff _ _).2 fun i hi => by unfold fifoOk; rw [h.skip k i hk hi]; rfl
/-- Where nothing was dropped and nothing is on its way all heard all. -/
theorem CZ.full {c : Cs} (h : CZ c) (hn : ND c) (hw : c.net.all = []) : ∀ w s k, mget c.said w = some s → Rg c.mem.length k → wk c.hist k w := by
  intro w s k hs hk
  obtain ⟨j, rfl⟩ : ∃ j : Nat, k = (j : Int) := ⟨k.toNat, by have := hk.1; omega⟩
  have hj : j < c.mem.length := by have := hk.2; omega
  have key : ∀ p, ∀ hp : p < c.said.length, wk c.hist j c.said[p].1 := by
    intro p
    induction p using Nat.strongRecOn with
    | _ p ih =>
      intro hp
      have hg : mget c.said c.said[p].1 = some c.said[p].2 := mget_at h.ci.nd (j := p) (by rw [List.getElem?_eq_getElem hp])
      apply Classical.byContradiction
      intro hno
      obtain ⟨hr, h1, _, _, h5⟩ := h.ci.sd _ _ hg
      have hne : (j : Int) ≠ c.said[p].2.who := fun e => by
        apply hno
        rw [e]
        exact ⟨_, h.ci.saidEv hg, rfl, rfl⟩
      have hwt : c.said[p].2 ∈ c.mem[j].waits := by
        rcases hn _ _ hg j hj hne with h2 | h2 | h2
        · exact absurd h2 hno
        · exact h2
        · rw [hw] at h2; cases h2
      have hnr := h.W j hj _ hwt
      have hA := h.ci.A _ _ (j : Int) hg hk
      have hlt : caAt (clkF c j) c.said[p].2.who < nm c.said[p].2 := by
        have : ¬ nm c.said[p].2 ≤ caAt (clkF c j) c.said[p].2.who := fun hh => hno (hA.2 hh)
        omega
      have n5 := h.ci.n5
      -- what it knew is known
      have known : ∀ i, Rg c.mem.length i → ∀ x, 1 ≤ x → x ≤ caAt c.said[p].2.clk i → (i = c.said[p].2.who ∧ x = nm c.said[p].2) ∨ x ≤ caAt (clkF c j) i := fun i hi x hx1 hx2 => by
        rcases h.ci.F p hp i x hi hx1 hx2 with h3 | ⟨q, hq, h3, h4⟩
        · exact .inl h3
        · right
          have hgq : mget c.said (c.said[q]'(by omega)).1 = some (c.said[q]'(by omega)).2 := mget_at h.ci.nd (j := q) (by rw [List.getElem?_eq_getElem (by omega)])
          have := (h.ci.A _ _ (j : Int) hgq hk).1 (ih q hq (by omega))
          rw [h4, h3] at this
          exact this
      have hready : caReady (clkF c j) c.said[p].2 = true := by
        unfold caReady
        rw [List.all_eq_true]
        intro i hi
        have hi5 := List.mem_range.1 hi
        unfold caOk1
        have g1 : c.said[p].2.clk.getD i 0 = caAt c.said[p].2.clk (i : Int) := by unfold caAt; rw [Int.toNat_natCast]
        have g2 : (clkF c j).getD i 0 = caAt (clkF c j) (i : Int) := by unfold caAt; rw [Int.toNat_natCast]
        rw [g1, g2]
        have hpos : 0 ≤ caAt (clkF c j) (i : Int) := by
          rw [clkF_at hj]
          exact (vec_get (h.i.mem j hj).ok.clk _).1
        by_cases ei : (i : Int) = c.said[p].2.who
        · rw [if_pos ei, decide_eq_true_iff]
          rw [ei] at hpos ⊢
          have e1 : caAt c.said[p].2.clk c.said[p].2.who = nm c.said[p].2 := rfl
          by_cases e2 : nm c.said[p].2 = 1
          · omega
          · rcases known _ hr (nm c.said[p].2 - 1) (by omega) (by omega) with ⟨_, h3⟩ | h3
            · omega
            · omega
        · rw [if_neg ei, decide_eq_true_iff]
          by_cases hin : i < c.mem.length
          · by_cases e0 : caAt c.said[p].2.clk (i : Int) ≤ 0
            · omega
            · rcases known (i : Int) ⟨by omega, by omega⟩ _ (by omega) (Int.le_refl _) with ⟨h3, _⟩ | h3
              · exact absurd h3 ei
              · exact h3
          · have := h.ci.Z2 _ _ (i : Int) hg (by omega)
            omega
      rw [clkF_at hj, hnr] at hready
      cases hready
  obtain ⟨p, hp, hpe⟩ := List.getElem_of_mem (mget_mem' hs)
  have := key p hp
  rw [hpe] at this
  exact this
end Go.Proofs.YtpafhfnimncklaaGreatDoor
/- Contracts of package cause, of a member for whom none waits. -/
namespace Go.Proofs.YtpafhfnimncklaaGreatDoor
set_option linter.unusedVariables false
set_option linter.unusedSimpArgs false
open Go.RowKit
def CaP (p mb : Nat) (q : Int) (clk : List Int) : HProp :=
  blk p (.cells #[.int .i64 q, .slice (some ⟨mb, 0, none⟩) 5 5, .slice none 0 0] 104 (0, 0)) * IntSl (.slice (some ⟨mb, 0, none⟩) 5 5) clk
theorem Own.ca {w0 w : World} {p mb : Nat} {q : Int} {clk : List Int} {R : HProp} (h : Own w0 (CaP p mb q clk * R) w) (h5 : clk.length = 5) :
    w.cell? ⟨p, 0, none⟩ = some (.int .i64 q) ∧ w.cell? ⟨p, 1, none⟩ = some (.slice (some ⟨mb, 0, none⟩) 5 5) ∧ w.cell? ⟨p, 2, none⟩ = some (.slice none 0 0) ∧
    (∀ k, k < 5 → w.cell? ⟨mb, k, none⟩ = some (.int .i64 (clk.getD k 0))) ∧ (∀ k s, w.frozen? ⟨mb, k, s⟩ = false) ∧
    (∀ k x, k < 5 → Own w0 (CaP p mb q (clk.set k x) * R) (w.setCell ⟨mb, k, none⟩ (.int .i64 x))) := by
  have h1 : Own w0 (blk p (.cells #[.int .i64 q, .slice (some ⟨mb, 0, none⟩) 5 5, .slice none 0 0] 104 (0, 0)) * (IntSl (.slice (some ⟨mb, 0, none⟩) 5 5) clk * R)) w := h.perm (by unfold CaP; ac_rfl)
  have h2 : Own w0 (IntSl (.slice (some ⟨mb, 0, none⟩) 5 5) clk * (blk p (.cells #[.int .i64 q, .slice (some ⟨mb, 0, none⟩) 5 5, .slice none 0 0] 104 (0, 0)) * R)) w := h.perm (by unfold CaP; ac_rfl)
  obtain ⟨b, off, cap, e1, _, _, hcell, hfz, _, _, hset⟩ := h2.ints_at (by omega)
  rw [h5] at e1
  injection e1 with e1 _ e3
  injection e1 with e1
  injection e1 with e1 e2 _
  subst e1; subst e2; subst e3
  refine ⟨(h1.cell 0).trans rfl, (h1.cell 1).trans rfl, (h1.cell 2).trans rfl, fun k hk => ?_, hfz, fun k x hk => ?_⟩
  · have h3 := hcell k (by omega)
    rw [Nat.zero_add] at h3
    rw [h3, List.getD_eq_getElem?_getD, List.getElem?_eq_getElem (by omega)]; rfl
  · have h3 := hset k x (by omega)
    rw [Nat.zero_add] at h3
    exact h3.perm (by unfold CaP; ac_rfl)
theorem CaP_reads {w0 w : World} {p mb : Nat} {q : Int} {clk : List Int} {R : HProp} (hI : ∀ x ∈ clk, I64 x) (h : Own w0 (CaP p mb q clk * R) w) : Ints w (.slice (some ⟨mb, 0, none⟩) 5 5) clk :=
  IntSl_reads hI _ (h.perm (show _ = IntSl (.slice (some ⟨mb, 0, none⟩) 5 5) clk * (blk p (.cells #[.int .i64 q, .slice (some ⟨mb, 0, none⟩) 5 5, .slice none 0 0] 104 (0, 0)) * R) by unfold CaP; ac_rfl))
set_option maxRecDepth 100000 in
set_option maxHeartbeats 4000000 in
theorem causeNew_no (me : Int) (w : World) (hm : isMember me = false) :
    Calls Tryz.prog 23 #[.int .i64 me] w fun e w' => e = .returned (.tuple #[.pointer none, errV 1]) ∧ w = w' := by
  have HM := Lib.hid hm
  clear hm
  go_enter Tryz.func23, Tryz.ntmps23
  go_wp2_with fail
  refine (member_any _ _).mono ?_
  rintro e w' ⟨rfl, rfl⟩
  rw [HM.out]
  go_wp2
  go_ret2
  exact ⟨rfl, rfl⟩
set_option maxRecDepth 100000 in
set_option maxHeartbeats 4000000 in
theorem causeNew_yes {w0 w : World} {R : HProp} (me : Int) (hm : isMember me = true) (h : Own w0 R w) :
    Calls Tryz.prog 23 #[.int .i64 me] w fun e w' => ∃ p mb, e = .returned (.tuple #[.pointer (some ⟨p, 0, none⟩), errV 0]) ∧ Own w0 (CaP p mb me zero5 * R) w' := by
  have hmk : ∀ w, (Instr.makeSlice 30 (.int .i64 5) (.int .i64 5)).run Tryz.prog w = .ok (.slice (some ⟨w.heap.size, 0, none⟩) 5 5) (w.alloc (.cells #[.int .i64 0, .int .i64 0, .int .i64 0, .int .i64 0, .int .i64 0] 3)) := fun _ => by kernel_rfl
  have hnew := ((h.alloc (.cells #[.int .i64 0, .int .i64 0, .int .i64 0, .int .i64 0, .int .i64 0] 3)).zero5.alloc (.cells #[.int .i64 me, .slice (some ⟨w.heap.size, 0, none⟩) 5 5, .slice none 0 0] 104))
  rw [World.size_alloc] at hnew
  have HM := Lib.hid hm; have H := Lib.hid h; have HNEW := Lib.hid hnew
  clear hm h hnew
  go_enter Tryz.func23, Tryz.ntmps23
  go_wp2_with fail
  refine (member_any _ _).mono ?_
  rintro e w' ⟨rfl, rfl⟩
  rw [HM.out]
  go_wp2
  go_ret2
  exact ⟨_, w.heap.size, rfl, HNEW.out.perm (by unfold CaP; ac_rfl)⟩
def SdO (b : Nat) (a x : Int) (v : Value) : HProp := blk b (.cells #[.int .i64 a, .int .i64 x, v] 51 (0, 0))
theorem Own.sd {w0 w : World} {b : Nat} {a x : Int} {v : Value} {R : HProp} (h : Own w0 (SdO b a x v * R) w) : w.cell? ⟨b, 0, none⟩ = some (.int .i64 a) ∧ w.cell? ⟨b, 1, none⟩ = some (.int .i64 x) ∧ w.cell? ⟨b, 2, none⟩ = some v ∧ ∀ i s, w.frozen? ⟨b, i, s⟩ = false :=
  ⟨(Own.cell h 0).trans rfl, (Own.cell h 1).trans rfl, (Own.cell h 2).trans rfl, Own.free h⟩
theorem Own.sd_put {w0 w : World} {b : Nat} {a x : Int} {v : Value} {R : HProp} (a' x' : Int) (v' : Value) (h : Own w0 (SdO b a x v * R) w) : Own w0 (SdO b a' x' v' * R) (((w.setCell ⟨b, 0, none⟩ (.int .i64 a')).setCell ⟨b, 1, none⟩ (.int .i64 x')).setCell ⟨b, 2, none⟩ v') :=
  (Own.setCell (i := 2) (v := v') (Own.setCell (i := 1) (v := .int .i64 x') (Own.setCell (i := 0) (v := .int .i64 a') h))).perm rfl
theorem Own.sd_put2 {w0 w : World} {b : Nat} {a x : Int} {v : Value} {R : HProp} (v' : Value) (h : Own w0 (SdO b a x v * R) w) : Own w0 (SdO b a x v' * R) (w.setCell ⟨b, 2, none⟩ v') :=
  (Own.setCell (i := 2) (v := v') h).perm rfl
set_option maxRecDepth 100000 in
set_option maxHeartbeats 4000000 in
theorem causeSay_any {w0 w : World} {R : HProp} (p mb q : Nat) (hq : q < 5) (clk : List Int) (h5 : clk.length = 5) (word : Int) (hw : isWord word = true) (hI : ∀ x ∈ clk.set q (clk.getD q 0 + 1), I64 x) (hn : 0 ≤ clk.getD q 0 ∧ clk.getD q 0 < 1000000) (h : Own w0 (CaP p mb q clk * R) w) :
    Calls Tryz.prog 26 #[.pointer (some ⟨p, 0, none⟩), .int .i64 word] w fun e w' => ∃ v', e = .returned (.tuple #[.agg #[.int .i64 q, .int .i64 word, v'], errV 0]) ∧ Own w0 (IntSl v' (clk.set q (clk.getD q 0 + 1)) * (CaP p mb q (clk.set q (clk.getD q 0 + 1)) * R)) w' := by
  obtain ⟨b1, hb_b1⟩ : ∃ zz_, zz_ = (w).heap.size := ⟨_, rfl⟩
  obtain ⟨w1, hw_w1⟩ : ∃ zz_, zz_ = (w).alloc (.cells #[.int .i64 0, .int .i64 0, .slice none 0 0] 51 (0, 0)) := ⟨_, rfl⟩
  have h_HO := (h).alloc (.cells #[.int .i64 0, .int .i64 0, .slice none 0 0] 51 (0, 0))
  rw [← hb_b1, ← hw_w1] at h_HO
  have HO := Lib.hid h_HO
  clear h_HO
  have HO1 : Hid (Own w0 (CaP p mb q clk * (SdO b1 0 0 (.slice none 0 0) * R)) w1) := Lib.hid (HO.out.perm (star_left_comm _ _ _))
  obtain ⟨c0, c1, c2, hc, hf, hs⟩ := HO1.out.ca h5
  obtain ⟨y, hy⟩ : ∃ y, y = clk.getD q 0 := ⟨_, rfl⟩
  have d0 := hc q hq
  have f0 := hf q none
  have s0 := hs q (clk.getD q 0 + 1) hq
  rw [← hy] at d0 s0 hn hI ⊢
  obtain ⟨y0, y1⟩ := hn
  have t1 : (y == 1000000) = false := by rw [beq_eq_false_iff_ne]; omega
  have q0 : (0 : Int) ≤ (q : Int) := by omega
  have q5 : (q : Int) < 5 := by omega
  obtain ⟨w2, hw2⟩ : ∃ w2, w2 = w1.setCell ⟨mb, q, none⟩ (.int .i64 (y + 1)) := ⟨_, rfl⟩
  rw [← hw2] at s0
  obtain ⟨D, hD⟩ : ∃ D, D = clk.set q (y + 1) := ⟨_, rfl⟩
  rw [← hD] at s0 hI ⊢
  have hD5 : D.length = 5 := by rw [hD]; simp [h5]
  have HO2 := Lib.hid s0
  clear HO HO1 hc hf hs s0
  have H := Lib.hid h; have H5 := Lib.hid h5; have HI := Lib.hid hI; have HW := Lib.hid hw; have HY := Lib.hid hy; have HD := Lib.hid hD; have HD5 := Lib.hid hD5
  clear h h5 hI hw hy hD hD5
  go_enter Tryz.func26, Tryz.ntmps26
  go_upto_region 1 with fail
  rw [← hb_b1, ← hw_w1]
  clear hb_b1 hw_w1
  go_wp2_with fail
  refine (word_any _ _).mono ?_
  rintro e w' ⟨rfl, rfl⟩
  rw [HW.out]
  go_upto_region 3 with fail
  refine wp_region_tail 11 (by kernel_rfl) (by kernel_rfl) ?_
  simp only [List.take_succ_cons, List.take_zero, List.drop_succ_cons, List.drop_zero]
  repeat still_step
  refine wpStill_nil ?_
  go_upto_region 5 with fail
  refine wp_region_tail 11 (by kernel_rfl) (by kernel_rfl) ?_
  simp only [List.take_succ_cons, List.take_zero, List.drop_succ_cons, List.drop_zero]
  repeat still_step
  refine wpStill_nil ?_
  go_upto_region 6 with fail
  rw [← hw2]
  clear d0 c0 c1 c2 f0 hw2 t1
  have HO3 := Lib.hid HO2.out.drew.drew.drew
  obtain ⟨c0, c1, _, _, _, _⟩ := HO2.out.ca HD5.out
  refine wp_region_planH 11 [] [(true, 0), (true, 1), (true, 2), (true, 3), (true, 4), (true, 5), (true, 6), (true, 7), (true, 8), (false, 9), (true, 10)] [11, 12] (fun wS => (wS.cell? ⟨p, 0, none⟩ = some (.int .i64 q) ∧ wS.cell? ⟨p, 1, none⟩ = some (.slice (some ⟨mb, 0, none⟩) 5 5))) (by kernel_rfl) (by kernel_rfl) (⟨c0, c1⟩) ?_
  simp only [pickH, pick, List.getElem?_cons_succ, List.getElem?_cons_zero, Option.toList, Option.map_some, List.cons_append, List.nil_append]
  repeat (refine wpPure_step ?_ rfl ?_ ?_; rotate_left; (focus (intro _; first | with_reducible rfl | (go_simp; done) | (go_simp; with_reducible rfl) | rfl)); go_simp)
  refine wpPure_nil ?_
  repeat (refine wpMix_read ?_ rfl ?_ ?_; rotate_left; (focus (intro _ hS; obtain ⟨s1, s2⟩ := hS; first | with_reducible rfl | (go_simp; done) | (go_simp; with_reducible rfl) | rfl)); go_simp)
  refine wpMix_write (fun K hK => ?_)
  go_simp
  refine (cloneInts_any HO3.out _ D (CaP_reads HI.out HO3.out) (by rw [HD5.out]; omega)).mono ?_
  rintro e w4 ⟨v4, rfl, ho⟩
  obtain ⟨x1, x2, x3, x4⟩ := (ho.perm (show _ = SdO b1 0 0 (.slice none 0 0) * (IntSl v4 D * (CaP p mb q D * R)) by ac_rfl)).sd
  have x40 := x4 0 none
  have x41 := x4 1 none
  have x42 := x4 2 none
  obtain ⟨ad4, cap4, hv4, _⟩ := Own.rd ho
  subst hv4
  have hput := (ho.perm (show _ = SdO b1 0 0 (.slice none 0 0) * (IntSl (.slice ad4 D.length cap4) D * (CaP p mb q D * R)) by ac_rfl)).sd_put (q : Int) word (.slice ad4 D.length cap4)
  obtain ⟨p0, p1, p2, _⟩ := hput.sd
  have HPUT := Lib.hid hput.drop
  obtain ⟨k0, k1, _, _, _, _⟩ := (ho.perm (star_left_comm _ _ _)).ca HD5.out
  clear ho hput x4 c0 c1
  refine hK _ _ ⟨⟨k0, k1⟩, ?_⟩
  clear hK K
  go_simp
  repeat (refine wpMix_read ?_ rfl ?_ ?_; rotate_left; (focus (intro _ hS; obtain ⟨s1, s2⟩ := hS; first | with_reducible rfl | (go_simp; done) | (go_simp; with_reducible rfl) | rfl)); go_simp)
  refine wpMix_nil ?_
  go_wp2_with fail
  refine NoPanic.normal ?_
  go_wp2_with fail
  exact bodyPost_ret (v := .tuple #[.agg #[.int .i64 q, .int .i64 word, .slice ad4 D.length cap4], .nilIface]) (by simp [results, Tryz.results26, go_sem, p0, p1, p2]) rfl ⟨_, rfl, HPUT.out⟩
end Go.Proofs.YtpafhfnimncklaaGreatDoor
/- Contracts of package cause, continued: what comes in order is heard at once. -/
namespace Go.Proofs.YtpafhfnimncklaaGreatDoor
set_option linter.unusedVariables false
set_option linter.unusedSimpArgs false
open Go.RowKit
set_option maxRecDepth 100000 in
set_option maxHeartbeats 4000000 in
theorem saidIx_none (f : Value) (w : World) :
    Calls Tryz.prog 52 #[.slice none 0 0, f] w fun e w' => e = .returned (.int .i64 (-1)) ∧ w = w' := by
  go_enter Tryz.func52, Tryz.ntmps52
  go_wp2_with fail
  go_loop [8] (fun iv => iv = .int .i64 0) (fun _ => 0)
  case atStart => rfl
  case round =>
    subst hrel
    go_wp2
    go_ret
    exact ⟨rfl, rfl⟩
set_option maxRecDepth 100000 in
set_option maxHeartbeats 4000000 in
theorem saidHas_none (f : Value) (w : World) :
    Calls Tryz.prog 73 #[.slice none 0 0, f] w fun e w' => e = .returned (.bool false) ∧ w = w' := by
  go_enter Tryz.func73, Tryz.ntmps73
  go_wp2_with fail
  refine (saidIx_none f w).mono ?_
  rintro e w' ⟨rfl, rfl⟩
  go_wp2
  go_ret
  exact ⟨rfl, rfl⟩
set_option maxRecDepth 100000 in
set_option maxHeartbeats 4000000 in
theorem causeReady_yes {w0 w : World} {R : HProp} (p mb q : Nat) (hq : q < 5) (me : Int) (clk : List Int) (h5 : clk.length = 5) (word : Int) (vv : Value) (V : List Int) (V5 : V.length = 5) (hh : ∀ i, i < 5 → if i = q then V.getD i 0 = clk.getD i 0 + 1 else V.getD i 0 ≤ clk.getD i 0) (hb : ∀ i, i < 5 → 0 ≤ clk.getD i 0 ∧ clk.getD i 0 < 1000000) (hv : Reads w0 R vv V) (h : Own w0 (CaP p mb me clk * R) w) :
    Calls Tryz.prog 51 #[.pointer (some ⟨p, 0, none⟩), .agg #[.int .i64 q, .int .i64 word, vv]] w fun e w' => e = .returned (.bool true) ∧ Own w0 (CaP p mb me clk * R) w' := by
  obtain ⟨vad, vcap, rfl, hvc1, hvc2⟩ := (hv _ h.drop).shape
  rw [V5] at hvc1 hv ⊢
  obtain ⟨b1, hb_b1⟩ : ∃ zz_, zz_ = (w).heap.size := ⟨_, rfl⟩
  obtain ⟨w1, hw_w1⟩ : ∃ zz_, zz_ = (w).alloc (.cells #[.int .i64 q, .int .i64 word, .slice vad 5 vcap] 51 (0, 0)) := ⟨_, rfl⟩
  have h_HO := (h).alloc (.cells #[.int .i64 q, .int .i64 word, .slice vad 5 vcap] 51 (0, 0))
  rw [← hb_b1, ← hw_w1] at h_HO
  have HO := Lib.hid h_HO
  clear h_HO
  obtain ⟨x0, x1, x2, _⟩ := (show Own w0 (SdO b1 q word (.slice vad 5 vcap) * (CaP p mb me clk * R)) w1 from HO.out).sd
  have HO1 : Hid (Own w0 (CaP p mb me clk * (SdO b1 q word (.slice vad 5 vcap) * R)) w1) := Lib.hid (HO.out.perm (star_left_comm _ _ _))
  obtain ⟨c0, c1, c2, hc, _, _⟩ := HO1.out.ca h5
  have HVV := Lib.hid (hv _ HO1.out.drop.drop)
  clear HO
  have V5H := Lib.hid V5
  clear V5
  have H := Lib.hid h; have HV := Lib.hid hv; have H5 := Lib.hid h5; have HH := Lib.hid hh; have HB := Lib.hid hb; have HC := Lib.hid hc
  clear h hv h5 hh hb hc
  go_enter Tryz.func51, Tryz.ntmps51
  go_upto_region 1 with fail
  rw [← hb_b1, ← hw_w1]
  clear hb_b1 hw_w1
  go_wp2_with fail
  go_loop [10] (fun iv => ∃ i : Nat, i ≤ 5 ∧ iv = .int .i64 i) (fun iv => 5 - (intOf iv).toNat)
  case atStart => exact ⟨0, Nat.zero_le _, rfl⟩
  case round =>
    obtain ⟨i, hi, rfl⟩ := hrel
    by_cases hlt : i < 5
    rotate_left
    · go_wp2
      go_ret
      exact ⟨rfl, (HO1.out.perm (star_left_comm _ _ _)).drop⟩
    obtain ⟨aa, rfl, hca⟩ := HVV.out.at i (by rw [V5H.out]; exact hlt)
    obtain ⟨z, hz⟩ : ∃ z, z = V[i]'(by rw [V5H.out]; exact hlt) := ⟨_, rfl⟩
    rw [← hz] at hca
    have hzg : V.getD i 0 = z := by rw [hz, List.getD_eq_getElem?_getD, List.getElem?_eq_getElem (by rw [V5H.out]; exact hlt)]; rfl
    have d := HC.out i hlt
    have hhi := HH.out i hlt
    obtain ⟨y0, y1⟩ := HB.out i hlt
    rw [hzg] at hhi
    obtain ⟨y, hy⟩ : ∃ y, y = clk.getD i 0 := ⟨_, rfl⟩
    rw [← hy] at d hhi y0 y1
    have i0 : (0 : Int) ≤ (i : Int) := Int.natCast_nonneg i
    have i5 : (i : Int) < 5 := by omega
    by_cases hiq : i = q
    · rw [if_pos hiq] at hhi
      subst hhi
      subst hiq
      have HZ := Lib.hid hz; have HZG := Lib.hid hzg; have HY := Lib.hid hy
      clear hz hzg hy
      go_wp2
      go_round
      case rel => exact ⟨i + 1, by omega, by go_num⟩
      case measure => simp [intOf]; omega
    · rw [if_neg hiq] at hhi
      have t1 : ((i : Int) == (q : Int)) = false := by rw [beq_eq_false_iff_ne]; omega
      have t2 : ((i : Int) != (q : Int)) = true := by rw [bne_iff_ne]; omega
      have t3 : decide (y < z) = false := by simp; omega
      have HZ := Lib.hid hz; have HZG := Lib.hid hzg; have HY := Lib.hid hy; have HIQ := Lib.hid hiq; have HHI := Lib.hid hhi
      clear hz hzg hy hiq hhi
      go_wp2
      go_round
      case rel => exact ⟨i + 1, by omega, by go_num⟩
      case measure => simp [intOf]; omega
set_option maxRecDepth 100000 in
set_option maxHeartbeats 4000000 in
theorem causeCheck_ok {w0 w : World} {R : HProp} (p mb q : Nat) (hq : q < 5) (me : Int) (hme : (q : Int) ≠ me) (clk : List Int) (h5 : clk.length = 5) (word : Int) (hw : isWord word = true) (vv : Value) (V : List Int) (hV : vecErr V = 0) (hlt : clk.getD q 0 < V.getD q 0) (hpos : 0 ≤ clk.getD q 0) (hv : Reads w0 R vv V) (h : Own w0 (CaP p mb me clk * R) w) :
    Calls Tryz.prog 50 #[.pointer (some ⟨p, 0, none⟩), .agg #[.int .i64 q, .int .i64 word, vv]] w fun e w' => e = .returned (errV 0) ∧ Own w0 (CaP p mb me clk * R) w' := by
  have V5 := (vecErr0 hV).1
  obtain ⟨vad, vcap, rfl, hvc1, hvc2⟩ := (hv _ h.drop).shape
  rw [V5] at hvc1 hv ⊢
  obtain ⟨b1, hb_b1⟩ : ∃ zz_, zz_ = (w).heap.size := ⟨_, rfl⟩
  obtain ⟨w1, hw_w1⟩ : ∃ zz_, zz_ = (w).alloc (.cells #[.int .i64 q, .int .i64 word, .slice vad 5 vcap] 51 (0, 0)) := ⟨_, rfl⟩
  have h_HO := (h).alloc (.cells #[.int .i64 q, .int .i64 word, .slice vad 5 vcap] 51 (0, 0))
  rw [← hb_b1, ← hw_w1] at h_HO
  have HO := Lib.hid h_HO
  clear h_HO
  obtain ⟨x0, x1, x2, _⟩ := (show Own w0 (SdO b1 q word (.slice vad 5 vcap) * (CaP p mb me clk * R)) w1 from HO.out).sd
  have HVV := Lib.hid (hv _ HO.out.drop.drop)
  obtain ⟨aa, e1, hca⟩ := HVV.out.at q (by rw [V5]; exact hq)
  obtain ⟨z, hz⟩ : ∃ z, z = V[q]'(by rw [V5]; exact hq) := ⟨_, rfl⟩
  rw [← hz] at hca
  have hzg : V.getD q 0 = z := by rw [hz, List.getD_eq_getElem?_getD, List.getElem?_eq_getElem (by rw [V5]; exact hq)]; rfl
  subst e1
  rw [hzg] at hlt
  obtain ⟨b2, hb_b2⟩ : ∃ zz_, zz_ = (w1).heap.size := ⟨_, rfl⟩
  obtain ⟨w2, hw_w2⟩ : ∃ zz_, zz_ = (w1).alloc (.cells #[.int .i64 z] 3 (0, 0)) := ⟨_, rfl⟩
  have h_HO2 := (HO.out).alloc (.cells #[.int .i64 z] 3 (0, 0))
  rw [← hb_b2, ← hw_w2] at h_HO2
  have HO2 := Lib.hid h_HO2
  clear h_HO2
  have HO3 : Hid (Own w0 (blk b2 (.cells #[.int .i64 z] 3 (0, 0)) * (SdO b1 q word (.slice (some aa) 5 vcap) * (CaP p mb me clk * R))) w2) := HO2
  have n0 : w2.cell? ⟨b2, 0, none⟩ = some (.int .i64 z) := (HO3.out.cell 0).trans rfl
  obtain ⟨a0, a1, a2, _⟩ := HO3.out.drop.sd
  obtain ⟨c0, c1, c2, hc, _, _⟩ := (HO3.out.perm (show _ = CaP p mb me clk * (SdO b1 q word (.slice (some aa) 5 vcap) * (blk b2 (.cells #[.int .i64 z] 3 (0, 0)) * R)) by ac_rfl)).ca h5
  have cq := hc q hq
  clear hc
  have hm : isMember (q : Int) = true := by simp [isMember]; omega
  have q0 : (0 : Int) ≤ (q : Int) := Int.natCast_nonneg q
  have q5 : (q : Int) < 5 := by omega
  obtain ⟨y, hy⟩ : ∃ y, y = clk.getD q 0 := ⟨_, rfl⟩
  rw [← hy] at hlt hpos cq
  have t0 : (z == 0) = false := by rw [beq_eq_false_iff_ne]; omega
  have t1 : ((q : Int) == me) = false := by rw [beq_eq_false_iff_ne]; exact hme
  have t2 : decide (z ≤ y) = false := by simp; omega
  clear HO2
  have V5H := Lib.hid V5; have HVZ := Lib.hid hV
  clear hV HO
  have H := Lib.hid h; have HV := Lib.hid hv; have H5 := Lib.hid h5; have HW := Lib.hid hw; have HZ := Lib.hid hz; have HZG := Lib.hid hzg; have HM := Lib.hid hm; have HY := Lib.hid hy; have HME := Lib.hid hme
  clear h hv h5 hw hz hzg hm hy hme
  go_enter Tryz.func50, Tryz.ntmps50
  go_upto_region 1 with fail
  rw [← hb_b1, ← hw_w1]
  clear hb_b1 hw_w1
  go_wp2_with fail
  refine (member_any _ _).mono ?_
  rintro e w' ⟨rfl, rfl⟩
  rw [HM.out]
  go_wp2_with fail
  refine (word_any _ _).mono ?_
  rintro e w' ⟨rfl, rfl⟩
  rw [HW.out]
  go_wp2_with fail
  refine (vcheck_any _ V _ HVV.out).mono ?_
  rintro e w' ⟨rfl, rfl⟩
  rw [HVZ.out, errV0]
  go_upto_region 7 with fail
  rw [← hb_b2, ← hw_w2]
  clear hb_b2 hw_w2
  clear x0 x1 x2 hca
  refine wp_region_tail 7 (by kernel_rfl) (by kernel_rfl) ?_
  simp only [List.take_succ_cons, List.take_zero, List.drop_succ_cons, List.drop_zero]
  repeat still_step
  refine wpStill_nil ?_
  go_upto_region 11 with fail
  refine wp_region_tail 10 (by kernel_rfl) (by kernel_rfl) ?_
  simp only [List.take_succ_cons, List.take_zero, List.drop_succ_cons, List.drop_zero]
  repeat still_step
  refine wpStill_nil ?_
  go_wp2_with fail
  refine (saidHas_none _ _).mono ?_
  rintro e w' ⟨rfl, rfl⟩
  have HO4 := Lib.hid HO3.out.drop.drop.drew.drew
  go_wp2
  go_ret
  exact ⟨rfl, HO4.out⟩
theorem Own.lit1 {w0 w : World} {b : Nat} {x : Int} {R : HProp} (h : Own w0 (blk b (.cells #[.int .i64 x] 3 (0, 0)) * R) w) : Own w0 (IntSl (.slice (some ⟨b, 0, none⟩) 1 1) [x] * R) w := by
  unfold IntSl
  exact Own.sl_mk (Nat.le_refl _) (by unfold maxLen; omega) (by simp) (by simp) (fun i hi => by simp) h
set_option maxRecDepth 100000 in
set_option maxHeartbeats 4000000 in
theorem causeTake_alone {w0 w : World} {R : HProp} (p mb q : Nat) (hq : q < 5) (me : Int) (hme : (q : Int) ≠ me) (clk : List Int) (h5 : clk.length = 5) (word : Int) (hw : isWord word = true) (vv : Value) (V : List Int) (hV : vecErr V = 0) (hh : ∀ i, i < 5 → if i = q then V.getD i 0 = clk.getD i 0 + 1 else V.getD i 0 ≤ clk.getD i 0) (hb : ∀ i, i < 5 → 0 ≤ clk.getD i 0 ∧ clk.getD i 0 < 1000000) (hv : Reads w0 R vv V) (h : Own w0 (CaP p mb me clk * R) w) :
    Calls Tryz.prog 29 #[.pointer (some ⟨p, 0, none⟩), .agg #[.int .i64 q, .int .i64 word, vv]] w fun e w' => ∃ b, e = .returned (.tuple #[.slice (some ⟨b, 0, none⟩) 1 1, errV 0]) ∧ Own w0 (IntSl (.slice (some ⟨b, 0, none⟩) 1 1) [word] * (CaP p mb me (clk.set q (clk.getD q 0 + 1)) * R)) w' := by
  have V5 := (vecErr0 hV).1
  obtain ⟨vad, vcap, rfl, hvc1, hvc2⟩ := (hv _ h.drop).shape
  rw [V5] at hvc1 hv ⊢
  obtain ⟨y, hy⟩ : ∃ y, y = clk.getD q 0 := ⟨_, rfl⟩
  rw [← hy]
  obtain ⟨D, hD⟩ : ∃ D, D = clk.set q (y + 1) := ⟨_, rfl⟩
  rw [← hD]
  have hD5 : D.length = 5 := by rw [hD]; simp [h5]
  have HY := Lib.hid hy; have HD := Lib.hid hD; have HD5 := Lib.hid hD5
  clear hy hD hD5
  obtain ⟨b1, hb_b1⟩ : ∃ zz_, zz_ = (w).heap.size := ⟨_, rfl⟩
  obtain ⟨w1, hw_w1⟩ : ∃ zz_, zz_ = (w).alloc (.cells #[.int .i64 q, .int .i64 word, .slice vad 5 vcap] 51 (0, 0)) := ⟨_, rfl⟩
  have h_HO := (h).alloc (.cells #[.int .i64 q, .int .i64 word, .slice vad 5 vcap] 51 (0, 0))
  rw [← hb_b1, ← hw_w1] at h_HO
  have HO := Lib.hid h_HO
  clear h_HO
  have HO1 : Hid (Own w0 (CaP p mb me clk * (SdO b1 q word (.slice vad 5 vcap) * R)) w1) := Lib.hid (HO.out.perm (star_left_comm _ _ _))
  obtain ⟨x0, x1, x2, _⟩ := (show Own w0 (SdO b1 q word (.slice vad 5 vcap) * (CaP p mb me clk * R)) w1 from HO.out).sd
  clear HO
  have HVZ := Lib.hid hV
  clear hV
  have H := Lib.hid h; have HV := Lib.hid hv; have H5 := Lib.hid h5; have HW := Lib.hid hw; have HH := Lib.hid hh; have HB := Lib.hid hb
  clear h hv h5 hw hh hb
  go_enter Tryz.func29, Tryz.ntmps29
  go_upto_region 1 with fail
  rw [← hb_b1, ← hw_w1]
  clear hb_b1 hw_w1
  go_wp2_with fail
  have hhq := HH.out q hq
  rw [if_pos rfl] at hhq
  refine (causeCheck_ok p mb q hq me hme clk H5.out word HW.out _ V HVZ.out (by omega) (HB.out q hq).1 HV.out.more HO1.out).mono ?_
  rintro e w2 ⟨rfl, ho⟩
  rw [errV0]
  have HO2 := Lib.hid ho
  obtain ⟨y0, y1, y2, yf⟩ := (ho.perm (star_left_comm _ _ _)).sd
  clear ho x0 x1 x2 hhq HO1
  go_wp2_with fail
  refine (cloneInts_any HO2.out _ V (HV.out _ HO2.out.drop.drop) (by omega)).mono ?_
  rintro e w3 ⟨v3, rfl, ho⟩
  obtain ⟨ad3, cap3, hv3, _⟩ := Own.rd ho
  subst hv3
  have ho1 := (ho.perm (show _ = SdO b1 q word (.slice vad 5 vcap) * (CaP p mb me clk * (IntSl (.slice ad3 V.length cap3) V * R)) by ac_rfl))
  obtain ⟨_, _, z2, z3⟩ := ho1.sd
  have z32 := z3 2 none
  have ho2 := ho1.sd_put2 (.slice ad3 V.length cap3)
  rw [V5] at ho2
  obtain ⟨w4, hw4⟩ : ∃ w4, w4 = w3.setCell ⟨b1, 2, none⟩ (.slice ad3 5 cap3) := ⟨_, rfl⟩
  rw [← hw4] at ho2
  obtain ⟨x0, x1, x2, _⟩ := ho2.sd
  have HO3 := Lib.hid (ho2.perm (star_left_comm _ _ _))
  rw [V5]
  clear ho ho1 ho2 y0 y1 y2 yf z3 HO2
  go_upto_region 5 with fail
  rw [← hw4]
  clear hw4 z2 z32
  go_wp2_with fail
  refine (causeReady_yes p mb q hq me clk H5.out word _ V V5 HH.out HB.out (IntSl_reads (vecErr_I64 HVZ.out)).more HO3.out).mono ?_
  rintro e w5 ⟨rfl, ho⟩
  obtain ⟨c0, c1, c2, hc, hf, hs⟩ := ho.ca H5.out
  have d0 := hc q hq
  have f0 := hf q none
  have s0 := hs q (clk.getD q 0 + 1) hq
  obtain ⟨b0, b0'⟩ := HB.out q hq
  rw [← HY.out] at d0 s0 b0 b0'
  rw [← HD.out] at s0
  obtain ⟨w6, hw6⟩ : ∃ w6, w6 = w5.setCell ⟨mb, q, none⟩ (.int .i64 (y + 1)) := ⟨_, rfl⟩
  rw [← hw6] at s0
  have HO6 := Lib.hid s0
  obtain ⟨z0, z1, z2, _⟩ := (ho.perm (star_left_comm _ _ _)).sd
  have q0 : (0 : Int) ≤ (q : Int) := Int.natCast_nonneg q
  have q5 : (q : Int) < 5 := by omega
  clear ho hc hf hs s0 x0 x1 x2 HO3
  go_upto_region 8 with fail
  refine wp_region_tail 9 (by kernel_rfl) (by kernel_rfl) ?_
  simp only [List.take_succ_cons, List.take_zero, List.drop_succ_cons, List.drop_zero]
  repeat still_step
  refine wpStill_nil ?_
  obtain ⟨x0, x1, x2, _⟩ := (HO6.out.perm (star_left_comm _ _ _)).sd
  obtain ⟨b7, hb_b7⟩ : ∃ zz_, zz_ = (w6).heap.size := ⟨_, rfl⟩
  obtain ⟨w7, hw_w7⟩ : ∃ zz_, zz_ = (w6).alloc (.cells #[.int .i64 word] 3 (0, 0)) := ⟨_, rfl⟩
  have h_HO7 := (HO6.out).alloc (.cells #[.int .i64 word] 3 (0, 0))
  rw [← hb_b7, ← hw_w7] at h_HO7
  have HO7 := Lib.hid h_HO7
  clear h_HO7
  obtain ⟨g0, g1, g2, _, _, _⟩ := HO7.out.perm (star_left_comm _ _ _) |>.ca HD5.out
  go_upto_region 9 with fail
  rw [← hw6]
  clear hw6 d0 f0 c0 c1 c2 z0 z1 z2
  go_upto_block 0 with fail
  rw [← hb_b7, ← hw_w7]
  clear hb_b7 hw_w7
  go_wp2_with fail
  go_loopw [7] (fun ov wr => ov = .slice (some ⟨b7, 0, none⟩) 1 1 ∧ wr = w7.drew) (fun _ _ => 0)
  case atStart => exact ⟨rfl, rfl⟩
  case round =>
    obtain ⟨rfl, rfl⟩ := hrel
    go_wp2_with fail
    refine (saidIx_none _ _).mono ?_
    rintro e w' ⟨rfl, rfl⟩
    go_wp2
    go_ret2
    exact ⟨b7, rfl, (HO7.out.drew.lit1.perm (show _ = SdO b1 q word (.slice ad3 5 cap3) * (IntSl (.slice ad3 5 cap3) V * (IntSl (.slice (some ⟨b7, 0, none⟩) 1 1) [word] * (CaP p mb me D * R))) by ac_rfl)).drop.drop⟩
end Go.Proofs.YtpafhfnimncklaaGreatDoor
/- Parts of what is owned brought to the front; a literal of ints. -/
namespace Go.Proofs.YtpafhfnimncklaaGreatDoor
set_option linter.unusedVariables false
set_option linter.unusedSimpArgs false
open Go.RowKit
section
variable {w0 w : World} {A B C D E F G H R : HProp}
theorem Own.second (h : Own w0 (A * (B * R)) w) : Own w0 (B * (A * R)) w := h.perm (by ac_rfl)
theorem Own.third (h : Own w0 (A * (B * (C * R))) w) : Own w0 (C * (A * (B * R))) w := h.perm (by ac_rfl)
theorem Own.fourth (h : Own w0 (A * (B * (C * (D * R)))) w) : Own w0 (D * (A * (B * (C * R)))) w := h.perm (by ac_rfl)
theorem Own.fifth (h : Own w0 (A * (B * (C * (D * (E * R))))) w) : Own w0 (E * (A * (B * (C * (D * R))))) w := h.perm (by ac_rfl)
theorem Own.sixth (h : Own w0 (A * (B * (C * (D * (E * (F * R)))))) w) : Own w0 (F * (A * (B * (C * (D * (E * R))))) ) w := h.perm (by ac_rfl)
theorem Own.seventh (h : Own w0 (A * (B * (C * (D * (E * (F * (G * R))))))) w) : Own w0 (G * (A * (B * (C * (D * (E * (F * R)))))) ) w := h.perm (by ac_rfl)
/-- The front put back to the third, fourth, .. place. -/
theorem Own.to3 (h : Own w0 (A * (B * (C * R))) w) : Own w0 (B * (C * (A * R))) w := h.perm (by ac_rfl)
theorem Own.to4 (h : Own w0 (A * (B * (C * (D * R)))) w) : Own w0 (B * (C * (D * (A * R)))) w := h.perm (by ac_rfl)
theorem Own.to5 (h : Own w0 (A * (B * (C * (D * (E * R))))) w) : Own w0 (B * (C * (D * (E * (A * R))))) w := h.perm (by ac_rfl)
theorem Own.to6 (h : Own w0 (A * (B * (C * (D * (E * (F * R)))))) w) : Own w0 (B * (C * (D * (E * (F * (A * R)))))) w := h.perm (by ac_rfl)
end
theorem Own.only {w0 w : World} {P R : HProp} (h : Own w0 (P * R) w) : Own w0 (P * emp) w := by rw [star_emp]; exact h.drop2
theorem Own.litI {w0 w : World} {b : Nat} {R : HProp} (l : List Int) (k : Nat) (hk : l.length = k) (hm : k ≤ 1000) (h : Own w0 (blk b (.cells (l.map (Value.int .i64)).toArray 3 (0, 0)) * R) w) : Own w0 (IntSl (.slice (some ⟨b, 0, none⟩) k k) l * R) w := by
  unfold IntSl
  subst hk
  exact Own.sl_mk (Nat.le_refl _) (by unfold maxLen; omega) (by simp) (by simp) (fun i hi => by simp) h
end Go.Proofs.YtpafhfnimncklaaGreatDoor
