/- Causal order, plainly: a group keeps it, whatever is done; where nothing was dropped each word is heard, waits, or is on its way. -/
import Derived.Test.YtdfjbnfdknpahaaGreatDoorMRunCausal13
namespace Go.Proofs.YtdfjbnfdknpahaaGreatDoor
set_option linter.unusedVariables false
set_option linter.unusedSimpArgs false
open Go.RowKit Go.Maps
theorem CI.congr {n S c c' h} (I : CI n S c h) (hc : ∀ k, Rg n k → c' k = c k) : CI n S c' h := by
  refine ⟨I.n5, I.nd, I.sd, fun k hk => by rw [hc k hk]; exact I.len k hk, fun w s k hs hk => by rw [hc k hk]; exact I.A w s k hs hk, I.B, fun k j hk hj => by rw [hc k hk, hc j hj]; exact I.C1 k j hk hj, fun w s j hs hj => by rw [hc j hj]; exact I.C2 w s j hs hj, I.D, fun k i x hk hi h1 h2 => ?_, I.F, I.H, I.I, I.R, I.P, fun k i hk hi => by rw [hc k hk]; exact I.Z1 k i hk hi, I.Z2⟩
  rw [hc k hk] at h2
  exact I.E k i x hk hi h1 h2
theorem upd_upd (c : Int → List Int) (k : Int) (x y : List Int) : upd (upd c k x) k y = upd c k y := by
  funext i
  unfold upd
  by_cases e : i = k
  · rw [if_pos e, if_pos e]
  · rw [if_neg e, if_neg e, if_neg e]
theorem upd_self (c : Int → List Int) (k : Int) : upd c k (c k) = c := by
  funext i
  unfold upd
  by_cases e : i = k
  · rw [if_pos e, e]
  · rw [if_neg e]
theorem CI.run {n : Nat} {S : List (Int × Sd)} {k : Int} (hk : Rg n k) : ∀ (m : Nat) (c : Int → List Int) (h : List Ev) (ws : List Sd), CI n S c h → (∀ x ∈ ws, mget S x.word = some x ∧ x.who ≠ k) →
    CI n S (upd c k (caHear m (c k) ws).1) (h ++ (caHear m (c k) ws).2.2.map fun x => (k, 3, x))
  | 0, c, h, ws, I, _ => by
    unfold caHear
    rw [upd_self]
    simpa using I
  | m + 1, c, h, ws, I, hw => by
    unfold caHear
    by_cases hc : ((whereI (caReady (c k)) ws).toNat < ws.length ∧ 0 ≤ whereI (caReady (c k)) ws)
    · rw [dif_pos hc]
      simp only
      obtain ⟨b1, b2⟩ := hw _ (List.getElem_mem hc.1)
      have hr : caReady (c k) ws[(whereI (caReady (c k)) ws).toNat] = true := by
        rcases whereI_cases (caReady (c k)) ws with ⟨h1, _⟩ | ⟨j, hj, h1, h2, _⟩
        · omega
        · have : (whereI (caReady (c k)) ws).toNat = j := by omega
          simp only [this]; exact h2
      have I1 := I.hear hk b1 b2 hr
      have I2 := CI.run hk m _ _ (ws.eraseIdx (whereI (caReady (c k)) ws).toNat) I1 (fun s hs => hw s (List.mem_of_mem_eraseIdx hs))
      rw [upd_upd, upd_same, List.append_assoc] at I2
      exact I2
    · rw [dif_neg hc, upd_self]
      simpa using I
theorem caHear_none : ∀ (m : Nat) (clk : List Int) (ws : List Sd), ws.length ≤ m → ∀ x ∈ (caHear m clk ws).2.1, caReady (caHear m clk ws).1 x = false
  | 0, clk, ws, hl, x, hx => by
    have : ws = [] := List.length_eq_zero_iff.1 (by omega)
    subst this
    cases hx
  | m + 1, clk, ws, hl, x, hx => by
    unfold caHear at hx ⊢
    by_cases hc : ((whereI (caReady clk) ws).toNat < ws.length ∧ 0 ≤ whereI (caReady clk) ws)
    · rw [dif_pos hc] at hx ⊢
      refine caHear_none m _ _ ?_ x hx
      rw [List.length_eraseIdx_of_lt hc.1]; omega
    · rw [dif_neg hc] at hx ⊢
      rcases whereI_cases (caReady clk) ws with ⟨_, h2⟩ | ⟨j, hj, h1, h2, _⟩
      · exact h2 x hx
      · exact absurd ⟨by omega, by omega⟩ hc
theorem caHear_kept : ∀ (m : Nat) (clk : List Int) (ws : List Sd), ∀ x ∈ ws, x ∈ (caHear m clk ws).2.1 ∨ x.word ∈ (caHear m clk ws).2.2
  | 0, clk, ws, x, hx => .inl hx
  | m + 1, clk, ws, x, hx => by
    unfold caHear
    by_cases hc : ((whereI (caReady clk) ws).toNat < ws.length ∧ 0 ≤ whereI (caReady clk) ws)
    · rw [dif_pos hc]
      simp only
      by_cases e : x ∈ ws.eraseIdx (whereI (caReady clk) ws).toNat
      · exact (caHear_kept m _ _ x e).imp id (fun h => List.mem_cons_of_mem _ h)
      · right
        obtain ⟨j, hj, rfl⟩ := List.getElem_of_mem hx
        have : (whereI (caReady clk) ws).toNat = j := by
          apply Decidable.byContradiction
          intro hne
          apply e
          rw [List.mem_eraseIdx_iff_getElem]
          exact ⟨j, hj, fun hh => hne hh.symm, rfl⟩
        simp only [this]
        exact List.mem_cons_self ..
    · rw [dif_neg hc]; exact .inl hx
def clkF (c : Cs) : Int → List Int := fun k => (csMem c k).clk
structure CZ (c : Cs) : Prop where
  i : CsI c
  ci : CI c.mem.length c.said (clkF c) c.hist
  W : ∀ k (hk : k < c.mem.length), ∀ x ∈ c.mem[k].waits, caReady c.mem[k].clk x = false
  L : c.said.length * c.mem.length ≤ 60
theorem clkF_at {c : Cs} {k : Nat} (hk : k < c.mem.length) : clkF c (k : Int) = c.mem[k].clk := by unfold clkF; rw [csMem_at hk]
theorem CZ.new {n : Nat} (h2 : 2 ≤ n) (h5 : n ≤ 5) : CZ (csNew n) := by
  have hl : (csNew n).mem.length = n := by simp [csNew]
  refine ⟨CsI.new h2 h5, ?_, fun k hk x hx => ?_, by simp [csNew]⟩
  · rw [hl]
    refine (CI.new h5).congr fun k hk => ?_
    obtain ⟨j, rfl⟩ : ∃ j : Nat, k = (j : Int) := ⟨k.toNat, by have := hk.1; omega⟩
    rw [clkF_at (by rw [hl]; have := hk.2; omega)]
    simp [csNew, caNew]
  · have : (csNew n).mem[k].waits = [] := by simp [csNew, caNew]
    rw [this] at hx; cases hx
theorem CZ.drop {c : Cs} (h : CZ c) (i : Int) : CZ (csDrop c i) := ⟨h.i.drop i, h.ci, h.W, h.L⟩
theorem CZ.twice {c : Cs} (h : CZ c) (i : Int) : CZ (csTwice c i) := ⟨h.i.twice i, h.ci, h.W, h.L⟩
theorem clkF_set {c : Cs} {mem : List Ca} {k : Nat} {m : Ca} {nt said hist} (hm : mem = c.mem.set k m) (j : Int) (hj : Rg c.mem.length j) : clkF ⟨mem, nt, said, hist⟩ j = upd (clkF c) (k : Int) m.clk j := by
  obtain ⟨i, rfl⟩ : ∃ i : Nat, j = (i : Int) := ⟨j.toNat, by have := hj.1; omega⟩
  have hi : i < c.mem.length := by have := hj.2; omega
  subst hm
  rw [clkF_at (by simpa using hi)]
  simp only
  rw [List.getElem_set]
  by_cases e : k = i
  · subst e; rw [if_pos rfl, upd_same]
  · rw [if_neg e, upd_ne _ _ (by omega), clkF_at hi]
theorem CZ.say {c : Cs} (h : CZ c) (who word : Int) : CZ (csSay c who word) := by
  have hI := h.i.say who word
  unfold csSay at hI ⊢
  by_cases he : csSayErr c who word = 0
  rotate_left
  · rw [if_neg he]; exact h
  rw [if_pos he] at hI ⊢
  obtain ⟨⟨a1, a2⟩, hw, hno, hl1, hl2⟩ := csSayErr0 he
  obtain ⟨k, rfl⟩ : ∃ k : Nat, who = (k : Int) := ⟨who.toNat, by omega⟩
  have hk : k < c.mem.length := by omega
  have hm := h.i.mem k hk
  have hs0 := h.i.caSay0 hk hw
  rw [csMem_at hk, Int.toNat_natCast] at hI ⊢
  have hsd : caSaid c.mem[k] word = ⟨(k : Int), word, caBump (clkF c k) k⟩ := by unfold caSaid; rw [if_pos hs0, clkF_at hk, hm.me]
  have hcs : caSay c.mem[k] word = ⟨c.mem[k].me, caBump (clkF c k) k, c.mem[k].waits⟩ := by unfold caSay; rw [if_pos hs0, clkF_at hk, hm.me]
  have hput : mput c.said word (caSaid c.mem[k] word) = c.said ++ [(word, caSaid c.mem[k] word)] := mput_new (mget_none.1 hno)
  have hpos := (vec_get hm.ok.clk k).1
  have I1 := h.ci.say (k := (k : Int)) (w := word) ⟨by omega, by omega⟩ hno hw (by rw [clkF_at hk]; unfold caAt; rw [Int.toNat_natCast]; exact hpos)
  refine ⟨hI, ?_, fun j hj x hx => ?_, ?_⟩
  · simp only [List.length_set]
    rw [hput, hsd]
    refine I1.congr fun j hj => ?_
    rw [clkF_set rfl j hj, hcs]
  · have hj' : j < c.mem.length := by simpa using hj
    simp only at hx ⊢
    rw [List.getElem_set] at hx ⊢
    by_cases e : k = j
    · subst e
      rw [if_pos rfl, hcs] at hx ⊢
      simp only at hx ⊢
      have h0 := h.W k hk x hx
      have hg := hm.waits x hx
      have hoth := hm.other x hx
      rw [hm.me] at hoth
      rw [← clkF_at hk] at h0
      rw [← h0]
      have hC2 := h.ci.C2 _ x (k : Int) hg ⟨by omega, by omega⟩
      have hw0 := (h.ci.sd _ _ hg).1
      have hl := h.ci.len (k : Int) ⟨by omega, by omega⟩
      have n5 := h.ci.n5
      have key : ∀ i, i < 5 → caOk1 (caBump (clkF c k) k) x i = caOk1 (clkF c k) x i := fun i hi => by
        unfold caOk1
        by_cases ek : i = k
        · subst ek
          rw [if_neg (fun e => hoth e.symm), if_neg (fun e => hoth e.symm)]
          have e1 := caAt_bump (clk := clkF c i) (i := (i : Int)) hl (by omega)
          unfold caAt at e1 hC2
          rw [Int.toNat_natCast] at e1 hC2
          rw [e1, decide_eq_true (by omega), decide_eq_true (by omega)]
        · have e1 := caBump_other (clk := clkF c k) (i := (k : Int)) (j := (i : Int)) (by omega) (by omega) (by omega)
          unfold caAt at e1
          rw [Int.toNat_natCast] at e1
          rw [e1]
      unfold caReady
      rw [Bool.eq_iff_iff, List.all_eq_true, List.all_eq_true]
      constructor
      · intro hh i hi; rw [← key i (List.mem_range.1 hi)]; exact hh i hi
      · intro hh i hi; rw [key i (List.mem_range.1 hi)]; exact hh i hi
    · rw [if_neg e] at hx ⊢
      exact h.W j hj' x hx
  · simp only [List.length_set]
    rw [hput, List.length_append, List.length_singleton]
    exact hl2
theorem CZ.give {c : Cs} (h : CZ c) (i : Int) : CZ (csGive c i) := by
  have hI := h.i.give i
  unfold csGive at hI ⊢
  by_cases he : csGiveErr c i = 0
  rotate_left
  · rw [if_neg he]; exact h
  rw [if_pos he] at hI ⊢
  obtain ⟨k, hk, e1, e2, e3, e4⟩ := h.i.given he
  rw [e1, e2, Int.toNat_natCast] at hI ⊢
  obtain ⟨s, hs⟩ : ∃ s, s = csGs c i := ⟨_, rfl⟩
  rw [← hs] at e3 e4 hI ⊢
  have hm := h.i.mem k hk
  have hkr : Rg c.mem.length (k : Int) := ⟨by omega, by omega⟩
  have hsw := (h.ci.sd _ _ e3).2.2.1
  have hCI : CI c.mem.length c.said (upd (clkF c) (k : Int) (caTake c.mem[k] s).clk) (c.hist ++ (caOut c.mem[k] s).map fun x => ((k : Int), 3, x)) ∧ ∀ x ∈ (caTake c.mem[k] s).waits, caReady (caTake c.mem[k] s).clk x = false := by
    unfold caTake caOut
    by_cases hz : caErr c.mem[k] s = 0
    rotate_left
    · rw [if_neg hz, if_neg hz, ← clkF_at hk, upd_self]
      exact ⟨by simpa using h.ci, by rw [clkF_at hk]; exact h.W k hk⟩
    rw [if_pos hz, if_pos hz]
    cases hr : caReady c.mem[k].clk s
    · simp only [Bool.false_eq_true, if_false]
      rw [← clkF_at hk, upd_self]
      refine ⟨by simpa using h.ci, fun x hx => ?_⟩
      rw [clkF_at hk]
      rcases List.mem_append.1 hx with hx | hx
      · exact h.W k hk x hx
      · rw [List.mem_singleton.1 hx]; exact hr
    · simp only [if_true]
      rw [← clkF_at hk] at hr
      have I1 := h.ci.hear hkr e3 e4 hr
      have I2 := CI.run hkr c.mem[k].waits.length _ _ c.mem[k].waits I1 (fun x hx => ⟨hm.waits x hx, by rw [← hm.me]; exact hm.other x hx⟩)
      rw [upd_upd, upd_same, List.append_assoc, clkF_at hk] at I2
      unfold caRun
      refine ⟨?_, fun x hx => caHear_none _ _ _ (Nat.le_refl _) x hx⟩
      rw [hsw]
      exact I2
  refine ⟨hI, ?_, fun j hj x hx => ?_, ?_⟩
  · simp only [List.length_set]
    refine hCI.1.congr fun j hj => ?_
    rw [clkF_set rfl j hj]
  · have hj' : j < c.mem.length := by simpa using hj
    simp only at hx ⊢
    rw [List.getElem_set] at hx ⊢
    by_cases e : k = j
    · subst e
      rw [if_pos rfl] at hx ⊢
      exact hCI.2 x hx
    · rw [if_neg e] at hx ⊢
      exact h.W j hj' x hx
  · simp only [List.length_set]; exact h.L
/-- Where nothing was dropped: each word is at each other one: heard, waiting, or on its way. -/
def ND (c : Cs) : Prop := ∀ w s, mget c.said w = some s → ∀ k (hk : k < c.mem.length), (k : Int) ≠ s.who → wk c.hist k w ∨ s ∈ c.mem[k].waits ∨ (s.who, (k : Int), w) ∈ c.net.all
theorem ND.new (n : Nat) : ND (csNew n) := fun w s h => by cases h
theorem wk_app {h l : List Ev} {k w : Int} (hw : wk h k w) : wk (h ++ l) k w := by
  obtain ⟨e, he, h1, h2⟩ := hw
  exact ⟨e, List.mem_append_left _ he, h1, h2⟩
theorem ND.twice {c : Cs} (h : ND c) (i : Int) : ND (csTwice c i) := fun w s hs k hk hne => by
  rcases h w s hs k hk hne with h1 | h1 | h1
  · exact .inl h1
  · exact .inr (.inl h1)
  · refine .inr (.inr ?_)
    show _ ∈ (ntTwice c.net i).all
    unfold ntTwice ntSend
    split
    · split
      · exact List.mem_append_left _ h1
      · exact h1
    · exact h1
theorem ND.say {c : Cs} (hz : CZ c) (h : ND c) (who word : Int) : ND (csSay c who word) := by
  unfold csSay
  by_cases he : csSayErr c who word = 0
  rotate_left
  · rw [if_neg he]; exact h
  rw [if_pos he]
  obtain ⟨⟨a1, a2⟩, hw, hno, hl1, hl2⟩ := csSayErr0 he
  obtain ⟨j, rfl⟩ : ∃ j : Nat, who = (j : Int) := ⟨who.toNat, by omega⟩
  have hj : j < c.mem.length := by omega
  have hs0 := hz.i.caSay0 hj hw
  intro w s hs k hk hne
  have hk' : k < c.mem.length := by simpa using hk
  simp only at hs ⊢
  rw [mget_mput] at hs
  by_cases e : word = w
  · rw [if_pos e] at hs
    injection hs with hs
    have hsw : s.who = (j : Int) := by
      rw [← hs, csMem_at hj]; unfold caSaid; rw [if_pos hs0]; exact (hz.i.mem j hj).me
    refine .inr (.inr (List.mem_append_right _ ?_))
    rw [hsw] at hne ⊢
    unfold csPk
    rw [e]
    exact List.mem_map.2 ⟨k, List.mem_filter.2 ⟨List.mem_range.2 hk', decide_eq_true hne⟩, rfl⟩
  · rw [if_neg e] at hs
    rcases h w s hs k hk' hne with h1 | h1 | h1
    · exact .inl (wk_app h1)
    · refine .inr (.inl ?_)
      rw [List.getElem_set]
      by_cases ek : j = k
      · subst ek
        rw [if_pos (Int.toNat_natCast j), csMem_at hj, (caSay_w _ _).1]
        exact h1
      · rw [if_neg (by rw [Int.toNat_natCast]; exact ek)]; exact h1
    · exact .inr (.inr (List.mem_append_left _ h1))
theorem caTake_kept {c : Ca} {s x : Sd} (hx : x ∈ c.waits) : x ∈ (caTake c s).waits ∨ x.word ∈ caOut c s := by
  unfold caTake caOut
  by_cases hz : caErr c s = 0
  rotate_left
  · rw [if_neg hz, if_neg hz]; exact .inl hx
  rw [if_pos hz, if_pos hz]
  cases hr : caReady c.clk s
  · exact .inl (List.mem_append_left _ hx)
  · exact (caHear_kept _ _ _ x hx).imp id (fun h => List.mem_cons_of_mem _ h)
theorem ND.give {c : Cs} (hz : CZ c) (h : ND c) (i : Int) : ND (csGive c i) := by
  unfold csGive
  by_cases he : csGiveErr c i = 0
  rotate_left
  · rw [if_neg he]; exact h
  rw [if_pos he]
  obtain ⟨k, hk, e1, e2, e3, e4⟩ := hz.i.given he
  rw [e1, e2, Int.toNat_natCast]
  obtain ⟨s, hs⟩ : ∃ s, s = csGs c i := ⟨_, rfl⟩
  rw [← hs] at e3 e4 ⊢
  have hkr : Rg c.mem.length (k : Int) := ⟨by omega, by omega⟩
  have hm := hz.i.mem k hk
  have out : ∀ x ∈ caOut c.mem[k] s, wk (c.hist ++ (caOut c.mem[k] s).map fun x => ((k : Int), 3, x)) k x := fun x hx => ⟨((k : Int), 3, x), List.mem_append_right _ (List.mem_map.2 ⟨x, hx, rfl⟩), rfl, rfl⟩
  have hgot : wk (c.hist ++ (caOut c.mem[k] s).map fun x => ((k : Int), 3, x)) k s.word ∨ s ∈ (caTake c.mem[k] s).waits := by
    by_cases hz0 : caErr c.mem[k] s = 0
    · have hT : s ∈ (caTake c.mem[k] s).waits ∨ s.word ∈ caOut c.mem[k] s := by
        unfold caTake caOut
        rw [if_pos hz0, if_pos hz0]
        cases hr : caReady c.mem[k].clk s
        · exact .inl (List.mem_append_right _ (by simp))
        · exact .inr (List.mem_cons_self ..)
      exact hT.elim .inr (fun hT => .inl (out _ hT))
    · have h7 := (hz.i.take hk e3 e4).1.resolve_left hz0
      obtain ⟨b1, b2, b3, b4, b5⟩ := hz.i.sd e3
      unfold caErr at h7
      rw [if_neg (by rw [b3]; simp), if_neg (by rw [hm.me]; exact e4), if_neg (by omega)] at h7
      by_cases h1 : caAt s.clk s.who ≤ caAt c.mem[k].clk s.who
      · left
        refine wk_app ?_
        have hg := hz.ci.A _ s (k : Int) e3 hkr
        rw [clkF_at hk] at hg
        rw [b2]
        exact hg.2 h1
      rw [if_neg h1] at h7
      cases h2 : c.mem[k].waits.any (caSame s)
      · rw [h2, if_neg (by simp)] at h7
        split at h7 <;> cases h7
      · right
        obtain ⟨x, hx, h3⟩ := List.any_eq_true.1 h2
        unfold caSame at h3
        simp only [Bool.and_eq_true, decide_eq_true_eq] at h3
        have hxs := hm.waits x hx
        have hwd := hz.ci.B _ _ x s hxs e3 h3.1 (by unfold nm; exact h3.2)
        rw [hwd, e3] at hxs
        injection hxs with hxs
        unfold caTake
        rw [if_neg hz0, hxs]
        exact hx
  intro w t ht j hj hne
  have hj' : j < c.mem.length := by simpa using hj
  simp only at ht ⊢
  rcases h w t ht j hj' hne with h1 | h1 | h1
  · exact .inl (wk_app h1)
  · rw [List.getElem_set]
    by_cases ek : k = j
    · subst ek
      rw [if_pos rfl]
      rcases caTake_kept (s := s) h1 with h2 | h2
      · exact .inr (.inl h2)
      · have := out _ h2
        rw [(hz.ci.sd _ _ ht).2.2.1] at this
        exact .inl this
    · rw [if_neg ek]; exact .inr (.inl h1)
  · by_cases hmem : (t.who, (j : Int), w) ∈ (ntOut c.net i).all
    · exact .inr (.inr hmem)
    · have heq : (t.who, (j : Int), w) = ntAt c.net i := by
        have hh : ntHas c.net i = true := by
          unfold csGiveErr ntGiveErr at he
          cases h1 : ntHas c.net i
          · rw [if_pos h1] at he; cases he
          · rfl
        unfold ntHas inR at hh
        simp only [Bool.and_eq_true, decide_eq_true_eq] at hh
        have hlt : i.toNat < c.net.all.length := by omega
        obtain ⟨p, hp, hpe⟩ := List.getElem_of_mem h1
        have : i.toNat = p := by
          apply Decidable.byContradiction
          intro hne'
          apply hmem
          show _ ∈ c.net.all.eraseIdx i.toNat
          rw [List.mem_eraseIdx_iff_getElem]
          exact ⟨p, hp, fun hh => hne' hh.symm, hpe⟩
        unfold ntAt
        rw [List.getD_eq_getElem?_getD, List.getElem?_eq_getElem hlt]
        subst this
        exact hpe.symm
      have hjk : (j : Int) = (k : Int) := by rw [← e1, ← heq]
      have hjk' : k = j := by omega
      subst hjk'
      have hw2 : (ntAt c.net i).2.2 = w := by rw [← heq]
      rw [hw2, ht] at e3
      injection e3 with e3
      subst e3
      rw [List.getElem_set, if_pos rfl]
      rcases hgot with h2 | h2
      · rw [(hz.ci.sd _ _ ht).2.2.1] at h2
        exact .inl h2
      · exact .inr (.inl h2)
end Go.Proofs.YtdfjbnfdknpahaaGreatDoor
/- Plain law of FacesNest: what is causal is fifo; with one hearing less at the end it is no worse; where only one speaks fifo is causal. -/
namespace Go.Proofs.YtdfjbnfdknpahaaGreatDoor
set_option linter.unusedVariables false
set_option linter.unusedSimpArgs false
open Go.RowKit
theorem bef_take {h : List Ev} {m : Nat} (hm : m ≤ h.length) : ∀ k, k < m → ∀ i, bef (h.take m) k i = bef h k i := by
  intro k
  induction k using Nat.strongRecOn with
  | _ k ih =>
    intro hk i
    have hl : (h.take m).length = m := by simp; omega
    rw [Bool.eq_iff_iff, bef_iff _ _ _ (by omega), bef_iff _ _ _ (by omega)]
    constructor
    · rintro ⟨j, h1, h2, h3⟩
      rw [evAt_take (by omega), evAt_take (by omega)] at h2
      rw [ih j h1 (by omega)] at h3
      exact ⟨j, h1, h2, h3⟩
    · rintro ⟨j, h1, h2, h3⟩
      refine ⟨j, h1, ?_, ?_⟩
      · rw [evAt_take (by omega), evAt_take (by omega)]; exact h2
      · rw [ih j h1 (by omega)]; exact h3
theorem heardL_split (h : List Ev) (m : Nat) (who : Int) : heardL h who = heardL (h.take m) who ++ heardL (h.drop m) who := by
  unfold heardL
  rw [← List.map_append, ← List.filter_append, List.take_append_drop]
theorem whereIs_eq (p : Int → Bool) : ∀ l : List Int, whereIs p l = whereI p l
  | [] => rfl
  | x :: r => by
    unfold whereIs whereI
    rw [whereIs_eq p r]
theorem idx_cases (l : List Int) (x : Int) : (idxI l x = -1 ∧ x ∉ l) ∨ ∃ (k : Nat) (hk : k < l.length), idxI l x = k ∧ l[k] = x ∧ ∀ j (h : j < k), l[j]'(by omega) ≠ x := by
  unfold idxI
  rw [whereIs_eq]
  rcases whereI_cases (fun n => decide (n = x)) l with ⟨h1, h2⟩ | ⟨k, hk, h1, h2, h3⟩
  · exact .inl ⟨h1, fun hx => by simpa using h2 x hx⟩
  · exact .inr ⟨k, hk, h1, by simpa using h2, fun j hj => by simpa using h3 j hj⟩
theorem idx_mk {l : List Int} {x : Int} {k : Nat} (hk : k < l.length) (h1 : l[k] = x) (h2 : ∀ j (h : j < k), l[j]'(by omega) ≠ x) : idxI l x = k := by
  unfold idxI
  rw [whereIs_eq]
  exact whereI_hit _ l k hk (fun j hj => by simpa using h2 j hj) (by simpa using h1)
theorem idx_app {l r : List Int} {x : Int} {k : Nat} (hk : k < l.length) (h : idxI (l ++ r) x = k) : idxI l x = k := by
  rcases idx_cases (l ++ r) x with ⟨h1, _⟩ | ⟨j, hj, h1, h2, h3⟩
  · omega
  · have : j = k := by omega
    subst this
    refine idx_mk hk ?_ (fun i hi => ?_)
    · rw [List.getElem_append_left hk] at h2; exact h2
    · have := h3 i hi
      rw [List.getElem_append_left (by omega)] at this; exact this
theorem idx_mem {l r : List Int} {x : Int} (hx : x ∈ l) : ∃ k : Nat, k < l.length ∧ idxI (l ++ r) x = k ∧ idxI l x = k := by
  rcases idx_cases l x with ⟨_, h2⟩ | ⟨k, hk, h1, h2, h3⟩
  · exact absurd hx h2
  · refine ⟨k, hk, idx_mk (by simp; omega) (by rw [List.getElem_append_left hk]; exact h2) (fun j hj => by rw [List.getElem_append_left (by omega)]; exact h3 j hj), h1⟩
theorem hasAhead_take {h : List Ev} {m : Nat} {f s who : Int} (hs : s ∈ heardL (h.take m) who) (ha : hasAhead h f s who = true) : hasAhead (h.take m) f s who = true := by
  unfold hasAhead at ha ⊢
  rw [heardL_split h m who] at ha
  simp only [Bool.and_eq_true, decide_eq_true_eq] at ha ⊢
  obtain ⟨k, hk, h1, h2⟩ := idx_mem (r := heardL (h.drop m) who) hs
  rw [h1] at ha
  obtain ⟨i, hi⟩ : ∃ i : Nat, idxI (heardL (h.take m) who ++ heardL (h.drop m) who) f = i := ⟨_, (Int.toNat_of_nonneg ha.1).symm⟩
  rw [hi] at ha
  have h3 := idx_app (by omega) hi
  rw [h2, h3]
  omega
theorem aheadB_take {h : List Ev} {m : Nat} {f s : Int} (ha : aheadB h f s = true) : aheadB (h.take m) f s = true := by
  unfold aheadB at ha ⊢
  rw [List.all_eq_true] at ha ⊢
  intro e he
  have h1 := ha e (List.mem_of_mem_take he)
  cases hb : hearsB s e
  · simp
  · rw [hb] at h1
    simp only [Bool.not_true, Bool.false_or] at h1 ⊢
    unfold hearsB at hb
    simp only [Bool.and_eq_true, decide_eq_true_eq] at hb
    refine hasAhead_take ?_ h1
    unfold heardL
    exact List.mem_map.2 ⟨e, List.mem_filter.2 ⟨he, by unfold heardB; simp [hb.1]⟩, hb.2⟩
theorem skipB_take {h : List Ev} {m k i : Nat} (hm : m ≤ h.length) (hk : k < m) (hi : i < k) (hs : skipB h k i = true) : skipB (h.take m) k i = true := by
  unfold skipB at hs ⊢
  rw [evAt_take hk, evAt_take (show i < m by omega), bef_take hm k hk]
  simp only [Bool.or_eq_true] at hs ⊢
  rcases hs with hs | hs | hs | hs
  · exact .inl hs
  · exact .inr (.inl hs)
  · exact .inr (.inr (.inl hs))
  · exact .inr (.inr (.inr (aheadB_take hs)))
theorem causal_take {h : List Ev} {m : Nat} (hm : m ≤ h.length) (hc : causalB h = true) : causalB (h.take m) = true := by
  unfold causalB at hc ⊢
  rw [upTo_iff] at hc ⊢
  intro k hk
  have hk' : k < m := by simp at hk; omega
  have h1 := hc k (by omega)
  rw [upTo_iff] at h1 ⊢
  exact fun i hi => skipB_take hm hk' hi (h1 i hi)
theorem fifo_take {h : List Ev} {m : Nat} (hm : m ≤ h.length) (hc : fifoB h = true) : fifoB (h.take m) = true := by
  unfold fifoB at hc ⊢
  rw [upTo_iff] at hc ⊢
  intro k hk
  have hk' : k < m := by simp at hk; omega
  have h1 := hc k (by omega)
  rw [upTo_iff] at h1 ⊢
  intro i hi
  have h2 := h1 i hi
  unfold fifoOk at h2 ⊢
  rw [evAt_take hk', evAt_take (show i < m by omega)]
  simp only [Bool.or_eq_true] at h2 ⊢
  rcases h2 with h2 | h2
  · exact .inl (skipB_take hm hk' hi h2)
  · exact .inr h2
theorem causal_fifo {h : List Ev} (hc : causalB h = true) : fifoB h = true := by
  unfold causalB at hc
  unfold fifoB
  rw [upTo_iff] at hc ⊢
  intro k hk
  have h1 := hc k hk
  rw [upTo_iff] at h1 ⊢
  exact fun i hi => by unfold fifoOk; rw [h1 i hi]; rfl
def aloneAt (h : List Ev) (i k : Nat) : Bool := !(decide ((evAt h i).2.1 = 2) && (decide ((evAt h k).2.1 = 2) && decide ((evAt h i).1 ≠ (evAt h k).1)))
def aloneB (h : List Ev) : Bool := upTo (fun i => upTo (aloneAt h i) i) h.length
theorem alone_fifo {h : List Ev} (ha : aloneB h = true) (hf : fifoB h = true) : causalB h = true := by
  unfold aloneB at ha
  unfold fifoB at hf
  unfold causalB
  rw [upTo_iff] at ha hf ⊢
  intro k hk
  have h1 := ha k hk
  have h2 := hf k hk
  rw [upTo_iff] at h1 h2 ⊢
  intro i hi
  have h3 := h1 i hi
  have h4 := h2 i hi
  unfold fifoOk at h4
  simp only [Bool.or_eq_true] at h4
  rcases h4 with h4 | h4
  · exact h4
  · unfold skipB
    unfold aloneAt at h3
    by_cases b1 : (evAt h k).2.1 = 2
    · by_cases b2 : (evAt h i).2.1 = 2
      · exfalso
        simp only [b1, b2, decide_true, Bool.true_and, Bool.not_eq_true', decide_eq_false_iff_not, ne_eq, Decidable.not_not] at h3
        simp only [decide_eq_true_eq] at h4
        exact h4 h3.symm
      · simp [b2]
    · simp [b1]
/-- A right history's beginning is right. -/
theorem RightH.front {h : List Ev} (hr : RightH h) (m : Nat) (hm : m ≤ h.length) : RightH (h.take m) := by
  refine ⟨by simp; have := hr.1; omega, fun k hk => ?_⟩
  have hk' : k < m := by simp at hk; omega
  have h1 := hr.2 k (by omega)
  rw [List.take_take, Nat.min_eq_left (by omega), List.getElem_take]
  exact h1
/-- Words are said once. -/
theorem RightH.once {h : List Ev} (hr : RightH h) {i j : Nat} (hi : i < h.length) (hj : j < h.length) (h1 : (evAt h i).2.1 = 2) (h2 : (evAt h j).2.1 = 2) (h3 : (evAt h i).2.2 = (evAt h j).2.2) : i = j := by
  have key : ∀ {i j : Nat}, i < j → j < h.length → (evAt h i).2.1 = 2 → (evAt h j).2.1 = 2 → (evAt h i).2.2 = (evAt h j).2.2 → False := by
    intro i j hij hj h1 h2 h3
    have he := hr.2 j hj
    rw [← evAt_get hj] at he
    have hs : 0 ≤ saidAt (h.take j) (evAt h j).2.2 := by
      unfold saidAt
      rw [whereI_any]
      refine List.any_eq_true.2 ⟨evAt h i, ?_, by unfold saysB; simp [h1, h3]⟩
      rw [← evAt_take hij, evAt_get (by simp; omega)]
      exact List.getElem_mem _
    unfold evErr at he
    split at he
    · cases he
    split at he
    · cases he
    rename_i h5
    exact h5 (.inl ⟨h2, hs⟩)
  rcases Nat.lt_trichotomy i j with h | h | h
  · exact (key h hj h1 h2 h3).elim
  · exact h
  · exact (key h hi h2 h1 h3.symm).elim
/-- Nobody has a word twice. -/
theorem RightH.fresh {h : List Ev} (hr : RightH h) {m : Nat} (hm : m < h.length) (hw : (evAt h m).2.1 ≠ 1) : (evAt h m).2.2 ∉ heardL (h.take m) (evAt h m).1 := by
  intro hin
  obtain ⟨e, he, hee⟩ := List.mem_map.1 hin
  obtain ⟨he1, he2⟩ := List.mem_filter.1 he
  obtain ⟨i, hi, rfl⟩ := List.getElem_of_mem he1
  have him : i < m := by simp at hi; omega
  rw [show (h.take m)[i] = evAt h i by rw [← evAt_take him, evAt_get hi]] at he2 hee
  unfold heardB at he2
  simp only [Bool.and_eq_true, decide_eq_true_eq, Bool.not_eq_true', decide_eq_false_iff_not] at he2
  have hright := hr.2 m hm
  rw [← evAt_get hm] at hright
  have hwhat := evErr0 hright
  have hwhi := evErr0 (show evErr (h.take i) (evAt h i) = 0 by have := hr.2 i (by omega); rw [← evAt_get (by omega)] at this; exact this)
  have hm2 : (evAt h m).2.1 = 2 ∨ (evAt h m).2.1 = 3 := by rcases rightB_what hwhat with h1 | h1 | h1; exact absurd h1 hw; exact .inl h1; exact .inr h1
  have hi2 : (evAt h i).2.1 = 2 ∨ (evAt h i).2.1 = 3 := by rcases rightB_what hwhi with h1 | h1 | h1; exact absurd h1 he2.2; exact .inl h1; exact .inr h1
  rcases hm2 with hm2 | hm2
  · -- said at m: nobody said it ahead, so nobody heard it
    rcases hi2 with hi2 | hi2
    · have := hr.once (by omega) hm hi2 hm2 hee; omega
    · obtain ⟨j, hj, _, h5, h6, _⟩ := hr.said (show i < h.length by omega) hi2
      have := hr.once (show j < h.length by omega) hm h5 hm2 (by rw [h6, hee])
      omega
  · obtain ⟨j, hj, _, h5, h6, h7, _, h8⟩ := hr.said hm hm2
    rcases hi2 with hi2 | hi2
    · have := hr.once (show i < h.length by omega) (show j < h.length by omega) hi2 h5 (by rw [hee, h6])
      subst this
      exact h7 he2.1
    · refine h8 ?_
      have : evAt h i = evAt h m := by
        refine Prod.ext he2.1 (Prod.ext ?_ hee)
        rw [hi2, hm2]
      rw [← this, ← evAt_take him, evAt_get hi]
      exact List.getElem_mem _
theorem filter_congr_mem {A : List Int} {p q : Int → Bool} (h : ∀ x ∈ A, p x = q x) : A.filter p = A.filter q := List.filter_congr h
/-- With the last word of one taken away two are still alike. -/
theorem alike_drop {A B : List Int} {w : Int} (hw : w ∉ A) (h : alikeB (A ++ [w]) B = true) : alikeB A B = true := by
  unfold alikeB at h ⊢
  rw [beq_iff_eq] at h ⊢
  unfold keepB at h ⊢
  by_cases hb : w ∈ B
  · rw [List.filter_append] at h
    have h1 : ([w].filter fun x => decide (x ∈ B)) = [w] := by simp [hb]
    rw [h1] at h
    have h2 := congrArg (List.filter fun x => decide (x ≠ w)) h
    rw [List.filter_append, List.filter_filter, List.filter_filter] at h2
    have h3 : ([w].filter fun x => decide (x ≠ w)) = [] := by simp
    rw [h3, List.append_nil] at h2
    rw [filter_congr_mem (A := A) (q := fun x => decide (x ∈ B)) (fun x hx => by
      have : x ≠ w := fun e => hw (e ▸ hx)
      simp [this])] at h2
    rw [h2]
    refine filter_congr_mem fun x _ => ?_
    by_cases e : x = w
    · subst e; simp [hw]
    · simp [e]
  · rw [List.filter_append] at h
    have h1 : ([w].filter fun x => decide (x ∈ B)) = [] := by simp [hb]
    rw [h1, List.append_nil] at h
    rw [h]
    refine filter_congr_mem fun x hx => ?_
    have : x ≠ w := fun e => hb (e ▸ hx)
    simp [this]
theorem alike_comm {A B : List Int} : alikeB A B = alikeB B A := by
  unfold alikeB
  rw [Bool.eq_iff_iff, beq_iff_eq, beq_iff_eq]
  exact ⟨fun h => h.symm, fun h => h.symm⟩
theorem total_take {h : List Ev} (hr : RightH h) {m : Nat} (hm : m + 1 = h.length) (ht : totalB h = true) : totalB (h.take m) = true := by
  unfold totalB at ht ⊢
  rw [upTo_iff] at ht ⊢
  intro a ha
  have h1 := ht a ha
  unfold totRow at h1 ⊢
  rw [upTo_iff] at h1 ⊢
  intro b hb
  have h2 := h1 b hb
  unfold alikeAt at h2 ⊢
  have hst := fun who => heardL_step h who m (by omega)
  have hall : h.take (m + 1) = h := List.take_of_length_le (by omega)
  rw [hall] at hst
  rw [hst, hst] at h2
  by_cases e1 : heardB (a : Int) (evAt h m) = true
  · have e2 : ¬ heardB (b : Int) (evAt h m) = true := by
      intro e2
      unfold heardB at e1 e2
      simp only [Bool.and_eq_true, decide_eq_true_eq] at e1 e2
      omega
    rw [if_pos e1, if_neg e2] at h2
    unfold heardB at e1
    simp only [Bool.and_eq_true, decide_eq_true_eq, Bool.not_eq_true', decide_eq_false_iff_not] at e1
    refine alike_drop ?_ h2
    rw [← e1.1]
    exact hr.fresh (by omega) e1.2
  · rw [if_neg e1] at h2
    by_cases e2 : heardB (b : Int) (evAt h m) = true
    · rw [if_pos e2, alike_comm] at h2
      unfold heardB at e2
      simp only [Bool.and_eq_true, decide_eq_true_eq, Bool.not_eq_true', decide_eq_false_iff_not] at e2
      rw [alike_comm]
      refine alike_drop ?_ h2
      rw [← e2.1]
      exact hr.fresh (by omega) e2.2
    · rw [if_neg e2] at h2; exact h2
end Go.Proofs.YtdfjbnfdknpahaaGreatDoor
