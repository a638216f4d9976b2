/- Causal order, plainly: a group of members with clocks, as words are said and heard one by one. -/
import Derived.Test.YtdfjbnfdknpahaaGreatDoorMRunAnswers6
import Derived.Test.YtdfjbnfdknpahaaGreatDoorMRunAnswers10
namespace Go.Proofs.YtdfjbnfdknpahaaGreatDoor
set_option linter.unusedVariables false
set_option linter.unusedSimpArgs false
open Go.RowKit Go.Maps
abbrev Rg (n : Nat) (k : Int) : Prop := 0 ≤ k ∧ k < (n : Int)
/-- A word's number. -/
def nm (s : Sd) : Int := caAt s.clk s.who
/-- A member's words. -/
def wk (h : List Ev) (k w : Int) : Prop := ∃ e ∈ h, e.1 = k ∧ e.2.2 = w
theorem wk_snoc {h : List Ev} {e : Ev} {k w : Int} : wk (h ++ [e]) k w ↔ wk h k w ∨ (e.1 = k ∧ e.2.2 = w) := by
  unfold wk
  constructor
  · rintro ⟨x, hx, h1, h2⟩
    rcases List.mem_append.1 hx with hx | hx
    · exact .inl ⟨x, hx, h1, h2⟩
    · rw [List.mem_singleton.1 hx] at h1 h2; exact .inr ⟨h1, h2⟩
  · rintro (⟨x, hx, h1, h2⟩ | ⟨h1, h2⟩)
    · exact ⟨x, List.mem_append_left _ hx, h1, h2⟩
    · exact ⟨e, by simp, h1, h2⟩
def upd (c : Int → List Int) (k : Int) (x : List Int) : Int → List Int := fun i => if i = k then x else c i
theorem upd_same (c : Int → List Int) (k : Int) (x : List Int) : upd c k x k = x := if_pos rfl
theorem upd_ne (c : Int → List Int) {k i : Int} (x : List Int) (h : i ≠ k) : upd c k x i = c i := if_neg h
structure CI (n : Nat) (S : List (Int × Sd)) (c : Int → List Int) (h : List Ev) : Prop where
  n5 : n ≤ 5
  nd : (S.map (·.1)).Nodup
  sd : ∀ w s, mget S w = some s → Rg n s.who ∧ 1 ≤ nm s ∧ s.word = w ∧ isWord w = true ∧ s.clk.length = 5
  len : ∀ k, Rg n k → (c k).length = 5
  A : ∀ w s k, mget S w = some s → Rg n k → (wk h k w ↔ nm s ≤ caAt (c k) s.who)
  B : ∀ w w' s s', mget S w = some s → mget S w' = some s' → s.who = s'.who → nm s = nm s' → w = w'
  C1 : ∀ k j, Rg n k → Rg n j → caAt (c k) j ≤ caAt (c j) j
  C2 : ∀ w s j, mget S w = some s → Rg n j → caAt s.clk j ≤ caAt (c j) j
  D : ∀ e ∈ h, ∃ s, mget S e.2.2 = some s ∧ Rg n e.1 ∧ (e.2.1 = 2 ∧ s.who = e.1 ∨ e.2.1 = 3 ∧ s.who ≠ e.1)
  E : ∀ k i x, Rg n k → Rg n i → 1 ≤ x → x ≤ caAt (c k) i → ∃ w s, mget S w = some s ∧ s.who = i ∧ nm s = x
  F : ∀ p (hp : p < S.length) i x, Rg n i → 1 ≤ x → x ≤ caAt (S[p].2.clk) i → (i = S[p].2.who ∧ x = nm S[p].2) ∨ ∃ q, ∃ hq : q < p, (S[q]'(by omega)).2.who = i ∧ nm (S[q]'(by omega)).2 = x
  H : ∀ q (hq : q < h.length) s a sa, mget S h[q].2.2 = some s → mget S a = some sa → a ≠ h[q].2.2 → nm sa ≤ caAt s.clk sa.who → wk (h.take q) h[q].1 a
  I : ∀ q (hq : q < h.length) s a sa, h[q].2.1 = 2 → mget S h[q].2.2 = some s → mget S a = some sa → wk (h.take (q + 1)) h[q].1 a → nm sa ≤ caAt s.clk sa.who
  R : ∀ k (hk : k < h.length), evErr (h.take k) h[k] = 0
  P : (h.map fun e => (e.1, e.2.2)).Nodup
  Z1 : ∀ k i, Rg n k → (n : Int) ≤ i → caAt (c k) i = 0
  Z2 : ∀ w s i, mget S w = some s → (n : Int) ≤ i → caAt s.clk i = 0
theorem caAt_bump {clk : List Int} {i : Int} (h5 : clk.length = 5) (hi : 0 ≤ i ∧ i < 5) : caAt (caBump clk i) i = caAt clk i + 1 := by
  unfold caAt caBump
  rw [List.getD_eq_getElem?_getD, List.getElem?_set_self (by omega)]; rfl
theorem caBump_len (clk : List Int) (i : Int) : (caBump clk i).length = clk.length := by unfold caBump; exact List.length_set ..
theorem saidAt_neg {h : List Ev} {w : Int} (hn : ∀ e ∈ h, e.2.2 ≠ w) : saidAt h w < 0 := by
  unfold saidAt
  rcases whereI_cases (saysB w) h with ⟨h1, _⟩ | ⟨k, hk, _, h2, _⟩
  · omega
  · have := hn _ (List.getElem_mem hk)
    unfold saysB at h2
    simp only [Bool.and_eq_true, decide_eq_true_eq] at h2
    exact absurd h2.2 this
theorem CI.known {n S c h} (I : CI n S c h) {k w : Int} (hw : wk h k w) : ∃ s, mget S w = some s := by
  obtain ⟨e, he, rfl, rfl⟩ := hw
  obtain ⟨s, hs, _⟩ := I.D e he
  exact ⟨s, hs⟩
theorem isMem_rg {n : Nat} {k : Int} (h5 : n ≤ 5) (h : Rg n k) : isMember k = true := by
  obtain ⟨h1, h2⟩ := h
  simp [isMember]; omega
/-- Who said a word has it said. -/
theorem CI.saidEv {n S c h} (I : CI n S c h) {w : Int} {s : Sd} (hs : mget S w = some s) : (s.who, 2, w) ∈ h := by
  have h1 := (I.sd w s hs).1
  have h2 := (I.A w s s.who hs h1).2 (I.C2 w s s.who hs h1)
  obtain ⟨e, he, e1, e2⟩ := h2
  obtain ⟨t, ht, _, h3⟩ := I.D e he
  rw [e2, hs] at ht
  injection ht with ht
  rcases h3 with ⟨h3, _⟩ | ⟨_, h4⟩
  · obtain ⟨x, y, z⟩ := e
    simp only at e1 e2 h3
    rw [← e1, ← e2, ← h3]; exact he
  · rw [← ht, e1] at h4; exact absurd rfl h4
theorem take_snoc {h : List Ev} {e : Ev} {q : Nat} (hq : q ≤ h.length) : (h ++ [e]).take q = h.take q := List.take_append_of_le_length hq
theorem snoc_cases {h : List Ev} {e : Ev} {q : Nat} (hq : q < (h ++ [e]).length) : (∃ h' : q < h.length, (h ++ [e])[q] = h[q]) ∨ (q = h.length ∧ (h ++ [e])[q] = e) := by
  rw [List.length_append, List.length_singleton] at hq
  by_cases hc : q < h.length
  · exact .inl ⟨hc, List.getElem_append_left hc⟩
  · have : q = h.length := by omega
    subst this
    exact .inr ⟨rfl, by simp⟩
theorem CI.hear {n S c h} (I : CI n S c h) {k w : Int} {s : Sd} (hk : Rg n k) (hs : mget S w = some s) (hne : s.who ≠ k) (hr : caReady (c k) s = true) :
    CI n S (upd c k (caBump (c k) s.who)) (h ++ [(k, 3, w)]) := by
  obtain ⟨hw1, hw2, hw3, hw4, hw5⟩ := I.sd w s hs
  have n5 := I.n5
  have hl := I.len k hk
  have hrd : ∀ i, Rg n i → i ≠ s.who → caAt s.clk i ≤ caAt (c k) i := fun i hi hne => by
    have := caReady_at hr (i := i.toNat) (by omega)
    unfold caOk1 at this
    rw [if_neg (by omega), decide_eq_true_iff] at this
    exact this
  have hrs : nm s = caAt (c k) s.who + 1 := by
    have := caReady_at hr (i := s.who.toNat) (by omega)
    unfold caOk1 at this
    rw [if_pos (by omega), decide_eq_true_iff] at this
    exact this
  have hbm : caAt (caBump (c k) s.who) s.who = nm s := by rw [caAt_bump hl (by omega), hrs]
  have hbo : ∀ i, 0 ≤ i → i ≠ s.who → caAt (caBump (c k) s.who) i = caAt (c k) i := fun i hi hne => caBump_other hw1.1 hi (fun e => hne e.symm)
  have hnk : ¬ wk h k w := fun hc => by
    have := (I.A w s k hs hk).1 hc
    omega
  have hnew : ∀ a, wk h k a → a ≠ w := fun a ha e => hnk (e ▸ ha)
  refine ⟨I.n5, I.nd, I.sd, fun j hj => ?_, fun a sa j ha hj => ?_, I.B, fun i j hi hj => ?_, fun a sa j ha hj => ?_, fun e he => ?_, fun j i x hj hi h1 h2 => ?_, I.F, fun q hq t a sa ht ha hne' hle => ?_, fun q hq t a sa h2 ht ha hwk => ?_, fun q hq => ?_, ?_, fun j i hj hi => ?_, I.Z2⟩
  · by_cases e : j = k
    · rw [e, upd_same, caBump_len]; exact hl
    · rw [upd_ne _ _ e]; exact I.len j hj
  · rw [wk_snoc]
    by_cases e : j = k
    · subst e
      rw [upd_same]
      by_cases ea : a = w
      · subst ea
        rw [hs] at ha
        injection ha with ha
        subst ha
        rw [hbm]
        exact ⟨fun _ => Int.le_refl _, fun _ => .inr ⟨rfl, rfl⟩⟩
      · have hA := I.A a sa j ha hk
        have e1 : (wk h j a ∨ (j = j ∧ w = a)) ↔ wk h j a := ⟨fun hh => hh.elim id fun ⟨_, h2⟩ => absurd h2.symm ea, .inl⟩
        rw [show ((j, 3, w) : Ev).1 = j from rfl, show ((j, 3, w) : Ev).2.2 = w from rfl, e1, hA]
        by_cases ew : sa.who = s.who
        · rw [ew, hbm]
          have hB : nm sa ≠ nm s := fun hh => ea (I.B a w sa s ha hs ew hh)
          omega
        · rw [hbo _ (I.sd a sa ha).1.1 ew]
    · rw [upd_ne _ _ e, ← I.A a sa j ha hj]
      exact ⟨fun hh => hh.elim id fun ⟨h1, _⟩ => absurd h1.symm e, .inl⟩
  · have h0 := I.C1 i j hi hj
    have hS := I.C2 w s s.who hs hw1
    have key : caAt (upd c k (caBump (c k) s.who) j) j = caAt (c j) j := by
      by_cases e : j = k
      · rw [e, upd_same, hbo k hk.1 (fun e => hne e.symm)]
      · rw [upd_ne _ _ e]
    rw [key]
    by_cases e : i = k
    · subst e
      rw [upd_same]
      by_cases ej : j = s.who
      · rw [ej, hbm]; exact hS
      · rw [hbo _ hj.1 ej]; exact h0
    · rw [upd_ne _ _ e]; exact h0
  · have h0 := I.C2 a sa j ha hj
    by_cases e : j = k
    · subst e
      rw [upd_same, hbo _ hj.1 (fun e => hne e.symm)]; exact h0
    · rw [upd_ne _ _ e]; exact h0
  · rcases List.mem_append.1 he with he | he
    · exact I.D e he
    · rw [List.mem_singleton.1 he]
      exact ⟨s, hs, hk, .inr ⟨rfl, hne⟩⟩
  · by_cases e : j = k
    · subst e
      rw [upd_same] at h2
      by_cases ei : i = s.who
      · subst ei
        rw [hbm] at h2
        by_cases ex : x = nm s
        · exact ⟨w, s, hs, rfl, ex.symm⟩
        · exact I.E j _ x hj hi h1 (by omega)
      · rw [hbo _ hi.1 ei] at h2
        exact I.E j i x hj hi h1 h2
    · rw [upd_ne _ _ e] at h2
      exact I.E j i x hj hi h1 h2
  · rcases snoc_cases hq with ⟨h', hg⟩ | ⟨h', hg⟩
    · rw [hg] at ht hne' ⊢
      rw [take_snoc (by omega)]
      exact I.H q h' t a sa ht ha hne' hle
    · rw [hg] at ht hne' ⊢
      rw [take_snoc (by omega), h', List.take_length]
      simp only at ht hne' ⊢
      rw [hs] at ht
      injection ht with ht
      subst ht
      rw [I.A a sa k ha hk]
      by_cases ew : sa.who = s.who
      · have hB : nm sa ≠ nm s := fun hh => hne' (I.B a w sa s ha hs ew hh)
        rw [ew] at hle ⊢
        have : caAt s.clk s.who = nm s := rfl
        omega
      · exact Int.le_trans hle (hrd _ (I.sd a sa ha).1 ew)
  · rcases snoc_cases hq with ⟨h', hg⟩ | ⟨h', hg⟩
    · rw [hg] at h2 ht hwk
      rw [take_snoc (by omega)] at hwk
      exact I.I q h' t a sa h2 ht ha hwk
    · rw [hg] at h2
      exact absurd h2 (by simp)
  · rcases snoc_cases hq with ⟨h', hg⟩ | ⟨h', hg⟩
    · rw [hg, take_snoc (by omega)]
      exact I.R q h'
    · rw [hg, take_snoc (by omega), h', List.take_length]
      unfold evErr
      have hm := isMem_rg I.n5 hk
      rw [if_neg (by simp [rightB, hm, hw4]), if_neg]
      rotate_left
      · rintro (⟨h1, _⟩ | ⟨_, h2⟩)
        · exact absurd h1 (by simp)
        · exact hnk ⟨_, h2, rfl, rfl⟩
      have hev := I.saidEv hs
      have hpos : ∃ (j : Nat) (hj : j < h.length), saidAt h w = j ∧ saysB w h[j] = true := by
        unfold saidAt
        rcases whereI_cases (saysB w) h with ⟨_, h2⟩ | ⟨j, hj, h1, h2, _⟩
        · have := h2 _ hev
          simp [saysB] at this
        · exact ⟨j, hj, h1, h2⟩
      obtain ⟨j, hj, e1, e2⟩ := hpos
      rw [if_neg (by simp only [e1]; omega), if_neg]
      rintro ⟨_, h2⟩
      simp only [e1] at h2
      unfold evAt at h2
      rw [Int.toNat_natCast, List.getD_eq_getElem?_getD, List.getElem?_eq_getElem hj] at h2
      simp only [Option.getD_some] at h2
      unfold saysB at e2
      simp only [Bool.and_eq_true, decide_eq_true_eq] at e2
      obtain ⟨t, ht, _, h3⟩ := I.D _ (List.getElem_mem hj)
      rw [e2.2, hs] at ht
      injection ht with ht
      subst ht
      rcases h3 with ⟨_, h3⟩ | ⟨h3, _⟩
      · exact hne (h3.trans h2)
      · rw [e2.1] at h3; exact absurd h3 (by decide)
  · rw [List.map_append]
    refine List.nodup_append.2 ⟨I.P, by simp, fun x hx y hy => ?_⟩
    simp only [List.map_cons, List.map_nil, List.mem_singleton] at hy
    obtain ⟨e, he, rfl⟩ := List.mem_map.1 hx
    rw [hy]
    intro hh
    injection hh with h1 h2
    exact hnk ⟨e, he, h1, h2⟩
  · by_cases e : j = k
    · rw [e, upd_same, hbo i (by omega) (by omega)]; exact I.Z1 k i hk hi
    · rw [upd_ne _ _ e]; exact I.Z1 j i hj hi
theorem CI.say {n S c h} (I : CI n S c h) {k w : Int} (hk : Rg n k) (hno : mget S w = none) (hw : isWord w = true) (hpos : 0 ≤ caAt (c k) k) :
    CI n (S ++ [(w, ⟨k, w, caBump (c k) k⟩)]) (upd c k (caBump (c k) k)) (h ++ [(k, 2, w)]) := by
  have n5 := I.n5
  have hl := I.len k hk
  have hbm : caAt (caBump (c k) k) k = caAt (c k) k + 1 := caAt_bump hl (by omega)
  have hbo : ∀ i, 0 ≤ i → i ≠ k → caAt (caBump (c k) k) i = caAt (c k) i := fun i hi hne => caBump_other hk.1 hi (fun e => hne e.symm)
  have hput : S ++ [(w, (⟨k, w, caBump (c k) k⟩ : Sd))] = mput S w ⟨k, w, caBump (c k) k⟩ := (mput_new (mget_none.1 hno)).symm
  have hg : ∀ a sa, mget (S ++ [(w, (⟨k, w, caBump (c k) k⟩ : Sd))]) a = some sa → (a = w ∧ sa = ⟨k, w, caBump (c k) k⟩) ∨ (a ≠ w ∧ mget S a = some sa) := fun a sa ha => by
    rw [hput, mget_mput] at ha
    by_cases e : w = a
    · rw [if_pos e] at ha
      injection ha with ha
      exact .inl ⟨e.symm, ha.symm⟩
    · rw [if_neg e] at ha
      exact .inr ⟨fun e' => e e'.symm, ha⟩
  have hg' : ∀ a sa, mget S a = some sa → mget (S ++ [(w, (⟨k, w, caBump (c k) k⟩ : Sd))]) a = some sa := fun a sa ha => by
    rw [hput, mget_mput, if_neg (by rintro rfl; rw [hno] at ha; cases ha)]; exact ha
  have hgw : mget (S ++ [(w, (⟨k, w, caBump (c k) k⟩ : Sd))]) w = some ⟨k, w, caBump (c k) k⟩ := by rw [hput, mget_mput, if_pos rfl]
  have hnk : ∀ j, ¬ wk h j w := fun j hc => by
    obtain ⟨s, hs⟩ := I.known hc
    rw [hno] at hs; cases hs
  have hnm : nm ⟨k, w, caBump (c k) k⟩ = caAt (c k) k + 1 := hbm
  have hup : ∀ j, Rg n j → caAt (c j) j ≤ caAt (upd c k (caBump (c k) k) j) j := fun j hj => by
    by_cases e : j = k
    · rw [e, upd_same, hbm]; omega
    · rw [upd_ne _ _ e]; exact Int.le_refl _
  refine ⟨I.n5, ?_, fun a sa ha => ?_, fun j hj => ?_, fun a sa j ha hj => ?_, fun a b sa sb ha hb hwho hn => ?_, fun i j hi hj => ?_, fun a sa j ha hj => ?_, fun e he => ?_, fun j i x hj hi h1 h2 => ?_, fun p hp i x hi h1 h2 => ?_, fun q hq t a sa ht ha hne' hle => ?_, fun q hq t a sa h2 ht ha hwk => ?_, fun q hq => ?_, ?_, fun j i hj hi => ?_, fun a sa i ha hi => ?_⟩
  · rw [hput]; exact mput_nodup I.nd
  · rcases hg a sa ha with ⟨rfl, rfl⟩ | ⟨_, ha⟩
    · refine ⟨hk, ?_, rfl, hw, ?_⟩
      · rw [hnm]; omega
      · rw [caBump_len]; exact hl
    · exact I.sd a sa ha
  · by_cases e : j = k
    · rw [e, upd_same, caBump_len]; exact hl
    · rw [upd_ne _ _ e]; exact I.len j hj
  · rw [wk_snoc]
    rcases hg a sa ha with ⟨rfl, rfl⟩ | ⟨hne, hA⟩
    · rw [hnm]
      simp only
      by_cases e : j = k
      · subst e
        rw [upd_same, hbm]
        exact ⟨fun _ => Int.le_refl _, fun _ => .inr ⟨rfl, trivial⟩⟩
      · rw [upd_ne _ _ e]
        have := I.C1 j k hj hk
        refine ⟨fun hh => hh.elim (fun h1 => absurd h1 (hnk j)) fun ⟨h1, _⟩ => absurd h1.symm e, fun hh => ?_⟩
        omega
    · have e1 : (wk h j a ∨ (k = j ∧ w = a)) ↔ wk h j a := ⟨fun hh => hh.elim id fun ⟨_, h2⟩ => absurd h2.symm hne, .inl⟩
      rw [show ((k, 2, w) : Ev).1 = k from rfl, show ((k, 2, w) : Ev).2.2 = w from rfl, e1, I.A a sa j hA hj]
      by_cases e : j = k
      · subst e
        rw [upd_same]
        by_cases ew : sa.who = j
        · have := I.C2 a sa j hA hk
          have h3 : nm sa = caAt sa.clk j := by unfold nm; rw [ew]
          rw [ew, hbm]
          omega
        · rw [hbo _ (I.sd a sa hA).1.1 ew]
      · rw [upd_ne _ _ e]
  · rcases hg a sa ha with ⟨rfl, rfl⟩ | ⟨_, hA⟩
    · rcases hg b sb hb with ⟨e, rfl⟩ | ⟨_, hB⟩
      · exact e.symm
      · exfalso
        have := I.C2 b sb k hB hk
        have h3 : nm sb = caAt sb.clk k := by unfold nm; rw [← hwho]
        rw [hnm] at hn
        omega
    · rcases hg b sb hb with ⟨_, rfl⟩ | ⟨_, hB⟩
      · exfalso
        have := I.C2 a sa k hA hk
        have h3 : nm sa = caAt sa.clk k := by unfold nm; rw [hwho]
        rw [hnm] at hn
        omega
      · exact I.B a b sa sb hA hB hwho hn
  · have h0 := I.C1 i j hi hj
    have h3 := hup j hj
    by_cases e : i = k
    · subst e
      rw [upd_same]
      by_cases ej : j = i
      · rw [ej, upd_same]; exact Int.le_refl _
      · rw [hbo _ hj.1 ej]; omega
    · rw [upd_ne _ _ e]; omega
  · have h3 := hup j hj
    rcases hg a sa ha with ⟨rfl, rfl⟩ | ⟨_, ha⟩
    · simp only
      by_cases ej : j = k
      · rw [ej, upd_same]; exact Int.le_refl _
      · rw [hbo _ hj.1 ej]
        have := I.C1 k j hk hj
        omega
    · have := I.C2 a sa j ha hj
      omega
  · rcases List.mem_append.1 he with he | he
    · obtain ⟨s, hs, h1⟩ := I.D e he
      exact ⟨s, hg' _ _ hs, h1⟩
    · rw [List.mem_singleton.1 he]
      exact ⟨_, hgw, hk, .inl ⟨rfl, rfl⟩⟩
  · have old : x ≤ caAt (c j) i → ∃ w' s, mget (S ++ [(w, (⟨k, w, caBump (c k) k⟩ : Sd))]) w' = some s ∧ s.who = i ∧ nm s = x := fun hx => by
      obtain ⟨a, s, h3, h4⟩ := I.E j i x hj hi h1 hx
      exact ⟨a, s, hg' _ _ h3, h4⟩
    by_cases e : j = k
    · subst e
      rw [upd_same] at h2
      by_cases ei : i = j
      · subst ei
        rw [hbm] at h2
        by_cases ex : x = caAt (c i) i + 1
        · exact ⟨w, _, hgw, rfl, hnm.trans ex.symm⟩
        · exact old (by omega)
      · rw [hbo _ hi.1 ei] at h2
        exact old h2
    · rw [upd_ne _ _ e] at h2
      exact old h2
  · rw [List.length_append, List.length_singleton] at hp
    by_cases hc : p < S.length
    · have e1 : (S ++ [(w, (⟨k, w, caBump (c k) k⟩ : Sd))])[p]'(by simp; omega) = S[p] := List.getElem_append_left hc
      rw [e1] at h2 ⊢
      rcases I.F p hc i x hi h1 h2 with h3 | ⟨q, hq, h3, h4⟩
      · exact .inl h3
      · refine .inr ⟨q, hq, ?_, ?_⟩
        · rw [List.getElem_append_left (by omega)]; exact h3
        · rw [List.getElem_append_left (by omega)]; exact h4
    · have hp' : p = S.length := by omega
      subst hp'
      have e1 : (S ++ [(w, (⟨k, w, caBump (c k) k⟩ : Sd))])[S.length]'(by simp) = (w, (⟨k, w, caBump (c k) k⟩ : Sd)) := by simp
      rw [e1] at h2 ⊢
      simp only at h2 ⊢
      have old : x ≤ caAt (c k) i → ∃ q, ∃ hq : q < S.length, ((S ++ [(w, (⟨k, w, caBump (c k) k⟩ : Sd))])[q]'(by simp; omega)).2.who = i ∧ nm ((S ++ [(w, (⟨k, w, caBump (c k) k⟩ : Sd))])[q]'(by simp; omega)).2 = x := fun hx => by
        obtain ⟨a, s, h3, h4, h5⟩ := I.E k i x hk hi h1 hx
        obtain ⟨q, hq, h6⟩ := List.getElem_of_mem (mget_mem' h3)
        refine ⟨q, hq, ?_, ?_⟩
        · rw [List.getElem_append_left hq, h6]; exact h4
        · rw [List.getElem_append_left hq, h6]; exact h5
      by_cases ei : i = k
      · subst ei
        rw [hbm] at h2
        by_cases ex : x = caAt (c i) i + 1
        · exact .inl ⟨rfl, ex.trans hnm.symm⟩
        · exact .inr (old (by omega))
      · rw [hbo _ hi.1 ei] at h2
        exact .inr (old h2)
  · rcases snoc_cases hq with ⟨h', hgq⟩ | ⟨h', hgq⟩
    · rw [hgq] at ht hne' ⊢
      rw [take_snoc (by omega)]
      obtain ⟨t', ht', _⟩ := I.D _ (List.getElem_mem h')
      have ht2 := hg' _ _ ht'
      rw [ht] at ht2
      injection ht2 with ht2
      subst ht2
      rcases hg a sa ha with ⟨rfl, rfl⟩ | ⟨_, ha⟩
      · exfalso
        rw [hnm] at hle
        have := I.C2 _ t k ht' hk
        simp only at hle
        omega
      · exact I.H q h' t a sa ht' ha hne' hle
    · rw [hgq] at ht hne' ⊢
      rw [take_snoc (by omega), h', List.take_length]
      simp only at ht hne' ⊢
      rw [hgw] at ht
      injection ht with ht
      subst ht
      rcases hg a sa ha with ⟨rfl, rfl⟩ | ⟨_, ha⟩
      · exact absurd rfl hne'
      rw [I.A a sa k ha hk]
      simp only at hle
      by_cases ew : sa.who = k
      · have := I.C2 a sa k ha hk
        have h3 : nm sa = caAt sa.clk k := by unfold nm; rw [ew]
        rw [ew]
        omega
      · rw [hbo _ (I.sd a sa ha).1.1 ew] at hle
        exact hle
  · rcases snoc_cases hq with ⟨h', hgq⟩ | ⟨h', hgq⟩
    · rw [hgq] at h2 ht hwk
      rw [take_snoc (by omega)] at hwk
      obtain ⟨t', ht', _⟩ := I.D _ (List.getElem_mem h')
      have ht2 := hg' _ _ ht'
      rw [ht] at ht2
      injection ht2 with ht2
      subst ht2
      rcases hg a sa ha with ⟨rfl, rfl⟩ | ⟨_, ha⟩
      · exfalso
        obtain ⟨e, he, h3, h4⟩ := hwk
        exact hnk _ ⟨e, List.mem_of_mem_take he, h3, h4⟩
      · exact I.I q h' t a sa h2 ht' ha hwk
    · rw [hgq] at ht hwk
      simp only at ht hwk
      rw [hgw] at ht
      injection ht with ht
      subst ht
      rw [h', List.take_of_length_le (by simp), wk_snoc] at hwk
      simp only
      rcases hg a sa ha with ⟨rfl, rfl⟩ | ⟨hne, ha⟩
      · rw [hnm, hbm]; exact Int.le_refl _
      · have h3 : wk h k a := hwk.elim id fun ⟨_, h4⟩ => absurd h4.symm hne
        have h4 := (I.A a sa k ha hk).1 h3
        by_cases ew : sa.who = k
        · rw [ew] at h4 ⊢
          rw [hbm]; omega
        · rw [hbo _ (I.sd a sa ha).1.1 ew]; exact h4
  · rcases snoc_cases hq with ⟨h', hgq⟩ | ⟨h', hgq⟩
    · rw [hgq, take_snoc (by omega)]
      exact I.R q h'
    · rw [hgq, take_snoc (by omega), h', List.take_length]
      unfold evErr
      have hm := isMem_rg I.n5 hk
      have hneg := saidAt_neg (h := h) (w := w) (fun e he hh => hnk e.1 ⟨e, he, rfl, hh⟩)
      rw [if_neg (by simp [rightB, hm, hw]), if_neg, if_neg, if_neg]
      · rintro ⟨h1, _⟩; exact absurd h1 (by simp)
      · rintro ⟨h1, _⟩; exact absurd h1 (by simp)
      · rintro (⟨_, h1⟩ | ⟨h1, _⟩)
        · simp only at h1; omega
        · exact absurd h1 (by simp)
  · rw [List.map_append]
    refine List.nodup_append.2 ⟨I.P, by simp, fun x hx y hy => ?_⟩
    simp only [List.map_cons, List.map_nil, List.mem_singleton] at hy
    obtain ⟨e, he, rfl⟩ := List.mem_map.1 hx
    rw [hy]
    intro hh
    injection hh with h1 h2
    exact hnk _ ⟨e, he, rfl, h2⟩
  · by_cases e : j = k
    · rw [e, upd_same, hbo i (by omega) (by have := hk.2; omega)]; exact I.Z1 k i hk hi
    · rw [upd_ne _ _ e]; exact I.Z1 j i hj hi
  · rcases hg a sa ha with ⟨_, rfl⟩ | ⟨_, hA⟩
    · simp only
      rw [hbo i (by omega) (by have := hk.2; omega)]; exact I.Z1 k i hk hi
    · exact I.Z2 a sa i hA hi
theorem CI.new {n : Nat} (h5 : n ≤ 5) : CI n [] (fun _ => zeroClk) [] := by
  have hz : ∀ i, caAt zeroClk i = 0 := fun i => by
    unfold caAt zeroClk
    match i.toNat with
    | 0 => rfl
    | 1 => rfl
    | 2 => rfl
    | 3 => rfl
    | 4 => rfl
    | k + 5 => rfl
  refine ⟨h5, by simp, fun w s h => (by cases h), fun _ _ => rfl, fun w s k h => (by cases h), fun w w' s s' h => (by cases h), fun k j _ _ => ?_, fun w s j h => (by cases h), fun e he => (by cases he), fun k i x _ _ h1 h2 => ?_, fun p hp => (by simp at hp), fun q hq => (by simp at hq), fun q hq => (by simp at hq), fun k hk => (by simp at hk), by simp, fun k i _ _ => hz i, fun w s i h => (by cases h)⟩
  · simp only [hz]; exact Int.le_refl _
  · simp only [hz] at h2; omega
end Go.Proofs.YtdfjbnfdknpahaaGreatDoor
/- Causal order, plainly: a group keeps it, whatever is done; where nothing was dropped each word is heard, waits, or is on its way. -/
namespace Go.Proofs.YtdfjbnfdknpahaaGreatDoor
set_option linter.unusedVariables false
set_option linter.unusedSimpArgs false
open Go.RowKit Go.Maps
theorem CI.congr {n S c c' h} (I : CI n S c h) (hc : ∀ k, Rg n k → c' k = c k) : CI n S c' h := by
  refine ⟨I.n5, I.nd, I.sd, fun k hk => by rw [hc k hk]; exact I.len k hk, fun w s k hs hk => by rw [hc k hk]; exact I.A w s k hs hk, I.B, fun k j hk hj => by rw [hc k hk, hc j hj]; exact I.C1 k j hk hj, fun w s j hs hj => by rw [hc j hj]; exact I.C2 w s j hs hj, I.D, fun k i x hk hi h1 h2 => ?_, I.F, I.H, I.I, I.R, I.P, fun k i hk hi => by rw [hc k hk]; exact I.Z1 k i hk hi, I.Z2⟩
  rw [hc k hk] at h2
  exact I.E k i x hk hi h1 h2
theorem upd_upd (c : Int → List Int) (k : Int) (x y : List Int) : upd (upd c k x) k y = upd c k y := by
  funext i
  unfold upd
  by_cases e : i = k
  · rw [if_pos e, if_pos e]
  · rw [if_neg e, if_neg e, if_neg e]
theorem upd_self (c : Int → List Int) (k : Int) : upd c k (c k) = c := by
  funext i
  unfold upd
  by_cases e : i = k
  · rw [if_pos e, e]
  · rw [if_neg e]
theorem CI.run {n : Nat} {S : List (Int × Sd)} {k : Int} (hk : Rg n k) : ∀ (m : Nat) (c : Int → List Int) (h : List Ev) (ws : List Sd), CI n S c h → (∀ x ∈ ws, mget S x.word = some x ∧ x.who ≠ k) →
    CI n S (upd c k (caHear m (c k) ws).1) (h ++ (caHear m (c k) ws).2.2.map fun x => (k, 3, x))
  | 0, c, h, ws, I, _ => by
    unfold caHear
    rw [upd_self]
    simpa using I
  | m + 1, c, h, ws, I, hw => by
    unfold caHear
    by_cases hc : ((whereI (caReady (c k)) ws).toNat < ws.length ∧ 0 ≤ whereI (caReady (c k)) ws)
    · rw [dif_pos hc]
      simp only
      obtain ⟨b1, b2⟩ := hw _ (List.getElem_mem hc.1)
      have hr : caReady (c k) ws[(whereI (caReady (c k)) ws).toNat] = true := by
        rcases whereI_cases (caReady (c k)) ws with ⟨h1, _⟩ | ⟨j, hj, h1, h2, _⟩
        · omega
        · have : (whereI (caReady (c k)) ws).toNat = j := by omega
          simp only [this]; exact h2
      have I1 := I.hear hk b1 b2 hr
      have I2 := CI.run hk m _ _ (ws.eraseIdx (whereI (caReady (c k)) ws).toNat) I1 (fun s hs => hw s (List.mem_of_mem_eraseIdx hs))
      rw [upd_upd, upd_same, List.append_assoc] at I2
      exact I2
    · rw [dif_neg hc, upd_self]
      simpa using I
theorem caHear_none : ∀ (m : Nat) (clk : List Int) (ws : List Sd), ws.length ≤ m → ∀ x ∈ (caHear m clk ws).2.1, caReady (caHear m clk ws).1 x = false
  | 0, clk, ws, hl, x, hx => by
    have : ws = [] := List.length_eq_zero_iff.1 (by omega)
    subst this
    cases hx
  | m + 1, clk, ws, hl, x, hx => by
    unfold caHear at hx ⊢
    by_cases hc : ((whereI (caReady clk) ws).toNat < ws.length ∧ 0 ≤ whereI (caReady clk) ws)
    · rw [dif_pos hc] at hx ⊢
      refine caHear_none m _ _ ?_ x hx
      rw [List.length_eraseIdx_of_lt hc.1]; omega
    · rw [dif_neg hc] at hx ⊢
      rcases whereI_cases (caReady clk) ws with ⟨_, h2⟩ | ⟨j, hj, h1, h2, _⟩
      · exact h2 x hx
      · exact absurd ⟨by omega, by omega⟩ hc
theorem caHear_kept : ∀ (m : Nat) (clk : List Int) (ws : List Sd), ∀ x ∈ ws, x ∈ (caHear m clk ws).2.1 ∨ x.word ∈ (caHear m clk ws).2.2
  | 0, clk, ws, x, hx => .inl hx
  | m + 1, clk, ws, x, hx => by
    unfold caHear
    by_cases hc : ((whereI (caReady clk) ws).toNat < ws.length ∧ 0 ≤ whereI (caReady clk) ws)
    · rw [dif_pos hc]
      simp only
      by_cases e : x ∈ ws.eraseIdx (whereI (caReady clk) ws).toNat
      · exact (caHear_kept m _ _ x e).imp id (fun h => List.mem_cons_of_mem _ h)
      · right
        obtain ⟨j, hj, rfl⟩ := List.getElem_of_mem hx
        have : (whereI (caReady clk) ws).toNat = j := by
          apply Decidable.byContradiction
          intro hne
          apply e
          rw [List.mem_eraseIdx_iff_getElem]
          exact ⟨j, hj, fun hh => hne hh.symm, rfl⟩
        simp only [this]
        exact List.mem_cons_self ..
    · rw [dif_neg hc]; exact .inl hx
def clkF (c : Cs) : Int → List Int := fun k => (csMem c k).clk
structure CZ (c : Cs) : Prop where
  i : CsI c
  ci : CI c.mem.length c.said (clkF c) c.hist
  W : ∀ k (hk : k < c.mem.length), ∀ x ∈ c.mem[k].waits, caReady c.mem[k].clk x = false
  L : c.said.length * c.mem.length ≤ 60
theorem clkF_at {c : Cs} {k : Nat} (hk : k < c.mem.length) : clkF c (k : Int) = c.mem[k].clk := by unfold clkF; rw [csMem_at hk]
theorem CZ.new {n : Nat} (h2 : 2 ≤ n) (h5 : n ≤ 5) : CZ (csNew n) := by
  have hl : (csNew n).mem.length = n := by simp [csNew]
  refine ⟨CsI.new h2 h5, ?_, fun k hk x hx => ?_, by simp [csNew]⟩
  · rw [hl]
    refine (CI.new h5).congr fun k hk => ?_
    obtain ⟨j, rfl⟩ : ∃ j : Nat, k = (j : Int) := ⟨k.toNat, by have := hk.1; omega⟩
    rw [clkF_at (by rw [hl]; have := hk.2; omega)]
    simp [csNew, caNew]
  · have : (csNew n).mem[k].waits = [] := by simp [csNew, caNew]
    rw [this] at hx; cases hx
theorem CZ.drop {c : Cs} (h : CZ c) (i : Int) : CZ (csDrop c i) := ⟨h.i.drop i, h.ci, h.W, h.L⟩
theorem CZ.twice {c : Cs} (h : CZ c) (i : Int) : CZ (csTwice c i) := ⟨h.i.twice i, h.ci, h.W, h.L⟩
theorem clkF_set {c : Cs} {mem : List Ca} {k : Nat} {m : Ca} {nt said hist} (hm : mem = c.mem.set k m) (j : Int) (hj : Rg c.mem.length j) : clkF ⟨mem, nt, said, hist⟩ j = upd (clkF c) (k : Int) m.clk j := by
  obtain ⟨i, rfl⟩ : ∃ i : Nat, j = (i : Int) := ⟨j.toNat, by have := hj.1; omega⟩
  have hi : i < c.mem.length := by have := hj.2; omega
  subst hm
  rw [clkF_at (by simpa using hi)]
  simp only
  rw [List.getElem_set]
  by_cases e : k = i
  · subst e; rw [if_pos rfl, upd_same]
  · rw [if_neg e, upd_ne _ _ (by omega), clkF_at hi]
theorem CZ.say {c : Cs} (h : CZ c) (who word : Int) : CZ (csSay c who word) := by
  have hI := h.i.say who word
  unfold csSay at hI ⊢
  by_cases he : csSayErr c who word = 0
  rotate_left
  · rw [if_neg he]; exact h
  rw [if_pos he] at hI ⊢
  obtain ⟨⟨a1, a2⟩, hw, hno, hl1, hl2⟩ := csSayErr0 he
  obtain ⟨k, rfl⟩ : ∃ k : Nat, who = (k : Int) := ⟨who.toNat, by omega⟩
  have hk : k < c.mem.length := by omega
  have hm := h.i.mem k hk
  have hs0 := h.i.caSay0 hk hw
  rw [csMem_at hk, Int.toNat_natCast] at hI ⊢
  have hsd : caSaid c.mem[k] word = ⟨(k : Int), word, caBump (clkF c k) k⟩ := by unfold caSaid; rw [if_pos hs0, clkF_at hk, hm.me]
  have hcs : caSay c.mem[k] word = ⟨c.mem[k].me, caBump (clkF c k) k, c.mem[k].waits⟩ := by unfold caSay; rw [if_pos hs0, clkF_at hk, hm.me]
  have hput : mput c.said word (caSaid c.mem[k] word) = c.said ++ [(word, caSaid c.mem[k] word)] := mput_new (mget_none.1 hno)
  have hpos := (vec_get hm.ok.clk k).1
  have I1 := h.ci.say (k := (k : Int)) (w := word) ⟨by omega, by omega⟩ hno hw (by rw [clkF_at hk]; unfold caAt; rw [Int.toNat_natCast]; exact hpos)
  refine ⟨hI, ?_, fun j hj x hx => ?_, ?_⟩
  · simp only [List.length_set]
    rw [hput, hsd]
    refine I1.congr fun j hj => ?_
    rw [clkF_set rfl j hj, hcs]
  · have hj' : j < c.mem.length := by simpa using hj
    simp only at hx ⊢
    rw [List.getElem_set] at hx ⊢
    by_cases e : k = j
    · subst e
      rw [if_pos rfl, hcs] at hx ⊢
      simp only at hx ⊢
      have h0 := h.W k hk x hx
      have hg := hm.waits x hx
      have hoth := hm.other x hx
      rw [hm.me] at hoth
      rw [← clkF_at hk] at h0
      rw [← h0]
      have hC2 := h.ci.C2 _ x (k : Int) hg ⟨by omega, by omega⟩
      have hw0 := (h.ci.sd _ _ hg).1
      have hl := h.ci.len (k : Int) ⟨by omega, by omega⟩
      have n5 := h.ci.n5
      have key : ∀ i, i < 5 → caOk1 (caBump (clkF c k) k) x i = caOk1 (clkF c k) x i := fun i hi => by
        unfold caOk1
        by_cases ek : i = k
        · subst ek
          rw [if_neg (fun e => hoth e.symm), if_neg (fun e => hoth e.symm)]
          have e1 := caAt_bump (clk := clkF c i) (i := (i : Int)) hl (by omega)
          unfold caAt at e1 hC2
          rw [Int.toNat_natCast] at e1 hC2
          rw [e1, decide_eq_true (by omega), decide_eq_true (by omega)]
        · have e1 := caBump_other (clk := clkF c k) (i := (k : Int)) (j := (i : Int)) (by omega) (by omega) (by omega)
          unfold caAt at e1
          rw [Int.toNat_natCast] at e1
          rw [e1]
      unfold caReady
      rw [Bool.eq_iff_iff, List.all_eq_true, List.all_eq_true]
      constructor
      · intro hh i hi; rw [← key i (List.mem_range.1 hi)]; exact hh i hi
      · intro hh i hi; rw [key i (List.mem_range.1 hi)]; exact hh i hi
    · rw [if_neg e] at hx ⊢
      exact h.W j hj' x hx
  · simp only [List.length_set]
    rw [hput, List.length_append, List.length_singleton]
    exact hl2
theorem CZ.give {c : Cs} (h : CZ c) (i : Int) : CZ (csGive c i) := by
  have hI := h.i.give i
  unfold csGive at hI ⊢
  by_cases he : csGiveErr c i = 0
  rotate_left
  · rw [if_neg he]; exact h
  rw [if_pos he] at hI ⊢
  obtain ⟨k, hk, e1, e2, e3, e4⟩ := h.i.given he
  rw [e1, e2, Int.toNat_natCast] at hI ⊢
  obtain ⟨s, hs⟩ : ∃ s, s = csGs c i := ⟨_, rfl⟩
  rw [← hs] at e3 e4 hI ⊢
  have hm := h.i.mem k hk
  have hkr : Rg c.mem.length (k : Int) := ⟨by omega, by omega⟩
  have hsw := (h.ci.sd _ _ e3).2.2.1
  have hCI : CI c.mem.length c.said (upd (clkF c) (k : Int) (caTake c.mem[k] s).clk) (c.hist ++ (caOut c.mem[k] s).map fun x => ((k : Int), 3, x)) ∧ ∀ x ∈ (caTake c.mem[k] s).waits, caReady (caTake c.mem[k] s).clk x = false := by
    unfold caTake caOut
    by_cases hz : caErr c.mem[k] s = 0
    rotate_left
    · rw [if_neg hz, if_neg hz, ← clkF_at hk, upd_self]
      exact ⟨by simpa using h.ci, by rw [clkF_at hk]; exact h.W k hk⟩
    rw [if_pos hz, if_pos hz]
    cases hr : caReady c.mem[k].clk s
    · simp only [Bool.false_eq_true, if_false]
      rw [← clkF_at hk, upd_self]
      refine ⟨by simpa using h.ci, fun x hx => ?_⟩
      rw [clkF_at hk]
      rcases List.mem_append.1 hx with hx | hx
      · exact h.W k hk x hx
      · rw [List.mem_singleton.1 hx]; exact hr
    · simp only [if_true]
      rw [← clkF_at hk] at hr
      have I1 := h.ci.hear hkr e3 e4 hr
      have I2 := CI.run hkr c.mem[k].waits.length _ _ c.mem[k].waits I1 (fun x hx => ⟨hm.waits x hx, by rw [← hm.me]; exact hm.other x hx⟩)
      rw [upd_upd, upd_same, List.append_assoc, clkF_at hk] at I2
      unfold caRun
      refine ⟨?_, fun x hx => caHear_none _ _ _ (Nat.le_refl _) x hx⟩
      rw [hsw]
      exact I2
  refine ⟨hI, ?_, fun j hj x hx => ?_, ?_⟩
  · simp only [List.length_set]
    refine hCI.1.congr fun j hj => ?_
    rw [clkF_set rfl j hj]
  · have hj' : j < c.mem.length := by simpa using hj
    simp only at hx ⊢
    rw [List.getElem_set] at hx ⊢
    by_cases e : k = j
    · subst e
      rw [if_pos rfl] at hx ⊢
      exact hCI.2 x hx
    · rw [if_neg e] at hx ⊢
      exact h.W j hj' x hx
  · simp only [List.length_set]; exact h.L
/-- Where nothing was dropped: each word is at each other one: heard, waiting, or on its way. -/
def ND (c : Cs) : Prop := ∀ w s, mget c.said w = some s → ∀ k (hk : k < c.mem.length), (k : Int) ≠ s.who → wk c.hist k w ∨ s ∈ c.mem[k].waits ∨ (s.who, (k : Int), w) ∈ c.net.all
theorem ND.new (n : Nat) : ND (csNew n) := fun w s h => by cases h
theorem wk_app {h l : List Ev} {k w : Int} (hw : wk h k w) : wk (h ++ l) k w := by
  obtain ⟨e, he, h1, h2⟩ := hw
  exact ⟨e, List.mem_append_left _ he, h1, h2⟩
theorem ND.twice {c : Cs} (h : ND c) (i : Int) : ND (csTwice c i) := fun w s hs k hk hne => by
  rcases h w s hs k hk hne with h1 | h1 | h1
  · exact .inl h1
  · exact .inr (.inl h1)
  · refine .inr (.inr ?_)
    show _ ∈ (ntTwice c.net i).all
    unfold ntTwice ntSend
    split
    · split
      · exact List.mem_append_left _ h1
      · exact h1
    · exact h1
theorem ND.say {c : Cs} (hz : CZ c) (h : ND c) (who word : Int) : ND (csSay c who word) := by
  unfold csSay
  by_cases he : csSayErr c who word = 0
  rotate_left
  · rw [if_neg he]; exact h
  rw [if_pos he]
  obtain ⟨⟨a1, a2⟩, hw, hno, hl1, hl2⟩ := csSayErr0 he
  obtain ⟨j, rfl⟩ : ∃ j : Nat, who = (j : Int) := ⟨who.toNat, by omega⟩
  have hj : j < c.mem.length := by omega
  have hs0 := hz.i.caSay0 hj hw
  intro w s hs k hk hne
  have hk' : k < c.mem.length := by simpa using hk
  simp only at hs ⊢
  rw [mget_mput] at hs
  by_cases e : word = w
  · rw [if_pos e] at hs
    injection hs with hs
    have hsw : s.who = (j : Int) := by
      rw [← hs, csMem_at hj]; unfold caSaid; rw [if_pos hs0]; exact (hz.i.mem j hj).me
    refine .inr (.inr (List.mem_append_right _ ?_))
    rw [hsw] at hne ⊢
    unfold csPk
    rw [e]
    exact List.mem_map.2 ⟨k, List.mem_filter.2 ⟨List.mem_range.2 hk', decide_eq_true hne⟩, rfl⟩
  · rw [if_neg e] at hs
    rcases h w s hs k hk' hne with h1 | h1 | h1
    · exact .inl (wk_app h1)
    · refine .inr (.inl ?_)
      rw [List.getElem_set]
      by_cases ek : j = k
      · subst ek
        rw [if_pos (Int.toNat_natCast j), csMem_at hj, (caSay_w _ _).1]
        exact h1
      · rw [if_neg (by rw [Int.toNat_natCast]; exact ek)]; exact h1
    · exact .inr (.inr (List.mem_append_left _ h1))
theorem caTake_kept {c : Ca} {s x : Sd} (hx : x ∈ c.waits) : x ∈ (caTake c s).waits ∨ x.word ∈ caOut c s := by
  unfold caTake caOut
  by_cases hz : caErr c s = 0
  rotate_left
  · rw [if_neg hz, if_neg hz]; exact .inl hx
  rw [if_pos hz, if_pos hz]
  cases hr : caReady c.clk s
  · exact .inl (List.mem_append_left _ hx)
  · exact (caHear_kept _ _ _ x hx).imp id (fun h => List.mem_cons_of_mem _ h)
theorem ND.give {c : Cs} (hz : CZ c) (h : ND c) (i : Int) : ND (csGive c i) := by
  unfold csGive
  by_cases he : csGiveErr c i = 0
  rotate_left
  · rw [if_neg he]; exact h
  rw [if_pos he]
  obtain ⟨k, hk, e1, e2, e3, e4⟩ := hz.i.given he
  rw [e1, e2, Int.toNat_natCast]
  obtain ⟨s, hs⟩ : ∃ s, s = csGs c i := ⟨_, rfl⟩
  rw [← hs] at e3 e4 ⊢
  have hkr : Rg c.mem.length (k : Int) := ⟨by omega, by omega⟩
  have hm := hz.i.mem k hk
  have out : ∀ x ∈ caOut c.mem[k] s, wk (c.hist ++ (caOut c.mem[k] s).map fun x => ((k : Int), 3, x)) k x := fun x hx => ⟨((k : Int), 3, x), List.mem_append_right _ (List.mem_map.2 ⟨x, hx, rfl⟩), rfl, rfl⟩
  have hgot : wk (c.hist ++ (caOut c.mem[k] s).map fun x => ((k : Int), 3, x)) k s.word ∨ s ∈ (caTake c.mem[k] s).waits := by
    by_cases hz0 : caErr c.mem[k] s = 0
    · have hT : s ∈ (caTake c.mem[k] s).waits ∨ s.word ∈ caOut c.mem[k] s := by
        unfold caTake caOut
        rw [if_pos hz0, if_pos hz0]
        cases hr : caReady c.mem[k].clk s
        · exact .inl (List.mem_append_right _ (by simp))
        · exact .inr (List.mem_cons_self ..)
      exact hT.elim .inr (fun hT => .inl (out _ hT))
    · have h7 := (hz.i.take hk e3 e4).1.resolve_left hz0
      obtain ⟨b1, b2, b3, b4, b5⟩ := hz.i.sd e3
      unfold caErr at h7
      rw [if_neg (by rw [b3]; simp), if_neg (by rw [hm.me]; exact e4), if_neg (by omega)] at h7
      by_cases h1 : caAt s.clk s.who ≤ caAt c.mem[k].clk s.who
      · left
        refine wk_app ?_
        have hg := hz.ci.A _ s (k : Int) e3 hkr
        rw [clkF_at hk] at hg
        rw [b2]
        exact hg.2 h1
      rw [if_neg h1] at h7
      cases h2 : c.mem[k].waits.any (caSame s)
      · rw [h2, if_neg (by simp)] at h7
        split at h7 <;> cases h7
      · right
        obtain ⟨x, hx, h3⟩ := List.any_eq_true.1 h2
        unfold caSame at h3
        simp only [Bool.and_eq_true, decide_eq_true_eq] at h3
        have hxs := hm.waits x hx
        have hwd := hz.ci.B _ _ x s hxs e3 h3.1 (by unfold nm; exact h3.2)
        rw [hwd, e3] at hxs
        injection hxs with hxs
        unfold caTake
        rw [if_neg hz0, hxs]
        exact hx
  intro w t ht j hj hne
  have hj' : j < c.mem.length := by simpa using hj
  simp only at ht ⊢
  rcases h w t ht j hj' hne with h1 | h1 | h1
  · exact .inl (wk_app h1)
  · rw [List.getElem_set]
    by_cases ek : k = j
    · subst ek
      rw [if_pos rfl]
      rcases caTake_kept (s := s) h1 with h2 | h2
      · exact .inr (.inl h2)
      · have := out _ h2
        rw [(hz.ci.sd _ _ ht).2.2.1] at this
        exact .inl this
    · rw [if_neg ek]; exact .inr (.inl h1)
  · by_cases hmem : (t.who, (j : Int), w) ∈ (ntOut c.net i).all
    · exact .inr (.inr hmem)
    · have heq : (t.who, (j : Int), w) = ntAt c.net i := by
        have hh : ntHas c.net i = true := by
          unfold csGiveErr ntGiveErr at he
          cases h1 : ntHas c.net i
          · rw [if_pos h1] at he; cases he
          · rfl
        unfold ntHas inR at hh
        simp only [Bool.and_eq_true, decide_eq_true_eq] at hh
        have hlt : i.toNat < c.net.all.length := by omega
        obtain ⟨p, hp, hpe⟩ := List.getElem_of_mem h1
        have : i.toNat = p := by
          apply Decidable.byContradiction
          intro hne'
          apply hmem
          show _ ∈ c.net.all.eraseIdx i.toNat
          rw [List.mem_eraseIdx_iff_getElem]
          exact ⟨p, hp, fun hh => hne' hh.symm, hpe⟩
        unfold ntAt
        rw [List.getD_eq_getElem?_getD, List.getElem?_eq_getElem hlt]
        subst this
        exact hpe.symm
      have hjk : (j : Int) = (k : Int) := by rw [← e1, ← heq]
      have hjk' : k = j := by omega
      subst hjk'
      have hw2 : (ntAt c.net i).2.2 = w := by rw [← heq]
      rw [hw2, ht] at e3
      injection e3 with e3
      subst e3
      rw [List.getElem_set, if_pos rfl]
      rcases hgot with h2 | h2
      · rw [(hz.ci.sd _ _ ht).2.2.1] at h2
        exact .inl h2
      · exact .inr (.inl h2)
end Go.Proofs.YtdfjbnfdknpahaaGreatDoor
