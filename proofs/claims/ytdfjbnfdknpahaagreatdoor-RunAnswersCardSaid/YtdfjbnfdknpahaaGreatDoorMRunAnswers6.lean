/- Package cast, plainly: a group that hears; what holds of it whatever is done. -/
import Derived.Test.YtdfjbnfdknpahaaGreatDoorMRunAnswers5
import Derived.Test.YtdfjbnfdknpahaaGreatDoorMRunAnswers1
namespace Go.Proofs.YtdfjbnfdknpahaaGreatDoor
set_option linter.unusedVariables false
set_option linter.unusedSimpArgs false
open Go.RowKit Go.Maps
structure Cs where
  mem : List Ca
  net : Nt
  said : List (Int × Sd)
  hist : List Ev
def nilSd : Sd := ⟨0, 0, []⟩
def csMem (c : Cs) (i : Int) : Ca := c.mem.getD i.toNat (caNew 0)
/-- A word's packets: to each other one. -/
def csPk (n : Nat) (who word : Int) : List Ev := ((List.range n).filter fun i : Nat => decide ((i : Int) ≠ who)).map fun i : Nat => (who, (i : Int), word)
def csSayErr (c : Cs) (who word : Int) : Nat := if inR who c.mem.length = false then 1 else if isWord word = false then 1 else if (mget c.said word).isSome = true then 7 else
  if 40 < c.net.all.length + c.mem.length - 1 ∨ 60 < (c.said.length + 1) * c.mem.length then 4 else 0
def csSay (c : Cs) (who word : Int) : Cs := if csSayErr c who word = 0 then
  ⟨c.mem.set who.toNat (caSay (csMem c who) word), ⟨c.net.all ++ csPk c.mem.length who word, c.net.cut⟩, mput c.said word (caSaid (csMem c who) word), c.hist ++ [(who, 2, word)]⟩ else c
def csSd (c : Cs) (word : Int) : Sd := (mget c.said word).getD nilSd
def csGiveErr (c : Cs) (i : Int) : Nat := ntGiveErr c.net i
def csGm (c : Cs) (i : Int) : Ca := csMem c (ntAt c.net i).2.1
def csGs (c : Cs) (i : Int) : Sd := csSd c (ntAt c.net i).2.2
def csGiven (c : Cs) (i : Int) : List Int := if csGiveErr c i = 0 then caOut (csGm c i) (csGs c i) else []
def csGive (c : Cs) (i : Int) : Cs := if csGiveErr c i = 0 then
  ⟨c.mem.set (ntAt c.net i).2.1.toNat (caTake (csGm c i) (csGs c i)), ntOut c.net i, c.said, c.hist ++ (caOut (csGm c i) (csGs c i)).map fun x => ((ntAt c.net i).2.1, 3, x)⟩ else c
def csDrop (c : Cs) (i : Int) : Cs := { c with net := ntDrop c.net i }
def csTwice (c : Cs) (i : Int) : Cs := { c with net := ntTwice c.net i }
def csNew (n : Nat) : Cs := ⟨(List.range n).map fun i : Nat => caNew (i : Int), ⟨[], []⟩, [], []⟩
/-- What holds of a word that was said. -/
def SdOk (n : Nat) (e : Int × Sd) : Prop := isWord e.1 = true ∧ e.2.word = e.1 ∧ sdErr e.2 = 0 ∧ e.2.who < n ∧ 1 ≤ caAt e.2.clk e.2.who
/-- What holds of a member. -/
structure MemOk (c : Cs) (i : Nat) (m : Ca) : Prop where
  ok : CaI m
  me : m.me = (i : Int)
  own : caAt m.clk m.me ≤ c.said.length
  waits : ∀ x ∈ m.waits, mget c.said x.word = some x
  other : ∀ x ∈ m.waits, x.who ≠ m.me
  nd : (m.waits.map (·.word)).Nodup
structure CsI (c : Cs) : Prop where
  n2 : 2 ≤ c.mem.length
  n5 : c.mem.length ≤ 5
  mem : ∀ (i : Nat) (h : i < c.mem.length), MemOk c i c.mem[i]
  net : NtI c.net
  cut : c.net.cut = []
  nd : (c.said.map (·.1)).Nodup
  said : ∀ e ∈ c.said, SdOk c.mem.length e
  pk : ∀ p ∈ c.net.all, ∃ s, mget c.said p.2.2 = some s ∧ s.who = p.1 ∧ 0 ≤ p.2.1 ∧ p.2.1 < c.mem.length
  hist : ∀ e ∈ c.hist, I64 e.1 ∧ I64 e.2.1 ∧ I64 e.2.2
theorem mget_mem' {m : List (Int × Sd)} {x : Int} {s : Sd} (h : mget m x = some s) : (x, s) ∈ m := by
  induction m with
  | nil => cases h
  | cons p r ih =>
    unfold mget at h
    by_cases e : p.1 = x
    · rw [if_pos e] at h
      injection h with h
      rw [← e, ← h]; exact List.mem_cons_self ..
    · rw [if_neg e] at h
      exact List.mem_cons_of_mem _ (ih h)
theorem CsI.saidLen {c : Cs} (h : CsI c) : c.said.length ≤ 30 := by
  have h1 := distinct_le 30 (c.said.map (·.1)) h.nd (fun x hx => by
    obtain ⟨e, he, rfl⟩ := List.mem_map.1 hx
    have := (h.said e he).1
    simpa [isWord] using this)
  simpa using h1
theorem CsI.sd {c : Cs} (h : CsI c) {w : Int} {s : Sd} (hs : mget c.said w = some s) : isWord w = true ∧ s.word = w ∧ sdErr s = 0 ∧ s.who < c.mem.length ∧ 1 ≤ caAt s.clk s.who := h.said (w, s) (mget_mem' hs)
theorem MemOk.waitsLen {c : Cs} (hI : CsI c) {i : Nat} {m : Ca} (h : MemOk c i m) : m.waits.length ≤ 30 := by
  have h1 := distinct_le 30 (m.waits.map (·.word)) h.nd (fun x hx => by
    obtain ⟨e, he, rfl⟩ := List.mem_map.1 hx
    have := (hI.sd (h.waits e he)).1
    simpa [isWord] using this)
  simpa using h1
theorem caHear_sub : ∀ (k : Nat) (clk : List Int) (ws : List Sd), (caHear k clk ws).2.1.Sublist ws
  | 0, clk, ws => List.Sublist.refl _
  | k + 1, clk, ws => by
    unfold caHear
    by_cases h : ((whereI (caReady clk) ws).toNat < ws.length ∧ 0 ≤ whereI (caReady clk) ws)
    · rw [dif_pos h]
      exact (caHear_sub k _ _).trans (List.eraseIdx_sublist ..)
    · rw [dif_neg h]; exact List.Sublist.refl _
theorem caBump_other {clk : List Int} {i j : Int} (hi : 0 ≤ i) (hj : 0 ≤ j) (h : i ≠ j) : caAt (caBump clk i) j = caAt clk j := by
  unfold caAt caBump
  have : i.toNat ≠ j.toNat := by omega
  rw [List.getD_eq_getElem?_getD, List.getElem?_set_ne this, ← List.getD_eq_getElem?_getD]
theorem caHear_other : ∀ (k : Nat) (clk : List Int) (ws : List Sd) (j : Int), 0 ≤ j → (∀ x ∈ ws, x.who ≠ j ∧ 0 ≤ x.who) → caAt (caHear k clk ws).1 j = caAt clk j
  | 0, _, _, _, _, _ => rfl
  | k + 1, clk, ws, j, hj, hw => by
    unfold caHear
    by_cases h : ((whereI (caReady clk) ws).toNat < ws.length ∧ 0 ≤ whereI (caReady clk) ws)
    · rw [dif_pos h]
      have h1 := hw _ (List.getElem_mem h.1)
      have h2 := caHear_other k (caBump clk ws[(whereI (caReady clk) ws).toNat].who) (ws.eraseIdx (whereI (caReady clk) ws).toNat) j hj (fun x hx => hw x (List.mem_of_mem_eraseIdx hx))
      exact h2.trans (caBump_other h1.2 hj h1.1)
    · rw [dif_neg h]
theorem csMem_at {c : Cs} {i : Nat} (hi : i < c.mem.length) : csMem c (i : Int) = c.mem[i] := by
  unfold csMem
  rw [Int.toNat_natCast, List.getD_eq_getElem?_getD, List.getElem?_eq_getElem hi]; rfl
theorem csSayErr0 {c : Cs} {who word : Int} (h : csSayErr c who word = 0) : (0 ≤ who ∧ who < c.mem.length) ∧ isWord word = true ∧ mget c.said word = none ∧ c.net.all.length + c.mem.length - 1 ≤ 40 ∧ (c.said.length + 1) * c.mem.length ≤ 60 := by
  unfold csSayErr at h
  cases h1 : inR who c.mem.length
  · rw [if_pos h1] at h; cases h
  rw [if_neg (by rw [h1]; simp)] at h
  cases h2 : isWord word
  · rw [if_pos h2] at h; cases h
  rw [if_neg (by rw [h2]; simp)] at h
  cases h3 : (mget c.said word).isSome
  rotate_left
  · rw [if_pos h3] at h; cases h
  rw [if_neg (by rw [h3]; simp)] at h
  by_cases h4 : 40 < c.net.all.length + c.mem.length - 1 ∨ 60 < (c.said.length + 1) * c.mem.length
  · rw [if_pos h4] at h; cases h
  · refine ⟨by unfold inR at h1; simpa using h1, rfl, ?_, by omega, by omega⟩
    cases hm : mget c.said word with
    | none => rfl
    | some x => rw [hm] at h3; cases h3
theorem CsI.caSay0 {c : Cs} (h : CsI c) {i : Nat} (hi : i < c.mem.length) {word : Int} (hw : isWord word = true) : caSayErr c.mem[i] word = 0 := by
  unfold caSayErr
  rw [if_neg (by rw [hw]; simp), if_neg]
  have h1 := (h.mem i hi).own
  have h2 := h.saidLen
  omega
theorem csPk_mem {n : Nat} {who word : Int} {p : Ev} (h : p ∈ csPk n who word) : p.1 = who ∧ p.2.2 = word ∧ 0 ≤ p.2.1 ∧ p.2.1 < n ∧ p.2.1 ≠ who := by
  unfold csPk at h
  obtain ⟨i, hi, rfl⟩ := List.mem_map.1 h
  obtain ⟨h1, h2⟩ := List.mem_filter.1 hi
  have := List.mem_range.1 h1
  have h3 := of_decide_eq_true h2
  refine ⟨rfl, rfl, ?_, ?_, h3⟩
  · show (0 : Int) ≤ (i : Int); omega
  · show (i : Int) < (n : Int); omega
theorem range_filter_len (who : Nat) : ∀ n : Nat, who < n → ((List.range n).filter fun i : Nat => decide ((i : Int) ≠ (who : Int))).length + 1 = n
  | 0, h => by omega
  | n + 1, h => by
    rw [List.range_succ, List.filter_append, List.length_append]
    by_cases e : who = n
    · have h1 : ((List.range n).filter fun i : Nat => decide ((i : Int) ≠ (who : Int))) = List.range n := by
        rw [List.filter_eq_self]
        intro a ha
        have := List.mem_range.1 ha
        exact decide_eq_true (by omega)
      rw [h1, e]
      simp
    · have h1 := range_filter_len who n (by omega)
      have h2 : decide ((n : Int) ≠ (who : Int)) = true := decide_eq_true (by omega)
      rw [List.filter_cons_of_pos (by exact h2)]
      simp only [List.filter_nil, List.length_singleton]
      omega
theorem csPk_len {n : Nat} {who : Nat} {word : Int} (h : who < n) : (csPk n (who : Int) word).length = n - 1 := by
  unfold csPk
  rw [List.length_map]
  have := range_filter_len who n h
  omega
theorem pkErr_ok {p : Ev} (h1 : isMember p.1 = true) (h2 : isMember p.2.1 = true) (h3 : isWord p.2.2 = true) (h4 : p.1 ≠ p.2.1) : pkErr p = 0 := by
  unfold pkErr
  rw [if_neg (by rw [h1]; simp), if_neg (by rw [h2]; simp), if_neg (by rw [h3]; simp), if_neg h4]
theorem caSay_w (c : Ca) (w : Int) : (caSay c w).waits = c.waits ∧ (caSay c w).me = c.me := by unfold caSay; split <;> exact ⟨rfl, rfl⟩
theorem I64_sm {a : Int} (h : 0 ≤ a ∧ a ≤ 100) : I64 a := by unfold I64; omega
theorem CsI.say {c : Cs} (h : CsI c) (who word : Int) : CsI (csSay c who word) := by
  unfold csSay
  by_cases he : csSayErr c who word = 0
  rotate_left
  · rw [if_neg he]; exact h
  rw [if_pos he]
  obtain ⟨⟨a1, a2⟩, hw, hno, hl1, hl2⟩ := csSayErr0 he
  obtain ⟨k, rfl⟩ : ∃ k : Nat, who = (k : Int) := ⟨who.toNat, by omega⟩
  have hk : k < c.mem.length := by omega
  have hm := h.mem k hk
  have hs0 := h.caSay0 hk hw
  rw [csMem_at hk, Int.toNat_natCast]
  have hsd : caSaid c.mem[k] word = ⟨c.mem[k].me, word, caBump c.mem[k].clk c.mem[k].me⟩ := by unfold caSaid; rw [if_pos hs0]
  have hcs : caSay c.mem[k] word = ⟨c.mem[k].me, caBump c.mem[k].clk c.mem[k].me, c.mem[k].waits⟩ := by unfold caSay; rw [if_pos hs0]
  have hput : mput c.said word (caSaid c.mem[k] word) = c.said ++ [(word, caSaid c.mem[k] word)] := mput_new (mget_none.1 hno)
  have hbmp : caAt (caBump c.mem[k].clk c.mem[k].me) c.mem[k].me = caAt c.mem[k].clk c.mem[k].me + 1 := by
    unfold caAt caBump
    have h5 := (vecErr0 hm.ok.clk).1
    have hme : c.mem[k].me.toNat < c.mem[k].clk.length := by rw [hm.me, Int.toNat_natCast]; have := h.n5; omega
    rw [List.getD_eq_getElem?_getD, List.getElem?_set_self hme]; rfl
  have hg : ∀ x s, mget c.said x = some s → mget (mput c.said word (caSaid c.mem[k] word)) x = some s := fun x s hx => by
    rw [mget_mput, if_neg]
    · exact hx
    · rintro rfl; rw [hno] at hx; cases hx
  have hlen : (mput c.said word (caSaid c.mem[k] word)).length = c.said.length + 1 := by rw [hput]; simp
  have wb : 1 ≤ word ∧ word ≤ 30 := by simpa [isWord] using hw
  have hpos := (vec_get hm.ok.clk c.mem[k].me.toNat).1
  refine ⟨by simpa using h.n2, by simpa using h.n5, fun i hi => ?_, ?_, h.cut, mput_nodup h.nd, fun e he => ?_, fun p hp => ?_, fun e he => ?_⟩
  · have hi' : i < c.mem.length := by simpa using hi
    simp only
    rw [List.getElem_set]
    by_cases e : k = i
    · subst e
      rw [if_pos rfl, hcs]
      have := hm.ok.say word
      rw [hcs] at this
      refine ⟨this, hm.me, ?_, fun x hx => hg _ _ (hm.waits x hx), hm.other, hm.nd⟩
      · show caAt (caBump c.mem[k].clk c.mem[k].me) c.mem[k].me ≤ ((mput c.said word (caSaid c.mem[k] word)).length : Int)
        rw [hbmp, hlen]
        have := hm.own
        omega
    · rw [if_neg e]
      have hmi := h.mem i hi'
      refine ⟨hmi.ok, hmi.me, ?_, fun x hx => hg _ _ (hmi.waits x hx), hmi.other, hmi.nd⟩
      · show caAt c.mem[i].clk c.mem[i].me ≤ ((mput c.said word (caSaid c.mem[k] word)).length : Int)
        rw [hlen]
        have := hmi.own
        omega
  · refine ⟨?_, fun p hp => ?_, h.net.nd, h.net.mem⟩
    · simp only [List.length_append]
      rw [csPk_len hk]
      have := h.n2
      omega
    · rcases List.mem_append.1 hp with hp | hp
      · exact h.net.ok p hp
      · obtain ⟨b1, b2, b3, b4, b5⟩ := csPk_mem hp
        have := h.n5
        refine pkErr_ok ?_ ?_ (by rw [b2]; exact hw) (by rw [b1]; exact fun e => b5 e.symm)
        · rw [b1]; simp [isMember]; omega
        · simp [isMember]; omega
  · rw [hput] at he
    simp only [List.length_set]
    rcases List.mem_append.1 he with he | he
    · exact h.said e he
    · rw [List.mem_singleton.1 he, hsd]
      refine ⟨hw, rfl, ?_, ?_, ?_⟩
      · unfold sdErr
        rw [if_neg (by rw [hm.ok.me]; simp), if_neg (by rw [hw]; simp)]
        have := (hm.ok.say word).clk
        rw [hcs] at this
        exact this
      · show c.mem[k].me < (c.mem.length : Int)
        rw [hm.me]; omega
      · show 1 ≤ caAt (caBump c.mem[k].clk c.mem[k].me) c.mem[k].me
        rw [hbmp]
        unfold caAt
        omega
  · simp only [List.length_set]
    rcases List.mem_append.1 hp with hp | hp
    · obtain ⟨s, b1, b2⟩ := h.pk p hp
      exact ⟨s, hg _ _ b1, b2⟩
    · obtain ⟨b1, b2, b3, b4, b5⟩ := csPk_mem hp
      refine ⟨caSaid c.mem[k] word, ?_, ?_, b3, b4⟩
      · rw [b2, mget_mput, if_pos rfl]
      · rw [hsd, b1]; exact hm.me
  · rcases List.mem_append.1 he with he | he
    · exact h.hist e he
    · rw [List.mem_singleton.1 he]
      have := h.n5
      exact ⟨I64_sm (by simp only; omega), I64_sm (by simp only; omega), I64_sm (by simp only; omega)⟩
/-- What a member makes of a word that comes: it takes it, or had it. -/
theorem CsI.take {c : Cs} (h : CsI c) {k : Nat} (hk : k < c.mem.length) {w : Int} {s : Sd} (hs : mget c.said w = some s) (hne : s.who ≠ (k : Int)) :
    (caErr c.mem[k] s = 0 ∨ caErr c.mem[k] s = 7) ∧ MemOk c k (caTake c.mem[k] s) ∧ ∀ x ∈ caOut c.mem[k] s, ∃ y, mget c.said x = some y := by
  have hm := h.mem k hk
  obtain ⟨b1, b2, b3, b4, b5⟩ := h.sd hs
  have hwl := hm.waitsLen h
  have herr : caErr c.mem[k] s = 0 ∨ caErr c.mem[k] s = 7 := by
    unfold caErr
    rw [if_neg (by rw [b3]; simp), if_neg (by rw [hm.me]; exact hne), if_neg (by omega)]
    by_cases h1 : caAt s.clk s.who ≤ caAt c.mem[k].clk s.who
    · rw [if_pos h1]; exact .inr rfl
    rw [if_neg h1]
    cases h2 : c.mem[k].waits.any (caSame s)
    · rw [if_neg (by simp), if_neg (by omega)]; exact .inl rfl
    · rw [if_pos rfl]; exact .inr rfl
  refine ⟨herr, ?_, ?_⟩
  · unfold caTake
    by_cases he : caErr c.mem[k] s = 0
    rotate_left
    · rw [if_neg he]; exact hm
    rw [if_pos he]
    obtain ⟨_, d1, _, _, d4, _⟩ := caErr0 he
    have hok := hm.ok.take s
    unfold caTake at hok
    rw [if_pos he] at hok
    have wm : ∀ x ∈ c.mem[k].waits, x.who ≠ (k : Int) ∧ 0 ≤ x.who := fun x hx => by
      refine ⟨by rw [← hm.me]; exact hm.other x hx, ?_⟩
      have := (sdErr0 (hm.ok.ok x hx)).1
      simp [isMember] at this; omega
    cases hr : caReady c.mem[k].clk s
    · rw [hr, if_neg (by simp)] at hok
      rw [if_neg (by simp)]
      refine ⟨hok, hm.me, hm.own, fun x hx => ?_, fun x hx => ?_, ?_⟩
      · rcases List.mem_append.1 hx with hx | hx
        · exact hm.waits x hx
        · rw [List.mem_singleton.1 hx, b2]; exact hs
      · rcases List.mem_append.1 hx with hx | hx
        · exact hm.other x hx
        · rw [List.mem_singleton.1 hx]; show s.who ≠ c.mem[k].me; rw [hm.me]; exact hne
      · simp only [List.map_append, List.map_cons, List.map_nil]
        refine List.nodup_append.2 ⟨hm.nd, by simp, fun a ha b hb => ?_⟩
        rw [List.mem_singleton.1 hb]
        rintro rfl
        obtain ⟨x, hx, hxw⟩ := List.mem_map.1 ha
        have h1 := hm.waits x hx
        rw [hxw, b2, hs] at h1
        injection h1 with h1
        rw [List.any_eq_false] at d4
        have := d4 x hx
        rw [← h1] at this
        simp [caSame] at this
    · rw [hr, if_pos rfl] at hok
      rw [if_pos rfl]
      have hsub : ((caRun c.mem[k] s).2.1).Sublist c.mem[k].waits := caHear_sub _ _ _
      refine ⟨hok, hm.me, ?_, fun x hx => hm.waits x (hsub.subset hx), fun x hx => hm.other x (hsub.subset hx), hm.nd.sublist (hsub.map _)⟩
      show caAt (caRun c.mem[k] s).1 c.mem[k].me ≤ (c.said.length : Int)
      unfold caRun
      rw [hm.me, caHear_other _ _ _ _ (by omega) wm, caBump_other _ (by omega) hne, ← hm.me]
      · exact hm.own
      · have := (sdErr0 b3).1
        simp [isMember] at this; omega
  · intro x hx
    unfold caOut at hx
    by_cases he : caErr c.mem[k] s = 0
    rotate_left
    · rw [if_neg he] at hx; cases hx
    rw [if_pos he] at hx
    by_cases hr : caReady c.mem[k].clk s = true
    rotate_left
    · rw [if_neg hr] at hx; cases hx
    rw [if_pos hr] at hx
    rcases List.mem_cons.1 hx with rfl | hx
    · exact ⟨s, by rw [b2]; exact hs⟩
    · have key : ∀ (n : Nat) (clk : List Int) (ws : List Sd), (∀ y ∈ ws, mget c.said y.word = some y) → ∀ x ∈ (caHear n clk ws).2.2, ∃ y, mget c.said x = some y := by
        intro n
        induction n with
        | zero => intro clk ws _ x hx; cases hx
        | succ n ih =>
          intro clk ws hw x hx
          unfold caHear at hx
          by_cases h' : ((whereI (caReady clk) ws).toNat < ws.length ∧ 0 ≤ whereI (caReady clk) ws)
          · rw [dif_pos h'] at hx
            simp only at hx
            rcases List.mem_cons.1 hx with rfl | hx
            · exact ⟨_, hw _ (List.getElem_mem h'.1)⟩
            · exact ih _ _ (fun s hs => hw s (List.mem_of_mem_eraseIdx hs)) x hx
          · rw [dif_neg h'] at hx; cases hx
      exact key _ _ _ hm.waits x hx
/-- Of what is given: who gets it, and what. -/
theorem CsI.given {c : Cs} (h : CsI c) {i : Int} (he : csGiveErr c i = 0) : ∃ k : Nat, ∃ hk : k < c.mem.length, (ntAt c.net i).2.1 = (k : Int) ∧ csGm c i = c.mem[k] ∧ mget c.said (ntAt c.net i).2.2 = some (csGs c i) ∧ (csGs c i).who ≠ (k : Int) := by
  unfold csGiveErr ntGiveErr at he
  cases h1 : ntHas c.net i
  · rw [if_pos h1] at he; cases he
  have hp := ntAt_mem h1
  obtain ⟨s, b1, b2, b3, b4⟩ := h.pk _ hp
  obtain ⟨_, _, _, b5⟩ := pkErr0 (h.net.ok _ hp)
  obtain ⟨k, hk⟩ : ∃ k : Nat, (ntAt c.net i).2.1 = (k : Int) := ⟨(ntAt c.net i).2.1.toNat, by omega⟩
  have hk' : k < c.mem.length := by omega
  refine ⟨k, hk', hk, ?_, ?_, ?_⟩
  · unfold csGm; rw [hk, csMem_at hk']
  · unfold csGs csSd; rw [b1]; rfl
  · unfold csGs csSd; rw [b1]
    show s.who ≠ (k : Int)
    rw [b2, ← hk]; exact b5
theorem CsI.give {c : Cs} (h : CsI c) (i : Int) : CsI (csGive c i) := by
  unfold csGive
  by_cases he : csGiveErr c i = 0
  rotate_left
  · rw [if_neg he]; exact h
  rw [if_pos he]
  obtain ⟨k, hk, e1, e2, e3, e4⟩ := h.given he
  obtain ⟨_, hmk, hout⟩ := h.take hk e3 e4
  rw [e1, e2, Int.toNat_natCast]
  refine ⟨by simpa using h.n2, by simpa using h.n5, fun j hj => ?_, h.net.out i, h.cut, h.nd, by simpa using h.said, fun p hp => ?_, fun e he => ?_⟩
  · have hj' : j < c.mem.length := by simpa using hj
    simp only
    rw [List.getElem_set]
    by_cases e : k = j
    · subst e
      rw [if_pos rfl]
      exact ⟨hmk.ok, hmk.me, hmk.own, hmk.waits, hmk.other, hmk.nd⟩
    · rw [if_neg e]
      have hm := h.mem j hj'
      exact ⟨hm.ok, hm.me, hm.own, hm.waits, hm.other, hm.nd⟩
  · simp only [List.length_set]
    exact h.pk p (List.mem_of_mem_eraseIdx hp)
  · rcases List.mem_append.1 he with he | he
    · exact h.hist e he
    · obtain ⟨x, hx, rfl⟩ := List.mem_map.1 he
      obtain ⟨y, hy⟩ := hout x hx
      have := (h.sd hy).1
      simp [isWord] at this
      have := h.n5
      exact ⟨I64_sm (by simp only; omega), I64_sm (by simp only; omega), I64_sm (by simp only; omega)⟩
theorem CsI.drop {c : Cs} (h : CsI c) (i : Int) : CsI (csDrop c i) := by
  have hsub : ∀ p ∈ (ntDrop c.net i).all, p ∈ c.net.all := fun p hp => by
    unfold ntDrop at hp
    split at hp
    · exact List.mem_of_mem_eraseIdx hp
    · exact hp
  refine ⟨h.n2, h.n5, fun j hj => ?_, h.net.drop i, ?_, h.nd, h.said, fun p hp => h.pk p (hsub p hp), h.hist⟩
  · have hm := h.mem j hj
    exact ⟨hm.ok, hm.me, hm.own, hm.waits, hm.other, hm.nd⟩
  · show (ntDrop c.net i).cut = []
    unfold ntDrop
    split
    · exact h.cut
    · exact h.cut
theorem CsI.twice {c : Cs} (h : CsI c) (i : Int) : CsI (csTwice c i) := by
  have hsub : ∀ p ∈ (ntTwice c.net i).all, p ∈ c.net.all := fun p hp => by
    unfold ntTwice at hp
    by_cases he : ntTwiceErr c.net i = 0
    · rw [if_pos he] at hp
      have hh : ntHas c.net i = true := by
        unfold ntTwiceErr at he
        cases h1 : ntHas c.net i
        · rw [if_pos h1] at he; cases he
        · rfl
      unfold ntSend at hp
      split at hp
      · rcases List.mem_append.1 hp with hp | hp
        · exact hp
        · rw [List.mem_singleton.1 hp]; exact ntAt_mem hh
      · exact hp
    · rw [if_neg he] at hp; exact hp
  refine ⟨h.n2, h.n5, fun j hj => ?_, h.net.twice i, ?_, h.nd, h.said, fun p hp => h.pk p (hsub p hp), h.hist⟩
  · have hm := h.mem j hj
    exact ⟨hm.ok, hm.me, hm.own, hm.waits, hm.other, hm.nd⟩
  · show (ntTwice c.net i).cut = []
    unfold ntTwice ntSend
    split
    · split
      · exact h.cut
      · exact h.cut
    · exact h.cut
theorem CsI.new {n : Nat} (h2 : 2 ≤ n) (h5 : n ≤ 5) : CsI (csNew n) := by
  refine ⟨by simp [csNew]; exact h2, by simp [csNew]; exact h5, fun i hi => ?_, NtI.new, rfl, by simp [csNew], by simp [csNew], by simp [csNew], by simp [csNew]⟩
  have hi' : i < n := by simpa [csNew] using hi
  have hm : isMember (i : Int) = true := by simp [isMember]; omega
  have e : (csNew n).mem[i] = caNew (i : Int) := by simp [csNew]
  rw [e]
  refine ⟨CaI.new hm, rfl, ?_, by simp [caNew], by simp [caNew], by simp [caNew]⟩
  have : caAt zeroClk (i : Int) = 0 := by
    unfold caAt zeroClk
    rw [Int.toNat_natCast]
    match i, (show i < 5 by omega) with
    | 0, _ | 1, _ | 2, _ | 3, _ | 4, _ => rfl
  show caAt zeroClk (i : Int) ≤ _
  rw [this]
  exact Int.natCast_nonneg _
end Go.Proofs.YtdfjbnfdknpahaaGreatDoor
/- A law for a drawn region: some slots are moved first, the rest of the first n operations read, the others come in a given order. -/
namespace Go.Proofs.YtdfjbnfdknpahaaGreatDoor
set_option linter.unusedVariables false
set_option linter.unusedSimpArgs false
open Go.RowKit
section
variable {P : Program} {ops : Array Oper} {md : Region.Mode}
structure HInv (md : Region.Mode) (ops : Array Oper) (n : Nat) (m : List Nat) (listed : Array Bool) : Prop where
  size : listed.size = ops.size
  closed : ∀ j oj, ops[j]? = some oj → listed.getD j false = true → ∀ e ∈ oj.after, Region.binds md e = true → listed.getD e.on false = true
  tail : ∀ t, n ≤ t → t < ops.size → t ∉ m → listed.getD t true = false
theorem HInv.set {n i : Nat} {m : List Nat} {listed : Array Bool} (inv : HInv md ops n m listed) (hi : i ∈ Region.ready md ops listed) (hin : i < n ∨ i ∈ m) : HInv md ops n m (listed.setIfInBounds i true) := by
  obtain ⟨_, oi, hoi, hall⟩ := mem_ready.1 hi
  refine ⟨by simp [inv.size], fun j oj hj hl e he hb => ?_, fun t ht ht' htm => by
    rw [getD_set_ne true (fun e => by
      subst e
      rcases hin with h | h
      · omega
      · exact htm h)]; exact inv.tail t ht ht' htm⟩
  by_cases hij : i = j
  · subst hij
    have : oj = oi := Option.some.inj (hj.symm.trans hoi)
    subst this
    exact getD_set_true (hall e he hb)
  · rw [getD_set_ne false hij] at hl
    exact getD_set_true (inv.closed j oj hj hl e he hb)
/-- Each operation behind n that is not moved first waits for one such from n on. -/
def linkX (md : Region.Mode) (ops : Array Oper) (n : Nat) (m : List Nat) : Bool :=
  !m.contains n && (List.range ops.size).all fun t => decide (t ≤ n) || m.contains t || (List.range t).any fun s => decide (n ≤ s) && !m.contains s && Region.waitsFor md ops t s
def sinkX (md : Region.Mode) (ops : Array Oper) (n : Nat) (m : List Nat) : Bool :=
  (List.range n).all fun i => m.contains i || (List.range (n + 1)).any fun j => decide (i < j) && Region.waitsFor md ops j i
theorem none_aheadX {n : Nat} {m : List Nat} {listed : Array Bool} (hs : sinkX md ops n m = true) (hl : linkX md ops n m = true) (inv : HInv md ops n m listed) (hm : ∀ i ∈ m, listed.getD i false = true) {i : Nat} (hi : i < n) (hun : listed.getD i true = false) :
    ∀ t, n ≤ t → t ∉ Region.ready md ops listed := by
  have key : ∀ (d i : Nat), n - i = d → i < n → listed.getD i true = false → n ∉ Region.ready md ops listed := by
    intro d
    induction d using Nat.strongRecOn with
    | _ d ih =>
      intro i hd hi hun hr
      have huni := getD_both hun
      obtain ⟨_, on, hon, hall⟩ := mem_ready.1 hr
      have h0 := List.all_eq_true.1 hs i (List.mem_range.2 hi)
      rw [Bool.or_eq_true] at h0
      rcases h0 with h0 | h0
      · have := hm i (by simpa using h0)
        rw [huni] at this; cases this
      obtain ⟨j, hj, hj2⟩ := List.any_eq_true.1 h0
      simp only [Bool.and_eq_true, decide_eq_true_eq] at hj2
      obtain ⟨oj, hoj, e, he, hb, heon⟩ := Region.waitsFor_spec hj2.2
      have hjn := List.mem_range.1 hj
      by_cases hjt : j = n
      · subst hjt
        rw [hoj] at hon; cases hon
        have := hall e he hb
        rw [heon, huni] at this; cases this
      · cases hlj : listed.getD j false with
        | true =>
          have := inv.closed j oj hoj hlj e he hb
          rw [heon, huni] at this; cases this
        | false => exact ih (n - j) (by omega) j rfl (by omega) (getD_in (by rw [inv.size]; exact (Array.getElem?_eq_some_iff.1 hoj).1) hlj) hr
  intro t ht hr
  rcases Nat.eq_or_lt_of_le ht with rfl | hlt
  · exact key _ i rfl hi hun hr
  · obtain ⟨_, ot, hot, hall⟩ := mem_ready.1 hr
    have htlt : t < ops.size := (Array.getElem?_eq_some_iff.1 hot).1
    have hl' := hl
    simp only [linkX, Bool.and_eq_true] at hl'
    have h1 := List.all_eq_true.1 hl'.2 t (List.mem_range.2 htlt)
    simp only [Bool.or_eq_true, decide_eq_true_eq] at h1
    rcases h1 with (h1 | h1) | h1
    · omega
    · have := hm t (by simpa using h1)
      obtain ⟨hrl, _⟩ := mem_ready.1 hr
      rw [getD_both hrl] at this; cases this
    · obtain ⟨s, hs1, hs2⟩ := List.any_eq_true.1 h1
      simp only [Bool.and_eq_true, decide_eq_true_eq] at hs2
      have hst := List.mem_range.1 hs1
      obtain ⟨o', ho', e, he, hb, heon⟩ := Region.waitsFor_spec hs2.2
      rw [hot] at ho'; cases ho'
      have := hall e he hb
      rw [heon, getD_both (inv.tail s hs2.1.1 (by omega) (by simpa using hs2.1.2))] at this
      cases this
theorem head_takeX {w : World} {n i : Nat} {m : List Nat} {oi : Oper} {v : Value} {L : Array Bool → Act → Prop} (hi : ops[i]? = some oi) (hsel : Region.noSelect ops = true)
    (hs : sinkX md ops n m = true) (hl : linkX md ops n m = true) (hin : i < n) (hdone : ∀ listed a, L listed a → ∀ j ∈ Region.ready md ops listed, n ≤ j) :
    ∀ (f : Nat) (listed : Array Bool) (a : Act), HInv md ops n m listed → (∀ i ∈ m, listed.getD i false = true) →
      (∀ j oj, ops[j]? = some oj → j ≠ i → listed.getD j true = false → (∀ e ∈ oj.after, Region.binds md e = true → e.on ≠ i) → oi.apart ops oj = true) →
      i ∈ Region.ready md ops listed → YieldsAt P ops w oi v a →
      wpAnyL P md ops w n L f (listed.setIfInBounds i true) (a.put oi.dst v) → wpAnyL P md ops w n L (f + 1) listed a := by
  have sel := Region.noSelect_spec hsel
  intro f
  induction f with
  | zero =>
    intro listed a inv hm _ hr hy H
    have hun := (mem_ready.1 hr).1
    refine ⟨List.ne_nil_of_mem hr, fun j hj => ?_⟩
    have hjn : j < n := Nat.lt_of_not_le fun h => none_aheadX hs hl inv hm hin hun j h hj
    by_cases hji : j = i
    · subst hji; exact ⟨hjn, hy.stOp hi H⟩
    · have := hdone _ _ H j (ready_mono hj hji)
      omega
  | succ f ih =>
    intro listed a inv hm hfree hr hy H
    have hun := (mem_ready.1 hr).1
    refine ⟨List.ne_nil_of_mem hr, fun j hj => ?_⟩
    have hjn : j < n := Nat.lt_of_not_le fun h => none_aheadX hs hl inv hm hin hun j h hj
    refine ⟨hjn, ?_⟩
    by_cases hji : j = i
    · subst hji; exact hy.stOp hi H
    obtain ⟨hjun, oj, hoj, hall⟩ := mem_ready.1 hj
    have hnot : ∀ e ∈ oj.after, Region.binds md e = true → e.on ≠ i := fun e he hb heq => by
      have h1 := hall e he hb
      rw [heq, getD_both hun] at h1
      cases h1
    have h2 := stOp_put hoj (hfree j oj hoj hji hjun hnot) (sel i oi · · hi) (sel j oj · · hoj) hy (H.2 j (ready_mono hj hji)).2
    refine stOp_mono (fun a' h3 => ih _ a' (inv.set hj (.inl hjn)) (fun k hk => getD_set_true (hm k hk)) (fun k ok hk hki hun' hno => hfree k ok hk hki ?_ hno) (ready_mono hr (Ne.symm hji)) h3.1 ?_) h2
    · by_cases hjk : j = k
      · subst hjk; exact hjun
      · rwa [getD_set_ne true hjk] at hun'
    · rw [Array.setIfInBounds_comm _ _ hji]
      exact h3.2
def headX (md : Region.Mode) (ops : Array Oper) (r : List Nat) (n : Nat) : List Nat → Array Bool → Bool
  | [], listed => (List.range n).all (fun i => listed.getD i false) && ordB md ops r listed
  | k :: l, listed => decide (k < n) && (Region.ready md ops listed).contains k && Region.free md ops listed k && headX md ops r n l (listed.setIfInBounds k true)
theorem getD_true_of {listed : Array Bool} {i : Nat} (h : listed.getD i false = true) : listed.getD i true = true := by
  rcases Nat.lt_or_ge i listed.size with h' | h'
  · simp [h'] at h ⊢; exact h
  · simp [Array.getElem?_eq_none h'] at h
theorem wpAnyL_planX {w : World} {n : Nat} {m r : List Nat} {Lq : Act → Prop} {L0 : List Oper} (hops : ops = L0.toArray) (hsel : Region.noSelect ops = true) (hs : sinkX md ops n m = true) (hl : linkX md ops n m = true) :
    ∀ (l : List Nat) (listed : Array Bool) (a : Act), HInv md ops n m listed → (∀ i ∈ m, listed.getD i false = true) →
    headX md ops r n l listed = true → wpStill P ops w Lq (pick L0 l) a →
    wpAnyL P md ops w n (fun listed' a' => ((∀ i < n, listed'.getD i true = true) ∧ ordB md ops r listed' = true) ∧ Lq a') l.length listed a
  | [], listed, a, _, _, hB, h => by
    simp only [headX, Bool.and_eq_true] at hB
    exact ⟨⟨fun i hi => getD_true_of (by simpa using List.all_eq_true.1 hB.1 i (List.mem_range.2 hi)), hB.2⟩, h⟩
  | k :: l, listed, a, inv, hm, hB, h => by
    simp only [headX, Bool.and_eq_true, decide_eq_true_eq] at hB
    obtain ⟨⟨⟨hkn, hr⟩, hf⟩, hB'⟩ := hB
    have hr' : k ∈ Region.ready md ops listed := by simpa using hr
    obtain ⟨_, o, h0, _⟩ := mem_ready.1 hr'
    have h0' : L0[k]? = some o := by rw [hops] at h0; simpa using h0
    simp only [pick, h0', Option.toList, List.cons_append, List.nil_append] at h
    have hst : stOp P ops w k (wpStill P ops w Lq (pick L0 l)) a := by unfold stOp; simp only [h0]; exact h
    obtain ⟨v, hy, hK⟩ := yieldsAt_of_stOp h0 hst
    refine head_takeX h0 hsel hs hl hkn (fun listed' a' hL => ordB_ready hL.1.2 hL.1.1) l.length listed a inv hm (Region.free_spec h0 hf) hr' hy ?_
    exact wpAnyL_planX hops hsel hs hl l _ _ (inv.set hr' (.inl hkn)) (fun i hi => getD_set_true (hm i hi)) hB' hK
/-- What is taken first, whatever the world. -/
def preX (md : Region.Mode) (ops : Array Oper) : List Nat → Array Bool → Option (Array Bool)
  | [], listed => some listed
  | k :: l, listed => if (Region.ready md ops listed).contains k && Region.free md ops listed k then preX md ops l (listed.setIfInBounds k true) else none
theorem preX_mono : ∀ (l : List Nat) (listed out : Array Bool), preX md ops l listed = some out → (∀ i, listed.getD i false = true → out.getD i false = true)
  | [], listed, out, h => by simp only [preX, Option.some.injEq] at h; subst h; exact fun _ h => h
  | k :: l, listed, out, h => by
    unfold preX at h
    split at h
    · exact fun i hi => preX_mono l _ out h i (getD_set_true hi)
    · cases h
theorem preX_inv {n : Nat} {m : List Nat} : ∀ (l : List Nat) (listed out : Array Bool), (∀ i ∈ l, i ∈ m) → HInv md ops n m listed → preX md ops l listed = some out → HInv md ops n m out ∧ (∀ i ∈ l, out.getD i false = true)
  | [], listed, out, _, inv, h => by simp only [preX, Option.some.injEq] at h; subst h; exact ⟨inv, fun i hi => by cases hi⟩
  | k :: l, listed, out, hm, inv, h => by
    unfold preX at h
    split at h
    · rename_i hc
      simp only [Bool.and_eq_true] at hc
      have hr' : k ∈ Region.ready md ops listed := by simpa using hc.1
      obtain ⟨a, b⟩ := preX_inv l _ out (fun i hi => hm i (by simp [hi])) (inv.set hr' (.inr (hm k (by simp)))) h
      refine ⟨a, fun i hi => ?_⟩
      rcases List.mem_cons.1 hi with rfl | hi
      · obtain ⟨_, o, ho, _⟩ := mem_ready.1 hr'
        have hlt : i < listed.size := by rw [inv.size]; exact (Array.getElem?_eq_some_iff.1 ho).1
        exact preX_mono l _ out h i (by simp [hlt])
      · exact b i hi
    · cases h
/-- The values of what is taken first. -/
def wpPure (P : Program) (ops : Array Oper) (K : Act → Prop) : List Oper → Act → Prop
  | [], a => K a
  | o :: l, a => ∃ v, Yields P ops o v a ∧ wpPure P ops K l (a.put o.dst v)
theorem wpPure_nil {K : Act → Prop} {a : Act} (h : K a) : wpPure P ops K [] a := h
theorem wpPure_step {K : Act → Prop} {a : Act} {o : Oper} {l : List Oper} (v : Value) (hg : o.guard = none) (hv : ∀ w, (execOp a.eval o).run P w = .ok (.value v) w) (h : wpPure P ops K l (a.put o.dst v)) : wpPure P ops K (o :: l) a :=
  ⟨v, .inl ⟨by simp [Region.wanted, hg], hv⟩, h⟩
theorem wpAny_pre {w : World} {f : Nat} {L0 : List Oper} {Q : Exit → Act → World → Prop} {K : Act → Prop} (hops : ops = L0.toArray) (hsel : Region.noSelect ops = true) (hQ : ∀ d v c a w, Q (.panic c) (Act.put a d v) w → Q (.panic c) a w) :
    ∀ (m : List Nat) (listed out : Array Bool) (a : Act), preX md ops m listed = some out → wpPure P ops K (pick L0 m) a → (∀ a', K a' → wpAny P md ops Q f out a' w) → wpAny P md ops Q (m.length + f) listed a w
  | [], listed, out, a, hp, h, hK => by
    simp only [preX, Option.some.injEq] at hp; subst hp
    rw [List.length_nil, Nat.zero_add]
    exact hK a h
  | k :: m, listed, out, a, hp, h, hK => by
    unfold preX at hp
    split at hp
    · rename_i hc
      simp only [Bool.and_eq_true] at hc
      have hr' : k ∈ Region.ready md ops listed := by simpa using hc.1
      obtain ⟨_, o, h0, _⟩ := mem_ready.1 hr'
      have h0' : L0[k]? = some o := by rw [hops] at h0; simpa using h0
      simp only [pick, h0', Option.toList, List.cons_append, List.nil_append] at h
      obtain ⟨v, hy, hK'⟩ := h
      rw [show (k :: m).length + f = (m.length + f) + 1 by simp only [List.length_cons]; omega]
      exact wpAny_take h0 hsel hc.2 hc.1 (fun c a w => hQ o.dst v c a w) hy (wpAny_pre hops hsel hQ m _ out _ hp hK' hK)
    · cases hp
def planX (ops : Array Oper) (n : Nat) (m r : List Nat) : Bool :=
  Region.noSelect ops && decide (n < ops.size) && true && sinkX .any ops n m && linkX .any ops n m && (match preX .any ops m (Array.replicate ops.size false) with | some listed => headX .any ops r n ((List.range n).filter fun i => !m.contains i) listed | none => false) && decide (m.length + (((List.range n).filter fun i => !m.contains i).length + r.length) = ops.size)
theorem wp_region_planX {id : Nat} {Q : Exit → Act → World → Prop} {a : Act} {w : World} {l : List Oper} (n : Nat) (m r : List Nat) (hm : P.follows .mixedOrders = true) (hB : planX l.toArray n m r = true)
    (h : wpPure P l.toArray (fun a1 => wpStill P l.toArray w.drew (fun a' => wpList P l.toArray (NoPanic Q) (pick l r) a' w.drew) (pick l ((List.range n).filter fun i => !m.contains i)) a1) (pick l m) a) : (Code.region id l.toArray true).wp P Q a w := by
  refine wp_region_noPanic ?_
  simp only [planX, Bool.and_eq_true, decide_eq_true_eq] at hB
  obtain ⟨⟨⟨⟨⟨⟨hsel, hn⟩, _⟩, hs⟩, hl⟩, hh⟩, hlen⟩ := hB
  have inv0 : HInv .any l.toArray n m (Array.replicate l.toArray.size false) :=
    ⟨by simp, fun j oj _ hl => (by rw [getD_replicate_false] at hl; cases hl), fun t _ ht _ => getD_in (by simpa using ht) (getD_replicate_false _ _)⟩
  cases hp : preX .any l.toArray m (Array.replicate l.toArray.size false) with
  | none => rw [hp] at hh; cases hh
  | some out =>
    rw [hp] at hh
    obtain ⟨inv1, hmo⟩ := preX_inv m _ out (fun _ h => h) inv0 hp
    refine wp_region_any hm ?_
    have hQ : ∀ d v c a w, NoPanic Q (.panic c) (Act.put a d v) w → NoPanic Q (.panic c) a w := fun _ _ _ _ _ h => h.elim
    have H := wpAny_pre (P := P) (md := .any) (f := ((List.range n).filter fun i => !m.contains i).length + r.length) (Q := NoPanic Q) rfl hsel hQ m _ out a hp h (fun a1 h1 => by
      have H1 := wpAnyL_planX (md := .any) (r := r) rfl hsel hs hl _ out a1 inv1 hmo hh h1
      exact wpAny_of_head (Q' := NoPanic Q) (g := r.length) (fun listed a' hL => wpAny_of_ord hsel hQ r listed a' _ hL.1.2 hL.2) _ _ _ H1)
    rw [hlen] at H
    exact H
end
end Go.Proofs.YtdfjbnfdknpahaaGreatDoor
