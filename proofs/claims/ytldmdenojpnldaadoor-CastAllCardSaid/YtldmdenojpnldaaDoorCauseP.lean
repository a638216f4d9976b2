/- Package cause, plainly: a member, for whom words may wait. -/
import Derived.Test.YtldmdenojpnldaaDoorHistP
import Derived.Test.YtldmdenojpnldaaDoorSet
namespace Go.Proofs.YtldmdenojpnldaaDoor
set_option linter.unusedVariables false
set_option linter.unusedSimpArgs false
open Go.RowKit Go.Maps
/-- A word: who said it, which, and what it knew. -/
structure Sd where
  who : Int
  word : Int
  clk : List Int
structure Ca where
  me : Int
  clk : List Int
  waits : List Sd
def caAt (clk : List Int) (i : Int) : Int := clk.getD i.toNat 0
def caBump (clk : List Int) (i : Int) : List Int := clk.set i.toNat (caAt clk i + 1)
def caOk1 (clk : List Int) (s : Sd) (i : Nat) : Bool := if (i : Int) = s.who then decide (s.clk.getD i 0 = clk.getD i 0 + 1) else decide (s.clk.getD i 0 ≤ clk.getD i 0)
/-- Is a word ready to be heard? -/
def caReady (clk : List Int) (s : Sd) : Bool := (List.range 5).all fun i => caOk1 clk s i
def sdErr (s : Sd) : Nat := if isMember s.who = false then 1 else if isWord s.word = false then 1 else vecErr s.clk
def caSame (s x : Sd) : Bool := decide (x.who = s.who) && decide (caAt x.clk x.who = caAt s.clk s.who)
def caErr (c : Ca) (s : Sd) : Nat := if sdErr s ≠ 0 then sdErr s else if s.who = c.me then 3 else if caAt s.clk s.who = 0 then 1 else if caAt s.clk s.who ≤ caAt c.clk s.who then 7 else
  if c.waits.any (caSame s) = true then 7 else if 40 ≤ c.waits.length ∧ caReady c.clk s = false then 4 else 0
def caHear : Nat → List Int → List Sd → List Int × List Sd × List Int
  | 0, clk, ws => (clk, ws, [])
  | k + 1, clk, ws => if h : ((whereI (caReady clk) ws).toNat < ws.length ∧ 0 ≤ whereI (caReady clk) ws) then
      let r := caHear k (caBump clk ws[(whereI (caReady clk) ws).toNat].who) (ws.eraseIdx (whereI (caReady clk) ws).toNat)
      (r.1, r.2.1, ws[(whereI (caReady clk) ws).toNat].word :: r.2.2)
    else (clk, ws, [])
def caRun (c : Ca) (s : Sd) : List Int × List Sd × List Int := caHear c.waits.length (caBump c.clk s.who) c.waits
def caTake (c : Ca) (s : Sd) : Ca := if caErr c s = 0 then (if caReady c.clk s = true then ⟨c.me, (caRun c s).1, (caRun c s).2.1⟩ else ⟨c.me, c.clk, c.waits ++ [s]⟩) else c
def caOut (c : Ca) (s : Sd) : List Int := if caErr c s = 0 then (if caReady c.clk s = true then s.word :: (caRun c s).2.2 else []) else []
def caSayErr (c : Ca) (w : Int) : Nat := if isWord w = false then 1 else if caAt c.clk c.me = 1000000 then 4 else 0
def caSay (c : Ca) (w : Int) : Ca := if caSayErr c w = 0 then ⟨c.me, caBump c.clk c.me, c.waits⟩ else c
def caSaid (c : Ca) (w : Int) : Sd := if caSayErr c w = 0 then ⟨c.me, w, caBump c.clk c.me⟩ else ⟨0, 0, []⟩
def zeroClk : List Int := [0, 0, 0, 0, 0]
def caNew (me : Int) : Ca := ⟨me, zeroClk, []⟩
structure CaI (c : Ca) : Prop where
  me : isMember c.me = true
  clk : vecErr c.clk = 0
  len : c.waits.length ≤ 40
  ok : ∀ s ∈ c.waits, sdErr s = 0
theorem sdErr0 {s : Sd} (h : sdErr s = 0) : isMember s.who = true ∧ isWord s.word = true ∧ vecErr s.clk = 0 := by
  unfold sdErr at h
  cases h1 : isMember s.who
  · rw [if_pos h1] at h; cases h
  rw [if_neg (by rw [h1]; simp)] at h
  cases h2 : isWord s.word
  · rw [if_pos h2] at h; cases h
  rw [if_neg (by rw [h2]; simp)] at h
  exact ⟨rfl, rfl, h⟩
theorem caErr0 {c : Ca} {s : Sd} (h : caErr c s = 0) : sdErr s = 0 ∧ s.who ≠ c.me ∧ caAt s.clk s.who ≠ 0 ∧ caAt c.clk s.who < caAt s.clk s.who ∧ c.waits.any (caSame s) = false ∧ (c.waits.length < 40 ∨ caReady c.clk s = true) := by
  unfold caErr at h
  by_cases h1 : sdErr s = 0
  rotate_left
  · rw [if_pos h1] at h; exact absurd h h1
  rw [if_neg (by rw [h1]; simp)] at h
  by_cases h2 : s.who = c.me
  · rw [if_pos h2] at h; cases h
  rw [if_neg h2] at h
  by_cases h3 : caAt s.clk s.who = 0
  · rw [if_pos h3] at h; cases h
  rw [if_neg h3] at h
  by_cases h4 : caAt s.clk s.who ≤ caAt c.clk s.who
  · rw [if_pos h4] at h; cases h
  rw [if_neg h4] at h
  cases h5 : c.waits.any (caSame s)
  rotate_left
  · rw [if_pos h5] at h; cases h
  rw [if_neg (by rw [h5]; simp)] at h
  refine ⟨h1, h2, h3, by omega, rfl, ?_⟩
  by_cases h6 : 40 ≤ c.waits.length ∧ caReady c.clk s = false
  · rw [if_pos h6] at h; cases h
  · rcases Nat.lt_or_ge c.waits.length 40 with h7 | h7
    · exact .inl h7
    · right
      cases hr : caReady c.clk s
      · exact absurd ⟨h7, hr⟩ h6
      · rfl
theorem vecErr_iff {l : List Int} : vecErr l = 0 ↔ l.length = 5 ∧ ∀ x ∈ l, 0 ≤ x ∧ x ≤ 1000000 := by
  refine ⟨vecErr0, fun ⟨h5, hb⟩ => ?_⟩
  unfold vecErr
  rw [if_neg (by rw [h5]; simp), if_neg]
  intro hc
  obtain ⟨x, hx, h⟩ := List.any_eq_true.1 hc
  have := hb x hx
  simp [isCount] at h
  omega
theorem vec_get {l : List Int} (h : vecErr l = 0) (i : Nat) : 0 ≤ l.getD i 0 ∧ l.getD i 0 ≤ 1000000 := by
  rw [List.getD_eq_getElem?_getD]
  rcases Nat.lt_or_ge i l.length with hi | hi
  · rw [List.getElem?_eq_getElem hi]
    exact (vecErr0 h).2 _ (List.getElem_mem hi)
  · rw [List.getElem?_eq_none hi]
    show 0 ≤ (0 : Int) ∧ (0 : Int) ≤ 1000000
    omega
theorem vec_set {l : List Int} (h : vecErr l = 0) (i : Nat) {x : Int} (hx : 0 ≤ x ∧ x ≤ 1000000) : vecErr (l.set i x) = 0 := by
  obtain ⟨h5, hb⟩ := vecErr0 h
  refine vecErr_iff.2 ⟨by simp [h5], fun y hy => ?_⟩
  rcases List.mem_or_eq_of_mem_set hy with hy | rfl
  · exact hb y hy
  · exact hx
theorem caReady_at {clk : List Int} {s : Sd} (h : caReady clk s = true) {i : Nat} (hi : i < 5) : caOk1 clk s i = true := by
  unfold caReady at h
  exact List.all_eq_true.1 h i (List.mem_range.2 hi)
theorem caReady_bump {clk : List Int} {s : Sd} (hc : vecErr clk = 0) (hs : sdErr s = 0) (h : caReady clk s = true) : vecErr (caBump clk s.who) = 0 ∧ caAt s.clk s.who = caAt clk s.who + 1 := by
  obtain ⟨h1, h2, h3⟩ := sdErr0 hs
  have hm : 0 ≤ s.who ∧ s.who < 5 := by simpa [isMember] using h1
  have h4 := caReady_at h (i := s.who.toNat) (by omega)
  unfold caOk1 at h4
  rw [if_pos (by omega), decide_eq_true_iff] at h4
  have h5 := vec_get h3 s.who.toNat
  have h6 := vec_get hc s.who.toNat
  refine ⟨vec_set hc _ ?_, h4⟩
  unfold caAt
  omega
theorem caHear_ok : ∀ (k : Nat) (clk : List Int) (ws : List Sd), vecErr clk = 0 → (∀ s ∈ ws, sdErr s = 0) → vecErr (caHear k clk ws).1 = 0 ∧ (∀ s ∈ (caHear k clk ws).2.1, sdErr s = 0) ∧ (caHear k clk ws).2.1.length ≤ ws.length
  | 0, clk, ws, hc, hw => ⟨hc, hw, Nat.le_refl _⟩
  | k + 1, clk, ws, hc, hw => by
    unfold caHear
    by_cases h : ((whereI (caReady clk) ws).toNat < ws.length ∧ 0 ≤ whereI (caReady clk) ws)
    · rw [dif_pos h]
      simp only
      have hr : caReady clk ws[(whereI (caReady clk) ws).toNat] = true := by
        rcases whereI_cases (caReady clk) ws with ⟨h1, _⟩ | ⟨j, hj, h1, h2, _⟩
        · omega
        · have : (whereI (caReady clk) ws).toNat = j := by omega
          simp only [this]; exact h2
      have h1 := caReady_bump hc (hw _ (List.getElem_mem h.1)) hr
      obtain ⟨a, b, d⟩ := caHear_ok k _ (ws.eraseIdx (whereI (caReady clk) ws).toNat) h1.1 (fun s hs => hw s (List.mem_of_mem_eraseIdx hs))
      exact ⟨a, b, Nat.le_trans d (List.length_eraseIdx_le ..)⟩
    · rw [dif_neg h]; exact ⟨hc, hw, Nat.le_refl _⟩
theorem CaI.new {me : Int} (h : isMember me = true) : CaI (caNew me) := ⟨h, (show vecErr zeroClk = 0 by decide), by simp [caNew], by simp [caNew]⟩
theorem CaI.say {c : Ca} (h : CaI c) (w : Int) : CaI (caSay c w) := by
  unfold caSay
  by_cases he : caSayErr c w = 0
  rotate_left
  · rw [if_neg he]; exact h
  rw [if_pos he]
  unfold caSayErr at he
  cases h1 : isWord w
  · rw [if_pos h1] at he; cases he
  rw [if_neg (by rw [h1]; simp)] at he
  by_cases h2 : caAt c.clk c.me = 1000000
  · rw [if_pos h2] at he; cases he
  have h3 := vec_get h.clk c.me.toNat
  exact ⟨h.me, vec_set h.clk _ (by unfold caAt at *; omega), h.len, h.ok⟩
theorem CaI.take {c : Ca} (h : CaI c) (s : Sd) : CaI (caTake c s) := by
  unfold caTake
  by_cases he : caErr c s = 0
  rotate_left
  · rw [if_neg he]; exact h
  rw [if_pos he]
  obtain ⟨h1, h2, h3, h4, h5, h6⟩ := caErr0 he
  cases hr : caReady c.clk s
  · rw [if_neg (by simp)]
    refine ⟨h.me, h.clk, ?_, fun x hx => ?_⟩
    · show (c.waits ++ [s]).length ≤ 40
      rw [hr] at h6
      simp at h6 ⊢
      omega
    · rcases List.mem_append.1 hx with hx | hx
      · exact h.ok x hx
      · rw [List.mem_singleton.1 hx]; exact h1
  · rw [if_pos rfl]
    have hb := (caReady_bump h.clk h1 hr).1
    obtain ⟨a, b, d⟩ := caHear_ok c.waits.length _ c.waits hb h.ok
    exact ⟨h.me, a, Nat.le_trans d h.len, b⟩
theorem caOut_len {c : Ca} (k : Nat) : ∀ (clk : List Int) (ws : List Sd), (caHear k clk ws).2.2.length ≤ k := by
  induction k with
  | zero => intro clk ws; exact Nat.le_refl _
  | succ k ih =>
    intro clk ws
    unfold caHear
    by_cases h : ((whereI (caReady clk) ws).toNat < ws.length ∧ 0 ≤ whereI (caReady clk) ws)
    · rw [dif_pos h]
      have := ih (caBump clk ws[(whereI (caReady clk) ws).toNat].who) (ws.eraseIdx (whereI (caReady clk) ws).toNat)
      simp only [List.length_cons]
      omega
    · rw [dif_neg h]; exact Nat.zero_le _
end Go.Proofs.YtldmdenojpnldaaDoor
