/- Package cause, plainly: a member, for whom words may wait. -/
import Derived.Test.YtdfjbnfdknpahaaGreatDoorMRunCausal1
import Derived.Test.YtdfjbnfdknpahaaGreatDoorMRunCausal6
import Derived.DeepKeys3
import Derived.Deep.LoopGhost
import Derived.StillTailTactics
import Derived.Test.YtdfjbnfdknpahaaGreatDoorMRunCausal2
namespace Go.Proofs.YtdfjbnfdknpahaaGreatDoor
set_option linter.unusedVariables false
set_option linter.unusedSimpArgs false
open Go.RowKit Go.Maps
/-- A word: who said it, which, and what it knew. -/
structure Sd where
  who : Int
  word : Int
  clk : List Int
structure Ca where
  me : Int
  clk : List Int
  waits : List Sd
def caAt (clk : List Int) (i : Int) : Int := clk.getD i.toNat 0
def caBump (clk : List Int) (i : Int) : List Int := clk.set i.toNat (caAt clk i + 1)
def caOk1 (clk : List Int) (s : Sd) (i : Nat) : Bool := if (i : Int) = s.who then decide (s.clk.getD i 0 = clk.getD i 0 + 1) else decide (s.clk.getD i 0 ≤ clk.getD i 0)
/-- Is a word ready to be heard? -/
def caReady (clk : List Int) (s : Sd) : Bool := (List.range 5).all fun i => caOk1 clk s i
def sdErr (s : Sd) : Nat := if isMember s.who = false then 1 else if isWord s.word = false then 1 else vecErr s.clk
def caSame (s x : Sd) : Bool := decide (x.who = s.who) && decide (caAt x.clk x.who = caAt s.clk s.who)
def caErr (c : Ca) (s : Sd) : Nat := if sdErr s ≠ 0 then sdErr s else if s.who = c.me then 3 else if caAt s.clk s.who = 0 then 1 else if caAt s.clk s.who ≤ caAt c.clk s.who then 7 else
  if c.waits.any (caSame s) = true then 7 else if 40 ≤ c.waits.length ∧ caReady c.clk s = false then 4 else 0
def caHear : Nat → List Int → List Sd → List Int × List Sd × List Int
  | 0, clk, ws => (clk, ws, [])
  | k + 1, clk, ws => if h : ((whereI (caReady clk) ws).toNat < ws.length ∧ 0 ≤ whereI (caReady clk) ws) then
      let r := caHear k (caBump clk ws[(whereI (caReady clk) ws).toNat].who) (ws.eraseIdx (whereI (caReady clk) ws).toNat)
      (r.1, r.2.1, ws[(whereI (caReady clk) ws).toNat].word :: r.2.2)
    else (clk, ws, [])
def caRun (c : Ca) (s : Sd) : List Int × List Sd × List Int := caHear c.waits.length (caBump c.clk s.who) c.waits
def caTake (c : Ca) (s : Sd) : Ca := if caErr c s = 0 then (if caReady c.clk s = true then ⟨c.me, (caRun c s).1, (caRun c s).2.1⟩ else ⟨c.me, c.clk, c.waits ++ [s]⟩) else c
def caOut (c : Ca) (s : Sd) : List Int := if caErr c s = 0 then (if caReady c.clk s = true then s.word :: (caRun c s).2.2 else []) else []
def caSayErr (c : Ca) (w : Int) : Nat := if isWord w = false then 1 else if caAt c.clk c.me = 1000000 then 4 else 0
def caSay (c : Ca) (w : Int) : Ca := if caSayErr c w = 0 then ⟨c.me, caBump c.clk c.me, c.waits⟩ else c
def caSaid (c : Ca) (w : Int) : Sd := if caSayErr c w = 0 then ⟨c.me, w, caBump c.clk c.me⟩ else ⟨0, 0, []⟩
def zeroClk : List Int := [0, 0, 0, 0, 0]
def caNew (me : Int) : Ca := ⟨me, zeroClk, []⟩
structure CaI (c : Ca) : Prop where
  me : isMember c.me = true
  clk : vecErr c.clk = 0
  len : c.waits.length ≤ 40
  ok : ∀ s ∈ c.waits, sdErr s = 0
theorem sdErr0 {s : Sd} (h : sdErr s = 0) : isMember s.who = true ∧ isWord s.word = true ∧ vecErr s.clk = 0 := by
  unfold sdErr at h
  cases h1 : isMember s.who
  · rw [if_pos h1] at h; cases h
  rw [if_neg (by rw [h1]; simp)] at h
  cases h2 : isWord s.word
  · rw [if_pos h2] at h; cases h
  rw [if_neg (by rw [h2]; simp)] at h
  exact ⟨rfl, rfl, h⟩
theorem caErr0 {c : Ca} {s : Sd} (h : caErr c s = 0) : sdErr s = 0 ∧ s.who ≠ c.me ∧ caAt s.clk s.who ≠ 0 ∧ caAt c.clk s.who < caAt s.clk s.who ∧ c.waits.any (caSame s) = false ∧ (c.waits.length < 40 ∨ caReady c.clk s = true) := by
  unfold caErr at h
  by_cases h1 : sdErr s = 0
  rotate_left
  · rw [if_pos h1] at h; exact absurd h h1
  rw [if_neg (by rw [h1]; simp)] at h
  by_cases h2 : s.who = c.me
  · rw [if_pos h2] at h; cases h
  rw [if_neg h2] at h
  by_cases h3 : caAt s.clk s.who = 0
  · rw [if_pos h3] at h; cases h
  rw [if_neg h3] at h
  by_cases h4 : caAt s.clk s.who ≤ caAt c.clk s.who
  · rw [if_pos h4] at h; cases h
  rw [if_neg h4] at h
  cases h5 : c.waits.any (caSame s)
  rotate_left
  · rw [if_pos h5] at h; cases h
  rw [if_neg (by rw [h5]; simp)] at h
  refine ⟨h1, h2, h3, by omega, rfl, ?_⟩
  by_cases h6 : 40 ≤ c.waits.length ∧ caReady c.clk s = false
  · rw [if_pos h6] at h; cases h
  · rcases Nat.lt_or_ge c.waits.length 40 with h7 | h7
    · exact .inl h7
    · right
      cases hr : caReady c.clk s
      · exact absurd ⟨h7, hr⟩ h6
      · rfl
theorem vecErr_iff {l : List Int} : vecErr l = 0 ↔ l.length = 5 ∧ ∀ x ∈ l, 0 ≤ x ∧ x ≤ 1000000 := by
  refine ⟨vecErr0, fun ⟨h5, hb⟩ => ?_⟩
  unfold vecErr
  rw [if_neg (by rw [h5]; simp), if_neg]
  intro hc
  obtain ⟨x, hx, h⟩ := List.any_eq_true.1 hc
  have := hb x hx
  simp [isCount] at h
  omega
theorem vec_get {l : List Int} (h : vecErr l = 0) (i : Nat) : 0 ≤ l.getD i 0 ∧ l.getD i 0 ≤ 1000000 := by
  rw [List.getD_eq_getElem?_getD]
  rcases Nat.lt_or_ge i l.length with hi | hi
  · rw [List.getElem?_eq_getElem hi]
    exact (vecErr0 h).2 _ (List.getElem_mem hi)
  · rw [List.getElem?_eq_none hi]
    show 0 ≤ (0 : Int) ∧ (0 : Int) ≤ 1000000
    omega
theorem vec_set {l : List Int} (h : vecErr l = 0) (i : Nat) {x : Int} (hx : 0 ≤ x ∧ x ≤ 1000000) : vecErr (l.set i x) = 0 := by
  obtain ⟨h5, hb⟩ := vecErr0 h
  refine vecErr_iff.2 ⟨by simp [h5], fun y hy => ?_⟩
  rcases List.mem_or_eq_of_mem_set hy with hy | rfl
  · exact hb y hy
  · exact hx
theorem caReady_at {clk : List Int} {s : Sd} (h : caReady clk s = true) {i : Nat} (hi : i < 5) : caOk1 clk s i = true := by
  unfold caReady at h
  exact List.all_eq_true.1 h i (List.mem_range.2 hi)
theorem caReady_bump {clk : List Int} {s : Sd} (hc : vecErr clk = 0) (hs : sdErr s = 0) (h : caReady clk s = true) : vecErr (caBump clk s.who) = 0 ∧ caAt s.clk s.who = caAt clk s.who + 1 := by
  obtain ⟨h1, h2, h3⟩ := sdErr0 hs
  have hm : 0 ≤ s.who ∧ s.who < 5 := by simpa [isMember] using h1
  have h4 := caReady_at h (i := s.who.toNat) (by omega)
  unfold caOk1 at h4
  rw [if_pos (by omega), decide_eq_true_iff] at h4
  have h5 := vec_get h3 s.who.toNat
  have h6 := vec_get hc s.who.toNat
  refine ⟨vec_set hc _ ?_, h4⟩
  unfold caAt
  omega
theorem caHear_ok : ∀ (k : Nat) (clk : List Int) (ws : List Sd), vecErr clk = 0 → (∀ s ∈ ws, sdErr s = 0) → vecErr (caHear k clk ws).1 = 0 ∧ (∀ s ∈ (caHear k clk ws).2.1, sdErr s = 0) ∧ (caHear k clk ws).2.1.length ≤ ws.length
  | 0, clk, ws, hc, hw => ⟨hc, hw, Nat.le_refl _⟩
  | k + 1, clk, ws, hc, hw => by
    unfold caHear
    by_cases h : ((whereI (caReady clk) ws).toNat < ws.length ∧ 0 ≤ whereI (caReady clk) ws)
    · rw [dif_pos h]
      simp only
      have hr : caReady clk ws[(whereI (caReady clk) ws).toNat] = true := by
        rcases whereI_cases (caReady clk) ws with ⟨h1, _⟩ | ⟨j, hj, h1, h2, _⟩
        · omega
        · have : (whereI (caReady clk) ws).toNat = j := by omega
          simp only [this]; exact h2
      have h1 := caReady_bump hc (hw _ (List.getElem_mem h.1)) hr
      obtain ⟨a, b, d⟩ := caHear_ok k _ (ws.eraseIdx (whereI (caReady clk) ws).toNat) h1.1 (fun s hs => hw s (List.mem_of_mem_eraseIdx hs))
      exact ⟨a, b, Nat.le_trans d (List.length_eraseIdx_le ..)⟩
    · rw [dif_neg h]; exact ⟨hc, hw, Nat.le_refl _⟩
theorem CaI.new {me : Int} (h : isMember me = true) : CaI (caNew me) := ⟨h, (show vecErr zeroClk = 0 by decide), by simp [caNew], by simp [caNew]⟩
theorem CaI.say {c : Ca} (h : CaI c) (w : Int) : CaI (caSay c w) := by
  unfold caSay
  by_cases he : caSayErr c w = 0
  rotate_left
  · rw [if_neg he]; exact h
  rw [if_pos he]
  unfold caSayErr at he
  cases h1 : isWord w
  · rw [if_pos h1] at he; cases he
  rw [if_neg (by rw [h1]; simp)] at he
  by_cases h2 : caAt c.clk c.me = 1000000
  · rw [if_pos h2] at he; cases he
  have h3 := vec_get h.clk c.me.toNat
  exact ⟨h.me, vec_set h.clk _ (by unfold caAt at *; omega), h.len, h.ok⟩
theorem CaI.take {c : Ca} (h : CaI c) (s : Sd) : CaI (caTake c s) := by
  unfold caTake
  by_cases he : caErr c s = 0
  rotate_left
  · rw [if_neg he]; exact h
  rw [if_pos he]
  obtain ⟨h1, h2, h3, h4, h5, h6⟩ := caErr0 he
  cases hr : caReady c.clk s
  · rw [if_neg (by simp)]
    refine ⟨h.me, h.clk, ?_, fun x hx => ?_⟩
    · show (c.waits ++ [s]).length ≤ 40
      rw [hr] at h6
      simp at h6 ⊢
      omega
    · rcases List.mem_append.1 hx with hx | hx
      · exact h.ok x hx
      · rw [List.mem_singleton.1 hx]; exact h1
  · rw [if_pos rfl]
    have hb := (caReady_bump h.clk h1 hr).1
    obtain ⟨a, b, d⟩ := caHear_ok c.waits.length _ c.waits hb h.ok
    exact ⟨h.me, a, Nat.le_trans d h.len, b⟩
theorem caOut_len {c : Ca} (k : Nat) : ∀ (clk : List Int) (ws : List Sd), (caHear k clk ws).2.2.length ≤ k := by
  induction k with
  | zero => intro clk ws; exact Nat.le_refl _
  | succ k ih =>
    intro clk ws
    unfold caHear
    by_cases h : ((whereI (caReady clk) ws).toNat < ws.length ∧ 0 ≤ whereI (caReady clk) ws)
    · rw [dif_pos h]
      have := ih (caBump clk ws[(whereI (caReady clk) ws).toNat].who) (ws.eraseIdx (whereI (caReady clk) ws).toNat)
      simp only [List.length_cons]
      omega
    · rw [dif_neg h]; exact Nat.zero_le _
end Go.Proofs.YtdfjbnfdknpahaaGreatDoor
/- Contracts of package fifo. -/
namespace Go.Proofs.YtdfjbnfdknpahaaGreatDoor
set_option linter.unusedVariables false
set_option linter.unusedSimpArgs false
open Go.RowKit Go.Maps
def ikv (n : Int) : Value := .int .i64 n
/-- A place: whose a word is, and which. -/
def plV (x : Int × Int) : Value := .agg #[.int .i64 x.1, .int .i64 x.2]
def plOk (x : Int × Int) : Prop := I64 x.1 ∧ I64 x.2
structure Fi where
  next : List Int
  waits : List ((Int × Int) × Int)
abbrev PMp (mb : Nat) (m : List ((Int × Int) × Int)) : HProp := Mp plV plOk mb (mvals ikv m)
def fiCells (f : Fi) (mb : Nat) : List Value := f.next.map (.int .i64) ++ [.map (some mb)]
def fiN (f : Fi) (who : Int) : Int := f.next.getD who.toNat 0
def fiHas (f : Fi) (who n : Int) : Bool := (mget f.waits (who, n)).isSome || decide (n < fiN f who)
/-- The words that are ready, from the number n on: these, the next number, what waits. -/
def fiDrain (who : Int) : Nat → Int → List ((Int × Int) × Int) → List Int × Int × List ((Int × Int) × Int)
  | 0, n, m => ([], n, m)
  | k + 1, n, m => match mget m (who, n) with
    | none => ([], n, m)
    | some x => let r := fiDrain who k (n + 1) (mdel m (who, n)); (x :: r.1, r.2.1, r.2.2)
def fiErr (f : Fi) (who n word : Int) : Nat :=
  if isMember who = false then 1 else if n < 1 then 1 else if 1000000 < n then 1 else if isWord word = false then 1 else if fiHas f who n = true then 7
  else if n ≠ fiN f who ∧ 40 ≤ f.waits.length then 4 else 0
def fiEnd (f : Fi) (who n word : Int) : List Int × Int × List ((Int × Int) × Int) := fiDrain who (mput f.waits (who, n) word).length (fiN f who) (mput f.waits (who, n) word)
def fiOut (f : Fi) (who n word : Int) : List Int := if fiErr f who n word = 0 then (fiEnd f who n word).1 else []
def fiTake (f : Fi) (who n word : Int) : Fi := if fiErr f who n word = 0 then ⟨f.next.set who.toNat (fiEnd f who n word).2.1, (fiEnd f who n word).2.2⟩ else f
def fiFit (f : Fi) : Prop := f.next.length = 5 ∧ (∀ x ∈ f.next, 1 ≤ x ∧ x ≤ 1000001) ∧ f.waits.length ≤ 40 ∧ (∀ p ∈ f.waits, 1 ≤ p.1.2 ∧ p.1.2 ≤ 1000000 ∧ 1 ≤ p.2 ∧ p.2 ≤ 30)
def fiNew : Fi := ⟨[1, 1, 1, 1, 1], []⟩
theorem fi_zero : ∀ w, (zeroValue 3).run Tryz.prog w = .ok (.int .i64 0) w := fun _ => by kernel_rfl
theorem mput_len_le (m : List ((Int × Int) × Int)) (x : Int × Int) (v : Int) : (mput m x v).length ≤ m.length + 1 := by
  have := congrArg List.length (mput_keys m x v)
  simp only [List.length_map] at this
  rw [this]
  split <;> simp
theorem mget_mem {m : List ((Int × Int) × Int)} {x : Int × Int} {v : Int} (h : mget m x = some v) : (x, v) ∈ m := by
  induction m with
  | nil => simp [mget] at h
  | cons p r ih =>
    unfold mget at h
    by_cases e : p.1 = x
    · rw [if_pos e] at h; injection h with h
      exact List.mem_cons.2 (.inl (by rw [← e, ← h]))
    · rw [if_neg e] at h; exact List.mem_cons.2 (.inr (ih h))
theorem fi_errV1 : errV 1 = .iface 90 (.int .i64 1) := rfl
end Go.Proofs.YtdfjbnfdknpahaaGreatDoor
/- Package net, plainly: what is on its way, and what is cut. -/
namespace Go.Proofs.YtdfjbnfdknpahaaGreatDoor
set_option linter.unusedVariables false
set_option linter.unusedSimpArgs false
open Go.RowKit Go.Maps
/-- A set of ways as a map. -/
def setW (ss : List (Int × Int)) : List ((Int × Int) × Value) := ss.map fun x => (x, Value.bool true)
theorem setW_mem {ss : List (Int × Int)} {p : (Int × Int) × Value} (h : p ∈ setW ss) : p.1 ∈ ss := by
  obtain ⟨y, hy, rfl⟩ := List.mem_map.1 h
  exact hy
theorem mget_setW (ss : List (Int × Int)) (x : Int × Int) : (mget (setW ss) x).getD (.bool false) = .bool (decide (x ∈ ss)) := by
  induction ss with
  | nil => rfl
  | cons y r ih =>
    unfold setW at ih ⊢
    rw [List.map_cons]; unfold mget
    by_cases h : y = x
    · simp [h]
    · rw [if_neg h, ih]
      have h' : ¬ x = y := fun e => h e.symm
      simp [h']
def wayPut (ss : List (Int × Int)) (x : Int × Int) : List (Int × Int) := if x ∈ ss then ss else ss ++ [x]
def wayDel : List (Int × Int) → Int × Int → List (Int × Int)
  | [], _ => []
  | y :: r, x => if y = x then r else y :: wayDel r x
theorem mput_setW_old {ss : List (Int × Int)} {x : Int × Int} (h : x ∈ ss) : mput (setW ss) x (.bool true) = setW ss := by
  induction ss with
  | nil => cases h
  | cons y r ih =>
    unfold setW at ih ⊢
    rw [List.map_cons]; unfold mput
    by_cases e : y = x
    · simp [e]
    · rw [if_neg e, ih (by rcases List.mem_cons.1 h with h | h
                           · exact absurd h.symm e
                           · exact h)]
theorem mput_setW (ss : List (Int × Int)) (x : Int × Int) : mput (setW ss) x (.bool true) = setW (wayPut ss x) := by
  unfold wayPut
  by_cases h : x ∈ ss
  · rw [if_pos h, mput_setW_old h]
  · rw [if_neg h]
    unfold setW
    rw [mput_new (by intro p hp e; obtain ⟨y, hy, rfl⟩ := List.mem_map.1 hp; simp at e; exact h (e ▸ hy)), List.map_append]; rfl
theorem mdel_setW (ss : List (Int × Int)) (x : Int × Int) : mdel (setW ss) x = setW (wayDel ss x) := by
  induction ss with
  | nil => rfl
  | cons y r ih =>
    unfold setW at ih ⊢
    unfold wayDel
    rw [List.map_cons]; unfold mdel
    by_cases e : y = x
    · rw [if_pos e, if_pos e]
    · rw [if_neg e, if_neg e, ih]; rfl
theorem setW_keys (ss : List (Int × Int)) : (setW ss).map (·.1) = ss := by unfold setW; rw [List.map_map]; exact List.map_id' ss
theorem mem_wayPut {ss : List (Int × Int)} {x y : Int × Int} : y ∈ wayPut ss x ↔ y ∈ ss ∨ y = x := by
  unfold wayPut
  by_cases h : x ∈ ss
  · rw [if_pos h]; exact ⟨.inl, fun hh => hh.elim id (fun e => e ▸ h)⟩
  · rw [if_neg h]; simp
theorem mem_wayDel {ss : List (Int × Int)} (hn : ss.Nodup) {x y : Int × Int} : y ∈ wayDel ss x ↔ y ∈ ss ∧ y ≠ x := by
  induction ss with
  | nil => simp [wayDel]
  | cons z r ih =>
    rw [List.nodup_cons] at hn
    unfold wayDel
    by_cases e : z = x
    · subst e
      rw [if_pos rfl, List.mem_cons]
      constructor
      · intro h; exact ⟨.inr h, fun e => hn.1 (e ▸ h)⟩
      · rintro ⟨h | h, h2⟩
        · exact absurd h h2
        · exact h
    · rw [if_neg e, List.mem_cons, ih hn.2, List.mem_cons]
      constructor
      · rintro (h | ⟨h, h2⟩)
        · exact ⟨.inl h, fun e' => e (h ▸ e')⟩
        · exact ⟨.inr h, h2⟩
      · rintro ⟨h | h, h2⟩
        · exact .inl h
        · exact .inr ⟨h, h2⟩
theorem wayPut_nodup {ss : List (Int × Int)} {x : Int × Int} (h : ss.Nodup) : (wayPut ss x).Nodup := by
  unfold wayPut
  by_cases hx : x ∈ ss
  · rw [if_pos hx]; exact h
  · rw [if_neg hx]
    refine List.nodup_append.2 ⟨h, by simp, fun a ha b hb => ?_⟩
    rw [List.mem_singleton.1 hb]
    rintro rfl
    exact hx ha
theorem wayDel_sub {ss : List (Int × Int)} {x y : Int × Int} (h : y ∈ wayDel ss x) : y ∈ ss := by
  induction ss with
  | nil => cases h
  | cons z r ih =>
    unfold wayDel at h
    by_cases e : z = x
    · rw [if_pos e] at h; exact List.mem_cons_of_mem _ h
    · rw [if_neg e] at h
      rcases List.mem_cons.1 h with h | h
      · exact h ▸ List.mem_cons_self ..
      · exact List.mem_cons_of_mem _ (ih h)
theorem wayDel_nodup {ss : List (Int × Int)} {x : Int × Int} (h : ss.Nodup) : (wayDel ss x).Nodup := by
  induction ss with
  | nil => exact h
  | cons z r ih =>
    rw [List.nodup_cons] at h
    unfold wayDel
    by_cases e : z = x
    · rw [if_pos e]; exact h.2
    · rw [if_neg e]; exact List.nodup_cons.2 ⟨fun hc => h.1 (wayDel_sub hc), ih h.2⟩
/-- A net: packets (from, to, word), and the ways that are cut. -/
structure Nt where
  all : List Ev
  cut : List (Int × Int)
def wayOf (a b : Int) : Int × Int := (min a b, max a b)
def pkErr (p : Ev) : Nat := if isMember p.1 = false then 1 else if isMember p.2.1 = false then 1 else if isWord p.2.2 = false then 1 else if p.1 = p.2.1 then 3 else 0
def ntErr (s : Nt) (p : Ev) : Nat := if pkErr p ≠ 0 then pkErr p else if 40 ≤ s.all.length then 4 else 0
def ntSend (s : Nt) (p : Ev) : Nt := if ntErr s p = 0 then { s with all := s.all ++ [p] } else s
def ntHas (s : Nt) (i : Int) : Bool := inR i s.all.length
def ntAt (s : Nt) (i : Int) : Ev := s.all.getD i.toNat (0, 0, 0)
def ntOut (s : Nt) (i : Int) : Nt := { s with all := s.all.eraseIdx i.toNat }
def ntCutAt (s : Nt) (i : Int) : Bool := decide (wayOf (ntAt s i).1 (ntAt s i).2.1 ∈ s.cut)
def ntGiveErr (s : Nt) (i : Int) : Nat := if ntHas s i = false then 1 else if ntCutAt s i = true then 6 else 0
def ntGive (s : Nt) (i : Int) : Nt := if ntGiveErr s i = 0 then ntOut s i else s
def ntGiven (s : Nt) (i : Int) : Ev := if ntGiveErr s i = 0 then ntAt s i else (0, 0, 0)
def ntDropErr (s : Nt) (i : Int) : Nat := if ntHas s i = false then 1 else 0
def ntDrop (s : Nt) (i : Int) : Nt := if ntDropErr s i = 0 then ntOut s i else s
def ntTwiceErr (s : Nt) (i : Int) : Nat := if ntHas s i = false then 1 else ntErr s (ntAt s i)
def ntTwice (s : Nt) (i : Int) : Nt := if ntTwiceErr s i = 0 then ntSend s (ntAt s i) else s
def ntCutErr (a b : Int) : Nat := if isMember a = false then 1 else if isMember b = false then 1 else if a = b then 3 else 0
def ntCut (s : Nt) (a b : Int) (is : Bool) : Nt := if ntCutErr a b = 0 then { s with cut := if is then wayPut s.cut (wayOf a b) else wayDel s.cut (wayOf a b) } else s
/-- What holds of a net, whatever is done. -/
structure NtI (s : Nt) : Prop where
  len : s.all.length ≤ 40
  ok : ∀ p ∈ s.all, pkErr p = 0
  nd : s.cut.Nodup
  mem : ∀ x ∈ s.cut, isMember x.1 = true ∧ isMember x.2 = true
theorem pkErr0 {p : Ev} (h : pkErr p = 0) : isMember p.1 = true ∧ isMember p.2.1 = true ∧ isWord p.2.2 = true ∧ p.1 ≠ p.2.1 := by
  unfold pkErr at h
  cases h1 : isMember p.1
  · rw [if_pos h1] at h; cases h
  rw [if_neg (by rw [h1]; simp)] at h
  cases h2 : isMember p.2.1
  · rw [if_pos h2] at h; cases h
  rw [if_neg (by rw [h2]; simp)] at h
  cases h3 : isWord p.2.2
  · rw [if_pos h3] at h; cases h
  rw [if_neg (by rw [h3]; simp)] at h
  by_cases h4 : p.1 = p.2.1
  · rw [if_pos h4] at h; cases h
  · exact ⟨rfl, rfl, rfl, h4⟩
theorem ntErr0 {s : Nt} {p : Ev} (h : ntErr s p = 0) : pkErr p = 0 ∧ s.all.length < 40 := by
  unfold ntErr at h
  by_cases h1 : pkErr p = 0
  · rw [if_neg (by rw [h1]; simp)] at h
    by_cases h2 : 40 ≤ s.all.length
    · rw [if_pos h2] at h; cases h
    · exact ⟨h1, by omega⟩
  · rw [if_pos h1] at h; exact absurd h h1
theorem ntHas_iff {s : Nt} {i : Int} : ntHas s i = true ↔ 0 ≤ i ∧ i < s.all.length := by unfold ntHas inR; simp
theorem ntAt_mem {s : Nt} {i : Int} (h : ntHas s i = true) : ntAt s i ∈ s.all := by
  obtain ⟨h1, h2⟩ := ntHas_iff.1 h
  unfold ntAt
  rw [List.getD_eq_getElem?_getD, List.getElem?_eq_getElem (by omega)]
  exact List.getElem_mem _
theorem NtI.new : NtI ⟨[], []⟩ := ⟨by simp, by simp, List.nodup_nil, by simp⟩
theorem NtI.send {s : Nt} (h : NtI s) (p : Ev) : NtI (ntSend s p) := by
  unfold ntSend
  by_cases he : ntErr s p = 0
  · rw [if_pos he]
    obtain ⟨h1, h2⟩ := ntErr0 he
    refine ⟨by simp; omega, fun q hq => ?_, h.nd, h.mem⟩
    rcases List.mem_append.1 hq with hq | hq
    · exact h.ok q hq
    · rw [List.mem_singleton.1 hq]; exact h1
  · rw [if_neg he]; exact h
theorem NtI.out {s : Nt} (h : NtI s) (i : Int) : NtI (ntOut s i) :=
  ⟨Nat.le_trans (List.length_eraseIdx_le ..) h.len, fun q hq => h.ok q (List.mem_of_mem_eraseIdx hq), h.nd, h.mem⟩
theorem NtI.give {s : Nt} (h : NtI s) (i : Int) : NtI (ntGive s i) := by
  unfold ntGive; split
  · exact h.out i
  · exact h
theorem NtI.drop {s : Nt} (h : NtI s) (i : Int) : NtI (ntDrop s i) := by
  unfold ntDrop; split
  · exact h.out i
  · exact h
theorem NtI.twice {s : Nt} (h : NtI s) (i : Int) : NtI (ntTwice s i) := by
  unfold ntTwice; split
  · exact h.send _
  · exact h
theorem ntCutErr0 {a b : Int} (h : ntCutErr a b = 0) : isMember a = true ∧ isMember b = true ∧ a ≠ b := by
  unfold ntCutErr at h
  cases h1 : isMember a
  · rw [if_pos h1] at h; cases h
  rw [if_neg (by rw [h1]; simp)] at h
  cases h2 : isMember b
  · rw [if_pos h2] at h; cases h
  rw [if_neg (by rw [h2]; simp)] at h
  by_cases h4 : a = b
  · rw [if_pos h4] at h; cases h
  · exact ⟨rfl, rfl, h4⟩
theorem wayOf_mem {a b : Int} (ha : isMember a = true) (hb : isMember b = true) : isMember (wayOf a b).1 = true ∧ isMember (wayOf a b).2 = true := by
  unfold wayOf
  simp only [isMember, Bool.and_eq_true, decide_eq_true_eq] at *
  omega
theorem NtI.cut' {s : Nt} (h : NtI s) (a b : Int) (is : Bool) : NtI (ntCut s a b is) := by
  unfold ntCut
  by_cases he : ntCutErr a b = 0
  rotate_left
  · rw [if_neg he]; exact h
  rw [if_pos he]
  obtain ⟨h1, h2, _⟩ := ntCutErr0 he
  refine ⟨h.len, h.ok, ?_, fun x hx => ?_⟩
  · cases is
    · exact wayDel_nodup h.nd
    · exact wayPut_nodup h.nd
  · cases is
    · exact h.mem x (wayDel_sub hx)
    · rcases mem_wayPut.1 hx with hx | rfl
      · exact h.mem x hx
      · exact wayOf_mem h1 h2
theorem wayOf_comm (a b : Int) : wayOf a b = wayOf b a := by unfold wayOf; rw [Int.min_comm, Int.max_comm]
theorem wayOf_inj {a b c d : Int} (h : wayOf a b = wayOf c d) : (a = c ∧ b = d) ∨ (a = d ∧ b = c) := by
  unfold wayOf at h
  injection h with h1 h2
  omega
end Go.Proofs.YtdfjbnfdknpahaaGreatDoor
