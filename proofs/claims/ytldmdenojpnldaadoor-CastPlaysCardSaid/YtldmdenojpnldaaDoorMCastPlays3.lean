/- Package cause, plainly: a member, for whom words may wait. -/
import Derived.Test.YtldmdenojpnldaaDoorMCastPlays1
import Derived.Test.YtldmdenojpnldaaDoorMCastPlays2
import Derived.Test.YtldmdenojpnldaaDoorMCastPlays0
import Derived.Test.YtldmdenojpnldaaDoorProg
import Derived.ProofKit
import Derived.OpenShut
import Derived.ShutString
import Derived.ChangeOld
import Derived.Deep.Slices
import Derived.SizedLaws
import Derived.KernelRfl
import Derived.ChangeArms
import Derived.Deep.Fields
import Derived.Deep.RegionHeld3
namespace Go.Proofs.YtldmdenojpnldaaDoor
set_option linter.unusedVariables false
set_option linter.unusedSimpArgs false
open Go.RowKit Go.Maps
/-- A word: who said it, which, and what it knew. -/
structure Sd where
  who : Int
  word : Int
  clk : List Int
structure Ca where
  me : Int
  clk : List Int
  waits : List Sd
def caAt (clk : List Int) (i : Int) : Int := clk.getD i.toNat 0
def caBump (clk : List Int) (i : Int) : List Int := clk.set i.toNat (caAt clk i + 1)
def caOk1 (clk : List Int) (s : Sd) (i : Nat) : Bool := if (i : Int) = s.who then decide (s.clk.getD i 0 = clk.getD i 0 + 1) else decide (s.clk.getD i 0 ≤ clk.getD i 0)
/-- Is a word ready to be heard? -/
def caReady (clk : List Int) (s : Sd) : Bool := (List.range 5).all fun i => caOk1 clk s i
def sdErr (s : Sd) : Nat := if isMember s.who = false then 1 else if isWord s.word = false then 1 else vecErr s.clk
def caSame (s x : Sd) : Bool := decide (x.who = s.who) && decide (caAt x.clk x.who = caAt s.clk s.who)
def caErr (c : Ca) (s : Sd) : Nat := if sdErr s ≠ 0 then sdErr s else if s.who = c.me then 3 else if caAt s.clk s.who = 0 then 1 else if caAt s.clk s.who ≤ caAt c.clk s.who then 7 else
  if c.waits.any (caSame s) = true then 7 else if 40 ≤ c.waits.length ∧ caReady c.clk s = false then 4 else 0
def caHear : Nat → List Int → List Sd → List Int × List Sd × List Int
  | 0, clk, ws => (clk, ws, [])
  | k + 1, clk, ws => if h : ((whereI (caReady clk) ws).toNat < ws.length ∧ 0 ≤ whereI (caReady clk) ws) then
      let r := caHear k (caBump clk ws[(whereI (caReady clk) ws).toNat].who) (ws.eraseIdx (whereI (caReady clk) ws).toNat)
      (r.1, r.2.1, ws[(whereI (caReady clk) ws).toNat].word :: r.2.2)
    else (clk, ws, [])
def caRun (c : Ca) (s : Sd) : List Int × List Sd × List Int := caHear c.waits.length (caBump c.clk s.who) c.waits
def caTake (c : Ca) (s : Sd) : Ca := if caErr c s = 0 then (if caReady c.clk s = true then ⟨c.me, (caRun c s).1, (caRun c s).2.1⟩ else ⟨c.me, c.clk, c.waits ++ [s]⟩) else c
def caOut (c : Ca) (s : Sd) : List Int := if caErr c s = 0 then (if caReady c.clk s = true then s.word :: (caRun c s).2.2 else []) else []
def caSayErr (c : Ca) (w : Int) : Nat := if isWord w = false then 1 else if caAt c.clk c.me = 1000000 then 4 else 0
def caSay (c : Ca) (w : Int) : Ca := if caSayErr c w = 0 then ⟨c.me, caBump c.clk c.me, c.waits⟩ else c
def caSaid (c : Ca) (w : Int) : Sd := if caSayErr c w = 0 then ⟨c.me, w, caBump c.clk c.me⟩ else ⟨0, 0, []⟩
def zeroClk : List Int := [0, 0, 0, 0, 0]
def caNew (me : Int) : Ca := ⟨me, zeroClk, []⟩
structure CaI (c : Ca) : Prop where
  me : isMember c.me = true
  clk : vecErr c.clk = 0
  len : c.waits.length ≤ 40
  ok : ∀ s ∈ c.waits, sdErr s = 0
theorem sdErr0 {s : Sd} (h : sdErr s = 0) : isMember s.who = true ∧ isWord s.word = true ∧ vecErr s.clk = 0 := by
  unfold sdErr at h
  cases h1 : isMember s.who
  · rw [if_pos h1] at h; cases h
  rw [if_neg (by rw [h1]; simp)] at h
  cases h2 : isWord s.word
  · rw [if_pos h2] at h; cases h
  rw [if_neg (by rw [h2]; simp)] at h
  exact ⟨rfl, rfl, h⟩
theorem caErr0 {c : Ca} {s : Sd} (h : caErr c s = 0) : sdErr s = 0 ∧ s.who ≠ c.me ∧ caAt s.clk s.who ≠ 0 ∧ caAt c.clk s.who < caAt s.clk s.who ∧ c.waits.any (caSame s) = false ∧ (c.waits.length < 40 ∨ caReady c.clk s = true) := by
  unfold caErr at h
  by_cases h1 : sdErr s = 0
  rotate_left
  · rw [if_pos h1] at h; exact absurd h h1
  rw [if_neg (by rw [h1]; simp)] at h
  by_cases h2 : s.who = c.me
  · rw [if_pos h2] at h; cases h
  rw [if_neg h2] at h
  by_cases h3 : caAt s.clk s.who = 0
  · rw [if_pos h3] at h; cases h
  rw [if_neg h3] at h
  by_cases h4 : caAt s.clk s.who ≤ caAt c.clk s.who
  · rw [if_pos h4] at h; cases h
  rw [if_neg h4] at h
  cases h5 : c.waits.any (caSame s)
  rotate_left
  · rw [if_pos h5] at h; cases h
  rw [if_neg (by rw [h5]; simp)] at h
  refine ⟨h1, h2, h3, by omega, rfl, ?_⟩
  by_cases h6 : 40 ≤ c.waits.length ∧ caReady c.clk s = false
  · rw [if_pos h6] at h; cases h
  · rcases Nat.lt_or_ge c.waits.length 40 with h7 | h7
    · exact .inl h7
    · right
      cases hr : caReady c.clk s
      · exact absurd ⟨h7, hr⟩ h6
      · rfl
theorem vecErr_iff {l : List Int} : vecErr l = 0 ↔ l.length = 5 ∧ ∀ x ∈ l, 0 ≤ x ∧ x ≤ 1000000 := by
  refine ⟨vecErr0, fun ⟨h5, hb⟩ => ?_⟩
  unfold vecErr
  rw [if_neg (by rw [h5]; simp), if_neg]
  intro hc
  obtain ⟨x, hx, h⟩ := List.any_eq_true.1 hc
  have := hb x hx
  simp [isCount] at h
  omega
theorem vec_get {l : List Int} (h : vecErr l = 0) (i : Nat) : 0 ≤ l.getD i 0 ∧ l.getD i 0 ≤ 1000000 := by
  rw [List.getD_eq_getElem?_getD]
  rcases Nat.lt_or_ge i l.length with hi | hi
  · rw [List.getElem?_eq_getElem hi]
    exact (vecErr0 h).2 _ (List.getElem_mem hi)
  · rw [List.getElem?_eq_none hi]
    show 0 ≤ (0 : Int) ∧ (0 : Int) ≤ 1000000
    omega
theorem vec_set {l : List Int} (h : vecErr l = 0) (i : Nat) {x : Int} (hx : 0 ≤ x ∧ x ≤ 1000000) : vecErr (l.set i x) = 0 := by
  obtain ⟨h5, hb⟩ := vecErr0 h
  refine vecErr_iff.2 ⟨by simp [h5], fun y hy => ?_⟩
  rcases List.mem_or_eq_of_mem_set hy with hy | rfl
  · exact hb y hy
  · exact hx
theorem caReady_at {clk : List Int} {s : Sd} (h : caReady clk s = true) {i : Nat} (hi : i < 5) : caOk1 clk s i = true := by
  unfold caReady at h
  exact List.all_eq_true.1 h i (List.mem_range.2 hi)
theorem caReady_bump {clk : List Int} {s : Sd} (hc : vecErr clk = 0) (hs : sdErr s = 0) (h : caReady clk s = true) : vecErr (caBump clk s.who) = 0 ∧ caAt s.clk s.who = caAt clk s.who + 1 := by
  obtain ⟨h1, h2, h3⟩ := sdErr0 hs
  have hm : 0 ≤ s.who ∧ s.who < 5 := by simpa [isMember] using h1
  have h4 := caReady_at h (i := s.who.toNat) (by omega)
  unfold caOk1 at h4
  rw [if_pos (by omega), decide_eq_true_iff] at h4
  have h5 := vec_get h3 s.who.toNat
  have h6 := vec_get hc s.who.toNat
  refine ⟨vec_set hc _ ?_, h4⟩
  unfold caAt
  omega
theorem caHear_ok : ∀ (k : Nat) (clk : List Int) (ws : List Sd), vecErr clk = 0 → (∀ s ∈ ws, sdErr s = 0) → vecErr (caHear k clk ws).1 = 0 ∧ (∀ s ∈ (caHear k clk ws).2.1, sdErr s = 0) ∧ (caHear k clk ws).2.1.length ≤ ws.length
  | 0, clk, ws, hc, hw => ⟨hc, hw, Nat.le_refl _⟩
  | k + 1, clk, ws, hc, hw => by
    unfold caHear
    by_cases h : ((whereI (caReady clk) ws).toNat < ws.length ∧ 0 ≤ whereI (caReady clk) ws)
    · rw [dif_pos h]
      simp only
      have hr : caReady clk ws[(whereI (caReady clk) ws).toNat] = true := by
        rcases whereI_cases (caReady clk) ws with ⟨h1, _⟩ | ⟨j, hj, h1, h2, _⟩
        · omega
        · have : (whereI (caReady clk) ws).toNat = j := by omega
          simp only [this]; exact h2
      have h1 := caReady_bump hc (hw _ (List.getElem_mem h.1)) hr
      obtain ⟨a, b, d⟩ := caHear_ok k _ (ws.eraseIdx (whereI (caReady clk) ws).toNat) h1.1 (fun s hs => hw s (List.mem_of_mem_eraseIdx hs))
      exact ⟨a, b, Nat.le_trans d (List.length_eraseIdx_le ..)⟩
    · rw [dif_neg h]; exact ⟨hc, hw, Nat.le_refl _⟩
theorem CaI.new {me : Int} (h : isMember me = true) : CaI (caNew me) := ⟨h, (show vecErr zeroClk = 0 by decide), by simp [caNew], by simp [caNew]⟩
theorem CaI.say {c : Ca} (h : CaI c) (w : Int) : CaI (caSay c w) := by
  unfold caSay
  by_cases he : caSayErr c w = 0
  rotate_left
  · rw [if_neg he]; exact h
  rw [if_pos he]
  unfold caSayErr at he
  cases h1 : isWord w
  · rw [if_pos h1] at he; cases he
  rw [if_neg (by rw [h1]; simp)] at he
  by_cases h2 : caAt c.clk c.me = 1000000
  · rw [if_pos h2] at he; cases he
  have h3 := vec_get h.clk c.me.toNat
  exact ⟨h.me, vec_set h.clk _ (by unfold caAt at *; omega), h.len, h.ok⟩
theorem CaI.take {c : Ca} (h : CaI c) (s : Sd) : CaI (caTake c s) := by
  unfold caTake
  by_cases he : caErr c s = 0
  rotate_left
  · rw [if_neg he]; exact h
  rw [if_pos he]
  obtain ⟨h1, h2, h3, h4, h5, h6⟩ := caErr0 he
  cases hr : caReady c.clk s
  · rw [if_neg (by simp)]
    refine ⟨h.me, h.clk, ?_, fun x hx => ?_⟩
    · show (c.waits ++ [s]).length ≤ 40
      rw [hr] at h6
      simp at h6 ⊢
      omega
    · rcases List.mem_append.1 hx with hx | hx
      · exact h.ok x hx
      · rw [List.mem_singleton.1 hx]; exact h1
  · rw [if_pos rfl]
    have hb := (caReady_bump h.clk h1 hr).1
    obtain ⟨a, b, d⟩ := caHear_ok c.waits.length _ c.waits hb h.ok
    exact ⟨h.me, a, Nat.le_trans d h.len, b⟩
theorem caOut_len {c : Ca} (k : Nat) : ∀ (clk : List Int) (ws : List Sd), (caHear k clk ws).2.2.length ≤ k := by
  induction k with
  | zero => intro clk ws; exact Nat.le_refl _
  | succ k ih =>
    intro clk ws
    unfold caHear
    by_cases h : ((whereI (caReady clk) ws).toNat < ws.length ∧ 0 ≤ whereI (caReady clk) ws)
    · rw [dif_pos h]
      have := ih (caBump clk ws[(whereI (caReady clk) ws).toNat].who) (ws.eraseIdx (whereI (caReady clk) ws).toNat)
      simp only [List.length_cons]
      omega
    · rw [dif_neg h]; exact Nat.zero_le _
end Go.Proofs.YtldmdenojpnldaaDoor
/- Contracts of package stable, the second part. -/
namespace Go.Proofs.YtldmdenojpnldaaDoor
set_option linter.unusedVariables false
set_option linter.unusedSimpArgs false
open Go.RowKit
def zero5 : List Int := [0, 0, 0, 0, 0]
theorem vecErr_zero5 : vecErr zero5 = 0 := by decide
/-- The block of a new row is an owned list. -/
theorem Own.zero5 {w0 w : World} {b : Nat} {R : HProp} (h : Own w0 (blk b (.cells #[.int .i64 0, .int .i64 0, .int .i64 0, .int .i64 0, .int .i64 0] 3 (0, 0)) * R) w) : Own w0 (IntSl (.slice (some ⟨b, 0, none⟩) 5 5) Go.Proofs.YtldmdenojpnldaaDoor.zero5 * R) w :=
  Own.sl_mk (by decide) (by unfold maxLen; decide) (by rfl) (by decide) (fun i hi => by
    match i, hi with
    | 0, _ => rfl
    | 1, _ => rfl
    | 2, _ => rfl
    | 3, _ => rfl
    | 4, _ => rfl
    | n + 5, h => simp [Go.Proofs.YtldmdenojpnldaaDoor.zero5] at h; omega) h
end Go.Proofs.YtldmdenojpnldaaDoor
/- How the arguments of a law read, as plain facts on the world in which the call begins. -/
namespace Go.Proofs.YtldmdenojpnldaaDoor
set_option linter.unusedVariables false
set_option linter.unusedSimpArgs false
open Go.ChangeShapes Go.WideShapes Go.ChangeAt Go.RowKit Go.Deep
open Go.ChangeMaps (open_string shut_string)
variable {H : Type} {enc : TypeId × Value → H} {w : World} {b0 : Nat} {d : DataW H} {p : List MemPlace} {v : Value}
set_option maxRecDepth 100000 in
theorem arg_int (hv : Value.okWide Tryd.prog w .any b0 3 v) (h : DataW.Trod enc Tryd.prog w 0 (fun _ => true) true 3 v d p) : ∃ a : Int, v = .int .i64 a ∧ I64 a := by
  obtain ⟨n, e, _, _, hw⟩ := open_int Tryd.underlying3 hv h
  exact ⟨n, e, I64_of_wf hw⟩
set_option maxRecDepth 100000 in
theorem arg_bool (hv : Value.okWide Tryd.prog w .any b0 4 v) (h : DataW.Trod enc Tryd.prog w 0 (fun _ => true) true 4 v d p) : ∃ a : Bool, v = .bool a := by
  obtain ⟨n, e, _⟩ := open_bool Tryd.underlying4 hv h
  exact ⟨n, e⟩
set_option maxRecDepth 100000 in
theorem arg_string (hv : Value.okWide Tryd.prog w .any b0 9 v) (h : DataW.Trod enc Tryd.prog w 0 (fun _ => true) true 9 v d p) : ∃ a : ByteArray, v = .string a ∧ a.size ≤ maxLen := by
  obtain ⟨n, e, _, _, hw⟩ := open_string Tryd.underlying9 hv h
  exact ⟨n, e, hw⟩
theorem cells_int : Tryd.prog.cellsOf 3 = 1 := by kernel_rfl
/-- A slice of ints, off its cells' reading. -/
theorem trod_ints {fuel : Nat} {cs : List Value} {x : DataW H × List MemPlace} (h : DataW.trod enc Tryd.prog w 0 (fun _ => true) true fuel 36 cs = some x) : ∃ v l, cs = [v] ∧ Ints w v l := by
  rcases open_ints Tryd.underlying36 Tryd.underlying3 cells_int h with ⟨rfl, _⟩ | ⟨a, len, cap, zs, rfl, _, hl, hm, hz, _, hc, hw⟩
  · exact ⟨_, [], rfl, Ints_nil _⟩
  · have hz' : zs.length = cap := by simpa using hz
    refine ⟨_, zs.take len, rfl, ⟨some a, cap, by simp; omega, by simp; omega, hm, by simp, fun i u hi => ⟨a, rfl, ?_⟩⟩, fun y hy => I64_of_wf (hw y (List.mem_of_mem_take hy))⟩
    rw [List.getElem?_map, Option.map_eq_some_iff] at hi
    obtain ⟨y, hy, rfl⟩ := hi
    rw [List.getElem?_take] at hy
    split at hy
    · rename_i hlt
      rw [hc i (by omega), List.getD, hy]; rfl
    · cases hy
set_option maxRecDepth 100000 in
theorem arg_ints (hv : Value.okWide Tryd.prog w .any b0 36 v) (h : DataW.Trod enc Tryd.prog w 0 (fun _ => true) true 36 v d p) : ∃ l, Ints w v l := by
  obtain ⟨ad, n, c, rfl⟩ := okWide_slice Tryd.underlying36 hv
  obtain ⟨fuel, hf⟩ := h
  obtain ⟨v', l, he, hr⟩ := trod_ints hf
  simp [Value.cells] at he
  exact ⟨l, he ▸ hr⟩
theorem cells_ints : Tryd.prog.cellsOf 36 = 1 := by kernel_rfl
set_option maxRecDepth 100000 in
theorem arg_rows (hv : Value.okWide Tryd.prog w .any b0 39 v) (h : DataW.Trod enc Tryd.prog w 0 (fun _ => true) true 39 v d p) : ∃ ll, Rows2 w v ll := by
  obtain ⟨ad, n, c, rfl⟩ := okWide_slice Tryd.underlying39 hv
  obtain ⟨fuel, hf⟩ := h
  rcases open_slice1 Tryd.underlying39 cells_ints hf with ⟨he, _⟩ | ⟨a, len, cap, m, k, V, D, Pl, he, _, hl, hm, hmm, _, hx⟩
  · simp [Value.cells] at he
    obtain ⟨rfl, rfl, rfl⟩ := he
    exact ⟨[], Rows2_nil _⟩
  · simp [Value.cells] at he
    obtain ⟨rfl, rfl, rfl⟩ := he
    simp only [if_true] at hmm
    exact Rows2_mk hl hm (fun i hi => (hx i (by omega)).1) (fun i hi => by
      obtain ⟨v', l, he, hr⟩ := trod_ints (hx i (by omega)).2
      simp at he
      exact ⟨l, he ▸ hr⟩)
end Go.Proofs.YtldmdenojpnldaaDoor
/- How arguments that hold structs read, as plain facts: events, views. -/
namespace Go.Proofs.YtldmdenojpnldaaDoor
set_option linter.unusedVariables false
set_option linter.unusedSimpArgs false
open Go.ChangeShapes Go.WideShapes Go.ChangeAt Go.RowKit Go.Deep
open Go.ChangeMaps (open_string shut_string)
variable {H : Type} {enc : TypeId × Value → H} {w : World} {b0 : Nat} {d : DataW H} {p : List MemPlace} {v : Value}
/-- A slice of structs, off its cells' reading. -/
theorem trod_recs {α : Type} (cells : α → List Value) (sz : Nat) (hsz : ∀ x, (cells x).length = sz) (hpos : 0 < sz) (good : α → Prop) {t e : TypeId} (ht : Tryd.prog.underlying t = some (.slice e)) (hce : Tryd.prog.cellsOf e = sz)
    (hel : ∀ n cs x, DataW.trod enc Tryd.prog w 0 (fun _ => true) true n e cs = some x → ∃ y, cs = cells y ∧ good y)
    {fuel : Nat} {cs : List Value} {x : DataW H × List MemPlace} (h : DataW.trod enc Tryd.prog w 0 (fun _ => true) true fuel t cs = some x) :
    ∃ (v : Value) (l : List α), cs = [v] ∧ Rd w v l.length (l.flatMap cells) ∧ ∀ x ∈ l, good x := by
  rcases open_slice ht h with ⟨rfl, _⟩ | ⟨a, len, cap, m, n, D, Pl, rfl, _, hl, hm, hmm, _, hx⟩
  · exact ⟨_, [], rfl, ⟨none, 0, rfl, Nat.le_refl _, Nat.zero_le _, fun _ => rfl, fun i u h => by simp at h⟩, fun x h => by cases h⟩
  have hlm : len ≤ m := by rw [hmm]; split <;> omega
  obtain ⟨l, hll, hlx⟩ := list_of len (fun i y => (∀ j, j < sz → w.cell? (a.add (i * sz + j)) = (cells y)[j]?) ∧ good y) (fun i hi => by
    obtain ⟨cs', h1, h2⟩ := hx i (by omega)
    rw [hce] at h1
    obtain ⟨_, hlen, hcell⟩ := World.cells?_some h1
    obtain ⟨y, rfl, hg⟩ := hel _ _ _ h2
    exact ⟨y, fun j hj => by rw [← add_add]; exact hcell j hj, hg⟩)
  refine ⟨_, l, rfl, ?_, fun x hx => ?_⟩
  · rw [hll]
    refine ⟨some a, cap, rfl, hl, hm, by simp, fun i u hu => ⟨a, rfl, ?_⟩⟩
    have hi : i < l.length * sz := by
      have := (List.getElem?_eq_some_iff.1 hu).1
      rwa [cells_len cells sz hsz] at this
    have hk : i / sz < l.length := by rw [Nat.div_lt_iff_lt_mul hpos]; exact hi
    have hj : i % sz < sz := Nat.mod_lt _ hpos
    have hij : i / sz * sz + i % sz = i := by rw [Nat.mul_comm]; exact Nat.div_add_mod i sz
    have h1 := cells_get cells sz hsz l (i / sz) (i % sz) hk hj
    rw [hij, hu] at h1
    have h2 := (hlx (i / sz) l[i / sz] (List.getElem?_eq_getElem hk)).1 (i % sz) hj
    rw [hij] at h2
    rw [h2, ← h1]
  · obtain ⟨i, hi, rfl⟩ := List.getElem_of_mem hx
    exact (hlx i _ (List.getElem?_eq_getElem hi)).2
def evCells (e : Ev) : List Value := [.int .i64 e.1, .int .i64 e.2.1, .int .i64 e.2.2]
def goodEv (e : Ev) : Prop := I64 e.1 ∧ I64 e.2.1 ∧ I64 e.2.2
def Evs (w : World) (v : Value) (h : List Ev) : Prop := Rd w v h.length (h.flatMap evCells) ∧ ∀ e ∈ h, goodEv e
set_option maxRecDepth 100000 in
theorem trod_ev (n : Nat) (cs : List Value) (x : DataW H × List MemPlace) (h : DataW.trod enc Tryd.prog w 0 (fun _ => true) true n 102 cs = some x) : ∃ e : Ev, cs = evCells e ∧ goodEv e := by
  obtain ⟨xs, n, _, _, hl, hxl, hf⟩ := DataW.trod_struct Tryd.underlying102 h
  have hl3 : cs.length = 3 := by rw [hl]; kernel_rfl
  have hx3 : xs.length = 3 := by rw [hxl]; rfl
  match cs, hl3, xs, hx3 with
  | [a, b, c], _, [x0, x1, x2], _ =>
    have g0 : DataW.trod enc Tryd.prog w 0 (fun _ => true) true n 3 ((([a, b, c] : List Value).drop 0).take (Tryd.prog.cellsOf 3)) = some x0 := hf 0 _ rfl
    have g1 : DataW.trod enc Tryd.prog w 0 (fun _ => true) true n 3 ((([a, b, c] : List Value).drop 1).take (Tryd.prog.cellsOf 3)) = some x1 := hf 1 _ rfl
    have g2 : DataW.trod enc Tryd.prog w 0 (fun _ => true) true n 3 ((([a, b, c] : List Value).drop 2).take (Tryd.prog.cellsOf 3)) = some x2 := hf 2 _ rfl
    rw [cells_int] at g0 g1 g2
    obtain ⟨n0, e0, _, w0⟩ := DataW.trod_int Tryd.underlying3 g0
    obtain ⟨n1, e1, _, w1⟩ := DataW.trod_int Tryd.underlying3 g1
    obtain ⟨n2, e2, _, w2⟩ := DataW.trod_int Tryd.underlying3 g2
    simp at e0 e1 e2
    subst e0 e1 e2
    exact ⟨(n0, n1, n2), rfl, I64_of_wf w0, I64_of_wf w1, I64_of_wf w2⟩
set_option maxRecDepth 100000 in
theorem arg_events (hv : Value.okWide Tryd.prog w .any b0 88 v) (h : DataW.Trod enc Tryd.prog w 0 (fun _ => true) true 88 v d p) : ∃ l, Evs w v l := by
  obtain ⟨ad, n, c, rfl⟩ := okWide_slice Tryd.underlying88 hv
  obtain ⟨fuel, hf⟩ := h
  obtain ⟨v', l, he, hr⟩ := trod_recs evCells 3 (fun _ => rfl) (by omega) goodEv Tryd.underlying88 (by kernel_rfl) trod_ev hf
  simp [Value.cells] at he
  exact ⟨l, he ▸ hr⟩
end Go.Proofs.YtldmdenojpnldaaDoor
/- A law for a drawn region: the first n operations read, the others come in a given order; slots may be moved early. -/
namespace Go.Proofs.YtldmdenojpnldaaDoor
set_option linter.unusedVariables false
set_option linter.unusedSimpArgs false
open Go.RowKit
section
variable {P : Program} {ops : Array Oper} {md : Region.Mode}

/-- Each operation behind n waits for one from n on. -/
def linkB (md : Region.Mode) (ops : Array Oper) (n : Nat) : Bool :=
  (List.range ops.size).all fun t => decide (t ≤ n) || (List.range t).any fun s => decide (n ≤ s) && Region.waitsFor md ops t s

theorem none_ahead {n : Nat} {listed : Array Bool} (hs : Region.sinkB md ops n = true) (hl : linkB md ops n = true) (inv : HeadInv md ops n listed) {i : Nat} (hi : i < n) (hun : listed.getD i true = false) :
    ∀ t, n ≤ t → t ∉ Region.ready md ops listed := by
  have key : ∀ (d i : Nat), n - i = d → i < n → listed.getD i true = false → n ∉ Region.ready md ops listed := by
    intro d
    induction d using Nat.strongRecOn with
    | _ d ih =>
      intro i hd hi hun hr
      obtain ⟨_, on, hon, hall⟩ := mem_ready.1 hr
      obtain ⟨j, hj, hj2⟩ := List.any_eq_true.1 (List.all_eq_true.1 hs i (List.mem_range.2 hi))
      simp only [Bool.and_eq_true, decide_eq_true_eq] at hj2
      obtain ⟨oj, hoj, e, he, hb, heon⟩ := Region.waitsFor_spec hj2.2
      have hjn := List.mem_range.1 hj
      have huni := getD_both hun
      by_cases hjt : j = n
      · subst hjt
        rw [hoj] at hon; cases hon
        have := hall e he hb
        rw [heon, huni] at this; cases this
      · cases hlj : listed.getD j false with
        | true =>
          have := inv.closed j oj hoj hlj e he hb
          rw [heon, huni] at this; cases this
        | false => exact ih (n - j) (by omega) j rfl (by omega) (getD_in (by rw [inv.size]; exact (Array.getElem?_eq_some_iff.1 hoj).1) hlj) hr
  intro t ht hr
  rcases Nat.eq_or_lt_of_le ht with rfl | hlt
  · exact key _ i rfl hi hun hr
  · obtain ⟨_, ot, hot, hall⟩ := mem_ready.1 hr
    have htlt : t < ops.size := (Array.getElem?_eq_some_iff.1 hot).1
    have h1 := List.all_eq_true.1 hl t (List.mem_range.2 htlt)
    simp only [Bool.or_eq_true, decide_eq_true_eq] at h1
    rcases h1 with h1 | h1
    · omega
    · obtain ⟨s, hs1, hs2⟩ := List.any_eq_true.1 h1
      simp only [Bool.and_eq_true, decide_eq_true_eq] at hs2
      have hst := List.mem_range.1 hs1
      obtain ⟨o', ho', e, he, hb, heon⟩ := Region.waitsFor_spec hs2.2
      rw [hot] at ho'; cases ho'
      have := hall e he hb
      rw [heon, getD_both (inv.tail s hs2.1 (by omega))] at this
      cases this

/-- The first n operations only read: whichever comes up first, the values are those of the text's order. -/
theorem head_take {w : World} {n i : Nat} {oi : Oper} {v : Value} {L : Array Bool → Act → Prop} (hi : ops[i]? = some oi) (hsel : Region.noSelect ops = true)
    (hs : Region.sinkB md ops n = true) (hl : linkB md ops n = true) (hin : i < n) (hdone : ∀ listed a, L listed a → ∀ j ∈ Region.ready md ops listed, n ≤ j) :
    ∀ (f : Nat) (listed : Array Bool) (a : Act), HeadInv md ops n listed →
      (∀ j oj, ops[j]? = some oj → j ≠ i → listed.getD j true = false → (∀ e ∈ oj.after, Region.binds md e = true → e.on ≠ i) → oi.apart ops oj = true) →
      i ∈ Region.ready md ops listed → YieldsAt P ops w oi v a →
      wpAnyL P md ops w n L f (listed.setIfInBounds i true) (a.put oi.dst v) → wpAnyL P md ops w n L (f + 1) listed a := by
  have sel := Region.noSelect_spec hsel
  intro f
  induction f with
  | zero =>
    intro listed a inv _ hr hy H
    have hun := (mem_ready.1 hr).1
    refine ⟨List.ne_nil_of_mem hr, fun j hj => ?_⟩
    have hjn : j < n := Nat.lt_of_not_le fun h => none_ahead hs hl inv hin hun j h hj
    by_cases hji : j = i
    · subst hji; exact ⟨hjn, hy.stOp hi H⟩
    · have := hdone _ _ H j (ready_mono hj hji)
      omega
  | succ f ih =>
    intro listed a inv hfree hr hy H
    have hun := (mem_ready.1 hr).1
    refine ⟨List.ne_nil_of_mem hr, fun j hj => ?_⟩
    have hjn : j < n := Nat.lt_of_not_le fun h => none_ahead hs hl inv hin hun j h hj
    refine ⟨hjn, ?_⟩
    by_cases hji : j = i
    · subst hji; exact hy.stOp hi H
    obtain ⟨hjun, oj, hoj, hall⟩ := mem_ready.1 hj
    have hnot : ∀ e ∈ oj.after, Region.binds md e = true → e.on ≠ i := fun e he hb heq => by
      have h1 := hall e he hb
      rw [heq, getD_both hun] at h1
      cases h1
    have h2 := stOp_put hoj (hfree j oj hoj hji hjun hnot) (sel i oi · · hi) (sel j oj · · hoj) hy (H.2 j (ready_mono hj hji)).2
    refine stOp_mono (fun a' h3 => ih _ a' (inv.set hj hjn) (fun k ok hk hki hun' hno => hfree k ok hk hki ?_ hno) (ready_mono hr (Ne.symm hji)) h3.1 ?_) h2
    · by_cases hjk : j = k
      · subst hjk; exact hjun
      · rwa [getD_set_ne true hjk] at hun'
    · rw [Array.setIfInBounds_comm _ _ hji]
      exact h3.2

theorem asks_move {o : Oper} (hm : (match o.op with | .move _ => true | .assign _ => true | _ => false) = true) {a : Act} {w : World} : ¬ o.asks P a w := by
  obtain ⟨dst, op, ty, pos, after, guard⟩ := o
  intro h
  cases op <;> simp at hm <;> exact absurd h.1 (by simp [execOp]; exact nofun)

def isMv (o : Oper) : Bool := match o.op with | .move _ => true | .assign _ => true | _ => false
/-- An order of what is left: each is the only one that may come up, or moves a slot and may come first. -/
def ordB (md : Region.Mode) (ops : Array Oper) : List Nat → Array Bool → Bool
  | [], listed => (Region.ready md ops listed).isEmpty
  | k :: r, listed => (decide (Region.ready md ops listed = [k]) || ((Region.ready md ops listed).contains k && Region.free md ops listed k && ((ops[k]?).map isMv).getD false)) && ordB md ops r (listed.setIfInBounds k true)
def pick (l : List Oper) : List Nat → List Oper
  | [] => []
  | k :: r => (l[k]?).toList ++ pick l r

theorem wpAny_of_ord {l : List Oper} {Q : Exit → Act → World → Prop} (hsel : Region.noSelect l.toArray = true) (hQ : ∀ d v c a w, Q (.panic c) (Act.put a d v) w → Q (.panic c) a w) :
    ∀ (r : List Nat) (listed : Array Bool) (a : Act) (w : World), ordB md l.toArray r listed = true → wpList P l.toArray Q (pick l r) a w → wpAny P md l.toArray Q r.length listed a w
  | [], _, _, _, hB, h => ⟨by simpa [ordB] using hB, h⟩
  | k :: r, listed, a, w, hB, h => by
    simp only [ordB, Bool.and_eq_true, Bool.or_eq_true, decide_eq_true_eq] at hB
    obtain ⟨hk, hB⟩ := hB
    cases ho : l[k]? with
    | none =>
      exfalso
      rcases hk with hk | hk
      · have : k ∈ Region.ready md l.toArray listed := by rw [hk]; simp
        obtain ⟨_, o, h2, _⟩ := mem_ready.1 this
        simp [ho] at h2
      · simp [ho] at hk
    | some o =>
      have ho' : l.toArray[k]? = some o := by simpa using ho
      simp only [pick, ho, Option.toList, List.cons_append, List.nil_append] at h
      rcases hk with hk | ⟨⟨hk1, hk2⟩, hk3⟩
      · refine ⟨fun h1 => (by rw [hk] at h1; cases h1), fun i hi => ?_⟩
        rw [hk] at hi
        have hik : i = k := by simpa using hi
        subst hik
        refine wpOp_mono (K := wpList P l.toArray Q (pick l r)) (fun a' w' h' => wpAny_of_ord hsel hQ r _ a' w' hB h') ?_
        unfold wpOp; simp only [ho']; exact h
      · have hmv : isMv o = true := by simpa [ho] using hk3
        unfold wpList at h
        have step : ∀ v, Yields P l.toArray o v a → wpList P l.toArray Q (pick l r) (a.put o.dst v) w → wpAny P md l.toArray Q (r.length + 1) listed a w := fun v hy hw =>
          wpAny_take ho' hsel hk2 hk1 (fun c a w => hQ o.dst v c a w) hy (wpAny_of_ord hsel hQ r _ _ w hB hw)
        by_cases hw : Region.wanted o (yielded l.toArray a.tmps) = true
        · rw [if_pos hw] at h
          rcases h with h | h
          · obtain ⟨dst, op, ty, pos, after, guard⟩ := o
            cases op <;> simp [isMv] at hmv
            · exact step _ (.inl ⟨hw, fun _ => rfl⟩) h
            · exact step _ (.inl ⟨hw, fun _ => rfl⟩) h
          · exact absurd h.1 (asks_move hmv)
        · rw [if_neg hw] at h
          exact step _ (.inr ⟨by simpa using hw, rfl⟩) h

/-- The order is one for what is behind the first n. -/
def headB (md : Region.Mode) (ops : Array Oper) (r : List Nat) : Nat → Nat → Array Bool → Bool
  | 0, _, listed => ordB md ops r listed
  | f + 1, k, listed => (Region.ready md ops listed).contains k && Region.free md ops listed k && headB md ops r f (k + 1) (listed.setIfInBounds k true)
/-- How a drawn region may be walked: the first n read, then the others in the order r. -/
def planB (ops : Array Oper) (n : Nat) (r : List Nat) : Bool :=
  Region.noSelect ops && decide (n < ops.size) && decide (n + r.length = ops.size) && Region.sinkB .any ops n && linkB .any ops n && r.all (fun k => decide (n ≤ k)) && headB .any ops r n 0 (Array.replicate ops.size false)

theorem ordB_ready {n : Nat} {r : List Nat} {listed : Array Bool} (h : ordB md ops r listed = true) (inv : ∀ i < n, listed.getD i true = true) : ∀ j ∈ Region.ready md ops listed, n ≤ j := by
  intro j hj
  refine Nat.le_of_not_lt fun hlt => ?_
  have := (mem_ready.1 hj).1
  rw [inv j hlt] at this
  cases this

theorem wpAnyL_plan {w : World} {n : Nat} {r : List Nat} {Lq : Act → Prop} (hsel : Region.noSelect ops = true) (hs : Region.sinkB md ops n = true) (hl : linkB md ops n = true) (hn : n < ops.size) :
    ∀ (l : List Oper) (k : Nat) (listed : Array Bool) (a : Act), (∀ j, j < l.length → l[j]? = ops[k + j]?) → k + l.length = n → HeadInv md ops n listed → (∀ i < k, listed.getD i true = true) →
    headB md ops r l.length k listed = true → wpStill P ops w Lq l a →
    wpAnyL P md ops w n (fun listed' a' => ((∀ i < n, listed'.getD i true = true) ∧ ordB md ops r listed' = true) ∧ Lq a') l.length listed a
  | [], k, listed, a, _, hk, _, hdn, hB, h => by
    have : k = n := by simpa using hk
    subst this
    exact ⟨⟨hdn, by simpa [headB] using hB⟩, h⟩
  | o :: l, k, listed, a, hll, hk, inv, hdn, hB, h => by
    have h0 : ops[k]? = some o := by simpa using (hll 0 (by simp)).symm
    simp only [List.length_cons, headB, Bool.and_eq_true] at hB
    obtain ⟨⟨hr, hf⟩, hB'⟩ := hB
    have hkn : k < n := by simp only [List.length_cons] at hk; omega
    have hr' : k ∈ Region.ready md ops listed := by simpa using hr
    have hst : stOp P ops w k (wpStill P ops w Lq l) a := by unfold stOp; simp only [h0]; exact h
    obtain ⟨v, hy, hK⟩ := yieldsAt_of_stOp h0 hst
    refine head_take h0 hsel hs hl hkn (fun listed' a' hL => ordB_ready hL.1.2 hL.1.1) l.length listed a inv (Region.free_spec h0 hf) hr' hy ?_
    refine wpAnyL_plan hsel hs hl hn l (k + 1) _ _ (fun j hj => by have := hll (j + 1) (by simp; omega); simpa [Nat.add_assoc, Nat.add_comm 1 j] using this) (by simp only [List.length_cons] at hk; omega) (inv.set hr' hkn) (fun i hi => ?_) hB' hK
    by_cases hik : k = i
    · subst hik
      have hlt : k < listed.size := by rw [inv.size]; omega
      simp [hlt]
    · rw [getD_set_ne true hik]; exact hdn i (by omega)

/-- A drawn region by a plan: the first n operations read; the others come in the order r. -/
theorem wp_region_plan0 {id : Nat} {Q : Exit → Act → World → Prop} {a : Act} {w : World} {l : List Oper} (n : Nat) (r : List Nat) (hm : P.follows .mixedOrders = true) (hB : planB l.toArray n r = true)
    (hQ : ∀ d v c a w, Q (.panic c) (Act.put a d v) w → Q (.panic c) a w)
    (h : wpStill P l.toArray w.drew (fun a' => wpList P l.toArray Q (pick l r) a' w.drew) (l.take n) a) : (Code.region id l.toArray true).wp P Q a w := by
  simp only [planB, Bool.and_eq_true, decide_eq_true_eq] at hB
  obtain ⟨⟨⟨⟨⟨⟨hsel, hn⟩, hsz⟩, hs⟩, hl⟩, _⟩, hh⟩ := hB
  have hn' : n < l.length := by simpa using hn
  have htl : (l.take n).length = n := by simp; omega
  have inv0 : HeadInv .any l.toArray n (Array.replicate l.toArray.size false) :=
    ⟨by simp, fun j oj _ hl => (by rw [getD_replicate_false] at hl; cases hl), fun t _ ht => getD_in (by simpa using ht) (getD_replicate_false _ _)⟩
  have H := wpAnyL_plan (md := .any) (r := r) hsel hs hl hn (l.take n) 0 _ a (fun j hj => by
    have hj' : j < n := by rw [htl] at hj; exact hj
    simp [hj']) (by simpa using htl) inv0 (fun i hi => absurd hi (Nat.not_lt_zero _)) (by rw [htl]; exact hh) h
  refine wp_region_any hm ?_
  have := wpAny_of_head (Q' := Q) (g := r.length) (fun listed a' hL => wpAny_of_ord hsel hQ r listed a' _ hL.1.2 hL.2) _ _ _ H
  rw [htl, hsz] at this
  exact this
/-- The same, where the region is shown not to panic: behind it 'NoPanic.normal' gives the post back. -/
theorem wp_region_plan {id : Nat} {Q : Exit → Act → World → Prop} {a : Act} {w : World} {l : List Oper} (n : Nat) (r : List Nat) (hm : P.follows .mixedOrders = true) (hB : planB l.toArray n r = true)
    (h : wpStill P l.toArray w.drew (fun a' => wpList P l.toArray (NoPanic Q) (pick l r) a' w.drew) (l.take n) a) : (Code.region id l.toArray true).wp P Q a w :=
  wp_region_noPanic (wp_region_plan0 n r hm hB (fun _ _ _ _ _ h => h.elim) h)
end
end Go.Proofs.YtldmdenojpnldaaDoor
