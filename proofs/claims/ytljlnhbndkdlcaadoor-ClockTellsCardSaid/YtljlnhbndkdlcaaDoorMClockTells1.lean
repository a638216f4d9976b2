/- Contracts of package vector, of what it calls in package slices, and of the lists' comparisons. -/
import Derived.Test.YtljlnhbndkdlcaaDoorMClockTells0
import Derived.Test.YtljlnhbndkdlcaaDoorProg
import Derived.BigQuiet
import Derived.Deep.QuietTactic
import Derived.Deep.RegionLaw
import Derived.Deep.RegionHeld3
namespace Go.Proofs.YtljlnhbndkdlcaaDoor
set_option linter.unusedVariables false
set_option linter.unusedSimpArgs false
open Go.RowKit
theorem ret_bool {a b : Bool} (h : a = b) : Ending.returned (.bool a) = .returned (.bool b) := by rw [h]
theorem ret_int {a b : Int} (h : a = b) : Ending.returned (.int .i64 a) = .returned (.int .i64 b) := by rw [h]
/-- An error: nil, or a number of api. -/
def errV : Nat → Value
  | 0 => .nilIface
  | n + 1 => .iface 61 (.int .i64 (n + 1))
theorem errV0 : errV 0 = .nilIface := rfl
theorem Ints.at {w : World} {ad : Option Addr} {n cap : Nat} {l : List Int} (h : Ints w (.slice ad n cap) l) (k : Nat) (hk : k < l.length) : ∃ a : Addr, ad = some a ∧ w.cell? (a.add k) = some (.int .i64 l[k]) := by
  obtain ⟨⟨ad', cap', e, _, _, _, hc⟩, _⟩ := h
  cases e
  exact hc k _ (by simp [hk])
theorem Ints.len {w : World} {ad : Option Addr} {n cap : Nat} {l : List Int} (h : Ints w (.slice ad n cap) l) : n = l.length := by
  obtain ⟨⟨ad', cap', e, _, _, _, hc⟩, _⟩ := h
  cases e; rfl
theorem Ints.shape {w : World} {v : Value} {l : List Int} (h : Ints w v l) : ∃ ad cap, v = .slice ad l.length cap ∧ l.length ≤ cap ∧ cap ≤ 9223372036854775807 := by
  obtain ⟨⟨ad', cap', e, h1, h2, _, hc⟩, _⟩ := h
  exact ⟨_, _, e, h1, by simpa [maxLen] using h2⟩
def isMember (n : Int) : Bool := decide (0 ≤ n) && decide (n < 5)
def isWord (n : Int) : Bool := decide (1 ≤ n) && decide (n ≤ 30)
def isCount (n : Int) : Bool := decide (0 ≤ n) && decide (n ≤ 1000000)
set_option maxHeartbeats 400000 in
theorem member_any (a : Int) (w : World) :
    Calls Tryd.prog 77 #[.int .i64 a] w fun e w' => e = .returned (.bool (isMember a)) ∧ w = w' := by
  go_enter Tryd.func77, Tryd.ntmps77
  go_wp2
  all_goals (go_ret; exact ⟨ret_bool (by unfold isMember; simp; try omega), rfl⟩)
set_option maxHeartbeats 400000 in
theorem word_any (a : Int) (w : World) :
    Calls Tryd.prog 78 #[.int .i64 a] w fun e w' => e = .returned (.bool (isWord a)) ∧ w = w' := by
  go_enter Tryd.func78, Tryd.ntmps78
  go_wp2
  all_goals (go_ret; exact ⟨ret_bool (by unfold isWord; simp; try omega), rfl⟩)
def isGroup (n : Int) : Bool := decide (2 ≤ n) && decide (n ≤ 5)
/-- Where the first one is for which p holds; -1: nowhere. -/
def whereIs (p : Int → Bool) : List Int → Int
  | [] => -1
  | x :: r => if p x then 0 else if whereIs p r < 0 then -1 else whereIs p r + 1
theorem whereIs_hit (p : Int → Bool) : ∀ (l : List Int) (k : Nat) (hk : k < l.length), (∀ j (h : j < k), p (l[j]'(by omega)) = false) → p l[k] = true → whereIs p l = k
  | [], k, hk, _, _ => by simp at hk
  | x :: r, 0, _, _, h => by simp at h; simp [whereIs, h]
  | x :: r, k + 1, hk, hj, h => by
    have h0 := hj 0 (by omega)
    simp at h0
    have ih := whereIs_hit p r k (by simpa using hk) (fun j hj' => by have := hj (j + 1) (by omega); simpa using this) (by simpa using h)
    simp [whereIs, h0, ih]; omega
theorem whereIs_miss (p : Int → Bool) : ∀ (l : List Int), (∀ j (h : j < l.length), p l[j] = false) → whereIs p l = -1
  | [], _ => rfl
  | x :: r, h => by
    have h0 := h 0 (by simp)
    simp at h0
    have ih := whereIs_miss p r (fun j hj => by have := h (j + 1) (by simpa using hj); simpa using this)
    simp [whereIs, h0, ih]
theorem whereIs_neg (p : Int → Bool) : ∀ (l : List Int), whereIs p l < 0 ↔ l.any p = false
  | [] => by simp [whereIs]
  | x :: r => by
    have ih := whereIs_neg p r
    unfold whereIs
    by_cases h : p x
    · simp [h]
    · simp only [h, List.any_cons, Bool.false_or, Bool.false_eq_true, if_false]
      split
      · rename_i h2; simp [ih.1 h2]
      · rename_i h2; constructor
        · intro h3; omega
        · intro h3; exact absurd (ih.2 h3) h2
theorem info_int : (Tryd.prog.info? 3).map (fun i => (i.zero, i.size, i.bytes)) = some (some (.int .i64 0), 1, 8) := by kernel_rfl
/-- An owned slice of ints. -/
def IntSl (v : Value) (l : List Int) : HProp := Sl 3 1 v l.length (l.map (Value.int .i64))
def vecErr (l : List Int) : Nat := if l.length ≠ 5 then 3 else if (l.any fun n => !isCount n) then 1 else 0
theorem vecErr0 {l : List Int} (h : vecErr l = 0) : l.length = 5 ∧ ∀ x ∈ l, 0 ≤ x ∧ x ≤ 1000000 := by
  unfold vecErr at h
  split at h
  · cases h
  · rename_i h1
    split at h
    · cases h
    · rename_i h2
      refine ⟨by omega, fun x hx => ?_⟩
      simp only [List.any_eq_true, not_exists, not_and, Bool.not_eq_true', Bool.not_eq_false] at h2
      have := h2 x hx
      simp only [isCount, Bool.and_eq_true, decide_eq_true_eq] at this
      exact this
set_option maxHeartbeats 1000000 in
theorem cloneInts_any {w0 w : World} {R : HProp} (h : Own w0 R w) (v : Value) (l : List Int) (hl : Ints w v l) (hb : l.length ≤ 100000) :
    Calls Tryd.prog 59 #[v] w fun e w' => ∃ v', e = .returned v' ∧ Own w0 (IntSl v' l * R) w' := by
  obtain ⟨⟨ad, cap, rfl, hlc, hcap, hn, hc⟩, hi⟩ := id hl
  cases ad with
  | none =>
    have h0 := hn rfl
    subst h0
    have hl0 : l = [] := List.eq_nil_of_length_eq_zero (by omega)
    subst hl0
    clear hn hc hi hl hlc hcap hb
    have hnil := fun (w : World) => Lib.run_eql_slice_nil (P := Tryd.prog) w 32 3 none 0 0 0 0 Tryd.underlying32
    go_enter Tryd.func59, Tryd.ntmps59
    go_wp2
    go_ret
    exact ⟨_, rfl, h.sl_nil _ _⟩
  | some a =>
    have hnil := fun (w : World) => Lib.run_eql_slice_nil (P := Tryd.prog) w 32 3 (some a) l.length cap 0 0 Tryd.underlying32
    have H := Lib.hid h
    have HL := Lib.hid hl
    have hsl : ∀ cs, Own w0 (Sl 3 1 (.slice (some ⟨w.heap.size, 0, none⟩) 0 0) 0 [] * R) (w.alloc (.cells #[] cs)) ∨ cs ≠ 3 := fun cs => by
      by_cases hcs : cs = 3
      · subst hcs; exact .inl (Own.sl_mk (cs := #[]) (Nat.le_refl _) (Nat.zero_le _) rfl (Nat.le_refl _) (fun i hi => by simp at hi) (H.out.alloc _))
      · exact .inr hcs
    have HS := Lib.hid ((hsl 3).resolve_right (by simp))
    clear hn hc hi hl h hsl
    go_enter Tryd.func59, Tryd.ntmps59
    go_wp2_with (at_builtin; refine wpList_app rfl _ _ 32 rfl 3 1 8 _ info_int Tryd.underlying32 rfl (by decide) rfl HS.out rfl (by simp) (HL.out.alloc _).1 (int_one _) (by unfold maxLen; omega) (by omega) ?_; intro v' w1 hown')
    go_ret
    exact ⟨_, rfl, by unfold IntSl; simpa using hown'⟩
theorem IntSl_reads {w0 : World} {R : HProp} {v : Value} {l : List Int} (hi : ∀ x ∈ l, I64 x) : Reads w0 (IntSl v l * R) v l := fun _ ho => ⟨Own.rd ho, hi⟩
/-- An owned list of ints: its row, its cells, a store. -/
theorem Own.ints_at {w0 w : World} {v : Value} {l : List Int} {R : HProp} (h : Own w0 (IntSl v l * R) w) (hl : 0 < l.length) :
    ∃ b off cap, v = .slice (some ⟨b, off, none⟩) l.length cap ∧ l.length ≤ cap ∧ cap ≤ maxLen ∧ (∀ i (h : i < l.length), w.cell? ⟨b, off + i, none⟩ = some (.int .i64 l[i])) ∧ (∀ i s, w.frozen? ⟨b, i, s⟩ = false) ∧ w0.heap.size ≤ b ∧ b < w.heap.size ∧
      ∀ i x, i < l.length → Own w0 (IntSl v (l.set i x) * R) (w.setCell ⟨b, off + i, none⟩ (.int .i64 x)) := by
  obtain ⟨b, off, cap, h1, h2, h3, h4, h5, h6, h7, h8⟩ := Own.sl_at h (by simpa using hl)
  refine ⟨b, off, cap, h1, h2, h3, fun i hi => h4 i _ (by simp [hi]), h5, h6, h7, fun i x hi => ?_⟩
  have := h8 i (.int .i64 x) (by simpa using hi)
  unfold IntSl
  rw [List.length_set, List.map_set]; exact this
def zipMax : List Int → List Int → List Int
  | a :: r, b :: s => max a b :: zipMax r s
  | _, _ => []
theorem zipMax_len : ∀ (a b : List Int), a.length = b.length → (zipMax a b).length = a.length
  | [], [], _ => rfl
  | a :: r, b :: s, h => by simp [zipMax, zipMax_len r s (by simpa using h)]
theorem zipMax_get : ∀ (a b : List Int) (i : Nat) (h1 : i < a.length) (h2 : i < b.length) (h3 : i < (zipMax a b).length), (zipMax a b)[i] = max a[i] b[i]
  | a :: r, b :: s, 0, _, _, _ => rfl
  | a :: r, b :: s, i + 1, h1, h2, h3 => by simp only [zipMax, List.getElem_cons_succ]; exact zipMax_get r s i _ _ _
set_option maxHeartbeats 2000000 in
theorem joined_any {w0 w : World} {R : HProp} (h : Own w0 R w) (va vb : Value) (a b : List Int) (ha : Ints w va a) (hb : Reads w0 R vb b) (hlen : a.length = b.length) (hsm : a.length ≤ 100000) :
    Calls Tryd.prog 60 #[va, vb] w fun e w' => ∃ v', e = .returned v' ∧ Own w0 (IntSl v' (zipMax a b) * R) w' := by
  have HH := Lib.hid h; have HA := Lib.hid ha; have HB := Lib.hid hb
  obtain ⟨bd, bcap, rfl, hbc, hbcap⟩ := (hb w h).shape
  clear h ha hb
  have hln := zipMax_len a b hlen
  have Hln := Lib.hid hln; have Hlen := Lib.hid hlen
  have hle1 : b.length ≤ a.length := by omega
  have hle2 : a.length ≤ b.length := by omega
  clear hln hlen
  go_enter Tryd.func60, Tryd.ntmps60
  go_wp2_with fail
  refine (cloneInts_any HH.out _ _ HA.out hsm).mono ?_
  rintro e w1 ⟨vo, rfl, ho⟩
  have HO := Lib.hid ho
  clear ho
  go_wp2_with fail
  go_loopw [12] (fun i wr => ∃ k : Nat, ∃ cur : List Int, k ≤ b.length ∧ i = .int .i64 k ∧ Hid (cur.length = a.length ∧ (∀ j (h : j < cur.length) (h' : j < a.length) (h'' : j < b.length), cur[j] = if j < k then max a[j] b[j] else a[j]) ∧ Own w0 (IntSl vo cur * R) wr)) (fun i _ => b.length - (intOf i).toNat)
  case atStart => exact ⟨0, a, Nat.zero_le _, rfl, rfl, fun j h h' h'' => by simp, HO.out⟩
  case round =>
    obtain ⟨k, cur, hk, rfl, hp⟩ := hrel
    by_cases hlt : k < b.length
    · obtain ⟨hcl, hcur, ho⟩ := hp.out
      obtain ⟨ab, rfl, hcb⟩ := (HB.out _ ho.drop).at k hlt
      have hkc : k < cur.length := by omega
      obtain ⟨ob, off, ocap, hov, ho1, ho2, hoc, hof, ho3, ho4, hos⟩ := ho.ints_at (by omega)
      have hck := hoc k hkc
      have hfk := hof (off + k) none
      have Hov := Lib.hid hov; have Hp := Lib.hid hp; have Hos := Lib.hid hos; have Hcur := Lib.hid hcur; have Hcl := Lib.hid hcl
      clear hp hoc hof hos hcur ho hcl
      subst hov
      go_wp2
      go_roundw
      case rel =>
        refine ⟨k + 1, _, by omega, by go_num, ⟨?_, fun j h h' h'' => ?_, Hos.out k _ hkc⟩⟩
        · rw [List.length_set]; exact Hcl.out
        · have hck' := Hcur.out k hkc (by omega) hlt
          rw [if_neg (by omega)] at hck'
          by_cases hkj : k = j
          · subst hkj
            rw [List.getElem_set_self, if_pos (show k < k + 1 by omega), hck', Int.max_def]
            split <;> split <;> omega
          · rw [List.getElem_set_ne hkj, Hcur.out j (by simpa using h) h' h'']
            by_cases hj : j < k
            · rw [if_pos hj, if_pos (by omega)]
            · rw [if_neg hj, if_neg (by omega)]
      case measure => simp [intOf]; omega
    · obtain ⟨hcl, hcur, ho⟩ := hp.out
      have hkb : k = b.length := by omega
      have e : cur = zipMax a b := by
        have h1 := Hln.out; have h2 := Hlen.out
        refine List.ext_getElem (by omega) fun j hj1 hj2 => ?_
        rw [hcur j hj1 (by omega) (by omega), if_pos (by omega), zipMax_get a b j (by omega) (by omega)]
      have HF := Lib.hid (e ▸ ho)
      clear hp hcl hcur ho hkb e
      go_wp2
      go_ret
      exact ⟨_, rfl, HF.out⟩
/-- Is no number of a above b's? -/
def leq : List Int → List Int → Bool
  | a :: r, b :: s => decide (a ≤ b) && leq r s
  | _, _ => true
theorem leq_iff : ∀ (a b : List Int), a.length = b.length → (leq a b = true ↔ ∀ i (h : i < a.length) (h' : i < b.length), a[i] ≤ b[i])
  | [], [], _ => by simp [leq]
  | a :: r, b :: s, h => by
    have ih := leq_iff r s (by simpa using h)
    simp only [leq, Bool.and_eq_true, decide_eq_true_eq, ih]
    constructor
    · rintro ⟨h1, h2⟩ i hi hi'
      cases i with
      | zero => exact h1
      | succ i => exact h2 i (by simpa using hi) (by simpa using hi')
    · intro h1
      exact ⟨h1 0 (by simp) (by simp), fun i hi hi' => by have := h1 (i + 1) (by simpa using hi) (by simpa using hi'); simpa using this⟩
/-- A number that is no 0 is an error. -/
theorem errV_some {n : Nat} (h : n ≠ 0) : ∃ m : Int, errV n = .iface 61 (.int .i64 m) := by
  cases n with
  | zero => exact absurd rfl h
  | succ n => exact ⟨_, rfl⟩
def bothErr (a b : List Int) : Nat := if vecErr a = 0 then vecErr b else vecErr a
theorem bothErr0 {a b : List Int} (h : bothErr a b = 0) : vecErr a = 0 ∧ vecErr b = 0 := by
  unfold bothErr at h
  split at h
  · rename_i h1; exact ⟨h1, h⟩
  · rename_i h1; exact absurd h h1
end Go.Proofs.YtljlnhbndkdlcaaDoor
/- Histories, plainly: what is right, who is ahead of whom, which cuts could have been. -/
namespace Go.Proofs.YtljlnhbndkdlcaaDoor
set_option linter.unusedVariables false
set_option linter.unusedSimpArgs false
open Go.RowKit
abbrev Ev := Int × Int × Int
def whereI {α : Type} (p : α → Bool) : List α → Int
  | [] => -1
  | x :: r => if p x then 0 else if whereI p r < 0 then -1 else whereI p r + 1
theorem whereI_hit {α : Type} (p : α → Bool) : ∀ (l : List α) (k : Nat) (hk : k < l.length), (∀ j (h : j < k), p (l[j]'(by omega)) = false) → p l[k] = true → whereI p l = k
  | x :: r, 0, hk, _, h => by unfold whereI; rw [if_pos (by simpa using h)]; rfl
  | x :: r, k + 1, hk, h1, h2 => by
    have ih := whereI_hit p r k (by simpa using hk) (fun j h => by have := h1 (j + 1) (by omega); simpa using this) (by simpa using h2)
    unfold whereI
    rw [if_neg (by have := h1 0 (by omega); simpa using this), ih, if_neg (by omega)]
    omega
theorem whereI_miss {α : Type} (p : α → Bool) : ∀ (l : List α), (∀ j (h : j < l.length), p l[j] = false) → whereI p l = -1
  | [], _ => rfl
  | x :: r, h => by
    have ih := whereI_miss p r (fun j hj => by have := h (j + 1) (by simpa using hj); simpa using this)
    unfold whereI
    rw [if_neg (by have := h 0 (by simp); simpa using this), ih, if_pos (by omega)]
theorem whereI_cases {α : Type} (p : α → Bool) (l : List α) : (whereI p l = -1 ∧ ∀ x ∈ l, p x = false) ∨ ∃ (k : Nat) (hk : k < l.length), whereI p l = k ∧ p l[k] = true ∧ ∀ j (h : j < k), p (l[j]'(by omega)) = false := by
  induction l with
  | nil => exact .inl ⟨rfl, fun x h => by cases h⟩
  | cons x r ih =>
    by_cases hx : p x = true
    · exact .inr ⟨0, by simp, by unfold whereI; rw [if_pos hx]; rfl, by simpa using hx, fun j h => by omega⟩
    rcases ih with ⟨h1, h2⟩ | ⟨k, hk, h1, h2, h3⟩
    · refine .inl ⟨by unfold whereI; rw [if_neg hx, if_pos (by omega)], fun y hy => ?_⟩
      rcases List.mem_cons.1 hy with rfl | hy
      · simpa using hx
      · exact h2 y hy
    · refine .inr ⟨k + 1, by simpa using hk, by unfold whereI; rw [if_neg hx, if_neg (by omega)]; omega, by simpa using h2, fun j h => ?_⟩
      cases j with
      | zero => simpa using hx
      | succ j => simpa using h3 j (by omega)
theorem whereI_any {α : Type} (p : α → Bool) (l : List α) : (0 ≤ whereI p l) ↔ l.any p = true := by
  rcases whereI_cases p l with ⟨h1, h2⟩ | ⟨k, hk, h1, h2, _⟩
  · rw [h1]
    constructor
    · intro h; omega
    · intro h
      obtain ⟨x, hx, hp⟩ := List.any_eq_true.1 h
      rw [h2 x hx] at hp; cases hp
  · rw [h1]
    exact ⟨fun _ => List.any_eq_true.2 ⟨_, List.getElem_mem hk, h2⟩, fun _ => by omega⟩
def rightB (e : Ev) : Bool := isMember e.1 && (if e.2.1 = 1 then decide (e.2.2 = 0) else (decide (e.2.1 = 2) || decide (e.2.1 = 3)) && isWord e.2.2)
def saysB (wd : Int) (e : Ev) : Bool := decide (e.2.1 = 2) && decide (e.2.2 = wd)
def saidAt (h : List Ev) (wd : Int) : Int := whereI (saysB wd) h
def evAt (h : List Ev) (i : Nat) : Ev := h.getD i (0, 0, 0)
def evErr (ahead : List Ev) (e : Ev) : Nat :=
  if rightB e = false then 1
  else if (e.2.1 = 2 ∧ 0 ≤ saidAt ahead e.2.2) ∨ (e.2.1 = 3 ∧ e ∈ ahead) then 7
  else if e.2.1 = 3 ∧ saidAt ahead e.2.2 < 0 then 5
  else if e.2.1 = 3 ∧ (evAt ahead (saidAt ahead e.2.2).toNat).1 = e.1 then 3 else 0
def histGo (ahead : List Ev) : List Ev → Nat × Nat
  | [] => (0, 0)
  | e :: r => if evErr ahead e ≠ 0 then (ahead.length, evErr ahead e) else histGo (ahead ++ [e]) r
def histR (h : List Ev) : Nat × Nat := if 60 < h.length then (0, 4) else histGo [] h
/-- A history that is right. -/
def RightH (h : List Ev) : Prop := h.length ≤ 60 ∧ ∀ k (hk : k < h.length), evErr (h.take k) h[k] = 0
theorem histGo_ok : ∀ (r ahead : List Ev), (histGo ahead r).2 = 0 ↔ ∀ k (hk : k < r.length), evErr (ahead ++ r.take k) r[k] = 0
  | [], ahead => by simp [histGo]
  | e :: r, ahead => by
    unfold histGo
    by_cases he : evErr ahead e = 0
    · rw [if_neg (by simpa using he), histGo_ok r]
      constructor
      · intro h k hk
        cases k with
        | zero => simpa using he
        | succ k => have := h k (by simpa using hk); simpa using this
      · intro h k hk
        have := h (k + 1) (by simpa using hk); simpa using this
    · rw [if_pos he]
      constructor
      · intro h; exact absurd h he
      · intro h; exact absurd (by have := h 0 (by simp); simpa only [List.take_zero, List.append_nil, List.getElem_cons_zero] using this) he
theorem histR_ok (h : List Ev) : (histR h).2 = 0 ↔ RightH h := by
  unfold histR RightH
  by_cases hl : 60 < h.length
  · rw [if_pos hl]; simp; omega
  · rw [if_neg hl, histGo_ok]
    simp; intro _; omega
/-- Is an event straight ahead of another one behind it? -/
def directB (a e : Ev) : Bool := decide (a.1 = e.1) || (decide (e.2.1 = 3) && (decide (a.2.1 = 2) && decide (a.2.2 = e.2.2)))
def orRow (r s : List Bool) : List Bool := List.zipWith (fun a b => a || b) r s
/-- Row k, behind i rounds. -/
def pastRow (h : List Ev) (rows : List (List Bool)) (k : Nat) : Nat → List Bool
  | 0 => List.replicate h.length false
  | i + 1 => if directB (evAt h i) (evAt h k) then orRow ((pastRow h rows k i).set i true) (rows.getD i []) else pastRow h rows k i
def pastsR (h : List Ev) : Nat → List (List Bool)
  | 0 => []
  | k + 1 => pastsR h k ++ [pastRow h (pastsR h k) k k]
theorem pastsR_len (h : List Ev) : ∀ n, (pastsR h n).length = n
  | 0 => rfl
  | n + 1 => by simp [pastsR, pastsR_len h n]
theorem orRow_len {r s : List Bool} (h : r.length = s.length) : (orRow r s).length = r.length := by simp [orRow, h]
theorem pastRow_len (h : List Ev) (rows : List (List Bool)) (k : Nat) (hr : ∀ r ∈ rows, r.length = h.length) : ∀ i, i ≤ rows.length → (pastRow h rows k i).length = h.length
  | 0, _ => by simp [pastRow]
  | i + 1, hi => by
    have ih := pastRow_len h rows k hr i (by omega)
    have hg : (rows.getD i []).length = h.length := by
      rw [List.getD_eq_getElem?_getD, List.getElem?_eq_getElem (by omega), Option.getD_some]
      exact hr _ (List.getElem_mem _)
    unfold pastRow
    split
    · rw [orRow_len (by rw [List.length_set, ih, hg]), List.length_set, ih]
    · exact ih
theorem pastsR_row (h : List Ev) : ∀ n, ∀ r ∈ pastsR h n, r.length = h.length
  | 0, r, hr => by cases hr
  | n + 1, r, hr => by
    simp only [pastsR, List.mem_append, List.mem_singleton] at hr
    rcases hr with hr | rfl
    · exact pastsR_row h n r hr
    · exact pastRow_len h _ n (pastsR_row h n) n (by rw [pastsR_len]; omega)
theorem pastsR_get (h : List Ev) : ∀ n k, k < n → (pastsR h n).getD k [] = pastRow h (pastsR h k) k k
  | n + 1, k, hk => by
    simp only [pastsR]
    rw [List.getD_eq_getElem?_getD]
    by_cases hkn : k < n
    · rw [List.getElem?_append_left (by rw [pastsR_len]; exact hkn), ← List.getD_eq_getElem?_getD]
      exact pastsR_get h n k hkn
    · have : k = n := by omega
      subst this
      rw [List.getElem?_append_right (by rw [pastsR_len]; omega), pastsR_len]
      simp
/-- Is event j ahead of event k? -/
def bef (h : List Ev) (k j : Nat) : Bool := ((pastsR h h.length).getD k []).getD j false
theorem getD_orRow {r s : List Bool} (h : r.length = s.length) (j : Nat) : (orRow r s).getD j false = (r.getD j false || s.getD j false) := by
  simp only [orRow, List.getD_eq_getElem?_getD, List.getElem?_zipWith]
  by_cases hj : j < r.length
  · rw [List.getElem?_eq_getElem hj, List.getElem?_eq_getElem (by omega)]; rfl
  · rw [List.getElem?_eq_none (by omega), List.getElem?_eq_none (by omega)]; rfl
theorem pastRow_get (h : List Ev) (rows : List (List Bool)) (k : Nat) (hr : ∀ r ∈ rows, r.length = h.length) (j : Nat) : ∀ i, i ≤ rows.length → i ≤ h.length →
    ((pastRow h rows k i).getD j false = true ↔ ∃ m, m < i ∧ directB (evAt h m) (evAt h k) = true ∧ (m = j ∨ (rows.getD m []).getD j false = true))
  | 0, _, _ => by
    simp only [pastRow, List.getD_eq_getElem?_getD, List.getElem?_replicate]
    constructor
    · intro hh; split at hh <;> simp at hh
    · rintro ⟨m, hm, _⟩; omega
  | i + 1, hi, hi2 => by
    have ih := pastRow_get h rows k hr j i (by omega) (by omega)
    have hl := pastRow_len h rows k hr i (by omega)
    have hg : (rows.getD i []).length = h.length := by
      rw [List.getD_eq_getElem?_getD, List.getElem?_eq_getElem (by omega), Option.getD_some]
      exact hr _ (List.getElem_mem _)
    unfold pastRow
    by_cases hd : directB (evAt h i) (evAt h k) = true
    · rw [if_pos hd, getD_orRow (by rw [List.length_set, hl, hg]), Bool.or_eq_true]
      have hs : ((pastRow h rows k i).set i true).getD j false = true ↔ (i = j ∨ (pastRow h rows k i).getD j false = true) := by
        simp only [List.getD_eq_getElem?_getD, List.getElem?_set]
        by_cases hij : i = j
        · subst hij; rw [if_pos rfl, if_pos (by omega)]; simp
        · rw [if_neg hij]; simp [hij]
      rw [hs, ih]
      constructor
      · rintro ((h1 | ⟨m, h1, h2, h3⟩) | h1)
        · exact ⟨i, by omega, hd, .inl h1⟩
        · exact ⟨m, by omega, h2, h3⟩
        · exact ⟨i, by omega, hd, .inr h1⟩
      · rintro ⟨m, h1, h2, h3⟩
        by_cases hm : m = i
        · subst hm
          rcases h3 with h3 | h3
          · exact .inl (.inl h3)
          · exact .inr h3
        · exact .inl (.inr ⟨m, by omega, h2, h3⟩)
    · rw [if_neg hd, ih]
      constructor
      · rintro ⟨m, h1, h2, h3⟩; exact ⟨m, by omega, h2, h3⟩
      · rintro ⟨m, h1, h2, h3⟩
        by_cases hm : m = i
        · subst hm; exact absurd h2 hd
        · exact ⟨m, by omega, h2, h3⟩
theorem bef_iff (h : List Ev) (k j : Nat) (hk : k < h.length) : bef h k j = true ↔ ∃ m, m < k ∧ directB (evAt h m) (evAt h k) = true ∧ (m = j ∨ bef h m j = true) := by
  unfold bef
  rw [pastsR_get h _ k hk, pastRow_get h _ k (pastsR_row h k) j k (by rw [pastsR_len]; omega) (by omega)]
  constructor
  · rintro ⟨m, h1, h2, h3⟩
    refine ⟨m, h1, h2, ?_⟩
    rw [pastsR_get h k m h1] at h3
    rw [pastsR_get h _ m (by omega)]
    exact h3
  · rintro ⟨m, h1, h2, h3⟩
    refine ⟨m, h1, h2, ?_⟩
    rw [pastsR_get h k m h1]
    rw [pastsR_get h _ m (by omega)] at h3
    exact h3
theorem bef_none (h : List Ev) (k j : Nat) (hk : h.length ≤ k) : bef h k j = false := by
  unfold bef
  rw [show (pastsR h h.length).getD k [] = [] from by rw [List.getD_eq_getElem?_getD, List.getElem?_eq_none (by rw [pastsR_len]; exact hk)]; rfl]
  rfl
theorem bef_lt (h : List Ev) : ∀ k j, bef h k j = true → j < k := by
  intro k
  induction k using Nat.strongRecOn with
  | _ k ih =>
    intro j hb
    by_cases hk : k < h.length
    · obtain ⟨m, h1, _, h3⟩ := (bef_iff h k j hk).1 hb
      rcases h3 with rfl | h3
      · exact h1
      · have := ih m h1 j h3; omega
    · rw [bef_none h k j (by omega)] at hb; cases hb
theorem bef_trans (h : List Ev) : ∀ k i j, bef h k i = true → bef h i j = true → bef h k j = true := by
  intro k
  induction k using Nat.strongRecOn with
  | _ k ih =>
    intro i j h1 h2
    by_cases hk : k < h.length
    · obtain ⟨m, hm, hd, h3⟩ := (bef_iff h k i hk).1 h1
      rcases h3 with rfl | h3
      · exact (bef_iff h k j hk).2 ⟨m, hm, hd, .inr h2⟩
      · exact (bef_iff h k j hk).2 ⟨m, hm, hd, .inr (ih m hm i j h3 h2)⟩
    · rw [bef_none h k i (by omega)] at h1; cases h1
/-- How many of the first n events are of a member. -/
def cnt (h : List Ev) (m : Int) (n : Nat) : Nat := ((h.take n).filter fun e => decide (e.1 = m)).length
theorem cnt_zero (h : List Ev) (m : Int) : cnt h m 0 = 0 := by simp [cnt]
theorem cnt_succ (h : List Ev) (m : Int) (n : Nat) (hn : n < h.length) : cnt h m (n + 1) = cnt h m n + if h[n].1 = m then 1 else 0 := by
  unfold cnt
  rw [List.take_succ_eq_append_getElem hn, List.filter_append, List.length_append]
  congr 1
  by_cases he : h[n].1 = m <;> simp [he]
theorem cnt_le (h : List Ev) (m : Int) (n : Nat) : cnt h m n ≤ n := by
  unfold cnt
  exact Nat.le_trans (List.length_filter_le _ _) (by simp; omega)
theorem cnt_mono (h : List Ev) (m : Int) : ∀ {a b : Nat}, a ≤ b → cnt h m a ≤ cnt h m b := by
  intro a b hab
  unfold cnt
  have : h.take a = (h.take b).take a := by rw [List.take_take, Nat.min_eq_left hab]
  rw [this]
  exact ((List.take_sublist a _).filter _).length_le
/-- Is event k taken by a cut? -/
def takenB (h : List Ev) (many : List Int) (k : Nat) : Bool := decide (((cnt h (evAt h k).1 k : Nat) : Int) < many.getD (evAt h k).1.toNat 0)
def cutBadAt (h : List Ev) (many : List Int) (i : Nat) : Bool := decide (many.getD i 0 < 0) || decide (((cnt h (i : Int) h.length : Nat) : Int) < many.getD i 0)
def cutErr (h : List Ev) (many : List Int) : Nat :=
  if (histR h).2 ≠ 0 then (histR h).2 else if many.length ≠ 5 then 3 else if (List.range 5).any (cutBadAt h many) = true then 1 else 0
def cutB (h : List Ev) (many : List Int) : Bool := decide (∀ k, k < h.length → takenB h many k = true → ∀ i, i < k → bef h k i = true → takenB h many i = true)
end Go.Proofs.YtljlnhbndkdlcaaDoor
/- Plain law of HistoryBefore: a beginning of a right history is a cut that could have been. -/
namespace Go.Proofs.YtljlnhbndkdlcaaDoor
set_option linter.unusedVariables false
set_option linter.unusedSimpArgs false
open Go.RowKit
theorem evErr0 {ahead : List Ev} {e : Ev} (h : evErr ahead e = 0) : rightB e = true := by
  unfold evErr at h
  by_cases hr : rightB e = false
  · rw [if_pos hr] at h; cases h
  · simpa using hr
theorem rightB_who {e : Ev} (h : rightB e = true) : 0 ≤ e.1 ∧ e.1 < 5 := by
  unfold rightB at h
  simp only [Bool.and_eq_true, isMember, decide_eq_true_eq] at h
  exact h.1
theorem evAt_get {h : List Ev} {k : Nat} (hk : k < h.length) : evAt h k = h[k] := by
  unfold evAt; rw [List.getD_eq_getElem?_getD, List.getElem?_eq_getElem hk]; rfl
theorem RightH.who {h : List Ev} (hr : RightH h) {k : Nat} (hk : k < h.length) : 0 ≤ (evAt h k).1 ∧ (evAt h k).1 < 5 := by
  rw [evAt_get hk]; exact rightB_who (evErr0 (hr.2 k hk))
/-- What the law counts: how many of the first n events each member has. -/
def counts (h : List Ev) (n : Nat) : List Int := (List.range 5).map fun m : Nat => ((cnt h (m : Int) n : Nat) : Int)
theorem counts_len (h : List Ev) (n : Nat) : (counts h n).length = 5 := by simp [counts]
theorem counts_get (h : List Ev) (n m : Nat) (hm : m < 5) : (counts h n).getD m 0 = (cnt h (m : Int) n : Nat) := by
  unfold counts
  rw [List.getD_eq_getElem?_getD, List.getElem?_map, List.getElem?_range hm]; rfl
theorem counts_zero (h : List Ev) : counts h 0 = [0, 0, 0, 0, 0] := by simp [counts, cnt_zero, List.range_succ]
theorem counts_step (h : List Ev) (hr : RightH h) (n : Nat) (hn : n < h.length) : counts h (n + 1) = (counts h n).set (evAt h n).1.toNat ((cnt h (evAt h n).1 n : Nat) + 1) := by
  have hw := hr.who hn
  apply List.ext_getElem
  · simp [counts]
  intro m h1 h2
  have hm : m < 5 := by simpa [counts] using h1
  rw [List.getElem_set]
  simp only [counts, List.getElem_map, List.getElem_range]
  rw [cnt_succ h m n hn, evAt_get hn]
  rw [evAt_get hn] at hw
  by_cases he : h[n].1 = (m : Int)
  · rw [if_pos he, if_pos (by omega), he]; simp
  · rw [if_neg he, if_neg (by omega)]; simp
theorem taken_counts (h : List Ev) (hr : RightH h) (n k : Nat) (hk : k < h.length) (hn : n < h.length) : takenB h (counts h (n + 1)) k = decide (k ≤ n) := by
  have hw := hr.who hk
  have hm : (evAt h k).1.toNat < 5 := by omega
  unfold takenB
  rw [counts_get h _ _ hm, show (((evAt h k).1.toNat : Nat) : Int) = (evAt h k).1 from by omega, decide_eq_decide]
  constructor
  · intro h1
    refine Nat.le_of_not_lt fun h2 => ?_
    have := cnt_mono h (evAt h k).1 (show n + 1 ≤ k by omega)
    omega
  · intro h1
    have h2 := cnt_mono h (evAt h k).1 (show k + 1 ≤ n + 1 by omega)
    rw [cnt_succ h _ k hk, evAt_get hk, if_pos rfl] at h2
    rw [evAt_get hk]; omega
theorem cut_counts (h : List Ev) (hr : RightH h) (n : Nat) (hn : n < h.length) : cutErr h (counts h (n + 1)) = 0 ∧ cutB h (counts h (n + 1)) = true := by
  constructor
  · unfold cutErr
    rw [if_neg (by simpa using (histR_ok h).2 hr), if_neg (by simp [counts_len]), if_neg]
    intro hh
    obtain ⟨i, hi, hb⟩ := List.any_eq_true.1 hh
    have hi := List.mem_range.1 hi
    unfold cutBadAt at hb
    rw [counts_get h _ _ hi] at hb
    simp only [Bool.or_eq_true, decide_eq_true_eq] at hb
    have := cnt_mono h (i : Int) (show n + 1 ≤ h.length by omega)
    omega
  · unfold cutB
    rw [decide_eq_true_eq]
    intro k hk h1 i hi _
    rw [taken_counts h hr n k hk hn, decide_eq_true_eq] at h1
    rw [taken_counts h hr n i (by omega) hn, decide_eq_true_eq]
    omega
end Go.Proofs.YtljlnhbndkdlcaaDoor
/- Contracts of package vector, the second part; the comparison of lists. -/
namespace Go.Proofs.YtljlnhbndkdlcaaDoor
set_option linter.unusedVariables false
set_option linter.unusedSimpArgs false
open Go.RowKit
def joinOf (a b : List Int) : List Int := if bothErr a b = 0 then zipMax a b else []
set_option maxHeartbeats 1000000 in
theorem sameInts_any (va vb : Value) (a b : List Int) (w : World) (ha : Ints w va a) (hb : Ints w vb b) :
    Calls Tryd.prog 23 #[va, vb] w fun e w' => e = .returned (.bool (a == b)) ∧ ∃ n, w' = w.drewN n := by
  obtain ⟨ad, cap, rfl, hac, hacap⟩ := ha.shape
  obtain ⟨bd, bcap, rfl, hbc, hbcap⟩ := hb.shape
  have HA := Lib.hid ha; have HB := Lib.hid hb
  clear ha hb
  by_cases hlen : a.length = b.length
  · have hl' : ((a.length : Int) != (b.length : Int)) = false := by rw [bne_eq_false_iff_eq]; omega
    have h1 : a.length ≤ b.length := by omega
    have h2 : b.length ≤ a.length := by omega
    have HL := Lib.hid hlen
    clear hlen
    go_enter Tryd.func23, Tryd.ntmps23
    go_wp2_with fail
    go_loopw [5] (fun i wr => ∃ k : Nat, k ≤ a.length ∧ i = .int .i64 k ∧ Hid ((∀ j (h : j < k) (h' : j < a.length) (h'' : j < b.length), a[j] = b[j]) ∧ ∃ n, wr = w.drewN n)) (fun i _ => a.length - (intOf i).toNat)
    case atStart => exact ⟨0, Nat.zero_le _, rfl, fun j h => by omega, 0, rfl⟩
    case round =>
      obtain ⟨k, hk, rfl, hp⟩ := hrel
      obtain ⟨n, rfl⟩ := hp.out.2
      by_cases hlt : k < a.length
      · have hlt' : k < b.length := by omega
        obtain ⟨aa, rfl, hca⟩ := HA.out.at k hlt
        obtain ⟨ab, rfl, hcb⟩ := HB.out.at k hlt'
        by_cases hle : a[k] = b[k]
        · have hb' : (a[k] != b[k]) = false := by rw [bne_eq_false_iff_eq]; exact hle
          have Hle := Lib.hid hle
          clear hle
          go_wp2_with fail
          go_quiet (fail)
          go_wp2
          go_roundw
          case rel =>
            refine ⟨k + 1, by omega, by go_num, ⟨fun j h h' h'' => ?_, _, rfl⟩⟩
            by_cases hj : j < k
            · exact hp.out.1 j hj h' h''
            · have : j = k := by omega
              subst this; exact Hle.out
          case measure => simp [intOf]; omega
        · have hb' : (a[k] != b[k]) = true := by rw [bne_iff_ne]; exact hle
          have Hle := Lib.hid hle
          clear hle
          go_wp2_with fail
          go_quiet (fail)
          go_wp2
          go_ret
          exact ⟨ret_bool (by rw [eq_comm, beq_eq_false_iff_ne]; intro e; subst e; exact Hle.out rfl), _, World.drewN_drewN _ _ _⟩
      · go_wp2
        go_ret
        exact ⟨ret_bool (by rw [eq_comm, beq_iff_eq]; exact List.ext_getElem HL.out fun j h h' => hp.out.1 j (by omega) h h'), _, rfl⟩
  · have hl' : ((a.length : Int) != (b.length : Int)) = true := by rw [bne_iff_ne]; omega
    have HL := Lib.hid hlen
    clear hlen
    go_enter Tryd.func23, Tryd.ntmps23
    go_wp2
    go_ret
    exact ⟨ret_bool (by rw [eq_comm, beq_eq_false_iff_ne]; intro e; exact HL.out (by rw [e])), 0, rfl⟩
/-- One number of a list is another. -/
def stepErr (v : List Int) (who : Int) : Nat := if vecErr v ≠ 0 then vecErr v else if isMember who = false then 1 else if v.getD who.toNat 0 = 1000000 then 4 else 0
def stepOf (v : List Int) (who : Int) : List Int := if stepErr v who = 0 then v.set who.toNat (v.getD who.toNat 0 + 1) else []
/-- A list that was written out. -/
theorem Ints_lit {w : World} {b n : Nat} {t : TypeId} {cs : Array Value} {l : List Int} (hb : b = w.heap.size) (hcs : cs.toList = l.map (Value.int .i64)) (hn : n = l.length) (hI : ∀ x ∈ l, I64 x) (hm : l.length ≤ 100000) :
    Ints (w.alloc (.cells cs t)) (.slice (some ⟨b, 0, none⟩) n n) l := by
  subst hb; subst hn
  refine ⟨?_, hI⟩
  have := Rd_alloc (w := w) (t := t) (cs := cs) (n := l.length) (by unfold maxLen; omega)
  rw [hcs] at this; exact this
theorem bothErr_swap {a b : List Int} (h : bothErr a b = 0) : bothErr b a = 0 := by
  have := bothErr0 h; simp [bothErr, this.1, this.2]
theorem bothErr_self {a b : List Int} (h : bothErr a b = 0) : bothErr a a = 0 := by
  have := bothErr0 h; simp [bothErr, this.1]
theorem leq_refl : ∀ a : List Int, leq a a = true
  | [] => rfl
  | x :: r => by simp [leq, leq_refl r]
theorem leq_antisymm {a b : List Int} (hl : a.length = b.length) (h1 : leq a b = true) (h2 : leq b a = true) : a = b :=
  List.ext_getElem hl fun i h h' => Int.le_antisymm ((leq_iff a b hl).1 h1 i h h') ((leq_iff b a hl.symm).1 h2 i h' h)
theorem Below_drewN {B : Nat} {a w : World} (h : Below B a w) (n : Nat) : Below B a (w.drewN n) := ⟨h.os, h.tape, h.output, h.size, h.block⟩
theorem Own.drewN {w0 w : World} {P : HProp} (h : Own w0 P w) (n : Nat) : Own w0 P (w.drewN n) := h.same rfl rfl rfl rfl
theorem Own.int_shape {w0 w : World} {v : Value} {l : List Int} {R : HProp} (h : Own w0 (IntSl v l * R) w) : ∃ ad cap, v = .slice ad l.length cap := by
  obtain ⟨ad, cap, h1, _⟩ := Own.rd h
  exact ⟨ad, cap, h1⟩
end Go.Proofs.YtljlnhbndkdlcaaDoor
/- Contracts of package stable. -/
namespace Go.Proofs.YtljlnhbndkdlcaaDoor
set_option linter.unusedVariables false
set_option linter.unusedSimpArgs false
open Go.RowKit
/-- One of so many members? -/
def inR (who : Int) (n : Nat) : Bool := decide (0 ≤ who) && decide (who < n)
theorem info_ints : (Tryd.prog.info? 32).map (fun i => (i.zero, i.size, i.bytes)) = some (some (.slice none 0 0), 1, 24) := by kernel_rfl
def rowP (r : Value × List Int) : HProp := IntSl r.1 r.2
def rowsOk (rows : List (List Int)) : Prop := ∀ r ∈ rows, vecErr r = 0
theorem vecErr_I64 {r : List Int} (h : vecErr r = 0) : ∀ x ∈ r, I64 x := fun x hx => by have := (vecErr0 h).2 x hx; unfold I64; omega
def toldErr (n : Nat) (who : Int) (v : List Int) : Nat := if inR who n = false then 1 else vecErr v
def toldRows (rows : List (List Int)) (who : Int) (v : List Int) : List (List Int) := if toldErr rows.length who v = 0 then rows.set who.toNat (zipMax (rows.getD who.toNat []) v) else rows
/-- The row of a member. -/
def rowOf (rows : List (List Int)) (who : Int) : List Int := if inR who rows.length then rows.getD who.toNat [] else []
def inErr (who : Int) (n : Nat) : Nat := if inR who n then 0 else 1
end Go.Proofs.YtljlnhbndkdlcaaDoor
/- Contracts of package stable, the second part. -/
namespace Go.Proofs.YtljlnhbndkdlcaaDoor
set_option linter.unusedVariables false
set_option linter.unusedSimpArgs false
open Go.RowKit
def zero5 : List Int := [0, 0, 0, 0, 0]
theorem vecErr_zero5 : vecErr zero5 = 0 := by decide
/-- The block of a new row is an owned list. -/
theorem Own.zero5 {w0 w : World} {b : Nat} {R : HProp} (h : Own w0 (blk b (.cells #[.int .i64 0, .int .i64 0, .int .i64 0, .int .i64 0, .int .i64 0] 3 (0, 0)) * R) w) : Own w0 (IntSl (.slice (some ⟨b, 0, none⟩) 5 5) Go.Proofs.YtljlnhbndkdlcaaDoor.zero5 * R) w :=
  Own.sl_mk (by decide) (by unfold maxLen; decide) (by rfl) (by decide) (fun i hi => by
    match i, hi with
    | 0, _ => rfl
    | 1, _ => rfl
    | 2, _ => rfl
    | 3, _ => rfl
    | 4, _ => rfl
    | n + 5, h => simp [Go.Proofs.YtljlnhbndkdlcaaDoor.zero5] at h; omega) h
end Go.Proofs.YtljlnhbndkdlcaaDoor
