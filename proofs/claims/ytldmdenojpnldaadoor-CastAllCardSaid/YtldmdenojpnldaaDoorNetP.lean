/- Package net, plainly: what is on its way, and what is cut. -/
import Derived.Test.YtldmdenojpnldaaDoorSet
import Derived.Test.YtldmdenojpnldaaDoorArgs2
import Derived.Test.YtldmdenojpnldaaDoorFifo
namespace Go.Proofs.YtldmdenojpnldaaDoor
set_option linter.unusedVariables false
set_option linter.unusedSimpArgs false
open Go.RowKit Go.Maps
/-- A set of ways as a map. -/
def setW (ss : List (Int × Int)) : List ((Int × Int) × Value) := ss.map fun x => (x, Value.bool true)
theorem setW_mem {ss : List (Int × Int)} {p : (Int × Int) × Value} (h : p ∈ setW ss) : p.1 ∈ ss := by
  obtain ⟨y, hy, rfl⟩ := List.mem_map.1 h
  exact hy
theorem mget_setW (ss : List (Int × Int)) (x : Int × Int) : (mget (setW ss) x).getD (.bool false) = .bool (decide (x ∈ ss)) := by
  induction ss with
  | nil => rfl
  | cons y r ih =>
    unfold setW at ih ⊢
    rw [List.map_cons]; unfold mget
    by_cases h : y = x
    · simp [h]
    · rw [if_neg h, ih]
      have h' : ¬ x = y := fun e => h e.symm
      simp [h']
def wayPut (ss : List (Int × Int)) (x : Int × Int) : List (Int × Int) := if x ∈ ss then ss else ss ++ [x]
def wayDel : List (Int × Int) → Int × Int → List (Int × Int)
  | [], _ => []
  | y :: r, x => if y = x then r else y :: wayDel r x
theorem mput_setW_old {ss : List (Int × Int)} {x : Int × Int} (h : x ∈ ss) : mput (setW ss) x (.bool true) = setW ss := by
  induction ss with
  | nil => cases h
  | cons y r ih =>
    unfold setW at ih ⊢
    rw [List.map_cons]; unfold mput
    by_cases e : y = x
    · simp [e]
    · rw [if_neg e, ih (by rcases List.mem_cons.1 h with h | h
                           · exact absurd h.symm e
                           · exact h)]
theorem mput_setW (ss : List (Int × Int)) (x : Int × Int) : mput (setW ss) x (.bool true) = setW (wayPut ss x) := by
  unfold wayPut
  by_cases h : x ∈ ss
  · rw [if_pos h, mput_setW_old h]
  · rw [if_neg h]
    unfold setW
    rw [mput_new (by intro p hp e; obtain ⟨y, hy, rfl⟩ := List.mem_map.1 hp; simp at e; exact h (e ▸ hy)), List.map_append]; rfl
theorem mdel_setW (ss : List (Int × Int)) (x : Int × Int) : mdel (setW ss) x = setW (wayDel ss x) := by
  induction ss with
  | nil => rfl
  | cons y r ih =>
    unfold setW at ih ⊢
    unfold wayDel
    rw [List.map_cons]; unfold mdel
    by_cases e : y = x
    · rw [if_pos e, if_pos e]
    · rw [if_neg e, if_neg e, ih]; rfl
theorem setW_keys (ss : List (Int × Int)) : (setW ss).map (·.1) = ss := by unfold setW; rw [List.map_map]; exact List.map_id' ss
theorem mem_wayPut {ss : List (Int × Int)} {x y : Int × Int} : y ∈ wayPut ss x ↔ y ∈ ss ∨ y = x := by
  unfold wayPut
  by_cases h : x ∈ ss
  · rw [if_pos h]; exact ⟨.inl, fun hh => hh.elim id (fun e => e ▸ h)⟩
  · rw [if_neg h]; simp
theorem mem_wayDel {ss : List (Int × Int)} (hn : ss.Nodup) {x y : Int × Int} : y ∈ wayDel ss x ↔ y ∈ ss ∧ y ≠ x := by
  induction ss with
  | nil => simp [wayDel]
  | cons z r ih =>
    rw [List.nodup_cons] at hn
    unfold wayDel
    by_cases e : z = x
    · subst e
      rw [if_pos rfl, List.mem_cons]
      constructor
      · intro h; exact ⟨.inr h, fun e => hn.1 (e ▸ h)⟩
      · rintro ⟨h | h, h2⟩
        · exact absurd h h2
        · exact h
    · rw [if_neg e, List.mem_cons, ih hn.2, List.mem_cons]
      constructor
      · rintro (h | ⟨h, h2⟩)
        · exact ⟨.inl h, fun e' => e (h ▸ e')⟩
        · exact ⟨.inr h, h2⟩
      · rintro ⟨h | h, h2⟩
        · exact .inl h
        · exact .inr ⟨h, h2⟩
theorem wayPut_nodup {ss : List (Int × Int)} {x : Int × Int} (h : ss.Nodup) : (wayPut ss x).Nodup := by
  unfold wayPut
  by_cases hx : x ∈ ss
  · rw [if_pos hx]; exact h
  · rw [if_neg hx]
    refine List.nodup_append.2 ⟨h, by simp, fun a ha b hb => ?_⟩
    rw [List.mem_singleton.1 hb]
    rintro rfl
    exact hx ha
theorem wayDel_sub {ss : List (Int × Int)} {x y : Int × Int} (h : y ∈ wayDel ss x) : y ∈ ss := by
  induction ss with
  | nil => cases h
  | cons z r ih =>
    unfold wayDel at h
    by_cases e : z = x
    · rw [if_pos e] at h; exact List.mem_cons_of_mem _ h
    · rw [if_neg e] at h
      rcases List.mem_cons.1 h with h | h
      · exact h ▸ List.mem_cons_self ..
      · exact List.mem_cons_of_mem _ (ih h)
theorem wayDel_nodup {ss : List (Int × Int)} {x : Int × Int} (h : ss.Nodup) : (wayDel ss x).Nodup := by
  induction ss with
  | nil => exact h
  | cons z r ih =>
    rw [List.nodup_cons] at h
    unfold wayDel
    by_cases e : z = x
    · rw [if_pos e]; exact h.2
    · rw [if_neg e]; exact List.nodup_cons.2 ⟨fun hc => h.1 (wayDel_sub hc), ih h.2⟩
/-- A net: packets (from, to, word), and the ways that are cut. -/
structure Nt where
  all : List Ev
  cut : List (Int × Int)
def wayOf (a b : Int) : Int × Int := (min a b, max a b)
def pkErr (p : Ev) : Nat := if isMember p.1 = false then 1 else if isMember p.2.1 = false then 1 else if isWord p.2.2 = false then 1 else if p.1 = p.2.1 then 3 else 0
def ntErr (s : Nt) (p : Ev) : Nat := if pkErr p ≠ 0 then pkErr p else if 40 ≤ s.all.length then 4 else 0
def ntSend (s : Nt) (p : Ev) : Nt := if ntErr s p = 0 then { s with all := s.all ++ [p] } else s
def ntHas (s : Nt) (i : Int) : Bool := inR i s.all.length
def ntAt (s : Nt) (i : Int) : Ev := s.all.getD i.toNat (0, 0, 0)
def ntOut (s : Nt) (i : Int) : Nt := { s with all := s.all.eraseIdx i.toNat }
def ntCutAt (s : Nt) (i : Int) : Bool := decide (wayOf (ntAt s i).1 (ntAt s i).2.1 ∈ s.cut)
def ntGiveErr (s : Nt) (i : Int) : Nat := if ntHas s i = false then 1 else if ntCutAt s i = true then 6 else 0
def ntGive (s : Nt) (i : Int) : Nt := if ntGiveErr s i = 0 then ntOut s i else s
def ntGiven (s : Nt) (i : Int) : Ev := if ntGiveErr s i = 0 then ntAt s i else (0, 0, 0)
def ntDropErr (s : Nt) (i : Int) : Nat := if ntHas s i = false then 1 else 0
def ntDrop (s : Nt) (i : Int) : Nt := if ntDropErr s i = 0 then ntOut s i else s
def ntTwiceErr (s : Nt) (i : Int) : Nat := if ntHas s i = false then 1 else ntErr s (ntAt s i)
def ntTwice (s : Nt) (i : Int) : Nt := if ntTwiceErr s i = 0 then ntSend s (ntAt s i) else s
def ntCutErr (a b : Int) : Nat := if isMember a = false then 1 else if isMember b = false then 1 else if a = b then 3 else 0
def ntCut (s : Nt) (a b : Int) (is : Bool) : Nt := if ntCutErr a b = 0 then { s with cut := if is then wayPut s.cut (wayOf a b) else wayDel s.cut (wayOf a b) } else s
/-- What holds of a net, whatever is done. -/
structure NtI (s : Nt) : Prop where
  len : s.all.length ≤ 40
  ok : ∀ p ∈ s.all, pkErr p = 0
  nd : s.cut.Nodup
  mem : ∀ x ∈ s.cut, isMember x.1 = true ∧ isMember x.2 = true
theorem pkErr0 {p : Ev} (h : pkErr p = 0) : isMember p.1 = true ∧ isMember p.2.1 = true ∧ isWord p.2.2 = true ∧ p.1 ≠ p.2.1 := by
  unfold pkErr at h
  cases h1 : isMember p.1
  · rw [if_pos h1] at h; cases h
  rw [if_neg (by rw [h1]; simp)] at h
  cases h2 : isMember p.2.1
  · rw [if_pos h2] at h; cases h
  rw [if_neg (by rw [h2]; simp)] at h
  cases h3 : isWord p.2.2
  · rw [if_pos h3] at h; cases h
  rw [if_neg (by rw [h3]; simp)] at h
  by_cases h4 : p.1 = p.2.1
  · rw [if_pos h4] at h; cases h
  · exact ⟨rfl, rfl, rfl, h4⟩
theorem ntErr0 {s : Nt} {p : Ev} (h : ntErr s p = 0) : pkErr p = 0 ∧ s.all.length < 40 := by
  unfold ntErr at h
  by_cases h1 : pkErr p = 0
  · rw [if_neg (by rw [h1]; simp)] at h
    by_cases h2 : 40 ≤ s.all.length
    · rw [if_pos h2] at h; cases h
    · exact ⟨h1, by omega⟩
  · rw [if_pos h1] at h; exact absurd h h1
theorem ntHas_iff {s : Nt} {i : Int} : ntHas s i = true ↔ 0 ≤ i ∧ i < s.all.length := by unfold ntHas inR; simp
theorem ntAt_mem {s : Nt} {i : Int} (h : ntHas s i = true) : ntAt s i ∈ s.all := by
  obtain ⟨h1, h2⟩ := ntHas_iff.1 h
  unfold ntAt
  rw [List.getD_eq_getElem?_getD, List.getElem?_eq_getElem (by omega)]
  exact List.getElem_mem _
theorem NtI.new : NtI ⟨[], []⟩ := ⟨by simp, by simp, List.nodup_nil, by simp⟩
theorem NtI.send {s : Nt} (h : NtI s) (p : Ev) : NtI (ntSend s p) := by
  unfold ntSend
  by_cases he : ntErr s p = 0
  · rw [if_pos he]
    obtain ⟨h1, h2⟩ := ntErr0 he
    refine ⟨by simp; omega, fun q hq => ?_, h.nd, h.mem⟩
    rcases List.mem_append.1 hq with hq | hq
    · exact h.ok q hq
    · rw [List.mem_singleton.1 hq]; exact h1
  · rw [if_neg he]; exact h
theorem NtI.out {s : Nt} (h : NtI s) (i : Int) : NtI (ntOut s i) :=
  ⟨Nat.le_trans (List.length_eraseIdx_le ..) h.len, fun q hq => h.ok q (List.mem_of_mem_eraseIdx hq), h.nd, h.mem⟩
theorem NtI.give {s : Nt} (h : NtI s) (i : Int) : NtI (ntGive s i) := by
  unfold ntGive; split
  · exact h.out i
  · exact h
theorem NtI.drop {s : Nt} (h : NtI s) (i : Int) : NtI (ntDrop s i) := by
  unfold ntDrop; split
  · exact h.out i
  · exact h
theorem NtI.twice {s : Nt} (h : NtI s) (i : Int) : NtI (ntTwice s i) := by
  unfold ntTwice; split
  · exact h.send _
  · exact h
theorem ntCutErr0 {a b : Int} (h : ntCutErr a b = 0) : isMember a = true ∧ isMember b = true ∧ a ≠ b := by
  unfold ntCutErr at h
  cases h1 : isMember a
  · rw [if_pos h1] at h; cases h
  rw [if_neg (by rw [h1]; simp)] at h
  cases h2 : isMember b
  · rw [if_pos h2] at h; cases h
  rw [if_neg (by rw [h2]; simp)] at h
  by_cases h4 : a = b
  · rw [if_pos h4] at h; cases h
  · exact ⟨rfl, rfl, h4⟩
theorem wayOf_mem {a b : Int} (ha : isMember a = true) (hb : isMember b = true) : isMember (wayOf a b).1 = true ∧ isMember (wayOf a b).2 = true := by
  unfold wayOf
  simp only [isMember, Bool.and_eq_true, decide_eq_true_eq] at *
  omega
theorem NtI.cut' {s : Nt} (h : NtI s) (a b : Int) (is : Bool) : NtI (ntCut s a b is) := by
  unfold ntCut
  by_cases he : ntCutErr a b = 0
  rotate_left
  · rw [if_neg he]; exact h
  rw [if_pos he]
  obtain ⟨h1, h2, _⟩ := ntCutErr0 he
  refine ⟨h.len, h.ok, ?_, fun x hx => ?_⟩
  · cases is
    · exact wayDel_nodup h.nd
    · exact wayPut_nodup h.nd
  · cases is
    · exact h.mem x (wayDel_sub hx)
    · rcases mem_wayPut.1 hx with hx | rfl
      · exact h.mem x hx
      · exact wayOf_mem h1 h2
theorem wayOf_comm (a b : Int) : wayOf a b = wayOf b a := by unfold wayOf; rw [Int.min_comm, Int.max_comm]
theorem wayOf_inj {a b c d : Int} (h : wayOf a b = wayOf c d) : (a = c ∧ b = d) ∨ (a = d ∧ b = c) := by
  unfold wayOf at h
  injection h with h1 h2
  omega
end Go.Proofs.YtldmdenojpnldaaDoor
