/- Package net, plainly: what is on its way, and what is cut. -/
import Derived.Test.YtldmdenojpnldaaDoorMCastPlays2
import Derived.Test.YtldmdenojpnldaaDoorMCastPlays3
import Derived.Test.YtldmdenojpnldaaDoorMCastPlays12
namespace Go.Proofs.YtldmdenojpnldaaDoor
set_option linter.unusedVariables false
set_option linter.unusedSimpArgs false
open Go.RowKit Go.Maps
/-- A set of ways as a map. -/
def setW (ss : List (Int × Int)) : List ((Int × Int) × Value) := ss.map fun x => (x, Value.bool true)
theorem setW_mem {ss : List (Int × Int)} {p : (Int × Int) × Value} (h : p ∈ setW ss) : p.1 ∈ ss := by
  obtain ⟨y, hy, rfl⟩ := List.mem_map.1 h
  exact hy
theorem mget_setW (ss : List (Int × Int)) (x : Int × Int) : (mget (setW ss) x).getD (.bool false) = .bool (decide (x ∈ ss)) := by
  induction ss with
  | nil => rfl
  | cons y r ih =>
    unfold setW at ih ⊢
    rw [List.map_cons]; unfold mget
    by_cases h : y = x
    · simp [h]
    · rw [if_neg h, ih]
      have h' : ¬ x = y := fun e => h e.symm
      simp [h']
def wayPut (ss : List (Int × Int)) (x : Int × Int) : List (Int × Int) := if x ∈ ss then ss else ss ++ [x]
def wayDel : List (Int × Int) → Int × Int → List (Int × Int)
  | [], _ => []
  | y :: r, x => if y = x then r else y :: wayDel r x
theorem mput_setW_old {ss : List (Int × Int)} {x : Int × Int} (h : x ∈ ss) : mput (setW ss) x (.bool true) = setW ss := by
  induction ss with
  | nil => cases h
  | cons y r ih =>
    unfold setW at ih ⊢
    rw [List.map_cons]; unfold mput
    by_cases e : y = x
    · simp [e]
    · rw [if_neg e, ih (by rcases List.mem_cons.1 h with h | h
                           · exact absurd h.symm e
                           · exact h)]
theorem mput_setW (ss : List (Int × Int)) (x : Int × Int) : mput (setW ss) x (.bool true) = setW (wayPut ss x) := by
  unfold wayPut
  by_cases h : x ∈ ss
  · rw [if_pos h, mput_setW_old h]
  · rw [if_neg h]
    unfold setW
    rw [mput_new (by intro p hp e; obtain ⟨y, hy, rfl⟩ := List.mem_map.1 hp; simp at e; exact h (e ▸ hy)), List.map_append]; rfl
theorem mdel_setW (ss : List (Int × Int)) (x : Int × Int) : mdel (setW ss) x = setW (wayDel ss x) := by
  induction ss with
  | nil => rfl
  | cons y r ih =>
    unfold setW at ih ⊢
    unfold wayDel
    rw [List.map_cons]; unfold mdel
    by_cases e : y = x
    · rw [if_pos e, if_pos e]
    · rw [if_neg e, if_neg e, ih]; rfl
theorem setW_keys (ss : List (Int × Int)) : (setW ss).map (·.1) = ss := by unfold setW; rw [List.map_map]; exact List.map_id' ss
theorem mem_wayPut {ss : List (Int × Int)} {x y : Int × Int} : y ∈ wayPut ss x ↔ y ∈ ss ∨ y = x := by
  unfold wayPut
  by_cases h : x ∈ ss
  · rw [if_pos h]; exact ⟨.inl, fun hh => hh.elim id (fun e => e ▸ h)⟩
  · rw [if_neg h]; simp
theorem mem_wayDel {ss : List (Int × Int)} (hn : ss.Nodup) {x y : Int × Int} : y ∈ wayDel ss x ↔ y ∈ ss ∧ y ≠ x := by
  induction ss with
  | nil => simp [wayDel]
  | cons z r ih =>
    rw [List.nodup_cons] at hn
    unfold wayDel
    by_cases e : z = x
    · subst e
      rw [if_pos rfl, List.mem_cons]
      constructor
      · intro h; exact ⟨.inr h, fun e => hn.1 (e ▸ h)⟩
      · rintro ⟨h | h, h2⟩
        · exact absurd h h2
        · exact h
    · rw [if_neg e, List.mem_cons, ih hn.2, List.mem_cons]
      constructor
      · rintro (h | ⟨h, h2⟩)
        · exact ⟨.inl h, fun e' => e (h ▸ e')⟩
        · exact ⟨.inr h, h2⟩
      · rintro ⟨h | h, h2⟩
        · exact .inl h
        · exact .inr ⟨h, h2⟩
theorem wayPut_nodup {ss : List (Int × Int)} {x : Int × Int} (h : ss.Nodup) : (wayPut ss x).Nodup := by
  unfold wayPut
  by_cases hx : x ∈ ss
  · rw [if_pos hx]; exact h
  · rw [if_neg hx]
    refine List.nodup_append.2 ⟨h, by simp, fun a ha b hb => ?_⟩
    rw [List.mem_singleton.1 hb]
    rintro rfl
    exact hx ha
theorem wayDel_sub {ss : List (Int × Int)} {x y : Int × Int} (h : y ∈ wayDel ss x) : y ∈ ss := by
  induction ss with
  | nil => cases h
  | cons z r ih =>
    unfold wayDel at h
    by_cases e : z = x
    · rw [if_pos e] at h; exact List.mem_cons_of_mem _ h
    · rw [if_neg e] at h
      rcases List.mem_cons.1 h with h | h
      · exact h ▸ List.mem_cons_self ..
      · exact List.mem_cons_of_mem _ (ih h)
theorem wayDel_nodup {ss : List (Int × Int)} {x : Int × Int} (h : ss.Nodup) : (wayDel ss x).Nodup := by
  induction ss with
  | nil => exact h
  | cons z r ih =>
    rw [List.nodup_cons] at h
    unfold wayDel
    by_cases e : z = x
    · rw [if_pos e]; exact h.2
    · rw [if_neg e]; exact List.nodup_cons.2 ⟨fun hc => h.1 (wayDel_sub hc), ih h.2⟩
/-- A net: packets (from, to, word), and the ways that are cut. -/
structure Nt where
  all : List Ev
  cut : List (Int × Int)
def wayOf (a b : Int) : Int × Int := (min a b, max a b)
def pkErr (p : Ev) : Nat := if isMember p.1 = false then 1 else if isMember p.2.1 = false then 1 else if isWord p.2.2 = false then 1 else if p.1 = p.2.1 then 3 else 0
def ntErr (s : Nt) (p : Ev) : Nat := if pkErr p ≠ 0 then pkErr p else if 40 ≤ s.all.length then 4 else 0
def ntSend (s : Nt) (p : Ev) : Nt := if ntErr s p = 0 then { s with all := s.all ++ [p] } else s
def ntHas (s : Nt) (i : Int) : Bool := inR i s.all.length
def ntAt (s : Nt) (i : Int) : Ev := s.all.getD i.toNat (0, 0, 0)
def ntOut (s : Nt) (i : Int) : Nt := { s with all := s.all.eraseIdx i.toNat }
def ntCutAt (s : Nt) (i : Int) : Bool := decide (wayOf (ntAt s i).1 (ntAt s i).2.1 ∈ s.cut)
def ntGiveErr (s : Nt) (i : Int) : Nat := if ntHas s i = false then 1 else if ntCutAt s i = true then 6 else 0
def ntGive (s : Nt) (i : Int) : Nt := if ntGiveErr s i = 0 then ntOut s i else s
def ntGiven (s : Nt) (i : Int) : Ev := if ntGiveErr s i = 0 then ntAt s i else (0, 0, 0)
def ntDropErr (s : Nt) (i : Int) : Nat := if ntHas s i = false then 1 else 0
def ntDrop (s : Nt) (i : Int) : Nt := if ntDropErr s i = 0 then ntOut s i else s
def ntTwiceErr (s : Nt) (i : Int) : Nat := if ntHas s i = false then 1 else ntErr s (ntAt s i)
def ntTwice (s : Nt) (i : Int) : Nt := if ntTwiceErr s i = 0 then ntSend s (ntAt s i) else s
def ntCutErr (a b : Int) : Nat := if isMember a = false then 1 else if isMember b = false then 1 else if a = b then 3 else 0
def ntCut (s : Nt) (a b : Int) (is : Bool) : Nt := if ntCutErr a b = 0 then { s with cut := if is then wayPut s.cut (wayOf a b) else wayDel s.cut (wayOf a b) } else s
/-- What holds of a net, whatever is done. -/
structure NtI (s : Nt) : Prop where
  len : s.all.length ≤ 40
  ok : ∀ p ∈ s.all, pkErr p = 0
  nd : s.cut.Nodup
  mem : ∀ x ∈ s.cut, isMember x.1 = true ∧ isMember x.2 = true
theorem pkErr0 {p : Ev} (h : pkErr p = 0) : isMember p.1 = true ∧ isMember p.2.1 = true ∧ isWord p.2.2 = true ∧ p.1 ≠ p.2.1 := by
  unfold pkErr at h
  cases h1 : isMember p.1
  · rw [if_pos h1] at h; cases h
  rw [if_neg (by rw [h1]; simp)] at h
  cases h2 : isMember p.2.1
  · rw [if_pos h2] at h; cases h
  rw [if_neg (by rw [h2]; simp)] at h
  cases h3 : isWord p.2.2
  · rw [if_pos h3] at h; cases h
  rw [if_neg (by rw [h3]; simp)] at h
  by_cases h4 : p.1 = p.2.1
  · rw [if_pos h4] at h; cases h
  · exact ⟨rfl, rfl, rfl, h4⟩
theorem ntErr0 {s : Nt} {p : Ev} (h : ntErr s p = 0) : pkErr p = 0 ∧ s.all.length < 40 := by
  unfold ntErr at h
  by_cases h1 : pkErr p = 0
  · rw [if_neg (by rw [h1]; simp)] at h
    by_cases h2 : 40 ≤ s.all.length
    · rw [if_pos h2] at h; cases h
    · exact ⟨h1, by omega⟩
  · rw [if_pos h1] at h; exact absurd h h1
theorem ntHas_iff {s : Nt} {i : Int} : ntHas s i = true ↔ 0 ≤ i ∧ i < s.all.length := by unfold ntHas inR; simp
theorem ntAt_mem {s : Nt} {i : Int} (h : ntHas s i = true) : ntAt s i ∈ s.all := by
  obtain ⟨h1, h2⟩ := ntHas_iff.1 h
  unfold ntAt
  rw [List.getD_eq_getElem?_getD, List.getElem?_eq_getElem (by omega)]
  exact List.getElem_mem _
theorem NtI.new : NtI ⟨[], []⟩ := ⟨by simp, by simp, List.nodup_nil, by simp⟩
theorem NtI.send {s : Nt} (h : NtI s) (p : Ev) : NtI (ntSend s p) := by
  unfold ntSend
  by_cases he : ntErr s p = 0
  · rw [if_pos he]
    obtain ⟨h1, h2⟩ := ntErr0 he
    refine ⟨by simp; omega, fun q hq => ?_, h.nd, h.mem⟩
    rcases List.mem_append.1 hq with hq | hq
    · exact h.ok q hq
    · rw [List.mem_singleton.1 hq]; exact h1
  · rw [if_neg he]; exact h
theorem NtI.out {s : Nt} (h : NtI s) (i : Int) : NtI (ntOut s i) :=
  ⟨Nat.le_trans (List.length_eraseIdx_le ..) h.len, fun q hq => h.ok q (List.mem_of_mem_eraseIdx hq), h.nd, h.mem⟩
theorem NtI.give {s : Nt} (h : NtI s) (i : Int) : NtI (ntGive s i) := by
  unfold ntGive; split
  · exact h.out i
  · exact h
theorem NtI.drop {s : Nt} (h : NtI s) (i : Int) : NtI (ntDrop s i) := by
  unfold ntDrop; split
  · exact h.out i
  · exact h
theorem NtI.twice {s : Nt} (h : NtI s) (i : Int) : NtI (ntTwice s i) := by
  unfold ntTwice; split
  · exact h.send _
  · exact h
theorem ntCutErr0 {a b : Int} (h : ntCutErr a b = 0) : isMember a = true ∧ isMember b = true ∧ a ≠ b := by
  unfold ntCutErr at h
  cases h1 : isMember a
  · rw [if_pos h1] at h; cases h
  rw [if_neg (by rw [h1]; simp)] at h
  cases h2 : isMember b
  · rw [if_pos h2] at h; cases h
  rw [if_neg (by rw [h2]; simp)] at h
  by_cases h4 : a = b
  · rw [if_pos h4] at h; cases h
  · exact ⟨rfl, rfl, h4⟩
theorem wayOf_mem {a b : Int} (ha : isMember a = true) (hb : isMember b = true) : isMember (wayOf a b).1 = true ∧ isMember (wayOf a b).2 = true := by
  unfold wayOf
  simp only [isMember, Bool.and_eq_true, decide_eq_true_eq] at *
  omega
theorem NtI.cut' {s : Nt} (h : NtI s) (a b : Int) (is : Bool) : NtI (ntCut s a b is) := by
  unfold ntCut
  by_cases he : ntCutErr a b = 0
  rotate_left
  · rw [if_neg he]; exact h
  rw [if_pos he]
  obtain ⟨h1, h2, _⟩ := ntCutErr0 he
  refine ⟨h.len, h.ok, ?_, fun x hx => ?_⟩
  · cases is
    · exact wayDel_nodup h.nd
    · exact wayPut_nodup h.nd
  · cases is
    · exact h.mem x (wayDel_sub hx)
    · rcases mem_wayPut.1 hx with hx | rfl
      · exact h.mem x hx
      · exact wayOf_mem h1 h2
theorem wayOf_comm (a b : Int) : wayOf a b = wayOf b a := by unfold wayOf; rw [Int.min_comm, Int.max_comm]
theorem wayOf_inj {a b c d : Int} (h : wayOf a b = wayOf c d) : (a = c ∧ b = d) ∨ (a = d ∧ b = c) := by
  unfold wayOf at h
  injection h with h1 h2
  omega
end Go.Proofs.YtldmdenojpnldaaDoor
/- Package cast, plainly: a group that hears; what holds of it whatever is done. -/
namespace Go.Proofs.YtldmdenojpnldaaDoor
set_option linter.unusedVariables false
set_option linter.unusedSimpArgs false
open Go.RowKit Go.Maps
structure Cs where
  mem : List Ca
  net : Nt
  said : List (Int × Sd)
  hist : List Ev
def nilSd : Sd := ⟨0, 0, []⟩
def csMem (c : Cs) (i : Int) : Ca := c.mem.getD i.toNat (caNew 0)
/-- A word's packets: to each other one. -/
def csPk (n : Nat) (who word : Int) : List Ev := ((List.range n).filter fun i : Nat => decide ((i : Int) ≠ who)).map fun i : Nat => (who, (i : Int), word)
def csSayErr (c : Cs) (who word : Int) : Nat := if inR who c.mem.length = false then 1 else if isWord word = false then 1 else if (mget c.said word).isSome = true then 7 else
  if 40 < c.net.all.length + c.mem.length - 1 ∨ 60 < (c.said.length + 1) * c.mem.length then 4 else 0
def csSay (c : Cs) (who word : Int) : Cs := if csSayErr c who word = 0 then
  ⟨c.mem.set who.toNat (caSay (csMem c who) word), ⟨c.net.all ++ csPk c.mem.length who word, c.net.cut⟩, mput c.said word (caSaid (csMem c who) word), c.hist ++ [(who, 2, word)]⟩ else c
def csSd (c : Cs) (word : Int) : Sd := (mget c.said word).getD nilSd
def csGiveErr (c : Cs) (i : Int) : Nat := ntGiveErr c.net i
def csGm (c : Cs) (i : Int) : Ca := csMem c (ntAt c.net i).2.1
def csGs (c : Cs) (i : Int) : Sd := csSd c (ntAt c.net i).2.2
def csGiven (c : Cs) (i : Int) : List Int := if csGiveErr c i = 0 then caOut (csGm c i) (csGs c i) else []
def csGive (c : Cs) (i : Int) : Cs := if csGiveErr c i = 0 then
  ⟨c.mem.set (ntAt c.net i).2.1.toNat (caTake (csGm c i) (csGs c i)), ntOut c.net i, c.said, c.hist ++ (caOut (csGm c i) (csGs c i)).map fun x => ((ntAt c.net i).2.1, 3, x)⟩ else c
def csDrop (c : Cs) (i : Int) : Cs := { c with net := ntDrop c.net i }
def csTwice (c : Cs) (i : Int) : Cs := { c with net := ntTwice c.net i }
def csNew (n : Nat) : Cs := ⟨(List.range n).map fun i : Nat => caNew (i : Int), ⟨[], []⟩, [], []⟩
/-- What holds of a word that was said. -/
def SdOk (n : Nat) (e : Int × Sd) : Prop := isWord e.1 = true ∧ e.2.word = e.1 ∧ sdErr e.2 = 0 ∧ e.2.who < n ∧ 1 ≤ caAt e.2.clk e.2.who
/-- What holds of a member. -/
structure MemOk (c : Cs) (i : Nat) (m : Ca) : Prop where
  ok : CaI m
  me : m.me = (i : Int)
  own : caAt m.clk m.me ≤ c.said.length
  waits : ∀ x ∈ m.waits, mget c.said x.word = some x
  other : ∀ x ∈ m.waits, x.who ≠ m.me
  nd : (m.waits.map (·.word)).Nodup
structure CsI (c : Cs) : Prop where
  n2 : 2 ≤ c.mem.length
  n5 : c.mem.length ≤ 5
  mem : ∀ (i : Nat) (h : i < c.mem.length), MemOk c i c.mem[i]
  net : NtI c.net
  cut : c.net.cut = []
  nd : (c.said.map (·.1)).Nodup
  said : ∀ e ∈ c.said, SdOk c.mem.length e
  pk : ∀ p ∈ c.net.all, ∃ s, mget c.said p.2.2 = some s ∧ s.who = p.1 ∧ 0 ≤ p.2.1 ∧ p.2.1 < c.mem.length
  hist : ∀ e ∈ c.hist, I64 e.1 ∧ I64 e.2.1 ∧ I64 e.2.2
theorem mget_mem' {m : List (Int × Sd)} {x : Int} {s : Sd} (h : mget m x = some s) : (x, s) ∈ m := by
  induction m with
  | nil => cases h
  | cons p r ih =>
    unfold mget at h
    by_cases e : p.1 = x
    · rw [if_pos e] at h
      injection h with h
      rw [← e, ← h]; exact List.mem_cons_self ..
    · rw [if_neg e] at h
      exact List.mem_cons_of_mem _ (ih h)
theorem CsI.saidLen {c : Cs} (h : CsI c) : c.said.length ≤ 30 := by
  have h1 := distinct_le 30 (c.said.map (·.1)) h.nd (fun x hx => by
    obtain ⟨e, he, rfl⟩ := List.mem_map.1 hx
    have := (h.said e he).1
    simpa [isWord] using this)
  simpa using h1
theorem CsI.sd {c : Cs} (h : CsI c) {w : Int} {s : Sd} (hs : mget c.said w = some s) : isWord w = true ∧ s.word = w ∧ sdErr s = 0 ∧ s.who < c.mem.length ∧ 1 ≤ caAt s.clk s.who := h.said (w, s) (mget_mem' hs)
theorem MemOk.waitsLen {c : Cs} (hI : CsI c) {i : Nat} {m : Ca} (h : MemOk c i m) : m.waits.length ≤ 30 := by
  have h1 := distinct_le 30 (m.waits.map (·.word)) h.nd (fun x hx => by
    obtain ⟨e, he, rfl⟩ := List.mem_map.1 hx
    have := (hI.sd (h.waits e he)).1
    simpa [isWord] using this)
  simpa using h1
theorem caHear_sub : ∀ (k : Nat) (clk : List Int) (ws : List Sd), (caHear k clk ws).2.1.Sublist ws
  | 0, clk, ws => List.Sublist.refl _
  | k + 1, clk, ws => by
    unfold caHear
    by_cases h : ((whereI (caReady clk) ws).toNat < ws.length ∧ 0 ≤ whereI (caReady clk) ws)
    · rw [dif_pos h]
      exact (caHear_sub k _ _).trans (List.eraseIdx_sublist ..)
    · rw [dif_neg h]; exact List.Sublist.refl _
theorem caBump_other {clk : List Int} {i j : Int} (hi : 0 ≤ i) (hj : 0 ≤ j) (h : i ≠ j) : caAt (caBump clk i) j = caAt clk j := by
  unfold caAt caBump
  have : i.toNat ≠ j.toNat := by omega
  rw [List.getD_eq_getElem?_getD, List.getElem?_set_ne this, ← List.getD_eq_getElem?_getD]
theorem caHear_other : ∀ (k : Nat) (clk : List Int) (ws : List Sd) (j : Int), 0 ≤ j → (∀ x ∈ ws, x.who ≠ j ∧ 0 ≤ x.who) → caAt (caHear k clk ws).1 j = caAt clk j
  | 0, _, _, _, _, _ => rfl
  | k + 1, clk, ws, j, hj, hw => by
    unfold caHear
    by_cases h : ((whereI (caReady clk) ws).toNat < ws.length ∧ 0 ≤ whereI (caReady clk) ws)
    · rw [dif_pos h]
      have h1 := hw _ (List.getElem_mem h.1)
      have h2 := caHear_other k (caBump clk ws[(whereI (caReady clk) ws).toNat].who) (ws.eraseIdx (whereI (caReady clk) ws).toNat) j hj (fun x hx => hw x (List.mem_of_mem_eraseIdx hx))
      exact h2.trans (caBump_other h1.2 hj h1.1)
    · rw [dif_neg h]
theorem csMem_at {c : Cs} {i : Nat} (hi : i < c.mem.length) : csMem c (i : Int) = c.mem[i] := by
  unfold csMem
  rw [Int.toNat_natCast, List.getD_eq_getElem?_getD, List.getElem?_eq_getElem hi]; rfl
theorem csSayErr0 {c : Cs} {who word : Int} (h : csSayErr c who word = 0) : (0 ≤ who ∧ who < c.mem.length) ∧ isWord word = true ∧ mget c.said word = none ∧ c.net.all.length + c.mem.length - 1 ≤ 40 ∧ (c.said.length + 1) * c.mem.length ≤ 60 := by
  unfold csSayErr at h
  cases h1 : inR who c.mem.length
  · rw [if_pos h1] at h; cases h
  rw [if_neg (by rw [h1]; simp)] at h
  cases h2 : isWord word
  · rw [if_pos h2] at h; cases h
  rw [if_neg (by rw [h2]; simp)] at h
  cases h3 : (mget c.said word).isSome
  rotate_left
  · rw [if_pos h3] at h; cases h
  rw [if_neg (by rw [h3]; simp)] at h
  by_cases h4 : 40 < c.net.all.length + c.mem.length - 1 ∨ 60 < (c.said.length + 1) * c.mem.length
  · rw [if_pos h4] at h; cases h
  · refine ⟨by unfold inR at h1; simpa using h1, rfl, ?_, by omega, by omega⟩
    cases hm : mget c.said word with
    | none => rfl
    | some x => rw [hm] at h3; cases h3
theorem CsI.caSay0 {c : Cs} (h : CsI c) {i : Nat} (hi : i < c.mem.length) {word : Int} (hw : isWord word = true) : caSayErr c.mem[i] word = 0 := by
  unfold caSayErr
  rw [if_neg (by rw [hw]; simp), if_neg]
  have h1 := (h.mem i hi).own
  have h2 := h.saidLen
  omega
theorem csPk_mem {n : Nat} {who word : Int} {p : Ev} (h : p ∈ csPk n who word) : p.1 = who ∧ p.2.2 = word ∧ 0 ≤ p.2.1 ∧ p.2.1 < n ∧ p.2.1 ≠ who := by
  unfold csPk at h
  obtain ⟨i, hi, rfl⟩ := List.mem_map.1 h
  obtain ⟨h1, h2⟩ := List.mem_filter.1 hi
  have := List.mem_range.1 h1
  have h3 := of_decide_eq_true h2
  refine ⟨rfl, rfl, ?_, ?_, h3⟩
  · show (0 : Int) ≤ (i : Int); omega
  · show (i : Int) < (n : Int); omega
theorem range_filter_len (who : Nat) : ∀ n : Nat, who < n → ((List.range n).filter fun i : Nat => decide ((i : Int) ≠ (who : Int))).length + 1 = n
  | 0, h => by omega
  | n + 1, h => by
    rw [List.range_succ, List.filter_append, List.length_append]
    by_cases e : who = n
    · have h1 : ((List.range n).filter fun i : Nat => decide ((i : Int) ≠ (who : Int))) = List.range n := by
        rw [List.filter_eq_self]
        intro a ha
        have := List.mem_range.1 ha
        exact decide_eq_true (by omega)
      rw [h1, e]
      simp
    · have h1 := range_filter_len who n (by omega)
      have h2 : decide ((n : Int) ≠ (who : Int)) = true := decide_eq_true (by omega)
      rw [List.filter_cons_of_pos (by exact h2)]
      simp only [List.filter_nil, List.length_singleton]
      omega
theorem csPk_len {n : Nat} {who : Nat} {word : Int} (h : who < n) : (csPk n (who : Int) word).length = n - 1 := by
  unfold csPk
  rw [List.length_map]
  have := range_filter_len who n h
  omega
theorem pkErr_ok {p : Ev} (h1 : isMember p.1 = true) (h2 : isMember p.2.1 = true) (h3 : isWord p.2.2 = true) (h4 : p.1 ≠ p.2.1) : pkErr p = 0 := by
  unfold pkErr
  rw [if_neg (by rw [h1]; simp), if_neg (by rw [h2]; simp), if_neg (by rw [h3]; simp), if_neg h4]
theorem caSay_w (c : Ca) (w : Int) : (caSay c w).waits = c.waits ∧ (caSay c w).me = c.me := by unfold caSay; split <;> exact ⟨rfl, rfl⟩
theorem I64_sm {a : Int} (h : 0 ≤ a ∧ a ≤ 100) : I64 a := by unfold I64; omega
theorem getElem_set' {α : Type} {l : List α} {k i : Nat} {y : α} (hi : i < (l.set k y).length) : (l.set k y)[i] = if k = i then y else l[i]'(by simpa using hi) := by
  rw [List.getElem_set]
theorem CsI.say {c : Cs} (h : CsI c) (who word : Int) : CsI (csSay c who word) := by
  unfold csSay
  by_cases he : csSayErr c who word = 0
  rotate_left
  · rw [if_neg he]; exact h
  rw [if_pos he]
  obtain ⟨⟨a1, a2⟩, hw, hno, hl1, hl2⟩ := csSayErr0 he
  obtain ⟨k, rfl⟩ : ∃ k : Nat, who = (k : Int) := ⟨who.toNat, by omega⟩
  have hk : k < c.mem.length := by omega
  have hm := h.mem k hk
  have hs0 := h.caSay0 hk hw
  rw [csMem_at hk, Int.toNat_natCast]
  have hsd : caSaid c.mem[k] word = ⟨c.mem[k].me, word, caBump c.mem[k].clk c.mem[k].me⟩ := by unfold caSaid; rw [if_pos hs0]
  have hcs : caSay c.mem[k] word = ⟨c.mem[k].me, caBump c.mem[k].clk c.mem[k].me, c.mem[k].waits⟩ := by unfold caSay; rw [if_pos hs0]
  have hput : mput c.said word (caSaid c.mem[k] word) = c.said ++ [(word, caSaid c.mem[k] word)] := mput_new (mget_none.1 hno)
  have hbmp : caAt (caBump c.mem[k].clk c.mem[k].me) c.mem[k].me = caAt c.mem[k].clk c.mem[k].me + 1 := by
    unfold caAt caBump
    have h5 := (vecErr0 hm.ok.clk).1
    have hme : c.mem[k].me.toNat < c.mem[k].clk.length := by rw [hm.me, Int.toNat_natCast]; have := h.n5; omega
    rw [List.getD_eq_getElem?_getD, List.getElem?_set_self hme]; rfl
  have hg : ∀ x s, mget c.said x = some s → mget (mput c.said word (caSaid c.mem[k] word)) x = some s := fun x s hx => by
    rw [mget_mput, if_neg]
    · exact hx
    · rintro rfl; rw [hno] at hx; cases hx
  have hlen : (mput c.said word (caSaid c.mem[k] word)).length = c.said.length + 1 := by rw [hput]; simp
  have wb : 1 ≤ word ∧ word ≤ 30 := by simpa [isWord] using hw
  have hpos := (vec_get hm.ok.clk c.mem[k].me.toNat).1
  refine ⟨by simpa using h.n2, by simpa using h.n5, fun i hi => ?_, ?_, h.cut, mput_nodup h.nd, fun e he => ?_, fun p hp => ?_, fun e he => ?_⟩
  · have hi' : i < c.mem.length := by simpa using hi
    simp only
    rw [List.getElem_set]
    by_cases e : k = i
    · subst e
      rw [if_pos rfl, hcs]
      have := hm.ok.say word
      rw [hcs] at this
      refine ⟨this, hm.me, ?_, fun x hx => hg _ _ (hm.waits x hx), hm.other, hm.nd⟩
      · show caAt (caBump c.mem[k].clk c.mem[k].me) c.mem[k].me ≤ ((mput c.said word (caSaid c.mem[k] word)).length : Int)
        rw [hbmp, hlen]
        have := hm.own
        omega
    · rw [if_neg e]
      have hmi := h.mem i hi'
      refine ⟨hmi.ok, hmi.me, ?_, fun x hx => hg _ _ (hmi.waits x hx), hmi.other, hmi.nd⟩
      · show caAt c.mem[i].clk c.mem[i].me ≤ ((mput c.said word (caSaid c.mem[k] word)).length : Int)
        rw [hlen]
        have := hmi.own
        omega
  · refine ⟨?_, fun p hp => ?_, h.net.nd, h.net.mem⟩
    · simp only [List.length_append]
      rw [csPk_len hk]
      have := h.n2
      omega
    · rcases List.mem_append.1 hp with hp | hp
      · exact h.net.ok p hp
      · obtain ⟨b1, b2, b3, b4, b5⟩ := csPk_mem hp
        have := h.n5
        refine pkErr_ok ?_ ?_ (by rw [b2]; exact hw) (by rw [b1]; exact fun e => b5 e.symm)
        · rw [b1]; simp [isMember]; omega
        · simp [isMember]; omega
  · rw [hput] at he
    simp only [List.length_set]
    rcases List.mem_append.1 he with he | he
    · exact h.said e he
    · rw [List.mem_singleton.1 he, hsd]
      refine ⟨hw, rfl, ?_, ?_, ?_⟩
      · unfold sdErr
        rw [if_neg (by rw [hm.ok.me]; simp), if_neg (by rw [hw]; simp)]
        have := (hm.ok.say word).clk
        rw [hcs] at this
        exact this
      · show c.mem[k].me < (c.mem.length : Int)
        rw [hm.me]; omega
      · show 1 ≤ caAt (caBump c.mem[k].clk c.mem[k].me) c.mem[k].me
        rw [hbmp]
        unfold caAt
        omega
  · simp only [List.length_set]
    rcases List.mem_append.1 hp with hp | hp
    · obtain ⟨s, b1, b2⟩ := h.pk p hp
      exact ⟨s, hg _ _ b1, b2⟩
    · obtain ⟨b1, b2, b3, b4, b5⟩ := csPk_mem hp
      refine ⟨caSaid c.mem[k] word, ?_, ?_, b3, b4⟩
      · rw [b2, mget_mput, if_pos rfl]
      · rw [hsd, b1]; exact hm.me
  · rcases List.mem_append.1 he with he | he
    · exact h.hist e he
    · rw [List.mem_singleton.1 he]
      have := h.n5
      exact ⟨I64_sm (by simp only; omega), I64_sm (by simp only; omega), I64_sm (by simp only; omega)⟩
/-- What a member makes of a word that comes: it takes it, or had it. -/
theorem CsI.take {c : Cs} (h : CsI c) {k : Nat} (hk : k < c.mem.length) {w : Int} {s : Sd} (hs : mget c.said w = some s) (hne : s.who ≠ (k : Int)) :
    (caErr c.mem[k] s = 0 ∨ caErr c.mem[k] s = 7) ∧ MemOk c k (caTake c.mem[k] s) ∧ ∀ x ∈ caOut c.mem[k] s, ∃ y, mget c.said x = some y := by
  have hm := h.mem k hk
  obtain ⟨b1, b2, b3, b4, b5⟩ := h.sd hs
  have hwl := hm.waitsLen h
  have herr : caErr c.mem[k] s = 0 ∨ caErr c.mem[k] s = 7 := by
    unfold caErr
    rw [if_neg (by rw [b3]; simp), if_neg (by rw [hm.me]; exact hne), if_neg (by omega)]
    by_cases h1 : caAt s.clk s.who ≤ caAt c.mem[k].clk s.who
    · rw [if_pos h1]; exact .inr rfl
    rw [if_neg h1]
    cases h2 : c.mem[k].waits.any (caSame s)
    · rw [if_neg (by simp), if_neg (by omega)]; exact .inl rfl
    · rw [if_pos rfl]; exact .inr rfl
  refine ⟨herr, ?_, ?_⟩
  · unfold caTake
    by_cases he : caErr c.mem[k] s = 0
    rotate_left
    · rw [if_neg he]; exact hm
    rw [if_pos he]
    obtain ⟨_, d1, _, _, d4, _⟩ := caErr0 he
    have hok := hm.ok.take s
    unfold caTake at hok
    rw [if_pos he] at hok
    have wm : ∀ x ∈ c.mem[k].waits, x.who ≠ (k : Int) ∧ 0 ≤ x.who := fun x hx => by
      refine ⟨by rw [← hm.me]; exact hm.other x hx, ?_⟩
      have := (sdErr0 (hm.ok.ok x hx)).1
      simp [isMember] at this; omega
    cases hr : caReady c.mem[k].clk s
    · rw [hr, if_neg (by simp)] at hok
      rw [if_neg (by simp)]
      refine ⟨hok, hm.me, hm.own, fun x hx => ?_, fun x hx => ?_, ?_⟩
      · rcases List.mem_append.1 hx with hx | hx
        · exact hm.waits x hx
        · rw [List.mem_singleton.1 hx, b2]; exact hs
      · rcases List.mem_append.1 hx with hx | hx
        · exact hm.other x hx
        · rw [List.mem_singleton.1 hx]; show s.who ≠ c.mem[k].me; rw [hm.me]; exact hne
      · simp only [List.map_append, List.map_cons, List.map_nil]
        refine List.nodup_append.2 ⟨hm.nd, by simp, fun a ha b hb => ?_⟩
        rw [List.mem_singleton.1 hb]
        rintro rfl
        obtain ⟨x, hx, hxw⟩ := List.mem_map.1 ha
        have h1 := hm.waits x hx
        rw [hxw, b2, hs] at h1
        injection h1 with h1
        rw [List.any_eq_false] at d4
        have := d4 x hx
        rw [← h1] at this
        simp [caSame] at this
    · rw [hr, if_pos rfl] at hok
      rw [if_pos rfl]
      have hsub : ((caRun c.mem[k] s).2.1).Sublist c.mem[k].waits := caHear_sub _ _ _
      refine ⟨hok, hm.me, ?_, fun x hx => hm.waits x (hsub.subset hx), fun x hx => hm.other x (hsub.subset hx), hm.nd.sublist (hsub.map _)⟩
      show caAt (caRun c.mem[k] s).1 c.mem[k].me ≤ (c.said.length : Int)
      unfold caRun
      rw [hm.me, caHear_other _ _ _ _ (by omega) wm, caBump_other _ (by omega) hne, ← hm.me]
      · exact hm.own
      · have := (sdErr0 b3).1
        simp [isMember] at this; omega
  · intro x hx
    unfold caOut at hx
    by_cases he : caErr c.mem[k] s = 0
    rotate_left
    · rw [if_neg he] at hx; cases hx
    rw [if_pos he] at hx
    by_cases hr : caReady c.mem[k].clk s = true
    rotate_left
    · rw [if_neg hr] at hx; cases hx
    rw [if_pos hr] at hx
    rcases List.mem_cons.1 hx with rfl | hx
    · exact ⟨s, by rw [b2]; exact hs⟩
    · have key : ∀ (n : Nat) (clk : List Int) (ws : List Sd), (∀ y ∈ ws, mget c.said y.word = some y) → ∀ x ∈ (caHear n clk ws).2.2, ∃ y, mget c.said x = some y := by
        intro n
        induction n with
        | zero => intro clk ws _ x hx; cases hx
        | succ n ih =>
          intro clk ws hw x hx
          unfold caHear at hx
          by_cases h' : ((whereI (caReady clk) ws).toNat < ws.length ∧ 0 ≤ whereI (caReady clk) ws)
          · rw [dif_pos h'] at hx
            simp only at hx
            rcases List.mem_cons.1 hx with rfl | hx
            · exact ⟨_, hw _ (List.getElem_mem h'.1)⟩
            · exact ih _ _ (fun s hs => hw s (List.mem_of_mem_eraseIdx hs)) x hx
          · rw [dif_neg h'] at hx; cases hx
      exact key _ _ _ hm.waits x hx
/-- Of what is given: who gets it, and what. -/
theorem CsI.given {c : Cs} (h : CsI c) {i : Int} (he : csGiveErr c i = 0) : ∃ k : Nat, ∃ hk : k < c.mem.length, (ntAt c.net i).2.1 = (k : Int) ∧ csGm c i = c.mem[k] ∧ mget c.said (ntAt c.net i).2.2 = some (csGs c i) ∧ (csGs c i).who ≠ (k : Int) := by
  unfold csGiveErr ntGiveErr at he
  cases h1 : ntHas c.net i
  · rw [if_pos h1] at he; cases he
  have hp := ntAt_mem h1
  obtain ⟨s, b1, b2, b3, b4⟩ := h.pk _ hp
  obtain ⟨_, _, _, b5⟩ := pkErr0 (h.net.ok _ hp)
  obtain ⟨k, hk⟩ : ∃ k : Nat, (ntAt c.net i).2.1 = (k : Int) := ⟨(ntAt c.net i).2.1.toNat, by omega⟩
  have hk' : k < c.mem.length := by omega
  refine ⟨k, hk', hk, ?_, ?_, ?_⟩
  · unfold csGm; rw [hk, csMem_at hk']
  · unfold csGs csSd; rw [b1]; rfl
  · unfold csGs csSd; rw [b1]
    show s.who ≠ (k : Int)
    rw [b2, ← hk]; exact b5
theorem CsI.give {c : Cs} (h : CsI c) (i : Int) : CsI (csGive c i) := by
  unfold csGive
  by_cases he : csGiveErr c i = 0
  rotate_left
  · rw [if_neg he]; exact h
  rw [if_pos he]
  obtain ⟨k, hk, e1, e2, e3, e4⟩ := h.given he
  obtain ⟨_, hmk, hout⟩ := h.take hk e3 e4
  rw [e1, e2, Int.toNat_natCast]
  refine ⟨by simpa using h.n2, by simpa using h.n5, fun j hj => ?_, h.net.out i, h.cut, h.nd, by simpa using h.said, fun p hp => ?_, fun e he => ?_⟩
  · have hj' : j < c.mem.length := by simpa using hj
    simp only
    rw [List.getElem_set]
    by_cases e : k = j
    · subst e
      rw [if_pos rfl]
      exact ⟨hmk.ok, hmk.me, hmk.own, hmk.waits, hmk.other, hmk.nd⟩
    · rw [if_neg e]
      have hm := h.mem j hj'
      exact ⟨hm.ok, hm.me, hm.own, hm.waits, hm.other, hm.nd⟩
  · simp only [List.length_set]
    exact h.pk p (List.mem_of_mem_eraseIdx hp)
  · rcases List.mem_append.1 he with he | he
    · exact h.hist e he
    · obtain ⟨x, hx, rfl⟩ := List.mem_map.1 he
      obtain ⟨y, hy⟩ := hout x hx
      have := (h.sd hy).1
      simp [isWord] at this
      have := h.n5
      exact ⟨I64_sm (by simp only; omega), I64_sm (by simp only; omega), I64_sm (by simp only; omega)⟩
theorem CsI.drop {c : Cs} (h : CsI c) (i : Int) : CsI (csDrop c i) := by
  have hsub : ∀ p ∈ (ntDrop c.net i).all, p ∈ c.net.all := fun p hp => by
    unfold ntDrop at hp
    split at hp
    · exact List.mem_of_mem_eraseIdx hp
    · exact hp
  refine ⟨h.n2, h.n5, fun j hj => ?_, h.net.drop i, ?_, h.nd, h.said, fun p hp => h.pk p (hsub p hp), h.hist⟩
  · have hm := h.mem j hj
    exact ⟨hm.ok, hm.me, hm.own, hm.waits, hm.other, hm.nd⟩
  · show (ntDrop c.net i).cut = []
    unfold ntDrop
    split
    · exact h.cut
    · exact h.cut
theorem CsI.twice {c : Cs} (h : CsI c) (i : Int) : CsI (csTwice c i) := by
  have hsub : ∀ p ∈ (ntTwice c.net i).all, p ∈ c.net.all := fun p hp => by
    unfold ntTwice at hp
    by_cases he : ntTwiceErr c.net i = 0
    · rw [if_pos he] at hp
      have hh : ntHas c.net i = true := by
        unfold ntTwiceErr at he
        cases h1 : ntHas c.net i
        · rw [if_pos h1] at he; cases he
        · rfl
      unfold ntSend at hp
      split at hp
      · rcases List.mem_append.1 hp with hp | hp
        · exact hp
        · rw [List.mem_singleton.1 hp]; exact ntAt_mem hh
      · exact hp
    · rw [if_neg he] at hp; exact hp
  refine ⟨h.n2, h.n5, fun j hj => ?_, h.net.twice i, ?_, h.nd, h.said, fun p hp => h.pk p (hsub p hp), h.hist⟩
  · have hm := h.mem j hj
    exact ⟨hm.ok, hm.me, hm.own, hm.waits, hm.other, hm.nd⟩
  · show (ntTwice c.net i).cut = []
    unfold ntTwice ntSend
    split
    · split
      · exact h.cut
      · exact h.cut
    · exact h.cut
theorem CsI.new {n : Nat} (h2 : 2 ≤ n) (h5 : n ≤ 5) : CsI (csNew n) := by
  refine ⟨by simp [csNew]; exact h2, by simp [csNew]; exact h5, fun i hi => ?_, NtI.new, rfl, by simp [csNew], by simp [csNew], by simp [csNew], by simp [csNew]⟩
  have hi' : i < n := by simpa [csNew] using hi
  have hm : isMember (i : Int) = true := by simp [isMember]; omega
  have e : (csNew n).mem[i] = caNew (i : Int) := by simp [csNew]
  rw [e]
  refine ⟨CaI.new hm, rfl, ?_, by simp [caNew], by simp [caNew], by simp [caNew]⟩
  have : caAt zeroClk (i : Int) = 0 := by
    unfold caAt zeroClk
    rw [Int.toNat_natCast]
    match i, (show i < 5 by omega) with
    | 0, _ | 1, _ | 2, _ | 3, _ | 4, _ => rfl
  show caAt zeroClk (i : Int) ≤ _
  rw [this]
  exact Int.natCast_nonneg _
end Go.Proofs.YtldmdenojpnldaaDoor
