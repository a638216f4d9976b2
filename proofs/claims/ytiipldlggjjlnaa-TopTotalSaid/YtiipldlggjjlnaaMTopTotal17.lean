/- Plain laws of a leader: what each has heard is a beginning; when all have come all heard all. -/
import Derived.Test.YtiipldlggjjlnaaMTopTotal16
import Derived.Test.YtiipldlggjjlnaaMTopTotal9
import Derived.Test.YtiipldlggjjlnaaMTopTotal15
import Derived.Deep.DeepCutAuto
import Derived.Deep.CutBlock
namespace Go.Proofs.Ytiipldlggjjlnaa
set_option linter.unusedVariables false
set_option linter.unusedSimpArgs false
open Go.RowKit
/-- What holds of a leader of n members. -/
structure LdInv (n : Nat) (l : Ld) : Prop where
  fit : ldFit l
  len : l.mem.length = n
  nodup : l.words.Nodup
  had : ∀ m ∈ l.mem, (∀ i : Nat, i < m.2 → (i : Int) ∈ m.1) ∧ ((m.2 : Nat) : Int) ∉ m.1
theorem LdInv.le {n : Nat} {l : Ld} (h : LdInv n l) : l.words.length ≤ 30 := distinct_le 30 _ h.nodup (fun x hx => h.fit.2.1 x hx)
theorem ldInv_new (n : Nat) : LdInv n (ldNew n) where
  fit := ⟨by simp [ldNew], by simp [ldNew], fun m hm => by simp [ldNew] at hm; rw [hm.2]; simp [ldNew]⟩
  len := by simp [ldNew]
  nodup := by simp [ldNew]
  had := fun m hm => by simp [ldNew] at hm; rw [hm.2]; simp
theorem isWord_iff {x : Int} : isWord x = true ↔ 1 ≤ x ∧ x ≤ 30 := by simp [isWord]
theorem ldInv_say {n : Nat} {l : Ld} (h : LdInv n l) (w : Int) : LdInv n (ldSay l w) := by
  unfold ldSay
  by_cases he : ldSayErr l w = 0
  · rw [if_pos he]
    have h1 : isWord w = true ∧ w ∉ l.words := by
      unfold ldSayErr at he
      cases hw : isWord w
      · simp [hw] at he
      · refine ⟨rfl, fun hm => ?_⟩
        simp [hw, hm] at he
    have h2 := isWord_iff.1 h1.1
    have h30 := h.le
    refine ⟨⟨by simp; omega, fun x hx => ?_, fun m hm => ?_⟩, h.len, ?_, h.had⟩
    · rcases List.mem_append.1 hx with hx | hx
      · exact h.fit.2.1 x hx
      · simp at hx; subst hx; exact h2
    · have := h.fit.2.2 m hm
      refine ⟨by simp; omega, fun x hx => ?_⟩
      have := this.2 x hx
      simp; omega
    · rw [List.nodup_append]
      exact ⟨h.nodup, by simp, fun a ha b hb e => h1.2 (by simp at hb; subst hb; exact e ▸ ha)⟩
  · rw [if_neg he]; exact h
theorem adv_spec (C : List Int) (L : Nat) (hC : ∀ x ∈ C, x < (L : Int)) : ∀ k h, h + k = L → (∀ i : Nat, h ≤ i → i < ldAdv C k h → (i : Int) ∈ C) ∧ ((ldAdv C k h : Nat) : Int) ∉ C
  | 0, h, e => ⟨fun i h1 h2 => by unfold ldAdv at h2; omega, fun hm => by unfold ldAdv at hm; have := hC _ hm; omega⟩
  | k + 1, h, e => by
    unfold ldAdv
    by_cases hm : (h : Int) ∈ C
    · rw [if_pos hm]
      have ih := adv_spec C L hC k (h + 1) (by omega)
      refine ⟨fun i h1 h2 => ?_, ih.2⟩
      by_cases e2 : i = h
      · rw [e2]; exact hm
      · exact ih.1 i (by omega) h2
    · rw [if_neg hm]
      exact ⟨fun i h1 h2 => by omega, hm⟩
theorem ldGet_mem {l : Ld} {who : Int} (h : inR who l.mem.length = true) : ldGet l who ∈ l.mem := by
  have hw : 0 ≤ who ∧ who < l.mem.length := by simpa [inR] using h
  unfold ldGet
  have hk : who.toNat < l.mem.length := by omega
  rw [List.getD_eq_getElem?_getD, List.getElem?_eq_getElem hk]
  exact List.getElem_mem hk
theorem ldErr0 {l : Ld} {who a : Int} (h : ldErr l who a = 0) : inR who l.mem.length = true ∧ 0 ≤ a ∧ a < l.words.length := by
  unfold ldErr at h
  split at h
  · cases h
  rename_i h1
  split at h
  · cases h
  split at h
  · cases h
  exact ⟨by simpa using h1, by omega, by omega⟩
theorem ldTake_words (l : Ld) (who a : Int) : (ldTake l who a).words = l.words := by
  unfold ldTake; split <;> rfl
theorem ldTake_len (l : Ld) (who a : Int) : (ldTake l who a).mem.length = l.mem.length := by
  unfold ldTake; split <;> simp
theorem ldInv_take {n : Nat} {l : Ld} (h : LdInv n l) (who a : Int) : LdInv n (ldTake l who a) := by
  unfold ldTake
  by_cases he : ldErr l who a = 0
  · rw [if_pos he]
    obtain ⟨h1, h2, h3⟩ := ldErr0 he
    have hg := ldGet_mem h1
    have hf := h.fit.2.2 _ hg
    have hh := h.had _ hg
    have hC : ∀ x ∈ setPut (ldGet l who).1 a, 0 ≤ x ∧ x < (l.words.length : Int) := fun x hx => by
      rcases mem_setPut.1 hx with hx | rfl
      · exact hf.2 x hx
      · omega
    have hle := ldAdv_le (setPut (ldGet l who).1 a) l.words.length (fun x hx => (hC x hx).2) (l.words.length - (ldGet l who).2) (ldGet l who).2 hf.1
    have hs := adv_spec (setPut (ldGet l who).1 a) l.words.length (fun x hx => (hC x hx).2) (l.words.length - (ldGet l who).2) (ldGet l who).2 (by omega)
    refine ⟨⟨h.fit.1, h.fit.2.1, fun m hm => ?_⟩, by simp [h.len], h.nodup, fun m hm => ?_⟩
    · rcases List.mem_or_eq_of_mem_set hm with hm | rfl
      · exact h.fit.2.2 m hm
      · exact ⟨hle.2, hC⟩
    · rcases List.mem_or_eq_of_mem_set hm with hm | rfl
      · exact h.had m hm
      · refine ⟨fun i hi => ?_, hs.2⟩
        by_cases e : i < (ldGet l who).2
        · exact mem_setPut.2 (.inl (hh.1 i e))
        · exact hs.1 i (by omega) hi
  · rw [if_neg he]; exact h
theorem begins_take (l : List Int) (k : Nat) : begins (l.take k) l = true := by
  have e : l.take k = l.take (l.take k).length := by
    rw [List.length_take]
    by_cases h : k ≤ l.length
    · rw [Nat.min_eq_left h]
    · rw [Nat.min_eq_right (by omega), List.take_of_length_le (by omega), List.take_length]
  have h1 : (l.take k).length ≤ l.length := by rw [List.length_take]; omega
  unfold begins
  rw [decide_eq_true h1, Bool.true_and]
  exact beq_iff_eq.2 e
/-- All of these places come to a member. -/
def takeAll (l : Ld) (who : Int) (xs : List Int) : Ld := xs.foldl (fun l x => ldTake l who x) l
theorem takeAll_snoc (l : Ld) (who : Int) (xs : List Int) (x : Int) : takeAll l who (xs ++ [x]) = ldTake (takeAll l who xs) who x := by simp [takeAll]
theorem takeAll_words (l : Ld) (who : Int) (xs : List Int) : (takeAll l who xs).words = l.words := by
  induction xs generalizing l with
  | nil => rfl
  | cons x r ih => show (takeAll (ldTake l who x) who r).words = _; rw [ih, ldTake_words]
theorem ldInv_takeAll {n : Nat} {l : Ld} (h : LdInv n l) (who : Int) (xs : List Int) : LdInv n (takeAll l who xs) := by
  induction xs generalizing l with
  | nil => exact h
  | cons x r ih => exact ih (ldInv_take h who x)
theorem ldErr_in {l : Ld} {who a : Int} (h1 : inR who l.mem.length = true) (h2 : 0 ≤ a) (h3 : a < l.words.length) : ldErr l who a = 0 := by
  unfold ldErr
  rw [h1, if_neg (by decide), if_neg (by omega), if_neg (by omega)]
theorem ldTake_come {l : Ld} {who a : Int} (he : ldErr l who a = 0) : ∀ x, x ∈ (ldGet (ldTake l who a) who).1 ↔ x ∈ (ldGet l who).1 ∨ x = a := by
  intro x
  have h1 := (ldErr0 he).1
  have hw : 0 ≤ who ∧ who < l.mem.length := by simpa [inR] using h1
  have : ldGet (ldTake l who a) who = (setPut (ldGet l who).1 a, ldFar l who a) := by
    unfold ldTake
    rw [if_pos he]
    have hk : who.toNat < l.mem.length := by omega
    simp [ldGet, hk]
  rw [this]
  exact mem_setPut
theorem takeAll_come {n : Nat} {l : Ld} (h : LdInv n l) {who : Int} (h1 : inR who n = true) : ∀ (xs : List Int), (∀ x ∈ xs, 0 ≤ x ∧ x < l.words.length) → ∀ x, x ∈ (ldGet (takeAll l who xs) who).1 ↔ x ∈ (ldGet l who).1 ∨ x ∈ xs := by
  intro xs
  induction xs generalizing l with
  | nil => intro _ x; simp [takeAll]
  | cons y r ih =>
    intro hx x
    have he : ldErr l who y = 0 := ldErr_in (by rw [h.len]; exact h1) (hx y (by simp)).1 (hx y (by simp)).2
    have := ih (ldInv_take h who y) (fun z hz => by rw [ldTake_words]; exact hx z (by simp [hz])) x
    show x ∈ (ldGet (takeAll (ldTake l who y) who r) who).1 ↔ _
    rw [this, ldTake_come he x]
    simp only [List.mem_cons]
    constructor
    · rintro ((h | h) | h)
      · exact .inl h
      · exact .inr (.inl h)
      · exact .inr (.inr h)
    · rintro (h | h | h)
      · exact .inl (.inl h)
      · exact .inl (.inr h)
      · exact .inr h
theorem ldLacks_mem {l : Ld} {who : Int} (h : inR who l.mem.length = true) (x : Int) : x ∈ ldLacks l who ↔ (0 ≤ x ∧ x < l.words.length) ∧ x ∉ (ldGet l who).1 := by
  unfold ldLacks
  rw [if_pos h]
  simp only [List.mem_filter, List.mem_map, List.mem_range, decide_eq_true_eq]
  constructor
  · rintro ⟨⟨i, hi, rfl⟩, h2⟩; exact ⟨by omega, h2⟩
  · rintro ⟨h1, h2⟩; exact ⟨⟨x.toNat, by omega, by omega⟩, h2⟩
theorem ldLacks_len {n : Nat} {l : Ld} (h : LdInv n l) (who : Int) : (ldLacks l who).length ≤ 30 := by
  unfold ldLacks
  split
  · refine Nat.le_trans (List.length_filter_le _ _) ?_
    have := h.le
    simpa using this
  · simp
/-- When what lacked has come, all is heard. -/
theorem takeAll_heard {n : Nat} {l : Ld} (h : LdInv n l) {who : Int} (h1 : inR who n = true) : ldHeard (takeAll l who (ldLacks l who)) who = l.words := by
  have hin : inR who l.mem.length = true := by rw [h.len]; exact h1
  have h2 := ldInv_takeAll h who (ldLacks l who)
  have hin2 : inR who (takeAll l who (ldLacks l who)).mem.length = true := by rw [h2.len]; exact h1
  have hc := takeAll_come h h1 (ldLacks l who) (fun x hx => ((ldLacks_mem hin x).1 hx).1)
  have hg := ldGet_mem hin2
  have hh := (h2.had _ hg).2
  have hf := (h2.fit.2.2 _ hg).1
  rw [takeAll_words] at hf
  have hL : (ldGet (takeAll l who (ldLacks l who)) who).2 = l.words.length := by
    rcases Nat.lt_or_ge (ldGet (takeAll l who (ldLacks l who)) who).2 l.words.length with hlt | hge
    · exfalso
      apply hh
      rw [hc]
      by_cases e : (((ldGet (takeAll l who (ldLacks l who)) who).2 : Nat) : Int) ∈ (ldGet l who).1
      · exact .inl e
      · exact .inr ((ldLacks_mem hin _).2 ⟨by omega, e⟩)
    · omega
  unfold ldHeard
  rw [if_pos hin2, hL, takeAll_words]
  simp
theorem ldHeard_begins (l : Ld) (who : Int) : begins (ldHeard l who) l.words = true := by
  unfold ldHeard
  split
  · exact begins_take _ _
  · simp [begins]
end Go.Proofs.Ytiipldlggjjlnaa
/- TopTotal, plainly: of words that come to each at once all hear all, as they were said. -/
namespace Go.Proofs.Ytiipldlggjjlnaa
set_option linter.unusedVariables false
set_option linter.unusedSimpArgs false
open Go.RowKit
structure TtL (all : List Int) (l : Ld) : Prop where
  inv : LdInv 3 l
  words : l.words = all
  far : ∀ k : Nat, k < 3 → (ldGet l k).2 = all.length
structure TtK (all : List Int) (w : Int) (m : Nat) (l : Ld) : Prop where
  inv : LdInv 3 l
  words : l.words = all ++ [w]
  far : ∀ k : Nat, k < 3 → (ldGet l k).2 = if k < m then all.length + 1 else all.length
theorem TtL.new : TtL [] (ldNew 3) := ⟨ldInv_new 3, rfl, fun k hk => by
  have : k = 0 ∨ k = 1 ∨ k = 2 := by omega
  rcases this with rfl | rfl | rfl <;> rfl⟩
theorem TtL.few {all : List Int} {l : Ld} (h : TtL all l) : all.length ≤ 30 := by rw [← h.words]; exact h.inv.le
theorem ldSayErr0 {l : Ld} {w : Int} (h : ldSayErr l w = 0) : isWord w = true ∧ w ∉ l.words := by
  unfold ldSayErr at h
  cases h1 : isWord w
  · rw [if_pos h1] at h; cases h
  rw [if_neg (by rw [h1]; simp)] at h
  by_cases h2 : w ∈ l.words
  · rw [if_pos h2] at h; cases h
  · exact ⟨rfl, h2⟩
theorem TtL.say {all : List Int} {l : Ld} (h : TtL all l) {w : Int} (he : ldSayErr l w = 0) : TtK all w 0 (ldSay l w) ∧ ldSayOut l w = ((all.length : Int), w) ∧ isWord w = true ∧ w ∉ all := by
  obtain ⟨h1, h2⟩ := ldSayErr0 he
  refine ⟨⟨ldInv_say h.inv w, ?_, fun k hk => ?_⟩, ?_, h1, by rw [← h.words]; exact h2⟩
  · unfold ldSay; rw [if_pos he, h.words]
  · have : ldGet (ldSay l w) k = ldGet l k := by unfold ldSay ldGet; rw [if_pos he]
    rw [this, if_neg (by omega)]; exact h.far k hk
  · unfold ldSayOut; rw [if_pos he, h.words]
theorem TtK.step {all : List Int} {w : Int} {m : Nat} {l : Ld} (h : TtK all w m l) (hm : m < 3) : (m < l.mem.length ∧ (all.length : Int) < (l.words.length : Int)) ∧ TtK all w (m + 1) (ldTake l m all.length) := by
  have hml : m < l.mem.length := by rw [h.inv.len]; exact hm
  have hlt : (all.length : Int) < (l.words.length : Int) := by rw [h.words]; simp; omega
  have hr : inR (m : Int) l.mem.length = true := by unfold inR; simp; omega
  have he : ldErr l m all.length = 0 := by
    unfold ldErr
    rw [if_neg (by rw [hr]; simp), if_neg (by omega), if_neg (by omega)]
  have hf := h.far m hm
  rw [if_neg (by omega)] at hf
  have hfar : ldFar l m all.length = all.length + 1 := by
    unfold ldFar
    rw [hf, h.words, List.length_append, Nat.add_sub_cancel_left]
    show ldAdv _ 1 _ = _
    unfold ldAdv
    rw [if_pos (mem_setPut.2 (.inr rfl))]
    rfl
  refine ⟨⟨hml, hlt⟩, ldInv_take h.inv _ _, by rw [ldTake_words]; exact h.words, fun k hk => ?_⟩
  unfold ldTake
  rw [if_pos he]
  unfold ldGet
  dsimp only
  rw [Int.toNat_natCast, List.getD_eq_getElem?_getD, List.getElem?_set]
  by_cases e : k = m
  · subst e
    rw [if_pos (by simp), if_pos hml, if_pos (by omega)]
    exact hfar
  · rw [if_neg (by simp; omega), ← List.getD_eq_getElem?_getD]
    have := h.far k hk
    unfold ldGet at this
    rw [this]
    by_cases e2 : k < m
    · rw [if_pos e2, if_pos (by omega)]
    · rw [if_neg e2, if_neg (by omega)]
theorem TtK.done {all : List Int} {w : Int} {l : Ld} (h : TtK all w 3 l) : TtL (all ++ [w]) l := ⟨h.inv, h.words, fun k hk => by rw [h.far k hk, if_pos hk]; simp⟩
theorem TtL.heard {all : List Int} {l : Ld} (h : TtL all l) {k : Nat} (hk : k < 3) : ldHeard l k = all ∧ inErr (k : Int) l.mem.length = 0 := by
  have hr : inR (k : Int) l.mem.length = true := by unfold inR; rw [h.inv.len]; simp; omega
  refine ⟨?_, ?_⟩
  · unfold ldHeard
    rw [if_pos hr, h.far k hk, h.words, List.take_length]
  · unfold inErr; rw [hr]; rfl
end Go.Proofs.Ytiipldlggjjlnaa
/- TopTotal: a word is said, and comes to each. -/
namespace Go.Proofs.Ytiipldlggjjlnaa
set_option linter.unusedVariables false
set_option linter.unusedSimpArgs false
open Go.RowKit Go.Maps
theorem TtK.take_eq {all : List Int} {w : Int} {m : Nat} {l : Ld} (h : TtK all w m l) (hm : m < 3) : ldTake l m all.length = ⟨l.words, l.mem.set m (setPut (ldGet l m).1 all.length, ldFar l m all.length)⟩ := by
  obtain ⟨⟨h1, h2⟩, _⟩ := h.step hm
  unfold ldTake
  rw [if_pos, Int.toNat_natCast]
  unfold ldErr
  rw [if_neg (by unfold inR; simp; omega), if_neg (by omega), if_neg (by omega)]
theorem TtM.sm {all : List Int} {w : Int} {m : Nat} {g : Ag} (h : TtM all w m g) (hl : all.length ≤ 30) : AgSm g := fun k hk => by
  rw [h.ag.len] at hk
  rw [h.n k hk]
  split <;> omega
noncomputable def ttTake_code : Code := ((Try.f4.body.bind (findBlock 2)).getD .skip)
set_option maxRecDepth 1000000 in
set_option maxHeartbeats 4000000 in
theorem ttTake {Q : Exit → Act → World → Prop} {u0 u1 u2 u3 u4 u5 u6 u7 u8 u9 u11 u12 u13 u14 u16 u18 u19 u20 u21 u22 u23 u24 u25 u26 u27 u28 u29 u30 u31 u32 u33 u34 u35 u36 u37 u38 u39 u40 u41 u42 u43 u44 u45 u46 u47 u48 u49 u50 u51 u52 u53 u54 u55 u56 u57 u58 u59 u60 u61 u62 u63 u64 u65 u66 u67 u68 u69 u70 u71 u72 u73 u74 u75 u76 u77 u78 u79 u80 u81 u82 u83 u84 u85 u86 u87 u88 u89 u90 u91 u92 u93 u94 u95 u96 u97 u98 u99 u100 u101 u102 u103 u104 u105 u106 u107 u108 u109 u110 u111 u112 u113 u114 u115 u116 u117 u118 u119 u120 u121 u122 u123 u124 u125 u126 u127 u128 u129 u130 u131 u132 u133 u134 u135 u136 u137 u138 u139 u140 u141 u142 u143 u144 u145 u146 u147 u148 u149 u150 u151 u152 u153 u154 u155 u156 u157 u158 u159 u160 u161 u162 u163 u164 u165 u166 u167 u168 u169 u170 u171 u172 u173 u174 u175 u176 u177 u178 u179 u180 u181 u182 u183 u184 u185 u186 u187 u188 u189 u190 u191 u192 u193 u194 u195 u196 u197 u198 u199 u200 u201 u202 u203 u204 u205 u206 u207 u208 u209 u210 u211 u212 u213 u214 u215 u216 u217 : Value} {w1 : World} (w : World) (pl bx : Nat) (all : List Int) (x : Int) (hl : all.length ≤ 30) (l : Ld) (R : HProp) (HK0 : Hid (TtK all x 0 l)) (HB : Hid (∀ w' S, Own w (S * R) w' → w'.cell? ⟨bx, 0, none⟩ = some (.int .i64 (all.length : Int)))) (HO : Hid (Own w (LdP pl l * R) w1))
    (hK : ∀ (v6 v17 v18 v19 v72 v73 v74 v75 v76 v77 v78 v79 v80 v81 v82 v83 v84 v85 : Value) (wx : World), (∃ l2, TtK all x 3 l2 ∧ Own w (LdP pl l2 * R) wx) → Q .normal ⟨List.toArray (u0 :: u1 :: u2 :: u3 :: u4 :: u5 :: v6 :: u7 :: u8 :: u9 :: (.pointer (some ⟨pl, 0, none⟩)) :: u11 :: u12 :: u13 :: u14 :: (.pointer (some ⟨bx, 0, none⟩)) :: u16 :: v17 :: v18 :: v19 :: u20 :: u21 :: u22 :: u23 :: u24 :: u25 :: u26 :: u27 :: u28 :: u29 :: u30 :: u31 :: u32 :: u33 :: u34 :: u35 :: u36 :: u37 :: u38 :: u39 :: u40 :: u41 :: u42 :: u43 :: u44 :: u45 :: u46 :: u47 :: u48 :: u49 :: u50 :: u51 :: u52 :: u53 :: u54 :: u55 :: u56 :: u57 :: u58 :: u59 :: u60 :: u61 :: u62 :: u63 :: u64 :: u65 :: u66 :: u67 :: u68 :: u69 :: u70 :: u71 :: v72 :: v73 :: v74 :: v75 :: v76 :: v77 :: v78 :: v79 :: v80 :: v81 :: v82 :: v83 :: v84 :: v85 :: u86 :: u87 :: u88 :: u89 :: u90 :: u91 :: u92 :: u93 :: u94 :: u95 :: u96 :: u97 :: u98 :: u99 :: u100 :: u101 :: u102 :: u103 :: u104 :: u105 :: u106 :: u107 :: u108 :: u109 :: u110 :: u111 :: u112 :: u113 :: u114 :: u115 :: u116 :: u117 :: u118 :: u119 :: u120 :: u121 :: u122 :: u123 :: u124 :: u125 :: u126 :: u127 :: u128 :: u129 :: u130 :: u131 :: u132 :: u133 :: u134 :: u135 :: u136 :: u137 :: u138 :: u139 :: u140 :: u141 :: u142 :: u143 :: u144 :: u145 :: u146 :: u147 :: u148 :: u149 :: u150 :: u151 :: u152 :: u153 :: u154 :: u155 :: u156 :: u157 :: u158 :: u159 :: u160 :: u161 :: u162 :: u163 :: u164 :: u165 :: u166 :: u167 :: u168 :: u169 :: u170 :: u171 :: u172 :: u173 :: u174 :: u175 :: u176 :: u177 :: u178 :: u179 :: u180 :: u181 :: u182 :: u183 :: u184 :: u185 :: u186 :: u187 :: u188 :: u189 :: u190 :: u191 :: u192 :: u193 :: u194 :: u195 :: u196 :: u197 :: u198 :: u199 :: u200 :: u201 :: u202 :: u203 :: u204 :: u205 :: u206 :: u207 :: u208 :: u209 :: u210 :: u211 :: u212 :: u213 :: u214 :: u215 :: u216 :: u217 :: []), []⟩ wx) :
    Code.wp Try.prog ttTake_code Q ⟨List.toArray (u0 :: u1 :: u2 :: u3 :: u4 :: u5 :: u6 :: u7 :: u8 :: u9 :: (.pointer (some ⟨pl, 0, none⟩)) :: u11 :: u12 :: u13 :: u14 :: (.pointer (some ⟨bx, 0, none⟩)) :: u16 :: (.int .i64 0) :: u18 :: u19 :: u20 :: u21 :: u22 :: u23 :: u24 :: u25 :: u26 :: u27 :: u28 :: u29 :: u30 :: u31 :: u32 :: u33 :: u34 :: u35 :: u36 :: u37 :: u38 :: u39 :: u40 :: u41 :: u42 :: u43 :: u44 :: u45 :: u46 :: u47 :: u48 :: u49 :: u50 :: u51 :: u52 :: u53 :: u54 :: u55 :: u56 :: u57 :: u58 :: u59 :: u60 :: u61 :: u62 :: u63 :: u64 :: u65 :: u66 :: u67 :: u68 :: u69 :: u70 :: u71 :: u72 :: u73 :: u74 :: u75 :: u76 :: u77 :: u78 :: u79 :: u80 :: u81 :: u82 :: u83 :: u84 :: u85 :: u86 :: u87 :: u88 :: u89 :: u90 :: u91 :: u92 :: u93 :: u94 :: u95 :: u96 :: u97 :: u98 :: u99 :: u100 :: u101 :: u102 :: u103 :: u104 :: u105 :: u106 :: u107 :: u108 :: u109 :: u110 :: u111 :: u112 :: u113 :: u114 :: u115 :: u116 :: u117 :: u118 :: u119 :: u120 :: u121 :: u122 :: u123 :: u124 :: u125 :: u126 :: u127 :: u128 :: u129 :: u130 :: u131 :: u132 :: u133 :: u134 :: u135 :: u136 :: u137 :: u138 :: u139 :: u140 :: u141 :: u142 :: u143 :: u144 :: u145 :: u146 :: u147 :: u148 :: u149 :: u150 :: u151 :: u152 :: u153 :: u154 :: u155 :: u156 :: u157 :: u158 :: u159 :: u160 :: u161 :: u162 :: u163 :: u164 :: u165 :: u166 :: u167 :: u168 :: u169 :: u170 :: u171 :: u172 :: u173 :: u174 :: u175 :: u176 :: u177 :: u178 :: u179 :: u180 :: u181 :: u182 :: u183 :: u184 :: u185 :: u186 :: u187 :: u188 :: u189 :: u190 :: u191 :: u192 :: u193 :: u194 :: u195 :: u196 :: u197 :: u198 :: u199 :: u200 :: u201 :: u202 :: u203 :: u204 :: u205 :: u206 :: u207 :: u208 :: u209 :: u210 :: u211 :: u212 :: u213 :: u214 :: u215 :: u216 :: u217 :: []), []⟩ w1 := by
  conv => arg 2; whnf
  have HK := Lib.hid hK
  clear hK
  go_wp2_with fail
  go_loopw [17] (fun mv wr => ∃ (m : Nat) (l2 : Ld), m ≤ 3 ∧ mv = .int .i64 (m : Int) ∧ Hid (TtK all x m l2) ∧ Hid (Own w (LdP pl l2 * R) wr)) (fun mv _ => 3 - (intOf mv).toNat)
  case atStart => exact ⟨0, l, by omega, rfl, HK0, HO⟩
  case round =>
    clear HO HK0
    obtain ⟨m, l2, hm, rfl, HM, HP⟩ := hrel
    by_cases hlt : m < 3
    rotate_left
    · have : m = 3 := by omega
      subst this
      go_wp2_with fail
      apply HK.out
      exact ⟨l2, HM.out, HP.out⟩
    have c0 := HB.out _ _ HP.out
    obtain ⟨⟨h1, h2⟩, h3⟩ := HM.out.step hlt
    have he := HM.out.take_eq hlt
    have H1 := Lib.hid h1; have H2 := Lib.hid h2; have H3 := Lib.hid h3; have HE := Lib.hid he
    clear h1 h2 h3 he
    go_wp2_with fail
    refine (ldTake_yes pl l2 m all.length H1.out (by omega) H2.out HM.out.inv.fit HP.out).mono ?_
    rintro e w2 ⟨v2, rfl, ho⟩
    rw [← HE.out] at ho
    have HO2 := Lib.hid ho.drop
    clear ho c0
    go_wp2_with fail
    go_round
    case rel => exact ⟨m + 1, _, by omega, by go_num, H3, HO2⟩
    case measure => simp [intOf]; omega
noncomputable def ttProp_code : Code := ((Try.f4.body.bind (findBlock 4)).getD .skip)
set_option maxRecDepth 1000000 in
set_option maxHeartbeats 4000000 in
theorem ttProp {Q : Exit → Act → World → Prop} {u1 u2 u3 u4 u5 u6 u7 u9 u10 u11 u12 u13 u15 u16 u17 u18 u19 u21 u22 u23 u24 u25 u26 u27 u28 u29 u30 u31 u32 u33 u34 u35 u36 u37 u38 u39 u40 u41 u42 u43 u44 u45 u46 u47 u48 u49 u50 u51 u52 u53 u54 u55 u56 u57 u58 u59 u60 u61 u62 u63 u64 u65 u66 u67 u68 u69 u70 u71 u72 u73 u74 u75 u76 u77 u78 u79 u80 u81 u82 u83 u84 u85 u86 u87 u88 u89 u90 u91 u92 u93 u94 u95 u96 u97 u98 u99 u100 u101 u102 u103 u104 u105 u106 u107 u108 u109 u110 u111 u112 u113 u114 u115 u116 u117 u118 u119 u120 u121 u122 u123 u124 u125 u126 u127 u128 u129 u130 u131 u132 u133 u134 u135 u136 u137 u138 u139 u140 u141 u142 u143 u144 u145 u146 u147 u148 u149 u150 u151 u152 u153 u154 u155 u156 u157 u158 u159 u160 u161 u162 u163 u164 u165 u166 u167 u168 u169 u170 u171 u172 u173 u174 u175 u176 u177 u178 u179 u180 u181 u182 u183 u184 u185 u186 u187 u188 u189 u190 u191 u192 u193 u194 u195 u196 u197 u198 u199 u200 u201 u202 u203 u204 u205 u206 u207 u208 u209 u210 u211 u212 u213 u214 u215 u216 u217 : Value} {w1 : World} (w : World) (p i n : Nat) (a2 : Addr) (cap : Nat) (hi : i < n) (hn1 : n ≤ cap) (hn2 : cap ≤ 9223372036854775807) (all : List Int) (x : Int) (hl : all.length ≤ 30) (g : Ag) (R : HProp) (HK0 : Hid (TtM all x 0 g)) (HC : Hid (∀ (w' : World) P, Own w P w' → w'.cell? (a2.add i) = some (.int .i64 x))) (HO : Hid (Own w (AgP p g * R) w1))
    (hK : ∀ (v6 v20 v21 v22 v93 v94 v95 v96 v97 v98 v99 v100 v101 v102 v103 v104 v105 v106 v107 v108 : Value) (wx : World), (∃ g2, TtM all x 3 g2 ∧ Own w (AgP p g2 * R) wx) → Q .normal ⟨List.toArray ((.slice (some a2) n cap) :: u1 :: u2 :: u3 :: u4 :: u5 :: v6 :: u7 :: (.pointer (some ⟨p, 0, none⟩)) :: u9 :: u10 :: u11 :: u12 :: u13 :: (.int .i64 (i : Int)) :: u15 :: u16 :: u17 :: u18 :: u19 :: v20 :: v21 :: v22 :: u23 :: u24 :: u25 :: u26 :: u27 :: u28 :: u29 :: u30 :: u31 :: u32 :: u33 :: u34 :: u35 :: u36 :: u37 :: u38 :: u39 :: u40 :: u41 :: u42 :: u43 :: u44 :: u45 :: u46 :: u47 :: u48 :: u49 :: u50 :: u51 :: u52 :: u53 :: u54 :: u55 :: u56 :: u57 :: u58 :: u59 :: u60 :: u61 :: u62 :: u63 :: u64 :: u65 :: u66 :: u67 :: u68 :: u69 :: u70 :: u71 :: u72 :: u73 :: u74 :: u75 :: u76 :: u77 :: u78 :: u79 :: u80 :: u81 :: u82 :: u83 :: u84 :: u85 :: u86 :: u87 :: u88 :: u89 :: u90 :: u91 :: u92 :: v93 :: v94 :: v95 :: v96 :: v97 :: v98 :: v99 :: v100 :: v101 :: v102 :: v103 :: v104 :: v105 :: v106 :: v107 :: v108 :: u109 :: u110 :: u111 :: u112 :: u113 :: u114 :: u115 :: u116 :: u117 :: u118 :: u119 :: u120 :: u121 :: u122 :: u123 :: u124 :: u125 :: u126 :: u127 :: u128 :: u129 :: u130 :: u131 :: u132 :: u133 :: u134 :: u135 :: u136 :: u137 :: u138 :: u139 :: u140 :: u141 :: u142 :: u143 :: u144 :: u145 :: u146 :: u147 :: u148 :: u149 :: u150 :: u151 :: u152 :: u153 :: u154 :: u155 :: u156 :: u157 :: u158 :: u159 :: u160 :: u161 :: u162 :: u163 :: u164 :: u165 :: u166 :: u167 :: u168 :: u169 :: u170 :: u171 :: u172 :: u173 :: u174 :: u175 :: u176 :: u177 :: u178 :: u179 :: u180 :: u181 :: u182 :: u183 :: u184 :: u185 :: u186 :: u187 :: u188 :: u189 :: u190 :: u191 :: u192 :: u193 :: u194 :: u195 :: u196 :: u197 :: u198 :: u199 :: u200 :: u201 :: u202 :: u203 :: u204 :: u205 :: u206 :: u207 :: u208 :: u209 :: u210 :: u211 :: u212 :: u213 :: u214 :: u215 :: u216 :: u217 :: []), []⟩ wx) :
    Code.wp Try.prog ttProp_code Q ⟨List.toArray ((.slice (some a2) n cap) :: u1 :: u2 :: u3 :: u4 :: u5 :: u6 :: u7 :: (.pointer (some ⟨p, 0, none⟩)) :: u9 :: u10 :: u11 :: u12 :: u13 :: (.int .i64 (i : Int)) :: u15 :: u16 :: u17 :: u18 :: u19 :: (.int .i64 0) :: u21 :: u22 :: u23 :: u24 :: u25 :: u26 :: u27 :: u28 :: u29 :: u30 :: u31 :: u32 :: u33 :: u34 :: u35 :: u36 :: u37 :: u38 :: u39 :: u40 :: u41 :: u42 :: u43 :: u44 :: u45 :: u46 :: u47 :: u48 :: u49 :: u50 :: u51 :: u52 :: u53 :: u54 :: u55 :: u56 :: u57 :: u58 :: u59 :: u60 :: u61 :: u62 :: u63 :: u64 :: u65 :: u66 :: u67 :: u68 :: u69 :: u70 :: u71 :: u72 :: u73 :: u74 :: u75 :: u76 :: u77 :: u78 :: u79 :: u80 :: u81 :: u82 :: u83 :: u84 :: u85 :: u86 :: u87 :: u88 :: u89 :: u90 :: u91 :: u92 :: u93 :: u94 :: u95 :: u96 :: u97 :: u98 :: u99 :: u100 :: u101 :: u102 :: u103 :: u104 :: u105 :: u106 :: u107 :: u108 :: u109 :: u110 :: u111 :: u112 :: u113 :: u114 :: u115 :: u116 :: u117 :: u118 :: u119 :: u120 :: u121 :: u122 :: u123 :: u124 :: u125 :: u126 :: u127 :: u128 :: u129 :: u130 :: u131 :: u132 :: u133 :: u134 :: u135 :: u136 :: u137 :: u138 :: u139 :: u140 :: u141 :: u142 :: u143 :: u144 :: u145 :: u146 :: u147 :: u148 :: u149 :: u150 :: u151 :: u152 :: u153 :: u154 :: u155 :: u156 :: u157 :: u158 :: u159 :: u160 :: u161 :: u162 :: u163 :: u164 :: u165 :: u166 :: u167 :: u168 :: u169 :: u170 :: u171 :: u172 :: u173 :: u174 :: u175 :: u176 :: u177 :: u178 :: u179 :: u180 :: u181 :: u182 :: u183 :: u184 :: u185 :: u186 :: u187 :: u188 :: u189 :: u190 :: u191 :: u192 :: u193 :: u194 :: u195 :: u196 :: u197 :: u198 :: u199 :: u200 :: u201 :: u202 :: u203 :: u204 :: u205 :: u206 :: u207 :: u208 :: u209 :: u210 :: u211 :: u212 :: u213 :: u214 :: u215 :: u216 :: u217 :: []), []⟩ w1 := by
  conv => arg 2; whnf
  have HK := Lib.hid hK
  clear hK
  have i0 : (0 : Int) ≤ (i : Int) := by omega
  have iN : (i : Int) < (n : Int) := by omega
  go_wp2_with fail
  go_loopw [20] (fun mv wr => ∃ (m : Nat) (g2 : Ag), m ≤ 3 ∧ mv = .int .i64 (m : Int) ∧ Hid (TtM all x m g2) ∧ Hid (Own w (AgP p g2 * R) wr)) (fun mv _ => 3 - (intOf mv).toNat)
  case atStart => exact ⟨0, g, by omega, rfl, HK0, HO⟩
  case round =>
    clear HO HK0
    obtain ⟨m, g2, hm, rfl, HM, HP⟩ := hrel
    by_cases hlt : m < 3
    rotate_left
    · have : m = 3 := by omega
      subst this
      go_wp2_with fail
      apply HK.out
      exact ⟨g2, HM.out, HP.out⟩
    have c0 := HC.out _ _ HP.out
    obtain ⟨h1, h3⟩ := HM.out.step hlt
    have h5 : g2.mem.length ≤ 5 := by rw [HM.out.ag.len]; omega
    have H1 := Lib.hid h1; have H3 := Lib.hid h3; have H5 := Lib.hid h5
    clear h1 h3 h5
    go_wp2_with fail
    refine (agPropose_any p g2 m x HM.out.ag.inv (HM.out.sm hl) H5.out HP.out).mono ?_
    rintro e w2 ⟨rfl, ho⟩
    rw [H1.out]
    unfold stTup
    rw [errV0]
    obtain ⟨s, hs⟩ : ∃ s, s = agPropSt g2 m x := ⟨_, rfl⟩
    rw [← hs]
    obtain ⟨b3, hb_b3⟩ : ∃ zz_, zz_ = (w2).heap.size := ⟨_, rfl⟩
    obtain ⟨w3, hw_w3⟩ : ∃ zz_, zz_ = (w2).alloc (.cells #[.int .i64 s.1, .int .i64 s.2] 52 (0, 0)) := ⟨_, rfl⟩
    have h_HO3 := (ho).alloc (.cells #[.int .i64 s.1, .int .i64 s.2] 52 (0, 0))
    rw [← hb_b3, ← hw_w3] at h_HO3
    have HO3 := Lib.hid h_HO3
    clear h_HO3
    have HO4 := Lib.hid HO3.out.drop
    clear ho HO3 c0
    have HS := Lib.hid hs
    clear hs
    go_upto_region 27 with fail
    rw [← hb_b3, ← hw_w3]
    clear hb_b3 hw_w3
    go_wp2_with fail
    go_round
    case rel => exact ⟨m + 1, _, by omega, by go_num, H3, HO4⟩
    case measure => simp [intOf]; omega
end Go.Proofs.Ytiipldlggjjlnaa
