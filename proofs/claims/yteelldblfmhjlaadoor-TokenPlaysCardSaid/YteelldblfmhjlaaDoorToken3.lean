/- Contracts of package token: Waits; plain laws of a token that goes around. -/
import Derived.Test.YteelldblfmhjlaaDoorTokenRound
namespace Go.Proofs.YteelldblfmhjlaaDoor
set_option linter.unusedVariables false
set_option linter.unusedSimpArgs false
open Go.RowKit
set_option maxRecDepth 100000 in
set_option maxHeartbeats 4000000 in
theorem tokWaits_any {w0 w : World} {R : HProp} (p : Nat) (t : Tok) (who : Int) (hfit : tokFit t) (h : Own w0 (TokP p t * R) w) :
    Calls Tryd.prog 42 #[.pointer (some ⟨p, 0, none⟩), .int .i64 who] w fun e w' => ∃ v, e = .returned (.tuple #[v, errV (inErr who t.waits.length)]) ∧ Own w0 (IntSl v (rowOf t.waits who) * (TokP p t * R)) w' := by
  obtain ⟨rb, off, cap, mb, rs, he, ho⟩ := h.tok_open
  have hlen : t.waits.length = rs.length := by rw [← he, List.length_map]
  obtain ⟨_, _, c2, _, _, _, c6, _, c8, _⟩ := ho.tok_facts
  cases hin : inR who rs.length
  · have ht : inErr who t.waits.length = 1 := by simp [inErr, hlen, hin]
    have ho2 : rowOf t.waits who = [] := by simp [rowOf, hlen, hin]
    have HIN := Lib.hid hin; have HT := Lib.hid ht; have H := Lib.hid h; have HO := Lib.hid ho; have HE := Lib.hid he; have HLEN := Lib.hid hlen; have HO2 := Lib.hid ho2; have HFIT := Lib.hid hfit; have C6 := Lib.hid c6
    clear hin ht h ho he hlen ho2 hfit c6
    go_enter Tryd.func42, Tryd.ntmps42
    go_wp2_with fail
    refine (tokHas_any _ _ _ _ _ _ c2).mono ?_
    rintro e w' ⟨rfl, rfl⟩
    rw [HIN.out]
    go_wp2
    go_ret2
    exact ⟨_, by rw [HT.out]; rfl, by rw [HO2.out]; exact H.out.sl_nil _ _⟩
  · have hw : 0 ≤ who ∧ who < rs.length := by simpa [inR] using hin
    obtain ⟨k, rfl⟩ := Int.eq_ofNat_of_zero_le hw.1
    have hk : k < rs.length := by omega
    have ht : inErr (k : Int) t.waits.length = 0 := by simp [inErr, hlen, hin]
    have hr : rowOf t.waits k = rs[k].2 := by unfold rowOf; rw [hlen, hin, ← he]; simp [hk]
    have hmem : rs[k].2 ∈ t.waits := by rw [← he]; exact List.mem_map.2 ⟨rs[k], List.getElem_mem hk, rfl⟩
    have hrow := hfit.2.2.2.1 _ hmem
    have hio : Ints w rs[k].1 rs[k].2 := ⟨Own.rd (ho.tok_row hk), fun x hx => by have := hrow.2 x hx; unfold I64; omega⟩
    have hsm : rs[k].2.length ≤ 100000 := by omega
    have hck := c6 k rs[k] (by simp [hk])
    have HIN := Lib.hid hin; have HT := Lib.hid ht; have H := Lib.hid h; have HO := Lib.hid ho; have HE := Lib.hid he; have HLEN := Lib.hid hlen; have HR := Lib.hid hr; have HFIT := Lib.hid hfit; have HIO := Lib.hid hio; have HMEM := Lib.hid hmem; have HROW := Lib.hid hrow
    clear hin ht h ho he hlen hr hfit hio hmem hrow
    clear hw c6
    go_enter Tryd.func42, Tryd.ntmps42
    go_wp2_with fail
    refine (tokHas_any _ _ _ _ _ _ c2).mono ?_
    rintro e w' ⟨rfl, rfl⟩
    rw [HIN.out]
    go_wp2_with fail
    refine (cloneInts_any H.out _ _ HIO.out hsm).mono ?_
    rintro e w1 ⟨v', rfl, ho1⟩
    have HO1 := Lib.hid ho1
    clear ho1
    go_wp2
    go_ret2
    exact ⟨v', by rw [HT.out]; rfl, by rw [HR.out]; exact HO1.out⟩
def tokSum (ws : List (List Int)) : Nat := (ws.map List.length).sum
theorem tokSum_set : ∀ (ws : List (List Int)) (k : Nat) (r : List Int), k < ws.length → tokSum (ws.set k r) + (ws.getD k []).length = tokSum ws + r.length
  | x :: ws, 0, r, _ => by simp [tokSum]; omega
  | x :: ws, k + 1, r, h => by
    have ih := tokSum_set ws k r (by simpa using h)
    simp [tokSum] at ih ⊢
    omega
theorem tokSum_snoc (ws : List (List Int)) (r : List Int) : tokSum (ws ++ [r]) = tokSum ws + r.length := by simp [tokSum]
theorem tokSum_take (ws : List (List Int)) (k : Nat) : tokSum (ws.take k) ≤ tokSum ws := by
  have h : tokSum (ws.take k ++ ws.drop k) = tokSum (ws.take k) + tokSum (ws.drop k) := by unfold tokSum; rw [List.map_append, List.sum_append]
  rw [List.take_append_drop] at h
  omega
/-- What holds while members say. -/
structure TkSay (n most : Nat) (t : Tok) : Prop where
  fit : tokFit t
  len : t.waits.length = n
  mst : t.most = most
  hold : t.holder = 0
  plc : t.placed = 0
  sum : tokSum t.waits = t.said.length
  nodup : t.said.Nodup
  word : ∀ x ∈ t.said, 1 ≤ x ∧ x ≤ 30
theorem tokSum_zero (n : Nat) : tokSum (List.replicate n []) = 0 := by
  induction n with
  | zero => rfl
  | succ n ih => simp [tokSum]
theorem tkSay_new (n most : Nat) (h1 : 2 ≤ n) (h2 : n ≤ 5) (h3 : 1 ≤ most) (h4 : most ≤ 10) : TkSay n most (tokNew n most) where
  fit := by rw [tokNew_at]; exact tokAt_fit n most 0 h1 h2 h3 h4
  len := by simp [tokNew]
  mst := rfl
  hold := rfl
  plc := rfl
  sum := by simp [tokNew, tokSum_zero]
  nodup := by simp [tokNew]
  word := by simp [tokNew]
theorem TkSay.le {n most : Nat} {t : Tok} (h : TkSay n most t) : tokSum t.waits ≤ 30 := by rw [h.sum]; exact distinct_le 30 _ h.nodup h.word
theorem row_le (ws : List (List Int)) (l : List Int) (h : l ∈ ws) : l.length ≤ tokSum ws := by
  induction ws with
  | nil => cases h
  | cons x r ih =>
    rcases List.mem_cons.1 h with rfl | h
    · simp [tokSum]
    · have := ih h; simp [tokSum] at this ⊢; omega
theorem tkSay_say {n most : Nat} {t : Tok} (h : TkSay n most t) (who word : Int) : TkSay n most (tokSay t who word) := by
  unfold tokSay
  by_cases he : tokErr t who word = 0
  · rw [if_pos he]
    have h1 : inR who t.waits.length = true ∧ isWord word = true ∧ word ∉ t.said := by
      unfold tokErr at he
      cases hw : inR who t.waits.length
      · simp [hw] at he
      cases hw2 : isWord word
      · simp [hw2] at he
      refine ⟨rfl, rfl, fun hm => ?_⟩
      simp [hw, hw2, hm] at he
    obtain ⟨hi, hwd, hns⟩ := h1
    have hw : 0 ≤ who ∧ who < t.waits.length := by simpa [inR] using hi
    have hk : who.toNat < t.waits.length := by omega
    have hwd' : 1 ≤ word ∧ word ≤ 30 := by simpa [isWord] using hwd
    have hsum := tokSum_set t.waits who.toNat (t.waits.getD who.toNat [] ++ [word]) hk
    have h30 := h.le
    rw [List.length_append, List.length_singleton] at hsum
    have hrm : t.waits.getD who.toNat [] ∈ t.waits := by rw [List.getD_eq_getElem?_getD, List.getElem?_eq_getElem hk]; exact List.getElem_mem hk
    obtain ⟨f1, f2, f3, f4, f5⟩ := h.fit
    refine ⟨⟨by simpa using f1, by simpa using f2, f3, fun l hl => ?_, f5⟩, by simp [h.len], h.mst, h.hold, h.plc, ?_, ?_, ?_⟩
    · rcases List.mem_or_eq_of_mem_set hl with hl | rfl
      · exact f4 l hl
      · have := f4 _ hrm
        have h5 := row_le _ _ hrm
        refine ⟨by rw [List.length_append, List.length_singleton]; omega, fun x hx => ?_⟩
        rcases List.mem_append.1 hx with hx | hx
        · exact this.2 x hx
        · simp at hx; subst hx; exact hwd'
    · simp only [List.length_append, List.length_singleton]
      have := h.sum; omega
    · rw [List.nodup_append]
      exact ⟨h.nodup, by simp, fun a ha b hb e => hns (by simp at hb; subst hb; exact e ▸ ha)⟩
    · intro x hx
      rcases List.mem_append.1 hx with hx | hx
      · exact h.word x hx
      · simp at hx; subst hx; exact hwd'
  · rw [if_neg he]; exact h
/-- What holds in a round, when i members had their turn: what they have left, and that less is there. -/
structure TkRound (n most i left B placed : Nat) (t : Tok) : Prop where
  fit : tokFit t
  len : t.waits.length = n
  mst : t.most = most
  hold : t.holder = i % n
  plc : t.placed = placed
  lft : tokSum (t.waits.take i) = left
  sum : tokSum t.waits + (if 0 < left then 1 else 0) ≤ B
theorem tkRound_start {n most B placed : Nat} {t : Tok} (h : tokFit t) (h1 : t.waits.length = n) (h2 : t.most = most) (h3 : t.holder = 0) (h4 : t.placed = placed) (h5 : tokSum t.waits ≤ B) : TkRound n most 0 0 B placed t :=
  ⟨h, h1, h2, by simpa using h3, h4, rfl, by simpa using h5⟩
theorem tkRound_pass {n most i left B placed : Nat} {t : Tok} (h : TkRound n most i left B placed t) (hi : i < n) (hB : placed + tokSum t.waits ≤ 10000) :
    TkRound n most (i + 1) (left + ((tokRow t).length - tokN t)) B (placed + tokN t) (tokPass t) ∧ tokSum (tokPass t).waits + tokN t = tokSum t.waits := by
  have hh : t.holder = i := by rw [h.hold]; exact Nat.mod_eq_of_lt hi
  obtain ⟨f1, f2, f3, f4, f5⟩ := h.fit
  have hk : i < t.waits.length := by rw [h.len]; exact hi
  have hrow : tokRow t = t.waits.getD i [] := by unfold tokRow; rw [hh]
  have hN : tokN t ≤ (tokRow t).length := by unfold tokN; omega
  have hsum := tokSum_set t.waits i ((tokRow t).drop (tokN t)) hk
  rw [← hrow, List.length_drop] at hsum
  have hdec : tokSum (tokPass t).waits + tokN t = tokSum t.waits := by
    show tokSum (t.waits.set t.holder _) + _ = _
    rw [hh]; omega
  have hrm : tokRow t ∈ t.waits := by rw [hrow, List.getD_eq_getElem?_getD, List.getElem?_eq_getElem hk]; exact List.getElem_mem hk
  have hsl := row_le _ _ hrm
  have hS := h.sum
  refine ⟨⟨⟨by simpa [tokPass] using f1, ?_, f3, fun l hl => ?_, ?_⟩, by simp [tokPass, h.len], h.mst, ?_, ?_, ?_, ?_⟩, hdec⟩
  · show (t.holder + 1) % t.waits.length < (t.waits.set _ _).length
    rw [List.length_set]; exact Nat.mod_lt _ (by omega)
  · rcases List.mem_or_eq_of_mem_set hl with hl | rfl
    · exact f4 l hl
    · have := f4 _ hrm
      have h7 := this.1
      exact ⟨by rw [List.length_drop]; omega, fun x hx => this.2 x (List.mem_of_mem_drop hx)⟩
  · show t.placed + tokN t ≤ 10000000
    rw [h.plc]; omega
  · show (t.holder + 1) % t.waits.length = (i + 1) % n
    rw [hh, h.len]
  · show t.placed + tokN t = _
    rw [h.plc]
  · show tokSum ((t.waits.set t.holder ((tokRow t).drop (tokN t))).take (i + 1)) = _
    rw [hh, List.take_succ_eq_append_getElem (by simpa using hk), tokSum_snoc]
    simp only [List.getElem_set_self, List.length_drop]
    rw [List.take_set_of_le (by omega), h.lft]
  · by_cases hl0 : 0 < left
    · rw [if_pos hl0] at hS
      rw [if_pos (by omega)]
      omega
    · rw [if_neg hl0] at hS
      split
      · have : t.most ≤ tokN t := by unfold tokN at *; omega
        omega
      · omega
theorem tkRound_end {n most left B placed : Nat} {t : Tok} (h : TkRound n most n left B placed t) (hn : 0 < n) : tokSum t.waits = left ∧ t.holder = 0 ∧ (0 < left → left + 1 ≤ B) := by
  have h1 : tokSum t.waits = left := by
    have := h.lft
    rwa [List.take_of_length_le (by rw [h.len]; omega)] at this
  refine ⟨h1, by rw [h.hold, Nat.mod_self], fun h0 => ?_⟩
  have := h.sum
  rw [if_pos h0, h1] at this
  exact this
end Go.Proofs.YteelldblfmhjlaaDoor
