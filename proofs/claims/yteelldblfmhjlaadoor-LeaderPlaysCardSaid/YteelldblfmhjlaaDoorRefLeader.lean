/- The reference's leader. -/
import Derived.Test.YteelldblfmhjlaaDoorLeaderP
import Derived.Test.YteelldblfmhjlaaDoorHeld
namespace Go.Proofs.YteelldblfmhjlaaDoor
set_option linter.unusedVariables false
set_option linter.unusedSimpArgs false
open Go.RowKit
/-- The cells of what has come: of each member 31. -/
def rlCome (mem : List (List Int × Nat)) : List Value := (List.range 155).map fun c : Nat => Value.bool (decide (((c % 31 : Nat) : Int) ∈ (mem.getD (c / 31) ([], 0)).1))
def rlCells (l : Ld) (wv : Value) : List Value := [.int .i64 l.mem.length, wv] ++ rlCome l.mem
def RlO (q : Nat) (l : Ld) (wv : Value) : HProp := blk q (.cells (rlCells l wv).toArray 91 (0, 0)) * IntSl wv l.words
def RlP (q : Nat) (l : Ld) : HProp := hex fun wv => RlO q l wv
theorem Own.rl_close {w0 w : World} {q : Nat} {l : Ld} {wv : Value} {R : HProp} (h : Own w0 (RlO q l wv * R) w) : Own w0 (RlP q l * R) w := Own.ex_mk wv h
theorem Own.rl_blk {w0 w : World} {q : Nat} {l : Ld} {wv : Value} {R : HProp} (h : Own w0 (RlO q l wv * R) w) : Own w0 (blk q (.cells (rlCells l wv).toArray 91 (0, 0)) * (IntSl wv l.words * R)) w := h.perm (by unfold RlO; ac_rfl)
theorem Own.rl_sl {w0 w : World} {q : Nat} {l : Ld} {wv : Value} {R : HProp} (h : Own w0 (RlO q l wv * R) w) : Own w0 (IntSl wv l.words * (blk q (.cells (rlCells l wv).toArray 91 (0, 0)) * R)) w := h.perm (by unfold RlO; ac_rfl)
theorem Own.rl_open {w0 w : World} {q : Nat} {l : Ld} {R : HProp} (h : Own w0 (RlP q l * R) w) : ∃ ad cap, l.words.length ≤ cap ∧ cap ≤ 9223372036854775807 ∧ Own w0 (RlO q l (.slice ad l.words.length cap) * R) w := by
  obtain ⟨v, h⟩ := Own.ex h
  obtain ⟨ad, cap, e, h2, h3, _⟩ := Own.rd h.rl_sl
  subst e
  exact ⟨ad, cap, h2, by simpa [maxLen] using h3, h⟩
theorem rl_cells {w0 w : World} {q : Nat} {l : Ld} {wv : Value} {R : HProp} (h : Own w0 (blk q (.cells (rlCells l wv).toArray 91 (0, 0)) * R) w) :
    w.cell? ⟨q, 0, none⟩ = some (.int .i64 l.mem.length) ∧ w.cell? ⟨q, 1, none⟩ = some wv ∧ (∀ r k : Nat, r < 5 → k < 31 → w.cell? ⟨q, 2 + r * 31 + k, none⟩ = some (.bool (decide ((k : Int) ∈ (l.mem.getD r ([], 0)).1)))) ∧ (∀ i s, w.frozen? ⟨q, i, s⟩ = false) := by
  refine ⟨by rw [h.cell]; rfl, by rw [h.cell]; rfl, fun r k hr hk => ?_, fun i s => h.free i s⟩
  rw [h.cell]
  unfold rlCells rlCome
  rw [List.getElem?_toArray, List.getElem?_append_right (by simp; omega)]
  have e1 : 2 + r * 31 + k - [Value.int .i64 (l.mem.length : Nat), wv].length = r * 31 + k := by simp; omega
  have e2 : (r * 31 + k) / 31 = r := by omega
  have e3 : (r * 31 + k) % 31 = k := by omega
  have e4 : r * 31 + k < 155 := by omega
  rw [e1, List.getElem?_map, List.getElem?_range e4]
  simp only [Option.map_some, e2, e3]
theorem Own.rl_facts {w0 w : World} {q : Nat} {l : Ld} {wv : Value} {R : HProp} (h : Own w0 (RlO q l wv * R) w) :
    w.cell? ⟨q, 0, none⟩ = some (.int .i64 l.mem.length) ∧ w.cell? ⟨q, 1, none⟩ = some wv ∧ (∀ r k : Nat, r < 5 → k < 31 → w.cell? ⟨q, 2 + r * 31 + k, none⟩ = some (.bool (decide ((k : Int) ∈ (l.mem.getD r ([], 0)).1)))) ∧ (∀ i s, w.frozen? ⟨q, i, s⟩ = false) := rl_cells h.rl_blk
/-- A word behind the others. -/
theorem Own.rl_say {w0 w : World} {q : Nat} {l : Ld} {wv v' : Value} {word : Int} {R : HProp} (h : Own w0 (IntSl v' (l.words ++ [word]) * (blk q (.cells (rlCells l wv).toArray 91 (0, 0)) * R)) w) : Own w0 (RlO q ⟨l.words ++ [word], l.mem⟩ v' * R) (w.setCell ⟨q, 1, none⟩ v') := by
  refine ((h.perm (star_left_comm _ _ _)).setCell (i := 1) (v := v')).perm ?_
  have e : (rlCells l wv).toArray.setIfInBounds 1 v' = (rlCells ⟨l.words ++ [word], l.mem⟩ v').toArray := by simp [rlCells]
  rw [e]; unfold RlO; ac_rfl
/-- What is at a place comes to member r. -/
theorem Own.rl_come {w0 w : World} {q r k : Nat} {l : Ld} {wv : Value} {h' : Nat} {R : HProp} (hr : r < l.mem.length) (h5 : l.mem.length ≤ 5) (hk : k < 31) (h : Own w0 (RlO q l wv * R) w) :
    Own w0 (RlO q ⟨l.words, l.mem.set r (setPut (l.mem.getD r ([], 0)).1 k, h')⟩ wv * R) (w.setCell ⟨q, 2 + r * 31 + k, none⟩ (.bool true)) := by
  refine (h.rl_blk.setCell (i := 2 + r * 31 + k) (v := .bool true)).perm ?_
  have e : (rlCells l wv).toArray.setIfInBounds (2 + r * 31 + k) (.bool true) = (rlCells ⟨l.words, l.mem.set r (setPut (l.mem.getD r ([], 0)).1 k, h')⟩ wv).toArray := by
    unfold rlCells
    rw [List.setIfInBounds_toArray]
    congr 1
    rw [List.set_append, if_neg (by simp; omega)]
    simp only [List.length_set]
    congr 1
    have e1 : 2 + r * 31 + k - [Value.int .i64 (l.mem.length : Nat), wv].length = r * 31 + k := by simp; omega
    rw [e1]
    unfold rlCome
    apply List.ext_getElem?
    intro i
    rw [List.getElem?_set]
    by_cases hi : r * 31 + k = i
    · subst hi
      have e2 : (r * 31 + k) / 31 = r := by omega
      have e3 : (r * 31 + k) % 31 = k := by omega
      rw [if_pos rfl, if_pos (by simp; omega), List.getElem?_map, List.getElem?_range (by omega)]
      simp only [Option.map_some, e2, e3]
      have : (k : Int) ∈ setPut (l.mem.getD r ([], 0)).1 k := mem_setPut.2 (.inr rfl)
      simp [hr] at this ⊢
      exact this
    · rw [if_neg hi]
      simp only [List.getElem?_map]
      cases hg : (List.range 155)[i]? with
      | none => rfl
      | some j =>
        have hj : j = i ∧ i < 155 := by
          rw [List.getElem?_eq_some_iff] at hg
          obtain ⟨h1, hg⟩ := hg
          exact ⟨by simpa using hg.symm, by simpa using h1⟩
        obtain ⟨rfl, hj5⟩ := hj
        simp only [Option.map_some]
        congr 2
        by_cases hr2 : j / 31 = r
        · have hne : ((j % 31 : Nat) : Int) ≠ (k : Int) := by omega
          rw [hr2]
          simp only [List.getD_eq_getElem?_getD, List.getElem?_set, hr, if_true, Option.getD_some, mem_setPut, hne, or_false]
        · have : (l.mem.set r (setPut (l.mem.getD r ([], 0)).1 k, h')).getD (j / 31) ([], 0) = l.mem.getD (j / 31) ([], 0) := by
            rw [List.getD_eq_getElem?_getD, List.getElem?_set, if_neg (fun h => hr2 h.symm), ← List.getD_eq_getElem?_getD]
          rw [this]
  rw [e]; unfold RlO; ac_rfl
theorem rlNew {w0 w : World} {q n : Nat} {R : HProp} {cs : Array Value} (hcs : cs = (rlCells (ldNew n) (.slice none 0 0)).toArray) (h : Own w0 (blk q (.cells cs 91 (0, 0)) * R) w) : Own w0 (RlP q (ldNew n) * R) w := by
  subst hcs
  refine Own.rl_close (wv := .slice none 0 0) (h.perm ?_)
  unfold RlO IntSl
  rw [show (ldNew n).words = [] from rfl, List.length_nil, List.map_nil, Sl_nil, star_emp]
set_option maxRecDepth 100000 in
set_option maxHeartbeats 4000000 in
theorem refHeard_any (q r L h cap : Nat) (ad : Option Addr) (C : List Int) (w : World) (hr : r < 5) (hL : L ≤ 30) (c1 : w.cell? ⟨q, 1, none⟩ = some (.slice ad L cap)) (cc : ∀ k : Nat, k < 31 → w.cell? ⟨q, 2 + r * 31 + k, none⟩ = some (.bool (decide ((k : Int) ∈ C)))) (hh : h ≤ L) (hin : ∀ i : Nat, i < h → (i : Int) ∈ C) (hend : h = L ∨ (h : Int) ∉ C) :
    Calls Tryd.prog 47 #[.pointer (some ⟨q, 0, none⟩), .int .i64 (r : Int)] w fun e w' => e = .returned (.int .i64 (h : Int)) ∧ w = w' := by
  have i0 : (0 : Int) ≤ (r : Int) := by omega
  have i5 : (r : Int) < 5 := by omega
  have CC := Lib.hid cc; have HIN := Lib.hid hin; have HEND := Lib.hid hend
  clear cc hin hend
  go_enter Tryd.func47, Tryd.ntmps47
  go_wp2_with fail
  go_loop [5] (fun i => ∃ k : Nat, k ≤ h ∧ i = .int .i64 k) (fun i => h - (intOf i).toNat)
  case atStart => exact ⟨0, Nat.zero_le _, rfl⟩
  case round =>
    obtain ⟨k, hk, rfl⟩ := hrel
    have j0 : (0 : Int) ≤ (k : Int) := by omega
    have j5 : (k : Int) < 31 := by omega
    have ck := CC.out k (by omega)
    by_cases hlt : k < h
    · rw [decide_eq_true (HIN.out k hlt)] at ck
      have t1 : decide (k < L) = true := by simp; omega
      go_wp2
      go_round
      case rel => exact ⟨k + 1, by omega, by go_num⟩
      case measure => simp [intOf]; omega
    · have hkh : k = h := by omega
      subst hkh
      by_cases h2 : k < L
      · have t1 : decide (k < L) = true := by simpa using h2
        have : (k : Int) ∉ C := HEND.out.elim (fun h => by omega) id
        rw [decide_eq_false this] at ck
        have HT := Lib.hid this
        clear this
        go_wp2
        go_ret
        exact ⟨rfl, rfl⟩
      · have t1 : decide (k < L) = false := by simp; omega
        go_wp2
        go_ret
        exact ⟨rfl, rfl⟩
end Go.Proofs.YteelldblfmhjlaaDoor
