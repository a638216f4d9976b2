/- CauseWaits, plainly: an answer waits for its question. -/
import Derived.Test.YtldmdenojpnldaaDoorCauseP
namespace Go.Proofs.YtldmdenojpnldaaDoor
set_option linter.unusedVariables false
set_option linter.unusedSimpArgs false
open Go.RowKit Go.Maps
/-- What is wrong with a word that comes, where member and word are ones that may be. -/
def cwErr (me : Int) (clk : List Int) (ws : List Sd) (who : Int) (v : List Int) (rd : Bool) : Nat := if vecErr v ≠ 0 then vecErr v else if who = me then 3 else if caAt v who = 0 then 1 else if caAt v who ≤ caAt clk who then 7 else
  if ws.any (fun x => decide (x.who = who) && decide (caAt x.clk x.who = caAt v who)) = true then 7 else if 40 ≤ ws.length ∧ rd = false then 4 else 0
theorem caErr_w {c : Ca} {who w : Int} {v : List Int} (hm : isMember who = true) (hw : isWord w = true) : caErr c ⟨who, w, v⟩ = cwErr c.me c.clk c.waits who v (caReady c.clk ⟨who, w, v⟩) := by
  unfold caErr cwErr sdErr caSame
  simp only [hm, hw]
  rfl
theorem cwaits_plain {a b c w v : Int} (ha : isMember a = true) (hb : isMember b = true) (hc : isMember c = true) (hw : isWord w = true) (hv : isWord v = true) (h1 : a ≠ b) (h2 : b ≠ c) (h3 : a ≠ c) :
    caSayErr (caNew a) w = 0 ∧ caErr (caNew b) (caSaid (caNew a) w) = 0 ∧ caOut (caNew b) (caSaid (caNew a) w) = [w] ∧ caSayErr (caTake (caNew b) (caSaid (caNew a) w)) v = 0 ∧
    caErr (caNew c) (caSaid (caTake (caNew b) (caSaid (caNew a) w)) v) = 0 ∧ caOut (caNew c) (caSaid (caTake (caNew b) (caSaid (caNew a) w)) v) = [] ∧ (caTake (caNew c) (caSaid (caTake (caNew b) (caSaid (caNew a) w)) v)).waits.length = 1 ∧
    caErr (caTake (caNew c) (caSaid (caTake (caNew b) (caSaid (caNew a) w)) v)) (caSaid (caNew a) w) = 0 ∧ caOut (caTake (caNew c) (caSaid (caTake (caNew b) (caSaid (caNew a) w)) v)) (caSaid (caNew a) w) = [w, v] ∧
    caErr (caTake (caTake (caNew c) (caSaid (caTake (caNew b) (caSaid (caNew a) w)) v)) (caSaid (caNew a) w)) (caSaid (caNew a) w) = 7 ∧ caErr (caTake (caTake (caNew c) (caSaid (caTake (caNew b) (caSaid (caNew a) w)) v)) (caSaid (caNew a) w)) (caSaid (caTake (caNew b) (caSaid (caNew a) w)) v) = 7 ∧
    (caTake (caTake (caNew c) (caSaid (caTake (caNew b) (caSaid (caNew a) w)) v)) (caSaid (caNew a) w)).waits = [] ∧
    leq (caSaid (caNew a) w).clk (caSaid (caTake (caNew b) (caSaid (caNew a) w)) v).clk = true := by
  have a0 : 0 ≤ a ∧ a < 5 := by simpa [isMember] using ha
  have b0 : 0 ≤ b ∧ b < 5 := by simpa [isMember] using hb
  have c0 : 0 ≤ c ∧ c < 5 := by simpa [isMember] using hc
  have e1 : caSaid (caNew a) w = ⟨a, w, caBump zeroClk a⟩ := by
    unfold caSaid caSayErr caNew
    have : caAt zeroClk a ≠ 1000000 := by rcases (show a = 0 ∨ a = 1 ∨ a = 2 ∨ a = 3 ∨ a = 4 by omega) with rfl | rfl | rfl | rfl | rfl <;> decide
    simp [hw, this]
  have es : caSayErr (caNew a) w = 0 := by
    unfold caSayErr caNew
    have : caAt zeroClk a ≠ 1000000 := by rcases (show a = 0 ∨ a = 1 ∨ a = 2 ∨ a = 3 ∨ a = 4 by omega) with rfl | rfl | rfl | rfl | rfl <;> decide
    simp [hw, this]
  rw [e1]
  have e2 : caErr (caNew b) ⟨a, w, caBump zeroClk a⟩ = 0 ∧ caTake (caNew b) ⟨a, w, caBump zeroClk a⟩ = ⟨b, caBump zeroClk a, []⟩ ∧ caOut (caNew b) ⟨a, w, caBump zeroClk a⟩ = [w] := by
    have h := caErr_w (c := caNew b) (who := a) (w := w) (v := caBump zeroClk a) ha hw
    have h0 : caErr (caNew b) ⟨a, w, caBump zeroClk a⟩ = 0 := by
      rw [h]
      rcases (show a = 0 ∨ a = 1 ∨ a = 2 ∨ a = 3 ∨ a = 4 by omega) with rfl | rfl | rfl | rfl | rfl <;> rcases (show b = 0 ∨ b = 1 ∨ b = 2 ∨ b = 3 ∨ b = 4 by omega) with rfl | rfl | rfl | rfl | rfl <;> first | exact absurd rfl h1 | rfl
    refine ⟨h0, ?_, ?_⟩
    · unfold caTake; rw [if_pos h0]
      rcases (show a = 0 ∨ a = 1 ∨ a = 2 ∨ a = 3 ∨ a = 4 by omega) with rfl | rfl | rfl | rfl | rfl <;> rfl
    · unfold caOut; rw [if_pos h0]
      rcases (show a = 0 ∨ a = 1 ∨ a = 2 ∨ a = 3 ∨ a = 4 by omega) with rfl | rfl | rfl | rfl | rfl <;> rfl
  obtain ⟨e2, e3, e4⟩ := e2
  rw [e3]
  have hat : caAt (caBump zeroClk a) b ≠ 1000000 := by
    rcases (show a = 0 ∨ a = 1 ∨ a = 2 ∨ a = 3 ∨ a = 4 by omega) with rfl | rfl | rfl | rfl | rfl <;> rcases (show b = 0 ∨ b = 1 ∨ b = 2 ∨ b = 3 ∨ b = 4 by omega) with rfl | rfl | rfl | rfl | rfl <;> decide
  have e5 : caSayErr ⟨b, caBump zeroClk a, []⟩ v = 0 := by unfold caSayErr; simp [hv, hat]
  have e6 : caSaid ⟨b, caBump zeroClk a, []⟩ v = ⟨b, v, caBump (caBump zeroClk a) b⟩ := by unfold caSaid; rw [if_pos e5]
  rw [e6]
  have e7 : caErr (caNew c) ⟨b, v, caBump (caBump zeroClk a) b⟩ = 0 ∧ caTake (caNew c) ⟨b, v, caBump (caBump zeroClk a) b⟩ = ⟨c, zeroClk, [⟨b, v, caBump (caBump zeroClk a) b⟩]⟩ ∧ caOut (caNew c) ⟨b, v, caBump (caBump zeroClk a) b⟩ = [] := by
    have h := caErr_w (c := caNew c) (who := b) (w := v) (v := caBump (caBump zeroClk a) b) hb hv
    have h0 : caErr (caNew c) ⟨b, v, caBump (caBump zeroClk a) b⟩ = 0 := by
      rw [h]
      rcases (show a = 0 ∨ a = 1 ∨ a = 2 ∨ a = 3 ∨ a = 4 by omega) with rfl | rfl | rfl | rfl | rfl <;> rcases (show b = 0 ∨ b = 1 ∨ b = 2 ∨ b = 3 ∨ b = 4 by omega) with rfl | rfl | rfl | rfl | rfl <;> rcases (show c = 0 ∨ c = 1 ∨ c = 2 ∨ c = 3 ∨ c = 4 by omega) with rfl | rfl | rfl | rfl | rfl <;> first | exact absurd rfl h1 | exact absurd rfl h2 | exact absurd rfl h3 | rfl
    refine ⟨h0, ?_, ?_⟩
    · unfold caTake; rw [if_pos h0]
      rcases (show a = 0 ∨ a = 1 ∨ a = 2 ∨ a = 3 ∨ a = 4 by omega) with rfl | rfl | rfl | rfl | rfl <;> rcases (show b = 0 ∨ b = 1 ∨ b = 2 ∨ b = 3 ∨ b = 4 by omega) with rfl | rfl | rfl | rfl | rfl <;> first | exact absurd rfl h1 | rfl
    · unfold caOut; rw [if_pos h0]
      rcases (show a = 0 ∨ a = 1 ∨ a = 2 ∨ a = 3 ∨ a = 4 by omega) with rfl | rfl | rfl | rfl | rfl <;> rcases (show b = 0 ∨ b = 1 ∨ b = 2 ∨ b = 3 ∨ b = 4 by omega) with rfl | rfl | rfl | rfl | rfl <;> first | exact absurd rfl h1 | rfl
  obtain ⟨e7, e8, e9⟩ := e7
  rw [e8]
  have e10 : caErr ⟨c, zeroClk, [⟨b, v, caBump (caBump zeroClk a) b⟩]⟩ ⟨a, w, caBump zeroClk a⟩ = 0 ∧ caTake ⟨c, zeroClk, [⟨b, v, caBump (caBump zeroClk a) b⟩]⟩ ⟨a, w, caBump zeroClk a⟩ = ⟨c, caBump (caBump zeroClk a) b, []⟩ ∧ caOut ⟨c, zeroClk, [⟨b, v, caBump (caBump zeroClk a) b⟩]⟩ ⟨a, w, caBump zeroClk a⟩ = [w, v] := by
    have h := caErr_w (c := ⟨c, zeroClk, [⟨b, v, caBump (caBump zeroClk a) b⟩]⟩) (who := a) (w := w) (v := caBump zeroClk a) ha hw
    have h0 : caErr ⟨c, zeroClk, [⟨b, v, caBump (caBump zeroClk a) b⟩]⟩ ⟨a, w, caBump zeroClk a⟩ = 0 := by
      rw [h]
      rcases (show a = 0 ∨ a = 1 ∨ a = 2 ∨ a = 3 ∨ a = 4 by omega) with rfl | rfl | rfl | rfl | rfl <;> rcases (show b = 0 ∨ b = 1 ∨ b = 2 ∨ b = 3 ∨ b = 4 by omega) with rfl | rfl | rfl | rfl | rfl <;> rcases (show c = 0 ∨ c = 1 ∨ c = 2 ∨ c = 3 ∨ c = 4 by omega) with rfl | rfl | rfl | rfl | rfl <;> first | exact absurd rfl h1 | exact absurd rfl h2 | exact absurd rfl h3 | rfl
    refine ⟨h0, ?_, ?_⟩
    · unfold caTake; rw [if_pos h0]
      rcases (show a = 0 ∨ a = 1 ∨ a = 2 ∨ a = 3 ∨ a = 4 by omega) with rfl | rfl | rfl | rfl | rfl <;> rcases (show b = 0 ∨ b = 1 ∨ b = 2 ∨ b = 3 ∨ b = 4 by omega) with rfl | rfl | rfl | rfl | rfl <;> first | exact absurd rfl h1 | rfl
    · unfold caOut; rw [if_pos h0]
      rcases (show a = 0 ∨ a = 1 ∨ a = 2 ∨ a = 3 ∨ a = 4 by omega) with rfl | rfl | rfl | rfl | rfl <;> rcases (show b = 0 ∨ b = 1 ∨ b = 2 ∨ b = 3 ∨ b = 4 by omega) with rfl | rfl | rfl | rfl | rfl <;> first | exact absurd rfl h1 | rfl
  obtain ⟨e10, e11, e12⟩ := e10
  rw [e11]
  have e13 : caErr ⟨c, caBump (caBump zeroClk a) b, []⟩ ⟨a, w, caBump zeroClk a⟩ = 7 := by
    rw [caErr_w ha hw]
    rcases (show a = 0 ∨ a = 1 ∨ a = 2 ∨ a = 3 ∨ a = 4 by omega) with rfl | rfl | rfl | rfl | rfl <;> rcases (show b = 0 ∨ b = 1 ∨ b = 2 ∨ b = 3 ∨ b = 4 by omega) with rfl | rfl | rfl | rfl | rfl <;> rcases (show c = 0 ∨ c = 1 ∨ c = 2 ∨ c = 3 ∨ c = 4 by omega) with rfl | rfl | rfl | rfl | rfl <;> first | exact absurd rfl h1 | exact absurd rfl h2 | exact absurd rfl h3 | rfl
  have e14 : caErr ⟨c, caBump (caBump zeroClk a) b, []⟩ ⟨b, v, caBump (caBump zeroClk a) b⟩ = 7 := by
    rw [caErr_w hb hv]
    rcases (show a = 0 ∨ a = 1 ∨ a = 2 ∨ a = 3 ∨ a = 4 by omega) with rfl | rfl | rfl | rfl | rfl <;> rcases (show b = 0 ∨ b = 1 ∨ b = 2 ∨ b = 3 ∨ b = 4 by omega) with rfl | rfl | rfl | rfl | rfl <;> rcases (show c = 0 ∨ c = 1 ∨ c = 2 ∨ c = 3 ∨ c = 4 by omega) with rfl | rfl | rfl | rfl | rfl <;> first | exact absurd rfl h1 | exact absurd rfl h2 | exact absurd rfl h3 | rfl
  have e15 : leq (caBump zeroClk a) (caBump (caBump zeroClk a) b) = true := by
    rcases (show a = 0 ∨ a = 1 ∨ a = 2 ∨ a = 3 ∨ a = 4 by omega) with rfl | rfl | rfl | rfl | rfl <;> rcases (show b = 0 ∨ b = 1 ∨ b = 2 ∨ b = 3 ∨ b = 4 by omega) with rfl | rfl | rfl | rfl | rfl <;> rfl
  exact ⟨es, e2, e4, e5, e7, e9, rfl, e10, e12, e13, e14, rfl, e15⟩
end Go.Proofs.YtldmdenojpnldaaDoor
