/- Contracts of package cause, continued: Take, New, whatever comes. -/
import Derived.Test.YtldmdenojpnldaaDoorCause7
namespace Go.Proofs.YtldmdenojpnldaaDoor
set_option linter.unusedVariables false
set_option linter.unusedSimpArgs false
open Go.RowKit
set_option maxRecDepth 100000 in
set_option maxHeartbeats 4000000 in
theorem cwTake_any {w0 w : World} {R : HProp} (p : Nat) (c : Ca) (s : Sd) (cv : Value) (hI : CaI c) (hv : Reads w0 R cv s.clk) (h : Own w0 (CwP p c * R) w) :
    Calls Tryd.prog 27 #[.pointer (some ⟨p, 0, none⟩), .agg #[.int .i64 s.who, .int .i64 s.word, cv]] w fun e w' => ∃ v', e = .returned (.tuple #[v', errV (caErr c s)]) ∧ Own w0 (IntSl v' (caOut c s) * (CwP p (caTake c s) * R)) w' := by
  by_cases hE : caErr c s = 0
  · rw [hE]
    exact cwTake_yes p c s cv hI hE hv h
  · refine (cwTake_no p c s cv hI hE hv h).mono ?_
    rintro e w' ⟨rfl, ho⟩
    refine ⟨_, rfl, ?_⟩
    rw [show caOut c s = [] by unfold caOut; rw [if_neg hE], show caTake c s = c by unfold caTake; rw [if_neg hE]]
    exact ho.sl_nil 3 1
set_option maxRecDepth 100000 in
set_option maxHeartbeats 4000000 in
theorem cwNew_w0 {w0 w : World} {R : HProp} (me : Int) (hm : isMember me = false) (h : Own w0 R w) :
    Calls Tryd.prog 25 #[.int .i64 me] w fun e w' => ∃ v, e = .returned (.tuple #[v, .iface 129 (.int .i64 1)]) ∧ Own w0 R w' := by
  refine (cwNew_no me w hm).mono ?_
  rintro e w' ⟨rfl, rfl⟩
  exact ⟨_, rfl, h⟩
set_option maxRecDepth 100000 in
set_option maxHeartbeats 4000000 in
theorem cwNew_w1 {w0 w : World} {R : HProp} (me : Int) (hm : isMember me = true) (h : Own w0 R w) :
    Calls Tryd.prog 25 #[.int .i64 me] w fun e w' => ∃ v, e = .returned (.tuple #[v, .nilIface]) ∧ Own w0 R w' := by
  refine (cwNew_yes me hm h).mono ?_
  rintro e w' ⟨p, rfl, ho⟩
  exact ⟨_, rfl, ho.drop⟩
theorem caOut_I64 {c : Ca} {s : Sd} (hI : CaI c) : ∀ x ∈ caOut c s, I64 x := by
  intro x hx
  unfold caOut at hx
  by_cases hE : caErr c s = 0
  rotate_left
  · rw [if_neg hE] at hx; cases hx
  rw [if_pos hE] at hx
  obtain ⟨h0, _⟩ := caErr0 hE
  have key : ∀ (k : Nat) (clk : List Int) (ws : List Sd), (∀ s ∈ ws, sdErr s = 0) → ∀ x ∈ (caHear k clk ws).2.2, I64 x := by
    intro k
    induction k with
    | zero => intro clk ws _ x hx; cases hx
    | succ k ih =>
      intro clk ws hw x hx
      unfold caHear at hx
      by_cases h : ((whereI (caReady clk) ws).toNat < ws.length ∧ 0 ≤ whereI (caReady clk) ws)
      · rw [dif_pos h] at hx
        simp only at hx
        rcases List.mem_cons.1 hx with rfl | hx
        · exact isWord_I64 (sdErr0 (hw _ (List.getElem_mem h.1))).2.1
        · exact ih _ _ (fun s hs => hw s (List.mem_of_mem_eraseIdx hs)) x hx
      · rw [dif_neg h] at hx; cases hx
  by_cases hr : caReady c.clk s = true
  · rw [if_pos hr] at hx
    rcases List.mem_cons.1 hx with rfl | hx
    · exact isWord_I64 (sdErr0 h0).2.1
    · exact key _ _ _ hI.ok x hx
  · rw [if_neg hr] at hx; cases hx
theorem caSaid_ok {c : Ca} {w : Int} (hI : CaI c) (h : caSayErr c w = 0) : sdErr (caSaid c w) = 0 := by
  have h1 := (hI.say w).clk
  unfold caSay at h1
  rw [if_pos h] at h1
  unfold caSaid
  rw [if_pos h]
  unfold sdErr
  have hw : isWord w = true := by
    unfold caSayErr at h
    cases hw : isWord w
    · rw [if_pos hw] at h; cases h
    · rfl
  rw [if_neg (by rw [hI.me]; simp), if_neg (by rw [hw]; simp)]
  exact h1
end Go.Proofs.YtldmdenojpnldaaDoor
