/- AgreeTwo: where it ends early. -/
import Derived.Test.YtldmdenojpnldaaDoorAgreeTwoP
import Derived.Test.YtldmdenojpnldaaDoorAgree9
namespace Go.Proofs.YtldmdenojpnldaaDoor
set_option linter.unusedVariables false
set_option linter.unusedSimpArgs false
open Go.RowKit Go.Maps
def AgLe (g : Ag) (B : Int) : Prop := ∀ k : Nat, k < g.mem.length → (agGet g k).n ≤ B
theorem AgLe.sm {g : Ag} {B : Int} (h : AgLe g B) (hI : AgI g) (hB : B ≤ 1000000) : AgSm g := fun k hk => ⟨by rw [agGet_at hk]; exact (hI.mem k hk).pos, Int.le_trans (h k hk) hB⟩
theorem AgLe.prop {g : Ag} {B : Int} (h : AgLe g B) (who w : Int) : AgLe (agProp g who w) (B + 1) := by
  intro k hk
  rw [agProp_len] at hk
  have hk0 := h k hk
  by_cases he : agPropErr g who w = 0
  rotate_left
  · have e : agProp g who w = g := by unfold agProp; rw [if_neg he]
    rw [e]; omega
  have hc : agChk g who w = 0 := by
    by_cases hc : agChk g who w = 0
    · exact hc
    · unfold agPropErr at he; rw [if_pos hc] at he; exact he
  obtain ⟨⟨h0, h1⟩, _, _⟩ := agChk0 hc
  obtain ⟨j, rfl⟩ : ∃ j : Nat, who = (j : Int) := ⟨who.toNat, by omega⟩
  obtain ⟨m, hm, hmn⟩ : ∃ m, (agProp g j w).mem = g.mem.set j m ∧ m.n = (agGet g j).n + 1 := by
    unfold agProp
    rw [if_pos he, Int.toNat_natCast]
    exact ⟨_, rfl, rfl⟩
  have hkk : k < (agProp g j w).mem.length := by rw [agProp_len]; exact hk
  rw [agGet_at hkk]
  have e2 : (agProp g j w).mem[k]? = (g.mem.set j m)[k]? := by rw [hm]
  rw [List.getElem?_eq_getElem hkk, List.getElem?_set] at e2
  by_cases e : j = k
  · subst e
    rw [if_pos rfl, if_pos hk] at e2
    rw [Option.some.inj e2, hmn]
    omega
  · rw [if_neg e, List.getElem?_eq_getElem hk] at e2
    rw [Option.some.inj e2, ← agGet_at hk]
    omega
theorem AgLe.new (n : Nat) (a b : Int) : AgLe (agSay (agSay (agNew n) a) b) 0 := by
  intro k hk
  unfold agGet
  rw [agSay_mem, agSay_mem]
  unfold agNew
  dsimp only
  rw [List.getD_eq_getElem?_getD, Int.toNat_natCast]
  rw [agSay_mem, agSay_mem] at hk
  have hk' : k < (List.replicate n (⟨0, [], [], []⟩ : AgM)).length := hk
  rw [List.getElem?_eq_getElem hk']
  simp
theorem errA1 : errV 1 = .iface 129 (.int .i64 1) := rfl
theorem errA7 : errV 7 = .iface 129 (.int .i64 7) := rfl
theorem wordNo {x : Int} (h : isWord x = false) : x < 1 ∨ (¬ x < 1 ∧ 30 < x) := by simp [isWord] at h; omega
theorem wordYes {x : Int} (h : isWord x = true) : ¬ x < 1 ∧ ¬ 30 < x := by simp [isWord] at h; omega
theorem AgN.fit {n : Nat} {g : Ag} (h : AgN n g) : ∀ k : Nat, k < g.mem.length → (agGet g k).heard.length ≤ 1000 ∧ ∀ x ∈ (agGet g k).heard, I64 x := fun k hk => by
  rw [h.len] at hk
  obtain ⟨h1, h2⟩ := h.heard_small hk
  exact ⟨by omega, fun x hx => isWord_I64 (h2 x hx)⟩
theorem agHeard_at {n : Nat} {g : Ag} (h : AgN n g) {k : Nat} (hk : k < n) : agHeardErr g k = 0 ∧ agHeard g k = (agGet g k).heard := by
  have e : inR (k : Int) g.mem.length = true := by unfold inR; rw [h.len]; simp; omega
  unfold agHeardErr agHeard
  rw [e]
  exact ⟨rfl, rfl⟩
end Go.Proofs.YtldmdenojpnldaaDoor
