/- AgreeTwo: where it ends early. -/
import Derived.Test.YtkgnjkokbiefgaaAgreeTwoP
import Derived.Test.YtkgnjkokbiefgaaAgree9
namespace Go.Proofs.Ytkgnjkokbiefgaa
set_option linter.unusedVariables false
set_option linter.unusedSimpArgs false
open Go.RowKit Go.Maps
def AgLe (g : Ag) (B : Int) : Prop := ∀ k : Nat, k < g.mem.length → (agGet g k).n ≤ B
theorem AgLe.sm {g : Ag} {B : Int} (h : AgLe g B) (hI : AgI g) (hB : B ≤ 1000000) : AgSm g := fun k hk => ⟨by rw [agGet_at hk]; exact (hI.mem k hk).pos, Int.le_trans (h k hk) hB⟩
theorem AgLe.prop {g : Ag} {B : Int} (h : AgLe g B) (who w : Int) : AgLe (agProp g who w) (B + 1) := by
  intro k hk
  rw [agProp_len] at hk
  have hk0 := h k hk
  by_cases he : agPropErr g who w = 0
  rotate_left
  · have e : agProp g who w = g := by unfold agProp; rw [if_neg he]
    rw [e]; omega
  have hc : agChk g who w = 0 := by
    by_cases hc : agChk g who w = 0
    · exact hc
    · unfold agPropErr at he; rw [if_pos hc] at he; exact he
  obtain ⟨⟨h0, h1⟩, _, _⟩ := agChk0 hc
  obtain ⟨j, rfl⟩ : ∃ j : Nat, who = (j : Int) := ⟨who.toNat, by omega⟩
  obtain ⟨m, hm, hmn⟩ : ∃ m, (agProp g j w).mem = g.mem.set j m ∧ m.n = (agGet g j).n + 1 := by
    unfold agProp
    rw [if_pos he, Int.toNat_natCast]
    exact ⟨_, rfl, rfl⟩
  have hkk : k < (agProp g j w).mem.length := by rw [agProp_len]; exact hk
  rw [agGet_at hkk]
  have e2 : (agProp g j w).mem[k]? = (g.mem.set j m)[k]? := by rw [hm]
  rw [List.getElem?_eq_getElem hkk, List.getElem?_set] at e2
  by_cases e : j = k
  · subst e
    rw [if_pos rfl, if_pos hk] at e2
    rw [Option.some.inj e2, hmn]
    omega
  · rw [if_neg e, List.getElem?_eq_getElem hk] at e2
    rw [Option.some.inj e2, ← agGet_at hk]
    omega
theorem AgLe.new (n : Nat) (a b : Int) : AgLe (agSay (agSay (agNew n) a) b) 0 := by
  intro k hk
  unfold agGet
  rw [agSay_mem, agSay_mem]
  unfold agNew
  dsimp only
  rw [List.getD_eq_getElem?_getD, Int.toNat_natCast]
  rw [agSay_mem, agSay_mem] at hk
  have hk' : k < (List.replicate n (⟨0, [], [], []⟩ : AgM)).length := hk
  rw [List.getElem?_eq_getElem hk']
  simp
theorem errA1 : errV 1 = .iface 117 (.int .i64 1) := rfl
theorem errA7 : errV 7 = .iface 117 (.int .i64 7) := rfl
theorem wordNo {x : Int} (h : isWord x = false) : x < 1 ∨ (¬ x < 1 ∧ 30 < x) := by simp [isWord] at h; omega
theorem wordYes {x : Int} (h : isWord x = true) : ¬ x < 1 ∧ ¬ 30 < x := by simp [isWord] at h; omega
theorem AgN.fit {n : Nat} {g : Ag} (h : AgN n g) : ∀ k : Nat, k < g.mem.length → (agGet g k).heard.length ≤ 1000 ∧ ∀ x ∈ (agGet g k).heard, I64 x := fun k hk => by
  rw [h.len] at hk
  obtain ⟨h1, h2⟩ := h.heard_small hk
  exact ⟨by omega, fun x hx => isWord_I64 (h2 x hx)⟩
theorem agHeard_at {n : Nat} {g : Ag} (h : AgN n g) {k : Nat} (hk : k < n) : agHeardErr g k = 0 ∧ agHeard g k = (agGet g k).heard := by
  have e : inR (k : Int) g.mem.length = true := by unfold inR; rw [h.len]; simp; omega
  unfold agHeardErr agHeard
  rw [e]
  exact ⟨rfl, rfl⟩
set_option maxRecDepth 100000 in
set_option maxHeartbeats 4000000 in
theorem agreeTwo_none (w : World) (n : Int) (hg : isGroup n = false) (a b : Int) :
    Calls Try.prog 8 #[.int .i64 n, .int .i64 a, .int .i64 b] w fun e w' => e = .returned (.bool true) ∧ Below w.heap.size w w' := by
  have HW0 := Lib.hid (Own.start w)
  have HG := Lib.hid hg
  clear hg
  go_enter Try.func8, Try.ntmps8
  go_wp2_with fail
  refine (agNew_no n w HG.out).mono ?_
  rintro e w1 ⟨rfl, rfl⟩
  rw [errA1]
  go_wp2_with fail
  go_ret
  exact ⟨rfl, HW0.out.below⟩
set_option maxRecDepth 100000 in
set_option maxHeartbeats 4000000 in
theorem agreeTwo_badA (w : World) (N : Nat) (hg : isGroup N = true) (a b : Int) (hwa : isWord a = false) :
    Calls Try.prog 8 #[.int .i64 N, .int .i64 a, .int .i64 b] w fun e w' => e = .returned (.bool true) ∧ Below w.heap.size w w' := by
  have HW0 := Lib.hid (Own.start w)
  have hE : agSayErr (agNew N) a = 1 := by unfold agSayErr; rw [if_pos hwa]
  rcases wordNo hwa with h1 | ⟨h1, h2⟩
  · have t1 : decide (a < 1) = true := decide_eq_true h1
    have HG := Lib.hid hg; have HWA := Lib.hid hwa; have HE := Lib.hid hE
    clear hg hwa hE
    go_enter Try.func8, Try.ntmps8
    go_wp2_with fail
    refine (agNew_yes N HG.out HW0.out).mono ?_
    rintro e w1 ⟨p, rfl, ho⟩
    have HO1 := Lib.hid ho
    clear ho
    rw [errV0]
    go_wp2_with fail
    refine (agSay_any p _ a HO1.out).mono ?_
    rintro e w2 ⟨rfl, ho⟩
    have HO2 := Lib.hid ho
    clear ho
    rw [HE.out, errA1]
    go_wp2_with fail
    go_ret
    exact ⟨rfl, HO2.out.below⟩
  · have t1 : decide (a < 1) = false := decide_eq_false h1
    have t2 : decide (30 < a) = true := decide_eq_true h2
    have HG := Lib.hid hg; have HWA := Lib.hid hwa; have HE := Lib.hid hE
    clear hg hwa hE
    go_enter Try.func8, Try.ntmps8
    go_wp2_with fail
    refine (agNew_yes N HG.out HW0.out).mono ?_
    rintro e w1 ⟨p, rfl, ho⟩
    have HO1 := Lib.hid ho
    clear ho
    rw [errV0]
    go_wp2_with fail
    refine (agSay_any p _ a HO1.out).mono ?_
    rintro e w2 ⟨rfl, ho⟩
    have HO2 := Lib.hid ho
    clear ho
    rw [HE.out, errA1]
    go_wp2_with fail
    go_ret
    exact ⟨rfl, HO2.out.below⟩
set_option maxRecDepth 100000 in
set_option maxHeartbeats 4000000 in
theorem agreeTwo_badB (w : World) (N : Nat) (hg : isGroup N = true) (a b : Int) (hwa : isWord a = true) (hwb : isWord b = false) :
    Calls Try.prog 8 #[.int .i64 N, .int .i64 a, .int .i64 b] w fun e w' => e = .returned (.bool true) ∧ Below w.heap.size w w' := by
  have HW0 := Lib.hid (Own.start w)
  obtain ⟨ya1, ya2⟩ := wordYes hwa
  have t1 : decide (a < 1) = false := decide_eq_false ya1
  have t2 : decide (30 < a) = false := decide_eq_false ya2
  have hE1 : agSayErr (agNew N) a = 0 := agSayErr_ok hwa (agNew_said N a)
  have hE : agSayErr (agSay (agNew N) a) b = 1 := by unfold agSayErr; rw [if_pos hwb]
  rcases wordNo hwb with h1 | ⟨h1, h2⟩
  · have t3 : decide (b < 1) = true := decide_eq_true h1
    have HG := Lib.hid hg; have HWA := Lib.hid hwa; have HE := Lib.hid hE; have HWB := Lib.hid hwb; have HE1 := Lib.hid hE1
    clear hg hwa hE hwb hE1
    go_enter Try.func8, Try.ntmps8
    go_wp2_with fail
    refine (agNew_yes N HG.out HW0.out).mono ?_
    rintro e w1 ⟨p, rfl, ho⟩
    have HO1 := Lib.hid ho
    clear ho
    rw [errV0]
    go_wp2_with fail
    refine (agSay_any p _ a HO1.out).mono ?_
    rintro e w2 ⟨rfl, ho⟩
    have HO2 := Lib.hid ho
    clear ho
    rw [HE1.out, errV0]
    go_wp2_with fail
    refine (agSay_any p _ b HO2.out).mono ?_
    rintro e w3 ⟨rfl, ho⟩
    have HO3 := Lib.hid ho
    clear ho
    rw [HE.out, errA1]
    go_wp2_with fail
    go_ret
    exact ⟨rfl, HO3.out.below⟩
  · have t3 : decide (b < 1) = false := decide_eq_false h1
    have t4 : decide (30 < b) = true := decide_eq_true h2
    have HG := Lib.hid hg; have HWA := Lib.hid hwa; have HE := Lib.hid hE; have HWB := Lib.hid hwb; have HE1 := Lib.hid hE1
    clear hg hwa hE hwb hE1
    go_enter Try.func8, Try.ntmps8
    go_wp2_with fail
    refine (agNew_yes N HG.out HW0.out).mono ?_
    rintro e w1 ⟨p, rfl, ho⟩
    have HO1 := Lib.hid ho
    clear ho
    rw [errV0]
    go_wp2_with fail
    refine (agSay_any p _ a HO1.out).mono ?_
    rintro e w2 ⟨rfl, ho⟩
    have HO2 := Lib.hid ho
    clear ho
    rw [HE1.out, errV0]
    go_wp2_with fail
    refine (agSay_any p _ b HO2.out).mono ?_
    rintro e w3 ⟨rfl, ho⟩
    have HO3 := Lib.hid ho
    clear ho
    rw [HE.out, errA1]
    go_wp2_with fail
    go_ret
    exact ⟨rfl, HO3.out.below⟩
set_option maxRecDepth 100000 in
set_option maxHeartbeats 4000000 in
theorem agreeTwo_same (w : World) (N : Nat) (hg : isGroup N = true) (a b : Int) (hwa : isWord a = true) (hwb : isWord b = true) (hab : a = b) :
    Calls Try.prog 8 #[.int .i64 N, .int .i64 a, .int .i64 b] w fun e w' => e = .returned (.bool true) ∧ Below w.heap.size w w' := by
  have HW0 := Lib.hid (Own.start w)
  obtain ⟨ya1, ya2⟩ := wordYes hwa
  have t1 : decide (a < 1) = false := decide_eq_false ya1
  have t2 : decide (30 < a) = false := decide_eq_false ya2
  have hE1 : agSayErr (agNew N) a = 0 := agSayErr_ok hwa (agNew_said N a)
  obtain ⟨yb1, yb2⟩ := wordYes hwb
  have t3 : decide (b < 1) = false := decide_eq_false yb1
  have t4 : decide (30 < b) = false := decide_eq_false yb2
  have t5 : (a == b) = true := by rw [hab]; simp
  have hE : agSayErr (agSay (agNew N) a) b = 7 := by
    unfold agSayErr
    rw [if_neg (by rw [hwb]; simp), if_pos]
    show agSaid _ b = true
    rw [agSay_said hE1, hab]; simp
  have HG := Lib.hid hg; have HWA := Lib.hid hwa; have HE := Lib.hid hE; have HWB := Lib.hid hwb; have HE1 := Lib.hid hE1; have HAB := Lib.hid hab
  clear hg hwa hE hwb hE1 hab
  go_enter Try.func8, Try.ntmps8
  go_wp2_with fail
  refine (agNew_yes N HG.out HW0.out).mono ?_
  rintro e w1 ⟨p, rfl, ho⟩
  have HO1 := Lib.hid ho
  clear ho
  rw [errV0]
  go_wp2_with fail
  refine (agSay_any p _ a HO1.out).mono ?_
  rintro e w2 ⟨rfl, ho⟩
  have HO2 := Lib.hid ho
  clear ho
  rw [HE1.out, errV0]
  go_wp2_with fail
  refine (agSay_any p _ b HO2.out).mono ?_
  rintro e w3 ⟨rfl, ho⟩
  have HO3 := Lib.hid ho
  clear ho
  rw [HE.out, errA7]
  go_wp2_with fail
  go_ret
  exact ⟨rfl, HO3.out.below⟩
end Go.Proofs.Ytkgnjkokbiefgaa
