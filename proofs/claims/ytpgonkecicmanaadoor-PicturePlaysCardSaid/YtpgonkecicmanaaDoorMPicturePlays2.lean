/- A picture of members, plainly: no gold is lost. -/
import Derived.Test.YtpgonkecicmanaaDoorMPicturePlays1
namespace Go.Proofs.YtpgonkecicmanaaDoor
set_option linter.unusedVariables false
set_option linter.unusedSimpArgs false
open Go.RowKit Go.Maps
/-- What stands ahead of the first mark; 0, where there is none. -/
def ahead (l : List Int) : Int := if 0 ∈ l then (l.takeWhile fun x => decide (x ≠ 0)).sum else 0
theorem ahead_no {l : List Int} (h : 0 ∉ l) : ahead l = 0 := by unfold ahead; rw [if_neg h]
theorem ahead_mark (r : List Int) : ahead (0 :: r) = 0 := by unfold ahead; simp
theorem ahead_cons {n : Int} (r : List Int) (hn : n ≠ 0) (h : 0 ∈ r) : ahead (n :: r) = n + ahead r := by
  unfold ahead
  rw [if_pos h, if_pos (by simp [h]), List.takeWhile_cons, if_pos (by simpa using hn), List.sum_cons]
theorem takeWhile_all {l : List Int} (h : 0 ∉ l) : (l.takeWhile fun x => decide (x ≠ 0)) = l := by
  induction l with
  | nil => rfl
  | cons x r ih =>
    have hx : x ≠ 0 := fun e => h (by simp [e])
    rw [List.takeWhile_cons, if_pos (by simpa using hx), ih (fun e => h (by simp [e]))]
theorem ahead_snoc0 {l : List Int} (h : 0 ∉ l) : ahead (l ++ [0]) = l.sum := by
  unfold ahead
  rw [if_pos (by simp)]
  congr 1
  induction l with
  | nil => rfl
  | cons x r ih =>
    have hx : x ≠ 0 := fun e => h (by simp [e])
    rw [List.cons_append, List.takeWhile_cons, if_pos (by simpa using hx), ih (fun e => h (by simp [e]))]
theorem ahead_snoc {l : List Int} {n : Int} (hn : n ≠ 0) : ahead (l ++ [n]) = ahead l := by
  by_cases h : 0 ∈ l
  · unfold ahead
    rw [if_pos h, if_pos (by simp [h])]
    congr 1
    induction l with
    | nil => cases h
    | cons x r ih =>
      rw [List.cons_append, List.takeWhile_cons, List.takeWhile_cons]
      by_cases hx : x = 0
      · subst hx; simp
      · rw [if_pos (by simpa using hx), if_pos (by simpa using hx), ih (by rcases List.mem_cons.1 h with e | e; exact absurd e.symm hx; exact e)]
  · rw [ahead_no h, ahead_no (by simp [h]; exact fun e => hn e.symm)]
theorem ahead_pos {l : List Int} (h : ∀ y ∈ l, 0 ≤ y) : 0 ≤ ahead l := by
  unfold ahead
  split
  · have : ∀ (m : List Int), (∀ y ∈ m, 0 ≤ y) → 0 ≤ m.sum := by
      intro m
      induction m with
      | nil => intro _; simp
      | cons x r ih => intro h; rw [List.sum_cons]; have := h x (by simp); have := ih (fun y hy => h y (by simp [hy])); omega
    exact this _ fun y hy => h y ((List.takeWhile_sublist _).mem hy)
  · omega
theorem sum_pos0 : ∀ {m : List Int}, (∀ y ∈ m, 0 ≤ y) → 0 ≤ m.sum
  | [], _ => by simp
  | x :: r, h => by rw [List.sum_cons]; have := h x (by simp); have := sum_pos0 (m := r) (fun y hy => h y (by simp [hy])); omega
def pvG (v : PV) (m : Int) : Int := match v.W m with | some x => x | none => v.g m
def pvC (v : PV) (a b : Int) : Int := match v.W a with | some _ => ahead (v.row a b) | none => (v.row a b).sum
def pvK (v : PV) (a b : Int) : Int := pvC v a b + (v.O a b).getD 0
def rmax : Option Int → Nat
  | none => 40
  | some _ => 41
theorem rmax_ge (o : Option Int) : 40 ≤ rmax o ∧ rmax o ≤ 41 := by cases o <;> simp [rmax]
structure PInv (all : Int) (v : PV) : Prop where
  n5 : 2 ≤ v.n ∧ v.n ≤ 5
  g0 : ∀ m, 0 ≤ v.g m
  row0 : ∀ a b, ∀ y ∈ v.row a b, 0 ≤ y ∧ y ≤ 1000
  rlen : ∀ a b, (v.row a b).length ≤ rmax (v.W a)
  rIn : ∀ a b, ¬ v.way a b → v.row a b = []
  W0 : ∀ m x, v.W m = some x → v.mem m ∧ 0 ≤ x
  O0 : ∀ a b x, v.O a b = some x → v.way a b ∧ 0 ≤ x ∧ (v.W b).isSome = true
  mark0 : ∀ a b, v.W a = none → 0 ∉ v.row a b
  mark1 : ∀ a b, (v.row a b).count 0 ≤ 1
  mark2 : ∀ a b, v.way a b → (v.W a).isSome = true → v.W b = none → 0 ∈ v.row a b
  opn : ∀ a b, v.way a b → (v.W b).isSome = true → ((v.O a b).isSome = true ↔ (v.W a = none ∨ 0 ∈ v.row a b))
  on0 : 0 ≤ v.on
  beg : v.begun = true ↔ ∃ m, (v.W m).isSome = true
  tot : sumU v.n v.g + sumUU v.n (fun a b => (v.row a b).sum) = all
  snap : sumU v.n (pvG v) + sumUU v.n (pvK v) + v.on = all
section
variable {all : Int} {v : PV}
theorem PInv.pay (h : PInv all v) {a b n : Int} (hw : v.way a b) (hn : 1 ≤ n ∧ n ≤ 1000) (hg : n ≤ v.g a) (hl : (v.row a b).length < 40) : PInv all (pvPay v a b n) := by
  have hab : a ≠ b := hw.2.2
  constructor
  · exact h.n5
  · intro m; show 0 ≤ if m = a then v.g a - n else v.g m
    split
    · omega
    · exact h.g0 m
  · intro x y z hz
    simp only [pvPay] at hz
    split at hz
    · rcases List.mem_append.1 hz with hz | hz
      · exact h.row0 a b z hz
      · simp at hz; omega
    · exact h.row0 x y z hz
  · intro x y
    show (if x = a ∧ y = b then v.row a b ++ [n] else v.row x y).length ≤ rmax (v.W x)
    by_cases he : x = a ∧ y = b
    · rw [if_pos he, List.length_append, List.length_singleton]; have := (rmax_ge (v.W x)).1; omega
    · rw [if_neg he]; exact h.rlen x y
  · intro x y hxy
    simp only [pvPay]
    split
    · rename_i he; rw [he.1, he.2] at hxy; exact absurd hw hxy
    · exact h.rIn x y hxy
  · exact h.W0
  · exact h.O0
  · intro x y hx
    simp only [pvPay]
    split
    · rename_i he
      have := h.mark0 a b (by rw [← he.1]; exact hx)
      simp [this]; omega
    · exact h.mark0 x y hx
  · intro x y
    simp only [pvPay]
    split
    · have := h.mark1 a b
      rw [List.count_append, List.count_singleton, if_neg (by simp; omega)]; omega
    · exact h.mark1 x y
  · intro x y h1 h2 h3
    simp only [pvPay]
    split
    · rename_i he
      obtain ⟨rfl, rfl⟩ := he
      exact List.mem_append_left _ (h.mark2 x y hw h2 h3)
    · exact h.mark2 x y h1 h2 h3
  · intro x y h1 h2
    have := h.opn x y h1 h2
    rw [show (pvPay v a b n).O x y = v.O x y from rfl, this]
    show _ ↔ (v.W x = none ∨ 0 ∈ if x = a ∧ y = b then v.row a b ++ [n] else v.row x y)
    split
    · rename_i he
      rw [he.1, he.2]
      have : (0 : Int) ≠ n := by omega
      simp [this]
    · exact Iff.rfl
  · exact h.on0
  · exact h.beg
  · have h1 := sumU_turn v.n (f := (pvPay v a b n).g) (g := v.g) a hw.1 (fun m _ hne => by simp only [pvPay]; rw [if_neg hne])
    have h2 : sumUU v.n (fun x y => ((pvPay v a b n).row x y).sum) = sumUU v.n (fun x y => (v.row x y).sum) + (((pvPay v a b n).row a b).sum - (v.row a b).sum) := sumUU_turn v.n (f := fun x y => ((pvPay v a b n).row x y).sum) (g := fun x y => (v.row x y).sum) a b hw.1 hw.2.1 (fun x y hne => by simp only [pvPay]; rw [if_neg hne])
    have h3 := h.tot
    rw [show (pvPay v a b n).g a = v.g a - n from if_pos rfl] at h1
    rw [show (pvPay v a b n).row a b = v.row a b ++ [n] from if_pos ⟨rfl, rfl⟩, List.sum_append, List.sum_cons, List.sum_nil] at h2
    show sumU v.n (pvPay v a b n).g + sumUU v.n (fun x y => ((pvPay v a b n).row x y).sum) = all
    omega
  · have h1 := sumU_turn v.n (f := pvG (pvPay v a b n)) (g := pvG v) a hw.1 (fun m _ hne => by simp only [pvG, pvPay]; rw [if_neg hne])
    have h2 := sumUU_turn v.n (f := pvK (pvPay v a b n)) (g := pvK v) a b hw.1 hw.2.1 (fun x y hne => by simp only [pvK, pvC, pvPay]; rw [if_neg hne])
    have h3 := h.snap
    have h4 : pvG (pvPay v a b n) a - pvG v a + (pvK (pvPay v a b n) a b - pvK v a b) = 0 := by
      have e1 : (pvPay v a b n).g a = v.g a - n := if_pos rfl
      have e2 : (pvPay v a b n).row a b = v.row a b ++ [n] := if_pos ⟨rfl, rfl⟩
      have e3 : (pvPay v a b n).W = v.W := rfl
      have e4 : (pvPay v a b n).O = v.O := rfl
      unfold pvK pvC pvG
      rw [e1, e2, e3, e4]
      cases hW : v.W a with
      | none => simp only [List.sum_append, List.sum_cons, List.sum_nil]; omega
      | some x => simp only; rw [ahead_snoc (by omega)]; omega
    show sumU v.n (pvG (pvPay v a b n)) + sumUU v.n (pvK (pvPay v a b n)) + v.on = all
    omega
theorem PInv.write (h : PInv all v) {who : Int} (hm : v.mem who) (hW : v.W who = none) : PInv all (pvWrite v who) := by
  have hO : ∀ x, v.O x who = none := fun x => by
    cases hx : v.O x who with
    | none => rfl
    | some y => have := (h.O0 x who y hx).2.2; rw [hW] at this; cases this
  constructor
  · exact h.n5
  · exact h.g0
  · intro x y z hz
    simp only [pvWrite] at hz
    split at hz
    · rcases List.mem_append.1 hz with hz | hz
      · exact h.row0 x y z hz
      · simp at hz; omega
    · exact h.row0 x y z hz
  · intro x y
    show (if x = who ∧ v.way x y then v.row x y ++ [0] else v.row x y).length ≤ rmax (if x = who then some (v.g who) else v.W x)
    by_cases hx : x = who
    · subst hx
      have := h.rlen x y
      rw [hW] at this
      rw [if_pos rfl]
      simp only [rmax] at this ⊢
      split
      · rw [List.length_append, List.length_singleton]; omega
      · omega
    · rw [if_neg hx, if_neg (fun e => hx e.1)]; exact h.rlen x y
  · intro x y hxy
    have hxy' : ¬ v.way x y := hxy
    simp only [pvWrite]
    rw [if_neg (fun e => hxy' e.2)]
    exact h.rIn x y hxy'
  · intro m x hx
    simp only [pvWrite] at hx
    split at hx
    · rename_i he; cases hx; subst he; exact ⟨hm, h.g0 _⟩
    · exact h.W0 m x hx
  · intro x y z hz
    simp only [pvWrite] at hz ⊢
    split at hz
    · rename_i he; cases hz; refine ⟨he.2, by omega, ?_⟩; rw [if_pos he.1]; rfl
    · have := h.O0 x y z hz
      refine ⟨this.1, this.2.1, ?_⟩
      split
      · rfl
      · exact this.2.2
  · intro x y hx
    simp only [pvWrite] at hx ⊢
    split at hx
    · cases hx
    · rename_i he; rw [if_neg (fun e => he e.1)]; exact h.mark0 x y hx
  · intro x y
    simp only [pvWrite]
    split
    · rename_i he
      have h0 := h.mark0 x y (by rw [he.1]; exact hW)
      rw [List.count_append, List.count_eq_zero.2 h0]; simp
    · exact h.mark1 x y
  · intro x y h1 h2 h3
    have h1' : v.way x y := h1
    simp only [pvWrite] at h2 h3 ⊢
    by_cases hx : x = who
    · rw [if_pos ⟨hx, h1'⟩]; simp
    · rw [if_neg (fun e => hx e.1)]
      rw [if_neg hx] at h2
      split at h3
      · cases h3
      · exact h.mark2 x y h1' h2 h3
  · intro x y h1 h2
    have h1' : v.way x y := h1
    have hne := h1'.2.2
    simp only [pvWrite] at h2 ⊢
    by_cases hy : y = who
    · subst hy
      rw [if_pos ⟨rfl, h1'⟩, if_neg hne, if_neg (fun e => hne e.1)]
      simp only [Option.isSome_some, true_iff]
      cases hx : v.W x with
      | none => left; rfl
      | some z => right; exact h.mark2 x y h1' (by rw [hx]; rfl) hW
    · rw [if_neg (fun e => hy e.1)]
      rw [if_neg hy] at h2
      have := h.opn x y h1' h2
      rw [this]
      by_cases hx : x = who
      · subst hx
        rw [if_pos rfl, if_pos ⟨rfl, h1'⟩, hW]; simp
      · rw [if_neg hx, if_neg (fun e => hx e.1)]
  · exact h.on0
  · simp only [pvWrite, true_iff]
    exact ⟨who, by rw [if_pos rfl]; rfl⟩
  · have h1 := h.tot
    show sumU v.n v.g + sumUU v.n (fun x y => (if x = who ∧ v.way x y then v.row x y ++ [0] else v.row x y).sum) = all
    rw [sumUU_same v.n (f := fun x y => (if x = who ∧ v.way x y then v.row x y ++ [0] else v.row x y).sum) (g := fun x y => (v.row x y).sum) (fun x y => by split <;> simp)]
    exact h1
  · have h1 := h.snap
    have hG : sumU v.n (pvG (pvWrite v who)) = sumU v.n (pvG v) := sumU_same v.n fun m _ => by
      simp only [pvG, pvWrite]
      by_cases hmw : m = who
      · subst hmw; rw [if_pos rfl, hW]
      · rw [if_neg hmw]
    have hK : sumUU v.n (pvK (pvWrite v who)) = sumUU v.n (pvK v) := sumUU_same v.n fun x y => by
      simp only [pvK, pvC, pvWrite]
      have e1 : (if y = who ∧ v.way x y then some (0 : Int) else v.O x y).getD 0 = (v.O x y).getD 0 := by
        split
        · rename_i he; rw [he.1, hO x]; rfl
        · rfl
      rw [e1]
      by_cases hx : x = who
      · subst hx
        rw [if_pos rfl, hW]
        by_cases hxy : v.way x y
        · rw [if_pos ⟨rfl, hxy⟩, ahead_snoc0 (h.mark0 x y hW)]
        · rw [if_neg (fun e => hxy e.2), h.rIn x y hxy]; rfl
      · rw [if_neg hx, if_neg (fun e => hx e.1)]
    show sumU v.n (pvG (pvWrite v who)) + sumUU v.n (pvK (pvWrite v who)) + v.on = all
    rw [hG, hK]; exact h1
theorem PInv.mark (h : PInv all v) {a b : Int} {r : List Int} (hr : v.row a b = 0 :: r) (hb : (v.W b).isSome = true) : PInv all (pvMark v a b) := by
  have hw : v.way a b := by
    by_cases hw : v.way a b
    · exact hw
    · have := h.rIn a b hw; rw [hr] at this; cases this
  have ha : (v.W a).isSome = true := by
    cases hx : v.W a with
    | none => have := h.mark0 a b hx; rw [hr] at this; simp at this
    | some z => rfl
  have h0r : 0 ∉ r := by
    have := h.mark1 a b
    rw [hr, List.count_cons_self] at this
    exact List.count_eq_zero.1 (by omega)
  have hO : (v.O a b).isSome = true := (h.opn a b hw hb).2 (.inr (by rw [hr]; simp))
  have ht : (v.row a b).tail = r := by rw [hr]; rfl
  constructor
  · exact h.n5
  · exact h.g0
  · intro x y z hz
    simp only [pvMark] at hz
    split at hz
    · exact h.row0 a b z (List.mem_of_mem_tail hz)
    · exact h.row0 x y z hz
  · intro x y
    show (if x = a ∧ y = b then (v.row a b).tail else v.row x y).length ≤ rmax (v.W x)
    split
    · rename_i he
      have := h.rlen a b
      rw [he.1, List.length_tail]; omega
    · exact h.rlen x y
  · intro x y hxy
    simp only [pvMark]
    rw [if_neg (fun e => by rw [e.1, e.2] at hxy; exact hxy hw)]
    exact h.rIn x y hxy
  · exact h.W0
  · intro x y z hz
    simp only [pvMark] at hz ⊢
    split at hz
    · cases hz
    · exact h.O0 x y z hz
  · intro x y hx
    simp only [pvMark]
    split
    · rw [ht]; exact h0r
    · exact h.mark0 x y hx
  · intro x y
    simp only [pvMark]
    split
    · rw [ht, List.count_eq_zero.2 h0r]; omega
    · exact h.mark1 x y
  · intro x y h1 h2 h3
    simp only [pvMark] at h2 h3 ⊢
    rw [if_neg (fun e => by rw [e.2] at h3; rw [h3] at hb; cases hb)]
    exact h.mark2 x y h1 h2 h3
  · intro x y h1 h2
    simp only [pvMark] at h2 ⊢
    by_cases he : x = a ∧ y = b
    · rw [if_pos he, if_pos he, ht, he.1]
      simp [h0r]
      cases hx : v.W a with
      | none => rw [hx] at ha; cases ha
      | some z => simp
    · rw [if_neg he, if_neg he]; exact h.opn x y h1 h2
  · show 0 ≤ v.on + (v.O a b).getD 0
    have := h.on0
    cases hx : v.O a b with
    | none => simp; exact this
    | some z => have := (h.O0 a b z hx).2.1; simp; omega
  · exact h.beg
  · have h1 : sumUU v.n (fun x y => ((pvMark v a b).row x y).sum) = sumUU v.n (fun x y => (v.row x y).sum) + (((pvMark v a b).row a b).sum - (v.row a b).sum) := sumUU_turn v.n (f := fun x y => ((pvMark v a b).row x y).sum) (g := fun x y => (v.row x y).sum) a b hw.1 hw.2.1 (fun x y hne => by simp only [pvMark]; rw [if_neg hne])
    have h3 := h.tot
    rw [show (pvMark v a b).row a b = (v.row a b).tail from if_pos ⟨rfl, rfl⟩, hr, List.tail_cons, List.sum_cons] at h1
    show sumU v.n v.g + sumUU v.n (fun x y => ((pvMark v a b).row x y).sum) = all
    omega
  · have h2 := sumUU_turn v.n (f := pvK (pvMark v a b)) (g := pvK v) a b hw.1 hw.2.1 (fun x y hne => by simp only [pvK, pvC, pvMark]; rw [if_neg hne, if_neg hne])
    have h3 := h.snap
    have h4 : pvK (pvMark v a b) a b - pvK v a b + (v.O a b).getD 0 = 0 := by
      simp only [pvK, pvC, pvMark, if_true, and_self]
      cases hx : v.W a with
      | none => rw [hx] at ha; cases ha
      | some z => simp only [hr, List.tail_cons]; rw [ahead_mark, ahead_no h0r]; simp; omega
    show sumU v.n (pvG v) + sumUU v.n (pvK (pvMark v a b)) + (v.on + (v.O a b).getD 0) = all
    omega
theorem PInv.get (h : PInv all v) {a b n : Int} {r : List Int} (hr : v.row a b = n :: r) (hn : n ≠ 0) : PInv all (pvGet v a b n) := by
  have hw : v.way a b := by
    by_cases hw : v.way a b
    · exact hw
    · have := h.rIn a b hw; rw [hr] at this; cases this
  have hn0 : 0 ≤ n := (h.row0 a b n (by rw [hr]; simp)).1
  have ht : (v.row a b).tail = r := by rw [hr]; rfl
  have h0 : 0 ∈ v.row a b ↔ 0 ∈ r := by rw [hr]; simp; exact fun e => absurd e.symm hn
  have hc : r.count 0 = (v.row a b).count 0 := by rw [hr, List.count_cons_of_ne (by exact hn)]
  constructor
  · exact h.n5
  · intro m; show 0 ≤ if m = b then v.g b + n else v.g m
    split
    · have := h.g0 b; omega
    · exact h.g0 m
  · intro x y z hz
    simp only [pvGet] at hz
    split at hz
    · exact h.row0 a b z (List.mem_of_mem_tail hz)
    · exact h.row0 x y z hz
  · intro x y
    show (if x = a ∧ y = b then (v.row a b).tail else v.row x y).length ≤ rmax (v.W x)
    split
    · rename_i he
      have := h.rlen a b
      rw [he.1, List.length_tail]; omega
    · exact h.rlen x y
  · intro x y hxy
    simp only [pvGet]
    rw [if_neg (fun e => by rw [e.1, e.2] at hxy; exact hxy hw)]
    exact h.rIn x y hxy
  · exact h.W0
  · intro x y z hz
    simp only [pvGet] at hz ⊢
    split at hz
    · rename_i he
      cases hx : v.O a b with
      | none => rw [hx] at hz; cases hz
      | some u =>
        rw [hx] at hz
        simp at hz
        have := h.O0 a b u hx
        rw [he.1, he.2]
        exact ⟨this.1, by omega, this.2.2⟩
    · exact h.O0 x y z hz
  · intro x y hx
    simp only [pvGet]
    split
    · rename_i he
      rw [ht, ← h0]
      exact h.mark0 a b (by rw [← he.1]; exact hx)
    · exact h.mark0 x y hx
  · intro x y
    simp only [pvGet]
    split
    · rw [ht, hc]; exact h.mark1 a b
    · exact h.mark1 x y
  · intro x y h1 h2 h3
    simp only [pvGet] at h2 h3 ⊢
    split
    · rename_i he
      rw [ht, ← h0]
      rw [he.1] at h2
      rw [he.2] at h3
      exact h.mark2 a b hw h2 h3
    · exact h.mark2 x y h1 h2 h3
  · intro x y h1 h2
    simp only [pvGet] at h2 ⊢
    by_cases he : x = a ∧ y = b
    · rw [if_pos he, if_pos he, ht, ← h0, he.1]
      rw [he.2] at h2
      rw [← h.opn a b hw h2]
      simp
    · rw [if_neg he, if_neg he]; exact h.opn x y h1 h2
  · exact h.on0
  · exact h.beg
  · have h1 := sumU_turn v.n (f := (pvGet v a b n).g) (g := v.g) b hw.2.1 (fun m _ hne => by simp only [pvGet]; rw [if_neg hne])
    have h2 : sumUU v.n (fun x y => ((pvGet v a b n).row x y).sum) = sumUU v.n (fun x y => (v.row x y).sum) + (((pvGet v a b n).row a b).sum - (v.row a b).sum) := sumUU_turn v.n (f := fun x y => ((pvGet v a b n).row x y).sum) (g := fun x y => (v.row x y).sum) a b hw.1 hw.2.1 (fun x y hne => by simp only [pvGet]; rw [if_neg hne])
    have h3 := h.tot
    rw [show (pvGet v a b n).g b = v.g b + n from if_pos rfl] at h1
    rw [show (pvGet v a b n).row a b = (v.row a b).tail from if_pos ⟨rfl, rfl⟩, hr, List.tail_cons, List.sum_cons] at h2
    show sumU v.n (pvGet v a b n).g + sumUU v.n (fun x y => ((pvGet v a b n).row x y).sum) = all
    omega
  · have h1 := sumU_turn v.n (f := pvG (pvGet v a b n)) (g := pvG v) b hw.2.1 (fun m _ hne => by simp only [pvG, pvGet]; rw [if_neg hne])
    have h2 := sumUU_turn v.n (f := pvK (pvGet v a b n)) (g := pvK v) a b hw.1 hw.2.1 (fun x y hne => by simp only [pvK, pvC, pvGet]; rw [if_neg hne, if_neg hne])
    have h3 := h.snap
    have h4 : pvG (pvGet v a b n) b - pvG v b + (pvK (pvGet v a b n) a b - pvK v a b) = 0 := by
      simp only [pvG, pvK, pvC, pvGet, if_true, and_self, ht]
      cases hb : v.W b with
      | none =>
        have hO : v.O a b = none := by
          cases hx : v.O a b with
          | none => rfl
          | some u => have := (h.O0 a b u hx).2.2; rw [hb] at this; cases this
        rw [hO]
        cases ha : v.W a with
        | none => simp only [hr, List.sum_cons]; simp; omega
        | some z =>
          have hm := h.mark2 a b hw (by rw [ha]; rfl) hb
          have hmr := h0.1 hm
          simp only [hr]; rw [ahead_cons r hn hmr]; simp; omega
      | some u =>
        have ho := h.opn a b hw (by rw [hb]; rfl)
        cases ha : v.W a with
        | none =>
          have hs := ho.2 (.inl ha)
          cases hx : v.O a b with
          | none => rw [hx] at hs; cases hs
          | some z => simp only [hr, List.sum_cons]; simp; omega
        | some z =>
          by_cases hm : 0 ∈ v.row a b
          · have hs := ho.2 (.inr hm)
            have hmr := h0.1 hm
            cases hx : v.O a b with
            | none => rw [hx] at hs; cases hs
            | some z => simp only [hr]; rw [ahead_cons r hn hmr]; simp; omega
          · have hmr : 0 ∉ r := fun e => hm (h0.2 e)
            cases hx : v.O a b with
            | none => simp only; rw [ahead_no hm, ahead_no hmr]; simp
            | some z =>
              have := ho.1 (by rw [hx]; rfl)
              rcases this with e | e
              · rw [ha] at e; cases e
              · exact absurd e hm
    show sumU v.n (pvG (pvGet v a b n)) + sumUU v.n (pvK (pvGet v a b n)) + v.on = all
    omega
theorem PInv.K0 (h : PInv all v) (a b : Int) : 0 ≤ pvK v a b := by
  unfold pvK pvC
  have hO : 0 ≤ (v.O a b).getD 0 := by
    cases hx : v.O a b with
    | none => simp
    | some z => exact (h.O0 a b z hx).2.1
  cases hx : v.W a with
  | none => have := sum_pos0 (m := v.row a b) (fun y hy => (h.row0 a b y hy).1); simp only; omega
  | some z => have := ahead_pos (l := v.row a b) (fun y hy => (h.row0 a b y hy).1); simp only; omega
theorem PInv.G0 (h : PInv all v) (m : Int) : 0 ≤ pvG v m := by
  unfold pvG
  cases hx : v.W m with
  | none => exact h.g0 m
  | some z => exact (h.W0 m z hx).2
theorem PInv.g_le (h : PInv all v) (m : Int) (hm : v.mem m) : v.g m ≤ all := by
  have h1 := sumU_ge v.n (f := v.g) m hm (fun m _ => h.g0 m)
  have h2 := sumUU_pos v.n (f := fun a b => (v.row a b).sum) (fun a b => sum_pos0 fun y hy => (h.row0 a b y hy).1)
  have h3 := h.tot
  omega
theorem PInv.W_le (h : PInv all v) (m x : Int) (hx : v.W m = some x) : x ≤ all := by
  have h1 := sumU_ge v.n (f := pvG v) m (h.W0 m x hx).1 (fun m _ => h.G0 m)
  have h2 := sumUU_pos v.n (f := pvK v) h.K0
  have h3 := h.snap
  have h4 := h.on0
  have h5 : pvG v m = x := by unfold pvG; rw [hx]
  omega
theorem PInv.O_le (h : PInv all v) (a b x : Int) (hx : v.O a b = some x) : x + v.on ≤ all := by
  have hw := (h.O0 a b x hx).1
  have h1 := sumU_pos v.n (f := pvG v) (fun m _ => h.G0 m)
  have h2 := sumUU_ge v.n (f := pvK v) a b hw.1 hw.2.1 h.K0
  have h3 := h.snap
  have h5 : pvK v a b = pvC v a b + x := by unfold pvK; rw [hx]; rfl
  have h6 : 0 ≤ pvC v a b := by
    unfold pvC
    cases hx : v.W a with
    | none => exact sum_pos0 (m := v.row a b) (fun y hy => (h.row0 a b y hy).1)
    | some z => exact ahead_pos (l := v.row a b) (fun y hy => (h.row0 a b y hy).1)
  omega
theorem PInv.on_le (h : PInv all v) : v.on ≤ all := by
  have h1 := sumU_pos v.n (f := pvG v) (fun m _ => h.G0 m)
  have h2 := sumUU_pos v.n (f := pvK v) h.K0
  have h3 := h.snap
  omega
/-- What is done shows all. -/
theorem PInv.done (h : PInv all v) (h1 : ∀ m, v.mem m → (v.W m).isSome = true) (h2 : ∀ a b, v.O a b = none) : sumU v.n (fun m => (v.W m).getD 0) + v.on = all := by
  have hG : sumU v.n (pvG v) = sumU v.n (fun m => (v.W m).getD 0) := sumU_same v.n fun m hm => by
    have := h1 m hm
    unfold pvG
    cases hx : v.W m with
    | none => rw [hx] at this; cases this
    | some z => rfl
  have hK : sumUU v.n (pvK v) = 0 := sumUU_zero v.n fun a b => by
    unfold pvK pvC
    rw [h2 a b]
    by_cases hw : v.way a b
    · have ho := h.opn a b hw (h1 b hw.2.1)
      rw [h2 a b] at ho
      have hno : 0 ∉ v.row a b := fun e => by have := ho.2 (.inr e); cases this
      have ha := h1 a hw.1
      cases hx : v.W a with
      | none => rw [hx] at ha; cases ha
      | some z => simp only; rw [ahead_no hno]; rfl
    · rw [h.rIn a b hw]
      cases hx : v.W a <;> simp [ahead]
  have := h.snap
  rw [hG, hK] at this
  omega
end
end Go.Proofs.YtpgonkecicmanaaDoor
