/- A picture of members, plainly: its states, its steps, and what holds of them (Chandy, Lamport). -/
import Derived.Test.YtdeeephdojflpaaDoorMap
namespace Go.Proofs.YtdeeephdojflpaaDoor
set_option linter.unusedVariables false
set_option linter.unusedSimpArgs false
open Go.RowKit Go.Maps
structure Pic where
  gold : List Int
  ways : List ((Int × Int) × List Int)
  begun : Bool
  wrote : List (Int × Int)
  opn : List ((Int × Int) × Int)
  onWay : Int
def memN (n : Nat) : List Int := (List.range n).map fun i : Nat => (i : Int)
theorem memN_len (n : Nat) : (memN n).length = n := by simp [memN]
theorem memN_snoc (n : Nat) : memN (n + 1) = memN n ++ [(n : Int)] := by simp [memN, List.range_succ]
def pcRow (s : Pic) (a b : Int) : List Int := (mget s.ways (a, b)).getD []
def pcHas (s : Pic) (who : Int) : Bool := decide (0 ≤ who) && decide (who < s.gold.length)
def gAt (l : List Int) (m : Int) : Int := if 0 ≤ m then l.getD m.toNat 0 else 0
def pcG (s : Pic) (who : Int) : Int := gAt s.gold who
def pcWay (s : Pic) (a b : Int) : Nat := if pcHas s a = false then 1 else if pcHas s b = false then 1 else if a = b then 3 else 0
def pcPayErr (s : Pic) (a b n : Int) : Nat := if pcWay s a b ≠ 0 then pcWay s a b else if n < 1 ∨ 1000 < n then 1 else if pcG s a < n then 5 else if 40 ≤ (pcRow s a b).length then 4 else 0
def pcPay (s : Pic) (a b n : Int) : Pic := if pcPayErr s a b n = 0 then { s with gold := s.gold.set a.toNat (pcG s a - n), ways := mput s.ways (a, b) (pcRow s a b ++ [n]) } else s
def pcOut (who : Int) (s : Pic) (i : Int) : Pic := if i = who then s else { s with ways := mput s.ways (who, i) (pcRow s who i ++ [0]), opn := mput s.opn (i, who) 0 }
def pcWrite0 (s : Pic) (who : Int) : Pic := { s with wrote := mput s.wrote who (pcG s who) }
def pcWrite (s : Pic) (who : Int) : Pic := (memN s.gold.length).foldl (pcOut who) (pcWrite0 s who)
def pcMarkW (s : Pic) (b : Int) : Pic := if (mget s.wrote b).isSome = true then s else pcWrite s b
def pcMarkO (s : Pic) (a b : Int) : Pic := { s with onWay := s.onWay + (mget s.opn (a, b)).getD 0, opn := mdel s.opn (a, b) }
def pcMark (s : Pic) (a b : Int) : Pic := pcMarkO (pcMarkW s b) a b
def pcComeErr (s : Pic) (a b : Int) : Nat := if pcWay s a b ≠ 0 then pcWay s a b else if pcRow s a b = [] then 5 else 0
def pcComeVal (s : Pic) (a b : Int) : Int := if pcComeErr s a b = 0 then (pcRow s a b).headD 0 else 0
def pcPop (s : Pic) (a b : Int) : Pic := { s with ways := mput s.ways (a, b) (pcRow s a b).tail }
def pcGet1 (s : Pic) (b n : Int) : Pic := { s with gold := s.gold.set b.toNat (pcG s b + n) }
def pcGet2 (s : Pic) (a b n : Int) : Pic := if (mget s.opn (a, b)).isSome = true then { s with opn := mput s.opn (a, b) ((mget s.opn (a, b)).getD 0 + n) } else s
def pcCome (s : Pic) (a b : Int) : Pic := if pcComeErr s a b = 0 then (if pcComeVal s a b = 0 then pcMark (pcPop s a b) a b else pcGet2 (pcGet1 (pcPop s a b) b (pcComeVal s a b)) a b (pcComeVal s a b)) else s
def pcBeginErr (s : Pic) (who : Int) : Nat := if pcHas s who = false then 1 else if s.begun = true then 6 else 0
def pcBegin (s : Pic) (who : Int) : Pic := if pcBeginErr s who = 0 then pcWrite { s with begun := true } who else s
def pcDone (s : Pic) : Bool := decide (s.wrote.length = s.gold.length) && decide (s.opn.length = 0)
def pcHad (s : Pic) : Int := (s.wrote.map (·.2)).sum
def pcNew (gold : List Int) : Pic := ⟨gold, [], false, [], [], 0⟩
/-! ### The state as functions -/
structure PV where
  n : Nat
  g : Int → Int
  row : Int → Int → List Int
  W : Int → Option Int
  O : Int → Int → Option Int
  on : Int
  begun : Bool
def pvOf (s : Pic) : PV := ⟨s.gold.length, pcG s, pcRow s, fun m => mget s.wrote m, fun a b => mget s.opn (a, b), s.onWay, s.begun⟩
def PV.mem (v : PV) (m : Int) : Prop := 0 ≤ m ∧ m < v.n
def PV.way (v : PV) (a b : Int) : Prop := v.mem a ∧ v.mem b ∧ a ≠ b
instance (v : PV) (m : Int) : Decidable (v.mem m) := by unfold PV.mem; exact inferInstance
instance (v : PV) (a b : Int) : Decidable (v.way a b) := by unfold PV.way; exact inferInstance
def pvPay (v : PV) (a b n : Int) : PV := { v with g := fun m => if m = a then v.g a - n else v.g m, row := fun x y => if x = a ∧ y = b then v.row a b ++ [n] else v.row x y }
def pvWrite (v : PV) (who : Int) : PV := { v with begun := true, W := fun m => if m = who then some (v.g who) else v.W m, row := fun x y => if x = who ∧ v.way x y then v.row x y ++ [0] else v.row x y, O := fun x y => if y = who ∧ v.way x y then some 0 else v.O x y }
def pvMark (v : PV) (a b : Int) : PV := { v with row := fun x y => if x = a ∧ y = b then (v.row a b).tail else v.row x y, O := fun x y => if x = a ∧ y = b then none else v.O x y, on := v.on + (v.O a b).getD 0 }
def pvGet (v : PV) (a b n : Int) : PV := { v with g := fun m => if m = b then v.g b + n else v.g m, row := fun x y => if x = a ∧ y = b then (v.row a b).tail else v.row x y, O := fun x y => if x = a ∧ y = b then (v.O a b).map (· + n) else v.O x y }
theorem pcHas_mem {s : Pic} {m : Int} : pcHas s m = true ↔ (pvOf s).mem m := by unfold pcHas PV.mem pvOf; simp
theorem pcWay0 {s : Pic} {a b : Int} : pcWay s a b = 0 ↔ (pvOf s).way a b := by
  unfold pcWay PV.way
  rw [← pcHas_mem, ← pcHas_mem]
  cases pcHas s a <;> cases pcHas s b <;> simp
theorem gAt_set (l : List Int) (a m : Int) (x : Int) (ha : 0 ≤ a ∧ a < l.length) : gAt (l.set a.toNat x) m = if m = a then x else gAt l m := by
  unfold gAt
  by_cases h : m = a
  · subst h
    rw [if_pos ha.1, if_pos rfl, List.getD_eq_getElem?_getD, List.getElem?_set, if_pos rfl, if_pos (by omega)]; rfl
  · rw [if_neg h]
    by_cases hm : 0 ≤ m
    · rw [if_pos hm, if_pos hm, List.getD_eq_getElem?_getD, List.getD_eq_getElem?_getD, List.getElem?_set, if_neg (by omega)]
    · rw [if_neg hm, if_neg hm]
/-! ### Sums -/
def sumU : Nat → (Int → Int) → Int
  | 0, _ => 0
  | n + 1, f => sumU n f + f n
theorem sumU_succ (n : Nat) (f : Int → Int) : sumU (n + 1) f = sumU n f + f n := rfl
theorem sumU_same : ∀ (n : Nat) {f g : Int → Int}, (∀ m : Int, 0 ≤ m ∧ m < n → f m = g m) → sumU n f = sumU n g
  | 0, _, _, _ => rfl
  | n + 1, f, g, h => by
    rw [sumU_succ, sumU_succ]
    rw [sumU_same n (f := f) (g := g) (fun m hm => h m ⟨hm.1, by omega⟩), h n ⟨by omega, by omega⟩]
theorem sumU_turn : ∀ (n : Nat) {f g : Int → Int} (a : Int), 0 ≤ a ∧ a < n → (∀ m : Int, 0 ≤ m ∧ m < n → m ≠ a → f m = g m) → sumU n f = sumU n g + (f a - g a)
  | 0, _, _, _, h, _ => by omega
  | n + 1, f, g, a, ha, h => by
    rw [sumU_succ, sumU_succ]
    by_cases hn : a = n
    · subst hn
      rw [sumU_same n (f := f) (g := g) (fun m hm => h m ⟨hm.1, by omega⟩ (by omega))]; omega
    · rw [sumU_turn n (f := f) (g := g) a ⟨ha.1, by omega⟩ (fun m hm hne => h m ⟨hm.1, by omega⟩ hne), h n ⟨by omega, by omega⟩ (by omega)]; omega
theorem sumU_pos : ∀ (n : Nat) {f : Int → Int}, (∀ m : Int, 0 ≤ m ∧ m < n → 0 ≤ f m) → 0 ≤ sumU n f
  | 0, _, _ => by unfold sumU; omega
  | n + 1, f, h => by
    rw [sumU_succ]
    have := sumU_pos n (f := f) (fun m hm => h m ⟨hm.1, by omega⟩)
    have := h n ⟨by omega, by omega⟩
    omega
theorem sumU_ge : ∀ (n : Nat) {f : Int → Int} (a : Int), 0 ≤ a ∧ a < n → (∀ m : Int, 0 ≤ m ∧ m < n → 0 ≤ f m) → f a ≤ sumU n f
  | 0, _, _, h, _ => by omega
  | n + 1, f, a, ha, h => by
    rw [sumU_succ]
    have h1 := sumU_pos n (f := f) (fun m hm => h m ⟨hm.1, by omega⟩)
    have h2 := h n ⟨by omega, by omega⟩
    by_cases hn : a = n
    · subst hn; omega
    · have := sumU_ge n (f := f) a ⟨ha.1, by omega⟩ (fun m hm => h m ⟨hm.1, by omega⟩); omega
def sumUU (n : Nat) (f : Int → Int → Int) : Int := sumU n fun a => sumU n (f a)
theorem sumUU_same (n : Nat) {f g : Int → Int → Int} (h : ∀ a b : Int, f a b = g a b) : sumUU n f = sumUU n g := by
  have : f = g := funext fun a => funext fun b => h a b
  rw [this]
theorem sumUU_turn (n : Nat) {f g : Int → Int → Int} (a b : Int) (ha : 0 ≤ a ∧ a < n) (hb : 0 ≤ b ∧ b < n) (h : ∀ x y : Int, ¬ (x = a ∧ y = b) → f x y = g x y) : sumUU n f = sumUU n g + (f a b - g a b) := by
  unfold sumUU
  rw [sumU_turn n (f := fun x => sumU n (f x)) (g := fun x => sumU n (g x)) a ha (fun m hm hne => sumU_same n fun y _ => h m y (fun e => hne e.1))]
  have := sumU_turn n (f := f a) (g := g a) b hb (fun m hm hne => h a m (fun e => hne e.2))
  omega
theorem sumUU_pos (n : Nat) {f : Int → Int → Int} (h : ∀ a b : Int, 0 ≤ f a b) : 0 ≤ sumUU n f := sumU_pos n fun a _ => sumU_pos n fun b _ => h a b
theorem sumUU_ge (n : Nat) {f : Int → Int → Int} (a b : Int) (ha : 0 ≤ a ∧ a < n) (hb : 0 ≤ b ∧ b < n) (h : ∀ a b : Int, 0 ≤ f a b) : f a b ≤ sumUU n f :=
  Int.le_trans (sumU_ge n (f := f a) b hb (fun y _ => h a y)) (sumU_ge n (f := fun x => sumU n (f x)) a ha (fun x _ => sumU_pos n fun y _ => h x y))
theorem sumUU_zero (n : Nat) {f : Int → Int → Int} (h : ∀ a b : Int, f a b = 0) : sumUU n f = 0 := by
  have h1 : ∀ (n : Nat) {g : Int → Int}, (∀ m, g m = 0) → sumU n g = 0 := by
    intro n g hg
    induction n with
    | zero => rfl
    | succ n ih => rw [sumU_succ, ih, hg]; rfl
  exact h1 n fun a => h1 n (h a)
theorem sumU_take (l : List Int) : ∀ k : Nat, k ≤ l.length → sumU k (fun m => l.getD m.toNat 0) = (l.take k).sum
  | 0, _ => rfl
  | k + 1, h => by
    rw [sumU_succ]
    rw [sumU_take l k (by omega)]
    show (l.take k).sum + l.getD (k : Int).toNat 0 = _
    rw [List.take_succ_eq_append_getElem (by omega), List.sum_append, List.getD_eq_getElem?_getD, Int.toNat_natCast, List.getElem?_eq_getElem (by omega)]
    simp
theorem sumU_list (l : List Int) : sumU l.length (gAt l) = l.sum := by
  rw [sumU_same l.length (f := gAt l) (g := fun m => l.getD m.toNat 0) (fun m hm => by unfold gAt; rw [if_pos hm.1]), sumU_take l _ (Nat.le_refl _), List.take_length]
/-! ### Sums of maps -/
theorem mget_sum (n : Nat) : ∀ (L : List (Int × Int)), (L.map (·.1)).Nodup → (∀ p ∈ L, 0 ≤ p.1 ∧ p.1 < n) → (L.map (·.2)).sum = sumU n fun m => (mget L m).getD 0
  | [], _, _ => by
    have : ∀ n : Nat, sumU n (fun m => (mget ([] : List (Int × Int)) m).getD 0) = 0 := by intro n; induction n with | zero => rfl | succ n ih => rw [sumU_succ, ih]; rfl
    rw [this]; rfl
  | p :: r, hn, hk => by
    rw [List.map_cons, List.nodup_cons] at hn
    have hr : mget r p.1 = none := mget_none.2 fun q hq e => hn.1 (by rw [← e]; exact List.mem_map_of_mem hq)
    rw [List.map_cons, List.sum_cons, mget_sum n r hn.2 (fun q hq => hk q (by simp [hq]))]
    rw [sumU_turn n (f := fun m => (mget (p :: r) m).getD 0) (g := fun m => (mget r m).getD 0) p.1 (hk p (by simp)) (fun m _ hne => by simp only [mget]; rw [if_neg (fun e => hne e.symm)])]
    simp only [mget, if_true, hr]
    simp; omega
def one01 (b : Bool) : Int := if b = true then 1 else 0
theorem mget_count (n : Nat) : ∀ (L : List (Int × Int)), (L.map (·.1)).Nodup → (∀ p ∈ L, 0 ≤ p.1 ∧ p.1 < n) → (L.length : Int) = sumU n fun m => one01 (mget L m).isSome
  | [], _, _ => by
    have : ∀ n : Nat, sumU n (fun m => one01 (mget ([] : List (Int × Int)) m).isSome) = 0 := by intro n; induction n with | zero => rfl | succ n ih => rw [sumU_succ, ih]; rfl
    rw [this]; rfl
  | p :: r, hn, hk => by
    rw [List.map_cons, List.nodup_cons] at hn
    have hr : mget r p.1 = none := mget_none.2 fun q hq e => hn.1 (by rw [← e]; exact List.mem_map_of_mem hq)
    rw [List.length_cons]
    have ih := mget_count n r hn.2 (fun q hq => hk q (by simp [hq]))
    rw [sumU_turn n (f := fun m => one01 (mget (p :: r) m).isSome) (g := fun m => one01 (mget r m).isSome) p.1 (hk p (by simp)) (fun m _ hne => by show one01 (if p.1 = m then some p.2 else mget r m).isSome = _; rw [if_neg (fun e => hne e.symm)])]
    have e1 : one01 (mget (p :: r) p.1).isSome = 1 := by show one01 (if p.1 = p.1 then some p.2 else mget r p.1).isSome = 1; rw [if_pos rfl]; rfl
    have e2 : one01 (mget r p.1).isSome = 0 := by rw [hr]; rfl
    show _ = _ + (one01 (mget (p :: r) p.1).isSome - one01 (mget r p.1).isSome)
    rw [e1, e2, ← ih]
    omega
theorem sumU_ones : ∀ (n : Nat) (p : Int → Bool), sumU n (fun m => one01 (p m)) ≤ n ∧ (sumU n (fun m => one01 (p m)) = n ↔ ∀ m : Int, 0 ≤ m ∧ m < n → p m = true)
  | 0, p => ⟨by simp [sumU], ⟨fun _ m hm => by omega, fun _ => rfl⟩⟩
  | n + 1, p => by
    obtain ⟨h1, h2⟩ := sumU_ones n p
    rw [sumU_succ]
    have hb : 0 ≤ one01 (p n) ∧ one01 (p n) ≤ 1 ∧ (one01 (p n) = 1 ↔ p n = true) := by unfold one01; cases p n <;> simp
    refine ⟨by omega, ⟨fun h m hm => ?_, fun h => ?_⟩⟩
    · by_cases hmn : m = n
      · rw [hmn]; exact hb.2.2.1 (by omega)
      · exact h2.1 (by omega) m ⟨hm.1, by omega⟩
    · have := hb.2.2.2 (h n ⟨by omega, by omega⟩)
      have := h2.2 (fun m hm => h m ⟨hm.1, by omega⟩)
      omega
end Go.Proofs.YtdeeephdojflpaaDoor
