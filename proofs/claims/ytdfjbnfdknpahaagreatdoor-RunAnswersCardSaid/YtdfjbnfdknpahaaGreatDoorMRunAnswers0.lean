/- strings.Join: that the loaded program bears the texts that the library's contracts speak of. -/
import Derived.Test.YtdfjbnfdknpahaaGreatDoorProg
import Derived.Shelf.Strings.OnBuilder
import Derived.WalkKit
import Derived.WalkSpells
import Derived.WalkLawsBesides
import Derived.Lib.Hide
import Derived.StillTailTactics
import Derived.Deep.LoopGhost
import Derived.ProofKit
import Derived.OpenShut
import Derived.ShutString
import Derived.ChangeOld
import Derived.Deep.Slices
import Derived.SizedLaws
import Derived.KernelRfl
namespace Go.Proofs.YtdfjbnfdknpahaaGreatDoor
set_option linter.unusedVariables false
set_option linter.unusedSimpArgs false
open Go.RowKit Go.Proofs
def joRen : Go.Shelf.Ren := ⟨fun | 156 => 106 | 165 => 122 | 166 => 13 | 169 => 16 | 240 => 36 | 241 => 148 | 276 => 48 | 277 => 163 | n => n, fun | 0 => 0 | 3 => 3 | 4 => 4 | 5 => 5 | 9 => 9 | 20 => 20 | 31 => 23 | 37 => 40 | 70 => 39 | 72 => 42 | 75 => 34 | 76 => 46 | 80 => 49 | 127 => 108 | 164 => 125 | n => n, id⟩
theorem joL : Lays.n156 Tryz.prog joRen where
  mixed := by kernel_rfl
  f156 := Tryz.func106.trans (congrArg some (by kernel_rfl))
  f165 := Tryz.func122.trans (congrArg some (by kernel_rfl))
  f166 := Tryz.func13.trans (congrArg some (by kernel_rfl))
  f169 := Tryz.func16.trans (congrArg some (by kernel_rfl))
  f240 := Tryz.func36.trans (congrArg some (by kernel_rfl))
  f241 := Tryz.func148.trans (congrArg some (by kernel_rfl))
  f276 := Tryz.func48.trans (congrArg some (by kernel_rfl))
  f277 := Tryz.func163.trans (congrArg some (by kernel_rfl))
  t0 := Tryz.underlying0
  a0 := Tryz.isAgg0
  z0 := Tryz.sizeOf0
  v0 := Tryz.zeroValue0
  t3 := Tryz.underlying3
  a3 := Tryz.isAgg3
  z3 := Tryz.sizeOf3
  v3 := Tryz.zeroValue3
  t4 := Tryz.underlying4
  a4 := Tryz.isAgg4
  z4 := Tryz.sizeOf4
  v4 := Tryz.zeroValue4
  t9 := Tryz.underlying9
  a9 := Tryz.isAgg9
  z9 := Tryz.sizeOf9
  v9 := Tryz.zeroValue9
  t20 := Tryz.underlying20
  a20 := Tryz.isAgg20
  z20 := Tryz.sizeOf20
  v20 := Tryz.zeroValue20
  t31 := Tryz.underlying23
  a31 := Tryz.isAgg23
  z31 := Tryz.sizeOf23
  v31 := Tryz.zeroValue23
  t37 := Tryz.underlying40
  a37 := Tryz.isAgg40
  z37 := Tryz.sizeOf40
  v37 := Tryz.zeroValue40
  t70 := Tryz.underlying39
  a70 := Tryz.isAgg39
  z70 := Tryz.sizeOf39
  v70 := Tryz.zeroValue39
  t72 := Tryz.underlying42
  a72 := Tryz.isAgg42
  z72 := Tryz.sizeOf42
  v72 := Tryz.zeroValue42
  t75 := Tryz.underlying34
  a75 := Tryz.isAgg34
  z75 := Tryz.sizeOf34
  v75 := Tryz.zeroValue34
  t76 := Tryz.underlying46
  a76 := Tryz.isAgg46
  z76 := Tryz.sizeOf46
  v76 := Tryz.zeroValue46
  t127 := Tryz.underlying108
  a127 := Tryz.isAgg108
  z127 := Tryz.sizeOf108
  v127 := Tryz.zeroValue108
  t164 := Tryz.underlying125
  a164 := Tryz.isAgg125
  z164 := Tryz.sizeOf125
  v164 := Tryz.zeroValue125
theorem joX : Builder.Extra Tryz.prog joRen where
  sizeBuilder := by kernel_rfl
  liesBuilder := by kernel_rfl
  t5 := Tryz.underlying5
  a5 := Tryz.isAgg5
  z5 := Tryz.sizeOf5
  v5 := Tryz.zeroValue5
  infoByte := by kernel_rfl
  cellsByte := by kernel_rfl
  sizeByte := by kernel_rfl
  neB5 := by decide
end Go.Proofs.YtdfjbnfdknpahaaGreatDoor
namespace Go.Proofs.YtdfjbnfdknpahaaGreatDoor
set_option linter.unusedVariables false
set_option linter.unusedSimpArgs false
open Go.RowKit

/-- A drawn region whose first n operations only read, and whose others stand one behind the other: in the order of the text. -/
theorem wp_region_tail {P : Program} {id : Nat} {Q : Exit → Act → World → Prop} {a : Act} {w : World} {l : List Oper} (n : Nat) (hm : P.follows .mixedOrders = true) (hB : Region.lexTailB .any l.toArray n = true)
    (h : wpStill P l.toArray w.drew (fun a' => wpList P l.toArray Q (l.drop n) a' w.drew) (l.take n) a) : (Code.region id l.toArray true).wp P Q a w := wp_region_still_tail n hm hB h
/-! ## Heaplets and assertions -/
abbrev Hp := Nat → Option Obj
def hjoin (a b : Hp) : Hp := fun k => match a k with | some o => some o | none => b k
def hdisj (a b : Hp) : Prop := ∀ k, a k = none ∨ b k = none
def hnil : Hp := fun _ => none
def hone (b : Nat) (o : Obj) : Hp := fun k => if k = b then some o else none

def HProp := Hp → Prop
def hstar (P Q : HProp) : HProp := fun h => ∃ a b, hdisj a b ∧ h = hjoin a b ∧ P a ∧ Q b
instance instMulHProp : Mul HProp := ⟨hstar⟩
def emp : HProp := fun h => h = hnil
def blk (b : Nat) (o : Obj) : HProp := fun h => h = hone b o
def pur (φ : Prop) : HProp := fun h => φ ∧ h = hnil
def hex {α : Type} (P : α → HProp) : HProp := fun h => ∃ x, P x h

theorem hdisj_comm {a b : Hp} (h : hdisj a b) : hdisj b a := fun k => (h k).symm
theorem hjoin_comm {a b : Hp} (h : hdisj a b) : hjoin a b = hjoin b a := by
  funext k; unfold hjoin
  rcases h k with h | h
  · rw [h]; cases b k <;> rfl
  · rw [h]; cases a k <;> rfl
theorem hjoin_nil (a : Hp) : hjoin a hnil = a := by funext k; unfold hjoin hnil; cases a k <;> rfl
theorem hdisj_nil (a : Hp) : hdisj a hnil := fun _ => .inr rfl
theorem hnil_disj (a : Hp) : hdisj hnil a := fun _ => .inl rfl

theorem star_comm (P Q : HProp) : P * Q = Q * P := by
  funext h; apply propext; constructor
  · rintro ⟨a, b, d, rfl, p, q⟩; exact ⟨b, a, hdisj_comm d, hjoin_comm d, q, p⟩
  · rintro ⟨a, b, d, rfl, p, q⟩; exact ⟨b, a, hdisj_comm d, hjoin_comm d, q, p⟩
theorem star_assoc (P Q R : HProp) : P * Q * R = P * (Q * R) := by
  funext h; apply propext; constructor
  · rintro ⟨ab, c, d, rfl, ⟨a, b, d', rfl, p, q⟩, r⟩
    refine ⟨a, hjoin b c, fun k => ?_, ?_, p, b, c, fun k => ?_, rfl, q, r⟩
    · have h1 := d k; have h2 := d' k; unfold hjoin at *
      cases ha : a k <;> cases hb : b k <;> cases hc : c k <;> simp_all
    · funext k; unfold hjoin; cases a k <;> cases b k <;> rfl
    · have h1 := d k; have h2 := d' k; unfold hjoin at *
      cases ha : a k <;> cases hb : b k <;> cases hc : c k <;> simp_all
  · rintro ⟨a, bc, d, rfl, p, b, c, d', rfl, q, r⟩
    refine ⟨hjoin a b, c, fun k => ?_, ?_, ⟨a, b, fun k => ?_, rfl, p, q⟩, r⟩
    · have h1 := d k; have h2 := d' k; unfold hjoin at *
      cases ha : a k <;> cases hb : b k <;> cases hc : c k <;> simp_all
    · funext k; unfold hjoin; cases a k <;> cases b k <;> rfl
    · have h1 := d k; have h2 := d' k; unfold hjoin at *
      cases ha : a k <;> cases hb : b k <;> cases hc : c k <;> simp_all
instance instAssocHProp : Std.Associative (α := HProp) (· * ·) := ⟨star_assoc⟩
instance instCommHProp : Std.Commutative (α := HProp) (· * ·) := ⟨star_comm⟩
theorem star_left_comm (P Q R : HProp) : P * (Q * R) = Q * (P * R) := by rw [← star_assoc, star_comm P Q, star_assoc]
theorem star_emp (P : HProp) : P * emp = P := by
  funext h; apply propext; constructor
  · rintro ⟨a, b, _, rfl, p, rfl⟩; rw [hjoin_nil]; exact p
  · intro p; exact ⟨h, hnil, hdisj_nil h, (hjoin_nil h).symm, p, rfl⟩
theorem emp_star (P : HProp) : emp * P = P := by rw [star_comm, star_emp]
theorem pur_star {φ : Prop} {P : HProp} {h : Hp} : (pur φ * P) h ↔ φ ∧ P h := by
  constructor
  · rintro ⟨a, b, _, rfl, ⟨p, rfl⟩, q⟩; exact ⟨p, q⟩
  · rintro ⟨p, q⟩; exact ⟨hnil, h, hnil_disj h, rfl, ⟨p, rfl⟩, q⟩
theorem star_mono {P P' R : HProp} {h : Hp} (hp : ∀ h, P h → P' h) (hh : (P * R) h) : (P' * R) h := by
  obtain ⟨a, b, d, e, p, r⟩ := hh; exact ⟨a, b, d, e, hp _ p, r⟩

/-! ## Owning: what the run made since w0 -/
/-- The world w came from w0: below w0's heap nothing has turned; and among the blocks made since there is a part of the heap as P says. -/
def Own (w0 : World) (P : HProp) (w : World) : Prop :=
  Below w0.heap.size w0 w ∧ ∃ h : Hp, (∀ k o, h k = some o → w0.heap.size ≤ k ∧ w.heap[k]? = some o) ∧ P h

theorem Own.below {w0 w : World} {P : HProp} (h : Own w0 P w) : Below w0.heap.size w0 w := h.1
theorem Own.start (w : World) : Own w emp w := ⟨Below.refl _ _, hnil, (fun _ _ h => by cases h), rfl⟩
theorem Own.mono {w0 w : World} {P Q : HProp} (h : Own w0 P w) (hp : ∀ h, P h → Q h) : Own w0 Q w :=
  ⟨h.1, let ⟨x, a, b⟩ := h.2; ⟨x, a, hp _ b⟩⟩
theorem Own.perm {w0 w : World} {P Q : HProp} (h : Own w0 P w) (hp : P = Q) : Own w0 Q w := hp ▸ h
theorem Own.drop {w0 w : World} {P R : HProp} (h : Own w0 (P * R) w) : Own w0 R w := by
  obtain ⟨hb, x, a, ⟨p, q, d, rfl, hp, hq⟩⟩ := h
  refine ⟨hb, q, fun k o hk => a k o ?_, hq⟩
  unfold hjoin
  rcases d k with h | h
  · rw [h]; exact hk
  · rw [h] at hk; cases hk
theorem Own.drop2 {w0 w : World} {P R : HProp} (h : Own w0 (P * R) w) : Own w0 P w := (h.perm (star_comm _ _)).drop
theorem Own.ex {w0 w : World} {α : Type} {P : α → HProp} {R : HProp} (h : Own w0 (hex P * R) w) : ∃ x, Own w0 (P x * R) w := by
  obtain ⟨hb, x, a, ⟨p, q, d, rfl, ⟨y, hp⟩, hq⟩⟩ := h
  exact ⟨y, hb, _, a, p, q, d, rfl, hp, hq⟩
theorem Own.ex_mk {w0 w : World} {α : Type} {P : α → HProp} {R : HProp} (x : α) (h : Own w0 (P x * R) w) : Own w0 (hex P * R) w :=
  h.mono fun _ hh => star_mono (fun _ p => ⟨x, p⟩) hh
theorem Own.pur_out {w0 w : World} {φ : Prop} {R : HProp} (h : Own w0 (pur φ * R) w) : φ ∧ Own w0 R w := by
  obtain ⟨hb, x, a, hx⟩ := h
  exact ⟨(pur_star.1 hx).1, hb, x, a, (pur_star.1 hx).2⟩
theorem Own.pur_mk {w0 w : World} {φ : Prop} {R : HProp} (hφ : φ) (h : Own w0 R w) : Own w0 (pur φ * R) w :=
  h.mono fun _ hh => pur_star.2 ⟨hφ, hh⟩
theorem Own.cons {w0 w : World} {P P' R : HProp} (h : Own w0 (P * R) w) (hp : ∀ h, P h → P' h) : Own w0 (P' * R) w := h.mono fun _ hh => star_mono hp hh
/-- One owned block: it is there. -/
theorem Own.blk_at {w0 w : World} {b : Nat} {o : Obj} {R : HProp} (h : Own w0 (blk b o * R) w) : w.heap[b]? = some o ∧ w0.heap.size ≤ b := by
  obtain ⟨_, x, a, ⟨p, q, d, rfl, hp, hq⟩⟩ := h
  have := a b o (by unfold hjoin; rw [show p = hone b o from hp]; simp [hone])
  exact ⟨this.2, this.1⟩
/-- One owned block changes; all else stands. -/
theorem Own.set {w0 w w' : World} {b : Nat} {o o' : Obj} {R : HProp} (h : Own w0 (blk b o * R) w) (hos : w'.os = w.os) (htape : w'.tape = w.tape) (hout : w'.output = w.output)
    (hsz : w.heap.size ≤ w'.heap.size) (hother : ∀ k, k < w.heap.size → k ≠ b → w'.heap[k]? = w.heap[k]?) (hb : w'.heap[b]? = some o') : Own w0 (blk b o' * R) w' := by
  have hbb := h.blk_at
  obtain ⟨hbel, x, a, ⟨p, q, d, rfl, hp, hq⟩⟩ := h
  have hp : p = hone b o := hp
  subst hp
  refine ⟨hbel.trans ⟨hos, htape, hout, hsz, fun k hk => hother k (Nat.lt_of_lt_of_le hk hbel.size) (by omega)⟩, hjoin (hone b o') q, fun k u hk => ?_, hone b o', q, fun k => ?_, rfl, rfl, hq⟩
  · unfold hjoin hone at hk
    by_cases hkb : k = b
    · subst hkb; simp at hk; subst hk; exact ⟨hbb.2, hb⟩
    · simp [hkb] at hk
      have hk' := a k u (by unfold hjoin hone; simp [hkb, hk])
      exact ⟨hk'.1, by rw [hother k (by
        rcases Nat.lt_or_ge k w.heap.size with h | h
        · exact h
        · have := hk'.2; rw [Array.getElem?_eq_none h] at this; cases this) hkb]; exact hk'.2⟩
  · have := d k
    unfold hone at *
    by_cases hkb : k = b
    · subst hkb; simp at this; exact .inr this
    · simp [hkb]
/-- A new block. -/
theorem Own.new {w0 w w' : World} {o : Obj} {R : HProp} (h : Own w0 R w) (hos : w'.os = w.os) (htape : w'.tape = w.tape) (hout : w'.output = w.output)
    (hsz : w.heap.size ≤ w'.heap.size) (hother : ∀ k, k < w.heap.size → w'.heap[k]? = w.heap[k]?) (hb : w'.heap[w.heap.size]? = some o) : Own w0 (blk w.heap.size o * R) w' := by
  obtain ⟨hbel, x, a, hx⟩ := h
  have hlt : ∀ k u, x k = some u → k < w.heap.size := fun k u hk => by
    rcases Nat.lt_or_ge k w.heap.size with h | h
    · exact h
    · have := (a k u hk).2; rw [Array.getElem?_eq_none h] at this; cases this
  refine ⟨hbel.trans ⟨hos, htape, hout, hsz, fun k hk => hother k (Nat.lt_of_lt_of_le hk hbel.size)⟩, hjoin (hone w.heap.size o) x, fun k u hk => ?_, hone w.heap.size o, x, fun k => ?_, rfl, rfl, hx⟩
  · unfold hjoin hone at hk
    by_cases hkb : k = w.heap.size
    · subst hkb; simp at hk; subst hk; exact ⟨hbel.size, hb⟩
    · simp [hkb] at hk
      exact ⟨(a k u hk).1, by rw [hother k (hlt k u hk)]; exact (a k u hk).2⟩
  · unfold hone
    by_cases hkb : k = w.heap.size
    · subst hkb
      right
      cases hxk : x w.heap.size with
      | none => rfl
      | some u => exact absurd (hlt _ _ hxk) (by omega)
    · simp [hkb]
/-- A world with the same heap. -/
theorem Own.same {w0 w w' : World} {P : HProp} (h : Own w0 P w) (hos : w'.os = w.os) (htape : w'.tape = w.tape) (hout : w'.output = w.output) (hh : w'.heap = w.heap) : Own w0 P w' := by
  obtain ⟨hbel, x, a, hx⟩ := h
  exact ⟨hbel.trans ⟨hos, htape, hout, by rw [hh]; exact Nat.le_refl _, fun k _ => by rw [hh]⟩, x, fun k o hk => by rw [hh]; exact a k o hk, hx⟩
theorem Own.drew {w0 w : World} {P : HProp} (h : Own w0 P w) : Own w0 P w.drew := h.same rfl rfl rfl rfl
theorem Own.alloc {w0 w : World} {R : HProp} (h : Own w0 R w) (o : Obj) : Own w0 (blk w.heap.size o * R) (w.alloc o) :=
  h.new rfl rfl rfl (by simp) (fun k hk => Below.heap_alloc _ _ _ hk) (by show (w.heap.push o)[w.heap.size]? = _; simp)
/-- A new block that nobody needs. -/
theorem Own.alloc' {w0 w : World} {R : HProp} (h : Own w0 R w) (o : Obj) : Own w0 R (w.alloc o) := (h.alloc o).drop
theorem heap_setCell_cells {w : World} {b i : Nat} {cs : Array Value} {t : TypeId} {f : Nat × Nat} {v : Value} (h : w.heap[b]? = some (.cells cs t f)) :
    (w.setCell ⟨b, i, none⟩ v).heap[b]? = some (.cells (cs.setIfInBounds i v) t f) := by
  simp only [World.setCell, Array.getElem?_modify, ↓reduceIte, h, Option.map_some]
  simp
theorem Own.setCell {w0 w : World} {b i : Nat} {cs : Array Value} {t : TypeId} {f : Nat × Nat} {v : Value} {R : HProp} (h : Own w0 (blk b (.cells cs t f) * R) w) :
    Own w0 (blk b (.cells (cs.setIfInBounds i v) t f) * R) (w.setCell ⟨b, i, none⟩ v) :=
  h.set rfl rfl rfl (by simp) (fun k _ hk => Below.heap_setCell _ _ _ _ hk) (heap_setCell_cells h.blk_at.1)
theorem cell_of_heap {w : World} {b : Nat} {cs : Array Value} {t : TypeId} {f : Nat × Nat} (h : w.heap[b]? = some (.cells cs t f)) (i : Nat) : w.cell? ⟨b, i, none⟩ = cs[i]? := by
  simp [World.cell?, h]
theorem free_of_heap {w : World} {b : Nat} {cs : Array Value} {t : TypeId} (h : w.heap[b]? = some (.cells cs t (0, 0))) (i : Nat) (s : Option Nat) : w.frozen? ⟨b, i, s⟩ = false := by
  simp [World.frozen?, h]
theorem Own.cell {w0 w : World} {b : Nat} {cs : Array Value} {t : TypeId} {f : Nat × Nat} {R : HProp} (h : Own w0 (blk b (.cells cs t f) * R) w) (i : Nat) : w.cell? ⟨b, i, none⟩ = cs[i]? := cell_of_heap h.blk_at.1 i
theorem Own.free {w0 w : World} {b : Nat} {cs : Array Value} {t : TypeId} {R : HProp} (h : Own w0 (blk b (.cells cs t (0, 0)) * R) w) (i : Nat) (s : Option Nat) : w.frozen? ⟨b, i, s⟩ = false := free_of_heap h.blk_at.1 i s

theorem Own.lt {w0 w : World} {b : Nat} {o : Obj} {R : HProp} (h : Own w0 (blk b o * R) w) : b < w.heap.size := by
  rcases Nat.lt_or_ge b w.heap.size with h' | h'
  · exact h'
  · have := h.blk_at.1; rw [Array.getElem?_eq_none h'] at this; cases this
/-! ## Slices -/
/-- What a slice value reads as: n elements, whose cells are xs. -/
def Rd (w : World) (v : Value) (n : Nat) (xs : List Value) : Prop :=
  ∃ ad cap, v = .slice ad n cap ∧ n ≤ cap ∧ cap ≤ maxLen ∧ (ad = none → cap = 0) ∧ ∀ i u, xs[i]? = some u → ∃ a : Addr, ad = some a ∧ w.cell? (a.add i) = some u
/-- The slice value v, of n elements of the type ty (size cells each), owns its row; its cells are xs. -/
def Sl (ty : TypeId) (size : Nat) (v : Value) (n : Nat) (xs : List Value) : HProp := fun h =>
  (v = .slice none 0 0 ∧ n = 0 ∧ xs = [] ∧ h = hnil) ∨
  ∃ b off cap cs, v = .slice (some ⟨b, off, none⟩) n cap ∧ n ≤ cap ∧ cap ≤ maxLen ∧ xs.length = n * size ∧ off + cap * size ≤ cs.size ∧ (∀ i, i < xs.length → cs[off + i]? = xs[i]?) ∧ h = hone b (.cells cs ty (0, 0))
theorem Sl_nil (ty : TypeId) (size : Nat) : Sl ty size (.slice none 0 0) 0 [] = emp := by
  funext h; apply propext; constructor
  · rintro (⟨_, _, _, h⟩ | ⟨b, off, cap, cs, h, _⟩)
    · exact h
    · cases h
  · intro h; exact .inl ⟨rfl, rfl, rfl, h⟩
theorem Own.sl_nil {w0 w : World} {R : HProp} (h : Own w0 R w) (ty : TypeId) (size : Nat) : Own w0 (Sl ty size (.slice none 0 0) 0 [] * R) w := by rw [Sl_nil, emp_star]; exact h
theorem Own.sl_cases {w0 w : World} {ty : TypeId} {size : Nat} {v : Value} {n : Nat} {xs : List Value} {R : HProp} (h : Own w0 (Sl ty size v n xs * R) w) :
    (v = .slice none 0 0 ∧ n = 0 ∧ xs = [] ∧ Own w0 R w) ∨
    ∃ b off cap cs, v = .slice (some ⟨b, off, none⟩) n cap ∧ n ≤ cap ∧ cap ≤ maxLen ∧ xs.length = n * size ∧ off + cap * size ≤ cs.size ∧ (∀ i, i < xs.length → cs[off + i]? = xs[i]?) ∧ Own w0 (blk b (.cells cs ty (0, 0)) * R) w := by
  obtain ⟨hb, x, a, ⟨p, q, d, rfl, hp, hq⟩⟩ := h
  rcases hp with ⟨h1, h2, h3, rfl⟩ | ⟨b, off, cap, cs, h1, h2, h3, h4, h5, h6, rfl⟩
  · exact .inl ⟨h1, h2, h3, hb, _, a, hq⟩
  · exact .inr ⟨b, off, cap, cs, h1, h2, h3, h4, h5, h6, hb, _, a, _, _, d, rfl, rfl, hq⟩
theorem Own.sl_mk {w0 w : World} {ty : TypeId} {size n : Nat} {xs : List Value} {R : HProp} {b off cap : Nat} {cs : Array Value} (h2 : n ≤ cap) (h3 : cap ≤ maxLen) (h4 : xs.length = n * size) (h5 : off + cap * size ≤ cs.size)
    (h6 : ∀ i, i < xs.length → cs[off + i]? = xs[i]?) (h : Own w0 (blk b (.cells cs ty (0, 0)) * R) w) : Own w0 (Sl ty size (.slice (some ⟨b, off, none⟩) n cap) n xs * R) w :=
  h.cons fun _ hh => .inr ⟨b, off, cap, cs, rfl, h2, h3, h4, h5, h6, hh⟩
theorem Own.rd {w0 w : World} {ty : TypeId} {size : Nat} {v : Value} {n : Nat} {xs : List Value} {R : HProp} (h : Own w0 (Sl ty size v n xs * R) w) : Rd w v n xs := by
  rcases h.sl_cases with ⟨rfl, rfl, rfl, _⟩ | ⟨b, off, cap, cs, rfl, h2, h3, h4, h5, h6, ho⟩
  · exact ⟨none, 0, rfl, Nat.le_refl _, Nat.zero_le _, fun _ => rfl, fun i u h => by simp at h⟩
  · refine ⟨_, cap, rfl, h2, h3, (fun h => by cases h), fun i u hi => ⟨_, rfl, ?_⟩⟩
    have hlt : i < xs.length := by
      rcases Nat.lt_or_ge i xs.length with h | h
      · exact h
      · rw [List.getElem?_eq_none h] at hi; cases hi
    rw [Addr.add_lit, ho.cell, h6 i hlt, hi]
/-- What was read of memory that is older than the run reads so still. -/
theorem Rd.later {w0 w : World} {P : HProp} {v : Value} {n : Nat} {xs : List Value} (h : Rd w0 v n xs) (ho : Own w0 P w) : Rd w v n xs := by
  obtain ⟨ad, cap, h1, h2, h3, h4, h5⟩ := h
  refine ⟨ad, cap, h1, h2, h3, h4, fun i u hi => ?_⟩
  obtain ⟨a, ha, hc⟩ := h5 i u hi
  refine ⟨a, ha, ?_⟩
  have hlt : a.block < w0.heap.size := by
    have := World.block_lt_of_cell? _ _ hc
    simpa [Addr.add] using (by unfold Addr.add at this; split at this <;> exact this)
  rw [ho.below.cell (p := a.add i) (by unfold Addr.add; split <;> exact hlt)]; exact hc
theorem Rd.heap {w w' : World} {v : Value} {n : Nat} {xs : List Value} (h : Rd w v n xs) (hh : w'.heap = w.heap) : Rd w' v n xs := by
  obtain ⟨ad, cap, h1, h2, h3, h4, h5⟩ := h
  refine ⟨ad, cap, h1, h2, h3, h4, fun i u hi => ?_⟩
  obtain ⟨a, ha, hc⟩ := h5 i u hi
  exact ⟨a, ha, by simpa [World.cell?, hh] using hc⟩
theorem Rd.alloc {w : World} {v : Value} {n : Nat} {xs : List Value} (h : Rd w v n xs) (o : Obj) : Rd (w.alloc o) v n xs := by
  obtain ⟨ad, cap, h1, h2, h3, h4, h5⟩ := h
  refine ⟨ad, cap, h1, h2, h3, h4, fun i u hi => ?_⟩
  obtain ⟨a, ha, hc⟩ := h5 i u hi
  exact ⟨a, ha, by rw [World.cell?_alloc_lt _ _ _ (World.block_lt_of_cell? _ _ hc)]; exact hc⟩

def setL (cs : Array Value) : Nat → List Value → Array Value
  | _, [] => cs
  | o, v :: r => setL (cs.setIfInBounds o v) (o + 1) r
theorem setL_size : ∀ (vs : List Value) (cs : Array Value) (o : Nat), (setL cs o vs).size = cs.size
  | [], _, _ => rfl
  | v :: r, cs, o => by rw [setL, setL_size r]; simp
theorem setL_out : ∀ (vs : List Value) (cs : Array Value) (o i : Nat), (i < o ∨ o + vs.length ≤ i) → (setL cs o vs)[i]? = cs[i]?
  | [], _, _, _, _ => rfl
  | v :: r, cs, o, i, h => by
    rw [setL, setL_out r _ _ _ (by simp at h; omega), Array.getElem?_setIfInBounds, if_neg (by simp at h; omega)]
theorem setL_in : ∀ (vs : List Value) (cs : Array Value) (o j : Nat), j < vs.length → o + vs.length ≤ cs.size → (setL cs o vs)[o + j]? = vs[j]?
  | v :: r, cs, o, 0, _, hs => by
    rw [setL, setL_out r _ _ _ (by omega), Array.getElem?_setIfInBounds, if_pos (by omega), if_pos (by simp at hs; omega)]; rfl
  | v :: r, cs, o, j + 1, h, hs => by
    rw [setL, show o + (j + 1) = (o + 1) + j from by omega, setL_in r _ _ j (by simpa using h) (by simp at hs ⊢; omega)]; simp
theorem Own.setCells {w0 : World} {b : Nat} {t : TypeId} {f : Nat × Nat} {R : HProp} : ∀ (vs : List Value) (o : Nat) (cs : Array Value) (w : World), Own w0 (blk b (.cells cs t f) * R) w →
    Own w0 (blk b (.cells (setL cs o vs) t f) * R) (w.setCells b o vs)
  | [], _, _, _, h => h
  | v :: r, o, cs, w, h => by
    rw [World.setCells, setL]; exact Own.setCells r (o + 1) _ _ h.setCell

/-- A slice that owns something: where its row is; its cells; a store. -/
theorem Own.sl_at {w0 w : World} {ty : TypeId} {size : Nat} {v : Value} {n : Nat} {xs : List Value} {R : HProp} (h : Own w0 (Sl ty size v n xs * R) w) (hx : 0 < xs.length) :
    ∃ b off cap, v = .slice (some ⟨b, off, none⟩) n cap ∧ n ≤ cap ∧ cap ≤ maxLen ∧ (∀ i u, xs[i]? = some u → w.cell? ⟨b, off + i, none⟩ = some u) ∧ (∀ i s, w.frozen? ⟨b, i, s⟩ = false) ∧ w0.heap.size ≤ b ∧ b < w.heap.size ∧
      ∀ i u, i < xs.length → Own w0 (Sl ty size v n (xs.set i u) * R) (w.setCell ⟨b, off + i, none⟩ u) := by
  rcases h.sl_cases with ⟨_, _, rfl, _⟩ | ⟨b, off, cap, cs, rfl, h2, h3, h4, h5, h6, ho⟩
  · simp at hx
  · have hlt : ∀ i u, xs[i]? = some u → i < xs.length := fun i u hi => by
      rcases Nat.lt_or_ge i xs.length with h | h
      · exact h
      · rw [List.getElem?_eq_none h] at hi; cases hi
    refine ⟨b, off, cap, rfl, h2, h3, fun i u hi => by rw [ho.cell, h6 i (hlt i u hi), hi], fun i s => ho.free i s, ho.blk_at.2, ?_, fun i u hi => Own.sl_mk h2 h3 (by simpa using h4) (by simpa using h5) (fun j hj => ?_) ho.setCell⟩
    · rcases Nat.lt_or_ge b w.heap.size with h | h
      · exact h
      · have := ho.blk_at.1; rw [Array.getElem?_eq_none h] at this; cases this
    · rw [Array.getElem?_setIfInBounds, List.getElem?_set]
      have hj' : j < xs.length := by simpa using hj
      by_cases hij : i = j
      · subst hij; rw [if_pos rfl, if_pos rfl, if_pos hj']
        rw [if_pos]
        rw [h4] at hj'
        have : n * size ≤ cap * size := Nat.mul_le_mul_right _ h2
        omega
      · rw [if_neg (by omega), if_neg hij, h6 j hj']
/-! ## append -/
section
variable {P : Program}
theorem take_append_cells (old news : List Value) (tl : Array Value) (size n m : Nat) (hlo : old.length = n * size) (hl : news.length = m * size) :
    ∀ i, i < (old ++ news).length → (old.toArray ++ news.toArray ++ tl)[0 + i]? = (old ++ news)[i]? := by
  intro i hi
  have hi' : i < (old.toArray ++ news.toArray).size := by simpa using hi
  rw [Nat.zero_add, Array.getElem?_append_left hi']
  simp
/-- append onto a slice that is owned. -/
theorem app_run {w0 w : World} {R : HProp} (t ty e : TypeId) (i : TypeInfo) (z : Value) (size bytes : Nat) (ht : P.underlying t = some (.slice e)) (hi : P.info? e = some i) (hz : i.zero = some z)
    (hsize : i.size = size) (hby : i.bytes = bytes) (hzs : z.cells.size = size) (hsz : 0 < size)
    {v : Value} {n : Nat} {xs : List Value} (hown : Own w0 (Sl e size v n xs * R) w)
    {x : Value} {m : Nat} {news : List Value} (hl : news.length = m * size) (hx : Rd w x m news) (h1 : ∀ u ∈ news, u.oneCell' = true)
    (h63 : n + m ≤ maxLen) (hbytes : (n + m) * bytes ≤ 140737488355328) :
    ∃ v' w', (Builtin.append_ #[t, t] ty #[v, x]).run P w = .ok v' w' ∧ Own w0 (Sl e size v' (n + m) (xs ++ news) * R) w' := by
  obtain ⟨ad, c, rfl, hmc, hcm, hadn, hcells⟩ := hx
  by_cases hm : m = 0
  · subst hm
    have hn : news = [] := List.eq_nil_of_length_eq_zero (by simpa using hl)
    subst hn
    refine ⟨v, w, ?_, by simpa using hown⟩
    rcases hown.sl_cases with ⟨rfl, rfl, rfl, _⟩ | ⟨b, off, cap, cs, rfl, h2, h3, h4, h5, h6, ho⟩
    · cases ad with
      | none => simp [Builtin.append_, run_underlying ht, sizeOf, typeInfo, hi, Builtin.lenOf, Builtin.firstCells, loadCells, loadCellsFrom]
      | some a => simp [Builtin.append_, run_underlying ht, sizeOf, typeInfo, hi, Builtin.lenOf, Builtin.firstCells, loadCells, loadCellsFrom]
    · cases ad with
      | none => simp [Builtin.append_, run_underlying ht, sizeOf, typeInfo, hi, Builtin.lenOf, Builtin.firstCells, loadCells, loadCellsFrom, h2, storeCells]
      | some a => simp [Builtin.append_, run_underlying ht, sizeOf, typeInfo, hi, Builtin.lenOf, Builtin.firstCells, loadCells, loadCellsFrom, h2, storeCells]
  · obtain ⟨a, rfl⟩ : ∃ a, ad = some a := by
      cases ad with
      | some a => exact ⟨a, rfl⟩
      | none => have := hadn rfl; omega
    have hnews : ∀ j u, news[j]? = some u → w.cell? (a.add j) = some u := fun j u hj => by
      obtain ⟨a', ha', hc⟩ := hcells j u hj
      cases ha'; exact hc
    subst hsize
    subst hby
    have hsmall : n + m ≤ 9223372036854775807 := by simp only [maxLen] at h63; omega
    rcases hown.sl_cases with ⟨rfl, rfl, rfl, ho⟩ | ⟨b, off, cap, cs, rfl, h2, h3, h4, h5, h6, ho⟩
    · have hr := run_append_nil (P := P) w t ty e i z ht hi hz a m c news hl hnews (by omega) (by omega) (by have hb := hbytes; simp only [Nat.zero_add] at hb; omega)
      refine ⟨_, _, hr, ?_⟩
      simp only [Nat.zero_add, List.nil_append]
      have hge := grownCap_ge w m 0 e
      have hcm' : grownCap w m 0 e ≤ maxLen := grownCap_le_maxLen w m 0 e (by omega)
      refine Own.sl_mk hge hcm' (by simpa using hl) ?_ ?_ (ho.drew.alloc _)
      · simp only [Array.size_append, List.size_toArray, size_zeroCells, hzs, hl, ← Nat.add_mul, Nat.zero_add]
        exact Nat.le_of_eq (congrArg (· * i.size) (by omega))
      · intro j hj
        rw [Nat.zero_add, Array.getElem?_append_left (by simpa using hj)]; simp
    · have hlen : (xs ++ news).length = (n + m) * i.size := by rw [List.length_append, h4, hl, Nat.add_mul]
      by_cases hroom : n + m ≤ cap
      · have hfit : off + n * i.size + news.length ≤ cs.size := by
          rw [hl, Nat.add_assoc, ← Nat.add_mul]; exact Nat.le_trans (Nat.add_le_add_left (Nat.mul_le_mul_right _ hroom) _) h5
        have hr := run_append_room_cells (P := P) w t ty e i ht hi b off n cap a m c news hl hnews h1 hroom
          (fun j hj => by rw [ho.cell, Array.getElem?_eq_getElem (by omega)]; rfl) (fun j hj => ho.free _ _)
        refine ⟨_, _, hr, Own.sl_mk hroom h3 hlen (by rw [setL_size]; exact h5) (fun j hj => ?_) (Own.setCells news _ _ _ ho)⟩
        rw [List.length_append] at hj
        by_cases hjx : j < xs.length
        · rw [setL_out _ _ _ _ (by omega), h6 j hjx, List.getElem?_append_left hjx]
        · rw [List.getElem?_append_right (by omega), show off + j = off + n * i.size + (j - xs.length) from by omega]
          exact setL_in _ _ _ _ (by omega) hfit
      · have holds : ∀ j u, xs[j]? = some u → w.cell? ((⟨b, off, none⟩ : Addr).add j) = some u := fun j u hj => by
          have hlt : j < xs.length := by
            rcases Nat.lt_or_ge j xs.length with h | h
            · exact h
            · rw [List.getElem?_eq_none h] at hj; cases hj
          rw [Addr.add_lit, ho.cell, h6 j hlt, hj]
        have hr := run_append_grow (P := P) w t ty e i z ht hi hz ⟨b, off, none⟩ n cap xs h4 holds a m c news hl hnews (by omega) (by omega) (growslice_fits (by omega) hbytes)
        refine ⟨_, _, hr, ?_⟩
        have hge := grownCap_ge w (n + m) cap e
        have hcm' : grownCap w (n + m) cap e ≤ maxLen := grownCap_le_maxLen w (n + m) cap e h63
        refine Own.sl_mk hge hcm' hlen ?_ (take_append_cells xs news _ i.size n m h4 hl) ((ho.drop).drew.alloc _)
        simp only [Array.size_append, List.size_toArray, size_zeroCells, hzs, h4, hl, ← Nat.add_mul, Nat.zero_add]
        exact Nat.le_of_eq (congrArg (· * i.size) (by omega))
end

/-- append, for the walk. -/
theorem wpList_app {P : Program} {w0 w : World} {R : HProp} {ops : Array Oper} {rest : List Oper} {o : Oper} {a : Act} {Q : Exit → Act → World → Prop}
    (hg : o.guard = none) (s x : Operand) (t : TypeId) (hop : o.op = Op.call { callee := Callee.builtin Builtin.append, args := #[s, x], argTypes := #[t, t] })
    (e : TypeId) (size bytes : Nat) (z : Value) (hinf : (P.info? e).map (fun i => (i.zero, i.size, i.bytes)) = some (some z, size, bytes)) (ht : P.underlying t = some (.slice e)) (hzs : z.cells.size = size) (hsz : 0 < size)
    {v : Value} {n : Nat} {xs : List Value} (hs : a.eval s = v) (hown : Own w0 (Sl e size v n xs * R) w)
    {xv : Value} {m : Nat} {news : List Value} (hx : a.eval x = xv) (hl : news.length = m * size) (hr : Rd w xv m news) (h1 : ∀ u ∈ news, u.oneCell' = true)
    (h63 : n + m ≤ maxLen) (hbytes : (n + m) * bytes ≤ 140737488355328)
    (hK : ∀ v' w', Own w0 (Sl e size v' (n + m) (xs ++ news) * R) w' → wpList P ops Q rest (a.put o.dst v') w') :
    wpList P ops Q (o :: rest) a w := by
  refine wpList_plain hg fun K hK' => ?_
  obtain ⟨i, hi, hz, hsize, hby⟩ := info_parts hinf
  obtain ⟨v', w', hrun, hown'⟩ := app_run (P := P) t o.type e i z size bytes ht hi hz hsize hby hzs hsz hown hl hr h1 h63 hbytes
  unfold Oper.wp
  simp [execOp, hop, resolve, invoke, builtin, hs, hx, hrun, Result.andThen]
  exact hK' _ _ (hK v' w' hown')
/-- append, as one step of a region that draws its order. -/
theorem step_app {P : Program} {w0 w : World} {R : HProp} {ops : Array Oper} {o : Oper} {a : Act} {K : Act → World → Prop} {Q : Exit → Act → World → Prop} {E : Prop}
    (hg : o.guard = none) (s x : Operand) (t : TypeId) (hop : o.op = Op.call { callee := Callee.builtin Builtin.append, args := #[s, x], argTypes := #[t, t] })
    (e : TypeId) (size bytes : Nat) (z : Value) (hinf : (P.info? e).map (fun i => (i.zero, i.size, i.bytes)) = some (some z, size, bytes)) (ht : P.underlying t = some (.slice e)) (hzs : z.cells.size = size) (hsz : 0 < size)
    {v : Value} {n : Nat} {xs : List Value} (hs : a.eval s = v) (hown : Own w0 (Sl e size v n xs * R) w)
    {xv : Value} {m : Nat} {news : List Value} (hx : a.eval x = xv) (hl : news.length = m * size) (hr : Rd w xv m news) (h1 : ∀ u ∈ news, u.oneCell' = true)
    (h63 : n + m ≤ maxLen) (hbytes : (n + m) * bytes ≤ 140737488355328)
    (hK : ∀ v' w', Own w0 (Sl e size v' (n + m) (xs ++ news) * R) w' → K (a.put o.dst v') w') :
    if Region.wanted o (yielded ops a.tmps) = true then Oper.wp P o a w K Q else E := by
  have hw : Region.wanted o (yielded ops a.tmps) = true := by simp [Region.wanted, hg]
  rw [if_pos hw]
  obtain ⟨i, hi, hz, hsize, hby⟩ := info_parts hinf
  obtain ⟨v', w', hrun, hown'⟩ := app_run (P := P) t o.type e i z size bytes ht hi hz hsize hby hzs hsz hown hl hr h1 h63 hbytes
  unfold Oper.wp
  simp [execOp, hop, resolve, invoke, builtin, hs, hx, hrun, Result.andThen]
  exact hK v' w' hown'
theorem Rd_one {w : World} {b cap : Nat} {cs : List Value} {n : Nat} (hc : ∀ (i : Nat) u, cs[i]? = some u → w.cell? ⟨b, i, none⟩ = some u) (h1 : n ≤ cap) (h2 : cap ≤ maxLen) : Rd w (.slice (some ⟨b, 0, none⟩) n cap) n cs :=
  ⟨_, cap, rfl, h1, h2, by simp, fun i u hi => ⟨_, rfl, by rw [Addr.add_lit, Nat.zero_add]; exact hc i u hi⟩⟩
theorem Rd_alloc {w : World} {t : TypeId} {cs : Array Value} {n : Nat} (h2 : n ≤ maxLen) : Rd (w.alloc (.cells cs t)) (.slice (some ⟨w.heap.size, 0, none⟩) n n) n cs.toList :=
  Rd_one (fun i u hi => by rw [World.cell?_alloc_new]; simpa using hi) (Nat.le_refl _) h2
theorem Rd_lit {w : World} {b n : Nat} {t : TypeId} {cs : Array Value} (hb : b = w.heap.size) (hn : n ≤ maxLen) : Rd (w.alloc (.cells cs t)) (.slice (some ⟨b, 0, none⟩) n n) n cs.toList := by
  subst hb; exact Rd_alloc hn
theorem int_one (l : List Int) : ∀ u ∈ l.map (Value.int .i64), u.oneCell' = true := by
  intro u hu
  obtain ⟨x, _, rfl⟩ := List.mem_map.1 hu
  rfl

/-! ## Lists of ints -/
/-- A number that fits an int. (Behind a name: its bounds are long numerals.) -/
def I64 (a : Int) : Prop := -9223372036854775808 ≤ a ∧ a ≤ 9223372036854775807
/-- The slice value v reads as the list l. -/
def Ints (w : World) (v : Value) (l : List Int) : Prop := Rd w v l.length (l.map (Value.int .i64)) ∧ ∀ x ∈ l, I64 x
theorem Ints.later {w0 w : World} {P : HProp} {v : Value} {l : List Int} (h : Ints w0 v l) (ho : Own w0 P w) : Ints w v l := ⟨h.1.later ho, h.2⟩
theorem Ints.heap {w w' : World} {v : Value} {l : List Int} (h : Ints w v l) (hh : w'.heap = w.heap) : Ints w' v l := ⟨h.1.heap hh, h.2⟩
theorem Ints.alloc {w : World} {v : Value} {l : List Int} (h : Ints w v l) (o : Obj) : Ints (w.alloc o) v l := ⟨h.1.alloc o, h.2⟩
/-- The slice value v reads as the list of lists ll. -/
def Rows2 (w : World) (v : Value) (ll : List (List Int)) : Prop := ∃ rs : List Value, rs.length = ll.length ∧ Rd w v ll.length rs ∧ ∀ (i : Nat) r l, rs[i]? = some r → ll[i]? = some l → Ints w r l
theorem Rows2.later {w0 w : World} {P : HProp} {v : Value} {l : List (List Int)} (h : Rows2 w0 v l) (ho : Own w0 P w) : Rows2 w v l := by
  obtain ⟨rs, h1, h2, h3⟩ := h
  exact ⟨rs, h1, h2.later ho, fun i r l a b => (h3 i r l a b).later ho⟩
/-- Whatever else goes on: where R is owned, v reads as l. -/
def Reads (w0 : World) (R : HProp) (v : Value) (l : List Int) : Prop := ∀ w, Own w0 R w → Ints w v l
theorem Ints.reads {w0 : World} {R : HProp} {v : Value} {l : List Int} (h : Ints w0 v l) : Reads w0 R v l := fun _ ho => h.later ho
theorem Reads.more {w0 : World} {P R : HProp} {v : Value} {l : List Int} (h : Reads w0 R v l) : Reads w0 (P * R) v l := fun _ ho => h _ ho.drop

/-! ## A row at its place; things in a row -/
/-- The row of n elements at block b from off on, room for cap, holds the cells xs. -/
def SlAt (ty : TypeId) (size b off n cap : Nat) (xs : List Value) : HProp := fun h =>
  ∃ cs, n ≤ cap ∧ cap ≤ maxLen ∧ xs.length = n * size ∧ off + cap * size ≤ cs.size ∧ (∀ i, i < xs.length → cs[off + i]? = xs[i]?) ∧ h = hone b (.cells cs ty (0, 0))
theorem Own.slAt {w0 w : World} {ty : TypeId} {size : Nat} {v : Value} {n : Nat} {xs : List Value} {R : HProp} (h : Own w0 (Sl ty size v n xs * R) w) (hx : 0 < xs.length) :
    ∃ b off cap, v = .slice (some ⟨b, off, none⟩) n cap ∧ Own w0 (SlAt ty size b off n cap xs * R) w := by
  obtain ⟨hb, x, a, ⟨p, q, d, rfl, hp, hq⟩⟩ := h
  rcases hp with ⟨_, _, rfl, _⟩ | ⟨b, off, cap, cs, h1, h2, h3, h4, h5, h6, h7⟩
  · simp at hx
  · exact ⟨b, off, cap, h1, hb, _, a, p, q, d, rfl, ⟨cs, h2, h3, h4, h5, h6, h7⟩, hq⟩
theorem SlAt_sl {ty : TypeId} {size b off n cap : Nat} {xs : List Value} {h : Hp} (hh : SlAt ty size b off n cap xs h) : Sl ty size (.slice (some ⟨b, off, none⟩) n cap) n xs h := by
  obtain ⟨cs, h2, h3, h4, h5, h6, h7⟩ := hh
  exact .inr ⟨b, off, cap, cs, rfl, h2, h3, h4, h5, h6, h7⟩
theorem Own.sl_of_at {w0 w : World} {ty : TypeId} {size b off n cap : Nat} {xs : List Value} {R : HProp} (h : Own w0 (SlAt ty size b off n cap xs * R) w) : Own w0 (Sl ty size (.slice (some ⟨b, off, none⟩) n cap) n xs * R) w :=
  h.cons fun _ => SlAt_sl
theorem Own.slAt_facts {w0 w : World} {ty : TypeId} {size b off n cap : Nat} {xs : List Value} {R : HProp} (h : Own w0 (SlAt ty size b off n cap xs * R) w) :
    n ≤ cap ∧ cap ≤ maxLen ∧ xs.length = n * size ∧ (∀ (i : Nat) u, xs[i]? = some u → w.cell? ⟨b, off + i, none⟩ = some u) ∧ (∀ i s, w.frozen? ⟨b, i, s⟩ = false) ∧ w0.heap.size ≤ b ∧ b < w.heap.size := by
  obtain ⟨hb, x, a, ⟨p, q, d, rfl, ⟨cs, h2, h3, h4, h5, h6, h7⟩, hq⟩⟩ := h
  have ho : Own w0 (blk b (.cells cs ty (0, 0)) * R) w := ⟨hb, _, a, p, q, d, rfl, h7, hq⟩
  refine ⟨h2, h3, h4, fun i u hi => ?_, fun i s => ho.free i s, ho.blk_at.2, ?_⟩
  · have hlt : i < xs.length := by
      rcases Nat.lt_or_ge i xs.length with h | h
      · exact h
      · rw [List.getElem?_eq_none h] at hi; cases hi
    rw [ho.cell, h6 i hlt, hi]
  · rcases Nat.lt_or_ge b w.heap.size with h | h
    · exact h
    · have := ho.blk_at.1; rw [Array.getElem?_eq_none h] at this; cases this
theorem Own.slAt_set {w0 w : World} {ty : TypeId} {size b off n cap : Nat} {xs : List Value} {R : HProp} (h : Own w0 (SlAt ty size b off n cap xs * R) w) (i : Nat) (u : Value) (hi : i < xs.length) :
    Own w0 (SlAt ty size b off n cap (xs.set i u) * R) (w.setCell ⟨b, off + i, none⟩ u) := by
  obtain ⟨hb, x, a, ⟨p, q, d, rfl, ⟨cs, h2, h3, h4, h5, h6, h7⟩, hq⟩⟩ := h
  have ho : Own w0 (blk b (.cells cs ty (0, 0)) * R) w := ⟨hb, _, a, p, q, d, rfl, h7, hq⟩
  refine (ho.setCell (i := off + i) (v := u)).cons fun y hy => ⟨_, h2, h3, by simpa using h4, by simpa using h5, fun j hj => ?_, hy⟩
  rw [Array.getElem?_setIfInBounds, List.getElem?_set]
  have hj' : j < xs.length := by simpa using hj
  have hn : n * size ≤ cap * size := Nat.mul_le_mul_right _ h2
  by_cases hij : i = j
  · subst hij; rw [if_pos rfl, if_pos rfl, if_pos hj', if_pos (by omega)]
  · rw [if_neg (by omega), if_neg hij, h6 j hj']
/-- Of each of a list's things something is owned. -/
def starL {α : Type} (f : α → HProp) : List α → HProp
  | [] => emp
  | x :: r => f x * starL f r
theorem starL_split {α : Type} (f : α → HProp) : ∀ (l : List α) (k : Nat) (h : k < l.length), starL f l = f l[k] * starL f (l.eraseIdx k)
  | x :: r, 0, _ => rfl
  | x :: r, k + 1, h => by
    have ih := starL_split f r k (by simpa using h)
    simp only [starL, List.getElem_cons_succ, List.eraseIdx_cons_succ]
    rw [ih]; ac_rfl
theorem starL_set {α : Type} (f : α → HProp) (l : List α) (k : Nat) (h : k < l.length) (y : α) : starL f (l.set k y) = f y * starL f (l.eraseIdx k) := by
  rw [starL_split f (l.set k y) k (by simpa using h)]
  simp [List.eraseIdx_set_eq]
theorem starL_snoc {α : Type} (f : α → HProp) (l : List α) (y : α) : starL f (l ++ [y]) = f y * starL f l := by
  induction l with
  | nil => rfl
  | cons x r ih => simp only [List.cons_append, starL, ih]; ac_rfl
end Go.Proofs.YtdfjbnfdknpahaaGreatDoor
/- How the arguments of a law read, as plain facts on the world in which the call begins. -/
namespace Go.Proofs.YtdfjbnfdknpahaaGreatDoor
set_option linter.unusedVariables false
set_option linter.unusedSimpArgs false
open Go.ChangeShapes Go.WideShapes Go.ChangeAt Go.RowKit Go.Deep
open Go.ChangeMaps (open_string shut_string)
variable {H : Type} {enc : TypeId × Value → H} {w : World} {b0 : Nat} {d : DataW H} {p : List MemPlace} {v : Value}
set_option maxRecDepth 100000 in
theorem arg_string (hv : Value.okWide Tryz.prog w .any b0 9 v) (h : DataW.Trod enc Tryz.prog w 0 (fun _ => true) true 9 v d p) : ∃ a : ByteArray, v = .string a ∧ a.size ≤ maxLen := by
  obtain ⟨n, e, _, _, hw⟩ := open_string Tryz.underlying9 hv h
  exact ⟨n, e, hw⟩
end Go.Proofs.YtdfjbnfdknpahaaGreatDoor
