/- LeaderPlays: plain laws. -/
import Derived.Test.YteelldblfmhjlaaDoorRefLeader
import Derived.Test.YteelldblfmhjlaaDoorRefIn
import Derived.Test.YteelldblfmhjlaaDoorFifoPlays
namespace Go.Proofs.YteelldblfmhjlaaDoor
set_option linter.unusedVariables false
set_option linter.unusedSimpArgs false
open Go.RowKit
def LqB (X : Bool) (w1 : World) (c : Value) (wx : World) : Prop := c = .bool X ∧ wx = w1
/-- What holds behind the switch. -/
def LqC (w : World) (n p q vb : Nat) (x y z : Int) (told : Value) (wx : World) : Prop :=
  told = .bool true ∧ ∃ l, LdInv n l ∧ Own w (LdP p l * (RlP q l * (Tri vb [x, y, z] * emp))) wx
theorem rl_lit (n : Nat) : rlCells (ldNew n) (.slice none 0 0) = .int .i64 n :: .slice none 0 0 :: List.replicate 155 (.bool false) := by
  unfold rlCells rlCome
  have h : ∀ i, ((ldNew n).mem.getD i ([], 0)).1 = [] := fun i => by
    simp [ldNew, List.getElem?_replicate]
    split <;> rfl
  simp only [h]
  have e : (List.range 155).map (fun c : Nat => Value.bool (decide (((c % 31 : Nat) : Int) ∈ ([] : List Int)))) = List.replicate 155 (.bool false) := by
    apply List.ext_getElem?
    intro i
    rw [List.getElem?_map, List.getElem?_replicate]
    by_cases hi : i < 155
    · rw [List.getElem?_range hi, if_pos hi]; simp
    · rw [List.getElem?_eq_none (by simp; omega), if_neg hi]; rfl
  rw [e]
  simp [ldNew]
theorem rlStart {w0 w : World} {q n : Nat} {R : HProp} (h : Own w0 (blk q (.cells #[.int .i64 n, .slice none 0 0, .bool false, .bool false, .bool false, .bool false, .bool false, .bool false, .bool false, .bool false, .bool false, .bool false, .bool false, .bool false, .bool false, .bool false, .bool false, .bool false, .bool false, .bool false, .bool false, .bool false, .bool false, .bool false, .bool false, .bool false, .bool false, .bool false, .bool false, .bool false, .bool false, .bool false, .bool false, .bool false, .bool false, .bool false, .bool false, .bool false, .bool false, .bool false, .bool false, .bool false, .bool false, .bool false, .bool false, .bool false, .bool false, .bool false, .bool false, .bool false, .bool false, .bool false, .bool false, .bool false, .bool false, .bool false, .bool false, .bool false, .bool false, .bool false, .bool false, .bool false, .bool false, .bool false, .bool false, .bool false, .bool false, .bool false, .bool false, .bool false, .bool false, .bool false, .bool false, .bool false, .bool false, .bool false, .bool false, .bool false, .bool false, .bool false, .bool false, .bool false, .bool false, .bool false, .bool false, .bool false, .bool false, .bool false, .bool false, .bool false, .bool false, .bool false, .bool false, .bool false, .bool false, .bool false, .bool false, .bool false, .bool false, .bool false, .bool false, .bool false, .bool false, .bool false, .bool false, .bool false, .bool false, .bool false, .bool false, .bool false, .bool false, .bool false, .bool false, .bool false, .bool false, .bool false, .bool false, .bool false, .bool false, .bool false, .bool false, .bool false, .bool false, .bool false, .bool false, .bool false, .bool false, .bool false, .bool false, .bool false, .bool false, .bool false, .bool false, .bool false, .bool false, .bool false, .bool false, .bool false, .bool false, .bool false, .bool false, .bool false, .bool false, .bool false, .bool false, .bool false, .bool false, .bool false, .bool false, .bool false, .bool false, .bool false, .bool false, .bool false, .bool false, .bool false, .bool false] 91 (0, 0)) * R) w) : Own w0 (RlP q (ldNew n) * R) w :=
  rlNew (by rw [rl_lit]; rfl) h
/-- Two numbers in a block. -/
def Pr2 (b : Nat) (x y : Int) : HProp := blk b (.cells #[.int .i64 x, .int .i64 y] 93 (0, 0))
theorem Own.pr2 {w0 w : World} {b : Nat} {x y : Int} {R : HProp} (h : Own w0 (Pr2 b x y * R) w) : w.cell? ⟨b, 0, none⟩ = some (.int .i64 x) ∧ w.cell? ⟨b, 1, none⟩ = some (.int .i64 y) ∧ ∀ i s, w.frozen? ⟨b, i, s⟩ = false :=
  ⟨by rw [Own.cell h]; rfl, by rw [Own.cell h]; rfl, fun i s => Own.free h i s⟩
theorem lq_facts {w0 w1 : World} {tb q vb : Nat} {a b x y z : Int} {l : Ld} {v : Value} {Q R : HProp} (h : Own w0 (Pr2 tb a b * (RlO q l v * (Q * (Tri vb [x, y, z] * R)))) w1) :
    w1.cell? ⟨q, 1, none⟩ = some v ∧ w1.frozen? ⟨q, 1, none⟩ = false ∧ w1.cell? ⟨vb, 1, none⟩ = some (.int .i64 y) ∧ w1.cell? ⟨vb, 2, none⟩ = some (.int .i64 z) ∧ w1.cell? ⟨tb, 0, none⟩ = some (.int .i64 a) ∧ w1.cell? ⟨tb, 1, none⟩ = some (.int .i64 b) ∧ w1.frozen? ⟨tb, 0, none⟩ = false ∧ w1.frozen? ⟨tb, 1, none⟩ = false := by
  have h1 := (h.perm (star_left_comm _ _ _)).rl_facts
  have h2 := h.perm (show _ = Tri vb [x, y, z] * (Pr2 tb a b * (RlO q l v * (Q * R))) by ac_rfl)
  have h3 := h.pr2
  exact ⟨h1.2.1, h1.2.2.2 _ _, h2.tri_cell 1 (by simp), h2.tri_cell 2 (by simp), h3.1, h3.2.1, h3.2.2 _ _, h3.2.2 _ _⟩
theorem ldSay_err1 {l : Ld} {z : Int} (h : isWord z = false) : ldSayErr l z = 1 ∧ ldSay l z = l ∧ ldSayOut l z = (0, 0) := by
  have e : ldSayErr l z = 1 := by unfold ldSayErr; rw [if_pos h]
  exact ⟨e, by unfold ldSay; rw [if_neg (by rw [e]; simp)], by unfold ldSayOut; rw [if_neg (by rw [e]; simp)]⟩
theorem ldSay_err7 {l : Ld} {z : Int} (h : isWord z = true) (h2 : z ∈ l.words) : ldSayErr l z = 7 ∧ ldSay l z = l ∧ ldSayOut l z = (0, 0) := by
  have e : ldSayErr l z = 7 := by unfold ldSayErr; rw [if_neg (by rw [h]; simp), if_pos h2]
  exact ⟨e, by unfold ldSay; rw [if_neg (by rw [e]; simp)], by unfold ldSayOut; rw [if_neg (by rw [e]; simp)]⟩
theorem ldSay_err0 {l : Ld} {z : Int} (h : isWord z = true) (h2 : z ∉ l.words) : ldSayErr l z = 0 ∧ ldSay l z = ⟨l.words ++ [z], l.mem⟩ ∧ ldSayOut l z = ((l.words.length : Int), z) := by
  have e : ldSayErr l z = 0 := by unfold ldSayErr; rw [if_neg (by rw [h]; simp), if_neg h2]
  exact ⟨e, by unfold ldSay; rw [if_pos e], by unfold ldSayOut; rw [if_pos e]⟩
theorem Own.pr2_put {w0 w : World} {b : Nat} {x y : Int} {R : HProp} (x' y' : Int) (h : Own w0 (Pr2 b x y * R) w) : Own w0 (Pr2 b x' y' * R) ((w.setCell ⟨b, 0, none⟩ (.int .i64 x')).setCell ⟨b, 1, none⟩ (.int .i64 y')) :=
  (Own.setCell (i := 1) (v := .int .i64 y') (Own.setCell (i := 0) (v := .int .i64 x') h)).perm rfl
/-- Behind the reference's own word. -/
def LqD (w : World) (p q vb tb : Nat) (x y z : Int) (l : Ld) (e : Value) (wx : World) : Prop :=
  e = .int .i64 (ldSayErr l z : Nat) ∧ Own w (Pr2 tb (ldSayOut l z).1 (ldSayOut l z).2 * (RlP q (ldSay l z) * (LdP p l * (Tri vb [x, y, z] * emp)))) wx
theorem LqD.mk {w : World} {p q vb tb : Nat} {x y z : Int} {l l' : Ld} {E : Nat} {a b : Int} {wx : World} {v : Value} (h : ldSayErr l z = E ∧ ldSay l z = l' ∧ ldSayOut l z = (a, b)) (ho : Own w (Pr2 tb a b * (RlO q l' v * (LdP p l * (Tri vb [x, y, z] * emp)))) wx) : LqD w p q vb tb x y z l (.int .i64 E) wx := by
  obtain ⟨rfl, rfl, h3⟩ := h
  refine ⟨rfl, ?_⟩
  rw [h3]
  exact ((ho.perm (star_left_comm _ _ _)).rl_close).perm (star_left_comm _ _ _)
def LqT (w : World) (p q vb W : Nat) (x y z : Int) (l : Ld) (e want : Value) (wx : World) : Prop :=
  e = .int .i64 (ldErr l y z : Nat) ∧ ∃ ad cap, Own w (RlO q (ldTake l y z) (.slice ad W cap) * (LdP p l * (Tri vb [x, y, z] * emp))) wx ∧ (∀ w', Ints w' (.slice ad W cap) l.words → Ints w' want (ldOut l y z)) ∧ ∃ ad' n' cap', want = .slice ad' n' cap'
theorem ldOut_no {l : Ld} {y z : Int} {E : Nat} (h : ldErr l y z = E) (hE : E ≠ 0) : ldTake l y z = l ∧ ldOut l y z = [] := by
  subst h
  exact ⟨by unfold ldTake; rw [if_neg hE], by unfold ldOut; rw [if_neg hE]⟩
theorem rl_ad {l : Ld} {r : Nat} (hr : r < l.mem.length) : ldGet l (r : Int) = l.mem.getD r ([], 0) := by unfold ldGet; rw [Int.toNat_natCast]
theorem LqT.no {w : World} {p q vb W cap : Nat} {x y z : Int} {l : Ld} {ad : Option Addr} {E : Nat} {wx : World} (h : ldErr l y z = E) (hE : E ≠ 0) (ho : Own w (RlO q l (.slice ad W cap) * (LdP p l * (Tri vb [x, y, z] * emp))) wx) : LqT w p q vb W x y z l (.int .i64 E) (.slice none 0 0) wx := by
  obtain ⟨h1, h2⟩ := ldOut_no h hE
  refine ⟨by rw [h], ad, cap, by rw [h1]; exact ho, fun w' _ => by rw [h2]; exact Ints_nil w', _, _, _, rfl⟩
/-- Where the first is that has not come: once more, behind what came. -/
theorem ldInv_far {n : Nat} {l : Ld} (h : LdInv n l) {r : Nat} {z : Int} (he : ldErr l (r : Int) z = 0) :
    ldFar l r z ≤ l.words.length ∧ (ldGet l r).2 ≤ ldFar l r z ∧ (∀ i : Nat, i < ldFar l r z → (i : Int) ∈ setPut (ldGet l r).1 z) ∧ ((ldFar l r z : Nat) : Int) ∉ setPut (ldGet l r).1 z := by
  obtain ⟨h1, h2, h3⟩ := ldErr0 he
  have hg := ldGet_mem h1
  have hf := h.fit.2.2 _ hg
  have hh := h.had _ hg
  have hC : ∀ x ∈ setPut (ldGet l r).1 z, 0 ≤ x ∧ x < (l.words.length : Int) := fun x hx => by
    rcases mem_setPut.1 hx with hx | rfl
    · exact hf.2 x hx
    · omega
  have hle := ldAdv_le (setPut (ldGet l r).1 z) l.words.length (fun x hx => (hC x hx).2) (l.words.length - (ldGet l r).2) (ldGet l r).2 hf.1
  have hs := adv_spec (setPut (ldGet l r).1 z) l.words.length (fun x hx => (hC x hx).2) (l.words.length - (ldGet l r).2) (ldGet l r).2 (by omega)
  refine ⟨hle.2, hle.1, fun i hi => ?_, hs.2⟩
  by_cases e : i < (ldGet l r).2
  · exact mem_setPut.2 (.inl (hh.1 i e))
  · exact hs.1 i (by omega) hi
end Go.Proofs.YteelldblfmhjlaaDoor
