/- VectorApart: two vectors are apart just if neither is below; none is apart from itself. -/
import Derived.Test.YtclapdicocbnoaaVec2
namespace Go.Proofs.Ytclapdicocbnoaa
open Go.RowKit
set_option maxRecDepth 100000 in
set_option maxHeartbeats 4000000 in
theorem vectorApart_law (w : World) (va : Value) (a : List Int) (ha : Ints w va a) (vb : Value) (b : List Int) (hb : Ints w vb b) :
    Calls Try.prog 7 #[va, vb] w fun e w' => e = .returned (.bool true) ∧ Below w.heap.size w w' := by
  have F1 : (bothErr [1, 0, 0, 0, 0] [0, 1, 0, 0, 0] == 0 && (!leq [1, 0, 0, 0, 0] [0, 1, 0, 0, 0] && !leq [0, 1, 0, 0, 0] [1, 0, 0, 0, 0])) = true := by decide
  have F2 : errV (bothErr [1, 0, 0, 0, 0] [0, 1, 0, 0, 0]) = .nilIface := by rw [show bothErr [1, 0, 0, 0, 0] [0, 1, 0, 0, 0] = 0 from by decide]; rfl
  have HA := fun o1 o2 => Lib.hid ((ha.alloc o1).alloc o2)
  have HB := fun o1 o2 => Lib.hid ((hb.alloc o1).alloc o2)
  have G1 := Lib.hid F1; have G2 := Lib.hid F2
  clear ha hb F1 F2
  by_cases h0 : bothErr a b = 0
  · have E1 : errV (bothErr a b) = .nilIface := by rw [h0]; rfl
    have E2 : errV (bothErr b a) = .nilIface := by rw [bothErr_swap h0]; rfl
    have E3 : errV (bothErr a a) = .nilIface := by rw [bothErr_self h0]; rfl
    have hlen : a.length = b.length := by have := bothErr0 h0; have h1 := (vecErr0 this.1).1; have h2 := (vecErr0 this.2).1; omega
    have Z1 : (bothErr a b == 0) = true := by rw [h0]; rfl
    have Z2 : (bothErr b a == 0) = true := by rw [bothErr_swap h0]; rfl
    have Z3 : (bothErr a a == 0) = true := by rw [bothErr_self h0]; rfl
    have Z := Lib.hid (And.intro Z1 (And.intro Z2 Z3))
    have EE := Lib.hid (And.intro E1 (And.intro E2 E3))
    have HL := Lib.hid hlen
    clear h0 E1 E2 E3 Z1 Z2 Z3 hlen
    cases hp : leq a b <;> cases hq : leq b a
    all_goals
      have HP := Lib.hid hp; have HQ := Lib.hid hq
      clear hp hq
      go_enter Try.func7, Try.ntmps7
      go_wp2_with fail
      refine (apart_any _ _ [1, 0, 0, 0, 0] [0, 1, 0, 0, 0] _ ((Ints_lit rfl rfl rfl (by simp [I64]) (by simp)).alloc _) (Ints_lit (by simp) rfl rfl (by simp [I64]) (by simp))).mono ?_
      rintro e w' ⟨rfl, rfl⟩
      rw [G1.out, G2.out]
      go_wp2_with fail
      refine (apart_any _ _ a b _ (HA _ _).out (HB _ _).out).mono ?_
      rintro e w' ⟨rfl, rfl⟩
      rw [EE.out.1, Z.out.1, HP.out, HQ.out]
      go_wp2_with fail
      refine (apart_any _ _ b a _ (HB _ _).out (HA _ _).out).mono ?_
      rintro e w' ⟨rfl, rfl⟩
      rw [EE.out.2.1, Z.out.2.1, HP.out, HQ.out]
      go_wp2_with fail
      refine (apart_any _ _ a a _ (HA _ _).out (HA _ _).out).mono ?_
      rintro e w' ⟨rfl, rfl⟩
      rw [EE.out.2.2, Z.out.2.2, leq_refl]
      go_wp2_with fail
      refine (leq_any _ _ a b _ (HA _ _).out (HB _ _).out).mono ?_
      rintro e w' ⟨rfl, rfl⟩
      rw [EE.out.1, Z.out.1, HP.out]
      go_wp2_with fail
      refine (leq_any _ _ b a _ (HB _ _).out (HA _ _).out).mono ?_
      rintro e w' ⟨rfl, rfl⟩
      rw [EE.out.2.1, Z.out.2.1, HQ.out]
      go_wp2_with fail
    all_goals try (go_ret; exact ⟨rfl, ((Below.refl _ _).alloc (Nat.le_refl _) _).alloc (by simp) _⟩)
    refine (sameInts_any _ _ a b _ (HA _ _).out (HB _ _).out).mono ?_
    rintro e w' ⟨rfl, n, rfl⟩
    rw [show (a == b) = true from by rw [beq_iff_eq]; exact leq_antisymm HL.out HP.out HQ.out]
    go_wp2
    go_ret
    exact ⟨rfl, Below_drewN (((Below.refl _ _).alloc (Nat.le_refl _) _).alloc (by simp) _) _⟩
  · obtain ⟨m, he⟩ := errV_some h0
    have HE := Lib.hid he
    clear he h0
    go_enter Try.func7, Try.ntmps7
    go_wp2_with fail
    refine (apart_any _ _ [1, 0, 0, 0, 0] [0, 1, 0, 0, 0] _ ((Ints_lit rfl rfl rfl (by simp [I64]) (by simp)).alloc _) (Ints_lit (by simp) rfl rfl (by simp [I64]) (by simp))).mono ?_
    rintro e w' ⟨rfl, rfl⟩
    rw [G1.out, G2.out]
    go_wp2_with fail
    refine (apart_any _ _ a b _ (HA _ _).out (HB _ _).out).mono ?_
    rintro e w' ⟨rfl, rfl⟩
    rw [HE.out]
    go_wp2
    go_ret
    exact ⟨rfl, ((Below.refl _ _).alloc (Nat.le_refl _) _).alloc (by simp) _⟩
end Go.Proofs.Ytclapdicocbnoaa
