/- Contracts of package vector, the second part; the comparison of lists. -/
import Derived.Test.YtkgnjkokbiefgaaVec
namespace Go.Proofs.Ytkgnjkokbiefgaa
set_option linter.unusedVariables false
set_option linter.unusedSimpArgs false
open Go.RowKit
def joinOf (a b : List Int) : List Int := if bothErr a b = 0 then zipMax a b else []
set_option maxHeartbeats 400000 in
theorem join_any {w0 w : World} {R : HProp} (h : Own w0 R w) (va vb : Value) (a b : List Int) (ha : Ints w va a) (hb : Reads w0 R vb b) :
    Calls Try.prog 51 #[va, vb] w fun e w' => ∃ v', e = .returned (.tuple #[v', errV (bothErr a b)]) ∧ Own w0 (IntSl v' (joinOf a b) * R) w' := by
  have HA := Lib.hid ha; have HB := Lib.hid hb; have HH := Lib.hid h
  clear ha hb h
  by_cases h0 : bothErr a b = 0
  · have he : errV (bothErr a b) = .nilIface := by rw [h0]; rfl
    have h5 := vecErr0 (bothErr0 h0).1
    have hlen : a.length = b.length := by have := bothErr0 h0; have h2 := (vecErr0 this.2).1; omega
    have H0 := Lib.hid h0; have HE := Lib.hid he; have HL := Lib.hid hlen; have H5 := Lib.hid h5
    clear h0 he hlen h5
    go_enter Try.func51, Try.ntmps51
    go_wp2_with fail
    refine (both_any _ _ a b _ HA.out (HB.out _ HH.out)).mono ?_
    rintro e w' ⟨rfl, rfl⟩
    rw [HE.out]
    go_wp2_with fail
    refine (joined_any HH.out _ _ a b HA.out HB.out HL.out (by have := H5.out.1; omega)).mono ?_
    rintro e w' ⟨v', rfl, ho⟩
    have HO := Lib.hid ho
    clear ho
    go_wp2
    go_ret2
    exact ⟨v', by rw [H0.out]; rfl, by unfold joinOf; rw [if_pos H0.out]; exact HO.out⟩
  · obtain ⟨m, he⟩ := errV_some h0
    have H0 := Lib.hid h0; have HE := Lib.hid he
    clear h0 he
    go_enter Try.func51, Try.ntmps51
    go_wp2_with fail
    refine (both_any _ _ a b _ HA.out (HB.out _ HH.out)).mono ?_
    rintro e w' ⟨rfl, rfl⟩
    rw [HE.out]
    go_wp2
    go_ret2
    exact ⟨_, by rw [HE.out]; rfl, by unfold joinOf; rw [if_neg H0.out]; exact HH.out.sl_nil _ _⟩
set_option maxHeartbeats 1000000 in
theorem sameInts_any (va vb : Value) (a b : List Int) (w : World) (ha : Ints w va a) (hb : Ints w vb b) :
    Calls Try.prog 20 #[va, vb] w fun e w' => e = .returned (.bool (a == b)) ∧ ∃ n, w' = w.drewN n := by
  obtain ⟨ad, cap, rfl, hac, hacap⟩ := ha.shape
  obtain ⟨bd, bcap, rfl, hbc, hbcap⟩ := hb.shape
  have HA := Lib.hid ha; have HB := Lib.hid hb
  clear ha hb
  by_cases hlen : a.length = b.length
  · have hl' : ((a.length : Int) != (b.length : Int)) = false := by rw [bne_eq_false_iff_eq]; omega
    have h1 : a.length ≤ b.length := by omega
    have h2 : b.length ≤ a.length := by omega
    have HL := Lib.hid hlen
    clear hlen
    go_enter Try.func20, Try.ntmps20
    go_wp2_with fail
    go_loopw [5] (fun i wr => ∃ k : Nat, k ≤ a.length ∧ i = .int .i64 k ∧ Hid ((∀ j (h : j < k) (h' : j < a.length) (h'' : j < b.length), a[j] = b[j]) ∧ ∃ n, wr = w.drewN n)) (fun i _ => a.length - (intOf i).toNat)
    case atStart => exact ⟨0, Nat.zero_le _, rfl, fun j h => by omega, 0, rfl⟩
    case round =>
      obtain ⟨k, hk, rfl, hp⟩ := hrel
      obtain ⟨n, rfl⟩ := hp.out.2
      by_cases hlt : k < a.length
      · have hlt' : k < b.length := by omega
        obtain ⟨aa, rfl, hca⟩ := HA.out.at k hlt
        obtain ⟨ab, rfl, hcb⟩ := HB.out.at k hlt'
        by_cases hle : a[k] = b[k]
        · have hb' : (a[k] != b[k]) = false := by rw [bne_eq_false_iff_eq]; exact hle
          have Hle := Lib.hid hle
          clear hle
          go_wp2_with fail
          go_quiet (fail)
          go_wp2
          go_roundw
          case rel =>
            refine ⟨k + 1, by omega, by go_num, ⟨fun j h h' h'' => ?_, _, rfl⟩⟩
            by_cases hj : j < k
            · exact hp.out.1 j hj h' h''
            · have : j = k := by omega
              subst this; exact Hle.out
          case measure => simp [intOf]; omega
        · have hb' : (a[k] != b[k]) = true := by rw [bne_iff_ne]; exact hle
          have Hle := Lib.hid hle
          clear hle
          go_wp2_with fail
          go_quiet (fail)
          go_wp2
          go_ret
          exact ⟨ret_bool (by rw [eq_comm, beq_eq_false_iff_ne]; intro e; subst e; exact Hle.out rfl), _, World.drewN_drewN _ _ _⟩
      · go_wp2
        go_ret
        exact ⟨ret_bool (by rw [eq_comm, beq_iff_eq]; exact List.ext_getElem HL.out fun j h h' => hp.out.1 j (by omega) h h'), _, rfl⟩
  · have hl' : ((a.length : Int) != (b.length : Int)) = true := by rw [bne_iff_ne]; omega
    have HL := Lib.hid hlen
    clear hlen
    go_enter Try.func20, Try.ntmps20
    go_wp2
    go_ret
    exact ⟨ret_bool (by rw [eq_comm, beq_eq_false_iff_ne]; intro e; exact HL.out (by rw [e])), 0, rfl⟩
/-- One number of a list is another. -/
def stepErr (v : List Int) (who : Int) : Nat := if vecErr v ≠ 0 then vecErr v else if isMember who = false then 1 else if v.getD who.toNat 0 = 1000000 then 4 else 0
def stepOf (v : List Int) (who : Int) : List Int := if stepErr v who = 0 then v.set who.toNat (v.getD who.toNat 0 + 1) else []
/-- A list that was written out. -/
theorem Ints_lit {w : World} {b n : Nat} {t : TypeId} {cs : Array Value} {l : List Int} (hb : b = w.heap.size) (hcs : cs.toList = l.map (Value.int .i64)) (hn : n = l.length) (hI : ∀ x ∈ l, I64 x) (hm : l.length ≤ 100000) :
    Ints (w.alloc (.cells cs t)) (.slice (some ⟨b, 0, none⟩) n n) l := by
  subst hb; subst hn
  refine ⟨?_, hI⟩
  have := Rd_alloc (w := w) (t := t) (cs := cs) (n := l.length) (by unfold maxLen; omega)
  rw [hcs] at this; exact this
theorem bothErr_swap {a b : List Int} (h : bothErr a b = 0) : bothErr b a = 0 := by
  have := bothErr0 h; simp [bothErr, this.1, this.2]
theorem bothErr_self {a b : List Int} (h : bothErr a b = 0) : bothErr a a = 0 := by
  have := bothErr0 h; simp [bothErr, this.1]
theorem leq_refl : ∀ a : List Int, leq a a = true
  | [] => rfl
  | x :: r => by simp [leq, leq_refl r]
theorem leq_antisymm {a b : List Int} (hl : a.length = b.length) (h1 : leq a b = true) (h2 : leq b a = true) : a = b :=
  List.ext_getElem hl fun i h h' => Int.le_antisymm ((leq_iff a b hl).1 h1 i h h') ((leq_iff b a hl.symm).1 h2 i h' h)
theorem Below_drewN {B : Nat} {a w : World} (h : Below B a w) (n : Nat) : Below B a (w.drewN n) := ⟨h.os, h.tape, h.output, h.size, h.block⟩
theorem Own.drewN {w0 w : World} {P : HProp} (h : Own w0 P w) (n : Nat) : Own w0 P (w.drewN n) := h.same rfl rfl rfl rfl
theorem Own.int_shape {w0 w : World} {v : Value} {l : List Int} {R : HProp} (h : Own w0 (IntSl v l * R) w) : ∃ ad cap, v = .slice ad l.length cap := by
  obtain ⟨ad, cap, h1, _⟩ := Own.rd h
  exact ⟨ad, cap, h1⟩
end Go.Proofs.Ytkgnjkokbiefgaa
