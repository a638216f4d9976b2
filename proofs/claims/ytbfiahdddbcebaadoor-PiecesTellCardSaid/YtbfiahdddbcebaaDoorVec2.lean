/- Contracts of package vector, the second part; the comparison of lists. -/
import Derived.Test.YtbfiahdddbcebaaDoorVec
namespace Go.Proofs.YtbfiahdddbcebaaDoor
set_option linter.unusedVariables false
set_option linter.unusedSimpArgs false
open Go.RowKit
def joinOf (a b : List Int) : List Int := if bothErr a b = 0 then zipMax a b else []
set_option maxHeartbeats 1000000 in
theorem sameInts_any (va vb : Value) (a b : List Int) (w : World) (ha : Ints w va a) (hb : Ints w vb b) :
    Calls Tryd.prog 20 #[va, vb] w fun e w' => e = .returned (.bool (a == b)) ∧ ∃ n, w' = w.drewN n := by
  obtain ⟨ad, cap, rfl, hac, hacap⟩ := ha.shape
  obtain ⟨bd, bcap, rfl, hbc, hbcap⟩ := hb.shape
  have HA := Lib.hid ha; have HB := Lib.hid hb
  clear ha hb
  by_cases hlen : a.length = b.length
  · have hl' : ((a.length : Int) != (b.length : Int)) = false := by rw [bne_eq_false_iff_eq]; omega
    have h1 : a.length ≤ b.length := by omega
    have h2 : b.length ≤ a.length := by omega
    have HL := Lib.hid hlen
    clear hlen
    go_enter Tryd.func20, Tryd.ntmps20
    go_wp2_with fail
    go_loopw [5] (fun i wr => ∃ k : Nat, k ≤ a.length ∧ i = .int .i64 k ∧ Hid ((∀ j (h : j < k) (h' : j < a.length) (h'' : j < b.length), a[j] = b[j]) ∧ ∃ n, wr = w.drewN n)) (fun i _ => a.length - (intOf i).toNat)
    case atStart => exact ⟨0, Nat.zero_le _, rfl, fun j h => by omega, 0, rfl⟩
    case round =>
      obtain ⟨k, hk, rfl, hp⟩ := hrel
      obtain ⟨n, rfl⟩ := hp.out.2
      by_cases hlt : k < a.length
      · have hlt' : k < b.length := by omega
        obtain ⟨aa, rfl, hca⟩ := HA.out.at k hlt
        obtain ⟨ab, rfl, hcb⟩ := HB.out.at k hlt'
        by_cases hle : a[k] = b[k]
        · have hb' : (a[k] != b[k]) = false := by rw [bne_eq_false_iff_eq]; exact hle
          have Hle := Lib.hid hle
          clear hle
          go_wp2_with fail
          go_quiet (fail)
          go_wp2
          go_roundw
          case rel =>
            refine ⟨k + 1, by omega, by go_num, ⟨fun j h h' h'' => ?_, _, rfl⟩⟩
            by_cases hj : j < k
            · exact hp.out.1 j hj h' h''
            · have : j = k := by omega
              subst this; exact Hle.out
          case measure => simp [intOf]; omega
        · have hb' : (a[k] != b[k]) = true := by rw [bne_iff_ne]; exact hle
          have Hle := Lib.hid hle
          clear hle
          go_wp2_with fail
          go_quiet (fail)
          go_wp2
          go_ret
          exact ⟨ret_bool (by rw [eq_comm, beq_eq_false_iff_ne]; intro e; subst e; exact Hle.out rfl), _, World.drewN_drewN _ _ _⟩
      · go_wp2
        go_ret
        exact ⟨ret_bool (by rw [eq_comm, beq_iff_eq]; exact List.ext_getElem HL.out fun j h h' => hp.out.1 j (by omega) h h'), _, rfl⟩
  · have hl' : ((a.length : Int) != (b.length : Int)) = true := by rw [bne_iff_ne]; omega
    have HL := Lib.hid hlen
    clear hlen
    go_enter Tryd.func20, Tryd.ntmps20
    go_wp2
    go_ret
    exact ⟨ret_bool (by rw [eq_comm, beq_eq_false_iff_ne]; intro e; exact HL.out (by rw [e])), 0, rfl⟩
/-- One number of a list is another. -/
def stepErr (v : List Int) (who : Int) : Nat := if vecErr v ≠ 0 then vecErr v else if isMember who = false then 1 else if v.getD who.toNat 0 = 1000000 then 4 else 0
def stepOf (v : List Int) (who : Int) : List Int := if stepErr v who = 0 then v.set who.toNat (v.getD who.toNat 0 + 1) else []
/-- A list that was written out. -/
theorem Ints_lit {w : World} {b n : Nat} {t : TypeId} {cs : Array Value} {l : List Int} (hb : b = w.heap.size) (hcs : cs.toList = l.map (Value.int .i64)) (hn : n = l.length) (hI : ∀ x ∈ l, I64 x) (hm : l.length ≤ 100000) :
    Ints (w.alloc (.cells cs t)) (.slice (some ⟨b, 0, none⟩) n n) l := by
  subst hb; subst hn
  refine ⟨?_, hI⟩
  have := Rd_alloc (w := w) (t := t) (cs := cs) (n := l.length) (by unfold maxLen; omega)
  rw [hcs] at this; exact this
theorem bothErr_swap {a b : List Int} (h : bothErr a b = 0) : bothErr b a = 0 := by
  have := bothErr0 h; simp [bothErr, this.1, this.2]
theorem bothErr_self {a b : List Int} (h : bothErr a b = 0) : bothErr a a = 0 := by
  have := bothErr0 h; simp [bothErr, this.1]
theorem leq_refl : ∀ a : List Int, leq a a = true
  | [] => rfl
  | x :: r => by simp [leq, leq_refl r]
theorem leq_antisymm {a b : List Int} (hl : a.length = b.length) (h1 : leq a b = true) (h2 : leq b a = true) : a = b :=
  List.ext_getElem hl fun i h h' => Int.le_antisymm ((leq_iff a b hl).1 h1 i h h') ((leq_iff b a hl.symm).1 h2 i h' h)
theorem Below_drewN {B : Nat} {a w : World} (h : Below B a w) (n : Nat) : Below B a (w.drewN n) := ⟨h.os, h.tape, h.output, h.size, h.block⟩
theorem Own.drewN {w0 w : World} {P : HProp} (h : Own w0 P w) (n : Nat) : Own w0 P (w.drewN n) := h.same rfl rfl rfl rfl
theorem Own.int_shape {w0 w : World} {v : Value} {l : List Int} {R : HProp} (h : Own w0 (IntSl v l * R) w) : ∃ ad cap, v = .slice ad l.length cap := by
  obtain ⟨ad, cap, h1, _⟩ := Own.rd h
  exact ⟨ad, cap, h1⟩
end Go.Proofs.YtbfiahdddbcebaaDoor
