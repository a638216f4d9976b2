/- Contracts of package view: what is wrong with members, and with a view. -/
import Derived.Test.YtdeeephdojflpaaDoorSet
import Derived.Test.YtdeeephdojflpaaDoorHeld
import Derived.Deep.DeepCutAuto
import Derived.Deep.CutBlock
namespace Go.Proofs.YtdeeephdojflpaaDoor
set_option linter.unusedVariables false
set_option linter.unusedSimpArgs false
open Go.RowKit
def memGo : Int → List Int → Nat
  | _, [] => 0
  | last, m :: r => if isMember m = false then 1 else if m ≤ last then 3 else memGo m r
def memErr (l : List Int) : Nat := if l = [] then 5 else memGo (-1) l
def viewErr (n : Int) (l : List Int) : Nat := if isCount n = false then 1 else memErr l
set_option maxRecDepth 100000 in
set_option maxHeartbeats 4000000 in
theorem members_any (v : Value) (l : List Int) (w : World) (hl : Ints w v l) :
    Calls Tryd.prog 73 #[v] w fun e w' => e = .returned (errV (memErr l)) ∧ w = w' := by
  obtain ⟨ad, cap, rfl, hlc, hcap⟩ := hl.shape
  have HL := Lib.hid hl
  clear hl
  by_cases h0 : l = []
  · have he : memErr l = 5 := by unfold memErr; rw [if_pos h0]
    have hl0 : l.length = 0 := by rw [h0]; rfl
    have t1 : ((l.length : Int) == 0) = true := by rw [beq_iff_eq]; omega
    have HE := Lib.hid he; have H0 := Lib.hid h0; have HL0 := Lib.hid hl0
    clear he h0 hl0
    go_enter Tryd.func73, Tryd.ntmps73
    go_wp2
    go_ret
    exact ⟨by rw [HE.out]; rfl, rfl⟩
  have hpos : 0 < l.length := by cases l with | nil => exact absurd rfl h0 | cons a r => simp
  have t1 : ((l.length : Int) == 0) = false := by rw [beq_eq_false_iff_ne]; omega
  have he : memErr l = memGo (-1) l := by unfold memErr; rw [if_neg h0]
  have HE := Lib.hid he; have H0 := Lib.hid h0
  clear he h0
  go_enter Tryd.func73, Tryd.ntmps73
  go_wp2_with fail
  go_loop [3, 12] (fun a i => ∃ (k : Nat) (last : Int), k ≤ l.length ∧ i = .int .i64 k ∧ a = .int .i64 last ∧ Hid (memGo last (l.drop k) = memErr l)) (fun _ i => l.length - (intOf i).toNat)
  case atStart => exact ⟨0, -1, Nat.zero_le _, rfl, rfl, Lib.hid HE.out.symm⟩
  case round =>
    obtain ⟨k, last, hk, rfl, rfl, hp⟩ := hrel
    by_cases hlt : k < l.length
    rotate_left
    · have hfin : memErr l = 0 := by
        have := hp.out
        rw [List.drop_of_length_le (by omega)] at this
        exact this.symm
      have HFIN := Lib.hid hfin
      clear hfin
      go_wp2
      go_ret
      exact ⟨by rw [HFIN.out]; rfl, rfl⟩
    obtain ⟨aa, rfl, hca⟩ := HL.out.at k hlt
    obtain ⟨x, hx⟩ : ∃ x, x = l[k] := ⟨_, rfl⟩
    rw [← hx] at hca
    have hd : l.drop k = x :: l.drop (k + 1) := by rw [hx]; exact List.drop_eq_getElem_cons hlt
    have hg := hp.out
    rw [hd, memGo] at hg
    cases hm : isMember x
    · rw [if_pos hm] at hg
      have HM := Lib.hid hm; have HG := Lib.hid hg; have HX := Lib.hid hx; have HD := Lib.hid hd
      clear hm hg hx hd
      go_wp2_with fail
      refine (member_any _ _).mono ?_
      rintro e w' ⟨rfl, rfl⟩
      rw [HM.out]
      go_wp2
      go_ret
      exact ⟨by rw [← HG.out]; rfl, rfl⟩
    rw [if_neg (by rw [hm]; simp)] at hg
    by_cases hle : x ≤ last
    · rw [if_pos hle] at hg
      have t2 : decide (x ≤ last) = true := by simpa using hle
      have HM := Lib.hid hm; have HG := Lib.hid hg; have HX := Lib.hid hx; have HD := Lib.hid hd
      clear hm hg hx hd
      go_wp2_with fail
      refine (member_any _ _).mono ?_
      rintro e w' ⟨rfl, rfl⟩
      rw [HM.out]
      go_wp2
      go_ret
      exact ⟨by rw [← HG.out]; rfl, rfl⟩
    · rw [if_neg hle] at hg
      have t2 : decide (x ≤ last) = false := by simpa using hle
      have HM := Lib.hid hm; have HG := Lib.hid hg; have HX := Lib.hid hx; have HD := Lib.hid hd
      clear hm hg hx hd
      go_wp2_with fail
      refine (member_any _ _).mono ?_
      rintro e w' ⟨rfl, rfl⟩
      rw [HM.out]
      go_wp2
      go_round
      case rel => exact ⟨k + 1, x, by omega, by go_num, rfl, HG⟩
      case measure => simp [intOf]; omega
set_option maxRecDepth 100000 in
set_option maxHeartbeats 4000000 in
theorem viewCheck_any {w0 w : World} {R : HProp} (n : Int) (v : Value) (l : List Int) (h : Own w0 R w) (hv : Reads w0 R v l) :
    Calls Tryd.prog 35 #[.agg #[.int .i64 n, v]] w fun e w' => e = .returned (errV (viewErr n l)) ∧ Own w0 R w' := by
  obtain ⟨ad, cap, hs, hlc, hcap⟩ := (hv _ h).shape
  subst hs
  have ho := h.alloc (.cells #[.int .i64 n, .slice ad l.length cap] 68)
  obtain ⟨b, hb⟩ : ∃ b, b = w.heap.size := ⟨_, rfl⟩
  obtain ⟨w1, hw1⟩ : ∃ w1, w1 = w.alloc (.cells #[.int .i64 n, .slice ad l.length cap] 68) := ⟨_, rfl⟩
  rw [← hb, ← hw1] at ho
  have hl1 : Ints w1 (.slice ad l.length cap) l := hv.more _ ho
  have c0 : w1.cell? ⟨b, 0, none⟩ = some (.int .i64 n) := by rw [ho.cell]; rfl
  have c1 : w1.cell? ⟨b, 1, none⟩ = some (.slice ad l.length cap) := by rw [ho.cell]; rfl
  have H := Lib.hid h; have HV := Lib.hid hv; have HL1 := Lib.hid hl1; have HO := Lib.hid ho
  clear h hv hl1 ho
  go_enter Tryd.func35, Tryd.ntmps35
  go_upto_region 1 with fail
  rw [← hb, ← hw1]
  clear hb hw1
  cases hc : isCount n
  · have he : viewErr n l = 1 := by unfold viewErr; rw [if_pos hc]
    have HC := Lib.hid hc; have HE := Lib.hid he
    clear hc he
    go_wp2_with fail
    refine (count_any _ _).mono ?_
    rintro e w' ⟨rfl, rfl⟩
    rw [HC.out]
    go_wp2
    go_ret
    exact ⟨by rw [HE.out]; rfl, HO.out.drop⟩
  · have he : viewErr n l = memErr l := by unfold viewErr; rw [if_neg (by rw [hc]; simp)]
    have HC := Lib.hid hc; have HE := Lib.hid he
    clear hc he
    go_wp2_with fail
    refine (count_any _ _).mono ?_
    rintro e w' ⟨rfl, rfl⟩
    rw [HC.out]
    go_wp2_with fail
    refine (members_any _ l _ HL1.out).mono ?_
    rintro e w' ⟨rfl, rfl⟩
    go_wp2
    go_ret
    exact ⟨by rw [HE.out]; rfl, HO.out.drop⟩
end Go.Proofs.YtdeeephdojflpaaDoor
