/- PictureKeeps, plainly: what steps keep; rounds, one after the other. -/
import Derived.Test.YtdeeephdojflpaaDoorPic7
namespace Go.Proofs.YtdeeephdojflpaaDoor
set_option linter.unusedVariables false
set_option linter.unusedSimpArgs false
open Go.RowKit Go.Maps
theorem pay_keep (s : Pic) (a b n : Int) : (pcPay s a b n).begun = s.begun ∧ (pcPay s a b n).gold.length = s.gold.length := by
  unfold pcPay
  split
  · exact ⟨rfl, by simp⟩
  · exact ⟨rfl, rfl⟩
theorem write_keep (s : Pic) (who : Int) : (pcWrite s who).begun = s.begun ∧ (pcWrite s who).gold = s.gold := by
  have h := write_out s who
  exact ⟨h.begun, h.gold⟩
theorem begin_keep (s : Pic) (who : Int) : (pcBegin s who).begun = (decide (pcBeginErr s who = 0) || s.begun) ∧ (pcBegin s who).gold.length = s.gold.length := by
  unfold pcBegin
  split
  · rename_i h
    have := write_keep { s with begun := true } who
    exact ⟨by rw [this.1, decide_eq_true h]; rfl, by rw [this.2]⟩
  · rename_i h
    exact ⟨by rw [decide_eq_false h]; rfl, rfl⟩
theorem pcIt_all {s : Pic} {a b : Int} {k : Nat} (hk : k ≤ 60) (h : pcComeErr (pcIt s a b k) a b ≠ 0) : pcIt s a b 60 = pcIt s a b k := by
  have := pcIt_stop h (60 - k)
  rwa [show k + (60 - k) = 60 by omega] at this
def pcDrainAk (k : Nat) (a : Int) (s : Pic) : Pic := (memN k).foldl (fun s b => pcIt s a b 60) s
theorem pcDrainAk_next (k : Nat) (a : Int) (s : Pic) : pcDrainAk (k + 1) a s = pcIt (pcDrainAk k a s) a k 60 := by unfold pcDrainAk; rw [memN_snoc, List.foldl_append, List.foldl_cons, List.foldl_nil]
def pcDrainK (n k : Nat) (s : Pic) : Pic := (memN k).foldl (fun s a => pcDrainA n a s) s
theorem pcDrainK_next (n k : Nat) (s : Pic) : pcDrainK n (k + 1) s = pcDrainAk n k (pcDrainK n k s) := by unfold pcDrainK; rw [memN_snoc, List.foldl_append, List.foldl_cons, List.foldl_nil]; exact rfl
def pcRounds (n : Nat) (s : Pic) : Nat → Pic
  | 0 => s
  | k + 1 => pcDrainK n n (pcRounds n s k)
structure PkI (all : Int) (n : Nat) (s : Pic) : Prop where
  inv : PcInv all s
  len : s.gold.length = n
theorem PkI.come {all : Int} {n : Nat} {s : Pic} (h : PkI all n s) (a b : Int) : PkI all n (pcCome s a b) := ⟨h.inv.come a b, (h.inv.come_len a b).1.trans h.len⟩
theorem PkI.it {all : Int} {n : Nat} {s : Pic} (h : PkI all n s) (a b : Int) (k : Nat) : PkI all n (pcIt s a b k) := it_keep (I := PkI all n) (fun _ a b h => h.come a b) h a b k
theorem PkI.drainAk {all : Int} {n : Nat} {s : Pic} (h : PkI all n s) (k : Nat) (a : Int) : PkI all n (pcDrainAk k a s) := fold_keep _ (PkI all n) (fun _ b h => h.it a b 60) _ s h
theorem PkI.drainK {all : Int} {n : Nat} {s : Pic} (h : PkI all n s) (m k : Nat) : PkI all n (pcDrainK m k s) := fold_keep _ (PkI all n) (fun _ a h => h.drainAk m a) _ s h
theorem PkI.rounds {all : Int} {n : Nat} {s : Pic} (h : PkI all n s) (m : Nat) : ∀ k, PkI all n (pcRounds m s k)
  | 0 => h
  | k + 1 => (h.rounds m k).drainK m m
theorem PkI.pay {all : Int} {n : Nat} {s : Pic} (h : PkI all n s) (a b x : Int) : PkI all n (pcPay s a b x) := ⟨h.inv.pay a b x, (pay_keep s a b x).2.trans h.len⟩
theorem PkI.begin {all : Int} {n : Nat} {s : Pic} (h : PkI all n s) (who : Int) : PkI all n (pcBegin s who) := ⟨h.inv.begin who, (begin_keep s who).2.trans h.len⟩
theorem PkI.end3 {all : Int} {n : Nat} {s : Pic} (h : PkI all n s) : (pcRounds n s 3).gold.sum = all ∧ pcDone (pcRounds n s 3) = s.begun := by
  obtain ⟨t, ht, _, _, h1, h2⟩ := drain_three h.inv h.len
  have : pcRounds n s 3 = t := by rw [ht]; rfl
  rw [this]
  exact ⟨h1, h2⟩
theorem gold_take (s : Pic) (k : Nat) (hk : k < s.gold.length) : (s.gold.take (k + 1)).sum = (s.gold.take k).sum + pcG s k := by
  rw [List.take_succ_eq_append_getElem hk, List.sum_append]
  unfold pcG gAt
  rw [if_pos (by omega), Int.toNat_natCast, List.getD_eq_getElem?_getD, List.getElem?_eq_getElem hk]
  simp
theorem take_sum_bd {l : List Int} (h : ∀ x ∈ l, 0 ≤ x ∧ x ≤ 1000000) (k : Nat) : 0 ≤ (l.take k).sum ∧ (l.take k).sum ≤ 1000000 * k := by
  induction k with
  | zero => simp
  | succ k ih =>
    by_cases hk : k < l.length
    · rw [List.take_succ_eq_append_getElem hk, List.sum_append]
      have := h l[k] (List.getElem_mem hk)
      simp
      omega
    · rw [List.take_of_length_le (by omega)]
      rw [List.take_of_length_le (by omega)] at ih
      omega
theorem gold_small {l : List Int} (h : ∀ x ∈ l, 0 ≤ x ∧ x ≤ 1000) (hl : l.length ≤ 5) : 0 ≤ l.sum ∧ l.sum ≤ 5000 := by
  match l, hl with
  | [], _ => simp
  | [a], _ => have := h a (by simp); simp; omega
  | [a, b], _ => have := h a (by simp); have := h b (by simp); simp; omega
  | [a, b, c], _ => have := h a (by simp); have := h b (by simp); have := h c (by simp); simp; omega
  | [a, b, c, d], _ => have := h a (by simp); have := h b (by simp); have := h c (by simp); have := h d (by simp); simp; omega
  | [a, b, c, d, e], _ => have := h a (by simp); have := h b (by simp); have := h c (by simp); have := h d (by simp); have := h e (by simp); simp; omega
/-! ### The example -/
def pkF1 : Pic := pcPay (pcNew [5, 0]) 0 1 2
def pkF2 : Pic := pcBegin pkF1 1
def pkF3 : Pic := pcCome pkF2 1 0
def pkF4 : Pic := pcCome pkF3 0 1
def pkF5 : Pic := pcCome pkF4 0 1
theorem pk_facts : pcPayErr (pcNew [5, 0]) 0 1 2 = 0 ∧ pcBeginErr pkF1 1 = 0 ∧ pcComeErr pkF2 1 0 = 0 ∧ pcComeErr pkF3 0 1 = 0 ∧ pcComeVal pkF3 0 1 = 2 ∧ pcComeErr pkF4 0 1 = 0 ∧ pcComeVal pkF4 0 1 = 0 ∧ pcDone pkF5 = true ∧ pcHad pkF5 = 3 ∧ pkF5.onWay = 2 := by decide +kernel
theorem pk_inv : PcInv 5 (pcNew [5, 0]) ∧ PcInv 5 pkF1 ∧ PcInv 5 pkF2 ∧ PcInv 5 pkF3 ∧ PcInv 5 pkF4 ∧ PcInv 5 pkF5 := by
  have h0 : PcInv 5 (pcNew [5, 0]) := pcInv_new [5, 0] (by decide) (by decide)
  exact ⟨h0, h0.pay 0 1 2, (h0.pay 0 1 2).begin 1, ((h0.pay 0 1 2).begin 1).come 1 0, (((h0.pay 0 1 2).begin 1).come 1 0).come 0 1, ((((h0.pay 0 1 2).begin 1).come 1 0).come 0 1).come 0 1⟩
end Go.Proofs.YtdeeephdojflpaaDoor
