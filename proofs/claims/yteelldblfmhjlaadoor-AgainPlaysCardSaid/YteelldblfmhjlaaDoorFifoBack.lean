/- FifoBack: words that come the wrong way round wait, and with the first all are heard. -/
import Derived.Test.YteelldblfmhjlaaDoorFifo
namespace Go.Proofs.YteelldblfmhjlaaDoor
set_option linter.unusedVariables false
set_option linter.unusedSimpArgs false
open Go.RowKit
/-- What drains: c words from the number nx on. -/
theorem drain_spec (who : Int) (v : Nat → Int) : ∀ (c : Nat) (fuel : Nat) (nx : Int) (m : List ((Int × Int) × Int)), c ≤ fuel → (m.map (·.1)).Nodup →
    (∀ i, i < c → mget m (who, nx + (i : Int)) = some (v i)) → mget m (who, nx + (c : Int)) = none →
    (fiDrain who fuel nx m).1 = (List.range c).map v ∧ (fiDrain who fuel nx m).2.1 = nx + c ∧ (fiDrain who fuel nx m).2.2.length + c = m.length ∧
    ((fiDrain who fuel nx m).2.2.map (·.1)).Nodup ∧ (∀ q ∈ (fiDrain who fuel nx m).2.2, q ∈ m) ∧
    (∀ y, mget (fiDrain who fuel nx m).2.2 y = if y.1 = who ∧ nx ≤ y.2 ∧ y.2 < nx + c then none else mget m y)
  | 0, fuel, nx, m, _, hn, _, h0 => by
    have e : fiDrain who fuel nx m = ([], nx, m) := by
      cases fuel with
      | zero => rfl
      | succ j => unfold fiDrain; simp at h0; rw [h0]
    rw [e]
    refine ⟨rfl, by simp, by simp, hn, fun q hq => hq, fun y => ?_⟩
    rw [if_neg (by rintro ⟨_, _, _⟩; omega)]
  | c + 1, 0, nx, m, hf, _, _, _ => by omega
  | c + 1, fuel + 1, nx, m, hf, hn, hs, h0 => by
    have h1 := hs 0 (by omega)
    simp at h1
    have ih := drain_spec who (fun i => v (i + 1)) c fuel (nx + 1) (mdel m (who, nx)) (by omega) (mdel_nodup hn) (fun i hi => by
      rw [mget_mdel m hn, if_neg (by intro e; injection e with _ e; omega)]
      have := hs (i + 1) (by omega)
      rw [← this]; congr 2; omega) (by
      rw [mget_mdel m hn, if_neg (by intro e; injection e with _ e; omega)]
      rw [← h0]; congr 2; omega)
    have e : fiDrain who (fuel + 1) nx m = (v 0 :: (fiDrain who fuel (nx + 1) (mdel m (who, nx))).1, (fiDrain who fuel (nx + 1) (mdel m (who, nx))).2.1, (fiDrain who fuel (nx + 1) (mdel m (who, nx))).2.2) := by
      rw [fiDrain, h1]
    rw [e]
    obtain ⟨i1, i2, i3, i4, i5, i6⟩ := ih
    refine ⟨?_, ?_, ?_, i4, fun q hq => mem_mdel (i5 q hq), fun y => ?_⟩
    · simp only [i1]
      rw [List.range_succ_eq_map]; simp [Function.comp_def]
    · simp only [i2]; omega
    · simp only
      have := mdel_len h1
      omega
    · simp only [i6, mget_mdel m hn]
      by_cases hy : y.1 = who ∧ nx + 1 ≤ y.2 ∧ y.2 < nx + 1 + c
      · rw [if_pos hy, if_pos ⟨hy.1, by omega, by omega⟩]
      · rw [if_neg hy]
        by_cases hy2 : (who, nx) = y
        · rw [if_pos hy2, if_pos]
          subst hy2; exact ⟨rfl, by simp, by simp; omega⟩
        · rw [if_neg hy2, if_neg]
          rintro ⟨g1, g2, g3⟩
          refine hy ⟨g1, ?_, by omega⟩
          have : y.2 ≠ nx := fun e2 => hy2 (Prod.ext g1.symm e2.symm)
          omega
def fbKey (who : Int) (n i : Nat) : (Int × Int) × Int := ((who, ((n - i : Nat) : Int)), ((n - i : Nat) : Int))
/-- When n down to k + 1 have come. -/
def fbAt (who : Int) (n k : Nat) : Fi := ⟨[1, 1, 1, 1, 1], (List.range (n - k)).map (fbKey who n)⟩
theorem fb_mget (who : Int) (n c : Nat) (hc : c ≤ n) (x : Nat) : mget ((List.range c).map (fbKey who n)) (who, (x : Int)) = if n - c < x ∧ x ≤ n then some (x : Int) else none := by
  induction c with
  | zero =>
    rw [if_neg (by omega)]; rfl
  | succ c ih =>
    rw [List.range_succ, List.map_append]
    have key : ∀ (a : List ((Int × Int) × Int)) (p : (Int × Int) × Int) (z : Int × Int), mget (a ++ [p]) z = match mget a z with | some v => some v | none => if p.1 = z then some p.2 else none := by
      intro a p z
      induction a with
      | nil => simp [mget]
      | cons q r ihh =>
        simp only [List.cons_append]; unfold mget
        by_cases e : q.1 = z <;> simp [e, ihh]
    simp only [List.map_cons, List.map_nil]
    rw [key, ih (by omega)]
    by_cases h : n - c < x ∧ x ≤ n
    · have h' : n - (c + 1) < x ∧ x ≤ n := ⟨by omega, h.2⟩
      simp only [if_pos h, if_pos h']
    · simp only [if_neg h]
      by_cases hx : n - c = x
      · subst hx
        have h' : n - (c + 1) < n - c ∧ n - c ≤ n := ⟨by omega, by omega⟩
        rw [if_pos h']
        simp [fbKey]
      · have h' : ¬ (n - (c + 1) < x ∧ x ≤ n) := by omega
        rw [if_neg h', if_neg]
        unfold fbKey
        intro e; injection e with _ e; omega
theorem fb_nodup (who : Int) (n c : Nat) (hc : c ≤ n) : (((List.range c).map (fbKey who n)).map (·.1)).Nodup := by
  rw [List.map_map]
  refine List.pairwise_map.2 ?_
  refine List.Pairwise.imp_of_mem ?_ (List.pairwise_lt_range (n := c))
  intro a b ha hb hlt e
  simp [fbKey] at e ha hb
  omega
theorem fb_fit (who : Int) (n k : Nat) (hn : n ≤ 30) : fiFit (fbAt who n k) := by
  refine ⟨rfl, by simp [fbAt], by simp [fbAt]; omega, fun p hp => ?_⟩
  simp [fbAt] at hp
  obtain ⟨i, hi, rfl⟩ := hp
  simp [fbKey]; omega
theorem fb_nx (who : Int) (n k : Nat) (hw : isMember who = true) : fiN (fbAt who n k) who = 1 := by
  have hw' : 0 ≤ who ∧ who < 5 := by simpa [isMember] using hw
  obtain ⟨j, rfl⟩ := Int.eq_ofNat_of_zero_le hw'.1
  have : j = 0 ∨ j = 1 ∨ j = 2 ∨ j = 3 ∨ j = 4 := by omega
  rcases this with rfl | rfl | rfl | rfl | rfl <;> rfl
theorem fb_err (who : Int) (n k : Nat) (hw : isMember who = true) (hn : n ≤ 30) (hk1 : 1 ≤ k) (hk : k ≤ n) : fiErr (fbAt who n k) who k k = 0 := by
  have hhas : fiHas (fbAt who n k) who k = false := by
    unfold fiHas
    rw [fb_nx who n k hw]
    have := fb_mget who n (n - k) (by omega) k
    rw [if_neg (by omega)] at this
    show ((mget ((List.range (n - k)).map (fbKey who n)) (who, (k : Int))).isSome || _) = false
    rw [this]; simp; omega
  have hword : isWord (k : Int) = true := by simp [isWord]; omega
  have e1 : ¬ (k : Int) < 1 := by omega
  have e2 : ¬ (1000000 : Int) < (k : Int) := by omega
  have e3 : ¬ 40 ≤ (fbAt who n k).waits.length := by simp [fbAt]; omega
  unfold fiErr
  simp [hw, hhas, hword, e1, e2, e3]
theorem fb_put (who : Int) (n k : Nat) (hk1 : 1 ≤ k) (hk : k ≤ n) : mput (fbAt who n k).waits (who, (k : Int)) (k : Int) = (fbAt who n (k - 1)).waits := by
  unfold fbAt
  simp only
  have hno : mget ((List.range (n - k)).map (fbKey who n)) (who, (k : Int)) = none := by rw [fb_mget who n (n - k) (by omega) k, if_neg (by omega)]
  rw [mput_new (mget_none.1 hno), show n - (k - 1) = n - k + 1 from by omega, List.range_succ, List.map_append]
  have : n - (n - k) = k := by omega
  simp [fbKey, this]
theorem fb_take (who : Int) (n k : Nat) (hw : isMember who = true) (hn : n ≤ 30) (hk1 : 2 ≤ k) (hk : k ≤ n) : fiTake (fbAt who n k) who k k = fbAt who n (k - 1) ∧ fiOut (fbAt who n k) who k k = [] := by
  have he := fb_err who n k hw hn (by omega) hk
  have hd : fiEnd (fbAt who n k) who k k = ([], 1, (fbAt who n (k - 1)).waits) := by
    unfold fiEnd
    rw [fb_nx who n k hw, fb_put who n k (by omega) hk]
    have h1 : mget (fbAt who n (k - 1)).waits (who, 1) = none := by
      have := fb_mget who n (n - (k - 1)) (by omega) 1
      rw [if_neg (by omega)] at this
      exact this
    cases (fbAt who n (k - 1)).waits.length with
    | zero => rfl
    | succ j => rw [fiDrain, h1]
  unfold fiTake fiOut
  rw [if_pos he, if_pos he, hd]
  refine ⟨?_, rfl⟩
  have hw' : 0 ≤ who ∧ who < 5 := by simpa [isMember] using hw
  obtain ⟨j, rfl⟩ := Int.eq_ofNat_of_zero_le hw'.1
  have : j = 0 ∨ j = 1 ∨ j = 2 ∨ j = 3 ∨ j = 4 := by omega
  rcases this with rfl | rfl | rfl | rfl | rfl <;> rfl
theorem fb_last (who : Int) (n : Nat) (hw : isMember who = true) (hn : n ≤ 30) (hn1 : 1 ≤ n) :
    (fiOut (fbAt who n 1) who 1 1).length = n ∧ (fiTake (fbAt who n 1) who 1 1).waits.length = 0 ∧ (fiTake (fbAt who n 1) who 1 1).next = [1, 1, 1, 1, 1].set who.toNat ((n : Int) + 1) := by
  have he := fb_err who n 1 hw hn (by omega) hn1
  simp only [Int.natCast_one] at he
  have hput := fb_put who n 1 (by omega) hn1
  simp only [Int.natCast_one] at hput
  have hl : (fbAt who n (1 - 1)).waits.length = n := by simp [fbAt]
  have hd := drain_spec who (fun i => (i : Int) + 1) n (fbAt who n (1 - 1)).waits.length 1 (fbAt who n (1 - 1)).waits (by omega) (fb_nodup who n (n - (1 - 1)) (by omega)) (fun i hi => by
    have := fb_mget who n (n - (1 - 1)) (by omega) (i + 1)
    rw [if_pos (by omega)] at this
    rw [show (1 : Int) + (i : Int) = ((i + 1 : Nat) : Int) from by omega]
    rw [show (fbAt who n (1 - 1)).waits = (List.range (n - (1 - 1))).map (fbKey who n) from rfl, this]
    simp) (by
    have := fb_mget who n (n - (1 - 1)) (by omega) (n + 1)
    rw [if_neg (by omega)] at this
    rw [show (1 : Int) + (n : Int) = ((n + 1 : Nat) : Int) from by omega]
    exact this)
  have hE : fiEnd (fbAt who n 1) who 1 1 = fiDrain who (fbAt who n (1 - 1)).waits.length 1 (fbAt who n (1 - 1)).waits := by
    unfold fiEnd
    rw [fb_nx who n 1 hw, hput]
  unfold fiTake fiOut
  rw [if_pos he, if_pos he, hE]
  refine ⟨by rw [hd.1]; simp, by have := hd.2.2.1; simp only at this ⊢; omega, ?_⟩
  simp only [hd.2.1]
  rw [show (1 : Int) + (n : Int) = (n : Int) + 1 from by omega]; rfl
theorem isMember_cases {who : Int} (h : isMember who = false) : who < 0 ∨ (¬ who < 0 ∧ 4 < who) := by
  simp [isMember] at h; omega
end Go.Proofs.YteelldblfmhjlaaDoor
