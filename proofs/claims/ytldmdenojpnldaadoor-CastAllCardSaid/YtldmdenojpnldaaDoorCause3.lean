/- Contracts of package cause, of a member for whom words may wait: what it is in memory; ready. -/
import Derived.Test.YtldmdenojpnldaaDoorCauseP
import Derived.Test.YtldmdenojpnldaaDoorCause2
import Derived.Test.YtldmdenojpnldaaDoorStar
namespace Go.Proofs.YtldmdenojpnldaaDoor
set_option linter.unusedVariables false
set_option linter.unusedSimpArgs false
open Go.RowKit
/-- A word's box as it lies in a row: the clock's slice, and the word. -/
abbrev SdR := Value × Sd
def sdCells (r : SdR) : List Value := [.int .i64 r.2.who, .int .i64 r.2.word, r.1]
def sdRow (r : SdR) : HProp := IntSl r.1 r.2.clk
abbrev cwBlk (p mb : Nat) (me : Int) (wv : Value) : HProp := blk p (.cells #[.int .i64 me, .slice (some ⟨mb, 0, none⟩) 5 5, wv] 136 (0, 0))
def CwO (p mb : Nat) (wv : Value) (rows : List SdR) (c : Ca) : HProp :=
  cwBlk p mb c.me wv * (IntSl (.slice (some ⟨mb, 0, none⟩) 5 5) c.clk * (Sl 56 3 wv rows.length (rows.flatMap sdCells) * starL sdRow rows))
def CwP (p : Nat) (c : Ca) : HProp := hex fun (x : Nat × Value × List SdR) => pur (x.2.2.map (·.2) = c.waits) * CwO p x.1 x.2.1 x.2.2 c
theorem Own.cw_open {w0 w : World} {p : Nat} {c : Ca} {R : HProp} (h : Own w0 (CwP p c * R) w) : ∃ mb wv rows, rows.map (·.2) = c.waits ∧ Own w0 (CwO p mb wv rows c * R) w := by
  obtain ⟨⟨mb, wv, rows⟩, h⟩ := Own.ex h
  rw [star_assoc] at h
  obtain ⟨he, h⟩ := Own.pur_out h
  exact ⟨mb, wv, rows, he, h⟩
theorem Own.cw_close {w0 w : World} {p mb : Nat} {wv : Value} {rows : List SdR} {c : Ca} {R : HProp} (he : rows.map (·.2) = c.waits) (h : Own w0 (CwO p mb wv rows c * R) w) : Own w0 (CwP p c * R) w := by
  refine Own.ex_mk (mb, wv, rows) ?_
  rw [star_assoc]
  exact Own.pur_mk he h
theorem caReady_no {clk : List Int} {s : Sd} {i : Nat} (hi : i < 5) (h : caOk1 clk s i = false) : caReady clk s = false := by
  unfold caReady
  rw [List.all_eq_false]
  exact ⟨i, List.mem_range.2 hi, by rw [h]; simp⟩
theorem caReady_yes {clk : List Int} {s : Sd} (h : ∀ j, j < 5 → caOk1 clk s j = true) : caReady clk s = true := by
  unfold caReady
  rw [List.all_eq_true]
  exact fun j hj => h j (List.mem_range.1 hj)
set_option maxRecDepth 100000 in
set_option maxHeartbeats 4000000 in
theorem caReady_any {w0 w : World} {R : HProp} (p mb : Nat) (clk : List Int) (s : Sd) (cv : Value) (hs : s.clk.length = 5) (hb : ∀ i, i < 5 → 0 ≤ clk.getD i 0 ∧ clk.getD i 0 ≤ 1000000) (hF : ∀ w', Own w0 R w' → w'.cell? ⟨p, 1, none⟩ = some (.slice (some ⟨mb, 0, none⟩) 5 5) ∧ (∀ i, i < 5 → w'.cell? ⟨mb, i, none⟩ = some (.int .i64 (clk.getD i 0))) ∧ Ints w' cv s.clk) (h : Own w0 R w) :
    Calls Tryd.prog 65 #[.pointer (some ⟨p, 0, none⟩), .agg #[.int .i64 s.who, .int .i64 s.word, cv]] w fun e w' => e = .returned (.bool (caReady clk s)) ∧ Own w0 R w' := by
  obtain ⟨vad, vcap, hcv, hvc1, hvc2⟩ := (hF _ h).2.2.shape
  subst hcv
  obtain ⟨q, hq⟩ : ∃ q, q = s.who := ⟨_, rfl⟩
  rw [hs] at hvc1 hF ⊢
  rw [← hq]
  obtain ⟨b1, hb_b1⟩ : ∃ zz_, zz_ = (w).heap.size := ⟨_, rfl⟩
  obtain ⟨w1, hw_w1⟩ : ∃ zz_, zz_ = (w).alloc (.cells #[.int .i64 q, .int .i64 s.word, .slice vad 5 vcap] 56 (0, 0)) := ⟨_, rfl⟩
  have h_HO := (h).alloc (.cells #[.int .i64 q, .int .i64 s.word, .slice vad 5 vcap] 56 (0, 0))
  rw [← hb_b1, ← hw_w1] at h_HO
  have HO := Lib.hid h_HO
  clear h_HO
  have x0 := (HO.out.cell 0).trans rfl
  have x2 := (HO.out.cell 2).trans rfl
  obtain ⟨c1, hc, hvv⟩ := hF _ HO.out.drop
  have HVV := Lib.hid hvv
  clear hvv
  have H := Lib.hid h; have HF := Lib.hid hF; have HB := Lib.hid hb; have HC := Lib.hid hc; have HQ := Lib.hid hq; have HS := Lib.hid hs
  clear h hF hb hc hq hs
  go_enter Tryd.func65, Tryd.ntmps65
  go_upto_region 1 with fail
  rw [← hb_b1, ← hw_w1]
  clear hb_b1 hw_w1
  go_wp2_with fail
  go_loop [10] (fun iv => ∃ i : Nat, i ≤ 5 ∧ iv = .int .i64 i ∧ Hid (∀ j, j < i → caOk1 clk s j = true)) (fun iv => 5 - (intOf iv).toNat)
  case atStart => exact ⟨0, Nat.zero_le _, rfl, Lib.hid (fun j hj => absurd hj (by omega))⟩
  case round =>
    obtain ⟨i, hi, rfl, HJ⟩ := hrel
    by_cases hlt : i < 5
    rotate_left
    · have hall : caReady clk s = true := caReady_yes (fun j hj => HJ.out j (by omega))
      have HALL := Lib.hid hall
      clear hall
      go_wp2
      go_ret
      exact ⟨(show _ = Ending.returned (.bool true) from rfl).trans (by rw [HALL.out]), HO.out.drop⟩
    obtain ⟨aa, rfl, hca⟩ := HVV.out.at i (by rw [HS.out]; exact hlt)
    obtain ⟨z, hz⟩ : ∃ z, z = s.clk[i]'(by rw [HS.out]; exact hlt) := ⟨_, rfl⟩
    rw [← hz] at hca
    have hzg : s.clk.getD i 0 = z := by rw [hz, List.getD_eq_getElem?_getD, List.getElem?_eq_getElem (by rw [HS.out]; exact hlt)]; rfl
    have d := HC.out i hlt
    obtain ⟨y0, y1⟩ := HB.out i hlt
    obtain ⟨y, hy⟩ : ∃ y, y = clk.getD i 0 := ⟨_, rfl⟩
    rw [← hy] at d y0 y1
    have i0 : (0 : Int) ≤ (i : Int) := Int.natCast_nonneg i
    have i5 : (i : Int) < 5 := by omega
    obtain ⟨B, hB⟩ : ∃ B, B = caOk1 clk s i := ⟨_, rfl⟩
    have hB2 := hB
    unfold caOk1 at hB2
    rw [hzg, ← hy, ← HQ.out] at hB2
    by_cases hiq : (i : Int) = q
    · rw [if_pos hiq] at hB2
      have t1 : ((i : Int) == q) = true := by rw [beq_iff_eq]; exact hiq
      have t2 : ((i : Int) != q) = false := by rw [bne_eq_false_iff_eq]; exact hiq
      cases B
      · have t3 : (z != y + 1) = true := by rw [bne_iff_ne]; exact of_decide_eq_false hB2.symm
        have hno := caReady_no (s := s) (clk := clk) hlt hB.symm
        have HZ := Lib.hid hz; have HZG := Lib.hid hzg; have HY := Lib.hid hy; have HB := Lib.hid hB; have HB2 := Lib.hid hB2; have HIQ := Lib.hid hiq; have HNO := Lib.hid hno
        clear hz hzg hy hB hB2 hiq hno
        go_wp2
        go_ret
        exact ⟨(show _ = Ending.returned (.bool false) from rfl).trans (by rw [HNO.out]), HO.out.drop⟩
      · have t3 : (z != y + 1) = false := by rw [bne_eq_false_iff_eq]; exact of_decide_eq_true hB2.symm
        have hn : ∀ j, j < i + 1 → caOk1 clk s j = true := fun j hj => by
          rcases Nat.lt_succ_iff_lt_or_eq.1 hj with h | h
          · exact HJ.out j h
          · rw [h]; exact hB.symm
        have HZ := Lib.hid hz; have HZG := Lib.hid hzg; have HY := Lib.hid hy; have HB := Lib.hid hB; have HB2 := Lib.hid hB2; have HIQ := Lib.hid hiq; have HN := Lib.hid hn
        clear hz hzg hy hB hB2 hiq hn
        go_wp2
        go_round
        case rel => exact ⟨i + 1, by omega, by go_num, HN⟩
        case measure => simp [intOf]; omega
    · rw [if_neg hiq] at hB2
      have t1 : ((i : Int) == q) = false := by rw [beq_eq_false_iff_ne]; exact hiq
      have t2 : ((i : Int) != q) = true := by rw [bne_iff_ne]; exact hiq
      cases B
      · have t3 : decide (y < z) = true := by have := of_decide_eq_false hB2.symm; simp; omega
        have hno := caReady_no (s := s) (clk := clk) hlt hB.symm
        have HZ := Lib.hid hz; have HZG := Lib.hid hzg; have HY := Lib.hid hy; have HB := Lib.hid hB; have HB2 := Lib.hid hB2; have HIQ := Lib.hid hiq; have HNO := Lib.hid hno
        clear hz hzg hy hB hB2 hiq hno
        go_wp2
        go_ret
        exact ⟨(show _ = Ending.returned (.bool false) from rfl).trans (by rw [HNO.out]), HO.out.drop⟩
      · have t3 : decide (y < z) = false := by have := of_decide_eq_true hB2.symm; simp; omega
        have hn : ∀ j, j < i + 1 → caOk1 clk s j = true := fun j hj => by
          rcases Nat.lt_succ_iff_lt_or_eq.1 hj with h | h
          · exact HJ.out j h
          · rw [h]; exact hB.symm
        have HZ := Lib.hid hz; have HZG := Lib.hid hzg; have HY := Lib.hid hy; have HB := Lib.hid hB; have HB2 := Lib.hid hB2; have HIQ := Lib.hid hiq; have HN := Lib.hid hn
        clear hz hzg hy hB hB2 hiq hn
        go_wp2
        go_round
        case rel => exact ⟨i + 1, by omega, by go_num, HN⟩
        case measure => simp [intOf]; omega
end Go.Proofs.YtldmdenojpnldaaDoor
