/- Contracts of package picture: New. -/
import Derived.Test.YtdeeephdojflpaaDoorPic6
namespace Go.Proofs.YtdeeephdojflpaaDoor
set_option linter.unusedVariables false
set_option linter.unusedSimpArgs false
open Go.RowKit Go.Maps
def isGold (n : Int) : Bool := decide (0 ≤ n) && decide (n ≤ 1000)
def newBad (l : List Int) : Bool := !isGroup l.length || l.any fun n => !isGold n
theorem mapw_made : ∀ w, (Instr.makeMap 152 none).run Tryd.prog w = .ok (.map (some w.heap.size)) (w.alloc (.map #[] 0)) := fun _ => by kernel_rfl
theorem mapo_made : ∀ w, (Instr.makeMap 154 none).run Tryd.prog w = .ok (.map (some w.heap.size)) (w.alloc (.map #[] 0)) := fun _ => by kernel_rfl
theorem mapgi_made : ∀ w, (Instr.makeMap 153 none).run Tryd.prog w = .ok (.map (some w.heap.size)) (w.alloc (.map #[] 0)) := fun _ => by kernel_rfl
set_option maxRecDepth 100000 in
set_option maxHeartbeats 4000000 in
theorem gold_any {w : World} (a : Int) :
    Calls Tryd.prog 89 #[.int .i64 a] w fun e w' => e = .returned (.bool (isGold a)) ∧ w = w' := by
  go_enter Tryd.func89, Tryd.ntmps89
  go_wp2
  all_goals (go_ret; exact ⟨ret_bool (by unfold isGold; simp; try omega), rfl⟩)
set_option maxRecDepth 100000 in
set_option maxHeartbeats 4000000 in
theorem gold1_any {w : World} (a : Int) :
    Calls Tryd.prog 88 #[.int .i64 a] w fun e w' => e = .returned (.bool (!isGold a)) ∧ w = w' := by
  go_enter Tryd.func88, Tryd.ntmps88
  go_wp2_with fail
  refine (gold_any _).mono ?_
  rintro e w' ⟨rfl, rfl⟩
  go_wp2
  go_ret
  exact ⟨rfl, rfl⟩
set_option maxRecDepth 100000 in
set_option maxHeartbeats 4000000 in
theorem indexGold_any {w : World} (v : Value) (l : List Int) (hl : Ints w v l) :
    Calls Tryd.prog 101 #[v, .func (.func 88) #[] #[]] w fun e w' => e = .returned (.int .i64 (whereIs (fun n => !isGold n) l)) ∧ w = w' := by
  obtain ⟨ad, cap, rfl, hlc, hcap⟩ := hl.shape
  have HL := Lib.hid hl
  clear hl
  go_enter Tryd.func101, Tryd.ntmps101
  go_wp2
  go_loop [8] (fun i => ∃ k : Nat, k ≤ l.length ∧ i = .int .i64 k ∧ Hid (∀ j (h : j < k) (h' : j < l.length), (!isGold l[j]) = false)) (fun i => l.length - (intOf i).toNat)
  case atStart => exact ⟨0, Nat.zero_le _, rfl, fun j h => by omega⟩
  case round =>
    obtain ⟨k, hk, rfl, hp⟩ := hrel
    by_cases hlt : k < l.length
    · obtain ⟨a, rfl, hc⟩ := HL.out.at k hlt
      cases hb : (!isGold l[k])
      · go_wp2_with (go_at_call 88; refine (gold1_any _).mono ?_; rintro e w' ⟨rfl, rfl⟩)
        go_round
        case rel => exact ⟨k + 1, by omega, by go_num, fun j h h' => by
          by_cases hj : j < k
          · exact hp.out j hj h'
          · have : j = k := by omega
            subst this; exact hb⟩
        case measure => simp [intOf]; omega
      · go_wp2_with (go_at_call 88; refine (gold1_any _).mono ?_; rintro e w' ⟨rfl, rfl⟩)
        go_ret
        exact ⟨ret_int (whereIs_hit _ l k hlt (fun j h => hp.out j h (by omega)) hb).symm, rfl⟩
    · go_wp2
      go_ret
      exact ⟨ret_int (whereIs_miss _ l (fun j h => hp.out j (by omega) h)).symm, rfl⟩
set_option maxRecDepth 100000 in
set_option maxHeartbeats 4000000 in
theorem containsGold_any {w : World} (v : Value) (l : List Int) (hl : Ints w v l) :
    Calls Tryd.prog 84 #[v, .func (.func 88) #[] #[]] w fun e w' => e = .returned (.bool (l.any fun n => !isGold n)) ∧ w = w' := by
  have hw := whereIs_neg (fun n => !isGold n) l
  have HL := Lib.hid hl; have HW := Lib.hid hw
  clear hl hw
  go_enter Tryd.func84, Tryd.ntmps84
  go_wp2_with (go_at_call 101; refine (indexGold_any _ _ HL.out).mono ?_; rintro e w' ⟨rfl, rfl⟩)
  go_ret
  refine ⟨ret_bool ?_, rfl⟩
  have := HW.out
  cases h : (l.any fun n => !isGold n)
  · have := this.2 h; simp; omega
  · simp; rw [h] at this; simp at this; omega
theorem newBad_no {l : List Int} (h : newBad l = false) : (2 ≤ l.length ∧ l.length ≤ 5) ∧ ∀ x ∈ l, 0 ≤ x ∧ x ≤ 1000 := by
  unfold newBad at h
  rw [Bool.or_eq_false_iff] at h
  refine ⟨by have := h.1; simp [isGroup] at this; omega, fun x hx => ?_⟩
  have h2 := List.any_eq_false.1 h.2 x hx
  simp [isGold] at h2
  exact h2
theorem picOk_of {all : Int} {s : Pic} (h : PcInv all s) (hall : all ≤ 1000000) : PicOk s := by
  have h5 := h.inv.n5
  refine ⟨h5.2, fun a => ?_, ⟨h.inv.on0, Int.le_trans h.inv.on_le hall⟩, fun a b => ⟨?_, fun y hy => ?_⟩, fun a b => ?_, fun p hp => ?_, ?_⟩
  · refine ⟨h.inv.g0 a, ?_⟩
    by_cases hm : (pvOf s).mem a
    · exact Int.le_trans (h.inv.g_le a hm) hall
    · have : pcG s a = 0 := by
        unfold pcG gAt
        split
        · rename_i h0
          rw [List.getD_eq_getElem?_getD, List.getElem?_eq_none (by
            apply Classical.byContradiction
            intro hc
            exact hm ⟨h0, by show a < s.gold.length; omega⟩)]
          rfl
        · rfl
      rw [this]; decide
  · have := h.inv.rlen a b
    have := (rmax_ge ((pvOf s).W a)).2
    show ((pvOf s).row a b).length ≤ 1000
    omega
  · have := h.inv.row0 a b y hy; omega
  · cases hx : mget s.opn (a, b) with
    | none => simp
    | some z =>
      have h1 := (h.inv.O0 a b z hx).2.1
      have h2 := h.inv.O_le a b z hx
      have h3 := h.inv.on0
      simp only [Option.getD_some]
      omega
  · obtain ⟨j, hj, rfl⟩ := List.getElem_of_mem hp
    have hg := mget_at h.wnd (j := j) (x := s.wrote[j].1) (u := s.wrote[j].2) (by rw [List.getElem?_eq_getElem hj])
    have h1 := (h.inv.W0 _ _ hg).2
    have h2 := h.inv.W_le _ _ hg
    omega
  · have h1 := mget_count s.gold.length s.wrote h.wnd h.keysW
    have h2 := (sumU_ones s.gold.length fun m => (mget s.wrote m).isSome).1
    have : (s.gold.length : Int) ≤ 5 := by have h6 : s.gold.length ≤ 5 := h5.2; omega
    omega
theorem picOk_pop {s : Pic} (h : PicOk s) (a b : Int) : PicOk (pcPop s a b) := by
  refine ⟨h.n5, h.gold, h.on, fun x y => ?_, h.opn, h.wrote, h.few⟩
  have hr : pcRow (pcPop s a b) x y = if x = a ∧ y = b then (pcRow s a b).tail else pcRow s x y := row_put _ _ _ _ _ _
  rw [hr]
  split
  · have := h.row a b
    exact ⟨by rw [List.length_tail]; omega, fun y hy => this.2 y (List.mem_of_mem_tail hy)⟩
  · exact h.row x y
set_option maxRecDepth 100000 in
set_option maxHeartbeats 4000000 in
theorem pNew_no {w : World} (v : Value) (l : List Int) (hl : Ints w v l) (hb : newBad l = true) :
    Calls Tryd.prog 53 #[v] w fun e w' => e = .returned (.tuple #[.pointer none, errV 1]) ∧ w = w' := by
  obtain ⟨ad, cap, rfl, hlc, hcap⟩ := hl.shape
  obtain ⟨n, hn⟩ : ∃ n, n = l.length := ⟨_, rfl⟩
  rw [← hn] at hl hlc ⊢
  unfold newBad at hb
  rw [← hn] at hb
  cases hg : isGroup n
  · have HL := Lib.hid hl; have HB := Lib.hid hb; have HG := Lib.hid hg; have HN := Lib.hid hn
    clear hl hb hg hn
    go_enter Tryd.func53, Tryd.ntmps53
    go_wp2_with fail
    refine (group_any _ _).mono ?_
    rintro e w' ⟨rfl, rfl⟩
    rw [HG.out]
    go_wp2
    go_ret2
    exact ⟨rfl, rfl⟩
  · rw [hg] at hb
    simp only [Bool.not_true, Bool.false_or] at hb
    have HL := Lib.hid hl; have HB := Lib.hid hb; have HG := Lib.hid hg; have HN := Lib.hid hn
    clear hl hb hg hn
    go_enter Tryd.func53, Tryd.ntmps53
    go_wp2_with fail
    refine (group_any _ _).mono ?_
    rintro e w' ⟨rfl, rfl⟩
    rw [HG.out]
    go_wp2_with fail
    refine (containsGold_any _ l HL.out).mono ?_
    rintro e w' ⟨rfl, rfl⟩
    rw [HB.out]
    go_wp2
    go_ret2
    exact ⟨rfl, rfl⟩
set_option maxRecDepth 100000 in
set_option maxHeartbeats 4000000 in
theorem pNew_yes {w0 w : World} {R : HProp} (v : Value) (l : List Int) (h : Own w0 R w) (hl : Reads w0 R v l) (hb : newBad l = false) :
    Calls Tryd.prog 53 #[v] w fun e w' => ∃ p mb1 mb2 mb3 gb go gc n : Nat, e = .returned (.tuple #[.pointer (some ⟨p, 0, none⟩), errV 0]) ∧ n = l.length ∧ Own w0 (PicA p mb1 mb2 mb3 gb go gc n (pcNew l) * R) w' := by
  have hl0 := hl _ h
  obtain ⟨ad, cap, rfl, hlc, hcap⟩ := hl0.shape
  obtain ⟨⟨h2, h5⟩, hx⟩ := newBad_no hb
  obtain ⟨n, hn⟩ : ∃ n, n = l.length := ⟨_, rfl⟩
  rw [← hn] at hl hlc h2 h5 hl0 ⊢
  have hg : isGroup n = true := by simp [isGroup]; omega
  have hany : (l.any fun n => !isGold n) = false := by
    unfold newBad at hb
    rw [Bool.or_eq_false_iff] at hb
    exact hb.2
  have hm1 := mapw_made; have hm2 := mapo_made; have hm3 := mapgi_made
  have H := Lib.hid h; have HL := Lib.hid hl; have HB := Lib.hid hb; have HG := Lib.hid hg; have HN := Lib.hid hn; have HANY := Lib.hid hany; have HX := Lib.hid hx; have HL0 := Lib.hid hl0
  clear h hl hb hg hn hany hx hl0
  go_enter Tryd.func53, Tryd.ntmps53
  go_wp2_with fail
  refine (group_any _ _).mono ?_
  rintro e w' ⟨rfl, rfl⟩
  rw [HG.out]
  go_wp2_with fail
  refine (containsGold_any _ l HL0.out).mono ?_
  rintro e w' ⟨rfl, rfl⟩
  rw [HANY.out]
  go_wp2_with fail
  refine (cloneInts_any H.out _ l HL0.out (by rw [← HN.out]; omega)).mono ?_
  rintro e w1 ⟨v1, rfl, ho1⟩
  have hpos : 0 < (l.map (Value.int .i64)).length := by rw [List.length_map, ← HN.out]; omega
  obtain ⟨gb, go, gc, hv1, hsa⟩ := Own.slAt (show Own w0 (Sl 3 1 v1 l.length (l.map (Value.int .i64)) * R) w1 from ho1) hpos
  subst hv1
  rw [← HN.out] at hsa
  obtain ⟨b1, hb1⟩ : ∃ b, b = w1.heap.size := ⟨_, rfl⟩
  obtain ⟨w2, hw2⟩ : ∃ x, x = w1.alloc (.map #[] 0) := ⟨_, rfl⟩
  have k1 := (hsa.ms_new (enc := plV) (ok := plOk) (f := rowP) (val := Prod.fst))
  rw [← hb1, ← hw2] at k1
  obtain ⟨b2, hb2⟩ : ∃ b, b = w2.heap.size := ⟨_, rfl⟩
  obtain ⟨w3, hw3⟩ : ∃ x, x = w2.alloc (.map #[] 0) := ⟨_, rfl⟩
  have k2 := k1.map_new (enc := fun n : Int => Value.int .i64 n) (ok := I64)
  rw [← hb2, ← hw3] at k2
  obtain ⟨b3, hb3⟩ : ∃ b, b = w3.heap.size := ⟨_, rfl⟩
  obtain ⟨w4, hw4⟩ : ∃ x, x = w3.alloc (.map #[] 0) := ⟨_, rfl⟩
  have k3 := k2.map_new (enc := plV) (ok := plOk)
  rw [← hb3, ← hw4] at k3
  have k4 := k3.alloc (.cells #[.slice (some ⟨gb, go, none⟩) n gc, .map (some b1), .bool false, .map (some b2), .map (some b3), .int .i64 0] 156 (0, 0))
  have hfin : Own w0 (PicA w4.heap.size b1 b2 b3 gb go gc n (pcNew l) * R) (w4.alloc (.cells #[.slice (some ⟨gb, go, none⟩) n gc, .map (some b1), .bool false, .map (some b2), .map (some b3), .int .i64 0] 156 (0, 0))) := by
    refine Own.pic_close (m := []) rfl (k4.perm ?_)
    unfold PicO
    show (picB w4.heap.size b1 b2 b3 gb go gc n false 0 * (opnS b3 [] * (wroteS b2 [] * (waysS b1 [] * (goldS gb go gc n l * R)))) : HProp) = picB w4.heap.size b1 b2 b3 gb go gc n false 0 * (goldS gb go gc n l * (waysS b1 [] * (wroteS b2 [] * opnS b3 []))) * R
    ac_rfl
  have HFIN := Lib.hid hfin
  rw [← HN.out]
  clear k1 k2 k3 k4 hfin hsa ho1 hpos
  have HB1 := Lib.hid hb1; have HB2 := Lib.hid hb2; have HB3 := Lib.hid hb3; have HW2 := Lib.hid hw2; have HW3 := Lib.hid hw3; have HW4 := Lib.hid hw4
  clear hb1 hb2 hb3 hw2 hw3 hw4
  go_wp2
  go_ret2
  refine ⟨w1.heap.size + 1 + 1 + 1, w1.heap.size, w1.heap.size + 1, w1.heap.size + 1 + 1, gb, go, gc, n, rfl, rfl, ?_⟩
  have h9 := HFIN.out
  have q2 := HW2.out
  have q3 := HW3.out
  have q4 := HW4.out
  have q5 := HB1.out
  have q6 := HB2.out
  have q7 := HB3.out
  subst q5; subst q2; subst q6; subst q3; subst q7; subst q4
  simpa [World.size_alloc] using h9
end Go.Proofs.YtdeeephdojflpaaDoor
