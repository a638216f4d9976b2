/- Contracts of package picture: New. -/
import Derived.Test.YtpgonkecicmanaaDoorMPicturePlays12
import Derived.Test.YtpgonkecicmanaaDoorMPicturePlays10
import Derived.Test.YtpgonkecicmanaaDoorMPicturePlays5
namespace Go.Proofs.YtpgonkecicmanaaDoor
set_option linter.unusedVariables false
set_option linter.unusedSimpArgs false
open Go.RowKit Go.Maps
def isGold (n : Int) : Bool := decide (0 ≤ n) && decide (n ≤ 1000)
def newBad (l : List Int) : Bool := !isGroup l.length || l.any fun n => !isGold n
theorem mapw_made : ∀ w, (Instr.makeMap 148 none).run Tryd.prog w = .ok (.map (some w.heap.size)) (w.alloc (.map #[] 0)) := fun _ => by kernel_rfl
theorem mapo_made : ∀ w, (Instr.makeMap 150 none).run Tryd.prog w = .ok (.map (some w.heap.size)) (w.alloc (.map #[] 0)) := fun _ => by kernel_rfl
theorem mapgi_made : ∀ w, (Instr.makeMap 149 none).run Tryd.prog w = .ok (.map (some w.heap.size)) (w.alloc (.map #[] 0)) := fun _ => by kernel_rfl
set_option maxRecDepth 100000 in
set_option maxHeartbeats 4000000 in
theorem gold_any {w : World} (a : Int) :
    Calls Tryd.prog 76 #[.int .i64 a] w fun e w' => e = .returned (.bool (isGold a)) ∧ w = w' := by
  go_enter Tryd.func76, Tryd.ntmps76
  go_wp2
  all_goals (go_ret; exact ⟨ret_bool (by unfold isGold; simp; try omega), rfl⟩)
set_option maxRecDepth 100000 in
set_option maxHeartbeats 4000000 in
theorem gold1_any {w : World} (a : Int) :
    Calls Tryd.prog 75 #[.int .i64 a] w fun e w' => e = .returned (.bool (!isGold a)) ∧ w = w' := by
  go_enter Tryd.func75, Tryd.ntmps75
  go_wp2_with fail
  refine (gold_any _).mono ?_
  rintro e w' ⟨rfl, rfl⟩
  go_wp2
  go_ret
  exact ⟨rfl, rfl⟩
set_option maxRecDepth 100000 in
set_option maxHeartbeats 4000000 in
theorem indexGold_any {w : World} (v : Value) (l : List Int) (hl : Ints w v l) :
    Calls Tryd.prog 113 #[v, .func (.func 75) #[] #[]] w fun e w' => e = .returned (.int .i64 (whereIs (fun n => !isGold n) l)) ∧ w = w' := by
  obtain ⟨ad, cap, rfl, hlc, hcap⟩ := hl.shape
  have HL := Lib.hid hl
  clear hl
  go_enter Tryd.func113, Tryd.ntmps113
  go_wp2
  go_loop [8] (fun i => ∃ k : Nat, k ≤ l.length ∧ i = .int .i64 k ∧ Hid (∀ j (h : j < k) (h' : j < l.length), (!isGold l[j]) = false)) (fun i => l.length - (intOf i).toNat)
  case atStart => exact ⟨0, Nat.zero_le _, rfl, fun j h => by omega⟩
  case round =>
    obtain ⟨k, hk, rfl, hp⟩ := hrel
    by_cases hlt : k < l.length
    · obtain ⟨a, rfl, hc⟩ := HL.out.at k hlt
      cases hb : (!isGold l[k])
      · go_wp2_with (go_at_call 75; refine (gold1_any _).mono ?_; rintro e w' ⟨rfl, rfl⟩)
        go_round
        case rel => exact ⟨k + 1, by omega, by go_num, fun j h h' => by
          by_cases hj : j < k
          · exact hp.out j hj h'
          · have : j = k := by omega
            subst this; exact hb⟩
        case measure => simp [intOf]; omega
      · go_wp2_with (go_at_call 75; refine (gold1_any _).mono ?_; rintro e w' ⟨rfl, rfl⟩)
        go_ret
        exact ⟨ret_int (whereIs_hit _ l k hlt (fun j h => hp.out j h (by omega)) hb).symm, rfl⟩
    · go_wp2
      go_ret
      exact ⟨ret_int (whereIs_miss _ l (fun j h => hp.out j (by omega) h)).symm, rfl⟩
set_option maxRecDepth 100000 in
set_option maxHeartbeats 4000000 in
theorem containsGold_any {w : World} (v : Value) (l : List Int) (hl : Ints w v l) :
    Calls Tryd.prog 74 #[v, .func (.func 75) #[] #[]] w fun e w' => e = .returned (.bool (l.any fun n => !isGold n)) ∧ w = w' := by
  have hw := whereIs_neg (fun n => !isGold n) l
  have HL := Lib.hid hl; have HW := Lib.hid hw
  clear hl hw
  go_enter Tryd.func74, Tryd.ntmps74
  go_wp2_with (go_at_call 113; refine (indexGold_any _ _ HL.out).mono ?_; rintro e w' ⟨rfl, rfl⟩)
  go_ret
  refine ⟨ret_bool ?_, rfl⟩
  have := HW.out
  cases h : (l.any fun n => !isGold n)
  · have := this.2 h; simp; omega
  · simp; rw [h] at this; simp at this; omega
theorem newBad_no {l : List Int} (h : newBad l = false) : (2 ≤ l.length ∧ l.length ≤ 5) ∧ ∀ x ∈ l, 0 ≤ x ∧ x ≤ 1000 := by
  unfold newBad at h
  rw [Bool.or_eq_false_iff] at h
  refine ⟨by have := h.1; simp [isGroup] at this; omega, fun x hx => ?_⟩
  have h2 := List.any_eq_false.1 h.2 x hx
  simp [isGold] at h2
  exact h2
theorem picOk_of {all : Int} {s : Pic} (h : PcInv all s) (hall : all ≤ 1000000) : PicOk s := by
  have h5 := h.inv.n5
  refine ⟨h5.2, fun a => ?_, ⟨h.inv.on0, Int.le_trans h.inv.on_le hall⟩, fun a b => ⟨?_, fun y hy => ?_⟩, fun a b => ?_, fun p hp => ?_, ?_⟩
  · refine ⟨h.inv.g0 a, ?_⟩
    by_cases hm : (pvOf s).mem a
    · exact Int.le_trans (h.inv.g_le a hm) hall
    · have : pcG s a = 0 := by
        unfold pcG gAt
        split
        · rename_i h0
          rw [List.getD_eq_getElem?_getD, List.getElem?_eq_none (by
            apply Classical.byContradiction
            intro hc
            exact hm ⟨h0, by show a < s.gold.length; omega⟩)]
          rfl
        · rfl
      rw [this]; decide
  · have := h.inv.rlen a b
    have := (rmax_ge ((pvOf s).W a)).2
    show ((pvOf s).row a b).length ≤ 1000
    omega
  · have := h.inv.row0 a b y hy; omega
  · cases hx : mget s.opn (a, b) with
    | none => simp
    | some z =>
      have h1 := (h.inv.O0 a b z hx).2.1
      have h2 := h.inv.O_le a b z hx
      have h3 := h.inv.on0
      simp only [Option.getD_some]
      omega
  · obtain ⟨j, hj, rfl⟩ := List.getElem_of_mem hp
    have hg := mget_at h.wnd (j := j) (x := s.wrote[j].1) (u := s.wrote[j].2) (by rw [List.getElem?_eq_getElem hj])
    have h1 := (h.inv.W0 _ _ hg).2
    have h2 := h.inv.W_le _ _ hg
    omega
  · have h1 := mget_count s.gold.length s.wrote h.wnd h.keysW
    have h2 := (sumU_ones s.gold.length fun m => (mget s.wrote m).isSome).1
    have : (s.gold.length : Int) ≤ 5 := by have h6 : s.gold.length ≤ 5 := h5.2; omega
    omega
theorem picOk_pop {s : Pic} (h : PicOk s) (a b : Int) : PicOk (pcPop s a b) := by
  refine ⟨h.n5, h.gold, h.on, fun x y => ?_, h.opn, h.wrote, h.few⟩
  have hr : pcRow (pcPop s a b) x y = if x = a ∧ y = b then (pcRow s a b).tail else pcRow s x y := row_put _ _ _ _ _ _
  rw [hr]
  split
  · have := h.row a b
    exact ⟨by rw [List.length_tail]; omega, fun y hy => this.2 y (List.mem_of_mem_tail hy)⟩
  · exact h.row x y
set_option maxRecDepth 100000 in
set_option maxHeartbeats 4000000 in
theorem pNew_no {w : World} (v : Value) (l : List Int) (hl : Ints w v l) (hb : newBad l = true) :
    Calls Tryd.prog 19 #[v] w fun e w' => e = .returned (.tuple #[.pointer none, errV 1]) ∧ w = w' := by
  obtain ⟨ad, cap, rfl, hlc, hcap⟩ := hl.shape
  obtain ⟨n, hn⟩ : ∃ n, n = l.length := ⟨_, rfl⟩
  rw [← hn] at hl hlc ⊢
  unfold newBad at hb
  rw [← hn] at hb
  cases hg : isGroup n
  · have HL := Lib.hid hl; have HB := Lib.hid hb; have HG := Lib.hid hg; have HN := Lib.hid hn
    clear hl hb hg hn
    go_enter Tryd.func19, Tryd.ntmps19
    go_wp2_with fail
    refine (group_any _ _).mono ?_
    rintro e w' ⟨rfl, rfl⟩
    rw [HG.out]
    go_wp2
    go_ret2
    exact ⟨rfl, rfl⟩
  · rw [hg] at hb
    simp only [Bool.not_true, Bool.false_or] at hb
    have HL := Lib.hid hl; have HB := Lib.hid hb; have HG := Lib.hid hg; have HN := Lib.hid hn
    clear hl hb hg hn
    go_enter Tryd.func19, Tryd.ntmps19
    go_wp2_with fail
    refine (group_any _ _).mono ?_
    rintro e w' ⟨rfl, rfl⟩
    rw [HG.out]
    go_wp2_with fail
    refine (containsGold_any _ l HL.out).mono ?_
    rintro e w' ⟨rfl, rfl⟩
    rw [HB.out]
    go_wp2
    go_ret2
    exact ⟨rfl, rfl⟩
set_option maxRecDepth 100000 in
set_option maxHeartbeats 4000000 in
theorem pNew_yes {w0 w : World} {R : HProp} (v : Value) (l : List Int) (h : Own w0 R w) (hl : Reads w0 R v l) (hb : newBad l = false) :
    Calls Tryd.prog 19 #[v] w fun e w' => ∃ p mb1 mb2 mb3 gb go gc n : Nat, e = .returned (.tuple #[.pointer (some ⟨p, 0, none⟩), errV 0]) ∧ n = l.length ∧ Own w0 (PicA p mb1 mb2 mb3 gb go gc n (pcNew l) * R) w' := by
  have hl0 := hl _ h
  obtain ⟨ad, cap, rfl, hlc, hcap⟩ := hl0.shape
  obtain ⟨⟨h2, h5⟩, hx⟩ := newBad_no hb
  obtain ⟨n, hn⟩ : ∃ n, n = l.length := ⟨_, rfl⟩
  rw [← hn] at hl hlc h2 h5 hl0 ⊢
  have hg : isGroup n = true := by simp [isGroup]; omega
  have hany : (l.any fun n => !isGold n) = false := by
    unfold newBad at hb
    rw [Bool.or_eq_false_iff] at hb
    exact hb.2
  have hm1 := mapw_made; have hm2 := mapo_made; have hm3 := mapgi_made
  have H := Lib.hid h; have HL := Lib.hid hl; have HB := Lib.hid hb; have HG := Lib.hid hg; have HN := Lib.hid hn; have HANY := Lib.hid hany; have HX := Lib.hid hx; have HL0 := Lib.hid hl0
  clear h hl hb hg hn hany hx hl0
  go_enter Tryd.func19, Tryd.ntmps19
  go_wp2_with fail
  refine (group_any _ _).mono ?_
  rintro e w' ⟨rfl, rfl⟩
  rw [HG.out]
  go_wp2_with fail
  refine (containsGold_any _ l HL0.out).mono ?_
  rintro e w' ⟨rfl, rfl⟩
  rw [HANY.out]
  go_wp2_with fail
  refine (cloneInts_any H.out _ l HL0.out (by rw [← HN.out]; omega)).mono ?_
  rintro e w1 ⟨v1, rfl, ho1⟩
  have hpos : 0 < (l.map (Value.int .i64)).length := by rw [List.length_map, ← HN.out]; omega
  obtain ⟨gb, go, gc, hv1, hsa⟩ := Own.slAt (show Own w0 (Sl 3 1 v1 l.length (l.map (Value.int .i64)) * R) w1 from ho1) hpos
  subst hv1
  rw [← HN.out] at hsa
  obtain ⟨b1, hb1⟩ : ∃ b, b = w1.heap.size := ⟨_, rfl⟩
  obtain ⟨w2, hw2⟩ : ∃ x, x = w1.alloc (.map #[] 0) := ⟨_, rfl⟩
  have k1 := (hsa.ms_new (enc := plV) (ok := plOk) (f := rowP) (val := Prod.fst))
  rw [← hb1, ← hw2] at k1
  obtain ⟨b2, hb2⟩ : ∃ b, b = w2.heap.size := ⟨_, rfl⟩
  obtain ⟨w3, hw3⟩ : ∃ x, x = w2.alloc (.map #[] 0) := ⟨_, rfl⟩
  have k2 := k1.map_new (enc := fun n : Int => Value.int .i64 n) (ok := I64)
  rw [← hb2, ← hw3] at k2
  obtain ⟨b3, hb3⟩ : ∃ b, b = w3.heap.size := ⟨_, rfl⟩
  obtain ⟨w4, hw4⟩ : ∃ x, x = w3.alloc (.map #[] 0) := ⟨_, rfl⟩
  have k3 := k2.map_new (enc := plV) (ok := plOk)
  rw [← hb3, ← hw4] at k3
  have k4 := k3.alloc (.cells #[.slice (some ⟨gb, go, none⟩) n gc, .map (some b1), .bool false, .map (some b2), .map (some b3), .int .i64 0] 152 (0, 0))
  have hfin : Own w0 (PicA w4.heap.size b1 b2 b3 gb go gc n (pcNew l) * R) (w4.alloc (.cells #[.slice (some ⟨gb, go, none⟩) n gc, .map (some b1), .bool false, .map (some b2), .map (some b3), .int .i64 0] 152 (0, 0))) := by
    refine Own.pic_close (m := []) rfl (k4.perm ?_)
    unfold PicO
    show (picB w4.heap.size b1 b2 b3 gb go gc n false 0 * (opnS b3 [] * (wroteS b2 [] * (waysS b1 [] * (goldS gb go gc n l * R)))) : HProp) = picB w4.heap.size b1 b2 b3 gb go gc n false 0 * (goldS gb go gc n l * (waysS b1 [] * (wroteS b2 [] * opnS b3 []))) * R
    ac_rfl
  have HFIN := Lib.hid hfin
  rw [← HN.out]
  clear k1 k2 k3 k4 hfin hsa ho1 hpos
  have HB1 := Lib.hid hb1; have HB2 := Lib.hid hb2; have HB3 := Lib.hid hb3; have HW2 := Lib.hid hw2; have HW3 := Lib.hid hw3; have HW4 := Lib.hid hw4
  clear hb1 hb2 hb3 hw2 hw3 hw4
  go_wp2
  go_ret2
  refine ⟨w1.heap.size + 1 + 1 + 1, w1.heap.size, w1.heap.size + 1, w1.heap.size + 1 + 1, gb, go, gc, n, rfl, rfl, ?_⟩
  have h9 := HFIN.out
  have q2 := HW2.out
  have q3 := HW3.out
  have q4 := HW4.out
  have q5 := HB1.out
  have q6 := HB2.out
  have q7 := HB3.out
  subst q5; subst q2; subst q6; subst q3; subst q7; subst q4
  simpa [World.size_alloc] using h9
end Go.Proofs.YtpgonkecicmanaaDoor
/- The reference's Picture: Come. -/
namespace Go.Proofs.YtpgonkecicmanaaDoor
set_option linter.unusedVariables false
set_option linter.unusedSimpArgs false
open Go.RowKit Go.Maps
theorem rpOf_pop {s : Pic} {P : Nat → Nat → Int} {cs : Array Value} {gv : Value} {rows : List (Value × List Int)} {x y : Nat} (he : RpC cs gv rows (rpOf s P)) (hx : x < 5) (hy : y < 5) (v : Value) {l : List Int} (hl : l = (pcRow s (x : Int) (y : Int)).tail) :
    RpC (cs.setIfInBounds (1 + x * 5 + y) v) gv (rows.set (x * 5 + y) (v, l)) (rpOf (pcPop s (x : Int) (y : Int)) P) := by
  subst hl
  refine (he.setWay hx hy v (pcRow s (x : Int) (y : Int)).tail).congr _ (fun a b _ _ => ?_) rfl (fun m _ => rfl) (fun m _ => rfl) (fun a b _ _ => rfl) rfl (fun a b _ _ => rfl)
  show (if a = x ∧ b = y then (pcRow s (x : Int) (y : Int)).tail else pcRow s (a : Int) (b : Int)) = (mget (mput s.ways ((x : Int), (y : Int)) (pcRow s (x : Int) (y : Int)).tail) ((a : Int), (b : Int))).getD []
  rw [row_put]
  by_cases e : a = x ∧ b = y
  · rw [if_pos e, if_pos (by omega)]
  · rw [if_neg e, if_neg (by omega)]; rfl
theorem rpOf_part {s : Pic} {P : Nat → Nat → Int} {cs : Array Value} {gv : Value} {rows : List (Value × List Int)} {x y : Nat} {n z : Int} (he : RpC cs gv rows (rpOf s P)) (hp : PaI P s) (hx : x < 5) (hy : y < 5) (ho : mget s.opn ((x : Int), (y : Int)) = some z) (hW : (mget s.wrote (y : Int)).isSome = true) :
    ∃ P', RpC (cs.setIfInBounds (63 + x * 5 + y) (.int .i64 (z + n))) gv rows (rpOf (pcGet2 s (x : Int) (y : Int) n) P') ∧ PaI P' (pcGet2 s (x : Int) (y : Int) n) := by
  have h2 : pcGet2 s (x : Int) (y : Int) n = { s with opn := mput s.opn ((x : Int), (y : Int)) (z + n) } := by
    unfold pcGet2
    rw [ho, if_pos (by simp)]; rfl
  rw [h2]
  refine ⟨fun a b => if a = x ∧ b = y then z + n else P a b, (he.setPart hx hy (z + n)).congr _ (fun a b _ _ => rfl) rfl (fun m _ => rfl) (fun m _ => rfl) (fun a b _ _ => ?_) rfl (fun a b _ _ => rfl), fun a b ha hb => ?_⟩
  · show (mget s.opn ((a : Int), (b : Int))).isSome = (mget (mput s.opn ((x : Int), (y : Int)) (z + n)) ((a : Int), (b : Int))).isSome
    rw [opn_put]
    by_cases e : (a : Int) = (x : Int) ∧ (b : Int) = (y : Int)
    · rw [if_pos e, e.1, e.2, ho]; rfl
    · rw [if_neg e]
  · obtain ⟨h1, h3⟩ := hp a b ha hb
    refine ⟨fun u hu => ?_, fun hn => ?_⟩
    · have hu2 : mget (mput s.opn ((x : Int), (y : Int)) (z + n)) ((a : Int), (b : Int)) = some u := hu
      rw [opn_put] at hu2
      by_cases e : a = x ∧ b = y
      · rw [if_pos (by omega)] at hu2
        show (if a = x ∧ b = y then z + n else P a b) = u
        rw [if_pos e]; exact Option.some.inj hu2
      · rw [if_neg (by omega)] at hu2
        show (if a = x ∧ b = y then z + n else P a b) = u
        rw [if_neg e]; exact h1 u hu2
    · by_cases e : a = x ∧ b = y
      · obtain ⟨rfl, rfl⟩ := e
        have hn2 : mget s.wrote (b : Int) = none := hn
        rw [hn2] at hW; cases hW
      · show (if a = x ∧ b = y then z + n else P a b) = 0
        rw [if_neg e]; exact h3 hn
theorem rpOf_close {s : Pic} {P : Nat → Nat → Int} {cs : Array Value} {gv : Value} {rows : List (Value × List Int)} {x y : Nat} {z : Int} (he : RpC cs gv rows (rpOf s P)) (hp : PaI P s) (hx : x < 5) (hy : y < 5) (ho : mget s.opn ((x : Int), (y : Int)) = some z) (hn : (s.opn.map (·.1)).Nodup) :
    RpC ((cs.setIfInBounds (37 + x * 5 + y) (.bool false)).setIfInBounds 62 (.int .i64 (s.onWay + z))) gv rows (rpOf (pcMarkO s (x : Int) (y : Int)) P) ∧ PaI P (pcMarkO s (x : Int) (y : Int)) := by
  have h2 : pcMarkO s (x : Int) (y : Int) = { s with onWay := s.onWay + z, opn := mdel s.opn ((x : Int), (y : Int)) } := by
    unfold pcMarkO
    rw [ho]; rfl
  rw [h2]
  refine ⟨((he.setOpn hx hy false).setOn (s.onWay + z)).congr _ (fun a b _ _ => rfl) rfl (fun m _ => rfl) (fun m _ => rfl) (fun a b _ _ => ?_) rfl (fun a b _ _ => rfl), fun a b ha hb => ?_⟩
  · show (if a = x ∧ b = y then false else (mget s.opn ((a : Int), (b : Int))).isSome) = (mget (mdel s.opn ((x : Int), (y : Int))) ((a : Int), (b : Int))).isSome
    rw [opn_del _ hn]
    by_cases e : a = x ∧ b = y
    · rw [if_pos e, if_pos (by omega)]; rfl
    · rw [if_neg e, if_neg (by omega)]
  · obtain ⟨h1, h3⟩ := hp a b ha hb
    refine ⟨fun u hu => ?_, h3⟩
    have hu2 : mget (mdel s.opn ((x : Int), (y : Int))) ((a : Int), (b : Int)) = some u := hu
    rw [opn_del _ hn] at hu2
    by_cases e : a = x ∧ b = y
    · rw [if_pos (by omega)] at hu2; cases hu2
    · rw [if_neg (by omega)] at hu2; exact h1 u hu2
theorem PcInv.row_small {all : Int} {s : Pic} (h : PcInv all s) (a b : Int) : (pcRow s a b).length ≤ 41 ∧ ∀ y ∈ pcRow s a b, 0 ≤ y ∧ y ≤ 1000 := by
  have h1 := h.inv.rlen a b
  have h2 := rmax_ge ((pvOf s).W a)
  exact ⟨Nat.le_trans h1 h2.2, h.inv.row0 a b⟩
/-- Behind a mark the way is open, and it stands in the notes. -/
theorem PcInv.mark_open {all : Int} {s : Pic} (h : PcInv all s) {a b : Int} {r : List Int} (hw : (pvOf s).way a b) (hr : pcRow s a b = 0 :: r) : ∃ z, mget (pcMarkW (pcPop s a b) b).opn (a, b) = some z := by
  unfold pcMarkW
  by_cases hW : (mget (pcPop s a b).wrote b).isSome = true
  · rw [if_pos hW]
    have h1 := (h.inv.opn a b hw hW).2 (.inr (by show 0 ∈ pcRow s a b; rw [hr]; simp))
    exact Option.isSome_iff_exists.1 h1
  · rw [if_neg hW]
    have h1 := (write_out (pcPop s a b) b).opn a b
    have ha := hw.1
    have hab := hw.2.2
    have hl : (pcPop s a b).gold.length = (pvOf s).n := rfl
    rw [if_pos ⟨rfl, hab, ha.1, by rw [hl]; exact ha.2⟩] at h1
    exact ⟨0, h1⟩
set_option maxRecDepth 100000 in
set_option maxHeartbeats 4000000 in
theorem rpCome_no {w0 w : World} {R : HProp} (q : Nat) (s : Pic) (a b : Int) {all : Int} (hI : PcInv all s) (hE : pcComeErr s a b ≠ 0) (h : Own w0 (RpP q s * R) w) :
    Calls Tryd.prog 22 #[.pointer (some ⟨q, 0, none⟩), .int .i64 a, .int .i64 b] w fun e w' => e = .returned (.tuple #[.int .i64 0, .int .i64 (pcComeErr s a b : Nat)]) ∧ Own w0 (RpP q s * R) w' := by
  have h5 : s.gold.length ≤ 5 := hI.inv.n5.2
  have HWY := Lib.hid (rpWay_any q s a b h5 h)
  by_cases hw : pcWay s a b = 0
  rotate_left
  · have hE2 : pcComeErr s a b = pcWay s a b := by unfold pcComeErr; rw [if_pos hw]
    obtain ⟨E, hEE⟩ : ∃ E, E = pcWay s a b := ⟨_, rfl⟩
    rw [hE2, ← hEE]
    rw [← hEE] at HWY
    have t1 : (((E : Nat) : Int) != 0) = true := by rw [bne_iff_ne]; omega
    have H := Lib.hid h; have HI := Lib.hid hI; have HE := Lib.hid hE; have HW := Lib.hid hw; have HE2 := Lib.hid hE2; have HEE := Lib.hid hEE
    clear h hI hE hw hE2 hEE
    go_enter Tryd.func22, Tryd.ntmps22
    go_wp2_with fail
    refine HWY.out.mono ?_
    rintro e w' ⟨rfl, rfl⟩
    go_wp2
    go_ret2
    exact ⟨rfl, H.out⟩
  have hr : pcRow s a b = [] := by
    unfold pcComeErr at hE
    rw [if_neg (by simpa using hw)] at hE
    by_cases h0 : pcRow s a b = []
    · exact h0
    · rw [if_neg h0] at hE; exact absurd rfl hE
  have hE2 : pcComeErr s a b = 5 := by unfold pcComeErr; rw [if_neg (by simpa using hw), if_pos hr]
  rw [hE2]
  rw [hw] at HWY
  have hwy := pcWay0.1 hw
  obtain ⟨x, rfl⟩ : ∃ x : Nat, a = (x : Int) := ⟨a.toNat, by have := hwy.1.1; omega⟩
  obtain ⟨y, rfl⟩ : ∃ y : Nat, b = (y : Int) := ⟨b.toNat, by have := hwy.2.1.1; omega⟩
  have hn : (pvOf s).n ≤ 5 := h5
  have hx : x < 5 := by have := hwy.1.2; omega
  have hy : y < 5 := by have := hwy.2.1.2; omega
  obtain ⟨cs, gv, rows, P, ⟨he, hp⟩, ho⟩ := h.rp_open
  have hrow : (rpOf s P).row x y = [] := hr
  obtain ⟨ad, cap, e5, _⟩ := (ho.perm (show _ = rpBlk q cs * (starL rowP rows * (IntSl gv s.gold * R)) by ac_rfl)).rp_row he hx hy (by rw [hrow]; intro y hy; cases hy)
  rw [hrow] at e5
  have x0 : (0 : Int) ≤ (x : Int) := by omega
  have x5 : (x : Int) < 5 := by omega
  have y0 : (0 : Int) ≤ (y : Int) := by omega
  have y5 : (y : Int) < 5 := by omega
  simp only [List.length_nil] at e5
  clear hwy
  have H := Lib.hid h; have HI := Lib.hid hI; have HE := Lib.hid hE; have HW := Lib.hid hw; have HE2 := Lib.hid hE2; have HR := Lib.hid hr; have HO := Lib.hid ho; have HE := Lib.hid he; have HP := Lib.hid hp; have HROW := Lib.hid hrow
  clear h hI hE hw hE2 hr ho he hp hrow
  go_enter Tryd.func22, Tryd.ntmps22
  go_wp2_with fail
  refine HWY.out.mono ?_
  rintro e w' ⟨rfl, rfl⟩
  go_wp2
  go_ret2
  exact ⟨rfl, H.out⟩
set_option maxRecDepth 100000 in
set_option maxHeartbeats 4000000 in
theorem rpCome_yes {w0 w : World} {R : HProp} (q : Nat) (s : Pic) (x y : Nat) {all : Int} (hI : PcInv all s) (hall : all ≤ 1000000) (n : Int) (r : List Int) (hE : pcComeErr s (x : Int) (y : Int) = 0) (hwy : (pvOf s).way (x : Int) (y : Int)) (hr : pcRow s (x : Int) (y : Int) = n :: r) (h : Own w0 (RpP q s * R) w) :
    Calls Tryd.prog 22 #[.pointer (some ⟨q, 0, none⟩), .int .i64 (x : Int), .int .i64 (y : Int)] w fun e w' => e = .returned (.tuple #[.int .i64 n, .int .i64 0]) ∧ Own w0 (RpP q (if n = 0 then pcMark (pcPop s (x : Int) (y : Int)) (x : Int) (y : Int) else pcGet2 (pcGet1 (pcPop s (x : Int) (y : Int)) (y : Int) n) (x : Int) (y : Int) n) * R) w' := by
  have h5 : s.gold.length ≤ 5 := hI.inv.n5.2
  have HWY := Lib.hid (rpWay_any q s (x : Int) (y : Int) h5 h)
  have hw : pcWay s (x : Int) (y : Int) = 0 := pcWay0.2 hwy
  rw [hw] at HWY
  obtain ⟨N, hN⟩ : ∃ N, N = s.gold.length := ⟨_, rfl⟩
  have hn : (pvOf s).n = N := hN.symm
  rw [← hN] at h5
  have hxN : x < N := by have := hwy.1.2; omega
  have hyN : y < N := by have := hwy.2.1.2; omega
  have hx : x < 5 := by omega
  have hy : y < 5 := by omega
  have x0 : (0 : Int) ≤ (x : Int) := by omega
  have x5 : (x : Int) < 5 := by omega
  have y0 : (0 : Int) ≤ (y : Int) := by omega
  have y5 : (y : Int) < 5 := by omega
  have yN : (y : Int) < (N : Int) := by omega
  obtain ⟨hsm1, hsm2⟩ := hI.row_small (x : Int) (y : Int)
  obtain ⟨cs, gv, rows, P, ⟨he, hp⟩, ho⟩ := h.rp_open
  obtain ⟨hl, ad, cap, h1, h2, h3⟩ := Own.rp_take he hx hy (ho.perm (show _ = rpBlk q cs * (starL rowP rows * (IntSl gv s.gold * R)) by ac_rfl))
  have hrow : (rpOf s P).row x y = n :: r := hr
  rw [hrow] at h1 h2 h3
  have hn0 : 0 ≤ n ∧ n ≤ 1000 := hsm2 n (by rw [hr]; simp)
  obtain ⟨n0, n1⟩ := hn0
  obtain ⟨rb, ro, rc, hs, hr1, hr2, hr3, _⟩ := h3.ints_at (by simp)
  have hr30 := hr3 0 (by simp)
  rw [List.getElem_cons_zero, Nat.add_zero] at hr30
  injection hs with es1 _ es3
  subst es1; subst es3
  obtain ⟨L, hL⟩ : ∃ L, L = r.length := ⟨_, rfl⟩
  rw [List.length_cons, ← hL] at h1 hr1
  have e5 : w.cell? ⟨q, 1 + x * 5 + y, none⟩ = some (.slice (some ⟨rb, ro, none⟩) (L + 1) cap) := (Own.cell ho _).trans h1
  have f5 : w.frozen? ⟨q, 1 + x * 5 + y, none⟩ = false := Own.free ho _ none
  have hLb : L ≤ 40 := by rw [hr, List.length_cons, ← hL] at hsm1; omega
  obtain ⟨CV, hCV⟩ : ∃ CV, CV = cutV (some ⟨rb, ro, none⟩) (L + 1) cap 1 := ⟨_, rfl⟩
  have hcut : ∀ w, (Instr.sliceAt 38 (.slice (some ⟨rb, ro, none⟩) (L + 1) cap) (some (.int .i64 1)) none none).run Tryd.prog w = .ok CV w := fun w => by
    rw [hCV]
    exact cut_front (n := 1) Tryd.underlying38 (fun w => by kernel_rfl) (by omega) hr1 w
  have hset : Own w0 (rpBlk q (cs.setIfInBounds (1 + x * 5 + y) CV) * (starL rowP (rows.set (x * 5 + y) (CV, r)) * (IntSl gv s.gold * R))) (w.setCell ⟨q, 1 + x * 5 + y, none⟩ CV).drew := by
    have h6 := Own.sl_cut (n := 1) (by omega) (show Own w0 (Sl 3 1 (.slice (some ⟨rb, ro, none⟩) (L + 1) cap) (L + 1) ((n :: r).map (Value.int .i64)) * _) w from h3.perm (by unfold IntSl; rw [List.length_cons, ← hL]))
    have h7 : Own w0 (IntSl CV r * (rpBlk q cs * (starL rowP (rows.eraseIdx (x * 5 + y)) * (IntSl gv s.gold * R)))) w := by
      rw [hCV]
      unfold IntSl
      rw [← hL]
      exact h6
    have h8 : Own w0 (rpBlk q (cs.setIfInBounds (1 + x * 5 + y) CV) * _) (w.setCell ⟨q, 1 + x * 5 + y, none⟩ CV) := Own.setCell (i := 1 + x * 5 + y) (v := CV) h7.second
    exact (rp_put hl (h8.perm (show _ = IntSl CV r * (rpBlk q (cs.setIfInBounds (1 + x * 5 + y) CV) * (starL rowP (rows.eraseIdx (x * 5 + y)) * (IntSl gv s.gold * R))) by ac_rfl))).drew
  have he2 := rpOf_pop he hx hy CV (l := r) (by rw [hr]; rfl)
  obtain ⟨S1, hS1⟩ : ∃ S, S = pcPop s (x : Int) (y : Int) := ⟨_, rfl⟩
  rw [← hS1] at he2 ⊢
  have hp2 : PaI P S1 := by rw [hS1]; exact hp
  have hg1 : S1.gold = s.gold := by rw [hS1]; rfl
  rw [← hg1] at hset
  obtain ⟨w1, hw1⟩ : ∃ w', w' = (w.setCell ⟨q, 1 + x * 5 + y, none⟩ CV).drew := ⟨_, rfl⟩
  rw [← hw1] at hset
  obtain ⟨cs1, hcs1⟩ : ∃ c, c = cs.setIfInBounds (1 + x * 5 + y) CV := ⟨_, rfl⟩
  obtain ⟨rows1, hrows1⟩ : ∃ c, c = rows.set (x * 5 + y) (CV, r) := ⟨_, rfl⟩
  rw [← hcs1, ← hrows1] at hset he2
  have HO1 : Hid (Own w0 (rpBlk q cs1 * (IntSl gv S1.gold * (starL rowP rows1 * R))) w1) := Lib.hid (hset.perm (by ac_rfl))
  have hok : PicOk s := picOk_of hI hall
  have hok1 : PicOk S1 := by rw [hS1]; exact picOk_pop hok _ _
  clear h1 h2 h3 hr3 ho hset hcs1 hrows1
  obtain ⟨ca, cc, hcs⟩ : ∃ ca cc, CV = .slice ca L cc := ⟨cutA (some ⟨rb, ro, none⟩) cap 1, cap - 1, by rw [hCV]; rfl⟩
  subst hcs
  have hmy : pcHas S1 (y : Int) = true := by rw [hS1]; exact pcHas_mem.2 hwy.2.1
  have hN1 : S1.gold.length = N := by rw [hg1, hN]
  have HWW := Lib.hid hwy
  have HMO : Hid (n = 0 → ∃ z, mget (pcMarkW S1 (y : Int)).opn ((x : Int), (y : Int)) = some z) := Lib.hid (fun h0 => by
    rw [hS1]; exact hI.mark_open hwy (by rw [hr, h0]))
  have HW1 : Hid (∀ z, mget S1.opn ((x : Int), (y : Int)) = some z → (mget S1.wrote (y : Int)).isSome = true) := Lib.hid (fun z hz => by
    rw [hS1] at hz ⊢; exact (hI.inv.O0 _ _ z hz).2.2)
  have HND : Hid ((S1.wrote.map (·.1)).Nodup ∧ (S1.opn.map (·.1)).Nodup) := Lib.hid (by rw [hS1]; exact ⟨hI.wnd, hI.ond⟩)
  obtain ⟨gb, go, gc, hgv, hg2, hg3, hgs⟩ := HO1.out.second.gold_shape (s := S1) (by omega)
  rw [hN1] at hgv hg2 hgs
  clear hwy
  have H := Lib.hid h; have HI := Lib.hid hI; have HALL := Lib.hid hall; have HE := Lib.hid hE; have HW := Lib.hid hw; have HR := Lib.hid hr; have HE := Lib.hid he; have HP := Lib.hid hp; have HCV := Lib.hid hCV; have HROW := Lib.hid hrow; have HS1 := Lib.hid hS1; have HP2 := Lib.hid hp2; have HG1 := Lib.hid hg1; have HOK := Lib.hid hok; have HN := Lib.hid hN; have HL := Lib.hid hl; have HSM1 := Lib.hid hsm1; have HSM2 := Lib.hid hsm2; have HL := Lib.hid hL; have HGS := Lib.hid hgs; have HGV := Lib.hid hgv; have HN := Lib.hid hn
  clear h hI hall hE hw hr he hp hCV hrow hS1 hp2 hg1 hok hN hl hsm1 hsm2 hL hgs hgv hn
  have HRC := Lib.hid he2
  have HOKK := Lib.hid hok1
  have HGN := Lib.hid hN1
  have HHM := Lib.hid hmy
  clear he2 hok1 hN1 hmy
  by_cases h0 : n = 0
  rotate_left
  · have npos : 0 < n := by omega
    have t1 : decide (0 < n) = true := decide_eq_true npos
    rw [if_neg h0]
    have hgl := HGS.out _ _ S1.gold HGN.out HO1.out.second
    have hgq : w1.cell? ⟨gb, go + y, none⟩ = some (.int .i64 (pcG S1 (y : Int))) := hgl.1 y hyN
    have hgf := hgl.2.1 (go + y) none
    obtain ⟨g, hg⟩ : ∃ g, g = pcG S1 (y : Int) := ⟨_, rfl⟩
    have hgb := HOKK.out.gold (y : Int)
    rw [← hg] at hgq hgb
    obtain ⟨gb0, gb1⟩ := hgb
    obtain ⟨c0, _⟩ := HO1.out.rp_cells HRC.out
    rw [HGV.out] at c0
    have ho2 := (hgl.2.2 y (g + n) hyN).drew
    obtain ⟨S2, hS2⟩ : ∃ S, S = pcGet1 S1 (y : Int) n := ⟨_, rfl⟩
    have hg2' : S2.gold = S1.gold.set y (g + n) := by rw [hS2, hg]; unfold pcGet1; rw [Int.toNat_natCast]
    rw [← hg2'] at ho2
    have hc2 : RpC cs1 gv rows1 (rpOf S2 P) := by rw [hS2]; exact HRC.out
    have hp3 : PaI P S2 := by rw [hS2]; exact HP2.out
    have HO2 : Hid (Own w0 (rpBlk q cs1 * (IntSl gv S2.gold * (starL rowP rows1 * R))) (w1.setCell ⟨gb, go + y, none⟩ (.int .i64 (g + n))).drew) := Lib.hid (ho2.perm (by ac_rfl))
    rw [← hS2]
    have ho_opn : S2.opn = S1.opn := by rw [hS2]; rfl
    have ho_wr : S2.wrote = S1.wrote := by rw [hS2]; rfl
    clear hgl ho2
    have HG := Lib.hid hg; have HS2 := Lib.hid hS2; have HG2' := Lib.hid hg2'; have HC2 := Lib.hid hc2; have HP3 := Lib.hid hp3; have H0 := Lib.hid h0
    clear hg hS2 hg2' hc2 hp3 h0
    go_enter Tryd.func22, Tryd.ntmps22
    go_wp2_with fail
    refine HWY.out.mono ?_
    rintro e w' ⟨rfl, rfl⟩
    go_upto_region 7 with fail
    refine wp_region_tail 16 (by kernel_rfl) (by kernel_rfl) ?_
    simp only [List.take_succ_cons, List.take_zero, List.drop_succ_cons, List.drop_zero]
    repeat still_step
    refine wpStill_nil ?_
    go_upto_region 9 with fail
    rw [← hw1]
    clear hw1 e5 f5 hr30 hcut
    refine wp_region_tail 15 (by kernel_rfl) (by kernel_rfl) ?_
    simp only [List.take_succ_cons, List.take_zero, List.drop_succ_cons, List.drop_zero]
    repeat still_step
    refine wpStill_nil ?_
    go_upto_region 10 with fail
    generalize hW2 : (World.drew (World.setCell _ _ _)) = w2 at HO2 ⊢
    clear hW2 c0 hgq hgf
    have e6 := ((HO2.out.rp_cells HC2.out).2.2.2.2.1 x y hx hy).1
    have e6' : w2.cell? ⟨q, 37 + x * 5 + y, none⟩ = some (.bool (mget S1.opn ((x : Int), (y : Int))).isSome) := by rw [e6, ← ho_opn]; rfl
    clear e6
    cases hz : mget S1.opn ((x : Int), (y : Int)) with
    | none =>
      rw [hz] at e6'
      have hG : pcGet2 S2 (x : Int) (y : Int) n = S2 := by unfold pcGet2; rw [ho_opn, hz, if_neg (by simp)]
      have HF : Hid (Own w0 (RpP q (pcGet2 S2 (x : Int) (y : Int) n) * R) w2) := Lib.hid (by rw [hG]; exact Own.rp_close HC2.out HP3.out HO2.out)
      simp only [Option.isSome_none] at e6'
      have HZ := Lib.hid hz; have HG := Lib.hid hG; have HO_OPN := Lib.hid ho_opn; have HO_WR := Lib.hid ho_wr
      clear hz hG ho_opn ho_wr
      go_wp2
      go_ret2
      exact ⟨rfl, HF.out⟩
    | some z =>
      rw [hz] at e6'
      simp only [Option.isSome_some] at e6'
      have hz2 : mget S2.opn ((x : Int), (y : Int)) = some z := by rw [ho_opn]; exact hz
      have hPz : P x y = z := (HP3.out x y hx hy).1 z hz2
      have hzb := HOKK.out.opn (x : Int) (y : Int)
      rw [hz, Option.getD_some] at hzb
      obtain ⟨z0, z1⟩ := hzb
      have e7 : w2.cell? ⟨q, 63 + x * 5 + y, none⟩ = some (.int .i64 z) := by
        rw [← hPz]; exact ((HO2.out.rp_cells HC2.out).2.2.2.2.1 x y hx hy).2
      have f7 : w2.frozen? ⟨q, 63 + x * 5 + y, none⟩ = false := (HO2.out.rp_cells HC2.out).2.2.2.2.2 _ none
      obtain ⟨P', k1, k2⟩ := rpOf_part (n := n) HC2.out HP3.out hx hy hz2 (by rw [ho_wr]; exact HW1.out z hz)
      have HF : Hid (Own w0 (RpP q (pcGet2 S2 (x : Int) (y : Int) n) * R) (w2.setCell ⟨q, 63 + x * 5 + y, none⟩ (.int .i64 (z + n))).drew) := Lib.hid (by
        have hgg : (pcGet2 S2 (x : Int) (y : Int) n).gold = S2.gold := by unfold pcGet2; split <;> rfl
        refine Own.rp_close k1 k2 ?_
        rw [hgg]
        exact (show Own w0 (rpBlk q _ * _) _ from Own.setCell (i := 63 + x * 5 + y) (v := .int .i64 (z + n)) HO2.out).drew)
      clear k1 k2
      have HZ := Lib.hid hz; have HZ2 := Lib.hid hz2; have HPZ := Lib.hid hPz; have HO_OPN := Lib.hid ho_opn; have HO_WR := Lib.hid ho_wr
      clear hz hz2 hPz ho_opn ho_wr
      go_upto_region 11 with fail
      refine wp_region_tail 17 (by kernel_rfl) (by kernel_rfl) ?_
      simp only [List.take_succ_cons, List.take_zero, List.drop_succ_cons, List.drop_zero]
      repeat still_step
      refine wpStill_nil ?_
      go_wp2
      go_ret2
      exact ⟨rfl, HF.out⟩
  · subst h0
    rw [if_pos rfl]
    unfold pcMark
    obtain ⟨D, hD⟩ : ∃ D, D = (mget S1.wrote (y : Int)).isSome := ⟨_, rfl⟩
    have e6 := ((HO1.out.rp_cells HRC.out).2.2.2.1 y hy).1
    have e6' : w1.cell? ⟨q, 27 + y, none⟩ = some (.bool D) := by rw [e6, hD]; rfl
    have HRP : Hid (Own w0 (RpP q S1 * R) w1) := Lib.hid (Own.rp_close HRC.out HP2.out HO1.out)
    obtain ⟨S2, hS2⟩ : ∃ S, S = pcMarkW S1 (y : Int) := ⟨_, rfl⟩
    rw [← hS2]
    have HWRC := Lib.hid (fun (hno : mget S1.wrote (y : Int) = none) => rpWrite_any q S1 (y : Int) HHM.out (by rw [HGN.out]; exact h5) hno (fun a b => by
      obtain ⟨r1, r2⟩ := HOKK.out.row a b
      exact ⟨r1, fun v hv => by have := r2 v hv; unfold I64; omega⟩) (fun v hv => by
      obtain ⟨i, hi, rfl⟩ := List.mem_iff_getElem.1 hv
      have h9 := HOKK.out.gold (i : Int)
      unfold pcG gAt at h9
      rw [if_pos (by omega), Int.toNat_natCast, List.getD_eq_getElem?_getD, List.getElem?_eq_getElem hi] at h9
      have h10 : 0 ≤ S1.gold[i] ∧ S1.gold[i] ≤ 1000000 := h9
      unfold I64; omega) HRP.out)
    clear e6
    have HD := Lib.hid hD; have HS2 := Lib.hid hS2
    clear hD hS2
    go_enter Tryd.func22, Tryd.ntmps22
    go_wp2_with fail
    refine HWY.out.mono ?_
    rintro e w' ⟨rfl, rfl⟩
    go_upto_region 7 with fail
    refine wp_region_tail 16 (by kernel_rfl) (by kernel_rfl) ?_
    simp only [List.take_succ_cons, List.take_zero, List.drop_succ_cons, List.drop_zero]
    repeat still_step
    refine wpStill_nil ?_
    go_upto_region 8 with fail
    rw [← hw1]
    clear hw1 e5 f5 hr30 hcut
    go_upto_if 102 with fail
    go_cut [] (fun wx => Own w0 (RpP q S2 * R) wx)
    case first =>
      cases D
      · have hno : mget S1.wrote (y : Int) = none := Option.not_isSome_iff_eq_none.1 (by rw [← HD.out]; simp)
        have hw2 : S2 = pcWrite S1 (y : Int) := by rw [HS2.out]; unfold pcMarkW; rw [if_neg (by rw [hno]; simp)]
        have HC3 := Lib.hid (HWRC.out hno)
        rw [← hw2] at HC3
        have HNO := Lib.hid hno; have HW2 := Lib.hid hw2
        clear hno hw2
        go_wp2_with fail
        refine HC3.out.mono ?_
        rintro e w3 ⟨rfl, ho⟩
        have HO3 := Lib.hid ho
        clear ho
        go_wp2_with fail
        go_meet
        exact HO3.out
      · have hw2 : S2 = S1 := by rw [HS2.out]; unfold pcMarkW; rw [if_pos HD.out.symm]
        have HO3 : Hid (Own w0 (RpP q S2 * R) w1) := Lib.hid (by rw [hw2]; exact HRP.out)
        have HW2 := Lib.hid hw2
        clear hw2
        go_wp2_with fail
        go_meet
        exact HO3.out
    case rest =>
    obtain ⟨cs2, gv2, rows2, P2, ⟨hc2, hp3⟩, ho2⟩ := hcut.rp_open
    obtain ⟨z, hz⟩ := HMO.out (by trivial)
    rw [← HS2.out] at hz
    have hnd : (S2.opn.map (·.1)).Nodup := by
      rw [HS2.out]
      unfold pcMarkW
      split
      · exact HND.out.2
      · exact (write_nd (y : Int) HND.out.1 HND.out.2).2
    obtain ⟨hzb, hon⟩ := markW_opn HOKK.out (y : Int) (x : Int) (y : Int)
    rw [← HS2.out, hz, Option.getD_some] at hzb
    rw [← HS2.out] at hon
    obtain ⟨z0, z1⟩ := hzb
    have hob := HOKK.out.on
    rw [← hon] at hob
    obtain ⟨on, hon2⟩ : ∃ o, o = S2.onWay := ⟨_, rfl⟩
    rw [← hon2] at hob
    obtain ⟨o0, o1⟩ := hob
    have hPz : P2 x y = z := (hp3 x y hx hy).1 z hz
    obtain ⟨k1, k2⟩ := rpOf_close hc2 hp3 hx hy hz hnd
    rw [← hon2] at k1
    obtain ⟨_, _, _, _, c5, cf⟩ := ho2.rp_cells hc2
    have e8 := (c5 x y hx hy).1
    have f8 := cf (37 + x * 5 + y) none
    have ho3 : Own w0 (rpBlk q (cs2.setIfInBounds (37 + x * 5 + y) (.bool false)) * (IntSl gv2 S2.gold * (starL rowP rows2 * R))) (wc.setCell ⟨q, 37 + x * 5 + y, none⟩ (.bool false)) := Own.setCell (i := 37 + x * 5 + y) (v := .bool false) ho2
    have hc3 := hc2.setOpn hx hy false
    obtain ⟨w3, hw3⟩ : ∃ w', w' = wc.setCell ⟨q, 37 + x * 5 + y, none⟩ (.bool false) := ⟨_, rfl⟩
    rw [← hw3] at ho3
    obtain ⟨_, _, d2, _, d5, df⟩ := ho3.rp_cells hc3
    have d2' : w3.cell? ⟨q, 62, none⟩ = some (.int .i64 on) := by rw [d2, hon2]; rfl
    have d6 : w3.cell? ⟨q, 63 + x * 5 + y, none⟩ = some (.int .i64 z) := by rw [← hPz]; exact (d5 x y hx hy).2
    have df6 := df 62 none
    have HF : Hid (Own w0 (RpP q (pcMarkO S2 (x : Int) (y : Int)) * R) (w3.setCell ⟨q, 62, none⟩ (.int .i64 (on + z))).drew) := Lib.hid (by
      refine Own.rp_close k1 k2 ?_
      have hgg : (pcMarkO S2 (x : Int) (y : Int)).gold = S2.gold := rfl
      rw [hgg]
      exact (show Own w0 (rpBlk q _ * _) _ from Own.setCell (i := 62) (v := .int .i64 (on + z)) ho3).drew)
    clear k1 k2 c5 cf d2 d5 df ho2 ho3 hcut hc3
    have HZ := Lib.hid hz; have HND := Lib.hid hnd; have HON := Lib.hid hon; have HON2 := Lib.hid hon2; have HPZ := Lib.hid hPz; have HC2 := Lib.hid hc2; have HP3 := Lib.hid hp3
    clear hz hnd hon hon2 hPz hc2 hp3
    go_upto_region 16 with fail
    rw [← hw3]
    clear hw3 e8 f8
    refine wp_region_tail 16 (by kernel_rfl) (by kernel_rfl) ?_
    simp only [List.take_succ_cons, List.take_zero, List.drop_succ_cons, List.drop_zero]
    repeat still_step
    refine wpStill_nil ?_
    go_wp2
    go_ret2
    exact ⟨rfl, HF.out⟩
set_option maxRecDepth 100000 in
set_option maxHeartbeats 4000000 in
theorem rpCome_any {w0 w : World} {R : HProp} (q : Nat) (s : Pic) (a b : Int) {all : Int} (hI : PcInv all s) (hall : all ≤ 1000000) (h : Own w0 (RpP q s * R) w) :
    Calls Tryd.prog 22 #[.pointer (some ⟨q, 0, none⟩), .int .i64 a, .int .i64 b] w fun e w' => e = .returned (.tuple #[.int .i64 (pcComeVal s a b), .int .i64 (pcComeErr s a b : Nat)]) ∧ Own w0 (RpP q (pcCome s a b) * R) w' := by
  rcases come_cases s a b with ⟨h1, h2⟩ | ⟨n, r, h1, h2, h3, h4, h5⟩
  · have h3 : pcComeVal s a b = 0 := by unfold pcComeVal; rw [if_neg h1]
    rw [h2, h3]
    exact rpCome_no q s a b hI h1 h
  · rw [h4, h5, h1]
    obtain ⟨x, rfl⟩ : ∃ x : Nat, a = (x : Int) := ⟨a.toNat, by have := h2.1.1; omega⟩
    obtain ⟨y, rfl⟩ : ∃ y : Nat, b = (y : Int) := ⟨b.toNat, by have := h2.2.1.1; omega⟩
    exact rpCome_yes q s x y hI hall n r h1 h2 h3 h
end Go.Proofs.YtpgonkecicmanaaDoor
/- The reference's Picture: Done. -/
namespace Go.Proofs.YtpgonkecicmanaaDoor
set_option linter.unusedVariables false
set_option linter.unusedSimpArgs false
open Go.RowKit Go.Maps
set_option maxRecDepth 100000 in
set_option maxHeartbeats 4000000 in
theorem rpDone_any {w0 w : World} {R : HProp} (q : Nat) (s : Pic) {all : Int} (hI : PcInv all s) (h : Own w0 (RpP q s * R) w) :
    Calls Tryd.prog 28 #[.pointer (some ⟨q, 0, none⟩)] w fun e w' => e = .returned (.bool (pcDone s)) ∧ w = w' := by
  have hd := hI.done_iff
  obtain ⟨cs, gv, rows, P, ⟨he, hp⟩, ho⟩ := h.rp_open
  obtain ⟨c0, _, _, c3, c5, _⟩ := ho.rp_cells he
  obtain ⟨ad, cap, hs⟩ := Own.int_shape ho.second
  obtain ⟨N, hN⟩ : ∃ n, n = s.gold.length := ⟨_, rfl⟩
  have hN5 : N ≤ 5 := by rw [hN]; exact hI.inv.n5.2
  rw [← hN] at hs
  rw [hs] at c0
  have hnn : (pvOf s).n = N := hN.symm
  have no1 : ∀ i : Nat, i < N → (mget s.wrote (i : Int)).isSome = false → pcDone s = false := fun i hi hW => by
    cases hb : pcDone s
    · rfl
    · have h1 := (hd.1 hb).1 (i : Int) ⟨by omega, by rw [hnn]; omega⟩
      have h2 : (mget s.wrote (i : Int)).isSome = true := h1
      rw [hW] at h2; cases h2
  have no2 : ∀ i k : Nat, (mget s.opn ((i : Int), (k : Int))).isSome = true → pcDone s = false := fun i k hO => by
    cases hb : pcDone s
    · rfl
    · have h1 := (hd.1 hb).2 (i : Int) (k : Int)
      have h2 : mget s.opn ((i : Int), (k : Int)) = none := h1
      rw [h2] at hO; cases hO
  have yes : (∀ i : Nat, i < N → (mget s.wrote (i : Int)).isSome = true ∧ ∀ k : Nat, k < N → (mget s.opn ((i : Int), (k : Int))).isSome = false) → pcDone s = true := fun hh => by
    refine hd.2 ⟨fun m hm => ?_, fun a b => ?_⟩
    · obtain ⟨i, rfl⟩ : ∃ i : Nat, m = (i : Int) := ⟨m.toNat, by have := hm.1; omega⟩
      exact (hh i (by have := hm.2; omega)).1
    · cases hx : (pvOf s).O a b with
      | none => rfl
      | some z =>
        obtain ⟨hw, _⟩ := hI.inv.O0 a b z hx
        obtain ⟨i, rfl⟩ : ∃ i : Nat, a = (i : Int) := ⟨a.toNat, by have := hw.1.1; omega⟩
        obtain ⟨k, rfl⟩ : ∃ i : Nat, b = (i : Int) := ⟨b.toNat, by have := hw.2.1.1; omega⟩
        have h9 := (hh i (by have := hw.1.2; omega)).2 k (by have := hw.2.1.2; omega)
        have hx2 : mget s.opn ((i : Int), (k : Int)) = some z := hx
        rw [hx2] at h9; cases h9
  have HC3 : Hid (∀ i : Nat, i < N → w.cell? ⟨q, 27 + i, none⟩ = some (.bool (mget s.wrote (i : Int)).isSome)) := Lib.hid (fun i hi => (c3 i (by omega)).1)
  have HC5 : Hid (∀ i k : Nat, i < N → k < N → w.cell? ⟨q, 37 + i * 5 + k, none⟩ = some (.bool (mget s.opn ((i : Int), (k : Int))).isSome)) := Lib.hid (fun i k hi hk => (c5 i k (by omega) (by omega)).1)
  clear c3 c5
  have HDI := Lib.hid hd
  clear hd
  have H := Lib.hid h; have HI := Lib.hid hI; have HE := Lib.hid he; have HP := Lib.hid hp; have HO := Lib.hid ho; have HS := Lib.hid hs; have HN := Lib.hid hN; have HNN := Lib.hid hnn; have NO1 := Lib.hid no1; have NO2 := Lib.hid no2; have YES := Lib.hid yes
  clear h hI he hp ho hs hN hnn no1 no2 yes
  go_enter Tryd.func28, Tryd.ntmps28
  go_wp2_with fail
  go_loopw [3] (fun iv wr => ∃ i : Nat, i ≤ N ∧ iv = .int .i64 (i : Int) ∧ Hid (wr = w ∧ ∀ j : Nat, j < i → (mget s.wrote (j : Int)).isSome = true ∧ ∀ k : Nat, k < N → (mget s.opn ((j : Int), (k : Int))).isSome = false)) (fun iv _ => N - (intOf iv).toNat)
  case atStart => exact ⟨0, Nat.zero_le _, rfl, Lib.hid ⟨rfl, fun j hj => by omega⟩⟩
  case round =>
    obtain ⟨i, hi, rfl, HR⟩ := hrel
    obtain ⟨hw, hA⟩ := HR.out
    subst hw
    by_cases hlt : i < N
    rotate_left
    · have hiN : i = N := by omega
      have hD : pcDone s = true := YES.out (by rw [← hiN]; exact fun j hj => by rw [hiN] at hj ⊢; exact hA j (by omega))
      have t1 : decide ((i : Int) < (N : Int)) = false := decide_eq_false (by omega)
      have HIN := Lib.hid hiN; have HD := Lib.hid hD; have HA := Lib.hid hA
      clear hiN hD hA
      go_wp2
      go_ret
      exact ⟨by rw [HD.out]; rfl, rfl⟩
    have t1 : decide ((i : Int) < (N : Int)) = true := decide_eq_true (by omega)
    have i0 : (0 : Int) ≤ (i : Int) := by omega
    have i5 : (i : Int) < 5 := by omega
    have e1 := HC3.out i hlt
    cases hW : (mget s.wrote (i : Int)).isSome
    · have hD := NO1.out i hlt hW
      rw [hW] at e1
      have HD := Lib.hid hD; have HA := Lib.hid hA; have HW := Lib.hid hW
      clear hD hA hW
      go_wp2
      go_ret
      exact ⟨by rw [HD.out]; rfl, rfl⟩
    rw [hW] at e1
    have HA := Lib.hid hA
    clear hA
    have HW := Lib.hid hW
    clear hW
    go_wp2_with fail
    go_loopw [4] (fun kv w4 => ∃ k : Nat, k ≤ N ∧ kv = .int .i64 (k : Int) ∧ Hid (w4 = wr ∧ ∀ j : Nat, j < k → (mget s.opn ((i : Int), (j : Int))).isSome = false)) (fun kv _ => N - (intOf kv).toNat)
    case atStart => exact ⟨0, Nat.zero_le _, rfl, Lib.hid ⟨rfl, fun j hj => by omega⟩⟩
    case round =>
      obtain ⟨k, hk, rfl, HR2⟩ := hrel
      obtain ⟨hw2, hB⟩ := HR2.out
      subst hw2
      by_cases hlk : k < N
      rotate_left
      · have hkN : k = N := by omega
        have HNX : Hid (∀ j : Nat, j < i + 1 → (mget s.wrote (j : Int)).isSome = true ∧ ∀ k : Nat, k < N → (mget s.opn ((j : Int), (k : Int))).isSome = false) := Lib.hid (fun j hj => by
          by_cases e : j = i
          · subst e; exact ⟨HW.out, fun k' hk' => hB k' (by omega)⟩
          · exact HA.out j (by omega))
        have t2 : decide ((k : Int) < (N : Int)) = false := decide_eq_false (by omega)
        clear hB e1
        have HKN := Lib.hid hkN
        clear hkN
        go_wp2
        go_roundw
        case rel => exact ⟨i + 1, by omega, by go_num, Lib.hid ⟨by first | rfl | trivial, HNX.out⟩⟩
        case measure => simp [intOf]; omega
      have t2 : decide ((k : Int) < (N : Int)) = true := decide_eq_true (by omega)
      have k0 : (0 : Int) ≤ (k : Int) := by omega
      have k5 : (k : Int) < 5 := by omega
      have e2 := HC5.out i k hlt hlk
      cases hO : (mget s.opn ((i : Int), (k : Int))).isSome
      · rw [hO] at e2
        have HNX : Hid (∀ j : Nat, j < k + 1 → (mget s.opn ((i : Int), (j : Int))).isSome = false) := Lib.hid (fun j hj => by
          by_cases e : j = k
          · subst e; exact hO
          · exact hB j (by omega))
        clear hB
        have HO := Lib.hid hO
        clear hO
        go_wp2
        go_roundw
        case rel => exact ⟨k + 1, by omega, by go_num, Lib.hid ⟨by first | rfl | trivial, HNX.out⟩⟩
        case measure => simp [intOf]; omega
      · have hD := NO2.out i k hO
        rw [hO] at e2
        have HD := Lib.hid hD; have HB := Lib.hid hB; have HO := Lib.hid hO
        clear hD hB hO
        go_wp2
        go_ret
        exact ⟨by rw [HD.out]; rfl, rfl⟩
end Go.Proofs.YtpgonkecicmanaaDoor
