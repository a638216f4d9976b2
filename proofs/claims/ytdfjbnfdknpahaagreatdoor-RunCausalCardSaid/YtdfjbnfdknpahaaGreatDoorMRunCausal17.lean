/- run's numbers: a row of numbers. -/
import Derived.Test.YtdfjbnfdknpahaaGreatDoorMRunCausal16
import Derived.Test.YtdfjbnfdknpahaaGreatDoorMRunCausal2
import Derived.Test.YtdfjbnfdknpahaaGreatDoorMRunCausal12
import Derived.Test.YtdfjbnfdknpahaaGreatDoorMRunCausal9
import Derived.Test.YtdfjbnfdknpahaaGreatDoorMRunCausal1
import Derived.Test.YtdfjbnfdknpahaaGreatDoorMRunCausal7
namespace Go.Proofs.YtdfjbnfdknpahaaGreatDoor
set_option linter.unusedVariables false
set_option linter.unusedSimpArgs false
open Go.RowKit
def itW (l : List Int) : List (List UInt8) := l.map fun x => Lib.decDigits x.toNat
theorem itoa_nn {x : Int} (h : 0 ≤ x) : Lib.itoa x = Lib.decDigits x.toNat := by unfold Lib.itoa; rw [if_neg (by omega)]
def Small (l : List Int) : Prop := l.length ≤ 1000 ∧ ∀ x ∈ l, 0 ≤ x ∧ x ≤ 1000
theorem itW_join {l : List Int} (h : Small l) : (joinB (itW l)).length ≤ 10000000 := by
  have h1 := joinB_len (ws := itW l) (m := 1001) (fun x hx => by
    obtain ⟨y, hy, rfl⟩ := List.mem_map.1 hx
    have h3 := (h.2 y hy).2
    have h4 := (dec_len y.toNat).2
    omega)
  have h2 := h.1
  have h3 : (itW l).length = l.length := List.length_map ..
  rw [h3] at h1
  omega
theorem rowT_it (l : List Int) : rowT l = rowW (itW l) := rowT_row l
set_option maxRecDepth 100000 in
set_option maxHeartbeats 4000000 in
theorem pnumbers_any {w0 w : World} {R : HProp} (hW : RunW w0) (v : Value) (l : List Int) (hs : Small l) (hv : ∀ w, Own w0 R w → Ints w v l) (h : Own w0 R w) :
    Calls Tryz.prog 54 #[v] w fun e w' => e = .returned (.string (tx (rowT l))) ∧ Own w0 R w' := by
  obtain ⟨n, hn⟩ : ∃ n, n = l.length := ⟨_, rfl⟩
  obtain ⟨ad, cap, rfl, hc1, hc2⟩ := (hv _ h).shape
  rw [← hn]
  have hit : ∀ (x : Int) (w2 : World) (R' : HProp), 0 ≤ x ∧ x ≤ 1000 → Own w0 R' w2 → Calls Tryz.prog 79 #[.int .i64 x] w2 fun e w' => e = .returned (.string (tx (Lib.decDigits x.toNat))) ∧ Own w0 R' w' := fun x w2 R' hx ho => by
    have h1 := itoa_any hW x (by unfold I64; omega) ho
    rw [itoa_nn hx.1] at h1
    exact h1
  have hrd : ∀ (i : Nat) (hi : i < l.length) (w : World), Own w0 R w → ∃ a : Addr, ad = some a ∧ w.cell? (a.add i) = some (.int .i64 l[i]) := fun i hi w ho => Rd.at' (hv w ho).1 (by rw [List.getElem?_map, List.getElem?_eq_getElem hi]; rfl)
  have hln : l.length ≤ 1000 := hs.1
  rw [← hn] at hln hc1
  have HN0 : Hid (Own w0 (StSl (.slice none 0 0) [] * R) w) := Lib.hid (h.sl_nil _ _)
  have hrow : ∀ (v : Value) (w2 : World) (R' : HProp), Own w0 (StSl v (itW l) * R') w2 → Calls Tryz.prog 80 #[v] w2 fun e w' => e = .returned (.string (tx (rowT l))) ∧ Own w0 (StSl v (itW l) * R') w' := fun v w2 R' ho => by
    rw [rowT_it]
    have h3 : (itW l).length = l.length := List.length_map ..
    have h4 := hs.1
    exact prow_any v (itW l) (by omega) (Nat.le_trans (itW_join hs) (by decide)) ho
  obtain ⟨T, hT⟩ : ∃ T, T = tx (rowT l) := ⟨_, rfl⟩
  rw [← hT] at hrow ⊢
  have H := Lib.hid h; have HV := Lib.hid hv; have HN := Lib.hid hn; have HIT := Lib.hid hit; have HRD := Lib.hid hrd; have HROW := Lib.hid hrow; have HT := Lib.hid hT
  clear h hv hn hit hrd hrow hT
  go_enter Tryz.func54, Tryz.ntmps54
  go_wp2_with fail
  go_loopw [3, 8] (fun sv iv wr => ∃ k : Nat, k ≤ n ∧ iv = .int .i64 k ∧ Hid (Own w0 (StSl sv (itW (l.take k)) * R) wr)) (fun _ iv _ => n - (intOf iv).toNat)
  case atStart => exact ⟨0, Nat.zero_le _, rfl, HN0⟩
  case round =>
    clear HN0
    obtain ⟨k, hk, rfl, HO⟩ := hrel
    by_cases hlt : k < n
    · have hkl : k < l.length := by rw [← HN.out]; exact hlt
      obtain ⟨a, rfl, hcell⟩ := HRD.out k hkl wr HO.out.drop
      have htk : itW (l.take (k + 1)) = itW (l.take k) ++ [Lib.decDigits (l[k]).toNat] := by
        unfold itW; rw [List.take_succ_eq_append_getElem hkl, List.map_append]; rfl
      have hkn : (itW (l.take k)).length = k := by unfold itW; rw [List.length_map, List.length_take]; omega
      have hcc := HIT.out l[k] wr _ (hs.2 _ (List.getElem_mem hkl)) HO.out
      obtain ⟨x, hx⟩ : ∃ x, x = l[k] := ⟨_, rfl⟩
      obtain ⟨D, hD⟩ : ∃ D, D = Lib.decDigits x.toNat := ⟨_, rfl⟩
      obtain ⟨S, hS⟩ : ∃ S, S = tx D := ⟨_, rfl⟩
      rw [← hx] at hcell hcc htk
      rw [← hD] at hcc htk
      rw [← hS] at hcc
      obtain ⟨pre, hpre⟩ : ∃ pre, pre = itW (l.take k) := ⟨_, rfl⟩
      rw [← hpre] at hcc htk hkn
      have HCC := Lib.hid hcc; have HX := Lib.hid hx; have HD := Lib.hid hD; have HS := Lib.hid hS; have HTK := Lib.hid htk; have HPRE := Lib.hid hpre
      clear hcc hx hD hS htk hpre
      go_wp2_with fail
      refine HCC.out.mono ?_
      rintro e w2 ⟨rfl, ho⟩
      have HO2 := Lib.hid ho
      clear ho
      go_wp2_with (at_builtin; refine wpList_app rfl _ _ 23 rfl 9 1 16 _ info_str Tryz.underlying23 rfl (by decide) rfl (HO2.out.alloc' _) rfl (by rfl) (Rd_lit (by simp) (by unfold maxLen; omega)) (by intro u hu; simp at hu; subst hu; rfl) (by unfold maxLen; omega) (by omega) ?_; intro v' w4 hown; have HO4 : Hid (Own w0 (StSl v' (pre ++ [D]) * R) w4) := Lib.hid (hown.perm (show _ = StSl v' (pre ++ [D]) * R by unfold StSl; simp [HS.out])); clear hown)
      go_roundw
      case rel => exact ⟨k + 1, by omega, by go_num, by rw [HTK.out]; exact HO4⟩
      case measure => simp [intOf]; omega
    · have hkn : k = n := by omega
      subst hkn
      have ho := HO.out
      rw [List.take_of_length_le (by have := HN.out; omega)] at ho
      have hrr := HROW.out _ _ _ ho
      have HRR := Lib.hid hrr; have HO := Lib.hid ho
      clear hrr ho
      go_wp2_with fail
      refine HRR.out.mono ?_
      rintro e w2 ⟨rfl, ho⟩
      have HO2 := Lib.hid ho
      clear ho
      go_wp2_with fail
      go_ret
      exact ⟨rfl, HO2.out.drop⟩
end Go.Proofs.YtdfjbnfdknpahaaGreatDoor
/- Contracts of package cause, of a member for whom none waits. -/
namespace Go.Proofs.YtdfjbnfdknpahaaGreatDoor
set_option linter.unusedVariables false
set_option linter.unusedSimpArgs false
open Go.RowKit
def CaP (p mb : Nat) (q : Int) (clk : List Int) : HProp :=
  blk p (.cells #[.int .i64 q, .slice (some ⟨mb, 0, none⟩) 5 5, .slice none 0 0] 124 (0, 0)) * IntSl (.slice (some ⟨mb, 0, none⟩) 5 5) clk
theorem Own.ca {w0 w : World} {p mb : Nat} {q : Int} {clk : List Int} {R : HProp} (h : Own w0 (CaP p mb q clk * R) w) (h5 : clk.length = 5) :
    w.cell? ⟨p, 0, none⟩ = some (.int .i64 q) ∧ w.cell? ⟨p, 1, none⟩ = some (.slice (some ⟨mb, 0, none⟩) 5 5) ∧ w.cell? ⟨p, 2, none⟩ = some (.slice none 0 0) ∧
    (∀ k, k < 5 → w.cell? ⟨mb, k, none⟩ = some (.int .i64 (clk.getD k 0))) ∧ (∀ k s, w.frozen? ⟨mb, k, s⟩ = false) ∧
    (∀ k x, k < 5 → Own w0 (CaP p mb q (clk.set k x) * R) (w.setCell ⟨mb, k, none⟩ (.int .i64 x))) := by
  have h1 : Own w0 (blk p (.cells #[.int .i64 q, .slice (some ⟨mb, 0, none⟩) 5 5, .slice none 0 0] 124 (0, 0)) * (IntSl (.slice (some ⟨mb, 0, none⟩) 5 5) clk * R)) w := h.perm (by unfold CaP; ac_rfl)
  have h2 : Own w0 (IntSl (.slice (some ⟨mb, 0, none⟩) 5 5) clk * (blk p (.cells #[.int .i64 q, .slice (some ⟨mb, 0, none⟩) 5 5, .slice none 0 0] 124 (0, 0)) * R)) w := h.perm (by unfold CaP; ac_rfl)
  obtain ⟨b, off, cap, e1, _, _, hcell, hfz, _, _, hset⟩ := h2.ints_at (by omega)
  rw [h5] at e1
  injection e1 with e1 _ e3
  injection e1 with e1
  injection e1 with e1 e2 _
  subst e1; subst e2; subst e3
  refine ⟨(h1.cell 0).trans rfl, (h1.cell 1).trans rfl, (h1.cell 2).trans rfl, fun k hk => ?_, hfz, fun k x hk => ?_⟩
  · have h3 := hcell k (by omega)
    rw [Nat.zero_add] at h3
    rw [h3, List.getD_eq_getElem?_getD, List.getElem?_eq_getElem (by omega)]; rfl
  · have h3 := hset k x (by omega)
    rw [Nat.zero_add] at h3
    exact h3.perm (by unfold CaP; ac_rfl)
theorem CaP_reads {w0 w : World} {p mb : Nat} {q : Int} {clk : List Int} {R : HProp} (hI : ∀ x ∈ clk, I64 x) (h : Own w0 (CaP p mb q clk * R) w) : Ints w (.slice (some ⟨mb, 0, none⟩) 5 5) clk :=
  IntSl_reads hI _ (h.perm (show _ = IntSl (.slice (some ⟨mb, 0, none⟩) 5 5) clk * (blk p (.cells #[.int .i64 q, .slice (some ⟨mb, 0, none⟩) 5 5, .slice none 0 0] 124 (0, 0)) * R) by unfold CaP; ac_rfl))
set_option maxRecDepth 100000 in
set_option maxHeartbeats 4000000 in
theorem causeNew_no (me : Int) (w : World) (hm : isMember me = false) :
    Calls Tryz.prog 33 #[.int .i64 me] w fun e w' => e = .returned (.tuple #[.pointer none, errV 1]) ∧ w = w' := by
  have HM := Lib.hid hm
  clear hm
  go_enter Tryz.func33, Tryz.ntmps33
  go_wp2_with fail
  refine (member_any _ _).mono ?_
  rintro e w' ⟨rfl, rfl⟩
  rw [HM.out]
  go_wp2
  go_ret2
  exact ⟨rfl, rfl⟩
set_option maxRecDepth 100000 in
set_option maxHeartbeats 4000000 in
theorem causeNew_yes {w0 w : World} {R : HProp} (me : Int) (hm : isMember me = true) (h : Own w0 R w) :
    Calls Tryz.prog 33 #[.int .i64 me] w fun e w' => ∃ p mb, e = .returned (.tuple #[.pointer (some ⟨p, 0, none⟩), errV 0]) ∧ Own w0 (CaP p mb me zero5 * R) w' := by
  have hmk : ∀ w, (Instr.makeSlice 57 (.int .i64 5) (.int .i64 5)).run Tryz.prog w = .ok (.slice (some ⟨w.heap.size, 0, none⟩) 5 5) (w.alloc (.cells #[.int .i64 0, .int .i64 0, .int .i64 0, .int .i64 0, .int .i64 0] 3)) := fun _ => by kernel_rfl
  have hnew := ((h.alloc (.cells #[.int .i64 0, .int .i64 0, .int .i64 0, .int .i64 0, .int .i64 0] 3)).zero5.alloc (.cells #[.int .i64 me, .slice (some ⟨w.heap.size, 0, none⟩) 5 5, .slice none 0 0] 124))
  rw [World.size_alloc] at hnew
  have HM := Lib.hid hm; have H := Lib.hid h; have HNEW := Lib.hid hnew
  clear hm h hnew
  go_enter Tryz.func33, Tryz.ntmps33
  go_wp2_with fail
  refine (member_any _ _).mono ?_
  rintro e w' ⟨rfl, rfl⟩
  rw [HM.out]
  go_wp2
  go_ret2
  exact ⟨_, w.heap.size, rfl, HNEW.out.perm (by unfold CaP; ac_rfl)⟩
def SdO (b : Nat) (a x : Int) (v : Value) : HProp := blk b (.cells #[.int .i64 a, .int .i64 x, v] 59 (0, 0))
theorem Own.sd {w0 w : World} {b : Nat} {a x : Int} {v : Value} {R : HProp} (h : Own w0 (SdO b a x v * R) w) : w.cell? ⟨b, 0, none⟩ = some (.int .i64 a) ∧ w.cell? ⟨b, 1, none⟩ = some (.int .i64 x) ∧ w.cell? ⟨b, 2, none⟩ = some v ∧ ∀ i s, w.frozen? ⟨b, i, s⟩ = false :=
  ⟨(Own.cell h 0).trans rfl, (Own.cell h 1).trans rfl, (Own.cell h 2).trans rfl, Own.free h⟩
theorem Own.sd_put {w0 w : World} {b : Nat} {a x : Int} {v : Value} {R : HProp} (a' x' : Int) (v' : Value) (h : Own w0 (SdO b a x v * R) w) : Own w0 (SdO b a' x' v' * R) (((w.setCell ⟨b, 0, none⟩ (.int .i64 a')).setCell ⟨b, 1, none⟩ (.int .i64 x')).setCell ⟨b, 2, none⟩ v') :=
  (Own.setCell (i := 2) (v := v') (Own.setCell (i := 1) (v := .int .i64 x') (Own.setCell (i := 0) (v := .int .i64 a') h))).perm rfl
theorem Own.sd_put2 {w0 w : World} {b : Nat} {a x : Int} {v : Value} {R : HProp} (v' : Value) (h : Own w0 (SdO b a x v * R) w) : Own w0 (SdO b a x v' * R) (w.setCell ⟨b, 2, none⟩ v') :=
  (Own.setCell (i := 2) (v := v') h).perm rfl
set_option maxRecDepth 100000 in
set_option maxHeartbeats 4000000 in
theorem causeSay_any {w0 w : World} {R : HProp} (p mb q : Nat) (hq : q < 5) (clk : List Int) (h5 : clk.length = 5) (word : Int) (hw : isWord word = true) (hI : ∀ x ∈ clk.set q (clk.getD q 0 + 1), I64 x) (hn : 0 ≤ clk.getD q 0 ∧ clk.getD q 0 < 1000000) (h : Own w0 (CaP p mb q clk * R) w) :
    Calls Tryz.prog 75 #[.pointer (some ⟨p, 0, none⟩), .int .i64 word] w fun e w' => ∃ v', e = .returned (.tuple #[.agg #[.int .i64 q, .int .i64 word, v'], errV 0]) ∧ Own w0 (IntSl v' (clk.set q (clk.getD q 0 + 1)) * (CaP p mb q (clk.set q (clk.getD q 0 + 1)) * R)) w' := by
  obtain ⟨b1, hb_b1⟩ : ∃ zz_, zz_ = (w).heap.size := ⟨_, rfl⟩
  obtain ⟨w1, hw_w1⟩ : ∃ zz_, zz_ = (w).alloc (.cells #[.int .i64 0, .int .i64 0, .slice none 0 0] 59 (0, 0)) := ⟨_, rfl⟩
  have h_HO := (h).alloc (.cells #[.int .i64 0, .int .i64 0, .slice none 0 0] 59 (0, 0))
  rw [← hb_b1, ← hw_w1] at h_HO
  have HO := Lib.hid h_HO
  clear h_HO
  have HO1 : Hid (Own w0 (CaP p mb q clk * (SdO b1 0 0 (.slice none 0 0) * R)) w1) := Lib.hid (HO.out.perm (star_left_comm _ _ _))
  obtain ⟨c0, c1, c2, hc, hf, hs⟩ := HO1.out.ca h5
  obtain ⟨y, hy⟩ : ∃ y, y = clk.getD q 0 := ⟨_, rfl⟩
  have d0 := hc q hq
  have f0 := hf q none
  have s0 := hs q (clk.getD q 0 + 1) hq
  rw [← hy] at d0 s0 hn hI ⊢
  obtain ⟨y0, y1⟩ := hn
  have t1 : (y == 1000000) = false := by rw [beq_eq_false_iff_ne]; omega
  have q0 : (0 : Int) ≤ (q : Int) := by omega
  have q5 : (q : Int) < 5 := by omega
  obtain ⟨w2, hw2⟩ : ∃ w2, w2 = w1.setCell ⟨mb, q, none⟩ (.int .i64 (y + 1)) := ⟨_, rfl⟩
  rw [← hw2] at s0
  obtain ⟨D, hD⟩ : ∃ D, D = clk.set q (y + 1) := ⟨_, rfl⟩
  rw [← hD] at s0 hI ⊢
  have hD5 : D.length = 5 := by rw [hD]; simp [h5]
  have HO2 := Lib.hid s0
  clear HO HO1 hc hf hs s0
  have H := Lib.hid h; have H5 := Lib.hid h5; have HI := Lib.hid hI; have HW := Lib.hid hw; have HY := Lib.hid hy; have HD := Lib.hid hD; have HD5 := Lib.hid hD5
  clear h h5 hI hw hy hD hD5
  go_enter Tryz.func75, Tryz.ntmps75
  go_upto_region 1 with fail
  rw [← hb_b1, ← hw_w1]
  clear hb_b1 hw_w1
  go_wp2_with fail
  refine (word_any _ _).mono ?_
  rintro e w' ⟨rfl, rfl⟩
  rw [HW.out]
  go_upto_region 3 with fail
  refine wp_region_tail 11 (by kernel_rfl) (by kernel_rfl) ?_
  simp only [List.take_succ_cons, List.take_zero, List.drop_succ_cons, List.drop_zero]
  repeat still_step
  refine wpStill_nil ?_
  go_upto_region 5 with fail
  refine wp_region_tail 11 (by kernel_rfl) (by kernel_rfl) ?_
  simp only [List.take_succ_cons, List.take_zero, List.drop_succ_cons, List.drop_zero]
  repeat still_step
  refine wpStill_nil ?_
  go_upto_region 6 with fail
  rw [← hw2]
  clear d0 c0 c1 c2 f0 hw2 t1
  have HO3 := Lib.hid HO2.out.drew.drew.drew
  obtain ⟨c0, c1, _, _, _, _⟩ := HO2.out.ca HD5.out
  refine wp_region_planH 11 [] [(true, 0), (true, 1), (true, 2), (true, 3), (true, 4), (true, 5), (true, 6), (true, 7), (true, 8), (false, 9), (true, 10)] [11, 12] (fun wS => (wS.cell? ⟨p, 0, none⟩ = some (.int .i64 q) ∧ wS.cell? ⟨p, 1, none⟩ = some (.slice (some ⟨mb, 0, none⟩) 5 5))) (by kernel_rfl) (by kernel_rfl) (⟨c0, c1⟩) ?_
  simp only [pickH, pick, List.getElem?_cons_succ, List.getElem?_cons_zero, Option.toList, Option.map_some, List.cons_append, List.nil_append]
  repeat (refine wpPure_step ?_ rfl ?_ ?_; rotate_left; (focus (intro _; first | with_reducible rfl | (go_simp; done) | (go_simp; with_reducible rfl) | rfl)); go_simp)
  refine wpPure_nil ?_
  repeat (refine wpMix_read ?_ rfl ?_ ?_; rotate_left; (focus (intro _ hS; obtain ⟨s1, s2⟩ := hS; first | with_reducible rfl | (go_simp; done) | (go_simp; with_reducible rfl) | rfl)); go_simp)
  refine wpMix_write (fun K hK => ?_)
  go_simp
  refine (cloneInts_any HO3.out _ D (CaP_reads HI.out HO3.out) (by rw [HD5.out]; omega)).mono ?_
  rintro e w4 ⟨v4, rfl, ho⟩
  obtain ⟨x1, x2, x3, x4⟩ := (ho.perm (show _ = SdO b1 0 0 (.slice none 0 0) * (IntSl v4 D * (CaP p mb q D * R)) by ac_rfl)).sd
  have x40 := x4 0 none
  have x41 := x4 1 none
  have x42 := x4 2 none
  obtain ⟨ad4, cap4, hv4, _⟩ := Own.rd ho
  subst hv4
  have hput := (ho.perm (show _ = SdO b1 0 0 (.slice none 0 0) * (IntSl (.slice ad4 D.length cap4) D * (CaP p mb q D * R)) by ac_rfl)).sd_put (q : Int) word (.slice ad4 D.length cap4)
  obtain ⟨p0, p1, p2, _⟩ := hput.sd
  have HPUT := Lib.hid hput.drop
  obtain ⟨k0, k1, _, _, _, _⟩ := (ho.perm (star_left_comm _ _ _)).ca HD5.out
  clear ho hput x4 c0 c1
  refine hK _ _ ⟨⟨k0, k1⟩, ?_⟩
  clear hK K
  go_simp
  repeat (refine wpMix_read ?_ rfl ?_ ?_; rotate_left; (focus (intro _ hS; obtain ⟨s1, s2⟩ := hS; first | with_reducible rfl | (go_simp; done) | (go_simp; with_reducible rfl) | rfl)); go_simp)
  refine wpMix_nil ?_
  go_wp2_with fail
  refine NoPanic.normal ?_
  go_wp2_with fail
  exact bodyPost_ret (v := .tuple #[.agg #[.int .i64 q, .int .i64 word, .slice ad4 D.length cap4], .nilIface]) (by simp [results, Tryz.results75, go_sem, p0, p1, p2]) rfl ⟨_, rfl, HPUT.out⟩
end Go.Proofs.YtdfjbnfdknpahaaGreatDoor
/- Contracts of package cause, continued: what comes in order is heard at once. -/
namespace Go.Proofs.YtdfjbnfdknpahaaGreatDoor
set_option linter.unusedVariables false
set_option linter.unusedSimpArgs false
open Go.RowKit
set_option maxRecDepth 100000 in
set_option maxHeartbeats 4000000 in
theorem saidIx_none (f : Value) (w : World) :
    Calls Tryz.prog 103 #[.slice none 0 0, f] w fun e w' => e = .returned (.int .i64 (-1)) ∧ w = w' := by
  go_enter Tryz.func103, Tryz.ntmps103
  go_wp2_with fail
  go_loop [8] (fun iv => iv = .int .i64 0) (fun _ => 0)
  case atStart => rfl
  case round =>
    subst hrel
    go_wp2
    go_ret
    exact ⟨rfl, rfl⟩
set_option maxRecDepth 100000 in
set_option maxHeartbeats 4000000 in
theorem saidHas_none (f : Value) (w : World) :
    Calls Tryz.prog 119 #[.slice none 0 0, f] w fun e w' => e = .returned (.bool false) ∧ w = w' := by
  go_enter Tryz.func119, Tryz.ntmps119
  go_wp2_with fail
  refine (saidIx_none f w).mono ?_
  rintro e w' ⟨rfl, rfl⟩
  go_wp2
  go_ret
  exact ⟨rfl, rfl⟩
set_option maxRecDepth 100000 in
set_option maxHeartbeats 4000000 in
theorem causeReady_yes {w0 w : World} {R : HProp} (p mb q : Nat) (hq : q < 5) (me : Int) (clk : List Int) (h5 : clk.length = 5) (word : Int) (vv : Value) (V : List Int) (V5 : V.length = 5) (hh : ∀ i, i < 5 → if i = q then V.getD i 0 = clk.getD i 0 + 1 else V.getD i 0 ≤ clk.getD i 0) (hb : ∀ i, i < 5 → 0 ≤ clk.getD i 0 ∧ clk.getD i 0 < 1000000) (hv : Reads w0 R vv V) (h : Own w0 (CaP p mb me clk * R) w) :
    Calls Tryz.prog 102 #[.pointer (some ⟨p, 0, none⟩), .agg #[.int .i64 q, .int .i64 word, vv]] w fun e w' => e = .returned (.bool true) ∧ Own w0 (CaP p mb me clk * R) w' := by
  obtain ⟨vad, vcap, rfl, hvc1, hvc2⟩ := (hv _ h.drop).shape
  rw [V5] at hvc1 hv ⊢
  obtain ⟨b1, hb_b1⟩ : ∃ zz_, zz_ = (w).heap.size := ⟨_, rfl⟩
  obtain ⟨w1, hw_w1⟩ : ∃ zz_, zz_ = (w).alloc (.cells #[.int .i64 q, .int .i64 word, .slice vad 5 vcap] 59 (0, 0)) := ⟨_, rfl⟩
  have h_HO := (h).alloc (.cells #[.int .i64 q, .int .i64 word, .slice vad 5 vcap] 59 (0, 0))
  rw [← hb_b1, ← hw_w1] at h_HO
  have HO := Lib.hid h_HO
  clear h_HO
  obtain ⟨x0, x1, x2, _⟩ := (show Own w0 (SdO b1 q word (.slice vad 5 vcap) * (CaP p mb me clk * R)) w1 from HO.out).sd
  have HO1 : Hid (Own w0 (CaP p mb me clk * (SdO b1 q word (.slice vad 5 vcap) * R)) w1) := Lib.hid (HO.out.perm (star_left_comm _ _ _))
  obtain ⟨c0, c1, c2, hc, _, _⟩ := HO1.out.ca h5
  have HVV := Lib.hid (hv _ HO1.out.drop.drop)
  clear HO
  have V5H := Lib.hid V5
  clear V5
  have H := Lib.hid h; have HV := Lib.hid hv; have H5 := Lib.hid h5; have HH := Lib.hid hh; have HB := Lib.hid hb; have HC := Lib.hid hc
  clear h hv h5 hh hb hc
  go_enter Tryz.func102, Tryz.ntmps102
  go_upto_region 1 with fail
  rw [← hb_b1, ← hw_w1]
  clear hb_b1 hw_w1
  go_wp2_with fail
  go_loop [10] (fun iv => ∃ i : Nat, i ≤ 5 ∧ iv = .int .i64 i) (fun iv => 5 - (intOf iv).toNat)
  case atStart => exact ⟨0, Nat.zero_le _, rfl⟩
  case round =>
    obtain ⟨i, hi, rfl⟩ := hrel
    by_cases hlt : i < 5
    rotate_left
    · go_wp2
      go_ret
      exact ⟨rfl, (HO1.out.perm (star_left_comm _ _ _)).drop⟩
    obtain ⟨aa, rfl, hca⟩ := HVV.out.at i (by rw [V5H.out]; exact hlt)
    obtain ⟨z, hz⟩ : ∃ z, z = V[i]'(by rw [V5H.out]; exact hlt) := ⟨_, rfl⟩
    rw [← hz] at hca
    have hzg : V.getD i 0 = z := by rw [hz, List.getD_eq_getElem?_getD, List.getElem?_eq_getElem (by rw [V5H.out]; exact hlt)]; rfl
    have d := HC.out i hlt
    have hhi := HH.out i hlt
    obtain ⟨y0, y1⟩ := HB.out i hlt
    rw [hzg] at hhi
    obtain ⟨y, hy⟩ : ∃ y, y = clk.getD i 0 := ⟨_, rfl⟩
    rw [← hy] at d hhi y0 y1
    have i0 : (0 : Int) ≤ (i : Int) := Int.natCast_nonneg i
    have i5 : (i : Int) < 5 := by omega
    by_cases hiq : i = q
    · rw [if_pos hiq] at hhi
      subst hhi
      subst hiq
      have HZ := Lib.hid hz; have HZG := Lib.hid hzg; have HY := Lib.hid hy
      clear hz hzg hy
      go_wp2
      go_round
      case rel => exact ⟨i + 1, by omega, by go_num⟩
      case measure => simp [intOf]; omega
    · rw [if_neg hiq] at hhi
      have t1 : ((i : Int) == (q : Int)) = false := by rw [beq_eq_false_iff_ne]; omega
      have t2 : ((i : Int) != (q : Int)) = true := by rw [bne_iff_ne]; omega
      have t3 : decide (y < z) = false := by simp; omega
      have HZ := Lib.hid hz; have HZG := Lib.hid hzg; have HY := Lib.hid hy; have HIQ := Lib.hid hiq; have HHI := Lib.hid hhi
      clear hz hzg hy hiq hhi
      go_wp2
      go_round
      case rel => exact ⟨i + 1, by omega, by go_num⟩
      case measure => simp [intOf]; omega
set_option maxRecDepth 100000 in
set_option maxHeartbeats 4000000 in
theorem causeCheck_ok {w0 w : World} {R : HProp} (p mb q : Nat) (hq : q < 5) (me : Int) (hme : (q : Int) ≠ me) (clk : List Int) (h5 : clk.length = 5) (word : Int) (hw : isWord word = true) (vv : Value) (V : List Int) (hV : vecErr V = 0) (hlt : clk.getD q 0 < V.getD q 0) (hpos : 0 ≤ clk.getD q 0) (hv : Reads w0 R vv V) (h : Own w0 (CaP p mb me clk * R) w) :
    Calls Tryz.prog 101 #[.pointer (some ⟨p, 0, none⟩), .agg #[.int .i64 q, .int .i64 word, vv]] w fun e w' => e = .returned (errV 0) ∧ Own w0 (CaP p mb me clk * R) w' := by
  have V5 := (vecErr0 hV).1
  obtain ⟨vad, vcap, rfl, hvc1, hvc2⟩ := (hv _ h.drop).shape
  rw [V5] at hvc1 hv ⊢
  obtain ⟨b1, hb_b1⟩ : ∃ zz_, zz_ = (w).heap.size := ⟨_, rfl⟩
  obtain ⟨w1, hw_w1⟩ : ∃ zz_, zz_ = (w).alloc (.cells #[.int .i64 q, .int .i64 word, .slice vad 5 vcap] 59 (0, 0)) := ⟨_, rfl⟩
  have h_HO := (h).alloc (.cells #[.int .i64 q, .int .i64 word, .slice vad 5 vcap] 59 (0, 0))
  rw [← hb_b1, ← hw_w1] at h_HO
  have HO := Lib.hid h_HO
  clear h_HO
  obtain ⟨x0, x1, x2, _⟩ := (show Own w0 (SdO b1 q word (.slice vad 5 vcap) * (CaP p mb me clk * R)) w1 from HO.out).sd
  have HVV := Lib.hid (hv _ HO.out.drop.drop)
  obtain ⟨aa, e1, hca⟩ := HVV.out.at q (by rw [V5]; exact hq)
  obtain ⟨z, hz⟩ : ∃ z, z = V[q]'(by rw [V5]; exact hq) := ⟨_, rfl⟩
  rw [← hz] at hca
  have hzg : V.getD q 0 = z := by rw [hz, List.getD_eq_getElem?_getD, List.getElem?_eq_getElem (by rw [V5]; exact hq)]; rfl
  subst e1
  rw [hzg] at hlt
  obtain ⟨b2, hb_b2⟩ : ∃ zz_, zz_ = (w1).heap.size := ⟨_, rfl⟩
  obtain ⟨w2, hw_w2⟩ : ∃ zz_, zz_ = (w1).alloc (.cells #[.int .i64 z] 3 (0, 0)) := ⟨_, rfl⟩
  have h_HO2 := (HO.out).alloc (.cells #[.int .i64 z] 3 (0, 0))
  rw [← hb_b2, ← hw_w2] at h_HO2
  have HO2 := Lib.hid h_HO2
  clear h_HO2
  have HO3 : Hid (Own w0 (blk b2 (.cells #[.int .i64 z] 3 (0, 0)) * (SdO b1 q word (.slice (some aa) 5 vcap) * (CaP p mb me clk * R))) w2) := HO2
  have n0 : w2.cell? ⟨b2, 0, none⟩ = some (.int .i64 z) := (HO3.out.cell 0).trans rfl
  obtain ⟨a0, a1, a2, _⟩ := HO3.out.drop.sd
  obtain ⟨c0, c1, c2, hc, _, _⟩ := (HO3.out.perm (show _ = CaP p mb me clk * (SdO b1 q word (.slice (some aa) 5 vcap) * (blk b2 (.cells #[.int .i64 z] 3 (0, 0)) * R)) by ac_rfl)).ca h5
  have cq := hc q hq
  clear hc
  have hm : isMember (q : Int) = true := by simp [isMember]; omega
  have q0 : (0 : Int) ≤ (q : Int) := Int.natCast_nonneg q
  have q5 : (q : Int) < 5 := by omega
  obtain ⟨y, hy⟩ : ∃ y, y = clk.getD q 0 := ⟨_, rfl⟩
  rw [← hy] at hlt hpos cq
  have t0 : (z == 0) = false := by rw [beq_eq_false_iff_ne]; omega
  have t1 : ((q : Int) == me) = false := by rw [beq_eq_false_iff_ne]; exact hme
  have t2 : decide (z ≤ y) = false := by simp; omega
  clear HO2
  have V5H := Lib.hid V5; have HVZ := Lib.hid hV
  clear hV HO
  have H := Lib.hid h; have HV := Lib.hid hv; have H5 := Lib.hid h5; have HW := Lib.hid hw; have HZ := Lib.hid hz; have HZG := Lib.hid hzg; have HM := Lib.hid hm; have HY := Lib.hid hy; have HME := Lib.hid hme
  clear h hv h5 hw hz hzg hm hy hme
  go_enter Tryz.func101, Tryz.ntmps101
  go_upto_region 1 with fail
  rw [← hb_b1, ← hw_w1]
  clear hb_b1 hw_w1
  go_wp2_with fail
  refine (member_any _ _).mono ?_
  rintro e w' ⟨rfl, rfl⟩
  rw [HM.out]
  go_wp2_with fail
  refine (word_any _ _).mono ?_
  rintro e w' ⟨rfl, rfl⟩
  rw [HW.out]
  go_wp2_with fail
  refine (vcheck_any _ V _ HVV.out).mono ?_
  rintro e w' ⟨rfl, rfl⟩
  rw [HVZ.out, errV0]
  go_upto_region 7 with fail
  rw [← hb_b2, ← hw_w2]
  clear hb_b2 hw_w2
  clear x0 x1 x2 hca
  refine wp_region_tail 7 (by kernel_rfl) (by kernel_rfl) ?_
  simp only [List.take_succ_cons, List.take_zero, List.drop_succ_cons, List.drop_zero]
  repeat still_step
  refine wpStill_nil ?_
  go_upto_region 11 with fail
  refine wp_region_tail 10 (by kernel_rfl) (by kernel_rfl) ?_
  simp only [List.take_succ_cons, List.take_zero, List.drop_succ_cons, List.drop_zero]
  repeat still_step
  refine wpStill_nil ?_
  go_wp2_with fail
  refine (saidHas_none _ _).mono ?_
  rintro e w' ⟨rfl, rfl⟩
  have HO4 := Lib.hid HO3.out.drop.drop.drew.drew
  go_wp2
  go_ret
  exact ⟨rfl, HO4.out⟩
theorem Own.lit1 {w0 w : World} {b : Nat} {x : Int} {R : HProp} (h : Own w0 (blk b (.cells #[.int .i64 x] 3 (0, 0)) * R) w) : Own w0 (IntSl (.slice (some ⟨b, 0, none⟩) 1 1) [x] * R) w := by
  unfold IntSl
  exact Own.sl_mk (Nat.le_refl _) (by unfold maxLen; omega) (by simp) (by simp) (fun i hi => by simp) h
set_option maxRecDepth 100000 in
set_option maxHeartbeats 4000000 in
theorem causeTake_alone {w0 w : World} {R : HProp} (p mb q : Nat) (hq : q < 5) (me : Int) (hme : (q : Int) ≠ me) (clk : List Int) (h5 : clk.length = 5) (word : Int) (hw : isWord word = true) (vv : Value) (V : List Int) (hV : vecErr V = 0) (hh : ∀ i, i < 5 → if i = q then V.getD i 0 = clk.getD i 0 + 1 else V.getD i 0 ≤ clk.getD i 0) (hb : ∀ i, i < 5 → 0 ≤ clk.getD i 0 ∧ clk.getD i 0 < 1000000) (hv : Reads w0 R vv V) (h : Own w0 (CaP p mb me clk * R) w) :
    Calls Tryz.prog 78 #[.pointer (some ⟨p, 0, none⟩), .agg #[.int .i64 q, .int .i64 word, vv]] w fun e w' => ∃ b, e = .returned (.tuple #[.slice (some ⟨b, 0, none⟩) 1 1, errV 0]) ∧ Own w0 (IntSl (.slice (some ⟨b, 0, none⟩) 1 1) [word] * (CaP p mb me (clk.set q (clk.getD q 0 + 1)) * R)) w' := by
  have V5 := (vecErr0 hV).1
  obtain ⟨vad, vcap, rfl, hvc1, hvc2⟩ := (hv _ h.drop).shape
  rw [V5] at hvc1 hv ⊢
  obtain ⟨y, hy⟩ : ∃ y, y = clk.getD q 0 := ⟨_, rfl⟩
  rw [← hy]
  obtain ⟨D, hD⟩ : ∃ D, D = clk.set q (y + 1) := ⟨_, rfl⟩
  rw [← hD]
  have hD5 : D.length = 5 := by rw [hD]; simp [h5]
  have HY := Lib.hid hy; have HD := Lib.hid hD; have HD5 := Lib.hid hD5
  clear hy hD hD5
  obtain ⟨b1, hb_b1⟩ : ∃ zz_, zz_ = (w).heap.size := ⟨_, rfl⟩
  obtain ⟨w1, hw_w1⟩ : ∃ zz_, zz_ = (w).alloc (.cells #[.int .i64 q, .int .i64 word, .slice vad 5 vcap] 59 (0, 0)) := ⟨_, rfl⟩
  have h_HO := (h).alloc (.cells #[.int .i64 q, .int .i64 word, .slice vad 5 vcap] 59 (0, 0))
  rw [← hb_b1, ← hw_w1] at h_HO
  have HO := Lib.hid h_HO
  clear h_HO
  have HO1 : Hid (Own w0 (CaP p mb me clk * (SdO b1 q word (.slice vad 5 vcap) * R)) w1) := Lib.hid (HO.out.perm (star_left_comm _ _ _))
  obtain ⟨x0, x1, x2, _⟩ := (show Own w0 (SdO b1 q word (.slice vad 5 vcap) * (CaP p mb me clk * R)) w1 from HO.out).sd
  clear HO
  have HVZ := Lib.hid hV
  clear hV
  have H := Lib.hid h; have HV := Lib.hid hv; have H5 := Lib.hid h5; have HW := Lib.hid hw; have HH := Lib.hid hh; have HB := Lib.hid hb
  clear h hv h5 hw hh hb
  go_enter Tryz.func78, Tryz.ntmps78
  go_upto_region 1 with fail
  rw [← hb_b1, ← hw_w1]
  clear hb_b1 hw_w1
  go_wp2_with fail
  have hhq := HH.out q hq
  rw [if_pos rfl] at hhq
  refine (causeCheck_ok p mb q hq me hme clk H5.out word HW.out _ V HVZ.out (by omega) (HB.out q hq).1 HV.out.more HO1.out).mono ?_
  rintro e w2 ⟨rfl, ho⟩
  rw [errV0]
  have HO2 := Lib.hid ho
  obtain ⟨y0, y1, y2, yf⟩ := (ho.perm (star_left_comm _ _ _)).sd
  clear ho x0 x1 x2 hhq HO1
  go_wp2_with fail
  refine (cloneInts_any HO2.out _ V (HV.out _ HO2.out.drop.drop) (by omega)).mono ?_
  rintro e w3 ⟨v3, rfl, ho⟩
  obtain ⟨ad3, cap3, hv3, _⟩ := Own.rd ho
  subst hv3
  have ho1 := (ho.perm (show _ = SdO b1 q word (.slice vad 5 vcap) * (CaP p mb me clk * (IntSl (.slice ad3 V.length cap3) V * R)) by ac_rfl))
  obtain ⟨_, _, z2, z3⟩ := ho1.sd
  have z32 := z3 2 none
  have ho2 := ho1.sd_put2 (.slice ad3 V.length cap3)
  rw [V5] at ho2
  obtain ⟨w4, hw4⟩ : ∃ w4, w4 = w3.setCell ⟨b1, 2, none⟩ (.slice ad3 5 cap3) := ⟨_, rfl⟩
  rw [← hw4] at ho2
  obtain ⟨x0, x1, x2, _⟩ := ho2.sd
  have HO3 := Lib.hid (ho2.perm (star_left_comm _ _ _))
  rw [V5]
  clear ho ho1 ho2 y0 y1 y2 yf z3 HO2
  go_upto_region 5 with fail
  rw [← hw4]
  clear hw4 z2 z32
  go_wp2_with fail
  refine (causeReady_yes p mb q hq me clk H5.out word _ V V5 HH.out HB.out (IntSl_reads (vecErr_I64 HVZ.out)).more HO3.out).mono ?_
  rintro e w5 ⟨rfl, ho⟩
  obtain ⟨c0, c1, c2, hc, hf, hs⟩ := ho.ca H5.out
  have d0 := hc q hq
  have f0 := hf q none
  have s0 := hs q (clk.getD q 0 + 1) hq
  obtain ⟨b0, b0'⟩ := HB.out q hq
  rw [← HY.out] at d0 s0 b0 b0'
  rw [← HD.out] at s0
  obtain ⟨w6, hw6⟩ : ∃ w6, w6 = w5.setCell ⟨mb, q, none⟩ (.int .i64 (y + 1)) := ⟨_, rfl⟩
  rw [← hw6] at s0
  have HO6 := Lib.hid s0
  obtain ⟨z0, z1, z2, _⟩ := (ho.perm (star_left_comm _ _ _)).sd
  have q0 : (0 : Int) ≤ (q : Int) := Int.natCast_nonneg q
  have q5 : (q : Int) < 5 := by omega
  clear ho hc hf hs s0 x0 x1 x2 HO3
  go_upto_region 8 with fail
  refine wp_region_tail 9 (by kernel_rfl) (by kernel_rfl) ?_
  simp only [List.take_succ_cons, List.take_zero, List.drop_succ_cons, List.drop_zero]
  repeat still_step
  refine wpStill_nil ?_
  obtain ⟨x0, x1, x2, _⟩ := (HO6.out.perm (star_left_comm _ _ _)).sd
  obtain ⟨b7, hb_b7⟩ : ∃ zz_, zz_ = (w6).heap.size := ⟨_, rfl⟩
  obtain ⟨w7, hw_w7⟩ : ∃ zz_, zz_ = (w6).alloc (.cells #[.int .i64 word] 3 (0, 0)) := ⟨_, rfl⟩
  have h_HO7 := (HO6.out).alloc (.cells #[.int .i64 word] 3 (0, 0))
  rw [← hb_b7, ← hw_w7] at h_HO7
  have HO7 := Lib.hid h_HO7
  clear h_HO7
  obtain ⟨g0, g1, g2, _, _, _⟩ := HO7.out.perm (star_left_comm _ _ _) |>.ca HD5.out
  go_upto_region 9 with fail
  rw [← hw6]
  clear hw6 d0 f0 c0 c1 c2 z0 z1 z2
  go_upto_block 0 with fail
  rw [← hb_b7, ← hw_w7]
  clear hb_b7 hw_w7
  go_wp2_with fail
  go_loopw [7] (fun ov wr => ov = .slice (some ⟨b7, 0, none⟩) 1 1 ∧ wr = w7.drew) (fun _ _ => 0)
  case atStart => exact ⟨rfl, rfl⟩
  case round =>
    obtain ⟨rfl, rfl⟩ := hrel
    go_wp2_with fail
    refine (saidIx_none _ _).mono ?_
    rintro e w' ⟨rfl, rfl⟩
    go_wp2
    go_ret2
    exact ⟨b7, rfl, (HO7.out.drew.lit1.perm (show _ = SdO b1 q word (.slice ad3 5 cap3) * (IntSl (.slice ad3 5 cap3) V * (IntSl (.slice (some ⟨b7, 0, none⟩) 1 1) [word] * (CaP p mb me D * R))) by ac_rfl)).drop.drop⟩
end Go.Proofs.YtdfjbnfdknpahaaGreatDoor
/- Parts of what is owned brought to the front; a literal of ints. -/
namespace Go.Proofs.YtdfjbnfdknpahaaGreatDoor
set_option linter.unusedVariables false
set_option linter.unusedSimpArgs false
open Go.RowKit
section
variable {w0 w : World} {A B C D E F G H R : HProp}
theorem Own.second (h : Own w0 (A * (B * R)) w) : Own w0 (B * (A * R)) w := h.perm (by ac_rfl)
theorem Own.third (h : Own w0 (A * (B * (C * R))) w) : Own w0 (C * (A * (B * R))) w := h.perm (by ac_rfl)
theorem Own.fourth (h : Own w0 (A * (B * (C * (D * R)))) w) : Own w0 (D * (A * (B * (C * R)))) w := h.perm (by ac_rfl)
theorem Own.fifth (h : Own w0 (A * (B * (C * (D * (E * R))))) w) : Own w0 (E * (A * (B * (C * (D * R))))) w := h.perm (by ac_rfl)
theorem Own.sixth (h : Own w0 (A * (B * (C * (D * (E * (F * R)))))) w) : Own w0 (F * (A * (B * (C * (D * (E * R))))) ) w := h.perm (by ac_rfl)
theorem Own.seventh (h : Own w0 (A * (B * (C * (D * (E * (F * (G * R))))))) w) : Own w0 (G * (A * (B * (C * (D * (E * (F * R)))))) ) w := h.perm (by ac_rfl)
/-- The front put back to the third, fourth, .. place. -/
theorem Own.to3 (h : Own w0 (A * (B * (C * R))) w) : Own w0 (B * (C * (A * R))) w := h.perm (by ac_rfl)
theorem Own.to4 (h : Own w0 (A * (B * (C * (D * R)))) w) : Own w0 (B * (C * (D * (A * R)))) w := h.perm (by ac_rfl)
theorem Own.to5 (h : Own w0 (A * (B * (C * (D * (E * R))))) w) : Own w0 (B * (C * (D * (E * (A * R))))) w := h.perm (by ac_rfl)
theorem Own.to6 (h : Own w0 (A * (B * (C * (D * (E * (F * R)))))) w) : Own w0 (B * (C * (D * (E * (F * (A * R)))))) w := h.perm (by ac_rfl)
end
theorem Own.only {w0 w : World} {P R : HProp} (h : Own w0 (P * R) w) : Own w0 (P * emp) w := by rw [star_emp]; exact h.drop2
theorem Own.litI {w0 w : World} {b : Nat} {R : HProp} (l : List Int) (k : Nat) (hk : l.length = k) (hm : k ≤ 1000) (h : Own w0 (blk b (.cells (l.map (Value.int .i64)).toArray 3 (0, 0)) * R) w) : Own w0 (IntSl (.slice (some ⟨b, 0, none⟩) k k) l * R) w := by
  unfold IntSl
  subst hk
  exact Own.sl_mk (Nat.le_refl _) (by unfold maxLen; omega) (by simp) (by simp) (fun i hi => by simp) h
end Go.Proofs.YtdfjbnfdknpahaaGreatDoor
/- Contracts of package cause, of a member for whom words may wait: what it is in memory; ready. -/
namespace Go.Proofs.YtdfjbnfdknpahaaGreatDoor
set_option linter.unusedVariables false
set_option linter.unusedSimpArgs false
open Go.RowKit
/-- A word's box as it lies in a row: the clock's slice, and the word. -/
abbrev SdR := Value × Sd
def sdCells (r : SdR) : List Value := [.int .i64 r.2.who, .int .i64 r.2.word, r.1]
def sdRow (r : SdR) : HProp := IntSl r.1 r.2.clk
abbrev cwBlk (p mb : Nat) (me : Int) (wv : Value) : HProp := blk p (.cells #[.int .i64 me, .slice (some ⟨mb, 0, none⟩) 5 5, wv] 124 (0, 0))
def CwO (p mb : Nat) (wv : Value) (rows : List SdR) (c : Ca) : HProp :=
  cwBlk p mb c.me wv * (IntSl (.slice (some ⟨mb, 0, none⟩) 5 5) c.clk * (Sl 59 3 wv rows.length (rows.flatMap sdCells) * starL sdRow rows))
def CwP (p : Nat) (c : Ca) : HProp := hex fun (x : Nat × Value × List SdR) => pur (x.2.2.map (·.2) = c.waits) * CwO p x.1 x.2.1 x.2.2 c
theorem Own.cw_open {w0 w : World} {p : Nat} {c : Ca} {R : HProp} (h : Own w0 (CwP p c * R) w) : ∃ mb wv rows, rows.map (·.2) = c.waits ∧ Own w0 (CwO p mb wv rows c * R) w := by
  obtain ⟨⟨mb, wv, rows⟩, h⟩ := Own.ex h
  rw [star_assoc] at h
  obtain ⟨he, h⟩ := Own.pur_out h
  exact ⟨mb, wv, rows, he, h⟩
theorem Own.cw_close {w0 w : World} {p mb : Nat} {wv : Value} {rows : List SdR} {c : Ca} {R : HProp} (he : rows.map (·.2) = c.waits) (h : Own w0 (CwO p mb wv rows c * R) w) : Own w0 (CwP p c * R) w := by
  refine Own.ex_mk (mb, wv, rows) ?_
  rw [star_assoc]
  exact Own.pur_mk he h
theorem caReady_no {clk : List Int} {s : Sd} {i : Nat} (hi : i < 5) (h : caOk1 clk s i = false) : caReady clk s = false := by
  unfold caReady
  rw [List.all_eq_false]
  exact ⟨i, List.mem_range.2 hi, by rw [h]; simp⟩
theorem caReady_yes {clk : List Int} {s : Sd} (h : ∀ j, j < 5 → caOk1 clk s j = true) : caReady clk s = true := by
  unfold caReady
  rw [List.all_eq_true]
  exact fun j hj => h j (List.mem_range.1 hj)
set_option maxRecDepth 100000 in
set_option maxHeartbeats 4000000 in
theorem caReady_any {w0 w : World} {R : HProp} (p mb : Nat) (clk : List Int) (s : Sd) (cv : Value) (hs : s.clk.length = 5) (hb : ∀ i, i < 5 → 0 ≤ clk.getD i 0 ∧ clk.getD i 0 ≤ 1000000) (hF : ∀ w', Own w0 R w' → w'.cell? ⟨p, 1, none⟩ = some (.slice (some ⟨mb, 0, none⟩) 5 5) ∧ (∀ i, i < 5 → w'.cell? ⟨mb, i, none⟩ = some (.int .i64 (clk.getD i 0))) ∧ Ints w' cv s.clk) (h : Own w0 R w) :
    Calls Tryz.prog 102 #[.pointer (some ⟨p, 0, none⟩), .agg #[.int .i64 s.who, .int .i64 s.word, cv]] w fun e w' => e = .returned (.bool (caReady clk s)) ∧ Own w0 R w' := by
  obtain ⟨vad, vcap, hcv, hvc1, hvc2⟩ := (hF _ h).2.2.shape
  subst hcv
  obtain ⟨q, hq⟩ : ∃ q, q = s.who := ⟨_, rfl⟩
  rw [hs] at hvc1 hF ⊢
  rw [← hq]
  obtain ⟨b1, hb_b1⟩ : ∃ zz_, zz_ = (w).heap.size := ⟨_, rfl⟩
  obtain ⟨w1, hw_w1⟩ : ∃ zz_, zz_ = (w).alloc (.cells #[.int .i64 q, .int .i64 s.word, .slice vad 5 vcap] 59 (0, 0)) := ⟨_, rfl⟩
  have h_HO := (h).alloc (.cells #[.int .i64 q, .int .i64 s.word, .slice vad 5 vcap] 59 (0, 0))
  rw [← hb_b1, ← hw_w1] at h_HO
  have HO := Lib.hid h_HO
  clear h_HO
  have x0 := (HO.out.cell 0).trans rfl
  have x2 := (HO.out.cell 2).trans rfl
  obtain ⟨c1, hc, hvv⟩ := hF _ HO.out.drop
  have HVV := Lib.hid hvv
  clear hvv
  have H := Lib.hid h; have HF := Lib.hid hF; have HB := Lib.hid hb; have HC := Lib.hid hc; have HQ := Lib.hid hq; have HS := Lib.hid hs
  clear h hF hb hc hq hs
  go_enter Tryz.func102, Tryz.ntmps102
  go_upto_region 1 with fail
  rw [← hb_b1, ← hw_w1]
  clear hb_b1 hw_w1
  go_wp2_with fail
  go_loop [10] (fun iv => ∃ i : Nat, i ≤ 5 ∧ iv = .int .i64 i ∧ Hid (∀ j, j < i → caOk1 clk s j = true)) (fun iv => 5 - (intOf iv).toNat)
  case atStart => exact ⟨0, Nat.zero_le _, rfl, Lib.hid (fun j hj => absurd hj (by omega))⟩
  case round =>
    obtain ⟨i, hi, rfl, HJ⟩ := hrel
    by_cases hlt : i < 5
    rotate_left
    · have hall : caReady clk s = true := caReady_yes (fun j hj => HJ.out j (by omega))
      have HALL := Lib.hid hall
      clear hall
      go_wp2
      go_ret
      exact ⟨(show _ = Ending.returned (.bool true) from rfl).trans (by rw [HALL.out]), HO.out.drop⟩
    obtain ⟨aa, rfl, hca⟩ := HVV.out.at i (by rw [HS.out]; exact hlt)
    obtain ⟨z, hz⟩ : ∃ z, z = s.clk[i]'(by rw [HS.out]; exact hlt) := ⟨_, rfl⟩
    rw [← hz] at hca
    have hzg : s.clk.getD i 0 = z := by rw [hz, List.getD_eq_getElem?_getD, List.getElem?_eq_getElem (by rw [HS.out]; exact hlt)]; rfl
    have d := HC.out i hlt
    obtain ⟨y0, y1⟩ := HB.out i hlt
    obtain ⟨y, hy⟩ : ∃ y, y = clk.getD i 0 := ⟨_, rfl⟩
    rw [← hy] at d y0 y1
    have i0 : (0 : Int) ≤ (i : Int) := Int.natCast_nonneg i
    have i5 : (i : Int) < 5 := by omega
    obtain ⟨B, hB⟩ : ∃ B, B = caOk1 clk s i := ⟨_, rfl⟩
    have hB2 := hB
    unfold caOk1 at hB2
    rw [hzg, ← hy, ← HQ.out] at hB2
    by_cases hiq : (i : Int) = q
    · rw [if_pos hiq] at hB2
      have t1 : ((i : Int) == q) = true := by rw [beq_iff_eq]; exact hiq
      have t2 : ((i : Int) != q) = false := by rw [bne_eq_false_iff_eq]; exact hiq
      cases B
      · have t3 : (z != y + 1) = true := by rw [bne_iff_ne]; exact of_decide_eq_false hB2.symm
        have hno := caReady_no (s := s) (clk := clk) hlt hB.symm
        have HZ := Lib.hid hz; have HZG := Lib.hid hzg; have HY := Lib.hid hy; have HB := Lib.hid hB; have HB2 := Lib.hid hB2; have HIQ := Lib.hid hiq; have HNO := Lib.hid hno
        clear hz hzg hy hB hB2 hiq hno
        go_wp2
        go_ret
        exact ⟨(show _ = Ending.returned (.bool false) from rfl).trans (by rw [HNO.out]), HO.out.drop⟩
      · have t3 : (z != y + 1) = false := by rw [bne_eq_false_iff_eq]; exact of_decide_eq_true hB2.symm
        have hn : ∀ j, j < i + 1 → caOk1 clk s j = true := fun j hj => by
          rcases Nat.lt_succ_iff_lt_or_eq.1 hj with h | h
          · exact HJ.out j h
          · rw [h]; exact hB.symm
        have HZ := Lib.hid hz; have HZG := Lib.hid hzg; have HY := Lib.hid hy; have HB := Lib.hid hB; have HB2 := Lib.hid hB2; have HIQ := Lib.hid hiq; have HN := Lib.hid hn
        clear hz hzg hy hB hB2 hiq hn
        go_wp2
        go_round
        case rel => exact ⟨i + 1, by omega, by go_num, HN⟩
        case measure => simp [intOf]; omega
    · rw [if_neg hiq] at hB2
      have t1 : ((i : Int) == q) = false := by rw [beq_eq_false_iff_ne]; exact hiq
      have t2 : ((i : Int) != q) = true := by rw [bne_iff_ne]; exact hiq
      cases B
      · have t3 : decide (y < z) = true := by have := of_decide_eq_false hB2.symm; simp; omega
        have hno := caReady_no (s := s) (clk := clk) hlt hB.symm
        have HZ := Lib.hid hz; have HZG := Lib.hid hzg; have HY := Lib.hid hy; have HB := Lib.hid hB; have HB2 := Lib.hid hB2; have HIQ := Lib.hid hiq; have HNO := Lib.hid hno
        clear hz hzg hy hB hB2 hiq hno
        go_wp2
        go_ret
        exact ⟨(show _ = Ending.returned (.bool false) from rfl).trans (by rw [HNO.out]), HO.out.drop⟩
      · have t3 : decide (y < z) = false := by have := of_decide_eq_true hB2.symm; simp; omega
        have hn : ∀ j, j < i + 1 → caOk1 clk s j = true := fun j hj => by
          rcases Nat.lt_succ_iff_lt_or_eq.1 hj with h | h
          · exact HJ.out j h
          · rw [h]; exact hB.symm
        have HZ := Lib.hid hz; have HZG := Lib.hid hzg; have HY := Lib.hid hy; have HB := Lib.hid hB; have HB2 := Lib.hid hB2; have HIQ := Lib.hid hiq; have HN := Lib.hid hn
        clear hz hzg hy hB hB2 hiq hn
        go_wp2
        go_round
        case rel => exact ⟨i + 1, by omega, by go_num, HN⟩
        case measure => simp [intOf]; omega
end Go.Proofs.YtdfjbnfdknpahaaGreatDoor
