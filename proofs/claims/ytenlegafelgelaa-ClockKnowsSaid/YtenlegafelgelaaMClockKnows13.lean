/- clock.Order's sort: an owned row of numbers, sorted by the closure. -/
import Derived.Test.YtenlegafelgelaaMClockKnows12
import Derived.Test.YtenlegafelgelaaMClockKnows9
import Derived.Test.YtenlegafelgelaaMClockKnows7
import Derived.Test.YtenlegafelgelaaMClockKnows1
import Derived.Test.YtenlegafelgelaaMClockKnows4
namespace Go.Proofs.Ytenlegafelgelaa
set_option linter.unusedVariables false
set_option linter.unusedSimpArgs false
open Go.RowKit
theorem Own.growW {w0 w : World} {P : HProp} (h : Own w0 P w) (os : Array Obj) : Own w0 P (Go.Sort.grow w os) := by
  obtain ⟨hb, x, a, hx⟩ := h
  refine ⟨hb.trans ⟨rfl, rfl, rfl, by simp, fun k hk => Go.Sort.heap_grow_old w os (Nat.lt_of_lt_of_le hk hb.size)⟩, x, fun k o hk => ⟨(a k o hk).1, ?_⟩, hx⟩
  have h2 := (a k o hk).2
  rw [Go.Sort.heap_grow_old _ _ (Array.getElem?_eq_some_iff.1 h2).1]
  exact h2
theorem Own.putRowW {α : Type} [Inhabited α] {w0 w : World} {b off : Nat} {cs : Array Value} {t : TypeId} {f : Nat × Nat} {R : HProp} (enc : α → Value) (d : Array α) (m : Nat) (h : Own w0 (blk b (.cells cs t f) * R) w) :
    Own w0 (blk b (.cells (Go.Sort.putCells enc off d cs) t f) * R) (Go.Sort.putRow enc (Go.Sort.ahead w m) b off d) :=
  h.set rfl rfl rfl (by simp [Go.Sort.putRow, Go.Sort.mapBlock, Go.Sort.ahead]) (fun k _ hk => by simp [Go.Sort.putRow, Go.Sort.mapBlock, Go.Sort.ahead, Array.getElem?_modify, Ne.symm hk])
    (by simp [Go.Sort.putRow, Go.Sort.mapBlock, Go.Sort.ahead, Array.getElem?_modify, h.blk_at.1, Go.Sort.onCells])
def encF (n : Nat) (i : Fin n) : Value := .int .i64 ((i.val : Nat) : Int)
def valF {n : Nat} (d : Array (Fin n)) : List Int := d.toList.map fun i => ((i.val : Nat) : Int)
theorem Own.sortI {w0 w : World} {n : Nat} [Inhabited (Fin n)] {b off cap : Nat} {l : List Int} {R : HProp} (hp : 0 < n) (hl : l.length = n) (h : Own w0 (IntSl (.slice (some ⟨b, off, none⟩) n cap) l * R) w) (d : Array (Fin n)) (hd : d.size = n) (m : Nat) (os : Array Obj) :
    Own w0 (IntSl (.slice (some ⟨b, off, none⟩) n cap) (valF d) * R) (sortWorld (encF n) w b off m d os) := by
  subst hl
  have hvl : (valF d).length = l.length := by simp [valF, hd]
  rcases h.sl_cases with ⟨h0, _⟩ | ⟨b', off', cap', cs, e, h2, h3, h4, h5, h6, ho⟩
  · cases h0
  cases e
  unfold sortWorld
  refine Own.growW ?_ os
  show Own w0 (Sl 3 1 _ (valF d).length ((valF d).map (Value.int .i64)) * R) _
  rw [hvl]
  refine Own.sl_mk (by omega) h3 (by simp [hvl]) (by simpa [Go.Sort.putCells] using h5) (fun i hi => ?_) (ho.putRowW (encF l.length) d m)
  have hi' : i < l.length := by simpa [hvl] using hi
  have hcs : off + i < cs.size := by omega
  simp only [Go.Sort.putCells, Array.getElem?_mapIdx, Array.getElem?_eq_getElem hcs, Option.map_some, List.getElem?_map, valF, List.getElem?_eq_getElem (show i < d.toList.length by simpa [hd] using hi')]
  rw [if_pos (by omega), show off + i - off = i by omega, getElem!_pos d i (by omega)]
  simp [encF]
def cfO (hs : List Ev) (n : Nat) (x y : Fin n) : Int := ordC hs x.val y.val
theorem ltO (hs : List Ev) (n : Nat) (x y : Fin n) : ltOf (cfO hs n) x y = decide (ordLt hs x.val y.val) := by
  unfold ltOf cfO
  exact decide_eq_decide.2 (ordC_lt hs _ _)
theorem swoO (hs : List Ev) (n : Nat) : Go.Sort.SWO (ltOf (cfO hs n)) where
  irrefl x := by rw [ltO, decide_eq_false_iff_not]; exact ordLt_irr _ _
  trans x y z h1 h2 := by rw [ltO, decide_eq_true_eq] at *; exact ordLt_trans h1 h2
  ntrans x y z h1 h2 := by rw [ltO, decide_eq_false_iff_not] at *; unfold ordLt at *; omega
theorem totO {hs : List Ev} (hr : RightH hs) (x y : Fin hs.length) (h1 : ltOf (cfO hs hs.length) x y = false) (h2 : ltOf (cfO hs hs.length) y x = false) : x = y := by
  rw [ltO, decide_eq_false_iff_not] at h1 h2
  rcases ordLt_tri hr x.isLt y.isLt with h | h | h
  · exact absurd h h1
  · exact Fin.ext h
  · exact absurd h h2
def sortedF (hs : List Ev) : List (Fin hs.length) := (List.finRange hs.length).mergeSort fun x y => !(ltOf (cfO hs hs.length)) y x
theorem sortedF_ord {hs : List Ev} (hr : RightH hs) : OrdL hs ((sortedF hs).map (·.val)) where
  perm := by
    have h1 := (List.mergeSort_perm (List.finRange hs.length) fun x y => !(ltOf (cfO hs hs.length)) y x).map (·.val)
    rw [natsI_fin] at h1
    exact h1
  sort := by
    rw [List.pairwise_map]
    have hnd : (sortedF hs).Nodup := ((List.mergeSort_perm _ _).nodup_iff).2 (List.nodup_finRange _)
    have hs1 : (sortedF hs).Pairwise fun x y => (!(ltOf (cfO hs hs.length)) y x) = true := List.pairwise_mergeSort (fun a b c h1 h2 => by
        rw [Bool.not_eq_true'] at *; exact (swoO hs _).ntrans _ _ _ h2 h1) (fun a b => by
        rw [ltO, ltO]
        by_cases h : ordLt hs b.val a.val
        · have : ¬ ordLt hs a.val b.val := fun h2 => ordLt_irr _ _ (ordLt_trans h h2)
          simp [this]
        · simp [h]) _
    refine (List.Pairwise.and hs1 hnd).imp ?_
    rintro a b ⟨h1, h2⟩
    rw [ltO, Bool.not_eq_true', decide_eq_false_iff_not] at h1
    rcases ordLt_tri hr a.isLt b.isLt with h | h | h
    · exact h
    · exact absurd (Fin.ext h) h2
    · exact absurd h h1
set_option maxRecDepth 100000 in
set_option maxHeartbeats 4000000 in
theorem sort_any {w0 w : World} {R : HProp} (hs : List Ev) (hr : RightH hs) (n : Nat) (hn : n = hs.length) (hp : 0 < n) (nb hb b off cap : Nat) (nv hval : Value)
    (h : Own w0 (IntSl (.slice (some ⟨b, off, none⟩) n cap) ((List.range n).map fun (i : Nat) => (i : Int)) * (blk nb (.cells #[nv] 25 (0, 0)) * (blk hb (.cells #[hval] 22 (0, 0)) * (IntSl nv (numsR hs) * R)))) w) (hv : ReadsE w0 R hval hs) :
    Calls Try.prog 25 #[.slice (some ⟨b, off, none⟩) n cap, .func (.func 26) #[] #[.pointer (some ⟨nb, 0, none⟩), .pointer (some ⟨hb, 0, none⟩)]] w fun e w' =>
      e = .returned (.tuple #[]) ∧ ∃ l : List Nat, OrdL hs l ∧ Own w0 (IntSl (.slice (some ⟨b, off, none⟩) n cap) (l.map fun (i : Nat) => (i : Int)) * (blk nb (.cells #[nv] 25 (0, 0)) * (blk hb (.cells #[hval] 22 (0, 0)) * (IntSl nv (numsR hs) * R)))) w' := by
  subst hn
  haveI : Inhabited (Fin hs.length) := ⟨⟨0, hp⟩⟩
  have hnl : (numsR hs).length = hs.length := (numState_len hs _).1
  have hlen := hr.1
  have eg : ∀ args w, (callFunc 26 args).run Try.prog w = .ok (.enter 26 args) w := enters_of Try.func26 (by kernel_rfl) rfl
  have hrl : ((List.range hs.length).map fun (i : Nat) => (i : Int)).length = hs.length := by simp
  obtain ⟨d, hd⟩ : ∃ d : Array (Fin hs.length), d = (List.finRange hs.length).toArray := ⟨_, rfl⟩
  have hds : d.size = hs.length := by rw [hd]; simp
  have hdv : valF d = (List.range hs.length).map fun (i : Nat) => (i : Int) := by
    rw [hd]; unfold valF
    rw [← natsI_fin, List.map_map]; rfl
  obtain ⟨b', off', cap', e, _, _, hcell, hfz, _, hlt, _⟩ := h.ints_at (by rw [hrl]; exact hp)
  rw [hrl] at e
  cases e
  have hH : Go.Sort.Holds (encF hs.length) w b off d := by
    intro j hj
    rw [hds] at hj
    refine ⟨?_, hfz _ _⟩
    rw [hcell j (by rw [hrl]; exact hj), getElem!_pos d j (by omega)]
    simp [encF, hd]
  have hcmp : CmpLays1 Try.prog 26 #[.pointer (some ⟨nb, 0, none⟩), .pointer (some ⟨hb, 0, none⟩)] (encF hs.length) (cfO hs hs.length) b off d.size w := by
    intro m os dk hdk x y
    rw [hds] at hdk
    have ho := h.sortI hp hrl dk hdk m os
    generalize sortWorld (encF hs.length) w b off m dk os = W at ho ⊢
    have ho2 := Own.second ho
    have c0 := (ho2.cell 0).trans (show (#[nv] : Array Value)[0]? = some nv from rfl)
    have c1 := ((Own.third ho).cell 0).trans (show (#[hval] : Array Value)[0]? = some hval from rfl)
    obtain ⟨nb', noff, ncap, e1, hnc, _, hncell, _⟩ := (Own.fourth ho).ints_at (by rw [hnl]; exact hp)
    subst e1
    have hoR : Own w0 R W := ho.drop.drop.drop.drop
    obtain ⟨had, hcap, e2, hhc, _⟩ := (hv _ hoR).shape
    subst e2
    obtain ⟨ha, xb, xo, xs, e3, hex, hxc, _⟩ := hv.at hoR x.val x.isLt
    subst e3
    obtain ⟨ha2, yb, yo, ys, e4, hey, hyc, _⟩ := hv.at hoR y.val y.isLt
    cases e4
    have k1 := hncell x.val (by rw [hnl]; exact x.isLt)
    have k2 := hncell y.val (by rw [hnl]; exact y.isLt)
    rw [hnl] at hnc
    rw [hnl] at c0
    have g1 : ∀ i : Nat, ∀ hi : i < (numsR hs).length, (numsR hs)[i] = nAt hs i := fun i hi => by
      unfold nAt; rw [List.getD_eq_getElem?_getD, List.getElem?_eq_getElem hi]; rfl
    rw [g1] at k1 k2
    refine (order1_any nb hb hs.length ncap hcap x.val y.val ⟨nb', noff, none⟩ ha xb xo yb yo xs ys _ _ (nAt hs x.val) (nAt hs y.val) W x.isLt y.isLt hlen hnc hhc hex hey c0 c1 ?_ ?_ (hxc _ hoR).1 (hyc _ hoR).1).mono ?_
    · rw [Addr.add_lit]; exact k1
    · rw [Addr.add_lit]; exact k2
    · rintro e w' ⟨rfl, hw⟩
      exact ⟨rfl, hw⟩
  have hS := Any.slices_SortFunc_total sortL (encF hs.length) (fun _ => rfl) (cfO hs hs.length) (swoO hs _) 26 #[.pointer (some ⟨nb, 0, none⟩), .pointer (some ⟨hb, 0, none⟩)] b off cap d w eg hcmp hH hlt (by omega) (totO hr)
  rw [hds] at hS
  refine hS.mono ?_
  rintro e w' ⟨rfl, m, os, rfl⟩
  refine ⟨rfl, (sortedF hs).map (·.val), sortedF_ord hr, ?_⟩
  have h9 := h.sortI hp hrl (sortedF hs).toArray (by simp [sortedF]) m os
  rw [show valF (sortedF hs).toArray = ((sortedF hs).map (·.val)).map fun (i : Nat) => (i : Int) by unfold valF; rw [List.map_map]; rfl] at h9
  rw [hd]
  exact h9
end Go.Proofs.Ytenlegafelgelaa
/- clock.Order: all events, sorted. -/
namespace Go.Proofs.Ytenlegafelgelaa
set_option linter.unusedVariables false
set_option linter.unusedSimpArgs false
open Go.RowKit
set_option maxRecDepth 100000 in
set_option maxHeartbeats 4000000 in
theorem order_any {w0 w : World} {R : HProp} (v : Value) (hs : List Ev) (h : Own w0 R w) (hv : ReadsE w0 R v hs) :
    Calls Try.prog 7 #[v] w fun e w' => ∃ (v' : Value) (l : List Nat), e = .returned (.tuple #[v', errV (histR hs).2]) ∧ ((histR hs).2 = 0 → OrdL hs l) ∧ ((histR hs).2 ≠ 0 → l = []) ∧ Own w0 (IntSl v' (natsI l) * R) w' := by
  obtain ⟨had, hcap, rfl, hc1, hc2⟩ := (hv _ h).shape
  obtain ⟨n, hn⟩ : ∃ n, n = hs.length := ⟨_, rfl⟩
  rw [← hn] at hc1 hv ⊢
  obtain ⟨E, hE⟩ : ∃ E, E = (histR hs).2 := ⟨_, rfl⟩
  rw [← hE]
  obtain ⟨hb, hb_hb⟩ : ∃ zz_, zz_ = (w).heap.size := ⟨_, rfl⟩
  obtain ⟨w1, hw_w1⟩ : ∃ zz_, zz_ = (w).alloc (.cells #[.slice had n hcap] 22 (0, 0)) := ⟨_, rfl⟩
  have h_H1 := (h).alloc (.cells #[.slice had n hcap] 22 (0, 0))
  rw [← hb_hb, ← hw_w1] at h_H1
  have H1 := Lib.hid h_H1
  clear h_H1
  have c0 : w1.cell? ⟨hb, 0, none⟩ = some (.slice had n hcap) := (H1.out.cell 0).trans rfl
  by_cases h0 : E = 0
  rotate_left
  · have hee := errV_ne h0
    have H := Lib.hid h; have HV := Lib.hid hv; have HE := Lib.hid hE; have H0 := Lib.hid h0; have HEE := Lib.hid hee; have HN := Lib.hid hn
    clear h hv hE h0 hee hn
    go_enter Try.func7, Try.ntmps7
    go_upto_region 1 with fail
    rw [← hb_hb, ← hw_w1]
    clear hb_hb hw_w1
    go_wp2_with fail
    refine (hRight_any _ hs H1.out HV.out.more).mono ?_
    rintro e w2 ⟨rfl, ho⟩
    rw [← HE.out, HEE.out]
    have HO2 := Lib.hid ho
    clear ho
    go_wp2
    go_ret2
    exact ⟨.slice none 0 0, [], by first | (rw [HEE.out]; done) | (rw [HEE.out]; rfl), fun h => absurd h H0.out, fun _ => rfl, by have := HO2.out.drop; exact this.sl_nil _ _⟩
  have hrh := (histR_ok hs).1 (by rw [← hE]; exact h0)
  have hlen := hrh.1
  rw [← hn] at hlen
  have hee : errV E = .nilIface := by rw [h0]; rfl
  have H := Lib.hid h; have HV := Lib.hid hv; have HE := Lib.hid hE; have H0 := Lib.hid h0; have HRH := Lib.hid hrh; have HEE := Lib.hid hee
  clear h hv hE h0 hrh hee
  have HNH := Lib.hid hn
  clear hn
  go_enter Try.func7, Try.ntmps7
  go_upto_region 1 with fail
  rw [← hb_hb, ← hw_w1]
  clear hb_hb hw_w1
  go_wp2_with fail
  refine (hRight_any _ hs H1.out HV.out.more).mono ?_
  rintro e w2 ⟨rfl, ho⟩
  rw [← HE.out, HEE.out]
  have c2 : w2.cell? ⟨hb, 0, none⟩ = some (.slice had n hcap) := (ho.cell 0).trans rfl
  have HO2 := Lib.hid ho
  clear ho c0 H1
  go_wp2_with fail
  refine (numbers_any _ hs HO2.out HV.out.more HRH.out).mono ?_
  rintro e w3 ⟨v3, rfl, ho⟩
  have hnl : (numsR hs).length = n := by rw [HNH.out]; exact (numState_len hs _).1
  obtain ⟨nad, ncap, rfl⟩ := ho.int_shape
  rw [hnl] at ho ⊢
  obtain ⟨nb, hb_nb⟩ : ∃ zz_, zz_ = (w3).heap.size := ⟨_, rfl⟩
  obtain ⟨w4, hw_w4⟩ : ∃ zz_, zz_ = (w3).alloc (.cells #[.slice nad n ncap] 25 (0, 0)) := ⟨_, rfl⟩
  have h_H4 := (ho).alloc (.cells #[.slice nad n ncap] 25 (0, 0))
  rw [← hb_nb, ← hw_w4] at h_H4
  have H4 := Lib.hid h_H4
  clear h_H4
  have HO4 : Hid (Own w0 (IntSl (.slice none 0 0) (natsI (List.range 0)) * (blk nb (.cells #[.slice nad n ncap] 25 (0, 0)) * (blk hb (.cells #[.slice had n hcap] 22 (0, 0)) * (IntSl (.slice nad n ncap) (numsR hs) * R)))) w4) := Lib.hid ((H4.out.perm (show _ = blk nb (.cells #[.slice nad n ncap] 25 (0, 0)) * (blk hb (.cells #[.slice had n hcap] 22 (0, 0)) * (IntSl (.slice nad n ncap) (numsR hs) * R)) by ac_rfl)).sl_nil _ _)
  have c4 : w4.cell? ⟨hb, 0, none⟩ = some (.slice had n hcap) := ((Own.third HO4.out).cell 0).trans rfl
  clear ho H4 c2 HO2
  go_upto_region 5 with fail
  rw [← hb_nb, ← hw_w4]
  clear hb_nb hw_w4
  go_wp2_with fail
  go_loopw [17, 6] (fun iv ov wr => ∃ k : Nat, k ≤ n ∧ iv = .int .i64 k ∧ Hid (Own w0 (IntSl ov (natsI (List.range k)) * (blk nb (.cells #[.slice nad n ncap] 25 (0, 0)) * (blk hb (.cells #[.slice had n hcap] 22 (0, 0)) * (IntSl (.slice nad n ncap) (numsR hs) * R)))) wr)) (fun iv _ _ => n - (intOf iv).toNat)
  case atStart => exact ⟨0, Nat.zero_le _, rfl, HO4⟩
  case round =>
    clear HO4 c4
    obtain ⟨k, hk, rfl, HO⟩ := hrel
    by_cases hlt : k < n
    · have hll : (natsI (List.range k)).length = k := by rw [natsI_len]; simp
      have k0 : (0 : Int) ≤ (k : Int) := by omega
      have HLL := Lib.hid hll
      clear hll
      have fin : ∀ (v' : Value) (w' : World), Own w0 (Sl 3 1 v' ((natsI (List.range k)).length + 1) ((natsI (List.range k)).map (Value.int .i64) ++ [Value.int .i64 (k : Int)]) * (blk nb (.cells #[.slice nad n ncap] 25 (0, 0)) * (blk hb (.cells #[.slice had n hcap] 22 (0, 0)) * (IntSl (.slice nad n ncap) (numsR hs) * R)))) w' → Own w0 (IntSl v' (natsI (List.range (k + 1))) * (blk nb (.cells #[.slice nad n ncap] 25 (0, 0)) * (blk hb (.cells #[.slice had n hcap] 22 (0, 0)) * (IntSl (.slice nad n ncap) (numsR hs) * R)))) w' := fun v' w' h => by
        rw [natsI_range]; unfold IntSl; rw [List.map_append, List.length_append]; exact h
      obtain ⟨L, hL⟩ : ∃ L, L = natsI (List.range k) := ⟨_, rfl⟩
      rw [← hL] at HO fin HLL
      have FIN := Lib.hid fin
      clear fin
      have hLl := HLL.out
      clear hL HLL
      go_wp2_with (at_builtin; refine wpList_app rfl _ _ 25 rfl 3 1 8 _ info_int Try.underlying25 rfl (by decide) rfl ((HO.out.alloc' _)) rfl (by rfl) (Rd_lit (by simp) (by unfold maxLen; omega)) (by intro u hu; simp at hu; subst hu; rfl) (by unfold maxLen; omega) (by omega) ?_; intro v' w' hown; have HN := Lib.hid hown; clear hown)
      go_wp2_with fail
      go_roundw
      case rel => exact ⟨k + 1, by omega, by go_num, Lib.hid (FIN.out _ _ HN.out)⟩
      case measure => simp [intOf]; omega
    have hkn : k = n := by omega
    subst hkn
    have hll : (natsI (List.range k)).length = k := by rw [natsI_len]; simp
    by_cases hz : k = 0
    · have hs0 : hs = [] := List.length_eq_zero_iff.1 (by rw [← HNH.out]; exact hz)
      have hor : OrdL hs [] := by rw [hs0]; exact ⟨List.Perm.refl _, List.Pairwise.nil⟩
      obtain ⟨oad, ocap, e6, _⟩ := Own.rd HO.out
      rw [hll, hz] at e6
      have hnone := fun W => AnyF.slices_SortFunc_none (P := Try.prog) (ρ := sortRen) { sortL with } oad ocap (.func (.func 26) #[] #[.pointer (some ⟨nb, 0, none⟩), .pointer (some ⟨hb, 0, none⟩)]) W
      change ∀ W, Calls Try.prog 25 _ _ _ at hnone
      subst hz
      subst e6
      have HOR := Lib.hid hor; have HLL := Lib.hid hll
      clear hor hll
      clear hs0
      go_wp2_with (go_at_call 25; refine (hnone _).mono ?_; rintro e w' ⟨rfl, rfl⟩)
      go_ret2
      exact ⟨_, [], by first | (rw [HEE.out]; done) | (rw [HEE.out]; rfl), fun _ => HOR.out, fun h => absurd H0.out h, by
        have h9 := HO.out.perm (show _ = blk nb (.cells #[.slice nad 0 ncap] 25 (0, 0)) * (blk hb (.cells #[.slice had 0 hcap] 22 (0, 0)) * (IntSl (.slice nad 0 ncap) (numsR hs) * (IntSl (.slice oad 0 ocap) (natsI (List.range 0)) * R))) by ac_rfl)
        exact h9.drop.drop.drop⟩
    obtain ⟨b, off, ocap, e6, _⟩ := HO.out.ints_at (by rw [hll]; omega)
    rw [hll] at e6
    subst e6
    have hsort := fun wq (hq : Own w0 _ wq) => sort_any (w := wq) hs HRH.out k HNH.out (by omega) nb hb b off ocap (.slice nad k ncap) (.slice had k hcap) hq HV.out
    have HLL := Lib.hid hll; have HZ := Lib.hid hz; have HSORT := Lib.hid hsort
    clear hll hz hsort
    go_wp2_with fail
    refine (HSORT.out _ HO.out).mono ?_
    rintro e w6 ⟨rfl, l, hor, ho⟩
    have HO6 := Lib.hid ho
    have HOR := Lib.hid hor
    clear hor
    clear ho
    go_wp2
    go_ret2
    exact ⟨_, l, by first | (rw [HEE.out]; done) | (rw [HEE.out]; rfl), fun _ => HOR.out, fun h => absurd H0.out h, by
      have h9 := HO6.out.perm (show _ = blk nb (.cells #[.slice nad k ncap] 25 (0, 0)) * (blk hb (.cells #[.slice had k hcap] 22 (0, 0)) * (IntSl (.slice nad k ncap) (numsR hs) * (IntSl (.slice (some ⟨b, off, none⟩) k ocap) (natsI l) * R))) by unfold natsI; ac_rfl)
      exact h9.drop.drop.drop⟩
end Go.Proofs.Ytenlegafelgelaa
/- The reference's Heard, At. -/
namespace Go.Proofs.Ytenlegafelgelaa
set_option linter.unusedVariables false
set_option linter.unusedSimpArgs false
open Go.RowKit
theorem fc_whereIs (p : Int → Bool) : ∀ l : List Int, whereIs p l = whereI p l
  | [] => rfl
  | x :: r => by
    unfold whereIs whereI
    rw [fc_whereIs p r]
set_option maxRecDepth 100000 in
set_option maxHeartbeats 4000000 in
theorem refAt_any (v : Value) (l : List Int) (x : Int) (w : World) (hv : Ints w v l) (hl : l.length ≤ 100000) :
    Calls Try.prog 10 #[v, .int .i64 x] w fun e w' => e = .returned (.int .i64 (idxI l x)) ∧ w = w' := by
  obtain ⟨ad, cap, rfl, hlc, hcap⟩ := hv.shape
  have hcap' : cap ≤ 9223372036854775807 := hcap
  obtain ⟨n, hn⟩ : ∃ n, n = l.length := ⟨_, rfl⟩
  rw [← hn] at hv hlc hl ⊢
  have HV := Lib.hid hv; have HN := Lib.hid hn
  clear hv hn
  go_enter Try.func10, Try.ntmps10
  go_wp2_with fail
  go_loop [5] (fun iv => ∃ i : Nat, i ≤ n ∧ iv = .int .i64 i ∧ Hid (∀ j (_ : j < i) (h : j < l.length), l[j] ≠ x)) (fun iv => n - (intOf iv).toNat)
  case atStart => exact ⟨0, Nat.zero_le _, rfl, Lib.hid (fun j hj => by omega)⟩
  case round =>
    obtain ⟨i, hi, rfl, HP⟩ := hrel
    by_cases hlt : i < n
    rotate_left
    · have hm : idxI l x = -1 := by
        unfold idxI
        rw [fc_whereIs]
        exact whereI_miss _ l (fun j hj => by simpa using HP.out j (by rw [← HN.out] at hj; omega) hj)
      have HM := Lib.hid hm
      clear hm
      go_wp2
      go_ret
      exact ⟨by rw [HM.out]; rfl, rfl⟩
    have hil : i < l.length := by rw [← HN.out]; exact hlt
    obtain ⟨a, ha, hc⟩ := HV.out.at i hil
    subst ha
    obtain ⟨y, hy⟩ : ∃ y, y = l[i] := ⟨_, rfl⟩
    rw [← hy] at hc
    have i0 : (0 : Int) ≤ (i : Int) := by omega
    have i1 : (i : Int) < (n : Int) := by omega
    by_cases he : y = x
    · have hm : idxI l x = i := by
        unfold idxI
        rw [fc_whereIs]
        exact whereI_hit _ l i hil (fun j hj => by simpa using HP.out j hj (by omega)) (by rw [← hy, he]; simp)
      subst he
      have HM := Lib.hid hm; have HY := Lib.hid hy
      clear hm hy
      go_wp2
      go_ret
      exact ⟨by rw [HM.out]; rfl, rfl⟩
    · have t1 : (y == x) = false := by rw [beq_eq_false_iff_ne]; exact he
      have HP2 : Hid (∀ j (_ : j < i + 1) (h : j < l.length), l[j] ≠ x) := Lib.hid (fun j h1 h2 => by
        by_cases e : j = i
        · subst e; rw [← hy]; exact he
        · exact HP.out j (by omega) h2)
      have HY := Lib.hid hy; have HE := Lib.hid he
      clear hy he
      go_wp2
      go_round
      case rel => exact ⟨i + 1, by omega, by go_num, HP2⟩
      case measure => simp [intOf]; omega
end Go.Proofs.Ytenlegafelgelaa
/- ClockKnows: one event is ahead of another one just if its vector is below, and they are two; then its number is less, and it stands ahead in the order. -/
namespace Go.Proofs.Ytenlegafelgelaa
set_option linter.unusedVariables false
set_option linter.unusedSimpArgs false
open Go.RowKit
theorem Own.ls_shape' {w0 w : World} {v : Value} {rs : List (Value × List Int)} {R : HProp} (h : Own w0 (LSl v rs * R) w) : ∃ ad cap, v = .slice ad rs.length cap ∧ rs.length ≤ cap ∧ cap ≤ 9223372036854775807 := by
  have h1 : Own w0 (Sl 25 1 v rs.length (rs.map (·.1)) * (starL rowP rs * R)) w := h.perm (by unfold LSl; ac_rfl)
  obtain ⟨ad, cap, h2, h3, h4, _⟩ := Own.rd h1
  exact ⟨ad, cap, h2, h3, by have : (maxLen : Nat) = 9223372036854775807 := rfl; omega⟩
def twoH : List Ev := [(0, 2, 1), (1, 3, 1)]
def KnO (w : World) (vo vn vv : Value) (o : List Nat) (hs : List Ev) (rs : List (Value × List Int)) (wr : World) : Prop := Own w (IntSl vo (natsI o) * (IntSl vn (numsR hs) * (LSl vv rs * emp))) wr
theorem twoE : (histR twoH).2 = 0 := by decide +kernel
theorem twoN : numsE twoH = [1, 2] := by decide +kernel
def twoO : Obj := .cells #[.int .i64 0, .int .i64 2, .int .i64 1, .int .i64 1, .int .i64 3, .int .i64 1] 24 (0, 0)
theorem Own.ev2_lit {w0 : World} {b : Nat} {R : HProp} (cs : Array Value) (l : List Ev) (n : Nat) (hcs : cs.toList = l.flatMap evCells) (hn : n = l.length) (hg : ∀ e ∈ l, goodEv e) (hm : n ≤ 1000) :
    ReadsE w0 (blk b (.cells cs 24 (0, 0)) * R) (.slice (some ⟨b, 0, none⟩) n n) l := by
  intro w ho
  subst hn
  refine ⟨Rd_one (cs := l.flatMap evCells) (fun i u hu => ?_) (Nat.le_refl _) (by unfold maxLen; omega), hg⟩
  rw [cell_of_heap ho.blk_at.1, ← hu, ← hcs]
  simp
set_option maxRecDepth 100000 in
set_option maxHeartbeats 4000000 in
theorem clockKnows_law (w : World) (v : Value) (hs : List Ev) (hv : Evs w v hs) :
    Calls Try.prog 3 #[v] w fun e w' => e = .returned (.bool true) ∧ Below w.heap.size w w' := by
  obtain ⟨had, hcap, rfl, hc1, hc2⟩ := hv.shape
  have hv := hv.reads (R := emp)
  obtain ⟨n, hn⟩ : ∃ n, n = hs.length := ⟨_, rfl⟩
  rw [← hn] at hc1 hv ⊢
  obtain ⟨b1, hb_b1⟩ : ∃ zz_, zz_ = (w).heap.size := ⟨_, rfl⟩
  obtain ⟨w1, hw_w1⟩ : ∃ zz_, zz_ = (w).alloc (twoO) := ⟨_, rfl⟩
  have h_HO1 := (Own.start w).alloc (twoO)
  rw [← hb_b1, ← hw_w1] at h_HO1
  have HO1 := Lib.hid h_HO1
  clear h_HO1
  have HL1 : Hid (ReadsE w (blk b1 twoO * emp) (.slice (some ⟨b1, 0, none⟩) 2 2) twoH) := Lib.hid (Own.ev2_lit _ twoH 2 rfl rfl (by intro e he; simp [twoH] at he; rcases he with rfl | rfl <;> (unfold goodEv I64; simp)) (by omega))
  obtain ⟨oo, hoo⟩ : ∃ oo, oo = twoO := ⟨_, rfl⟩
  rw [← hoo] at HO1 HL1
  unfold twoO at hoo
  have HOO := hoo
  rw [show twoO = oo from by rw [hoo]; rfl] at hw_w1
  have HV := Lib.hid hv; have HN := Lib.hid hn
  clear hv hn
  go_enter Try.func3, Try.ntmps3
  go_upto_region 2 with fail
  rw [← HOO]
  rw [← hb_b1, ← hw_w1]
  clear hb_b1 hw_w1
  clear HOO hoo
  go_wp2_with fail
  refine (nums_any _ twoH HO1.out HL1.out).mono ?_
  rintro e w2 ⟨v2, rfl, ho⟩
  rw [twoE, errV0]
  rw [twoN] at ho
  obtain ⟨fb, foff, fcap, hfe, hfc1, hfc2, hfc, _⟩ := ho.ints_at (by decide)
  subst hfe
  have f0 : w2.cell? ⟨fb, foff, none⟩ = some (.int .i64 1) := hfc 0 (by decide)
  have f1 : w2.cell? ⟨fb, foff + 1, none⟩ = some (.int .i64 2) := hfc 1 (by decide)
  have hfl : ([1, 2] : List Int).length = 2 := rfl
  rw [hfl] at hfc1 ⊢
  have HO2 : Hid (Own w emp w2) := Lib.hid ho.drop.drop
  clear ho hfc HO1 HL1
  go_wp2_with fail
  refine (vectors_any _ hs HO2.out HV.out).mono ?_
  rintro e w3 ⟨v3, rs, rfl, hrs, ho⟩
  clear f0 f1
  by_cases hE : (histR hs).2 = 0
  rotate_left
  · have hee := errV_ne hE
    rw [hee]
    have HO3 : Hid (Own w emp w3) := Lib.hid ho.drop
    have HE := Lib.hid hE; have HEE := Lib.hid hee; have HRS := Lib.hid hrs
    clear hE hee hrs
    clear ho
    go_wp2
    go_ret
    exact ⟨rfl, HO3.out.below⟩
  have hrh := (histR_ok hs).1 hE
  have hlen := hrh.1
  rw [← HN.out] at hlen
  have hve : vecsE hs = (vecState hs hs.length).1 := by unfold vecsE vecsR; rw [if_pos hE]
  rw [hve] at hrs
  rw [hE, errV0]
  have hrl : rs.length = n := by rw [← List.length_map (f := (·.2)), hrs, (vecState_len _ _).1, HN.out]
  obtain ⟨vad, vcap, rfl, hvc1, hvc2⟩ := ho.ls_shape'
  rw [hrl] at ho hvc1 ⊢
  have HO3 := Lib.hid ho
  have HRW : Hid (∀ i, i < n → ∃ rv, rs[i]? = some (rv, vecAt hs i)) := Lib.hid (fun i hi => by
    refine map_at hrs ?_
    unfold vecAt
    have hl := (vecState_len hs hs.length).1
    rw [List.getD_eq_getElem?_getD, List.getElem?_eq_getElem (by rw [hl, ← HN.out]; exact hi)]; rfl)
  clear ho hve
  have HRS := Lib.hid hrs; have HRL := Lib.hid hrl; have HE := Lib.hid hE; have HRH := Lib.hid hrh
  clear hrs hrl hE hrh
  go_wp2_with fail
  refine (nums_any _ hs HO3.out (HV.out.more (P := LSl _ rs))).mono ?_
  rintro e w4 ⟨v4, rfl, ho⟩
  rw [HE.out, errV0]
  have hne : numsE hs = numsR hs := by unfold numsE; rw [if_pos HE.out]
  rw [hne] at ho
  have hnl : (numsR hs).length = n := by rw [HN.out]; exact (numState_len hs _).1
  obtain ⟨nad, ncap, rfl⟩ := ho.int_shape
  have hnc := (Own.rd ho)
  obtain ⟨_, _, hnq, hnc1, _⟩ := hnc
  cases hnq
  rw [hnl] at ho hnc1 ⊢
  have HO4 := Lib.hid ho
  clear ho hne HO3
  have HNL := Lib.hid hnl
  clear hnl
  go_wp2_with fail
  refine (order_any _ hs HO4.out ((HV.out.more (P := LSl _ rs)).more (P := IntSl _ (numsR hs)))).mono ?_
  rintro e w5 ⟨v5, o, rfl, hor, _, ho⟩
  rw [HE.out, errV0]
  have hor := hor HE.out
  have hol : (natsI o).length = n := by rw [natsI_len, hor.len, HN.out]
  obtain ⟨oad, ocap, rfl⟩ := ho.int_shape
  rw [hol] at ho ⊢
  have HO5 := Lib.hid ho
  clear ho HO4
  have HOR := Lib.hid hor; have HOL := Lib.hid hol
  clear hor hol
  have HO6 : Hid (KnO w (.slice oad n ocap) (.slice nad n ncap) (.slice vad n vcap) o hs rs w5) := Lib.hid HO5.out
  clear HO5
  go_wp2_with fail
  go_loopw [12] (fun iv wr => ∃ i : Nat, i ≤ n ∧ iv = .int .i64 i ∧ Hid (KnO w (.slice oad n ocap) (.slice nad n ncap) (.slice vad n vcap) o hs rs wr)) (fun iv _ => n - (intOf iv).toNat)
  case atStart => exact ⟨0, Nat.zero_le _, rfl, HO6⟩
  case round =>
    clear HO6
    obtain ⟨i, hi, rfl, HO⟩ := hrel
    by_cases hlt : i < n
    rotate_left
    · have hin : i = n := by omega
      subst hin
      go_wp2
      go_ret
      exact ⟨rfl, Own.below HO.out⟩
    have i0 : (0 : Int) ≤ (i : Int) := by omega
    have iN : (i : Int) < (n : Int) := by omega
    go_wp2_with fail
    go_loopw [13] (fun kv wr => ∃ k : Nat, k ≤ n ∧ kv = .int .i64 k ∧ Hid (KnO w (.slice oad n ocap) (.slice nad n ncap) (.slice vad n vcap) o hs rs wr)) (fun kv _ => n - (intOf kv).toNat)
    case atStart => exact ⟨0, Nat.zero_le _, rfl, HO⟩
    case round =>
      clear HO
      obtain ⟨k, hk, rfl, HO⟩ := hrel
      have hoI : ∀ x ∈ natsI o, I64 x := by
        intro x hx
        unfold natsI at hx
        obtain ⟨y, hy, rfl⟩ := List.mem_map.1 hx
        have := List.mem_range.1 (HOR.out.perm.mem_iff.1 hy)
        rw [← HN.out] at this
        unfold I64; omega
      have hints : ∀ q, Ints (wr.drewN q) (.slice oad n ocap) (natsI o) := fun q => (IntSl_reads hoI _ HO.out).heap rfl
      have hol' : (natsI o).length ≤ 100000 := by rw [HOL.out]; omega
      have HIN := Lib.hid hints
      clear hints hoI
      by_cases hkl : k < n
      rotate_left
      · have hkn : k = n := by omega
        subst hkn
        obtain ⟨a, hia⟩ : ∃ a : Nat, idxI (natsI o) (i : Int) = (a : Int) := by
          obtain ⟨a, _, h, _⟩ := idx_at (HOR.out.mem (show i < hs.length by rw [← HN.out]; exact hlt))
          exact ⟨a, h⟩
        have ta : decide ((a : Int) < 0) = false := by simp
        have HIA := Lib.hid hia
        clear hia
        go_wp2_with fail
        refine (refAt_any _ (natsI o) _ _ (HIN.out 0) hol').mono ?_
        rintro e w6 ⟨rfl, rfl⟩
        rw [HIA.out]
        go_wp2_with fail
        go_roundw
        case rel => exact ⟨i + 1, by omega, by go_num, HO⟩
        case measure => simp [intOf]; omega
      have k0 : (0 : Int) ≤ (k : Int) := by omega
      have kN : (k : Int) < (n : Int) := by omega
      obtain ⟨B, L, hK⟩ := kn_at HRH.out HOR.out (show i < hs.length by rw [← HN.out]; exact hlt) (show k < hs.length by rw [← HN.out]; exact hkl)
      have HK := Lib.hid hK
      clear hK
      go_wp2_with fail
      refine (hBefore_any _ hs i k (by unfold I64; omega) (by unfold I64; omega) HO.out (fun wq hq => HV.out wq hq.drop.drop.drop)).mono ?_
      rintro e w6 ⟨rfl, ho⟩
      rw [HK.out.b, HK.out.e.1, errV0]
      have HO7 : Hid (Own w (LSl (.slice vad n vcap) rs * (IntSl (.slice oad n ocap) (natsI o) * (IntSl (.slice nad n ncap) (numsR hs) * emp))) w6) := Lib.hid (ho.perm (by ac_rfl))
      have HO8 : Hid (KnO w (.slice oad n ocap) (.slice nad n ncap) (.slice vad n vcap) o hs rs w6) := Lib.hid ho
      clear ho HO
      obtain ⟨vi, hvi⟩ := HRW.out i hlt
      obtain ⟨vk, hvk⟩ := HRW.out k hkl
      have hin := vecIn_I64 (vecAt_in HRH.out (show i < hs.length by rw [← HN.out]; exact hlt)) (by rw [← HN.out]; omega)
      have hkn := vecIn_I64 (vecAt_in HRH.out (show k < hs.length by rw [← HN.out]; exact hkl)) (by rw [← HN.out]; omega)
      obtain ⟨lb, loff, lcap, hle, _, _, hci, hii⟩ := HO7.out.ls_row hvi hin
      obtain ⟨lb', loff', lcap', hle', _, _, hck, hik⟩ := HO7.out.ls_row hvk hkn
      rw [HRL.out] at hle hle'
      cases hle
      cases hle'
      have HII := Lib.hid hii
      have HIK := Lib.hid hik
      have HVI := Lib.hid hvi; have HVK := Lib.hid hvk
      clear hii hik hvi hvk hin hkn HO7
      go_upto_region 19 with fail
      refine wp_region_planH 13 [] [(true, 0), (true, 1), (true, 2), (true, 3), (true, 4), (true, 5), (true, 6), (true, 7), (false, 8), (true, 9), (true, 10), (true, 11), (false, 12)] [13] (fun wS => wS = w6.drew) (by kernel_rfl) (by kernel_rfl) (rfl) ?_
      simp only [pickH, pick, List.getElem?_cons_succ, List.getElem?_cons_zero, Option.toList, Option.map_some, List.cons_append, List.nil_append]
      repeat (refine wpPure_step ?_ rfl ?_ ?_; rotate_left; (focus (intro _; first | with_reducible rfl | (go_simp; done) | (go_simp; with_reducible rfl) | rfl)); go_simp)
      refine wpPure_nil ?_
      repeat (refine wpMix_read ?_ rfl ?_ ?_; rotate_left; (focus (intro _ hS; obtain rfl := hS; first | with_reducible rfl | (go_simp; done) | (go_simp; with_reducible rfl) | rfl)); go_simp)
      refine wpMix_write (fun K hK => ?_)
      go_simp
      refine (leq_any vi vk (vecAt hs i) (vecAt hs k) w6.drew (HII.out.heap rfl) (HIK.out.heap rfl)).mono ?_
      rintro e w' ⟨rfl, rfl⟩
      rw [HK.out.l, HK.out.e.2, errV0]
      refine hK _ _ ⟨rfl, ?_⟩
      clear hK K
      go_simp
      repeat (refine wpMix_read ?_ rfl ?_ ?_; rotate_left; (focus (intro _ hS; obtain rfl := hS; first | with_reducible rfl | (go_simp; done) | (go_simp; with_reducible rfl) | rfl)); go_simp)
      refine wpMix_write (fun K hK => ?_)
      go_simp
      refine hK _ _ ⟨rfl, ?_⟩
      clear hK K
      go_simp
      refine wpMix_nil ?_
      go_wp2_with fail
      refine NoPanic.normal ?_
      clear hci hck HII HIK HVI HVK
      have HO9 : Hid (KnO w (.slice oad n ocap) (.slice nad n ncap) (.slice (some ⟨lb, loff, none⟩) n vcap) o hs rs w6.drew) := Lib.hid (Own.drew HO8.out)
      rcases HK.out.t with ⟨hik, rfl, rfl⟩ | ⟨hik, rfl, rfl⟩ | ⟨hik, rfl, rfl, hnn, hii⟩
      · have tik : ((i : Int) != (k : Int)) = false := by simp [hik]
        have HIK := Lib.hid hik
        clear hik
        go_wp2_with fail
        go_quiet (fail)
        go_wp2_with fail
        go_roundw
        case rel => exact ⟨k + 1, by omega, by go_num, Lib.hid (Own.same HO8.out rfl rfl rfl rfl)⟩
        case measure => simp [intOf]; omega
      · have tik : ((i : Int) != (k : Int)) = true := by simp; omega
        have HIK := Lib.hid hik
        clear hik
        go_wp2_with fail
        go_quiet (fail)
        go_wp2_with fail
        go_roundw
        case rel => exact ⟨k + 1, by omega, by go_num, Lib.hid (Own.same HO8.out rfl rfl rfl rfl)⟩
        case measure => simp [intOf]; omega
      · have tik : ((i : Int) != (k : Int)) = true := by simp; omega
        have HIK := Lib.hid hik
        clear hik
        obtain ⟨w7, hw7⟩ : ∃ w7, w7 = w6.drew := ⟨_, rfl⟩
        rw [← hw7] at HO9 ⊢
        clear hw7
        have hNR : Hid (Own w (IntSl (.slice nad n ncap) (numsR hs) * (IntSl (.slice oad n ocap) (natsI o) * (LSl (.slice (some ⟨lb, loff, none⟩) n vcap) rs * emp))) w7) := Lib.hid (Own.perm HO9.out (by ac_rfl))
        obtain ⟨nb', noff, ncap', e1, hnc', _, hncell, _⟩ := hNR.out.ints_at (by rw [HNL.out]; omega)
        rw [HNL.out] at e1 hnc'
        cases e1
        have g1 : ∀ j : Nat, ∀ hj : j < (numsR hs).length, (numsR hs)[j] = nAt hs j := fun j hj => by
          unfold nAt; rw [List.getD_eq_getElem?_getD, List.getElem?_eq_getElem hj]; rfl
        have n1 := hncell i (by rw [HNL.out]; exact hlt)
        have n2 := hncell k (by rw [HNL.out]; exact hkl)
        rw [g1] at n1 n2
        obtain ⟨x1, hx1⟩ : ∃ x, x = nAt hs i := ⟨_, rfl⟩
        obtain ⟨x2, hx2⟩ : ∃ x, x = nAt hs k := ⟨_, rfl⟩
        obtain ⟨Y, hY⟩ : ∃ Y : Int → Int, Y = fun x => idxI (natsI o) x := ⟨_, rfl⟩
        rw [← hx1] at n1 hnn
        rw [← hx2] at n2 hnn
        have hii2 : Y i < Y k := by rw [hY]; exact hii
        clear hii
        have tn : decide (x2 ≤ x1) = false := by simp; omega
        have ty : decide (Y (k : Int) < Y (i : Int)) = false := by simp; omega
        have hoI : ∀ W : World, W.heap = w7.heap → Ints W (.slice oad n ocap) (natsI o) := fun W hW => ⟨Rd.heap (Own.rd HO9.out) hW, (HIN.out 0).2⟩
        have HAT : Hid (∀ (W : World) (x : Int), W.heap = w7.heap → Calls Try.prog 10 #[.slice oad n ocap, .int .i64 x] W fun e w' => e = .returned (.int .i64 (Y x)) ∧ W = w') := Lib.hid (fun W x hW => by rw [hY]; exact refAt_any _ (natsI o) x W (hoI W hW) hol')
        clear hncell g1 hNR hoI hnn hii2
        clear hx1 hx2 hY
        go_wp2_with fail
        go_quiet ((go_at_call 10; refine quiet_same (HAT.out _ _ ?_); rfl))
        go_wp2_with fail
        go_roundw
        case rel => exact ⟨k + 1, by omega, by go_num, Lib.hid (Own.same HO9.out rfl rfl rfl rfl)⟩
        case measure => simp [intOf]; omega
end Go.Proofs.Ytenlegafelgelaa
