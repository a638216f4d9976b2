/- clock.Order's sort: an owned row of numbers, sorted by the closure. -/
import Derived.Test.YtljlnhbndkdlcaaDoorMClockTells14
import Derived.Test.YtljlnhbndkdlcaaDoorMClockTells1
import Derived.LaidEql
import Derived.Stop.Asserts
import Derived.RowKitTokens
import Derived.Test.YtljlnhbndkdlcaaDoorRows
import Derived.ChangeSame
import Derived.ChangeVars
import Derived.JoinedOf
import Derived.LaidLaws
import Derived.LaidHandle
import Derived.Stop.Joined
namespace Go.Proofs.YtljlnhbndkdlcaaDoor
set_option linter.unusedVariables false
set_option linter.unusedSimpArgs false
open Go.RowKit
theorem Own.growW {w0 w : World} {P : HProp} (h : Own w0 P w) (os : Array Obj) : Own w0 P (Go.Sort.grow w os) := by
  obtain ⟨hb, x, a, hx⟩ := h
  refine ⟨hb.trans ⟨rfl, rfl, rfl, by simp, fun k hk => Go.Sort.heap_grow_old w os (Nat.lt_of_lt_of_le hk hb.size)⟩, x, fun k o hk => ⟨(a k o hk).1, ?_⟩, hx⟩
  have h2 := (a k o hk).2
  rw [Go.Sort.heap_grow_old _ _ (Array.getElem?_eq_some_iff.1 h2).1]
  exact h2
theorem Own.putRowW {α : Type} [Inhabited α] {w0 w : World} {b off : Nat} {cs : Array Value} {t : TypeId} {f : Nat × Nat} {R : HProp} (enc : α → Value) (d : Array α) (m : Nat) (h : Own w0 (blk b (.cells cs t f) * R) w) :
    Own w0 (blk b (.cells (Go.Sort.putCells enc off d cs) t f) * R) (Go.Sort.putRow enc (Go.Sort.ahead w m) b off d) :=
  h.set rfl rfl rfl (by simp [Go.Sort.putRow, Go.Sort.mapBlock, Go.Sort.ahead]) (fun k _ hk => by simp [Go.Sort.putRow, Go.Sort.mapBlock, Go.Sort.ahead, Array.getElem?_modify, Ne.symm hk])
    (by simp [Go.Sort.putRow, Go.Sort.mapBlock, Go.Sort.ahead, Array.getElem?_modify, h.blk_at.1, Go.Sort.onCells])
def encF (n : Nat) (i : Fin n) : Value := .int .i64 ((i.val : Nat) : Int)
def valF {n : Nat} (d : Array (Fin n)) : List Int := d.toList.map fun i => ((i.val : Nat) : Int)
theorem Own.sortI {w0 w : World} {n : Nat} [Inhabited (Fin n)] {b off cap : Nat} {l : List Int} {R : HProp} (hp : 0 < n) (hl : l.length = n) (h : Own w0 (IntSl (.slice (some ⟨b, off, none⟩) n cap) l * R) w) (d : Array (Fin n)) (hd : d.size = n) (m : Nat) (os : Array Obj) :
    Own w0 (IntSl (.slice (some ⟨b, off, none⟩) n cap) (valF d) * R) (sortWorld (encF n) w b off m d os) := by
  subst hl
  have hvl : (valF d).length = l.length := by simp [valF, hd]
  rcases h.sl_cases with ⟨h0, _⟩ | ⟨b', off', cap', cs, e, h2, h3, h4, h5, h6, ho⟩
  · cases h0
  cases e
  unfold sortWorld
  refine Own.growW ?_ os
  show Own w0 (Sl 3 1 _ (valF d).length ((valF d).map (Value.int .i64)) * R) _
  rw [hvl]
  refine Own.sl_mk (by omega) h3 (by simp [hvl]) (by simpa [Go.Sort.putCells] using h5) (fun i hi => ?_) (ho.putRowW (encF l.length) d m)
  have hi' : i < l.length := by simpa [hvl] using hi
  have hcs : off + i < cs.size := by omega
  simp only [Go.Sort.putCells, Array.getElem?_mapIdx, Array.getElem?_eq_getElem hcs, Option.map_some, List.getElem?_map, valF, List.getElem?_eq_getElem (show i < d.toList.length by simpa [hd] using hi')]
  rw [if_pos (by omega), show off + i - off = i by omega, getElem!_pos d i (by omega)]
  simp [encF]
def cfO (hs : List Ev) (n : Nat) (x y : Fin n) : Int := ordC hs x.val y.val
theorem ltO (hs : List Ev) (n : Nat) (x y : Fin n) : ltOf (cfO hs n) x y = decide (ordLt hs x.val y.val) := by
  unfold ltOf cfO
  exact decide_eq_decide.2 (ordC_lt hs _ _)
theorem swoO (hs : List Ev) (n : Nat) : Go.Sort.SWO (ltOf (cfO hs n)) where
  irrefl x := by rw [ltO, decide_eq_false_iff_not]; exact ordLt_irr _ _
  trans x y z h1 h2 := by rw [ltO, decide_eq_true_eq] at *; exact ordLt_trans h1 h2
  ntrans x y z h1 h2 := by rw [ltO, decide_eq_false_iff_not] at *; unfold ordLt at *; omega
theorem totO {hs : List Ev} (hr : RightH hs) (x y : Fin hs.length) (h1 : ltOf (cfO hs hs.length) x y = false) (h2 : ltOf (cfO hs hs.length) y x = false) : x = y := by
  rw [ltO, decide_eq_false_iff_not] at h1 h2
  rcases ordLt_tri hr x.isLt y.isLt with h | h | h
  · exact absurd h h1
  · exact Fin.ext h
  · exact absurd h h2
def sortedF (hs : List Ev) : List (Fin hs.length) := (List.finRange hs.length).mergeSort fun x y => !(ltOf (cfO hs hs.length)) y x
theorem sortedF_ord {hs : List Ev} (hr : RightH hs) : OrdL hs ((sortedF hs).map (·.val)) where
  perm := by
    have h1 := (List.mergeSort_perm (List.finRange hs.length) fun x y => !(ltOf (cfO hs hs.length)) y x).map (·.val)
    rw [natsI_fin] at h1
    exact h1
  sort := by
    rw [List.pairwise_map]
    have hnd : (sortedF hs).Nodup := ((List.mergeSort_perm _ _).nodup_iff).2 (List.nodup_finRange _)
    have hs1 : (sortedF hs).Pairwise fun x y => (!(ltOf (cfO hs hs.length)) y x) = true := List.pairwise_mergeSort (fun a b c h1 h2 => by
        rw [Bool.not_eq_true'] at *; exact (swoO hs _).ntrans _ _ _ h2 h1) (fun a b => by
        rw [ltO, ltO]
        by_cases h : ordLt hs b.val a.val
        · have : ¬ ordLt hs a.val b.val := fun h2 => ordLt_irr _ _ (ordLt_trans h h2)
          simp [this]
        · simp [h]) _
    refine (List.Pairwise.and hs1 hnd).imp ?_
    rintro a b ⟨h1, h2⟩
    rw [ltO, Bool.not_eq_true', decide_eq_false_iff_not] at h1
    rcases ordLt_tri hr a.isLt b.isLt with h | h | h
    · exact h
    · exact absurd (Fin.ext h) h2
    · exact absurd h h1
set_option maxRecDepth 100000 in
set_option maxHeartbeats 4000000 in
theorem sort_any {w0 w : World} {R : HProp} (hs : List Ev) (hr : RightH hs) (n : Nat) (hn : n = hs.length) (hp : 0 < n) (nb hb b off cap : Nat) (nv hval : Value)
    (h : Own w0 (IntSl (.slice (some ⟨b, off, none⟩) n cap) ((List.range n).map fun (i : Nat) => (i : Int)) * (blk nb (.cells #[nv] 32 (0, 0)) * (blk hb (.cells #[hval] 33 (0, 0)) * (IntSl nv (numsR hs) * R)))) w) (hv : ReadsE w0 R hval hs) :
    Calls Tryd.prog 41 #[.slice (some ⟨b, off, none⟩) n cap, .func (.func 42) #[] #[.pointer (some ⟨nb, 0, none⟩), .pointer (some ⟨hb, 0, none⟩)]] w fun e w' =>
      e = .returned (.tuple #[]) ∧ ∃ l : List Nat, OrdL hs l ∧ Own w0 (IntSl (.slice (some ⟨b, off, none⟩) n cap) (l.map fun (i : Nat) => (i : Int)) * (blk nb (.cells #[nv] 32 (0, 0)) * (blk hb (.cells #[hval] 33 (0, 0)) * (IntSl nv (numsR hs) * R)))) w' := by
  subst hn
  haveI : Inhabited (Fin hs.length) := ⟨⟨0, hp⟩⟩
  have hnl : (numsR hs).length = hs.length := (numState_len hs _).1
  have hlen := hr.1
  have eg : ∀ args w, (callFunc 42 args).run Tryd.prog w = .ok (.enter 42 args) w := enters_of Tryd.func42 (by kernel_rfl) rfl
  have hrl : ((List.range hs.length).map fun (i : Nat) => (i : Int)).length = hs.length := by simp
  obtain ⟨d, hd⟩ : ∃ d : Array (Fin hs.length), d = (List.finRange hs.length).toArray := ⟨_, rfl⟩
  have hds : d.size = hs.length := by rw [hd]; simp
  have hdv : valF d = (List.range hs.length).map fun (i : Nat) => (i : Int) := by
    rw [hd]; unfold valF
    rw [← natsI_fin, List.map_map]; rfl
  obtain ⟨b', off', cap', e, _, _, hcell, hfz, _, hlt, _⟩ := h.ints_at (by rw [hrl]; exact hp)
  rw [hrl] at e
  cases e
  have hH : Go.Sort.Holds (encF hs.length) w b off d := by
    intro j hj
    rw [hds] at hj
    refine ⟨?_, hfz _ _⟩
    rw [hcell j (by rw [hrl]; exact hj), getElem!_pos d j (by omega)]
    simp [encF, hd]
  have hcmp : CmpLays1 Tryd.prog 42 #[.pointer (some ⟨nb, 0, none⟩), .pointer (some ⟨hb, 0, none⟩)] (encF hs.length) (cfO hs hs.length) b off d.size w := by
    intro m os dk hdk x y
    rw [hds] at hdk
    have ho := h.sortI hp hrl dk hdk m os
    generalize sortWorld (encF hs.length) w b off m dk os = W at ho ⊢
    have ho2 := Own.second ho
    have c0 := (ho2.cell 0).trans (show (#[nv] : Array Value)[0]? = some nv from rfl)
    have c1 := ((Own.third ho).cell 0).trans (show (#[hval] : Array Value)[0]? = some hval from rfl)
    obtain ⟨nb', noff, ncap, e1, hnc, _, hncell, _⟩ := (Own.fourth ho).ints_at (by rw [hnl]; exact hp)
    subst e1
    have hoR : Own w0 R W := ho.drop.drop.drop.drop
    obtain ⟨had, hcap, e2, hhc, _⟩ := (hv _ hoR).shape
    subst e2
    obtain ⟨ha, xb, xo, xs, e3, hex, hxc, _⟩ := hv.at hoR x.val x.isLt
    subst e3
    obtain ⟨ha2, yb, yo, ys, e4, hey, hyc, _⟩ := hv.at hoR y.val y.isLt
    cases e4
    have k1 := hncell x.val (by rw [hnl]; exact x.isLt)
    have k2 := hncell y.val (by rw [hnl]; exact y.isLt)
    rw [hnl] at hnc
    rw [hnl] at c0
    have g1 : ∀ i : Nat, ∀ hi : i < (numsR hs).length, (numsR hs)[i] = nAt hs i := fun i hi => by
      unfold nAt; rw [List.getD_eq_getElem?_getD, List.getElem?_eq_getElem hi]; rfl
    rw [g1] at k1 k2
    refine (order1_any nb hb hs.length ncap hcap x.val y.val ⟨nb', noff, none⟩ ha xb xo yb yo xs ys _ _ (nAt hs x.val) (nAt hs y.val) W x.isLt y.isLt hlen hnc hhc hex hey c0 c1 ?_ ?_ (hxc _ hoR).1 (hyc _ hoR).1).mono ?_
    · rw [Addr.add_lit]; exact k1
    · rw [Addr.add_lit]; exact k2
    · rintro e w' ⟨rfl, hw⟩
      exact ⟨rfl, hw⟩
  have hS := Any.slices_SortFunc_total sortL (encF hs.length) (fun _ => rfl) (cfO hs hs.length) (swoO hs _) 42 #[.pointer (some ⟨nb, 0, none⟩), .pointer (some ⟨hb, 0, none⟩)] b off cap d w eg hcmp hH hlt (by omega) (totO hr)
  rw [hds] at hS
  refine hS.mono ?_
  rintro e w' ⟨rfl, m, os, rfl⟩
  refine ⟨rfl, (sortedF hs).map (·.val), sortedF_ord hr, ?_⟩
  have h9 := h.sortI hp hrl (sortedF hs).toArray (by simp [sortedF]) m os
  rw [show valF (sortedF hs).toArray = ((sortedF hs).map (·.val)).map fun (i : Nat) => (i : Int) by unfold valF; rw [List.map_map]; rfl] at h9
  rw [hd]
  exact h9
end Go.Proofs.YtljlnhbndkdlcaaDoor
/- clock.Order: all events, sorted. -/
namespace Go.Proofs.YtljlnhbndkdlcaaDoor
set_option linter.unusedVariables false
set_option linter.unusedSimpArgs false
open Go.RowKit
set_option maxRecDepth 100000 in
set_option maxHeartbeats 4000000 in
theorem order_any {w0 w : World} {R : HProp} (v : Value) (hs : List Ev) (h : Own w0 R w) (hv : ReadsE w0 R v hs) :
    Calls Tryd.prog 24 #[v] w fun e w' => ∃ (v' : Value) (l : List Nat), e = .returned (.tuple #[v', errV (histR hs).2]) ∧ ((histR hs).2 = 0 → OrdL hs l) ∧ ((histR hs).2 ≠ 0 → l = []) ∧ Own w0 (IntSl v' (natsI l) * R) w' := by
  obtain ⟨had, hcap, rfl, hc1, hc2⟩ := (hv _ h).shape
  obtain ⟨n, hn⟩ : ∃ n, n = hs.length := ⟨_, rfl⟩
  rw [← hn] at hc1 hv ⊢
  obtain ⟨E, hE⟩ : ∃ E, E = (histR hs).2 := ⟨_, rfl⟩
  rw [← hE]
  obtain ⟨hb, hb_hb⟩ : ∃ zz_, zz_ = (w).heap.size := ⟨_, rfl⟩
  obtain ⟨w1, hw_w1⟩ : ∃ zz_, zz_ = (w).alloc (.cells #[.slice had n hcap] 33 (0, 0)) := ⟨_, rfl⟩
  have h_H1 := (h).alloc (.cells #[.slice had n hcap] 33 (0, 0))
  rw [← hb_hb, ← hw_w1] at h_H1
  have H1 := Lib.hid h_H1
  clear h_H1
  have c0 : w1.cell? ⟨hb, 0, none⟩ = some (.slice had n hcap) := (H1.out.cell 0).trans rfl
  by_cases h0 : E = 0
  rotate_left
  · have hee := errV_ne h0
    have H := Lib.hid h; have HV := Lib.hid hv; have HE := Lib.hid hE; have H0 := Lib.hid h0; have HEE := Lib.hid hee; have HN := Lib.hid hn
    clear h hv hE h0 hee hn
    go_enter Tryd.func24, Tryd.ntmps24
    go_upto_region 1 with fail
    rw [← hb_hb, ← hw_w1]
    clear hb_hb hw_w1
    go_wp2_with fail
    refine (hRight_any _ hs H1.out HV.out.more).mono ?_
    rintro e w2 ⟨rfl, ho⟩
    rw [← HE.out, HEE.out]
    have HO2 := Lib.hid ho
    clear ho
    go_wp2
    go_ret2
    exact ⟨.slice none 0 0, [], by first | (rw [HEE.out]; done) | (rw [HEE.out]; rfl), fun h => absurd h H0.out, fun _ => rfl, by have := HO2.out.drop; exact this.sl_nil _ _⟩
  have hrh := (histR_ok hs).1 (by rw [← hE]; exact h0)
  have hlen := hrh.1
  rw [← hn] at hlen
  have hee : errV E = .nilIface := by rw [h0]; rfl
  have H := Lib.hid h; have HV := Lib.hid hv; have HE := Lib.hid hE; have H0 := Lib.hid h0; have HRH := Lib.hid hrh; have HEE := Lib.hid hee
  clear h hv hE h0 hrh hee
  have HNH := Lib.hid hn
  clear hn
  go_enter Tryd.func24, Tryd.ntmps24
  go_upto_region 1 with fail
  rw [← hb_hb, ← hw_w1]
  clear hb_hb hw_w1
  go_wp2_with fail
  refine (hRight_any _ hs H1.out HV.out.more).mono ?_
  rintro e w2 ⟨rfl, ho⟩
  rw [← HE.out, HEE.out]
  have c2 : w2.cell? ⟨hb, 0, none⟩ = some (.slice had n hcap) := (ho.cell 0).trans rfl
  have HO2 := Lib.hid ho
  clear ho c0 H1
  go_wp2_with fail
  refine (numbers_any _ hs HO2.out HV.out.more HRH.out).mono ?_
  rintro e w3 ⟨v3, rfl, ho⟩
  have hnl : (numsR hs).length = n := by rw [HNH.out]; exact (numState_len hs _).1
  obtain ⟨nad, ncap, rfl⟩ := ho.int_shape
  rw [hnl] at ho ⊢
  obtain ⟨nb, hb_nb⟩ : ∃ zz_, zz_ = (w3).heap.size := ⟨_, rfl⟩
  obtain ⟨w4, hw_w4⟩ : ∃ zz_, zz_ = (w3).alloc (.cells #[.slice nad n ncap] 32 (0, 0)) := ⟨_, rfl⟩
  have h_H4 := (ho).alloc (.cells #[.slice nad n ncap] 32 (0, 0))
  rw [← hb_nb, ← hw_w4] at h_H4
  have H4 := Lib.hid h_H4
  clear h_H4
  have HO4 : Hid (Own w0 (IntSl (.slice none 0 0) (natsI (List.range 0)) * (blk nb (.cells #[.slice nad n ncap] 32 (0, 0)) * (blk hb (.cells #[.slice had n hcap] 33 (0, 0)) * (IntSl (.slice nad n ncap) (numsR hs) * R)))) w4) := Lib.hid ((H4.out.perm (show _ = blk nb (.cells #[.slice nad n ncap] 32 (0, 0)) * (blk hb (.cells #[.slice had n hcap] 33 (0, 0)) * (IntSl (.slice nad n ncap) (numsR hs) * R)) by ac_rfl)).sl_nil _ _)
  have c4 : w4.cell? ⟨hb, 0, none⟩ = some (.slice had n hcap) := ((Own.third HO4.out).cell 0).trans rfl
  clear ho H4 c2 HO2
  go_upto_region 5 with fail
  rw [← hb_nb, ← hw_w4]
  clear hb_nb hw_w4
  go_wp2_with fail
  go_loopw [17, 6] (fun iv ov wr => ∃ k : Nat, k ≤ n ∧ iv = .int .i64 k ∧ Hid (Own w0 (IntSl ov (natsI (List.range k)) * (blk nb (.cells #[.slice nad n ncap] 32 (0, 0)) * (blk hb (.cells #[.slice had n hcap] 33 (0, 0)) * (IntSl (.slice nad n ncap) (numsR hs) * R)))) wr)) (fun iv _ _ => n - (intOf iv).toNat)
  case atStart => exact ⟨0, Nat.zero_le _, rfl, HO4⟩
  case round =>
    clear HO4 c4
    obtain ⟨k, hk, rfl, HO⟩ := hrel
    by_cases hlt : k < n
    · have hll : (natsI (List.range k)).length = k := by rw [natsI_len]; simp
      have k0 : (0 : Int) ≤ (k : Int) := by omega
      have HLL := Lib.hid hll
      clear hll
      have fin : ∀ (v' : Value) (w' : World), Own w0 (Sl 3 1 v' ((natsI (List.range k)).length + 1) ((natsI (List.range k)).map (Value.int .i64) ++ [Value.int .i64 (k : Int)]) * (blk nb (.cells #[.slice nad n ncap] 32 (0, 0)) * (blk hb (.cells #[.slice had n hcap] 33 (0, 0)) * (IntSl (.slice nad n ncap) (numsR hs) * R)))) w' → Own w0 (IntSl v' (natsI (List.range (k + 1))) * (blk nb (.cells #[.slice nad n ncap] 32 (0, 0)) * (blk hb (.cells #[.slice had n hcap] 33 (0, 0)) * (IntSl (.slice nad n ncap) (numsR hs) * R)))) w' := fun v' w' h => by
        rw [natsI_range]; unfold IntSl; rw [List.map_append, List.length_append]; exact h
      obtain ⟨L, hL⟩ : ∃ L, L = natsI (List.range k) := ⟨_, rfl⟩
      rw [← hL] at HO fin HLL
      have FIN := Lib.hid fin
      clear fin
      have hLl := HLL.out
      clear hL HLL
      go_wp2_with (at_builtin; refine wpList_app rfl _ _ 32 rfl 3 1 8 _ info_int Tryd.underlying32 rfl (by decide) rfl ((HO.out.alloc' _)) rfl (by rfl) (Rd_lit (by simp) (by unfold maxLen; omega)) (by intro u hu; simp at hu; subst hu; rfl) (by unfold maxLen; omega) (by omega) ?_; intro v' w' hown; have HN := Lib.hid hown; clear hown)
      go_wp2_with fail
      go_roundw
      case rel => exact ⟨k + 1, by omega, by go_num, Lib.hid (FIN.out _ _ HN.out)⟩
      case measure => simp [intOf]; omega
    have hkn : k = n := by omega
    subst hkn
    have hll : (natsI (List.range k)).length = k := by rw [natsI_len]; simp
    by_cases hz : k = 0
    · have hs0 : hs = [] := List.length_eq_zero_iff.1 (by rw [← HNH.out]; exact hz)
      have hor : OrdL hs [] := by rw [hs0]; exact ⟨List.Perm.refl _, List.Pairwise.nil⟩
      obtain ⟨oad, ocap, e6, _⟩ := Own.rd HO.out
      rw [hll, hz] at e6
      have hnone := fun W => AnyF.slices_SortFunc_none (P := Tryd.prog) (ρ := sortRen) { sortL with } oad ocap (.func (.func 42) #[] #[.pointer (some ⟨nb, 0, none⟩), .pointer (some ⟨hb, 0, none⟩)]) W
      change ∀ W, Calls Tryd.prog 41 _ _ _ at hnone
      subst hz
      subst e6
      have HOR := Lib.hid hor; have HLL := Lib.hid hll
      clear hor hll
      clear hs0
      go_wp2_with (go_at_call 41; refine (hnone _).mono ?_; rintro e w' ⟨rfl, rfl⟩)
      go_ret2
      exact ⟨_, [], by first | (rw [HEE.out]; done) | (rw [HEE.out]; rfl), fun _ => HOR.out, fun h => absurd H0.out h, by
        have h9 := HO.out.perm (show _ = blk nb (.cells #[.slice nad 0 ncap] 32 (0, 0)) * (blk hb (.cells #[.slice had 0 hcap] 33 (0, 0)) * (IntSl (.slice nad 0 ncap) (numsR hs) * (IntSl (.slice oad 0 ocap) (natsI (List.range 0)) * R))) by ac_rfl)
        exact h9.drop.drop.drop⟩
    obtain ⟨b, off, ocap, e6, _⟩ := HO.out.ints_at (by rw [hll]; omega)
    rw [hll] at e6
    subst e6
    have hsort := fun wq (hq : Own w0 _ wq) => sort_any (w := wq) hs HRH.out k HNH.out (by omega) nb hb b off ocap (.slice nad k ncap) (.slice had k hcap) hq HV.out
    have HLL := Lib.hid hll; have HZ := Lib.hid hz; have HSORT := Lib.hid hsort
    clear hll hz hsort
    go_wp2_with fail
    refine (HSORT.out _ HO.out).mono ?_
    rintro e w6 ⟨rfl, l, hor, ho⟩
    have HO6 := Lib.hid ho
    have HOR := Lib.hid hor
    clear hor
    clear ho
    go_wp2
    go_ret2
    exact ⟨_, l, by first | (rw [HEE.out]; done) | (rw [HEE.out]; rfl), fun _ => HOR.out, fun h => absurd H0.out h, by
      have h9 := HO6.out.perm (show _ = blk nb (.cells #[.slice nad k ncap] 32 (0, 0)) * (blk hb (.cells #[.slice had k hcap] 33 (0, 0)) * (IntSl (.slice nad k ncap) (numsR hs) * (IntSl (.slice (some ⟨b, off, none⟩) k ocap) (natsI l) * R))) by unfold natsI; ac_rfl)
      exact h9.drop.drop.drop⟩
end Go.Proofs.YtljlnhbndkdlcaaDoor
/- errors.As at a number of api, and what plain.Told makes of an error: its number. (After the guide's Toyas example, at a target that is a number.) -/
namespace Go.Proofs.YtljlnhbndkdlcaaDoor
open Go.RowKit Go.Extern.Stop Go.Stop Go.Extern
set_option linter.unusedVariables false
namespace As
/-- The variable errors.errorType holds the handle of the type error. -/
def Handle (w : World) : Prop := w.cell? ⟨0, 0, none⟩ = some (.iface 135 (.agg #[.pointer (some ⟨5, 25, none⟩)]))
theorem valueOfT (t : Addr) (w : World) : (ReflectliteValue.unpack (.iface 83 (.pointer (some t)))).run Tryd.prog w
    = .ok (.agg #[.pointer (some ⟨5, 83, none⟩), .pointer (some ⟨w.heap.size, 0, none⟩), .int .u64 150]) (w.alloc (.cells #[.pointer (some t)] 83)) := by kernel_rfl
theorem typeT (a : Addr) (w : World) : (ReflectliteValue.methodAny (ReflectliteValue.valueError "reflectlite.Value.Type" 0) (fun t _ _ _ => ReflectliteType.toType t) #[.agg #[.pointer (some ⟨5, 83, none⟩), .pointer (some a), .int .u64 150]]).run Tryd.prog w
    = .ok (.iface 135 (.agg #[.pointer (some ⟨5, 83, none⟩)])) w := by kernel_rfl
theorem methodKind (h : Value) (w : World) : (Go.method 289 135 (.agg #[h]) "Kind").run Tryd.prog w = .ok (132, h) w := by kernel_rfl
theorem kindT (w : World) : ((ReflectliteType.abiMethod fun t => (fun a : Nat => Value.int IntKind.u8 (a : Int)) <$> Rtype.kind t) #[.pointer (some ⟨5, 83, none⟩)]).run Tryd.prog w = .ok (.int .u8 22) w := by kernel_rfl
theorem kindE (w : World) : ((ReflectliteType.abiMethod fun t => (fun a : Nat => Value.int IntKind.u8 (a : Int)) <$> Rtype.kind t) #[.pointer (some ⟨5, 61, none⟩)]).run Tryd.prog w = .ok (.int .u8 2) w := by kernel_rfl
theorem rlm (z : Sem Value) (f : TypeId → Addr → Nat → Nat → Sem Value) (v : Value) :
    ReflectliteValue.method z f #[v] = (do match ← ReflectliteValue.parts v with | none => z | some (t, a, fl) => f t a fl (fl % 32)) := rfl
theorem partsT (a : Addr) (w : World) : (ReflectliteValue.parts (.agg #[.pointer (some ⟨5, 83, none⟩), .pointer (some a), .int .u64 150])).run Tryd.prog w = .ok (some (83, a, 150)) w := by kernel_rfl
theorem isNilT (a p : Addr) (W : World) (ha : W.cell? a = some (.pointer (some p))) :
    (ReflectliteValue.method (ReflectliteValue.valueError "reflectlite.Value.IsNil" 0) ReflectliteValue.isNil #[.agg #[.pointer (some ⟨5, 83, none⟩), .pointer (some a), .int .u64 150]]).run Tryd.prog W = .ok (.bool false) W := by
  rw [rlm]
  simp only [Sem.run_bind, partsT, Result.andThen]
  simp [ReflectliteValue.isNil, loadVar, isAgg, underlying, Tryd.underlying83, ha, Result.andThen]
theorem methodElem (h : Value) (w : World) : (Go.method 289 135 (.agg #[h]) "Elem").run Tryd.prog w = .ok (142, .agg #[h]) w := by kernel_rfl
theorem methodImplements (h : Value) (w : World) : (Go.method 289 135 (.agg #[h]) "Implements").run Tryd.prog w = .ok (143, .agg #[h]) w := by kernel_rfl
theorem methodAssignableTo (h : Value) (w : World) : (Go.method 289 135 (.agg #[h]) "AssignableTo").run Tryd.prog w = .ok (140, .agg #[h]) w := by kernel_rfl
theorem elemT (w : World) : (ReflectliteType.method ReflectliteType.elem #[.agg #[.pointer (some ⟨5, 83, none⟩)]]).run Tryd.prog w = .ok (.iface 135 (.agg #[.pointer (some ⟨5, 61, none⟩)])) w := by kernel_rfl
theorem implementsE (w : World) : (ReflectliteType.relation "Implements" ReflectliteType.implements_ #[.agg #[.pointer (some ⟨5, 61, none⟩)], .iface 135 (.agg #[.pointer (some ⟨5, 25, none⟩)])]).run Tryd.prog w = .ok (.bool true) w := by kernel_rfl
theorem typeOfE (v : Value) (w : World) : (ReflectliteType.typeOf #[.iface 61 v]).run Tryd.prog w = .ok (.iface 135 (.agg #[.pointer (some ⟨5, 61, none⟩)])) w := by kernel_rfl
theorem assignableE (w : World) : (ReflectliteType.relation "AssignableTo" ReflectliteType.assignableTo #[.agg #[.pointer (some ⟨5, 61, none⟩)], .iface 135 (.agg #[.pointer (some ⟨5, 61, none⟩)])]).run Tryd.prog w = .ok (.bool true) w := by kernel_rfl
theorem valueOfE (n : Int) (w : World) : (ReflectliteValue.unpack (.iface 61 (.int .i64 n))).run Tryd.prog w
    = .ok (.agg #[.pointer (some ⟨5, 61, none⟩), .pointer (some ⟨w.heap.size, 0, none⟩), .int .u64 130]) (w.alloc (.cells #[.int .i64 n] 61)) := by kernel_rfl
theorem elemOfT (w : World) : (Rtype.elem? 83).run Tryd.prog w = .ok (some 61) w := by kernel_rfl
theorem mkE (p : Addr) (w : World) : (ReflectliteValue.mk 61 p ReflectliteValue.flagAddr).run Tryd.prog w = .ok (.agg #[.pointer (some ⟨5, 61, none⟩), .pointer (some p), .int .u64 386]) w := by kernel_rfl
theorem elemVT (a p : Addr) (W : World) (ha : W.cell? a = some (.pointer (some p))) :
    (ReflectliteValue.method (ReflectliteValue.valueError "reflectlite.Value.Elem" 0) ReflectliteValue.elem #[.agg #[.pointer (some ⟨5, 83, none⟩), .pointer (some a), .int .u64 150]]).run Tryd.prog W
      = .ok (.agg #[.pointer (some ⟨5, 61, none⟩), .pointer (some p), .int .u64 386]) W := by
  rw [rlm]
  simp only [Sem.run_bind, partsT, Result.andThen]
  simp [ReflectliteValue.elem, loadVar, isAgg, underlying, Tryd.underlying83, ha, Result.andThen, elemOfT, mkE]
theorem rls (v x : Value) : ReflectliteValue.set #[v, x] = (do
    let (some (dst, a, fl), some (src, b, _)) := (← ReflectliteValue.parts v, ← ReflectliteValue.parts x)
      | unsupported (.noEntry "extern/(internal/reflectlite.Value).Set.zeroValue")
    if fl / ReflectliteValue.flagAddr % 2 == 0 then unsupported (.noEntry "extern/(internal/reflectlite.Value).Set.unaddressable")
    let val ← loadVar src b
    if ← Rtype.directlyAssignable dst src then storeVar dst a val
    else if ← Rtype.implements dst src then
      if (← Rtype.kind src) == 20 then
        match val with
        | .nilIface => unsupported (.noEntry "extern/reflectlite: a nil value of one interface type handed on as a value of another")
        | _ => storeVar dst a val
      else storeVar dst a (.iface src val)
    else panicString ("reflectlite.Set: value of type " ++ (← Rtype.spelt src) ++ " is not assignable to type " ++ (← Rtype.spelt dst))
    pure (.tuple #[])) := rfl
theorem partsEa (a : Addr) (w : World) : (ReflectliteValue.parts (.agg #[.pointer (some ⟨5, 61, none⟩), .pointer (some a), .int .u64 386])).run Tryd.prog w = .ok (some (61, a, 386)) w := by kernel_rfl
theorem partsE (a : Addr) (w : World) : (ReflectliteValue.parts (.agg #[.pointer (some ⟨5, 61, none⟩), .pointer (some a), .int .u64 130])).run Tryd.prog w = .ok (some (61, a, 130)) w := by kernel_rfl
theorem directE (w : World) : (Rtype.directlyAssignable 61 61).run Tryd.prog w = .ok true w := by kernel_rfl
theorem sizeE (w : World) : (sizeOf 61).run Tryd.prog w = .ok 1 w := by kernel_rfl
theorem setE (ta b : Addr) (n : Int) (old : Value) (W : World) (hb : W.cell? b = some (.int .i64 n)) (ht : W.cell? ta = some old) (hf : W.frozen? ta = false) :
    (ReflectliteValue.set #[.agg #[.pointer (some ⟨5, 61, none⟩), .pointer (some ta), .int .u64 386], .agg #[.pointer (some ⟨5, 61, none⟩), .pointer (some b), .int .u64 130]]).run Tryd.prog W
      = .ok (.tuple #[]) (W.setCell ta (.int .i64 n)) := by
  rw [rls]
  simp only [Sem.run_bind, partsEa, partsE, Result.andThen]
  simp [ReflectliteValue.flagAddr, loadVar, isAgg, underlying, Tryd.underlying61, hb, Result.andThen, directE, storeVar, Value.cells, storeCells, Addr.add]
  rw [run_store Tryd.prog W ta _ _ (by rfl)]
  simp [ht, hf]
set_option maxHeartbeats 4000000 in
theorem as_hit (n : Int) (t : Addr) (old : Value) (w : World) (hg : Handle w) (ht0 : w.cell? t = some old) (hf0 : w.frozen? t = false) :
    Calls Tryd.prog 50 #[.iface 61 (.int .i64 n), .iface 83 (.pointer (some t))] w fun ev w' => ev = .returned (.bool true) ∧ w' = ((((w.alloc (.cells #[.pointer (some t)] 83)).alloc (.cells #[.pointer (some ⟨5, 83, none⟩), .pointer (some ⟨w.heap.size, 0, none⟩), .int .u64 150] 103)).alloc (.cells #[.pointer (some ⟨5, 83, none⟩), .pointer (some ⟨w.heap.size, 0, none⟩), .int .u64 150] 103)).alloc (.cells #[.int .i64 n] 61)).setCell t (.int .i64 n) := by
  have hg : w.cell? ⟨0, 0, none⟩ = some (.iface 135 (.agg #[.pointer (some ⟨5, 25, none⟩)])) := hg
  have h6 := @run_callFunc_extern Tryd.prog 71 _ (fun args => ReflectliteValue.unpack (args.getD 0 (.tuple #[]))) Tryd.func71 (by kernel_rfl) (by kernel_rfl) (by kernel_rfl) (by kernel_rfl)
  have h7 := @run_callFunc_extern Tryd.prog 72 _ (ReflectliteValue.methodAny (ReflectliteValue.valueError "reflectlite.Value.Type" 0) (fun t _ _ _ => ReflectliteType.toType t)) Tryd.func72 (by kernel_rfl) (by kernel_rfl) (by kernel_rfl) (by kernel_rfl)
  have h8 := @run_callFunc_extern Tryd.prog 73 _ (ReflectliteValue.method (ReflectliteValue.valueError "reflectlite.Value.IsNil" 0) ReflectliteValue.isNil) Tryd.func73 (by kernel_rfl) (by kernel_rfl) (by kernel_rfl) (by kernel_rfl)
  have h27 := @run_callFunc_extern Tryd.prog 132 _ (ReflectliteType.abiMethod fun t => do pure (.int .u8 (← Rtype.kind t))) Tryd.func132 (by kernel_rfl) (by kernel_rfl) (by kernel_rfl) (by kernel_rfl)
  have h37 := @run_callFunc_extern Tryd.prog 142 _ (ReflectliteType.method ReflectliteType.elem) Tryd.func142 (by kernel_rfl) (by kernel_rfl) (by kernel_rfl) (by kernel_rfl)
  have h38 := @run_callFunc_extern Tryd.prog 143 _ (ReflectliteType.relation "Implements" ReflectliteType.implements_) Tryd.func143 (by kernel_rfl) (by kernel_rfl) (by kernel_rfl) (by kernel_rfl)
  have h10 := @run_callFunc_extern Tryd.prog 97 _ ReflectliteType.typeOf Tryd.func97 (by kernel_rfl) (by kernel_rfl) (by kernel_rfl) (by kernel_rfl)
  have h35 := @run_callFunc_extern Tryd.prog 140 _ (ReflectliteType.relation "AssignableTo" ReflectliteType.assignableTo) Tryd.func140 (by kernel_rfl) (by kernel_rfl) (by kernel_rfl) (by kernel_rfl)
  have h11 := @run_callFunc_extern Tryd.prog 98 _ (ReflectliteValue.method (ReflectliteValue.valueError "reflectlite.Value.Elem" 0) ReflectliteValue.elem) Tryd.func98 (by kernel_rfl) (by kernel_rfl) (by kernel_rfl) (by kernel_rfl)
  have h12 := @run_callFunc_extern Tryd.prog 99 _ ReflectliteValue.set Tryd.func99 (by kernel_rfl) (by kernel_rfl) (by kernel_rfl) (by kernel_rfl)
  have tO := typeOfE
  have mA := methodAssignableTo
  have a25 := assignableE
  have v25 := valueOfE
  have f6 := valueOfT
  have f7 := typeT
  have mK := methodKind
  have mE := methodElem
  have mI := methodImplements
  have k27 := kindT
  have k25 := kindE
  have e27 := elemT
  have i25 := implementsE
  have n8 := isNilT ⟨w.heap.size, 0, none⟩ t ((w.alloc (.cells #[.pointer (some t)] 83)).alloc (.cells #[.pointer (some ⟨5, 83, none⟩), .pointer (some ⟨w.heap.size, 0, none⟩), .int .u64 150] 103)) (by simp)
  have hlt : 0 < w.heap.size := by
    rcases Nat.eq_zero_or_pos w.heap.size with h0 | h
    · simp [World.cell?, h0] at hg
    · exact h
  have hg2 : ((w.alloc (.cells #[.pointer (some t)] 83)).alloc (.cells #[.pointer (some ⟨5, 83, none⟩), .pointer (some ⟨w.heap.size, 0, none⟩), .int .u64 150] 103)).cell? ⟨0, 0, none⟩ = some (.iface 135 (.agg #[.pointer (some ⟨5, 25, none⟩)])) := by
    rw [World.cell?_alloc_lt _ _ ⟨0, 0, none⟩ (by simp), World.cell?_alloc_lt _ _ ⟨0, 0, none⟩ hlt]; exact hg
  have htl : t.block < w.heap.size := by
    rcases Nat.lt_or_ge t.block w.heap.size with h | h
    · exact h
    · simp [World.cell?, Array.getElem?_eq_none h] at ht0
  have el := elemVT ⟨w.heap.size, 0, none⟩ t (((w.alloc (.cells #[.pointer (some t)] 83)).alloc (.cells #[.pointer (some ⟨5, 83, none⟩), .pointer (some ⟨w.heap.size, 0, none⟩), .int .u64 150] 103)).alloc (.cells #[.pointer (some ⟨5, 83, none⟩), .pointer (some ⟨w.heap.size, 0, none⟩), .int .u64 150] 103)) (by rw [World.cell?_alloc_lt _ _ ⟨w.heap.size, 0, none⟩ (by simp; omega)]; simp)
  have st := setE t ⟨w.heap.size + 1 + 1 + 1, 0, none⟩ n old ((((w.alloc (.cells #[.pointer (some t)] 83)).alloc (.cells #[.pointer (some ⟨5, 83, none⟩), .pointer (some ⟨w.heap.size, 0, none⟩), .int .u64 150] 103)).alloc (.cells #[.pointer (some ⟨5, 83, none⟩), .pointer (some ⟨w.heap.size, 0, none⟩), .int .u64 150] 103)).alloc (.cells #[.int .i64 n] 61))
    (by rw [World.cell?_alloc_at _ _ _ _ (by simp)]; rfl)
    (by rw [World.cell?_alloc_lt _ _ t (by simp; omega), World.cell?_alloc_lt _ _ t (by simp; omega), World.cell?_alloc_lt _ _ t (by simp; omega), World.cell?_alloc_lt _ _ t htl]; exact ht0)
    (by rw [World.frozen?_alloc_old _ _ t (by simp; omega), World.frozen?_alloc_old _ _ t (by simp; omega), World.frozen?_alloc_old _ _ t (by simp; omega), World.frozen?_alloc_old _ _ t (Nat.ne_of_lt htl)]; exact hf0)
  go_enter Tryd.func50, Tryd.ntmps50
  go_wp2
  refine wp_loop_rounds 1 ?_
  rw [rounds_succ]
  go_wp2
  go_ret
  exact ⟨rfl, rfl⟩
end As
end Go.Proofs.YtljlnhbndkdlcaaDoor
/- The package-level variable errors.errorType as the rows list it: what a walk has of it; a world that meets it. (After the guide's Toyas example.) -/
namespace Go.Proofs.YtljlnhbndkdlcaaDoor
set_option linter.unusedVariables false
set_option linter.unusedSimpArgs false
open Go.ChangeShapes Go.WideShapes Go.RowKit
theorem errt : Tryd.prog.globalNamed "errors.errorType" = some 0 := by kernel_rfl
theorem rtt : (Tryd.prog.cutTypes.find? (·.1 == "internal/reflectlite.rtype")).map (·.2) = some 135 := by kernel_rfl
theorem oneRow : ((List.range 189).filter fun t => Tryd.prog.rowNamed t [101, 114, 114, 111, 114]) = [25] := by kernel_rfl
theorem typesSize : Tryd.prog.types.size = 189 := by kernel_rfl
def theLaid : List (String × DataW Unit) := [("errors.errorType", Rows.laid_errors_errorType)]
theorem handle_of_laid {W : World} (h : laidMetH Tryd.prog theLaid W) : As.Handle W := by
  have h' : laidMet Tryd.prog [] W ∧ handlesMet Tryd.prog theLaid W := h
  obtain ⟨name, u, ty, e1, e2, e3, e4, e5⟩ := h'.2 _ (List.mem_singleton.2 rfl)
  have en : name = [101, 114, 114, 111, 114] := (Option.some.inj e1).symm
  subst en
  obtain rfl := Option.some.inj (rtt.symm.trans e2)
  have hm : ty ∈ (List.range 189).filter fun t => Tryd.prog.rowNamed t [101, 114, 114, 111, 114] := List.mem_filter.2 ⟨List.mem_range.2 (by rw [← typesSize]; exact e3), e4⟩
  rw [oneRow] at hm
  obtain rfl := List.mem_singleton.1 hm
  have hh : typeHandle Tryd.prog 25 = .pointer (some ⟨5, 25, none⟩) := by kernel_rfl
  rw [hh] at e5
  unfold As.Handle
  simpa using World.var?_cell errt e5 0
def laidWorld (P : Program) (os : Os) : World :=
  { World.holding P os ⟨#[], #[], []⟩ with heap := (World.holding P os ⟨#[], #[], []⟩).heap.setIfInBounds 0 (.cells #[.iface 135 (.agg #[.pointer (some ⟨5, 25, none⟩)])] 106 (0, 0)) }
theorem laidWorld_met (os : Os) (args : Array Value) : laidMetH Tryd.prog theLaid ((laidWorld Tryd.prog os).forCall (fun _ _ => 0) ⟨#[], args, []⟩).memory :=
  laidMetH_of_parts (laidMet_nil _ _) (by kernel_rfl)
end Go.Proofs.YtljlnhbndkdlcaaDoor
/- What plain.Told makes of an error: its number. -/
namespace Go.Proofs.YtljlnhbndkdlcaaDoor
open Go.RowKit
set_option linter.unusedVariables false
/-- What plain.Told makes of an error. -/
theorem tell_any {w0 w : World} {R : HProp} (hg : As.Handle w0) (n : Nat) (h : Own w0 R w) :
    Calls Tryd.prog 33 #[errV n] w fun e w' => e = .returned (.int .i64 n) ∧ Own w0 R w' := by
  have HH := Lib.hid h
  cases n with
  | zero =>
    rw [errV0]
    go_enter Tryd.func33, Tryd.ntmps33
    go_wp2
    go_ret
    exact ⟨rfl, HH.out⟩
  | succ n =>
    rw [show errV (n + 1) = .iface 61 (.int .i64 ((n : Int) + 1)) from rfl]
    have hlt : (⟨0, 0, none⟩ : Addr).block < w0.heap.size := World.block_lt_of_cell? _ _ hg
    have hw : As.Handle w := by unfold As.Handle; rw [h.below.cell (p := ⟨0, 0, none⟩) hlt]; exact hg
    have hlw : (⟨0, 0, none⟩ : Addr).block < w.heap.size := World.block_lt_of_cell? _ _ hw
    have hw1 : As.Handle (w.alloc (.cells #[.int .i64 0] 61)) := by unfold As.Handle; rw [World.cell?_alloc_lt _ _ _ hlw]; exact hw
    have HW1 := Lib.hid hw1
    have g1 := (h.alloc (.cells #[.int .i64 0] 61))
    have HC := Lib.hid (g1.cell 0); have HF := Lib.hid (g1.free 0 none)
    clear hw hw1 hlw hlt h g1 hg
    go_enter Tryd.func33, Tryd.ntmps33
    go_wp2_with fail
    refine (As.as_hit _ ⟨w.heap.size, 0, none⟩ (.int .i64 0) _ HW1.out HC.out HF.out).mono ?_
    rintro e w' ⟨rfl, rfl⟩
    go_wp2
    go_ret
    exact ⟨by simp, ((((HH.out.alloc' _).alloc' _).alloc' _).alloc' _).alloc' _⟩
/-- Is an error the one told? -/
theorem sameErr_any {w0 w : World} {R : HProp} (hg : As.Handle w0) (n : Nat) (m : Int) (h : Own w0 R w) :
    Calls Tryd.prog 9 #[errV n, .int .i64 m] w fun e w' => e = .returned (.bool ((n : Int) == m)) ∧ Own w0 R w' := by
  have T := Lib.hid (tell_any hg n h)
  clear hg h
  go_enter Tryd.func9, Tryd.ntmps9
  go_wp2_with fail
  refine (T.out).mono ?_
  rintro e w' ⟨rfl, ho⟩
  have HO := Lib.hid ho
  clear ho
  go_wp2
  go_ret
  exact ⟨rfl, HO.out⟩
end Go.Proofs.YtljlnhbndkdlcaaDoor
