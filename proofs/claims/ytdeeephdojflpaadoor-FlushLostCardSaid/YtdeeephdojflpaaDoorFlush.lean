/- Contracts of package flush: a group that flushes, as plain data. -/
import Derived.Test.YtdeeephdojflpaaDoorMapOpen
import Derived.Test.YtdeeephdojflpaaDoorFifo
import Derived.Test.YtdeeephdojflpaaDoorSet
import Derived.Test.YtdeeephdojflpaaDoorHeld
import Derived.Test.YtdeeephdojflpaaDoorStable2
import Derived.Test.YtdeeephdojflpaaDoorStar
import Derived.Deep.DeepCutAuto
import Derived.Deep.CutBlock
namespace Go.Proofs.YtdeeephdojflpaaDoor
set_option linter.unusedVariables false
set_option linter.unusedSimpArgs false
open Go.RowKit Go.Maps
theorem fplace_lits (n : Nat) (a b : Int) (ha : I64 a) (hb : I64 b) : Tryd.prog.keyLits (n + 2) 151 [.int .i64 a, .int .i64 b] = some [.int .i64 a, .int .i64 b] := by
  have h1 : Tryd.prog.cellsOf 151 = 2 := by kernel_rfl
  have h2 : Tryd.prog.cellsOf 3 = 1 := by kernel_rfl
  simp [Program.keyLits, Tryd.underlying151, Tryd.underlying3, h1, h2, I64_wf ha, I64_wf hb]
theorem fplace_ke : KE Tryd.prog 151 plV plOk where
  keyed := Keyed.of_law (deep_law (m := 2) (by omega) (by kernel_rfl) (by kernel_rfl) (by rw [Tryd.underlying151]))
  has := fun x hx => by
    have h1 : Tryd.prog.cellsOf 151 = 2 := by kernel_rfl
    have h2 : Tryd.prog.keyType 151 = true := by kernel_rfl
    have h3 : 0 < Tryd.prog.types.size := of_decide_eq_true (by kernel_rfl)
    obtain ⟨m, hm⟩ := Nat.exists_eq_succ_of_ne_zero (Nat.ne_of_gt h3)
    refine ⟨.string (keyBytes [.int .i64 x.1, .int .i64 x.2]), ?_⟩
    unfold keyOf
    rw [Tryd.underlying151]
    simp [h2, hm, plV, Value.formed, Tryd.underlying151, h1, Value.cells, fplace_lits m _ _ hx.1 hx.2]
  inj := fun x y h => by
    unfold plV at h
    simp at h
    exact Prod.ext h.1 h.2
structure Fl where
  n : Int
  has : List Int
  all : List Int
  said : List Int
  heard : List ((Int × Int) × List Int)
theorem mapfl_made : ∀ w, (Instr.makeMap 145 none).run Tryd.prog w = .ok (.map (some w.heap.size)) (w.alloc (.map #[] 0)) := fun _ => by kernel_rfl
theorem mapfl_kind : Tryd.prog.underlying 145 = some (.map 151 43) := by kernel_rfl
abbrev FRow := (Int × Int) × (Value × List Int)
def FlO (p mb1 mb2 : Nat) (hv sv : Value) (m : List FRow) (s : Fl) : HProp :=
  blk p (.cells #[.int .i64 s.n, hv, .map (some mb1), sv, .map (some mb2)] 147 (0, 0)) * (IntSl hv s.has * (IntSl sv s.said * (IMp mb1 (setM s.all) * MpS plV plOk rowP Prod.fst mb2 m)))
def FlP (p : Nat) (s : Fl) : HProp := hex fun (x : (Nat × Nat × Value × Value) × List FRow) => pur (mvals Prod.snd x.2 = s.heard) * FlO p x.1.1 x.1.2.1 x.1.2.2.1 x.1.2.2.2 x.2 s
/-- A flush whose slices lie at known places. -/
def FlQ (p mb1 mb2 : Nat) (ha : Option Addr) (hc : Nat) (sa : Option Addr) (sc : Nat) (s : Fl) : HProp := hex fun m : List FRow => pur (mvals Prod.snd m = s.heard) * FlO p mb1 mb2 (.slice ha s.has.length hc) (.slice sa s.said.length sc) m s
theorem Own.flq_open {w0 w : World} {p mb1 mb2 : Nat} {ha : Option Addr} {hc : Nat} {sa : Option Addr} {sc : Nat} {s : Fl} {R : HProp} (h : Own w0 (FlQ p mb1 mb2 ha hc sa sc s * R) w) : ∃ m, mvals Prod.snd m = s.heard ∧ Own w0 (FlO p mb1 mb2 (.slice ha s.has.length hc) (.slice sa s.said.length sc) m s * R) w := by
  obtain ⟨m, h⟩ := Own.ex h
  rw [star_assoc] at h
  obtain ⟨he, h⟩ := Own.pur_out h
  exact ⟨m, he, h⟩
theorem Own.flq_close {w0 w : World} {p mb1 mb2 : Nat} {ha : Option Addr} {hc : Nat} {sa : Option Addr} {sc : Nat} {m : List FRow} {s : Fl} {R : HProp} (he : mvals Prod.snd m = s.heard) (h : Own w0 (FlO p mb1 mb2 (.slice ha s.has.length hc) (.slice sa s.said.length sc) m s * R) w) : Own w0 (FlQ p mb1 mb2 ha hc sa sc s * R) w := by
  refine Own.ex_mk m ?_
  rw [star_assoc]
  exact Own.pur_mk he h
theorem Own.fl_open {w0 w : World} {p : Nat} {s : Fl} {R : HProp} (h : Own w0 (FlP p s * R) w) : ∃ mb1 mb2 ha hc sa sc m, mvals Prod.snd m = s.heard ∧ Own w0 (FlO p mb1 mb2 (.slice ha s.has.length hc) (.slice sa s.said.length sc) m s * R) w := by
  obtain ⟨⟨⟨mb1, mb2, hv, sv⟩, m⟩, h⟩ := Own.ex h
  rw [star_assoc] at h
  obtain ⟨he, h⟩ := Own.pur_out h
  obtain ⟨ha, hc, h1⟩ := (h.perm (show _ = IntSl hv s.has * (blk p (.cells #[.int .i64 s.n, hv, .map (some mb1), sv, .map (some mb2)] 147 (0, 0)) * (IntSl sv s.said * (IMp mb1 (setM s.all) * MpS plV plOk rowP Prod.fst mb2 m) * R)) by unfold FlO; ac_rfl)).int_shape
  obtain ⟨sa, sc, h2⟩ := (h.perm (show _ = IntSl sv s.said * (blk p (.cells #[.int .i64 s.n, hv, .map (some mb1), sv, .map (some mb2)] 147 (0, 0)) * (IntSl hv s.has * (IMp mb1 (setM s.all) * MpS plV plOk rowP Prod.fst mb2 m) * R)) by unfold FlO; ac_rfl)).int_shape
  subst h1; subst h2
  exact ⟨mb1, mb2, ha, hc, sa, sc, m, he, h⟩
theorem Own.fl_close {w0 w : World} {p mb1 mb2 : Nat} {hv sv : Value} {m : List FRow} {s : Fl} {R : HProp} (he : mvals Prod.snd m = s.heard) (h : Own w0 (FlO p mb1 mb2 hv sv m s * R) w) : Own w0 (FlP p s * R) w := by
  refine Own.ex_mk ((mb1, mb2, hv, sv), m) ?_
  rw [star_assoc]
  exact Own.pur_mk he h
theorem Own.fl_open_q {w0 w : World} {p : Nat} {s : Fl} {R : HProp} (h : Own w0 (FlP p s * R) w) : ∃ mb1 mb2 ha hc sa sc, Own w0 (FlQ p mb1 mb2 ha hc sa sc s * R) w := by
  obtain ⟨mb1, mb2, ha, hc, sa, sc, m, he, ho⟩ := h.fl_open
  exact ⟨mb1, mb2, ha, hc, sa, sc, ho.flq_close he⟩
theorem Own.flq_p {w0 w : World} {p mb1 mb2 : Nat} {ha : Option Addr} {hc : Nat} {sa : Option Addr} {sc : Nat} {s : Fl} {R : HProp} (h : Own w0 (FlQ p mb1 mb2 ha hc sa sc s * R) w) : Own w0 (FlP p s * R) w := by
  obtain ⟨m, he, ho⟩ := h.flq_open
  exact Own.fl_close he ho
section
variable {w0 w : World} {p mb1 mb2 : Nat} {hv sv : Value} {m : List FRow} {s : Fl} {R : HProp}
abbrev flBlk (p mb1 mb2 : Nat) (n : Int) (hv sv : Value) : HProp := blk p (.cells #[.int .i64 n, hv, .map (some mb1), sv, .map (some mb2)] 147 (0, 0))
theorem Own.fl_blk (h : Own w0 (FlO p mb1 mb2 hv sv m s * R) w) : Own w0 (flBlk p mb1 mb2 s.n hv sv * (IntSl hv s.has * (IntSl sv s.said * (IMp mb1 (setM s.all) * (MpS plV plOk rowP Prod.fst mb2 m * R))))) w := h.perm (by unfold FlO; ac_rfl)
theorem Own.fl_has (h : Own w0 (FlO p mb1 mb2 hv sv m s * R) w) : Own w0 (IntSl hv s.has * (flBlk p mb1 mb2 s.n hv sv * (IntSl sv s.said * (IMp mb1 (setM s.all) * (MpS plV plOk rowP Prod.fst mb2 m * R))))) w := h.perm (by unfold FlO; ac_rfl)
theorem Own.fl_said (h : Own w0 (FlO p mb1 mb2 hv sv m s * R) w) : Own w0 (IntSl sv s.said * (flBlk p mb1 mb2 s.n hv sv * (IntSl hv s.has * (IMp mb1 (setM s.all) * (MpS plV plOk rowP Prod.fst mb2 m * R))))) w := h.perm (by unfold FlO; ac_rfl)
theorem Own.fl_all (h : Own w0 (FlO p mb1 mb2 hv sv m s * R) w) : Own w0 (IMp mb1 (setM s.all) * (flBlk p mb1 mb2 s.n hv sv * (IntSl hv s.has * (IntSl sv s.said * (MpS plV plOk rowP Prod.fst mb2 m * R))))) w := h.perm (by unfold FlO; ac_rfl)
theorem Own.fl_map (h : Own w0 (FlO p mb1 mb2 hv sv m s * R) w) : Own w0 (MpS plV plOk rowP Prod.fst mb2 m * (flBlk p mb1 mb2 s.n hv sv * (IntSl hv s.has * (IntSl sv s.said * (IMp mb1 (setM s.all) * R))))) w := h.perm (by unfold FlO; ac_rfl)
theorem Own.fl_facts (h : Own w0 (FlO p mb1 mb2 hv sv m s * R) w) :
    w.cell? ⟨p, 0, none⟩ = some (.int .i64 s.n) ∧ w.cell? ⟨p, 1, none⟩ = some hv ∧ w.cell? ⟨p, 2, none⟩ = some (.map (some mb1)) ∧ w.cell? ⟨p, 3, none⟩ = some sv ∧ w.cell? ⟨p, 4, none⟩ = some (.map (some mb2)) ∧ (∀ i t, w.frozen? ⟨p, i, t⟩ = false) :=
  ⟨(h.fl_blk.cell 0).trans rfl, (h.fl_blk.cell 1).trans rfl, (h.fl_blk.cell 2).trans rfl, (h.fl_blk.cell 3).trans rfl, (h.fl_blk.cell 4).trans rfl, fun i t => h.fl_blk.free i t⟩
/-- What the map of rows gives at a place. -/
theorem Own.fl_row (h : Own w0 (FlO p mb1 mb2 hv sv m s * R) w) (x : Int × Int) (hx : plOk x) :
    (Instr.lookup 145 (.map (some mb2)) (.agg #[.int .i64 x.1, .int .i64 x.2]) false).run Tryd.prog w = .ok ((mget m x).getD nilRow).1 w := by
  have h1 := (h.fl_map.ms_take nilRow rowP_nil x).drop.map_look fplace_ke mapfl_kind ints_zero hx false
  rw [if_neg (by decide)] at h1
  have h2 := mget_val Prod.fst m x nilRow
  rw [show (nilRow).1 = Value.slice none 0 0 from rfl] at h2
  rw [h2] at h1
  exact h1
theorem Own.fl_look (h : Own w0 (FlO p mb1 mb2 hv sv m s * R) w) (x : Int) (hx : I64 x) :
    (Instr.lookup 144 (.map (some mb1)) (.int .i64 x) false).run Tryd.prog w = .ok (.bool (decide (x ∈ s.all))) w := by
  have h1 := h.fl_all.map_look (int_ke int_kind) mapint_kind bool_zero hx false
  rw [mget_setM, if_neg (by decide)] at h1
  exact h1
end
def flRow (s : Fl) (x : Int × Int) : List Int := (mget s.heard x).getD []
theorem flRow_of {s : Fl} {m : List FRow} (he : mvals Prod.snd m = s.heard) (x : Int × Int) : ((mget m x).getD nilRow).2 = flRow s x := by
  unfold flRow; rw [← he, mget_mvals]; cases mget m x <;> rfl
theorem Own.fl_rd {w0 w : World} {p mb1 mb2 : Nat} {hv sv : Value} {m : List FRow} {s : Fl} {R : HProp} (he : mvals Prod.snd m = s.heard) (h : Own w0 (FlO p mb1 mb2 hv sv m s * R) w) (x : Int × Int) (hI : ∀ y ∈ flRow s x, I64 y) : Ints w ((mget m x).getD nilRow).1 (flRow s x) := by
  have h1 := h.fl_map.ms_take nilRow rowP_nil x
  have h2 : Own w0 (IntSl ((mget m x).getD nilRow).1 ((mget m x).getD nilRow).2 * _) w := h1
  rw [flRow_of he] at h2
  exact IntSl_reads hI _ h2
def flChk (s : Fl) (who word : Int) : Nat := if isMember who = false then 1 else if isWord word = false then 1 else if decide (who ∈ s.has) = false then 8 else 0
def flHear (s : Fl) (who word : Int) : Fl := { s with heard := mput s.heard (s.n, who) (flRow s (s.n, who) ++ [word]) }
def flHas (s : Fl) (who word : Int) : Bool := decide (word ∈ flRow s (s.n, who))
def flOk (s : Fl) : Prop := (0 ≤ s.n ∧ s.n ≤ 1000000) ∧ (s.has.length ≤ 5 ∧ ∀ x ∈ s.has, I64 x) ∧ (s.said.length ≤ 1000 ∧ ∀ x ∈ s.said, I64 x) ∧ ∀ x, (flRow s x).length ≤ 1000 ∧ ∀ y ∈ flRow s x, I64 y
set_option maxRecDepth 100000 in
set_option maxHeartbeats 4000000 in
theorem flCheck_any {w0 w : World} {R : HProp} (p : Nat) (s : Fl) (who word : Int) (hok : flOk s) (h : Own w0 (FlP p s * R) w) :
    Calls Tryd.prog 80 #[.pointer (some ⟨p, 0, none⟩), .int .i64 who, .int .i64 word] w fun e w' => e = .returned (errV (flChk s who word)) ∧ w = w' := by
  obtain ⟨mb1, mb2, ha, hc, sa, sc, m, hm, ho⟩ := h.fl_open
  obtain ⟨c0, c1, _, _, _, _⟩ := ho.fl_facts
  have HRD : Hid (Ints w (.slice ha s.has.length hc) s.has) := Lib.hid (IntSl_reads hok.2.1.2 _ ho.fl_has)
  obtain ⟨E, hE⟩ : ∃ E, E = flChk s who word := ⟨_, rfl⟩
  rw [← hE]
  unfold flChk at hE
  clear hok
  have H := Lib.hid h; have HO := Lib.hid ho; have HM := Lib.hid hm
  clear h ho hm
  cases h1 : isMember who
  · rw [if_pos h1] at hE
    subst hE
    have H1 := Lib.hid h1
    clear h1
    go_enter Tryd.func80, Tryd.ntmps80
    go_wp2_with fail
    refine (member_any _ _).mono ?_
    rintro e w' ⟨rfl, rfl⟩
    rw [H1.out]
    go_wp2
    go_ret
    exact ⟨rfl, rfl⟩
  rw [if_neg (by rw [h1]; simp)] at hE
  cases h2 : isWord word
  · rw [if_pos h2] at hE
    subst hE
    have H1 := Lib.hid h1; have H2 := Lib.hid h2
    clear h1 h2
    go_enter Tryd.func80, Tryd.ntmps80
    go_wp2_with fail
    refine (member_any _ _).mono ?_
    rintro e w' ⟨rfl, rfl⟩
    rw [H1.out]
    go_wp2_with fail
    refine (word_any _ _).mono ?_
    rintro e w' ⟨rfl, rfl⟩
    rw [H2.out]
    go_wp2
    go_ret
    exact ⟨rfl, rfl⟩
  rw [if_neg (by rw [h2]; simp)] at hE
  obtain ⟨D, hD⟩ : ∃ D, D = decide (who ∈ s.has) := ⟨_, rfl⟩
  rw [← hD] at hE
  have H1 := Lib.hid h1; have H2 := Lib.hid h2; have HD := Lib.hid hD
  clear h1 h2 hD
  go_enter Tryd.func80, Tryd.ntmps80
  go_wp2_with fail
  refine (member_any _ _).mono ?_
  rintro e w' ⟨rfl, rfl⟩
  rw [H1.out]
  go_wp2_with fail
  refine (word_any _ _).mono ?_
  rintro e w' ⟨rfl, rfl⟩
  rw [H2.out]
  go_wp2_with fail
  refine (containsInt_any _ _ _ _ HRD.out).mono ?_
  rintro e w' ⟨rfl, rfl⟩
  rw [← HD.out]
  cases D
  · rw [if_pos rfl] at hE
    subst hE
    go_wp2
    go_ret
    exact ⟨rfl, rfl⟩
  · rw [if_neg (by simp)] at hE
    subst hE
    go_wp2
    go_ret
    exact ⟨rfl, rfl⟩
set_option maxRecDepth 100000 in
set_option maxHeartbeats 4000000 in
theorem flHas_q {w0 w : World} {R : HProp} {mb1 mb2 : Nat} {ha : Option Addr} {hc : Nat} {sa : Option Addr} {sc : Nat} (p : Nat) (s : Fl) (who word : Int) (hwho : I64 who) (hok : flOk s) (h : Own w0 (FlQ p mb1 mb2 ha hc sa sc s * R) w) :
    Calls Tryd.prog 83 #[.pointer (some ⟨p, 0, none⟩), .int .i64 who, .int .i64 word] w fun e w' => e = .returned (.bool (flHas s who word)) ∧ Own w0 (FlQ p mb1 mb2 ha hc sa sc s * R) w' := by
  obtain ⟨m, hm, ho⟩ := h.flq_open
  have hx : plOk (s.n, who) := ⟨by have := hok.1; unfold I64; omega, hwho⟩
  obtain ⟨c0, _, _, _, c4, _⟩ := ho.drew.fl_facts
  have hlk := ho.drew.fl_row (s.n, who) hx
  have hrd := ho.drew.fl_rd hm (s.n, who) (hok.2.2.2 _).2
  obtain ⟨V, hV⟩ : ∃ V, V = ((mget m (s.n, who)).getD nilRow).1 := ⟨_, rfl⟩
  obtain ⟨L, hL⟩ : ∃ L, L = flRow s (s.n, who) := ⟨_, rfl⟩
  obtain ⟨D, hD⟩ : ∃ D, D = flHas s who word := ⟨_, rfl⟩
  have hD2 : D = decide (word ∈ L) := by rw [hD, hL]; rfl
  rw [← hV] at hlk hrd
  rw [← hL] at hrd
  rw [← hD]
  simp only at hlk
  obtain ⟨ad, cap, hs, _, _⟩ := hrd.shape
  subst hs
  have HP : Hid (Own w0 (FlQ p mb1 mb2 ha hc sa sc s * R) w.drew) := Lib.hid h.drew
  clear h hD hok hwho hx
  have HO := Lib.hid ho; have HM := Lib.hid hm; have HRD := Lib.hid hrd; have HV := Lib.hid hV; have HL := Lib.hid hL; have HD2 := Lib.hid hD2
  clear ho hm hrd hV hL hD2
  go_enter Tryd.func83, Tryd.ntmps83
  go_upto_region 1 with fail
  refine wp_region_planH 14 [] [(true, 0), (true, 1), (true, 2), (true, 3), (true, 4), (true, 5), (true, 6), (true, 7), (true, 8), (true, 9), (true, 10), (true, 11), (true, 12), (false, 13)] [14] (fun wS => wS = w.drew) (by kernel_rfl) (by kernel_rfl) (rfl) ?_
  simp only [pickH, pick, List.getElem?_cons_succ, List.getElem?_cons_zero, Option.toList, Option.map_some, List.cons_append, List.nil_append]
  repeat (refine wpPure_step ?_ rfl ?_ ?_; rotate_left; (focus (intro _; first | with_reducible rfl | (go_simp; done) | (go_simp; with_reducible rfl) | rfl)); go_simp)
  refine wpPure_nil ?_
  repeat (refine wpMix_read ?_ rfl ?_ ?_; rotate_left; (focus (intro _ hS; obtain rfl := hS; first | with_reducible rfl | (go_simp; done) | (go_simp; with_reducible rfl) | rfl)); go_simp)
  refine wpMix_write (fun K hK => ?_)
  go_simp
  refine (containsInt_any _ _ _ _ HRD.out).mono ?_
  rintro e w' ⟨rfl, rfl⟩
  rw [← HD2.out]
  refine hK _ _ ⟨rfl, ?_⟩
  clear hK K
  go_simp
  refine wpMix_nil ?_
  go_wp2_with fail
  refine NoPanic.normal ?_
  go_wp2
  go_ret
  exact ⟨rfl, HP.out⟩
set_option maxRecDepth 100000 in
set_option maxHeartbeats 4000000 in
theorem flHear_q {w0 w : World} {R : HProp} {mb1 mb2 : Nat} {ha : Option Addr} {hc : Nat} {sa : Option Addr} {sc : Nat} (p : Nat) (s : Fl) (who word : Int) (hwho : I64 who) (hw : I64 word) (hok : flOk s) (h : Own w0 (FlQ p mb1 mb2 ha hc sa sc s * R) w) :
    Calls Tryd.prog 81 #[.pointer (some ⟨p, 0, none⟩), .int .i64 who, .int .i64 word] w fun e w' => e = .returned (.tuple #[]) ∧ Own w0 (FlQ p mb1 mb2 ha hc sa sc (flHear s who word) * R) w' := by
  obtain ⟨m, hm, ho⟩ := h.flq_open
  have hx : plOk (s.n, who) := ⟨by have := hok.1; unfold I64; omega, hwho⟩
  obtain ⟨b1, hb_b1⟩ : ∃ zz_, zz_ = (w).heap.size := ⟨_, rfl⟩
  obtain ⟨w1, hw_w1⟩ : ∃ zz_, zz_ = (w).alloc (.cells #[.int .i64 s.n, .int .i64 who] 151 (0, 0)) := ⟨_, rfl⟩
  have h_HO1 := (ho).alloc (.cells #[.int .i64 s.n, .int .i64 who] 151 (0, 0))
  rw [← hb_b1, ← hw_w1] at h_HO1
  have HO1 := Lib.hid h_HO1
  clear h_HO1
  obtain ⟨c0, _⟩ := ho.fl_facts
  have x0 : w1.cell? ⟨b1, 0, none⟩ = some (.int .i64 s.n) := (HO1.out.cell 0).trans rfl
  have x1 : w1.cell? ⟨b1, 1, none⟩ = some (.int .i64 who) := (HO1.out.cell 1).trans rfl
  obtain ⟨_, _, _, _, c4, _⟩ := HO1.out.drop.fl_facts
  obtain ⟨L, hL⟩ : ∃ L, L = flRow s (s.n, who) := ⟨_, rfl⟩
  obtain ⟨V, hV⟩ : ∃ V, V = ((mget m (s.n, who)).getD nilRow).1 := ⟨_, rfl⟩
  have HO1' : Hid (Own w0 (MpS plV plOk rowP Prod.fst mb2 m * (blk b1 (.cells #[.int .i64 s.n, .int .i64 who] 151 (0, 0)) * (flBlk p mb1 mb2 s.n (.slice ha s.has.length hc) (.slice sa s.said.length sc) * (IntSl (.slice ha s.has.length hc) s.has * (IntSl (.slice sa s.said.length sc) s.said * (IMp mb1 (setM s.all) * R)))))) w1) := Lib.hid (HO1.out.perm (by unfold FlO flBlk; ac_rfl))
  have HO2 := Lib.hid (HO1'.out.ms_take nilRow rowP_nil (s.n, who))
  have hlen : L.length ≤ 1000 := by rw [hL]; exact (hok.2.2.2 _).1
  clear h HO1
  have HO := Lib.hid ho; have HM := Lib.hid hm; have HX := Lib.hid hx; have HWHO := Lib.hid hwho; have HW := Lib.hid hw; have HOK := Lib.hid hok; have HLEN := Lib.hid hlen; have HV := Lib.hid hV; have HL := Lib.hid hL
  clear ho hm hx hwho hw hok hlen hV hL
  go_enter Tryd.func81, Tryd.ntmps81
  go_upto_region 1 with fail
  rw [← hb_b1, ← hw_w1]
  clear hb_b1 hw_w1
  refine wp_region_planH 11 [] [(true, 0), (true, 1), (true, 2), (true, 3), (true, 4), (true, 5), (false, 6), (false, 7), (true, 8), (true, 10), (false, 9)] [11] (fun wS => wS.cell? ⟨p, 4, none⟩ = some (.map (some mb2)) ∧ wS.cell? ⟨b1, 0, none⟩ = some (.int .i64 s.n) ∧ wS.cell? ⟨b1, 1, none⟩ = some (.int .i64 who)) (by kernel_rfl) (by kernel_rfl) (⟨c4, x0, x1⟩) ?_
  simp only [pickH, pick, List.getElem?_cons_succ, List.getElem?_cons_zero, Option.toList, Option.map_some, List.cons_append, List.nil_append]
  repeat (refine wpPure_step ?_ rfl ?_ ?_; rotate_left; (focus (intro _; first | with_reducible rfl | (go_simp; done) | (go_simp; with_reducible rfl) | rfl)); go_simp)
  refine wpPure_nil ?_
  repeat (refine wpMix_read ?_ rfl ?_ ?_; rotate_left; (focus (intro _ hS; obtain ⟨s1, s2, s3⟩ := hS; first | with_reducible rfl | (go_simp; done) | (go_simp; with_reducible rfl) | rfl)); go_simp)
  refine wpMix_write (fun K hK => ?_)
  go_simp
  obtain ⟨b2, hb_b2⟩ : ∃ zz_, zz_ = (w1).heap.size := ⟨_, rfl⟩
  obtain ⟨w2, hw_w2⟩ : ∃ zz_, zz_ = (w1).alloc (.cells #[.int .i64 word] 3 (0, 0)) := ⟨_, rfl⟩
  have h_HO3 := (HO2.out).alloc (.cells #[.int .i64 word] 3 (0, 0))
  rw [← hb_b2, ← hw_w2] at h_HO3
  have HO3 := Lib.hid h_HO3
  clear h_HO3
  rw [← hb_b2, ← hw_w2]
  clear hb_b2 hw_w2
  have c4' : w2.drew.cell? ⟨p, 4, none⟩ = some (.map (some mb2)) := (HO3.out.drew.drop.drop.drop.drop.drop.cell 4).trans rfl
  have x0' : w2.drew.cell? ⟨b1, 0, none⟩ = some (.int .i64 s.n) := (HO3.out.drew.drop.drop.drop.drop.cell 0).trans rfl
  have x1' : w2.drew.cell? ⟨b1, 1, none⟩ = some (.int .i64 who) := (HO3.out.drew.drop.drop.drop.drop.cell 1).trans rfl
  refine hK _ _ ⟨⟨c4', x0', x1'⟩, ?_⟩
  clear hK K
  go_simp
  clear c4' x0' x1' c4 x0 x1
  refine wpMix_write (fun K hK => ?_)
  refine step_open fplace_ke mapfl_kind ints_zero HO3.out.drew.third HX.out rfl _ _ rfl rfl rfl ?_
  intro w3 st ho3
  have hval := mget_val Prod.fst m (s.n, who) nilRow
  rw [show (nilRow).1 = Value.slice none 0 0 from rfl, ← HV.out] at hval
  rw [hval]
  clear hval
  have HO4 : Hid (Own w0 (IntSl V L * (IntSl (.slice (some ⟨b2, 0, none⟩) 1 1) [word] * (MpE plV plOk mb2 (mvals Prod.fst m) (s.n, who) st * (starL (fun p : FRow => rowP p.2) (mdel m (s.n, who)) * (blk b1 (.cells #[.int .i64 s.n, .int .i64 who] 151 (0, 0)) * (flBlk p mb1 mb2 s.n (.slice ha s.has.length hc) (.slice sa s.said.length sc) * (IntSl (.slice ha s.has.length hc) s.has * (IntSl (.slice sa s.said.length sc) s.said * (IMp mb1 (setM s.all) * R))))))))) w3) := Lib.hid (by
    have h4 : Own w0 (IntSl ((mget m (s.n, who)).getD nilRow).1 ((mget m (s.n, who)).getD nilRow).2 * _) w3 := ho3.third
    rw [flRow_of HM.out, ← HL.out, ← HV.out] at h4
    have h5 := h4.third
    exact (Own.litI [word] 1 rfl (by omega) h5).second)
  clear ho3
  have c4' : w3.cell? ⟨p, 4, none⟩ = some (.map (some mb2)) := (HO4.out.drop.drop.drop.drop.drop.cell 4).trans rfl
  have x0' : w3.cell? ⟨b1, 0, none⟩ = some (.int .i64 s.n) := (HO4.out.drop.drop.drop.drop.cell 0).trans rfl
  have x1' : w3.cell? ⟨b1, 1, none⟩ = some (.int .i64 who) := (HO4.out.drop.drop.drop.drop.cell 1).trans rfl
  refine hK _ _ ⟨⟨c4', x0', x1'⟩, ?_⟩
  clear hK K
  go_simp
  clear c4' x0' x1'
  repeat (refine wpMix_read ?_ rfl ?_ ?_; rotate_left; (focus (intro _ hS; obtain ⟨s1, s2, s3⟩ := hS; first | with_reducible rfl | (go_simp; done) | (go_simp; with_reducible rfl) | rfl)); go_simp)
  refine wpMix_write (fun K hK => ?_)
  refine step_app rfl _ _ 43 rfl 3 1 8 _ int_info Tryd.underlying43 rfl (by decide) (by rfl) HO4.out (by rfl) (by rfl) (Own.rd HO4.out.drop) (int_one _) (by have := HLEN.out; unfold maxLen; rw [List.length_singleton]; omega) (by have := HLEN.out; rw [List.length_singleton]; omega) ?_
  intro v5 w5 ho5
  have HO5 : Hid (Own w0 (MpE plV plOk mb2 (mvals Prod.fst m) (s.n, who) st * (IntSl v5 (L ++ [word]) * (starL (fun p : FRow => rowP p.2) (mdel m (s.n, who)) * (IntSl (.slice (some ⟨b2, 0, none⟩) 1 1) [word] * (blk b1 (.cells #[.int .i64 s.n, .int .i64 who] 151 (0, 0)) * (flBlk p mb1 mb2 s.n (.slice ha s.has.length hc) (.slice sa s.said.length sc) * (IntSl (.slice ha s.has.length hc) s.has * (IntSl (.slice sa s.said.length sc) s.said * (IMp mb1 (setM s.all) * R))))))))) w5) := Lib.hid (by
    have h5 : Own w0 (IntSl v5 (L ++ [word]) * _) w5 := ho5.perm (show _ = IntSl v5 (L ++ [word]) * _ by unfold IntSl; rw [List.length_append, List.map_append])
    exact h5.perm (by unfold IntSl; ac_rfl))
  clear ho5
  have c4' : w5.cell? ⟨p, 4, none⟩ = some (.map (some mb2)) := (HO5.out.drop.drop.drop.drop.drop.cell 4).trans rfl
  have x0' : w5.cell? ⟨b1, 0, none⟩ = some (.int .i64 s.n) := (HO5.out.drop.drop.drop.drop.cell 0).trans rfl
  have x1' : w5.cell? ⟨b1, 1, none⟩ = some (.int .i64 who) := (HO5.out.drop.drop.drop.drop.cell 1).trans rfl
  refine hK _ _ ⟨⟨c4', x0', x1'⟩, ?_⟩
  clear hK K
  go_simp
  clear c4' x0' x1'
  refine wpMix_nil ?_
  go_wp2_with (refine wpList_fill HO5.out rfl _ _ _ rfl rfl rfl rfl ?_; intro w6 ho6; have HO6 := Lib.hid ho6; clear ho6)
  refine NoPanic.normal ?_
  go_wp2
  refine bodyPost_end (results_none rfl _ _ _) rfl ⟨rfl, ?_⟩
  have h7 := (HO6.out.second.perm (show _ = rowP (v5, L ++ [word]) * _ from rfl)).ms_put (f := rowP) (val := Prod.fst) (s.n, who)
  have h8 := h7.second.drop.second.drop
  refine Own.flq_close (m := mput m (s.n, who) (v5, L ++ [word])) ?_ (h8.perm (by unfold FlO flHear flBlk; ac_rfl))
  rw [← mput_mvals, HM.out, HL.out]; rfl
set_option maxRecDepth 100000 in
set_option maxHeartbeats 4000000 in
theorem flHas_any {w0 w : World} {R : HProp} (p : Nat) (s : Fl) (who word : Int) (hwho : I64 who) (hok : flOk s) (h : Own w0 (FlP p s * R) w) :
    Calls Tryd.prog 83 #[.pointer (some ⟨p, 0, none⟩), .int .i64 who, .int .i64 word] w fun e w' => e = .returned (.bool (flHas s who word)) ∧ Own w0 (FlP p s * R) w' := by
  obtain ⟨mb1, mb2, ha, hc, sa, sc, ho⟩ := h.fl_open_q
  exact (flHas_q p s who word hwho hok ho).mono fun e w' ⟨h1, h2⟩ => ⟨h1, h2.flq_p⟩
set_option maxRecDepth 100000 in
set_option maxHeartbeats 4000000 in
theorem flHear_any {w0 w : World} {R : HProp} (p : Nat) (s : Fl) (who word : Int) (hwho : I64 who) (hw : I64 word) (hok : flOk s) (h : Own w0 (FlP p s * R) w) :
    Calls Tryd.prog 81 #[.pointer (some ⟨p, 0, none⟩), .int .i64 who, .int .i64 word] w fun e w' => e = .returned (.tuple #[]) ∧ Own w0 (FlP p (flHear s who word) * R) w' := by
  obtain ⟨mb1, mb2, ha, hc, sa, sc, ho⟩ := h.fl_open_q
  exact (flHear_q p s who word hwho hw hok ho).mono fun e w' ⟨h1, h2⟩ => ⟨h1, h2.flq_p⟩
end Go.Proofs.YtdeeephdojflpaaDoor
