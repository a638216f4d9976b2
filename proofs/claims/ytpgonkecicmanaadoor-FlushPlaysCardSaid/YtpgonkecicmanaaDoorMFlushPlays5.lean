/- Contracts of package flush: a group that flushes, as plain data. -/
import Derived.Test.YtpgonkecicmanaaDoorMFlushPlays2
import Derived.Test.YtpgonkecicmanaaDoorMFlushPlays3
import Derived.Test.YtpgonkecicmanaaDoorMFlushPlays4
import Derived.Deep.DeepCutAuto
import Derived.Deep.CutBlock
import Derived.Lib.SliceRun
namespace Go.Proofs.YtpgonkecicmanaaDoor
set_option linter.unusedVariables false
set_option linter.unusedSimpArgs false
open Go.RowKit Go.Maps
theorem fplace_lits (n : Nat) (a b : Int) (ha : I64 a) (hb : I64 b) : Tryd.prog.keyLits (n + 2) 166 [.int .i64 a, .int .i64 b] = some [.int .i64 a, .int .i64 b] := by
  have h1 : Tryd.prog.cellsOf 166 = 2 := by kernel_rfl
  have h2 : Tryd.prog.cellsOf 3 = 1 := by kernel_rfl
  simp [Program.keyLits, Tryd.underlying166, Tryd.underlying3, h1, h2, I64_wf ha, I64_wf hb]
theorem fplace_ke : KE Tryd.prog 166 plV plOk where
  keyed := Keyed.of_law (deep_law (m := 2) (by omega) (by kernel_rfl) (by kernel_rfl) (by rw [Tryd.underlying166]))
  has := fun x hx => by
    have h1 : Tryd.prog.cellsOf 166 = 2 := by kernel_rfl
    have h2 : Tryd.prog.keyType 166 = true := by kernel_rfl
    have h3 : 0 < Tryd.prog.types.size := of_decide_eq_true (by kernel_rfl)
    obtain ⟨m, hm⟩ := Nat.exists_eq_succ_of_ne_zero (Nat.ne_of_gt h3)
    refine ⟨.string (keyBytes [.int .i64 x.1, .int .i64 x.2]), ?_⟩
    unfold keyOf
    rw [Tryd.underlying166]
    simp [h2, hm, plV, Value.formed, Tryd.underlying166, h1, Value.cells, fplace_lits m _ _ hx.1 hx.2]
  inj := fun x y h => by
    unfold plV at h
    simp at h
    exact Prod.ext h.1 h.2
structure Fl where
  n : Int
  has : List Int
  all : List Int
  said : List Int
  heard : List ((Int × Int) × List Int)
theorem mapfl_made : ∀ w, (Instr.makeMap 158 none).run Tryd.prog w = .ok (.map (some w.heap.size)) (w.alloc (.map #[] 0)) := fun _ => by kernel_rfl
theorem mapfl_kind : Tryd.prog.underlying 158 = some (.map 166 38) := by kernel_rfl
abbrev FRow := (Int × Int) × (Value × List Int)
def FlO (p mb1 mb2 : Nat) (hv sv : Value) (m : List FRow) (s : Fl) : HProp :=
  blk p (.cells #[.int .i64 s.n, hv, .map (some mb1), sv, .map (some mb2)] 160 (0, 0)) * (IntSl hv s.has * (IntSl sv s.said * (IMp mb1 (setM s.all) * MpS plV plOk rowP Prod.fst mb2 m)))
def FlP (p : Nat) (s : Fl) : HProp := hex fun (x : (Nat × Nat × Value × Value) × List FRow) => pur (mvals Prod.snd x.2 = s.heard) * FlO p x.1.1 x.1.2.1 x.1.2.2.1 x.1.2.2.2 x.2 s
/-- A flush whose slices lie at known places. -/
def FlQ (p mb1 mb2 : Nat) (ha : Option Addr) (hc : Nat) (sa : Option Addr) (sc : Nat) (s : Fl) : HProp := hex fun m : List FRow => pur (mvals Prod.snd m = s.heard) * FlO p mb1 mb2 (.slice ha s.has.length hc) (.slice sa s.said.length sc) m s
theorem Own.flq_open {w0 w : World} {p mb1 mb2 : Nat} {ha : Option Addr} {hc : Nat} {sa : Option Addr} {sc : Nat} {s : Fl} {R : HProp} (h : Own w0 (FlQ p mb1 mb2 ha hc sa sc s * R) w) : ∃ m, mvals Prod.snd m = s.heard ∧ Own w0 (FlO p mb1 mb2 (.slice ha s.has.length hc) (.slice sa s.said.length sc) m s * R) w := by
  obtain ⟨m, h⟩ := Own.ex h
  rw [star_assoc] at h
  obtain ⟨he, h⟩ := Own.pur_out h
  exact ⟨m, he, h⟩
theorem Own.flq_close {w0 w : World} {p mb1 mb2 : Nat} {ha : Option Addr} {hc : Nat} {sa : Option Addr} {sc : Nat} {m : List FRow} {s : Fl} {R : HProp} (he : mvals Prod.snd m = s.heard) (h : Own w0 (FlO p mb1 mb2 (.slice ha s.has.length hc) (.slice sa s.said.length sc) m s * R) w) : Own w0 (FlQ p mb1 mb2 ha hc sa sc s * R) w := by
  refine Own.ex_mk m ?_
  rw [star_assoc]
  exact Own.pur_mk he h
theorem Own.fl_open {w0 w : World} {p : Nat} {s : Fl} {R : HProp} (h : Own w0 (FlP p s * R) w) : ∃ mb1 mb2 ha hc sa sc m, mvals Prod.snd m = s.heard ∧ Own w0 (FlO p mb1 mb2 (.slice ha s.has.length hc) (.slice sa s.said.length sc) m s * R) w := by
  obtain ⟨⟨⟨mb1, mb2, hv, sv⟩, m⟩, h⟩ := Own.ex h
  rw [star_assoc] at h
  obtain ⟨he, h⟩ := Own.pur_out h
  obtain ⟨ha, hc, h1⟩ := (h.perm (show _ = IntSl hv s.has * (blk p (.cells #[.int .i64 s.n, hv, .map (some mb1), sv, .map (some mb2)] 160 (0, 0)) * (IntSl sv s.said * (IMp mb1 (setM s.all) * MpS plV plOk rowP Prod.fst mb2 m) * R)) by unfold FlO; ac_rfl)).int_shape
  obtain ⟨sa, sc, h2⟩ := (h.perm (show _ = IntSl sv s.said * (blk p (.cells #[.int .i64 s.n, hv, .map (some mb1), sv, .map (some mb2)] 160 (0, 0)) * (IntSl hv s.has * (IMp mb1 (setM s.all) * MpS plV plOk rowP Prod.fst mb2 m) * R)) by unfold FlO; ac_rfl)).int_shape
  subst h1; subst h2
  exact ⟨mb1, mb2, ha, hc, sa, sc, m, he, h⟩
theorem Own.fl_close {w0 w : World} {p mb1 mb2 : Nat} {hv sv : Value} {m : List FRow} {s : Fl} {R : HProp} (he : mvals Prod.snd m = s.heard) (h : Own w0 (FlO p mb1 mb2 hv sv m s * R) w) : Own w0 (FlP p s * R) w := by
  refine Own.ex_mk ((mb1, mb2, hv, sv), m) ?_
  rw [star_assoc]
  exact Own.pur_mk he h
theorem Own.fl_open_q {w0 w : World} {p : Nat} {s : Fl} {R : HProp} (h : Own w0 (FlP p s * R) w) : ∃ mb1 mb2 ha hc sa sc, Own w0 (FlQ p mb1 mb2 ha hc sa sc s * R) w := by
  obtain ⟨mb1, mb2, ha, hc, sa, sc, m, he, ho⟩ := h.fl_open
  exact ⟨mb1, mb2, ha, hc, sa, sc, ho.flq_close he⟩
theorem Own.flq_p {w0 w : World} {p mb1 mb2 : Nat} {ha : Option Addr} {hc : Nat} {sa : Option Addr} {sc : Nat} {s : Fl} {R : HProp} (h : Own w0 (FlQ p mb1 mb2 ha hc sa sc s * R) w) : Own w0 (FlP p s * R) w := by
  obtain ⟨m, he, ho⟩ := h.flq_open
  exact Own.fl_close he ho
section
variable {w0 w : World} {p mb1 mb2 : Nat} {hv sv : Value} {m : List FRow} {s : Fl} {R : HProp}
abbrev flBlk (p mb1 mb2 : Nat) (n : Int) (hv sv : Value) : HProp := blk p (.cells #[.int .i64 n, hv, .map (some mb1), sv, .map (some mb2)] 160 (0, 0))
theorem Own.fl_blk (h : Own w0 (FlO p mb1 mb2 hv sv m s * R) w) : Own w0 (flBlk p mb1 mb2 s.n hv sv * (IntSl hv s.has * (IntSl sv s.said * (IMp mb1 (setM s.all) * (MpS plV plOk rowP Prod.fst mb2 m * R))))) w := h.perm (by unfold FlO; ac_rfl)
theorem Own.fl_has (h : Own w0 (FlO p mb1 mb2 hv sv m s * R) w) : Own w0 (IntSl hv s.has * (flBlk p mb1 mb2 s.n hv sv * (IntSl sv s.said * (IMp mb1 (setM s.all) * (MpS plV plOk rowP Prod.fst mb2 m * R))))) w := h.perm (by unfold FlO; ac_rfl)
theorem Own.fl_said (h : Own w0 (FlO p mb1 mb2 hv sv m s * R) w) : Own w0 (IntSl sv s.said * (flBlk p mb1 mb2 s.n hv sv * (IntSl hv s.has * (IMp mb1 (setM s.all) * (MpS plV plOk rowP Prod.fst mb2 m * R))))) w := h.perm (by unfold FlO; ac_rfl)
theorem Own.fl_all (h : Own w0 (FlO p mb1 mb2 hv sv m s * R) w) : Own w0 (IMp mb1 (setM s.all) * (flBlk p mb1 mb2 s.n hv sv * (IntSl hv s.has * (IntSl sv s.said * (MpS plV plOk rowP Prod.fst mb2 m * R))))) w := h.perm (by unfold FlO; ac_rfl)
theorem Own.fl_map (h : Own w0 (FlO p mb1 mb2 hv sv m s * R) w) : Own w0 (MpS plV plOk rowP Prod.fst mb2 m * (flBlk p mb1 mb2 s.n hv sv * (IntSl hv s.has * (IntSl sv s.said * (IMp mb1 (setM s.all) * R))))) w := h.perm (by unfold FlO; ac_rfl)
theorem Own.fl_facts (h : Own w0 (FlO p mb1 mb2 hv sv m s * R) w) :
    w.cell? ⟨p, 0, none⟩ = some (.int .i64 s.n) ∧ w.cell? ⟨p, 1, none⟩ = some hv ∧ w.cell? ⟨p, 2, none⟩ = some (.map (some mb1)) ∧ w.cell? ⟨p, 3, none⟩ = some sv ∧ w.cell? ⟨p, 4, none⟩ = some (.map (some mb2)) ∧ (∀ i t, w.frozen? ⟨p, i, t⟩ = false) :=
  ⟨(h.fl_blk.cell 0).trans rfl, (h.fl_blk.cell 1).trans rfl, (h.fl_blk.cell 2).trans rfl, (h.fl_blk.cell 3).trans rfl, (h.fl_blk.cell 4).trans rfl, fun i t => h.fl_blk.free i t⟩
/-- What the map of rows gives at a place. -/
theorem Own.fl_row (h : Own w0 (FlO p mb1 mb2 hv sv m s * R) w) (x : Int × Int) (hx : plOk x) :
    (Instr.lookup 158 (.map (some mb2)) (.agg #[.int .i64 x.1, .int .i64 x.2]) false).run Tryd.prog w = .ok ((mget m x).getD nilRow).1 w := by
  have h1 := (h.fl_map.ms_take nilRow rowP_nil x).drop.map_look fplace_ke mapfl_kind ints_zero hx false
  rw [if_neg (by decide)] at h1
  have h2 := mget_val Prod.fst m x nilRow
  rw [show (nilRow).1 = Value.slice none 0 0 from rfl] at h2
  rw [h2] at h1
  exact h1
theorem Own.fl_look (h : Own w0 (FlO p mb1 mb2 hv sv m s * R) w) (x : Int) (hx : I64 x) :
    (Instr.lookup 133 (.map (some mb1)) (.int .i64 x) false).run Tryd.prog w = .ok (.bool (decide (x ∈ s.all))) w := by
  have h1 := h.fl_all.map_look (int_ke int_kind) mapint_kind bool_zero hx false
  rw [mget_setM, if_neg (by decide)] at h1
  exact h1
end
def flRow (s : Fl) (x : Int × Int) : List Int := (mget s.heard x).getD []
theorem flRow_of {s : Fl} {m : List FRow} (he : mvals Prod.snd m = s.heard) (x : Int × Int) : ((mget m x).getD nilRow).2 = flRow s x := by
  unfold flRow; rw [← he, mget_mvals]; cases mget m x <;> rfl
theorem Own.fl_rd {w0 w : World} {p mb1 mb2 : Nat} {hv sv : Value} {m : List FRow} {s : Fl} {R : HProp} (he : mvals Prod.snd m = s.heard) (h : Own w0 (FlO p mb1 mb2 hv sv m s * R) w) (x : Int × Int) (hI : ∀ y ∈ flRow s x, I64 y) : Ints w ((mget m x).getD nilRow).1 (flRow s x) := by
  have h1 := h.fl_map.ms_take nilRow rowP_nil x
  have h2 : Own w0 (IntSl ((mget m x).getD nilRow).1 ((mget m x).getD nilRow).2 * _) w := h1
  rw [flRow_of he] at h2
  exact IntSl_reads hI _ h2
def flChk (s : Fl) (who word : Int) : Nat := if isMember who = false then 1 else if isWord word = false then 1 else if decide (who ∈ s.has) = false then 8 else 0
def flHear (s : Fl) (who word : Int) : Fl := { s with heard := mput s.heard (s.n, who) (flRow s (s.n, who) ++ [word]) }
def flHas (s : Fl) (who word : Int) : Bool := decide (word ∈ flRow s (s.n, who))
def flOk (s : Fl) : Prop := (0 ≤ s.n ∧ s.n ≤ 1000000) ∧ (s.has.length ≤ 5 ∧ ∀ x ∈ s.has, I64 x) ∧ (s.said.length ≤ 1000 ∧ ∀ x ∈ s.said, I64 x) ∧ ∀ x, (flRow s x).length ≤ 1000 ∧ ∀ y ∈ flRow s x, I64 y
set_option maxRecDepth 100000 in
set_option maxHeartbeats 4000000 in
theorem flCheck_any {w0 w : World} {R : HProp} (p : Nat) (s : Fl) (who word : Int) (hok : flOk s) (h : Own w0 (FlP p s * R) w) :
    Calls Tryd.prog 82 #[.pointer (some ⟨p, 0, none⟩), .int .i64 who, .int .i64 word] w fun e w' => e = .returned (errV (flChk s who word)) ∧ w = w' := by
  obtain ⟨mb1, mb2, ha, hc, sa, sc, m, hm, ho⟩ := h.fl_open
  obtain ⟨c0, c1, _, _, _, _⟩ := ho.fl_facts
  have HRD : Hid (Ints w (.slice ha s.has.length hc) s.has) := Lib.hid (IntSl_reads hok.2.1.2 _ ho.fl_has)
  obtain ⟨E, hE⟩ : ∃ E, E = flChk s who word := ⟨_, rfl⟩
  rw [← hE]
  unfold flChk at hE
  clear hok
  have H := Lib.hid h; have HO := Lib.hid ho; have HM := Lib.hid hm
  clear h ho hm
  cases h1 : isMember who
  · rw [if_pos h1] at hE
    subst hE
    have H1 := Lib.hid h1
    clear h1
    go_enter Tryd.func82, Tryd.ntmps82
    go_wp2_with fail
    refine (member_any _ _).mono ?_
    rintro e w' ⟨rfl, rfl⟩
    rw [H1.out]
    go_wp2
    go_ret
    exact ⟨rfl, rfl⟩
  rw [if_neg (by rw [h1]; simp)] at hE
  cases h2 : isWord word
  · rw [if_pos h2] at hE
    subst hE
    have H1 := Lib.hid h1; have H2 := Lib.hid h2
    clear h1 h2
    go_enter Tryd.func82, Tryd.ntmps82
    go_wp2_with fail
    refine (member_any _ _).mono ?_
    rintro e w' ⟨rfl, rfl⟩
    rw [H1.out]
    go_wp2_with fail
    refine (word_any _ _).mono ?_
    rintro e w' ⟨rfl, rfl⟩
    rw [H2.out]
    go_wp2
    go_ret
    exact ⟨rfl, rfl⟩
  rw [if_neg (by rw [h2]; simp)] at hE
  obtain ⟨D, hD⟩ : ∃ D, D = decide (who ∈ s.has) := ⟨_, rfl⟩
  rw [← hD] at hE
  have H1 := Lib.hid h1; have H2 := Lib.hid h2; have HD := Lib.hid hD
  clear h1 h2 hD
  go_enter Tryd.func82, Tryd.ntmps82
  go_wp2_with fail
  refine (member_any _ _).mono ?_
  rintro e w' ⟨rfl, rfl⟩
  rw [H1.out]
  go_wp2_with fail
  refine (word_any _ _).mono ?_
  rintro e w' ⟨rfl, rfl⟩
  rw [H2.out]
  go_wp2_with fail
  refine (containsInt_any _ _ _ _ HRD.out).mono ?_
  rintro e w' ⟨rfl, rfl⟩
  rw [← HD.out]
  cases D
  · rw [if_pos rfl] at hE
    subst hE
    go_wp2
    go_ret
    exact ⟨rfl, rfl⟩
  · rw [if_neg (by simp)] at hE
    subst hE
    go_wp2
    go_ret
    exact ⟨rfl, rfl⟩
set_option maxRecDepth 100000 in
set_option maxHeartbeats 4000000 in
theorem flHas_q {w0 w : World} {R : HProp} {mb1 mb2 : Nat} {ha : Option Addr} {hc : Nat} {sa : Option Addr} {sc : Nat} (p : Nat) (s : Fl) (who word : Int) (hwho : I64 who) (hok : flOk s) (h : Own w0 (FlQ p mb1 mb2 ha hc sa sc s * R) w) :
    Calls Tryd.prog 84 #[.pointer (some ⟨p, 0, none⟩), .int .i64 who, .int .i64 word] w fun e w' => e = .returned (.bool (flHas s who word)) ∧ Own w0 (FlQ p mb1 mb2 ha hc sa sc s * R) w' := by
  obtain ⟨m, hm, ho⟩ := h.flq_open
  have hx : plOk (s.n, who) := ⟨by have := hok.1; unfold I64; omega, hwho⟩
  obtain ⟨c0, _, _, _, c4, _⟩ := ho.drew.fl_facts
  have hlk := ho.drew.fl_row (s.n, who) hx
  have hrd := ho.drew.fl_rd hm (s.n, who) (hok.2.2.2 _).2
  obtain ⟨V, hV⟩ : ∃ V, V = ((mget m (s.n, who)).getD nilRow).1 := ⟨_, rfl⟩
  obtain ⟨L, hL⟩ : ∃ L, L = flRow s (s.n, who) := ⟨_, rfl⟩
  obtain ⟨D, hD⟩ : ∃ D, D = flHas s who word := ⟨_, rfl⟩
  have hD2 : D = decide (word ∈ L) := by rw [hD, hL]; rfl
  rw [← hV] at hlk hrd
  rw [← hL] at hrd
  rw [← hD]
  simp only at hlk
  obtain ⟨ad, cap, hs, _, _⟩ := hrd.shape
  subst hs
  have HP : Hid (Own w0 (FlQ p mb1 mb2 ha hc sa sc s * R) w.drew) := Lib.hid h.drew
  clear h hD hok hwho hx
  have HO := Lib.hid ho; have HM := Lib.hid hm; have HRD := Lib.hid hrd; have HV := Lib.hid hV; have HL := Lib.hid hL; have HD2 := Lib.hid hD2
  clear ho hm hrd hV hL hD2
  go_enter Tryd.func84, Tryd.ntmps84
  go_upto_region 1 with fail
  refine wp_region_planH 14 [] [(true, 0), (true, 1), (true, 2), (true, 3), (true, 4), (true, 5), (true, 6), (true, 7), (true, 8), (true, 9), (true, 10), (true, 11), (true, 12), (false, 13)] [14] (fun wS => wS = w.drew) (by kernel_rfl) (by kernel_rfl) (rfl) ?_
  simp only [pickH, pick, List.getElem?_cons_succ, List.getElem?_cons_zero, Option.toList, Option.map_some, List.cons_append, List.nil_append]
  repeat (refine wpPure_step ?_ rfl ?_ ?_; rotate_left; (focus (intro _; first | with_reducible rfl | (go_simp; done) | (go_simp; with_reducible rfl) | rfl)); go_simp)
  refine wpPure_nil ?_
  repeat (refine wpMix_read ?_ rfl ?_ ?_; rotate_left; (focus (intro _ hS; obtain rfl := hS; first | with_reducible rfl | (go_simp; done) | (go_simp; with_reducible rfl) | rfl)); go_simp)
  refine wpMix_write (fun K hK => ?_)
  go_simp
  refine (containsInt_any _ _ _ _ HRD.out).mono ?_
  rintro e w' ⟨rfl, rfl⟩
  rw [← HD2.out]
  refine hK _ _ ⟨rfl, ?_⟩
  clear hK K
  go_simp
  refine wpMix_nil ?_
  go_wp2_with fail
  refine NoPanic.normal ?_
  go_wp2
  go_ret
  exact ⟨rfl, HP.out⟩
set_option maxRecDepth 100000 in
set_option maxHeartbeats 4000000 in
theorem flHear_q {w0 w : World} {R : HProp} {mb1 mb2 : Nat} {ha : Option Addr} {hc : Nat} {sa : Option Addr} {sc : Nat} (p : Nat) (s : Fl) (who word : Int) (hwho : I64 who) (hw : I64 word) (hok : flOk s) (h : Own w0 (FlQ p mb1 mb2 ha hc sa sc s * R) w) :
    Calls Tryd.prog 83 #[.pointer (some ⟨p, 0, none⟩), .int .i64 who, .int .i64 word] w fun e w' => e = .returned (.tuple #[]) ∧ Own w0 (FlQ p mb1 mb2 ha hc sa sc (flHear s who word) * R) w' := by
  obtain ⟨m, hm, ho⟩ := h.flq_open
  have hx : plOk (s.n, who) := ⟨by have := hok.1; unfold I64; omega, hwho⟩
  obtain ⟨b1, hb_b1⟩ : ∃ zz_, zz_ = (w).heap.size := ⟨_, rfl⟩
  obtain ⟨w1, hw_w1⟩ : ∃ zz_, zz_ = (w).alloc (.cells #[.int .i64 s.n, .int .i64 who] 166 (0, 0)) := ⟨_, rfl⟩
  have h_HO1 := (ho).alloc (.cells #[.int .i64 s.n, .int .i64 who] 166 (0, 0))
  rw [← hb_b1, ← hw_w1] at h_HO1
  have HO1 := Lib.hid h_HO1
  clear h_HO1
  obtain ⟨c0, _⟩ := ho.fl_facts
  have x0 : w1.cell? ⟨b1, 0, none⟩ = some (.int .i64 s.n) := (HO1.out.cell 0).trans rfl
  have x1 : w1.cell? ⟨b1, 1, none⟩ = some (.int .i64 who) := (HO1.out.cell 1).trans rfl
  obtain ⟨_, _, _, _, c4, _⟩ := HO1.out.drop.fl_facts
  obtain ⟨L, hL⟩ : ∃ L, L = flRow s (s.n, who) := ⟨_, rfl⟩
  obtain ⟨V, hV⟩ : ∃ V, V = ((mget m (s.n, who)).getD nilRow).1 := ⟨_, rfl⟩
  have HO1' : Hid (Own w0 (MpS plV plOk rowP Prod.fst mb2 m * (blk b1 (.cells #[.int .i64 s.n, .int .i64 who] 166 (0, 0)) * (flBlk p mb1 mb2 s.n (.slice ha s.has.length hc) (.slice sa s.said.length sc) * (IntSl (.slice ha s.has.length hc) s.has * (IntSl (.slice sa s.said.length sc) s.said * (IMp mb1 (setM s.all) * R)))))) w1) := Lib.hid (HO1.out.perm (by unfold FlO flBlk; ac_rfl))
  have HO2 := Lib.hid (HO1'.out.ms_take nilRow rowP_nil (s.n, who))
  have hlen : L.length ≤ 1000 := by rw [hL]; exact (hok.2.2.2 _).1
  clear h HO1
  have HO := Lib.hid ho; have HM := Lib.hid hm; have HX := Lib.hid hx; have HWHO := Lib.hid hwho; have HW := Lib.hid hw; have HOK := Lib.hid hok; have HLEN := Lib.hid hlen; have HV := Lib.hid hV; have HL := Lib.hid hL
  clear ho hm hx hwho hw hok hlen hV hL
  go_enter Tryd.func83, Tryd.ntmps83
  go_upto_region 1 with fail
  rw [← hb_b1, ← hw_w1]
  clear hb_b1 hw_w1
  refine wp_region_planH 11 [] [(true, 0), (true, 1), (true, 2), (true, 3), (true, 4), (true, 5), (false, 6), (false, 7), (true, 8), (true, 10), (false, 9)] [11] (fun wS => wS.cell? ⟨p, 4, none⟩ = some (.map (some mb2)) ∧ wS.cell? ⟨b1, 0, none⟩ = some (.int .i64 s.n) ∧ wS.cell? ⟨b1, 1, none⟩ = some (.int .i64 who)) (by kernel_rfl) (by kernel_rfl) (⟨c4, x0, x1⟩) ?_
  simp only [pickH, pick, List.getElem?_cons_succ, List.getElem?_cons_zero, Option.toList, Option.map_some, List.cons_append, List.nil_append]
  repeat (refine wpPure_step ?_ rfl ?_ ?_; rotate_left; (focus (intro _; first | with_reducible rfl | (go_simp; done) | (go_simp; with_reducible rfl) | rfl)); go_simp)
  refine wpPure_nil ?_
  repeat (refine wpMix_read ?_ rfl ?_ ?_; rotate_left; (focus (intro _ hS; obtain ⟨s1, s2, s3⟩ := hS; first | with_reducible rfl | (go_simp; done) | (go_simp; with_reducible rfl) | rfl)); go_simp)
  refine wpMix_write (fun K hK => ?_)
  go_simp
  obtain ⟨b2, hb_b2⟩ : ∃ zz_, zz_ = (w1).heap.size := ⟨_, rfl⟩
  obtain ⟨w2, hw_w2⟩ : ∃ zz_, zz_ = (w1).alloc (.cells #[.int .i64 word] 3 (0, 0)) := ⟨_, rfl⟩
  have h_HO3 := (HO2.out).alloc (.cells #[.int .i64 word] 3 (0, 0))
  rw [← hb_b2, ← hw_w2] at h_HO3
  have HO3 := Lib.hid h_HO3
  clear h_HO3
  rw [← hb_b2, ← hw_w2]
  clear hb_b2 hw_w2
  have c4' : w2.drew.cell? ⟨p, 4, none⟩ = some (.map (some mb2)) := (HO3.out.drew.drop.drop.drop.drop.drop.cell 4).trans rfl
  have x0' : w2.drew.cell? ⟨b1, 0, none⟩ = some (.int .i64 s.n) := (HO3.out.drew.drop.drop.drop.drop.cell 0).trans rfl
  have x1' : w2.drew.cell? ⟨b1, 1, none⟩ = some (.int .i64 who) := (HO3.out.drew.drop.drop.drop.drop.cell 1).trans rfl
  refine hK _ _ ⟨⟨c4', x0', x1'⟩, ?_⟩
  clear hK K
  go_simp
  clear c4' x0' x1' c4 x0 x1
  refine wpMix_write (fun K hK => ?_)
  refine step_open fplace_ke mapfl_kind ints_zero HO3.out.drew.third HX.out rfl _ _ rfl rfl rfl ?_
  intro w3 st ho3
  have hval := mget_val Prod.fst m (s.n, who) nilRow
  rw [show (nilRow).1 = Value.slice none 0 0 from rfl, ← HV.out] at hval
  rw [hval]
  clear hval
  have HO4 : Hid (Own w0 (IntSl V L * (IntSl (.slice (some ⟨b2, 0, none⟩) 1 1) [word] * (MpE plV plOk mb2 (mvals Prod.fst m) (s.n, who) st * (starL (fun p : FRow => rowP p.2) (mdel m (s.n, who)) * (blk b1 (.cells #[.int .i64 s.n, .int .i64 who] 166 (0, 0)) * (flBlk p mb1 mb2 s.n (.slice ha s.has.length hc) (.slice sa s.said.length sc) * (IntSl (.slice ha s.has.length hc) s.has * (IntSl (.slice sa s.said.length sc) s.said * (IMp mb1 (setM s.all) * R))))))))) w3) := Lib.hid (by
    have h4 : Own w0 (IntSl ((mget m (s.n, who)).getD nilRow).1 ((mget m (s.n, who)).getD nilRow).2 * _) w3 := ho3.third
    rw [flRow_of HM.out, ← HL.out, ← HV.out] at h4
    have h5 := h4.third
    exact (Own.litI [word] 1 rfl (by omega) h5).second)
  clear ho3
  have c4' : w3.cell? ⟨p, 4, none⟩ = some (.map (some mb2)) := (HO4.out.drop.drop.drop.drop.drop.cell 4).trans rfl
  have x0' : w3.cell? ⟨b1, 0, none⟩ = some (.int .i64 s.n) := (HO4.out.drop.drop.drop.drop.cell 0).trans rfl
  have x1' : w3.cell? ⟨b1, 1, none⟩ = some (.int .i64 who) := (HO4.out.drop.drop.drop.drop.cell 1).trans rfl
  refine hK _ _ ⟨⟨c4', x0', x1'⟩, ?_⟩
  clear hK K
  go_simp
  clear c4' x0' x1'
  repeat (refine wpMix_read ?_ rfl ?_ ?_; rotate_left; (focus (intro _ hS; obtain ⟨s1, s2, s3⟩ := hS; first | with_reducible rfl | (go_simp; done) | (go_simp; with_reducible rfl) | rfl)); go_simp)
  refine wpMix_write (fun K hK => ?_)
  refine step_app rfl _ _ 38 rfl 3 1 8 _ int_info Tryd.underlying38 rfl (by decide) (by rfl) HO4.out (by rfl) (by rfl) (Own.rd HO4.out.drop) (int_one _) (by have := HLEN.out; unfold maxLen; rw [List.length_singleton]; omega) (by have := HLEN.out; rw [List.length_singleton]; omega) ?_
  intro v5 w5 ho5
  have HO5 : Hid (Own w0 (MpE plV plOk mb2 (mvals Prod.fst m) (s.n, who) st * (IntSl v5 (L ++ [word]) * (starL (fun p : FRow => rowP p.2) (mdel m (s.n, who)) * (IntSl (.slice (some ⟨b2, 0, none⟩) 1 1) [word] * (blk b1 (.cells #[.int .i64 s.n, .int .i64 who] 166 (0, 0)) * (flBlk p mb1 mb2 s.n (.slice ha s.has.length hc) (.slice sa s.said.length sc) * (IntSl (.slice ha s.has.length hc) s.has * (IntSl (.slice sa s.said.length sc) s.said * (IMp mb1 (setM s.all) * R))))))))) w5) := Lib.hid (by
    have h5 : Own w0 (IntSl v5 (L ++ [word]) * _) w5 := ho5.perm (show _ = IntSl v5 (L ++ [word]) * _ by unfold IntSl; rw [List.length_append, List.map_append])
    exact h5.perm (by unfold IntSl; ac_rfl))
  clear ho5
  have c4' : w5.cell? ⟨p, 4, none⟩ = some (.map (some mb2)) := (HO5.out.drop.drop.drop.drop.drop.cell 4).trans rfl
  have x0' : w5.cell? ⟨b1, 0, none⟩ = some (.int .i64 s.n) := (HO5.out.drop.drop.drop.drop.cell 0).trans rfl
  have x1' : w5.cell? ⟨b1, 1, none⟩ = some (.int .i64 who) := (HO5.out.drop.drop.drop.drop.cell 1).trans rfl
  refine hK _ _ ⟨⟨c4', x0', x1'⟩, ?_⟩
  clear hK K
  go_simp
  clear c4' x0' x1'
  refine wpMix_nil ?_
  go_wp2_with (refine wpList_fill HO5.out rfl _ _ _ rfl rfl rfl rfl ?_; intro w6 ho6; have HO6 := Lib.hid ho6; clear ho6)
  refine NoPanic.normal ?_
  go_wp2
  refine bodyPost_end (results_none rfl _ _ _) rfl ⟨rfl, ?_⟩
  have h7 := (HO6.out.second.perm (show _ = rowP (v5, L ++ [word]) * _ from rfl)).ms_put (f := rowP) (val := Prod.fst) (s.n, who)
  have h8 := h7.second.drop.second.drop
  refine Own.flq_close (m := mput m (s.n, who) (v5, L ++ [word])) ?_ (h8.perm (by unfold FlO flHear flBlk; ac_rfl))
  rw [← mput_mvals, HM.out, HL.out]; rfl
set_option maxRecDepth 100000 in
set_option maxHeartbeats 4000000 in
theorem flHas_any {w0 w : World} {R : HProp} (p : Nat) (s : Fl) (who word : Int) (hwho : I64 who) (hok : flOk s) (h : Own w0 (FlP p s * R) w) :
    Calls Tryd.prog 84 #[.pointer (some ⟨p, 0, none⟩), .int .i64 who, .int .i64 word] w fun e w' => e = .returned (.bool (flHas s who word)) ∧ Own w0 (FlP p s * R) w' := by
  obtain ⟨mb1, mb2, ha, hc, sa, sc, ho⟩ := h.fl_open_q
  exact (flHas_q p s who word hwho hok ho).mono fun e w' ⟨h1, h2⟩ => ⟨h1, h2.flq_p⟩
set_option maxRecDepth 100000 in
set_option maxHeartbeats 4000000 in
theorem flHear_any {w0 w : World} {R : HProp} (p : Nat) (s : Fl) (who word : Int) (hwho : I64 who) (hw : I64 word) (hok : flOk s) (h : Own w0 (FlP p s * R) w) :
    Calls Tryd.prog 83 #[.pointer (some ⟨p, 0, none⟩), .int .i64 who, .int .i64 word] w fun e w' => e = .returned (.tuple #[]) ∧ Own w0 (FlP p (flHear s who word) * R) w' := by
  obtain ⟨mb1, mb2, ha, hc, sa, sc, ho⟩ := h.fl_open_q
  exact (flHear_q p s who word hwho hw hok ho).mono fun e w' ⟨h1, h2⟩ => ⟨h1, h2.flq_p⟩
end Go.Proofs.YtpgonkecicmanaaDoor
/- Contracts of package view: what is wrong with members, and with a view. -/
namespace Go.Proofs.YtpgonkecicmanaaDoor
set_option linter.unusedVariables false
set_option linter.unusedSimpArgs false
open Go.RowKit
def memGo : Int → List Int → Nat
  | _, [] => 0
  | last, m :: r => if isMember m = false then 1 else if m ≤ last then 3 else memGo m r
def memErr (l : List Int) : Nat := if l = [] then 5 else memGo (-1) l
def viewErr (n : Int) (l : List Int) : Nat := if isCount n = false then 1 else memErr l
set_option maxRecDepth 100000 in
set_option maxHeartbeats 4000000 in
theorem members_any (v : Value) (l : List Int) (w : World) (hl : Ints w v l) :
    Calls Tryd.prog 116 #[v] w fun e w' => e = .returned (errV (memErr l)) ∧ w = w' := by
  obtain ⟨ad, cap, rfl, hlc, hcap⟩ := hl.shape
  have HL := Lib.hid hl
  clear hl
  by_cases h0 : l = []
  · have he : memErr l = 5 := by unfold memErr; rw [if_pos h0]
    have hl0 : l.length = 0 := by rw [h0]; rfl
    have t1 : ((l.length : Int) == 0) = true := by rw [beq_iff_eq]; omega
    have HE := Lib.hid he; have H0 := Lib.hid h0; have HL0 := Lib.hid hl0
    clear he h0 hl0
    go_enter Tryd.func116, Tryd.ntmps116
    go_wp2
    go_ret
    exact ⟨by rw [HE.out]; rfl, rfl⟩
  have hpos : 0 < l.length := by cases l with | nil => exact absurd rfl h0 | cons a r => simp
  have t1 : ((l.length : Int) == 0) = false := by rw [beq_eq_false_iff_ne]; omega
  have he : memErr l = memGo (-1) l := by unfold memErr; rw [if_neg h0]
  have HE := Lib.hid he; have H0 := Lib.hid h0
  clear he h0
  go_enter Tryd.func116, Tryd.ntmps116
  go_wp2_with fail
  go_loop [3, 12] (fun a i => ∃ (k : Nat) (last : Int), k ≤ l.length ∧ i = .int .i64 k ∧ a = .int .i64 last ∧ Hid (memGo last (l.drop k) = memErr l)) (fun _ i => l.length - (intOf i).toNat)
  case atStart => exact ⟨0, -1, Nat.zero_le _, rfl, rfl, Lib.hid HE.out.symm⟩
  case round =>
    obtain ⟨k, last, hk, rfl, rfl, hp⟩ := hrel
    by_cases hlt : k < l.length
    rotate_left
    · have hfin : memErr l = 0 := by
        have := hp.out
        rw [List.drop_of_length_le (by omega)] at this
        exact this.symm
      have HFIN := Lib.hid hfin
      clear hfin
      go_wp2
      go_ret
      exact ⟨by rw [HFIN.out]; rfl, rfl⟩
    obtain ⟨aa, rfl, hca⟩ := HL.out.at k hlt
    obtain ⟨x, hx⟩ : ∃ x, x = l[k] := ⟨_, rfl⟩
    rw [← hx] at hca
    have hd : l.drop k = x :: l.drop (k + 1) := by rw [hx]; exact List.drop_eq_getElem_cons hlt
    have hg := hp.out
    rw [hd, memGo] at hg
    cases hm : isMember x
    · rw [if_pos hm] at hg
      have HM := Lib.hid hm; have HG := Lib.hid hg; have HX := Lib.hid hx; have HD := Lib.hid hd
      clear hm hg hx hd
      go_wp2_with fail
      refine (member_any _ _).mono ?_
      rintro e w' ⟨rfl, rfl⟩
      rw [HM.out]
      go_wp2
      go_ret
      exact ⟨by rw [← HG.out]; rfl, rfl⟩
    rw [if_neg (by rw [hm]; simp)] at hg
    by_cases hle : x ≤ last
    · rw [if_pos hle] at hg
      have t2 : decide (x ≤ last) = true := by simpa using hle
      have HM := Lib.hid hm; have HG := Lib.hid hg; have HX := Lib.hid hx; have HD := Lib.hid hd
      clear hm hg hx hd
      go_wp2_with fail
      refine (member_any _ _).mono ?_
      rintro e w' ⟨rfl, rfl⟩
      rw [HM.out]
      go_wp2
      go_ret
      exact ⟨by rw [← HG.out]; rfl, rfl⟩
    · rw [if_neg hle] at hg
      have t2 : decide (x ≤ last) = false := by simpa using hle
      have HM := Lib.hid hm; have HG := Lib.hid hg; have HX := Lib.hid hx; have HD := Lib.hid hd
      clear hm hg hx hd
      go_wp2_with fail
      refine (member_any _ _).mono ?_
      rintro e w' ⟨rfl, rfl⟩
      rw [HM.out]
      go_wp2
      go_round
      case rel => exact ⟨k + 1, x, by omega, by go_num, rfl, HG⟩
      case measure => simp [intOf]; omega
set_option maxRecDepth 100000 in
set_option maxHeartbeats 4000000 in
theorem viewCheck_any {w0 w : World} {R : HProp} (n : Int) (v : Value) (l : List Int) (h : Own w0 R w) (hv : Reads w0 R v l) :
    Calls Tryd.prog 115 #[.agg #[.int .i64 n, v]] w fun e w' => e = .returned (errV (viewErr n l)) ∧ Own w0 R w' := by
  obtain ⟨ad, cap, hs, hlc, hcap⟩ := (hv _ h).shape
  subst hs
  have ho := h.alloc (.cells #[.int .i64 n, .slice ad l.length cap] 87)
  obtain ⟨b, hb⟩ : ∃ b, b = w.heap.size := ⟨_, rfl⟩
  obtain ⟨w1, hw1⟩ : ∃ w1, w1 = w.alloc (.cells #[.int .i64 n, .slice ad l.length cap] 87) := ⟨_, rfl⟩
  rw [← hb, ← hw1] at ho
  have hl1 : Ints w1 (.slice ad l.length cap) l := hv.more _ ho
  have c0 : w1.cell? ⟨b, 0, none⟩ = some (.int .i64 n) := by rw [ho.cell]; rfl
  have c1 : w1.cell? ⟨b, 1, none⟩ = some (.slice ad l.length cap) := by rw [ho.cell]; rfl
  have H := Lib.hid h; have HV := Lib.hid hv; have HL1 := Lib.hid hl1; have HO := Lib.hid ho
  clear h hv hl1 ho
  go_enter Tryd.func115, Tryd.ntmps115
  go_upto_region 1 with fail
  rw [← hb, ← hw1]
  clear hb hw1
  cases hc : isCount n
  · have he : viewErr n l = 1 := by unfold viewErr; rw [if_pos hc]
    have HC := Lib.hid hc; have HE := Lib.hid he
    clear hc he
    go_wp2_with fail
    refine (count_any _ _).mono ?_
    rintro e w' ⟨rfl, rfl⟩
    rw [HC.out]
    go_wp2
    go_ret
    exact ⟨by rw [HE.out]; rfl, HO.out.drop⟩
  · have he : viewErr n l = memErr l := by unfold viewErr; rw [if_neg (by rw [hc]; simp)]
    have HC := Lib.hid hc; have HE := Lib.hid he
    clear hc he
    go_wp2_with fail
    refine (count_any _ _).mono ?_
    rintro e w' ⟨rfl, rfl⟩
    rw [HC.out]
    go_wp2_with fail
    refine (members_any _ l _ HL1.out).mono ?_
    rintro e w' ⟨rfl, rfl⟩
    go_wp2
    go_ret
    exact ⟨by rw [HE.out]; rfl, HO.out.drop⟩
end Go.Proofs.YtpgonkecicmanaaDoor
/- Contracts of package view: who is shared by two lists. -/
namespace Go.Proofs.YtpgonkecicmanaaDoor
set_option linter.unusedVariables false
set_option linter.unusedSimpArgs false
open Go.RowKit
def shF (c : Nat) : Value := .func (.func 119) #[] #[.pointer (some ⟨c, 0, none⟩)]
set_option maxRecDepth 100000 in
set_option maxHeartbeats 4000000 in
theorem sh1_any (c : Nat) (m : Int) (vb : Value) (B : List Int) (w : World) (hc : w.cell? ⟨c, 0, none⟩ = some vb) (hB : Ints w vb B) :
    Calls Tryd.prog 119 #[.int .i64 m, .pointer (some ⟨c, 0, none⟩)] w fun e w' => e = .returned (.bool (!decide (m ∈ B))) ∧ w = w' := by
  obtain ⟨ad, cap, rfl, _, _⟩ := hB.shape
  have HB := Lib.hid hB
  clear hB
  go_enter Tryd.func119, Tryd.ntmps119
  go_wp2_with fail
  refine (containsInt_any _ B m _ HB.out).mono ?_
  rintro e w' ⟨rfl, rfl⟩
  go_wp2
  go_ret
  exact ⟨rfl, rfl⟩
set_option maxRecDepth 100000 in
set_option maxHeartbeats 4000000 in
theorem shIndex_any (c : Nat) (v vb : Value) (l B : List Int) (w : World) (hc : w.cell? ⟨c, 0, none⟩ = some vb) (hB : Ints w vb B) (hl : Ints w v l) :
    Calls Tryd.prog 113 #[v, shF c] w fun e w' => e = .returned (.int .i64 (whereIs (fun n => !decide (n ∈ B)) l)) ∧ w = w' := by
  obtain ⟨ad, cap, rfl, hlc, hcap⟩ := hl.shape
  unfold shF
  have HL := Lib.hid hl; have HB := Lib.hid hB
  clear hl hB
  go_enter Tryd.func113, Tryd.ntmps113
  go_wp2_with fail
  go_loop [8] (fun i => ∃ k : Nat, k ≤ l.length ∧ i = .int .i64 k ∧ Hid (∀ j (_ : j < k) (h : j < l.length), l[j] ∈ B)) (fun i => l.length - (intOf i).toNat)
  case atStart => exact ⟨0, Nat.zero_le _, rfl, Lib.hid (fun j h => by omega)⟩
  case round =>
    obtain ⟨k, hk, rfl, hp⟩ := hrel
    by_cases hlt : k < l.length
    rotate_left
    · have hm : whereIs (fun n => !decide (n ∈ B)) l = -1 := whereIs_miss _ l (fun j h => by simpa using hp.out j (by omega) h)
      have HM := Lib.hid hm
      clear hm
      go_wp2
      go_ret
      exact ⟨by rw [HM.out]; rfl, rfl⟩
    obtain ⟨aa, rfl, hca⟩ := HL.out.at k hlt
    by_cases hin : l[k] ∈ B
    · have hn : ∀ j (_ : j < k + 1) (h : j < l.length), l[j] ∈ B := fun j h1 h2 => by
        by_cases e : j = k
        · subst e; exact hin
        · exact hp.out j (by omega) h2
      have HN := Lib.hid hn
      clear hn
      go_wp2_with fail
      refine (sh1_any c l[k] vb B _ hc HB.out).mono ?_
      rintro e w' ⟨rfl, rfl⟩
      rw [decide_eq_true hin]
      have HIN := Lib.hid hin
      clear hin
      go_wp2
      go_round
      case rel => exact ⟨k + 1, by omega, by go_num, HN⟩
      case measure => simp [intOf]; omega
    · have hm : whereIs (fun n => !decide (n ∈ B)) l = k := whereIs_hit _ l k hlt (fun j h => by simpa using hp.out j h (by omega)) (by simpa using hin)
      have HM := Lib.hid hm
      clear hm
      go_wp2_with fail
      refine (sh1_any c l[k] vb B _ hc HB.out).mono ?_
      rintro e w' ⟨rfl, rfl⟩
      rw [decide_eq_false hin]
      have HIN := Lib.hid hin
      clear hin
      go_wp2
      go_ret
      exact ⟨by rw [HM.out]; rfl, rfl⟩
theorem whereIs_spec (p : Int → Bool) : ∀ (l : List Int) (q : Nat), whereIs p l = q → ∃ (h : q < l.length), (∀ j (hj : j < q), p (l[j]'(by omega)) = false) ∧ p l[q] = true
  | [], q, h => by
    exfalso
    simp only [whereIs] at h
    omega
  | x :: r, q, h => by
    unfold whereIs at h
    by_cases hx : p x = true
    · rw [if_pos hx] at h
      have : q = 0 := by omega
      subst this
      exact ⟨by simp, fun j hj => by omega, by simpa using hx⟩
    · rw [if_neg hx] at h
      split at h
      · omega
      rename_i h0
      obtain ⟨q', rfl⟩ : ∃ q', q = q' + 1 := ⟨q - 1, by omega⟩
      obtain ⟨h1, h2, h3⟩ := whereIs_spec p r q' (by omega)
      refine ⟨by simp; omega, fun j hj => ?_, by simpa using h3⟩
      cases j with
      | zero => simpa using hx
      | succ j => simpa using h2 j (by omega)
def keepB (B : List Int) (l : List Int) : List Int := l.filter fun x => decide (x ∈ B)
/-- The front of a row kept, the rest cleared. -/
theorem clear_back {w0 w : World} {b off n cap i : Nat} {M : List Int} {R : HProp} (hi : i ≤ n) (hM : M.length = n) (h : Own w0 (IntSl (.slice (some ⟨b, off, none⟩) n cap) M * R) w) :
    (∀ j, j < n → (w.cell? ⟨b, off + j, none⟩).isSome = true) ∧ (∀ j, w.frozen? ⟨b, off + j, none⟩ = false) ∧ Own w0 (IntSl (.slice (some ⟨b, off, none⟩) i cap) (M.take i) * R) (w.setCells b (off + i) (List.replicate (n - i) (.int .i64 0))) := by
  unfold IntSl at h
  rw [hM] at h
  rcases h.sl_cases with ⟨h1, _⟩ | ⟨b', off', cap', cs, h1, h2, h3, h4, h5, h6, ho⟩
  · cases h1
  injection h1 with e1 e2 e3
  injection e1 with e1
  injection e1 with e1 e4
  subst e1; subst e4; subst e3
  rw [Nat.mul_one] at h4 h5
  have hlt : (M.take i).length = i := by rw [List.length_take]; omega
  refine ⟨fun j hj => ?_, fun j => ho.free _ _, ?_⟩
  · rw [ho.cell, h6 j (by omega)]
    simp [show j < M.length by omega]
  · unfold IntSl
    rw [hlt]
    refine Own.sl_mk (by omega) h3 (by simp; omega) (by rw [setL_size]; omega) (fun j hj => ?_) (Own.setCells _ _ _ _ ho)
    rw [List.length_map, hlt] at hj
    rw [setL_out _ _ _ _ (by left; omega), h6 j (by omega), List.getElem?_map, List.getElem?_map, List.getElem?_take, if_pos hj]
theorem int_zero : ∀ w, (zeroValue 3).run Tryd.prog w = .ok (.int .i64 0) w := fun _ => by kernel_rfl
set_option maxRecDepth 100000 in
set_option maxHeartbeats 4000000 in
theorem del_any {w0 w : World} {R : HProp} (c : Nat) (v vb : Value) (l B : List Int) (hl : ∀ x ∈ l, I64 x) (HB : Hid (∀ w', Own w0 R w' → w'.cell? ⟨c, 0, none⟩ = some vb ∧ Ints w' vb B)) (h : Own w0 (IntSl v l * R) w) :
    Calls Tryd.prog 118 #[v, shF c] w fun e w' => ∃ v', e = .returned v' ∧ Own w0 (IntSl v' (keepB B l) * R) w' := by
  have hv := IntSl_reads hl _ h
  obtain ⟨ad, cap, rfl, hlc, hcap⟩ := hv.shape
  obtain ⟨n, hn⟩ : ∃ n, n = l.length := ⟨_, rfl⟩
  obtain ⟨hc0, hB0⟩ := HB.out _ h.drop
  have HIX := Lib.hid (shIndex_any c _ vb l B w hc0 hB0 hv)
  rw [← hn] at hlc
  have H := Lib.hid h
  rw [← hn] at HIX H ⊢
  unfold shF at HIX ⊢
  by_cases hall : ∀ x ∈ l, x ∈ B
  · have hw : whereIs (fun n => !decide (n ∈ B)) l = -1 := whereIs_miss _ l (fun j h => by simpa using hall _ (List.getElem_mem h))
    have hk : keepB B l = l := List.filter_eq_self.2 (fun x hx => by simpa using hall x hx)
    have HW := Lib.hid hw; have HK := Lib.hid hk; have HV := Lib.hid hv; have HL := Lib.hid hl; have HALL := Lib.hid hall; have HB0 := Lib.hid hB0; have HN := Lib.hid hn
    clear hw hk hv hl hall hB0 hn
    clear h
    go_enter Tryd.func118, Tryd.ntmps118
    go_wp2_with fail
    refine HIX.out.mono ?_
    rintro e w' ⟨rfl, rfl⟩
    rw [HW.out]
    go_wp2
    go_ret
    exact ⟨_, rfl, by rw [HK.out]; exact H.out⟩
  obtain ⟨q, hq⟩ : ∃ q : Nat, whereIs (fun n => !decide (n ∈ B)) l = q := by
    refine ⟨(whereIs (fun n => !decide (n ∈ B)) l).toNat, ?_⟩
    have hneg : ¬ whereIs (fun n => !decide (n ∈ B)) l < 0 := fun h => by
      rw [whereIs_neg, List.any_eq_false] at h
      exact hall fun x hx => by simpa using h x hx
    omega
  have hwi := whereIs_spec (fun n => !decide (n ∈ B)) l q hq
  obtain ⟨hqn, hqb, hql⟩ := hwi
  have hql' : l[q]'hqn ∉ B := by simpa using hql
  have hkq : keepB B (l.take q) = l.take q := List.filter_eq_self.2 (fun x hx => by
    obtain ⟨j, hj, rfl⟩ := List.mem_iff_getElem.1 hx
    rw [List.length_take] at hj
    have := hqb j (by omega)
    rw [List.getElem_take]
    simpa using this)
  have hkq1 : keepB B (l.take (q + 1)) = l.take q := by
    rw [List.take_succ_eq_append_getElem hqn]
    unfold keepB at hkq ⊢
    rw [List.filter_append, hkq]
    simp [hql']
  have hqn' : q < n := by omega
  have HM0 : Hid (∃ M : List Int, M.length = n ∧ M.take q = keepB B (l.take (q + 1)) ∧ M.drop (q + 1) = l.drop (q + 1) ∧ Own w0 (IntSl (.slice ad n cap) M * R) w) := Lib.hid ⟨l, hn.symm, hkq1.symm, rfl, H.out⟩
  have hcap2 : cap ≤ 9223372036854775807 := hcap
  have hnp : 0 < n := by omega
  obtain ⟨b, off, cp, hsl, _⟩ := Own.ints_at H.out (by omega)
  injection hsl with e1 e2 e3
  subst e1; subst e3
  clear e2
  have HIX2 := HIX.out
  rw [hq] at HIX2
  have HIX3 := Lib.hid HIX2
  have hzc := fun w => Lib.run_clear_slice (P := Tryd.prog) w 38 3
  clear hzc HIX2 HIX
  have HQ := Lib.hid hq; have HQB := Lib.hid hqb; have HQL := Lib.hid hql; have HQL' := Lib.hid hql'; have HKQ := Lib.hid hkq; have HKQ1 := Lib.hid hkq1; have HALL := Lib.hid hall; have HV := Lib.hid hv; have HB0 := Lib.hid hB0; have HL := Lib.hid hl; have HN := Lib.hid hn
  clear hq hqb hql hql' hkq hkq1 hall hv hB0 hl hn
  clear h
  have tq : ((q : Int) == -1) = false := by rw [beq_eq_false_iff_ne]; omega
  go_enter Tryd.func118, Tryd.ntmps118
  go_wp2_with fail
  refine HIX3.out.mono ?_
  rintro e w' ⟨rfl, rfl⟩
  go_wp2_with fail
  go_loopw [5, 6] (fun iv jv wr => ∃ j i : Nat, q + 1 ≤ j ∧ j ≤ n ∧ i < j ∧ iv = .int .i64 i ∧ jv = .int .i64 j ∧ Hid (i = (keepB B (l.take j)).length ∧ ∃ M : List Int, M.length = n ∧ M.take i = keepB B (l.take j) ∧ M.drop j = l.drop j ∧ Own w0 (IntSl (.slice (some ⟨b, off, none⟩) n cap) M * R) wr)) (fun _ jv _ => n - (intOf jv).toNat)
  case atStart =>
    refine ⟨q + 1, q, Nat.le_refl _, by omega, by omega, rfl, by go_num, Lib.hid ⟨?_, ?_⟩⟩
    · rw [HKQ1.out, List.length_take]; omega
    · obtain ⟨M, a1, a2, a3, a4⟩ := HM0.out
      exact ⟨M, a1, a2, a3, a4⟩
  case round =>
    obtain ⟨j, i, hj1, hj2, hij, rfl, rfl, hp⟩ := hrel
    obtain ⟨hiq, M, a1, a2, a3, a4⟩ := hp.out
    by_cases hlt : j < n
    · have hjl : j < l.length := by rw [← HN.out]; exact hlt
      have hjM : j < M.length := by omega
      obtain ⟨b', off', cp', hsl', _, _, hcell, hfree, _, _, hset⟩ := Own.ints_at a4 (by omega)
      injection hsl' with e1 e2 e3
      clear e2
      injection e1 with e1
      injection e1 with e1 e4
      subst e1; subst e4; subst e3
      obtain ⟨x, hx⟩ : ∃ x, x = l[j] := ⟨_, rfl⟩
      have hMj : M[j] = x := by
        have h1 : (M.drop j)[0]? = (l.drop j)[0]? := by rw [a3]
        rw [List.getElem?_drop, List.getElem?_drop, Nat.add_zero, List.getElem?_eq_getElem hjM, List.getElem?_eq_getElem hjl] at h1
        rw [hx]; injection h1
      have c1 := hcell j hjM
      rw [hMj] at c1
      obtain ⟨hcc, hBB⟩ := HB.out _ a4.drop
      have f1 := hfree (off + i) none
      have hiM : i < M.length := by omega
      obtain ⟨mi, hmi⟩ : ∃ x, x = M[i]'hiM := ⟨_, rfl⟩
      have ci := hcell i hiM
      rw [← hmi] at ci
      clear hmi
      have htk : l.take (j + 1) = l.take j ++ [x] := by rw [hx]; exact List.take_succ_eq_append_getElem hjl
      have hd : M.drop (j + 1) = l.drop (j + 1) := by rw [← List.drop_drop, a3, List.drop_drop]
      have hsj := hset i x (by omega)
      have HBB := Lib.hid hBB
      have HA4 := Lib.hid a4
      by_cases hin : x ∈ B
      · have hk : keepB B (l.take (j + 1)) = keepB B (l.take j) ++ [x] := by rw [htk]; unfold keepB; rw [List.filter_append]; simp [hin]
        have fin : i + 1 = (keepB B (l.take (j + 1))).length ∧ ∃ M : List Int, M.length = n ∧ M.take (i + 1) = keepB B (l.take (j + 1)) ∧ M.drop (j + 1) = l.drop (j + 1) ∧ Own w0 (IntSl (.slice (some ⟨b, off, none⟩) n cap) M * R) (wr.setCell ⟨b, off + i, none⟩ (.int .i64 x)) := by
          refine ⟨by rw [hk, List.length_append, ← hiq]; rfl, M.set i x, by rw [List.length_set]; exact a1, ?_, ?_, hsj⟩
          · rw [hk, ← a2, List.take_succ_eq_append_getElem (by rw [List.length_set]; omega), List.getElem_set_self, List.take_set_of_le (Nat.le_refl i)]
          · rw [List.drop_set_of_lt (by omega)]; exact hd
        have FIN := Lib.hid fin; have HK := Lib.hid hk; have HSJ := Lib.hid hsj; have HD := Lib.hid hd; have HTK := Lib.hid htk; have HCELL := Lib.hid hcell; have HFREE := Lib.hid hfree; have HSET := Lib.hid hset; have HX := Lib.hid hx; have HMJ := Lib.hid hMj; have HIQ := Lib.hid hiq; have A2 := Lib.hid a2; have A3 := Lib.hid a3
        clear fin hk hsj hd htk hcell hfree hset hx hMj hiq a2 a3
        clear hp hBB a4
        go_wp2_with fail
        refine (sh1_any c x vb B _ hcc HBB.out).mono ?_
        rintro e w' ⟨rfl, rfl⟩
        rw [decide_eq_true hin]
        have HIN := Lib.hid hin
        clear hin
        go_wp2_with fail
        go_roundw
        case rel => exact ⟨j + 1, i + 1, by omega, by omega, by omega, by go_num, by go_num, FIN⟩
        case measure => simp [intOf]; omega
      · have hk : keepB B (l.take (j + 1)) = keepB B (l.take j) := by rw [htk]; unfold keepB; rw [List.filter_append]; simp [hin]
        have fin : i = (keepB B (l.take (j + 1))).length ∧ ∃ M : List Int, M.length = n ∧ M.take i = keepB B (l.take (j + 1)) ∧ M.drop (j + 1) = l.drop (j + 1) ∧ Own w0 (IntSl (.slice (some ⟨b, off, none⟩) n cap) M * R) wr :=
          ⟨by rw [hk]; exact hiq, M, a1, by rw [hk]; exact a2, hd, a4⟩
        have FIN := Lib.hid fin; have HK := Lib.hid hk; have HSJ := Lib.hid hsj; have HD := Lib.hid hd; have HTK := Lib.hid htk; have HCELL := Lib.hid hcell; have HFREE := Lib.hid hfree; have HSET := Lib.hid hset; have HX := Lib.hid hx; have HMJ := Lib.hid hMj; have HIQ := Lib.hid hiq; have A2 := Lib.hid a2; have A3 := Lib.hid a3
        clear fin hk hsj hd htk hcell hfree hset hx hMj hiq a2 a3
        clear hp hBB a4
        go_wp2_with fail
        refine (sh1_any c x vb B _ hcc HBB.out).mono ?_
        rintro e w' ⟨rfl, rfl⟩
        rw [decide_eq_false hin]
        have HIN := Lib.hid hin
        clear hin
        go_wp2_with fail
        go_roundw
        case rel => exact ⟨j + 1, i, by omega, by omega, by omega, by go_num, by go_num, FIN⟩
        case measure => simp [intOf]; omega
    · have hjn : j = n := by omega
      have hkl : keepB B (l.take j) = keepB B l := by rw [List.take_of_length_le (by rw [← HN.out]; omega)]
      rw [hkl] at hiq a2
      obtain ⟨k1, k2, k3⟩ := clear_back (i := i) (by omega) a1 a4
      rw [a2] at k3
      have hrun : ∀ ty, (Builtin.clear_ #[38] ty #[.slice (some ⟨b, off + i, none⟩) (n - i) (cap - i)]).run Tryd.prog wr = .ok (.tuple #[]) (wr.setCells b (off + i) (List.replicate (n - i) (.int .i64 0))) := fun ty =>
        Lib.run_clear_slice wr 38 3 ty (.int .i64 0) Tryd.underlying38 int_zero rfl rfl b (off + i) (n - i) (cap - i) (by omega) (fun t ht => by rw [Nat.add_assoc]; exact k1 (i + t) (by omega)) (fun t _ => by rw [Nat.add_assoc]; exact k2 (i + t))
      have hne : ¬ cap = i := by omega
      have K3 := Lib.hid k3
      have hin : i < n := by omega
      have HIQ := Lib.hid hiq; have A2 := Lib.hid a2; have A3 := Lib.hid a3; have HKL := Lib.hid hkl; have HJN := Lib.hid hjn; have K1 := Lib.hid k1; have K2 := Lib.hid k2
      clear hiq a2 a3 hkl hjn k1 k2
      clear hp a4 k3
      go_wp2_with fail
      go_ret
      exact ⟨_, rfl, K3.out⟩
end Go.Proofs.YtpgonkecicmanaaDoor
