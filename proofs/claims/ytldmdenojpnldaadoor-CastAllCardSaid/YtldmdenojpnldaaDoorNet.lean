/- Contracts of package net. -/
import Derived.Test.YtldmdenojpnldaaDoorNetP
import Derived.Test.YtldmdenojpnldaaDoorDel
import Derived.Test.YtldmdenojpnldaaDoorHist
import Derived.Test.YtldmdenojpnldaaDoorStar
import Derived.Test.YtldmdenojpnldaaDoorHeld
import Derived.Deep.DeepCutAuto
import Derived.Deep.CutBlock
namespace Go.Proofs.YtldmdenojpnldaaDoor
set_option linter.unusedVariables false
set_option linter.unusedSimpArgs false
open Go.RowKit Go.Maps
theorem nway_lits (n : Nat) (a b : Int) (ha : I64 a) (hb : I64 b) : Tryd.prog.keyLits (n + 2) 133 [.int .i64 a, .int .i64 b] = some [.int .i64 a, .int .i64 b] := by
  have h1 : Tryd.prog.cellsOf 133 = 2 := by kernel_rfl
  have h2 : Tryd.prog.cellsOf 3 = 1 := by kernel_rfl
  simp [Program.keyLits, Tryd.underlying133, Tryd.underlying3, h1, h2, I64_wf ha, I64_wf hb]
theorem nway_ke : KE Tryd.prog 133 plV plOk where
  keyed := Keyed.of_law (deep_law (m := 2) (by omega) (by kernel_rfl) (by kernel_rfl) (by rw [Tryd.underlying133]))
  has := fun x hx => by
    have h1 : Tryd.prog.cellsOf 133 = 2 := by kernel_rfl
    have h2 : Tryd.prog.keyType 133 = true := by kernel_rfl
    have h3 : 0 < Tryd.prog.types.size := of_decide_eq_true (by kernel_rfl)
    obtain ⟨m, hm⟩ := Nat.exists_eq_succ_of_ne_zero (Nat.ne_of_gt h3)
    refine ⟨.string (keyBytes [.int .i64 x.1, .int .i64 x.2]), ?_⟩
    unfold keyOf
    rw [Tryd.underlying133]
    simp [h2, hm, plV, Value.formed, Tryd.underlying133, h1, Value.cells, nway_lits m _ _ hx.1 hx.2]
  inj := fun x y h => by
    unfold plV at h
    simp at h
    exact Prod.ext h.1 h.2
theorem mapw_made : ∀ w, (Instr.makeMap 124 none).run Tryd.prog w = .ok (.map (some w.heap.size)) (w.alloc (.map #[] 0)) := fun _ => by kernel_rfl
theorem mapw_kind : Tryd.prog.underlying 124 = some (.map 133 4) := by kernel_rfl
theorem info_pk : (Tryd.prog.info? 23).map (fun i => (i.zero, i.size, i.bytes)) = some (some (.agg #[.int .i64 0, .int .i64 0, .int .i64 0]), 3, 24) := by kernel_rfl
abbrev PkSl (v : Value) (l : List Ev) : HProp := Sl 23 3 v l.length (l.flatMap evCells)
def PkO (b : Nat) (x : Ev) : HProp := blk b (.cells #[.int .i64 x.1, .int .i64 x.2.1, .int .i64 x.2.2] 23 (0, 0))
theorem Own.pk {w0 w : World} {b : Nat} {x : Ev} {R : HProp} (h : Own w0 (PkO b x * R) w) : w.cell? ⟨b, 0, none⟩ = some (.int .i64 x.1) ∧ w.cell? ⟨b, 1, none⟩ = some (.int .i64 x.2.1) ∧ w.cell? ⟨b, 2, none⟩ = some (.int .i64 x.2.2) :=
  ⟨(Own.cell h 0).trans rfl, (Own.cell h 1).trans rfl, (Own.cell h 2).trans rfl⟩
abbrev ntBlk (p mb : Nat) (v : Value) : HProp := blk p (.cells #[v, .map (some mb)] 126 (0, 0))
abbrev WMp := Mp plV plOk
def NtO (p mb : Nat) (v : Value) (s : Nt) : HProp := ntBlk p mb v * (PkSl v s.all * WMp mb (setW s.cut))
def NtP (p : Nat) (s : Nt) : HProp := hex fun x : Nat × Value => NtO p x.1 x.2 s
theorem Own.nt_open {w0 w : World} {p : Nat} {s : Nt} {R : HProp} (h : Own w0 (NtP p s * R) w) : ∃ mb ad cap, s.all.length ≤ cap ∧ cap ≤ 9223372036854775807 ∧ Own w0 (NtO p mb (.slice ad s.all.length cap) s * R) w := by
  obtain ⟨⟨mb, v⟩, h⟩ := Own.ex h
  have h2 : Own w0 (PkSl v s.all * (ntBlk p mb v * (WMp mb (setW s.cut) * R))) w := h.perm (by unfold NtO; ac_rfl)
  obtain ⟨ad, cap, rfl, h3, h4, _⟩ := Own.rd h2
  exact ⟨mb, ad, cap, h3, by unfold maxLen at h4; omega, h⟩
theorem Own.nt_close {w0 w : World} {p mb : Nat} {v : Value} {s : Nt} {R : HProp} (h : Own w0 (NtO p mb v s * R) w) : Own w0 (NtP p s * R) w := Own.ex_mk (mb, v) h
section
variable {w0 w : World} {p mb : Nat} {v : Value} {s : Nt} {R : HProp}
theorem Own.nt_blk (h : Own w0 (NtO p mb v s * R) w) : Own w0 (ntBlk p mb v * (PkSl v s.all * (WMp mb (setW s.cut) * R))) w := h.perm (by unfold NtO; ac_rfl)
theorem Own.nt_all (h : Own w0 (NtO p mb v s * R) w) : Own w0 (PkSl v s.all * (ntBlk p mb v * (WMp mb (setW s.cut) * R))) w := h.perm (by unfold NtO; ac_rfl)
theorem Own.nt_cut (h : Own w0 (NtO p mb v s * R) w) : Own w0 (WMp mb (setW s.cut) * (ntBlk p mb v * (PkSl v s.all * R))) w := h.perm (by unfold NtO; ac_rfl)
theorem Own.nt_facts (h : Own w0 (NtO p mb v s * R) w) : w.cell? ⟨p, 0, none⟩ = some v ∧ w.cell? ⟨p, 1, none⟩ = some (.map (some mb)) ∧ ∀ i t, w.frozen? ⟨p, i, t⟩ = false :=
  ⟨(h.nt_blk.cell 0).trans rfl, (h.nt_blk.cell 1).trans rfl, fun i t => h.nt_blk.free i t⟩
theorem Own.nt_look (h : Own w0 (NtO p mb v s * R) w) (x : Int × Int) (hx : plOk x) : (Instr.lookup 124 (.map (some mb)) (plV x) false).run Tryd.prog w = .ok (.bool (decide (x ∈ s.cut))) w := by
  have h1 := h.nt_cut.map_look nway_ke mapw_kind bool_zero hx false
  rw [mget_setW, if_neg (by decide)] at h1
  exact h1
end
theorem pk_good {p : Ev} (h : pkErr p = 0) : goodEv p := by
  obtain ⟨h1, h2, h3, _⟩ := pkErr0 h
  simp [isMember] at h1 h2
  simp [isWord] at h3
  unfold goodEv I64
  omega
theorem NtI.good {s : Nt} (h : NtI s) : ∀ q ∈ s.all, goodEv q := fun q hq => pk_good (h.ok q hq)
theorem PkSl_reads {w0 : World} {R : HProp} {v : Value} {l : List Ev} (hg : ∀ e ∈ l, goodEv e) : ReadsE w0 (PkSl v l * R) v l := fun _ ho => ⟨Own.rd ho, hg⟩
set_option maxRecDepth 100000 in
set_option maxHeartbeats 4000000 in
theorem ntNew_any {w0 w : World} {R : HProp} (h : Own w0 R w) :
    Calls Tryd.prog 13 #[] w fun e w' => ∃ p, e = .returned (.pointer (some ⟨p, 0, none⟩)) ∧ Own w0 (NtP p ⟨[], []⟩ * R) w' := by
  have hm := mapw_made
  have H := Lib.hid h
  clear h
  go_enter Tryd.func13, Tryd.ntmps13
  go_wp2
  go_ret
  refine ⟨_, rfl, ?_⟩
  have h1 := (H.out.map_new (enc := plV) (ok := plOk)).alloc (.cells #[.slice none 0 0, .map (some w.heap.size)] 126)
  refine Own.nt_close (mb := w.heap.size) (v := .slice none 0 0) ((h1.sl_nil 23 3).perm ?_)
  unfold NtO ntBlk PkSl WMp
  simp only [World.size_alloc, setW, List.map_nil, List.length_nil, List.flatMap_nil]
  ac_rfl
set_option maxRecDepth 100000 in
set_option maxHeartbeats 4000000 in
theorem between_any {w0 w : World} {R : HProp} (a b : Int) (h : Own w0 R w) :
    Calls Tryd.prog 62 #[.int .i64 a, .int .i64 b] w fun e w' => e = .returned (plV (wayOf a b)) ∧ Own w0 R w' := by
  have H := Lib.hid h
  clear h
  go_enter Tryd.func62, Tryd.ntmps62
  go_wp2_with fail
  all_goals exact bodyPost_ret (v := .agg #[.int .i64 (min a b), .int .i64 (max a b)]) (by simp [results, Tryd.results62, go_sem]; omega) rfl ⟨rfl, H.out.alloc' _⟩
set_option maxRecDepth 100000 in
set_option maxHeartbeats 4000000 in
theorem ntHas_any {w0 w : World} {R : HProp} (p : Nat) (s : Nt) (i : Int) (h : Own w0 (NtP p s * R) w) :
    Calls Tryd.prog 57 #[.pointer (some ⟨p, 0, none⟩), .int .i64 i] w fun e w' => e = .returned (.bool (ntHas s i)) ∧ w = w' := by
  obtain ⟨mb, ad, cap, h3, h4, ho⟩ := h.nt_open
  obtain ⟨c0, _⟩ := ho.nt_facts
  by_cases h0 : 0 ≤ i
  · have t0 : decide (0 ≤ i) = true := by simpa using h0
    have hh : ntHas s i = decide (i < (s.all.length : Int)) := by unfold ntHas inR; rw [t0]; rfl
    rw [hh]
    have H := Lib.hid h; have HO := Lib.hid ho; have HH := Lib.hid hh
    clear h ho hh
    go_enter Tryd.func57, Tryd.ntmps57
    go_wp2
    go_ret
    exact ⟨rfl, rfl⟩
  · have t0 : decide (0 ≤ i) = false := by simpa using h0
    have hh : ntHas s i = false := by unfold ntHas inR; rw [t0]; rfl
    rw [hh]
    have H := Lib.hid h; have HO := Lib.hid ho; have HH := Lib.hid hh
    clear h ho hh
    go_enter Tryd.func57, Tryd.ntmps57
    go_wp2
    go_ret
    exact ⟨rfl, rfl⟩
theorem nt_app {w0 w : World} {p mb : Nat} {ad : Option Addr} {cap : Nat} {s : Nt} {q : Ev} {v' : Value} {L : Nat} {R : HProp} (hL : L = s.all.length)
    (h : Own w0 (Sl 23 3 v' (L + 1) (s.all.flatMap evCells ++ evCells q) * (ntBlk p mb (.slice ad L cap) * (WMp mb (setW s.cut) * R))) w) : Own w0 (NtP p { s with all := s.all ++ [q] } * R) (w.setCell ⟨p, 0, none⟩ v') := by
  subst hL
  have h1 := h.second.setCell (i := 0) (v := v')
  refine Own.nt_close (mb := mb) (v := v') (h1.perm ?_)
  unfold NtO PkSl ntBlk
  rw [List.length_append, List.flatMap_append]
  simp only [List.length_singleton, List.flatMap_cons, List.flatMap_nil, List.append_nil]
  show (blk p (.cells #[v', .map (some mb)] 126 (0, 0)) * _ : HProp) = _
  ac_rfl
set_option maxRecDepth 100000 in
set_option maxHeartbeats 4000000 in
theorem ntSend_any {w0 w : World} {R : HProp} (p : Nat) (s : Nt) (q : Ev) (hI : NtI s) (h : Own w0 (NtP p s * R) w) :
    Calls Tryd.prog 16 #[.pointer (some ⟨p, 0, none⟩), evV q] w fun e w' => e = .returned (errV (ntErr s q)) ∧ Own w0 (NtP p (ntSend s q) * R) w' := by
  obtain ⟨a, b, d⟩ := q
  obtain ⟨E, hE⟩ : ∃ E, E = ntErr s (a, b, d) := ⟨_, rfl⟩
  obtain ⟨S, hS⟩ : ∃ S, S = ntSend s (a, b, d) := ⟨_, rfl⟩
  rw [← hE, ← hS]
  unfold ntSend at hS
  rw [← hE] at hS
  unfold ntErr pkErr at hE
  simp only at hE
  unfold evV
  dsimp only
  obtain ⟨mb, ad, cap, h3, h4, ho0⟩ := h.nt_open
  obtain ⟨b1, hb_b1⟩ : ∃ zz_, zz_ = (w).heap.size := ⟨_, rfl⟩
  obtain ⟨w1, hw_w1⟩ : ∃ zz_, zz_ = (w).alloc (.cells #[.int .i64 a, .int .i64 b, .int .i64 d] 23 (0, 0)) := ⟨_, rfl⟩
  have h_HO := (ho0).alloc (.cells #[.int .i64 a, .int .i64 b, .int .i64 d] 23 (0, 0))
  rw [← hb_b1, ← hw_w1] at h_HO
  have HO := Lib.hid h_HO
  clear h_HO
  have HO1 : Hid (Own w0 (NtO p mb (.slice ad s.all.length cap) s * (PkO b1 (a, b, d) * R)) w1) := Lib.hid HO.out.second
  obtain ⟨x0, x1, x2⟩ := HO1.out.second.pk
  obtain ⟨c0, c1, cf⟩ := HO1.out.nt_facts
  simp only at x0 x1 x2
  have fin : ∀ w', Own w0 (NtO p mb (.slice ad s.all.length cap) s * (PkO b1 (a, b, d) * R)) w' → Own w0 (NtP p s * R) w' := fun w' ho => ho.second.drop.nt_close
  have hlen := hI.len
  obtain ⟨L, hL⟩ : ∃ L, L = s.all.length := ⟨_, rfl⟩
  rw [← hL] at hlen h3 c0 HO1 fin hE
  clear h ho0 HO
  have HL := Lib.hid hL; have FIN := Lib.hid fin; have CF := Lib.hid cf; have HI := Lib.hid hI
  clear hL fin cf hI
  cases hma : isMember a
  · rw [hma, if_pos rfl, if_pos (by decide)] at hE
    subst hE
    rw [if_neg (by decide)] at hS
    subst hS
    have HMA := Lib.hid hma
    clear hma
    go_enter Tryd.func16, Tryd.ntmps16
    go_upto_region 1 with fail
    rw [← hb_b1, ← hw_w1]
    clear hb_b1 hw_w1
    go_wp2_with fail
    refine (member_any _ _).mono ?_
    rintro e w' ⟨rfl, rfl⟩
    rw [HMA.out]
    go_wp2
    go_ret
    exact ⟨rfl, FIN.out _ HO1.out⟩
  rw [hma, if_neg (show ¬ true = false by simp)] at hE
  cases hmb : isMember b
  · rw [hmb, if_pos rfl, if_pos (by decide)] at hE
    subst hE
    rw [if_neg (by decide)] at hS
    subst hS
    have HMA := Lib.hid hma; have HMB := Lib.hid hmb
    clear hma hmb
    go_enter Tryd.func16, Tryd.ntmps16
    go_upto_region 1 with fail
    rw [← hb_b1, ← hw_w1]
    clear hb_b1 hw_w1
    go_wp2_with fail
    refine (member_any _ _).mono ?_
    rintro e w' ⟨rfl, rfl⟩
    rw [HMA.out]
    go_wp2_with fail
    refine (member_any _ _).mono ?_
    rintro e w' ⟨rfl, rfl⟩
    rw [HMB.out]
    go_wp2
    go_ret
    exact ⟨rfl, FIN.out _ HO1.out⟩
  rw [hmb, if_neg (show ¬ true = false by simp)] at hE
  cases hmw : isWord d
  · rw [hmw, if_pos rfl, if_pos (by decide)] at hE
    subst hE
    rw [if_neg (by decide)] at hS
    subst hS
    have HMA := Lib.hid hma; have HMB := Lib.hid hmb; have HMW := Lib.hid hmw
    clear hma hmb hmw
    go_enter Tryd.func16, Tryd.ntmps16
    go_upto_region 1 with fail
    rw [← hb_b1, ← hw_w1]
    clear hb_b1 hw_w1
    go_wp2_with fail
    refine (member_any _ _).mono ?_
    rintro e w' ⟨rfl, rfl⟩
    rw [HMA.out]
    go_wp2_with fail
    refine (member_any _ _).mono ?_
    rintro e w' ⟨rfl, rfl⟩
    rw [HMB.out]
    go_wp2_with fail
    refine (word_any _ _).mono ?_
    rintro e w' ⟨rfl, rfl⟩
    rw [HMW.out]
    go_wp2
    go_ret
    exact ⟨rfl, FIN.out _ HO1.out⟩
  rw [hmw, if_neg (show ¬ true = false by simp)] at hE
  by_cases hab : a = b
  · rw [if_pos hab, if_pos (by decide)] at hE
    subst hE
    rw [if_neg (by decide)] at hS
    subst hS
    have t1 : (a == b) = true := by simpa using hab
    have HMA := Lib.hid hma; have HMB := Lib.hid hmb; have HMW := Lib.hid hmw; have HAB := Lib.hid hab
    clear hma hmb hmw hab
    go_enter Tryd.func16, Tryd.ntmps16
    go_upto_region 1 with fail
    rw [← hb_b1, ← hw_w1]
    clear hb_b1 hw_w1
    go_wp2_with fail
    refine (member_any _ _).mono ?_
    rintro e w' ⟨rfl, rfl⟩
    rw [HMA.out]
    go_wp2_with fail
    refine (member_any _ _).mono ?_
    rintro e w' ⟨rfl, rfl⟩
    rw [HMB.out]
    go_wp2_with fail
    refine (word_any _ _).mono ?_
    rintro e w' ⟨rfl, rfl⟩
    rw [HMW.out]
    go_wp2
    go_ret
    exact ⟨rfl, FIN.out _ HO1.out⟩
  rw [if_neg hab, if_neg (by simp)] at hE
  have t1 : (a == b) = false := by simpa using hab
  by_cases h40 : 40 ≤ L
  · rw [if_pos h40] at hE
    subst hE
    rw [if_neg (by decide)] at hS
    subst hS
    have t2 : decide ((40 : Int) ≤ (L : Int)) = true := decide_eq_true (by omega)
    have HMA := Lib.hid hma; have HMB := Lib.hid hmb; have HMW := Lib.hid hmw; have HAB := Lib.hid hab
    clear hma hmb hmw hab
    go_enter Tryd.func16, Tryd.ntmps16
    go_upto_region 1 with fail
    rw [← hb_b1, ← hw_w1]
    clear hb_b1 hw_w1
    go_wp2_with fail
    refine (member_any _ _).mono ?_
    rintro e w' ⟨rfl, rfl⟩
    rw [HMA.out]
    go_wp2_with fail
    refine (member_any _ _).mono ?_
    rintro e w' ⟨rfl, rfl⟩
    rw [HMB.out]
    go_wp2_with fail
    refine (word_any _ _).mono ?_
    rintro e w' ⟨rfl, rfl⟩
    rw [HMW.out]
    go_wp2
    go_ret
    exact ⟨rfl, FIN.out _ HO1.out⟩
  rw [if_neg h40] at hE
  subst hE
  rw [if_pos rfl] at hS
  have t2 : decide ((40 : Int) ≤ (L : Int)) = false := decide_eq_false (by omega)
  have HOA : Hid (Own w0 (Sl 23 3 (.slice ad L cap) L (s.all.flatMap evCells) * (ntBlk p mb (.slice ad L cap) * (WMp mb (setW s.cut) * (PkO b1 (a, b, d) * R)))) w1) := Lib.hid (HO1.out.nt_all.perm (by unfold PkSl; rw [← HL.out]))
  have HMA := Lib.hid hma; have HMB := Lib.hid hmb; have HMW := Lib.hid hmw; have HAB := Lib.hid hab; have HS := Lib.hid hS
  clear hma hmb hmw hab hS
  go_enter Tryd.func16, Tryd.ntmps16
  go_upto_region 1 with fail
  rw [← hb_b1, ← hw_w1]
  clear hb_b1 hw_w1
  go_wp2_with fail
  refine (member_any _ _).mono ?_
  rintro e w' ⟨rfl, rfl⟩
  rw [HMA.out]
  go_wp2_with fail
  refine (member_any _ _).mono ?_
  rintro e w' ⟨rfl, rfl⟩
  rw [HMB.out]
  go_wp2_with fail
  refine (word_any _ _).mono ?_
  rintro e w' ⟨rfl, rfl⟩
  rw [HMW.out]
  go_upto_region 7 with fail
  refine wp_region_planH 10 [] [(true, 0), (true, 1), (true, 2), (true, 3), (true, 4), (true, 5), (false, 6), (false, 7), (true, 8), (true, 9)] [10] (fun wS => wS.cell? ⟨p, 0, none⟩ = some (.slice ad L cap) ∧ wS.cell? ⟨b1, 0, none⟩ = some (.int .i64 a) ∧ wS.cell? ⟨b1, 1, none⟩ = some (.int .i64 b) ∧ wS.cell? ⟨b1, 2, none⟩ = some (.int .i64 d)) (by kernel_rfl) (by kernel_rfl) (⟨c0, x0, x1, x2⟩) ?_
  simp only [pickH, pick, List.getElem?_cons_succ, List.getElem?_cons_zero, Option.toList, Option.map_some, List.cons_append, List.nil_append]
  repeat (refine wpPure_step ?_ rfl ?_ ?_; rotate_left; (focus (intro _; first | with_reducible rfl | (go_simp; done) | (go_simp; with_reducible rfl) | rfl)); go_simp)
  refine wpPure_nil ?_
  repeat (refine wpMix_read ?_ rfl ?_ ?_; rotate_left; (focus (intro _ hS; obtain ⟨s1, s2, s3, s4⟩ := hS; first | with_reducible rfl | (go_simp; done) | (go_simp; with_reducible rfl) | rfl)); go_simp)
  refine wpMix_write (fun K hK => ?_)
  go_simp
  obtain ⟨b2, hb_b2⟩ : ∃ zz_, zz_ = (w1).heap.size := ⟨_, rfl⟩
  obtain ⟨w2, hw_w2⟩ : ∃ zz_, zz_ = (w1).alloc (.cells #[.int .i64 a, .int .i64 b, .int .i64 d] 23 (0, 0)) := ⟨_, rfl⟩
  have h_HB := (HOA.out).alloc (.cells #[.int .i64 a, .int .i64 b, .int .i64 d] 23 (0, 0))
  rw [← hb_b2, ← hw_w2] at h_HB
  have HB := Lib.hid h_HB
  clear h_HB
  rw [← hb_b2, ← hw_w2]
  clear hb_b2 hw_w2
  have HB2 : Hid (Own w0 (Sl 23 3 (.slice ad L cap) L (s.all.flatMap evCells) * (ntBlk p mb (.slice ad L cap) * (WMp mb (setW s.cut) * (PkO b1 (a, b, d) * (PkO b2 (a, b, d) * R))))) w2.drew) := Lib.hid (HB.out.drew.perm (by unfold PkO; ac_rfl))
  clear HB HOA c0 c1 x0 x1 x2
  have c0 : w2.drew.cell? ⟨p, 0, none⟩ = some (.slice ad L cap) := (HB2.out.second.cell 0).trans rfl
  obtain ⟨x0, x1, x2⟩ := HB2.out.fourth.pk
  simp only at x0 x1 x2
  refine hK _ _ ⟨⟨c0, x0, x1, x2⟩, ?_⟩
  clear hK K
  go_simp
  refine wpMix_write (fun K hK => ?_)
  have hsrc : Rd w2.drew (.slice (some ⟨b2, 0, none⟩) 1 1) 1 [.int .i64 a, .int .i64 b, .int .i64 d] := Rd_one (fun i u hi => by
    rw [HB2.out.fifth.cell]
    match i, hi with
    | 0, hi => exact hi
    | 1, hi => exact hi
    | 2, hi => exact hi) (Nat.le_refl _) (by unfold maxLen; omega)
  refine step_app rfl _ _ 26 rfl 23 3 24 _ info_pk Tryd.underlying26 rfl (by decide) (by rfl) HB2.out (by rfl) (by rfl) hsrc (by intro u hu; simp at hu; rcases hu with rfl | rfl | rfl <;> rfl) (by unfold maxLen; omega) (by omega) ?_
  intro v5 w5 ho5
  obtain ⟨ad5, cp5, hv5, _⟩ := Own.rd ho5
  subst hv5
  clear c0 x0 x1 x2 hsrc
  have c0 : w5.cell? ⟨p, 0, none⟩ = some (.slice ad L cap) := (ho5.second.cell 0).trans rfl
  have f0 := ho5.second.free 0 none
  obtain ⟨x0, x1, x2⟩ := ho5.fourth.pk
  simp only at x0 x1 x2
  have HF := Lib.hid (nt_app (q := (a, b, d)) HL.out ho5)
  rw [← HS.out] at HF
  clear ho5
  refine hK _ _ ⟨⟨c0, x0, x1, x2⟩, ?_⟩
  clear hK K
  go_simp
  repeat (refine wpMix_read ?_ rfl ?_ ?_; rotate_left; (focus (intro _ hS; obtain ⟨s1, s2, s3, s4⟩ := hS; first | with_reducible rfl | (go_simp; done) | (go_simp; with_reducible rfl) | rfl)); go_simp)
  refine wpMix_nil ?_
  go_wp2_with fail
  refine NoPanic.normal ?_
  go_wp2
  go_ret
  exact ⟨rfl, HF.out.second.drop.second.drop⟩
end Go.Proofs.YtldmdenojpnldaaDoor
