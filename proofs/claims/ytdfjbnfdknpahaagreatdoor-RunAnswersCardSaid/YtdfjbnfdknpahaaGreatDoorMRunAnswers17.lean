/- Contracts of package net. -/
import Derived.Test.YtdfjbnfdknpahaaGreatDoorMRunAnswers5
import Derived.Test.YtdfjbnfdknpahaaGreatDoorMRunAnswers15
import Derived.Test.YtdfjbnfdknpahaaGreatDoorMRunAnswers2
import Derived.Test.YtdfjbnfdknpahaaGreatDoorMRunAnswers13
import Derived.Test.YtdfjbnfdknpahaaGreatDoorMRunAnswers7
import Derived.Deep.DeepCutAuto
import Derived.Deep.CutBlock
import Derived.Test.YtdfjbnfdknpahaaGreatDoorMRunAnswers9
namespace Go.Proofs.YtdfjbnfdknpahaaGreatDoor
set_option linter.unusedVariables false
set_option linter.unusedSimpArgs false
open Go.RowKit Go.Maps
theorem nway_lits (n : Nat) (a b : Int) (ha : I64 a) (hb : I64 b) : Tryz.prog.keyLits (n + 2) 193 [.int .i64 a, .int .i64 b] = some [.int .i64 a, .int .i64 b] := by
  have h1 : Tryz.prog.cellsOf 193 = 2 := by kernel_rfl
  have h2 : Tryz.prog.cellsOf 3 = 1 := by kernel_rfl
  simp [Program.keyLits, Tryz.underlying193, Tryz.underlying3, h1, h2, I64_wf ha, I64_wf hb]
theorem nway_ke : KE Tryz.prog 193 plV plOk where
  keyed := Keyed.of_law (deep_law (m := 2) (by omega) (by kernel_rfl) (by kernel_rfl) (by rw [Tryz.underlying193]))
  has := fun x hx => by
    have h1 : Tryz.prog.cellsOf 193 = 2 := by kernel_rfl
    have h2 : Tryz.prog.keyType 193 = true := by kernel_rfl
    have h3 : 0 < Tryz.prog.types.size := of_decide_eq_true (by kernel_rfl)
    obtain ⟨m, hm⟩ := Nat.exists_eq_succ_of_ne_zero (Nat.ne_of_gt h3)
    refine ⟨.string (keyBytes [.int .i64 x.1, .int .i64 x.2]), ?_⟩
    unfold keyOf
    rw [Tryz.underlying193]
    simp [h2, hm, plV, Value.formed, Tryz.underlying193, h1, Value.cells, nway_lits m _ _ hx.1 hx.2]
  inj := fun x y h => by
    unfold plV at h
    simp at h
    exact Prod.ext h.1 h.2
theorem mapw_made : ∀ w, (Instr.makeMap 120 none).run Tryz.prog w = .ok (.map (some w.heap.size)) (w.alloc (.map #[] 0)) := fun _ => by kernel_rfl
theorem mapw_kind : Tryz.prog.underlying 120 = some (.map 193 4) := by kernel_rfl
theorem info_pk : (Tryz.prog.info? 79).map (fun i => (i.zero, i.size, i.bytes)) = some (some (.agg #[.int .i64 0, .int .i64 0, .int .i64 0]), 3, 24) := by kernel_rfl
abbrev PkSl (v : Value) (l : List Ev) : HProp := Sl 79 3 v l.length (l.flatMap evCells)
def PkO (b : Nat) (x : Ev) : HProp := blk b (.cells #[.int .i64 x.1, .int .i64 x.2.1, .int .i64 x.2.2] 79 (0, 0))
theorem Own.pk {w0 w : World} {b : Nat} {x : Ev} {R : HProp} (h : Own w0 (PkO b x * R) w) : w.cell? ⟨b, 0, none⟩ = some (.int .i64 x.1) ∧ w.cell? ⟨b, 1, none⟩ = some (.int .i64 x.2.1) ∧ w.cell? ⟨b, 2, none⟩ = some (.int .i64 x.2.2) :=
  ⟨(Own.cell h 0).trans rfl, (Own.cell h 1).trans rfl, (Own.cell h 2).trans rfl⟩
abbrev ntBlk (p mb : Nat) (v : Value) : HProp := blk p (.cells #[v, .map (some mb)] 122 (0, 0))
abbrev WMp := Mp plV plOk
def NtO (p mb : Nat) (v : Value) (s : Nt) : HProp := ntBlk p mb v * (PkSl v s.all * WMp mb (setW s.cut))
def NtP (p : Nat) (s : Nt) : HProp := hex fun x : Nat × Value => NtO p x.1 x.2 s
theorem Own.nt_open {w0 w : World} {p : Nat} {s : Nt} {R : HProp} (h : Own w0 (NtP p s * R) w) : ∃ mb ad cap, s.all.length ≤ cap ∧ cap ≤ 9223372036854775807 ∧ Own w0 (NtO p mb (.slice ad s.all.length cap) s * R) w := by
  obtain ⟨⟨mb, v⟩, h⟩ := Own.ex h
  have h2 : Own w0 (PkSl v s.all * (ntBlk p mb v * (WMp mb (setW s.cut) * R))) w := h.perm (by unfold NtO; ac_rfl)
  obtain ⟨ad, cap, rfl, h3, h4, _⟩ := Own.rd h2
  exact ⟨mb, ad, cap, h3, by unfold maxLen at h4; omega, h⟩
theorem Own.nt_close {w0 w : World} {p mb : Nat} {v : Value} {s : Nt} {R : HProp} (h : Own w0 (NtO p mb v s * R) w) : Own w0 (NtP p s * R) w := Own.ex_mk (mb, v) h
section
variable {w0 w : World} {p mb : Nat} {v : Value} {s : Nt} {R : HProp}
theorem Own.nt_blk (h : Own w0 (NtO p mb v s * R) w) : Own w0 (ntBlk p mb v * (PkSl v s.all * (WMp mb (setW s.cut) * R))) w := h.perm (by unfold NtO; ac_rfl)
theorem Own.nt_all (h : Own w0 (NtO p mb v s * R) w) : Own w0 (PkSl v s.all * (ntBlk p mb v * (WMp mb (setW s.cut) * R))) w := h.perm (by unfold NtO; ac_rfl)
theorem Own.nt_cut (h : Own w0 (NtO p mb v s * R) w) : Own w0 (WMp mb (setW s.cut) * (ntBlk p mb v * (PkSl v s.all * R))) w := h.perm (by unfold NtO; ac_rfl)
theorem Own.nt_facts (h : Own w0 (NtO p mb v s * R) w) : w.cell? ⟨p, 0, none⟩ = some v ∧ w.cell? ⟨p, 1, none⟩ = some (.map (some mb)) ∧ ∀ i t, w.frozen? ⟨p, i, t⟩ = false :=
  ⟨(h.nt_blk.cell 0).trans rfl, (h.nt_blk.cell 1).trans rfl, fun i t => h.nt_blk.free i t⟩
theorem Own.nt_look (h : Own w0 (NtO p mb v s * R) w) (x : Int × Int) (hx : plOk x) : (Instr.lookup 120 (.map (some mb)) (plV x) false).run Tryz.prog w = .ok (.bool (decide (x ∈ s.cut))) w := by
  have h1 := h.nt_cut.map_look nway_ke mapw_kind bool_zero hx false
  rw [mget_setW, if_neg (by decide)] at h1
  exact h1
end
theorem pk_good {p : Ev} (h : pkErr p = 0) : goodEv p := by
  obtain ⟨h1, h2, h3, _⟩ := pkErr0 h
  simp [isMember] at h1 h2
  simp [isWord] at h3
  unfold goodEv I64
  omega
theorem NtI.good {s : Nt} (h : NtI s) : ∀ q ∈ s.all, goodEv q := fun q hq => pk_good (h.ok q hq)
theorem PkSl_reads {w0 : World} {R : HProp} {v : Value} {l : List Ev} (hg : ∀ e ∈ l, goodEv e) : ReadsE w0 (PkSl v l * R) v l := fun _ ho => ⟨Own.rd ho, hg⟩
set_option maxRecDepth 100000 in
set_option maxHeartbeats 4000000 in
theorem ntNew_any {w0 w : World} {R : HProp} (h : Own w0 R w) :
    Calls Tryz.prog 32 #[] w fun e w' => ∃ p, e = .returned (.pointer (some ⟨p, 0, none⟩)) ∧ Own w0 (NtP p ⟨[], []⟩ * R) w' := by
  have hm := mapw_made
  have H := Lib.hid h
  clear h
  go_enter Tryz.func32, Tryz.ntmps32
  go_wp2
  go_ret
  refine ⟨_, rfl, ?_⟩
  have h1 := (H.out.map_new (enc := plV) (ok := plOk)).alloc (.cells #[.slice none 0 0, .map (some w.heap.size)] 122)
  refine Own.nt_close (mb := w.heap.size) (v := .slice none 0 0) ((h1.sl_nil 79 3).perm ?_)
  unfold NtO ntBlk PkSl WMp
  simp only [World.size_alloc, setW, List.map_nil, List.length_nil, List.flatMap_nil]
  ac_rfl
set_option maxRecDepth 100000 in
set_option maxHeartbeats 4000000 in
theorem between_any {w0 w : World} {R : HProp} (a b : Int) (h : Own w0 R w) :
    Calls Tryz.prog 99 #[.int .i64 a, .int .i64 b] w fun e w' => e = .returned (plV (wayOf a b)) ∧ Own w0 R w' := by
  have H := Lib.hid h
  clear h
  go_enter Tryz.func99, Tryz.ntmps99
  go_wp2_with fail
  all_goals exact bodyPost_ret (v := .agg #[.int .i64 (min a b), .int .i64 (max a b)]) (by first | (simp [results, Tryz.results99, go_sem]; done) | (simp [results, Tryz.results99, go_sem]; omega)) rfl ⟨rfl, H.out.alloc' _⟩
set_option maxRecDepth 100000 in
set_option maxHeartbeats 4000000 in
theorem ntHas_any {w0 w : World} {R : HProp} (p : Nat) (s : Nt) (i : Int) (h : Own w0 (NtP p s * R) w) :
    Calls Tryz.prog 98 #[.pointer (some ⟨p, 0, none⟩), .int .i64 i] w fun e w' => e = .returned (.bool (ntHas s i)) ∧ w = w' := by
  obtain ⟨mb, ad, cap, h3, h4, ho⟩ := h.nt_open
  obtain ⟨c0, _⟩ := ho.nt_facts
  by_cases h0 : 0 ≤ i
  · have t0 : decide (0 ≤ i) = true := by simpa using h0
    have hh : ntHas s i = decide (i < (s.all.length : Int)) := by unfold ntHas inR; rw [t0]; rfl
    rw [hh]
    have H := Lib.hid h; have HO := Lib.hid ho; have HH := Lib.hid hh
    clear h ho hh
    go_enter Tryz.func98, Tryz.ntmps98
    go_wp2
    go_ret
    exact ⟨rfl, rfl⟩
  · have t0 : decide (0 ≤ i) = false := by simpa using h0
    have hh : ntHas s i = false := by unfold ntHas inR; rw [t0]; rfl
    rw [hh]
    have H := Lib.hid h; have HO := Lib.hid ho; have HH := Lib.hid hh
    clear h ho hh
    go_enter Tryz.func98, Tryz.ntmps98
    go_wp2
    go_ret
    exact ⟨rfl, rfl⟩
theorem nt_app {w0 w : World} {p mb : Nat} {ad : Option Addr} {cap : Nat} {s : Nt} {q : Ev} {v' : Value} {L : Nat} {R : HProp} (hL : L = s.all.length)
    (h : Own w0 (Sl 79 3 v' (L + 1) (s.all.flatMap evCells ++ evCells q) * (ntBlk p mb (.slice ad L cap) * (WMp mb (setW s.cut) * R))) w) : Own w0 (NtP p { s with all := s.all ++ [q] } * R) (w.setCell ⟨p, 0, none⟩ v') := by
  subst hL
  have h1 := h.second.setCell (i := 0) (v := v')
  refine Own.nt_close (mb := mb) (v := v') (h1.perm ?_)
  unfold NtO PkSl ntBlk
  rw [List.length_append, List.flatMap_append]
  simp only [List.length_singleton, List.flatMap_cons, List.flatMap_nil, List.append_nil]
  show (blk p (.cells #[v', .map (some mb)] 122 (0, 0)) * _ : HProp) = _
  ac_rfl
set_option maxRecDepth 100000 in
set_option maxHeartbeats 4000000 in
theorem ntSend_any {w0 w : World} {R : HProp} (p : Nat) (s : Nt) (q : Ev) (hI : NtI s) (h : Own w0 (NtP p s * R) w) :
    Calls Tryz.prog 76 #[.pointer (some ⟨p, 0, none⟩), evV q] w fun e w' => e = .returned (errV (ntErr s q)) ∧ Own w0 (NtP p (ntSend s q) * R) w' := by
  obtain ⟨a, b, d⟩ := q
  obtain ⟨E, hE⟩ : ∃ E, E = ntErr s (a, b, d) := ⟨_, rfl⟩
  obtain ⟨S, hS⟩ : ∃ S, S = ntSend s (a, b, d) := ⟨_, rfl⟩
  rw [← hE, ← hS]
  unfold ntSend at hS
  rw [← hE] at hS
  unfold ntErr pkErr at hE
  simp only at hE
  unfold evV
  dsimp only
  obtain ⟨mb, ad, cap, h3, h4, ho0⟩ := h.nt_open
  obtain ⟨b1, hb_b1⟩ : ∃ zz_, zz_ = (w).heap.size := ⟨_, rfl⟩
  obtain ⟨w1, hw_w1⟩ : ∃ zz_, zz_ = (w).alloc (.cells #[.int .i64 a, .int .i64 b, .int .i64 d] 79 (0, 0)) := ⟨_, rfl⟩
  have h_HO := (ho0).alloc (.cells #[.int .i64 a, .int .i64 b, .int .i64 d] 79 (0, 0))
  rw [← hb_b1, ← hw_w1] at h_HO
  have HO := Lib.hid h_HO
  clear h_HO
  have HO1 : Hid (Own w0 (NtO p mb (.slice ad s.all.length cap) s * (PkO b1 (a, b, d) * R)) w1) := Lib.hid HO.out.second
  obtain ⟨x0, x1, x2⟩ := HO1.out.second.pk
  obtain ⟨c0, c1, cf⟩ := HO1.out.nt_facts
  simp only at x0 x1 x2
  have fin : ∀ w', Own w0 (NtO p mb (.slice ad s.all.length cap) s * (PkO b1 (a, b, d) * R)) w' → Own w0 (NtP p s * R) w' := fun w' ho => ho.second.drop.nt_close
  have hlen := hI.len
  obtain ⟨L, hL⟩ : ∃ L, L = s.all.length := ⟨_, rfl⟩
  rw [← hL] at hlen h3 c0 HO1 fin hE
  clear h ho0 HO
  have HL := Lib.hid hL; have FIN := Lib.hid fin; have CF := Lib.hid cf; have HI := Lib.hid hI
  clear hL fin cf hI
  cases hma : isMember a
  · rw [hma, if_pos rfl, if_pos (by decide)] at hE
    subst hE
    rw [if_neg (by decide)] at hS
    subst hS
    have HMA := Lib.hid hma
    clear hma
    go_enter Tryz.func76, Tryz.ntmps76
    go_upto_region 1 with fail
    rw [← hb_b1, ← hw_w1]
    clear hb_b1 hw_w1
    go_wp2_with fail
    refine (member_any _ _).mono ?_
    rintro e w' ⟨rfl, rfl⟩
    rw [HMA.out]
    go_wp2
    go_ret
    exact ⟨rfl, FIN.out _ HO1.out⟩
  rw [hma, if_neg (show ¬ true = false by simp)] at hE
  cases hmb : isMember b
  · rw [hmb, if_pos rfl, if_pos (by decide)] at hE
    subst hE
    rw [if_neg (by decide)] at hS
    subst hS
    have HMA := Lib.hid hma; have HMB := Lib.hid hmb
    clear hma hmb
    go_enter Tryz.func76, Tryz.ntmps76
    go_upto_region 1 with fail
    rw [← hb_b1, ← hw_w1]
    clear hb_b1 hw_w1
    go_wp2_with fail
    refine (member_any _ _).mono ?_
    rintro e w' ⟨rfl, rfl⟩
    rw [HMA.out]
    go_wp2_with fail
    refine (member_any _ _).mono ?_
    rintro e w' ⟨rfl, rfl⟩
    rw [HMB.out]
    go_wp2
    go_ret
    exact ⟨rfl, FIN.out _ HO1.out⟩
  rw [hmb, if_neg (show ¬ true = false by simp)] at hE
  cases hmw : isWord d
  · rw [hmw, if_pos rfl, if_pos (by decide)] at hE
    subst hE
    rw [if_neg (by decide)] at hS
    subst hS
    have HMA := Lib.hid hma; have HMB := Lib.hid hmb; have HMW := Lib.hid hmw
    clear hma hmb hmw
    go_enter Tryz.func76, Tryz.ntmps76
    go_upto_region 1 with fail
    rw [← hb_b1, ← hw_w1]
    clear hb_b1 hw_w1
    go_wp2_with fail
    refine (member_any _ _).mono ?_
    rintro e w' ⟨rfl, rfl⟩
    rw [HMA.out]
    go_wp2_with fail
    refine (member_any _ _).mono ?_
    rintro e w' ⟨rfl, rfl⟩
    rw [HMB.out]
    go_wp2_with fail
    refine (word_any _ _).mono ?_
    rintro e w' ⟨rfl, rfl⟩
    rw [HMW.out]
    go_wp2
    go_ret
    exact ⟨rfl, FIN.out _ HO1.out⟩
  rw [hmw, if_neg (show ¬ true = false by simp)] at hE
  by_cases hab : a = b
  · rw [if_pos hab, if_pos (by decide)] at hE
    subst hE
    rw [if_neg (by decide)] at hS
    subst hS
    have t1 : (a == b) = true := by simpa using hab
    have HMA := Lib.hid hma; have HMB := Lib.hid hmb; have HMW := Lib.hid hmw; have HAB := Lib.hid hab
    clear hma hmb hmw hab
    go_enter Tryz.func76, Tryz.ntmps76
    go_upto_region 1 with fail
    rw [← hb_b1, ← hw_w1]
    clear hb_b1 hw_w1
    go_wp2_with fail
    refine (member_any _ _).mono ?_
    rintro e w' ⟨rfl, rfl⟩
    rw [HMA.out]
    go_wp2_with fail
    refine (member_any _ _).mono ?_
    rintro e w' ⟨rfl, rfl⟩
    rw [HMB.out]
    go_wp2_with fail
    refine (word_any _ _).mono ?_
    rintro e w' ⟨rfl, rfl⟩
    rw [HMW.out]
    go_wp2
    go_ret
    exact ⟨rfl, FIN.out _ HO1.out⟩
  rw [if_neg hab, if_neg (by simp)] at hE
  have t1 : (a == b) = false := by simpa using hab
  by_cases h40 : 40 ≤ L
  · rw [if_pos h40] at hE
    subst hE
    rw [if_neg (by decide)] at hS
    subst hS
    have t2 : decide ((40 : Int) ≤ (L : Int)) = true := decide_eq_true (by omega)
    have HMA := Lib.hid hma; have HMB := Lib.hid hmb; have HMW := Lib.hid hmw; have HAB := Lib.hid hab
    clear hma hmb hmw hab
    go_enter Tryz.func76, Tryz.ntmps76
    go_upto_region 1 with fail
    rw [← hb_b1, ← hw_w1]
    clear hb_b1 hw_w1
    go_wp2_with fail
    refine (member_any _ _).mono ?_
    rintro e w' ⟨rfl, rfl⟩
    rw [HMA.out]
    go_wp2_with fail
    refine (member_any _ _).mono ?_
    rintro e w' ⟨rfl, rfl⟩
    rw [HMB.out]
    go_wp2_with fail
    refine (word_any _ _).mono ?_
    rintro e w' ⟨rfl, rfl⟩
    rw [HMW.out]
    go_wp2
    go_ret
    exact ⟨rfl, FIN.out _ HO1.out⟩
  rw [if_neg h40] at hE
  subst hE
  rw [if_pos rfl] at hS
  have t2 : decide ((40 : Int) ≤ (L : Int)) = false := decide_eq_false (by omega)
  have HOA : Hid (Own w0 (Sl 79 3 (.slice ad L cap) L (s.all.flatMap evCells) * (ntBlk p mb (.slice ad L cap) * (WMp mb (setW s.cut) * (PkO b1 (a, b, d) * R)))) w1) := Lib.hid (HO1.out.nt_all.perm (by unfold PkSl; rw [← HL.out]))
  have HMA := Lib.hid hma; have HMB := Lib.hid hmb; have HMW := Lib.hid hmw; have HAB := Lib.hid hab; have HS := Lib.hid hS
  clear hma hmb hmw hab hS
  go_enter Tryz.func76, Tryz.ntmps76
  go_upto_region 1 with fail
  rw [← hb_b1, ← hw_w1]
  clear hb_b1 hw_w1
  go_wp2_with fail
  refine (member_any _ _).mono ?_
  rintro e w' ⟨rfl, rfl⟩
  rw [HMA.out]
  go_wp2_with fail
  refine (member_any _ _).mono ?_
  rintro e w' ⟨rfl, rfl⟩
  rw [HMB.out]
  go_wp2_with fail
  refine (word_any _ _).mono ?_
  rintro e w' ⟨rfl, rfl⟩
  rw [HMW.out]
  go_upto_region 7 with fail
  refine wp_region_planH 10 [] [(true, 0), (true, 1), (true, 2), (true, 3), (true, 4), (true, 5), (false, 6), (false, 7), (true, 8), (true, 9)] [10] (fun wS => wS.cell? ⟨p, 0, none⟩ = some (.slice ad L cap) ∧ wS.cell? ⟨b1, 0, none⟩ = some (.int .i64 a) ∧ wS.cell? ⟨b1, 1, none⟩ = some (.int .i64 b) ∧ wS.cell? ⟨b1, 2, none⟩ = some (.int .i64 d)) (by kernel_rfl) (by kernel_rfl) (⟨c0, x0, x1, x2⟩) ?_
  simp only [pickH, pick, List.getElem?_cons_succ, List.getElem?_cons_zero, Option.toList, Option.map_some, List.cons_append, List.nil_append]
  repeat (refine wpPure_step ?_ rfl ?_ ?_; rotate_left; (focus (intro _; first | with_reducible rfl | (go_simp; done) | (go_simp; with_reducible rfl) | rfl)); go_simp)
  refine wpPure_nil ?_
  repeat (refine wpMix_read ?_ rfl ?_ ?_; rotate_left; (focus (intro _ hS; obtain ⟨s1, s2, s3, s4⟩ := hS; first | with_reducible rfl | (go_simp; done) | (go_simp; with_reducible rfl) | rfl)); go_simp)
  refine wpMix_write (fun K hK => ?_)
  go_simp
  obtain ⟨b2, hb_b2⟩ : ∃ zz_, zz_ = (w1).heap.size := ⟨_, rfl⟩
  obtain ⟨w2, hw_w2⟩ : ∃ zz_, zz_ = (w1).alloc (.cells #[.int .i64 a, .int .i64 b, .int .i64 d] 79 (0, 0)) := ⟨_, rfl⟩
  have h_HB := (HOA.out).alloc (.cells #[.int .i64 a, .int .i64 b, .int .i64 d] 79 (0, 0))
  rw [← hb_b2, ← hw_w2] at h_HB
  have HB := Lib.hid h_HB
  clear h_HB
  rw [← hb_b2, ← hw_w2]
  clear hb_b2 hw_w2
  have HB2 : Hid (Own w0 (Sl 79 3 (.slice ad L cap) L (s.all.flatMap evCells) * (ntBlk p mb (.slice ad L cap) * (WMp mb (setW s.cut) * (PkO b1 (a, b, d) * (PkO b2 (a, b, d) * R))))) w2.drew) := Lib.hid (HB.out.drew.perm (by unfold PkO; ac_rfl))
  clear HB HOA c0 c1 x0 x1 x2
  have c0 : w2.drew.cell? ⟨p, 0, none⟩ = some (.slice ad L cap) := (HB2.out.second.cell 0).trans rfl
  obtain ⟨x0, x1, x2⟩ := HB2.out.fourth.pk
  simp only at x0 x1 x2
  refine hK _ _ ⟨⟨c0, x0, x1, x2⟩, ?_⟩
  clear hK K
  go_simp
  refine wpMix_write (fun K hK => ?_)
  have hsrc : Rd w2.drew (.slice (some ⟨b2, 0, none⟩) 1 1) 1 [.int .i64 a, .int .i64 b, .int .i64 d] := Rd_one (fun i u hi => by
    rw [HB2.out.fifth.cell]
    match i, hi with
    | 0, hi => exact hi
    | 1, hi => exact hi
    | 2, hi => exact hi) (Nat.le_refl _) (by unfold maxLen; omega)
  refine step_app rfl _ _ 51 rfl 79 3 24 _ info_pk Tryz.underlying51 rfl (by decide) (by rfl) HB2.out (by rfl) (by rfl) hsrc (by intro u hu; simp at hu; rcases hu with rfl | rfl | rfl <;> rfl) (by unfold maxLen; omega) (by omega) ?_
  intro v5 w5 ho5
  obtain ⟨ad5, cp5, hv5, _⟩ := Own.rd ho5
  subst hv5
  clear c0 x0 x1 x2 hsrc
  have c0 : w5.cell? ⟨p, 0, none⟩ = some (.slice ad L cap) := (ho5.second.cell 0).trans rfl
  have f0 := ho5.second.free 0 none
  obtain ⟨x0, x1, x2⟩ := ho5.fourth.pk
  simp only at x0 x1 x2
  have HF := Lib.hid (nt_app (q := (a, b, d)) HL.out ho5)
  rw [← HS.out] at HF
  clear ho5
  refine hK _ _ ⟨⟨c0, x0, x1, x2⟩, ?_⟩
  clear hK K
  go_simp
  repeat (refine wpMix_read ?_ rfl ?_ ?_; rotate_left; (focus (intro _ hS; obtain ⟨s1, s2, s3, s4⟩ := hS; first | with_reducible rfl | (go_simp; done) | (go_simp; with_reducible rfl) | rfl)); go_simp)
  refine wpMix_nil ?_
  go_wp2_with fail
  refine NoPanic.normal ?_
  go_wp2
  go_ret
  exact ⟨rfl, HF.out.second.drop.second.drop⟩
end Go.Proofs.YtdfjbnfdknpahaaGreatDoor
/- Contracts of package net, continued: All, Drop, Give, Twice, Cut. -/
namespace Go.Proofs.YtdfjbnfdknpahaaGreatDoor
set_option linter.unusedVariables false
set_option linter.unusedSimpArgs false
open Go.RowKit Go.Maps
set_option maxRecDepth 100000 in
set_option maxHeartbeats 4000000 in
theorem clonePk_any {w0 w : World} {R : HProp} (v : Value) (l : List Ev) (hl : Evs w v l) (hb : l.length ≤ 1000) (h : Own w0 R w) :
    Calls Tryz.prog 96 #[v] w fun e w' => ∃ v', e = .returned v' ∧ Own w0 (PkSl v' l * R) w' := by
  obtain ⟨⟨ad, cap, rfl, hlc, hcap, hn, hc⟩, hi⟩ := id hl
  cases ad with
  | none =>
    have h0 := hn rfl
    subst h0
    have hl0 : l = [] := List.eq_nil_of_length_eq_zero (by omega)
    subst hl0
    clear hn hc hi hl hlc hcap hb
    have hnil := fun (w : World) => Lib.run_eql_slice_nil (P := Tryz.prog) w 51 79 none 0 0 0 0 Tryz.underlying51
    go_enter Tryz.func96, Tryz.ntmps96
    go_wp2
    go_ret
    exact ⟨_, rfl, h.sl_nil _ _⟩
  | some a =>
    have hnil := fun (w : World) => Lib.run_eql_slice_nil (P := Tryz.prog) w 51 79 (some a) l.length cap 0 0 Tryz.underlying51
    have H := Lib.hid h
    have HL := Lib.hid hl
    have HS : Hid (Own w0 (Sl 79 3 (.slice (some ⟨w.heap.size, 0, none⟩) 0 0) 0 [] * R) (w.alloc (.cells #[] 79))) := Lib.hid (Own.sl_mk (cs := #[]) (Nat.le_refl _) (Nat.zero_le _) rfl (Nat.le_refl _) (fun i hi => by simp at hi) (h.alloc _))
    clear hn hc hi hl h
    go_enter Tryz.func96, Tryz.ntmps96
    go_wp2_with (at_builtin; refine wpList_app rfl _ _ 51 rfl 79 3 24 _ info_pk Tryz.underlying51 rfl (by decide) rfl HS.out rfl (cells_len evCells 3 (fun _ => rfl) _) ((HL.out.1).alloc _) (ev_one _) (by unfold maxLen; omega) (by omega) ?_; intro v' w1 hown')
    go_ret
    exact ⟨_, rfl, by unfold PkSl; simpa using hown'⟩
set_option maxRecDepth 100000 in
set_option maxHeartbeats 4000000 in
theorem ntAll_any {w0 w : World} {R : HProp} (p : Nat) (s : Nt) (hI : NtI s) (h : Own w0 (NtP p s * R) w) :
    Calls Tryz.prog 74 #[.pointer (some ⟨p, 0, none⟩)] w fun e w' => ∃ v', e = .returned v' ∧ Own w0 (PkSl v' s.all * (NtP p s * R)) w' := by
  obtain ⟨mb, ad, cap, h3, h4, ho⟩ := h.nt_open
  obtain ⟨c0, _⟩ := ho.nt_facts
  have hrd : Evs w (.slice ad s.all.length cap) s.all := PkSl_reads hI.good _ ho.nt_all
  have hlen : s.all.length ≤ 1000 := by have := hI.len; omega
  have H := Lib.hid h; have HO := Lib.hid ho; have HI := Lib.hid hI; have HRD := Lib.hid hrd
  clear h ho hI hrd
  go_enter Tryz.func74, Tryz.ntmps74
  go_wp2_with fail
  refine (clonePk_any _ _ HRD.out hlen H.out).mono ?_
  rintro e w' ⟨v', rfl, ho⟩
  have HO2 := Lib.hid ho
  clear ho
  go_wp2
  go_ret
  exact ⟨_, rfl, HO2.out⟩
theorem cells_erase {α : Type} (f : α → List Value) (sz : Nat) (hf : ∀ x, (f x).length = sz) : ∀ (l : List α) (i : Nat), i < l.length → (l.eraseIdx i).flatMap f = (l.flatMap f).take (i * sz) ++ (l.flatMap f).drop ((i + 1) * sz)
  | x :: r, 0, _ => by
    simp only [List.eraseIdx_cons_zero, Nat.zero_mul, List.take_zero, List.nil_append, Nat.zero_add, Nat.one_mul, List.flatMap_cons]
    rw [List.drop_left' (hf x)]
  | x :: r, i + 1, hi => by
    have ih := cells_erase f sz hf r i (by simpa using hi)
    have e1 : (f x ++ r.flatMap f).take ((i + 1) * sz) = f x ++ (r.flatMap f).take (i * sz) := by
      rw [List.take_append, List.take_of_length_le (l := f x) (by rw [hf x, Nat.succ_mul]; omega), hf x, show (i + 1) * sz - sz = i * sz by rw [Nat.succ_mul]; omega]
    have e2 : (f x ++ r.flatMap f).drop ((i + 1 + 1) * sz) = (r.flatMap f).drop ((i + 1) * sz) := by
      rw [List.drop_append, List.drop_eq_nil_of_le (show (f x).length ≤ (i + 1 + 1) * sz by rw [hf x, Nat.succ_mul]; omega), hf x, List.nil_append, show (i + 1 + 1) * sz - sz = (i + 1) * sz by rw [Nat.succ_mul (i + 1)]; omega]
    simp only [List.eraseIdx_cons_succ, List.flatMap_cons]
    rw [ih, e1, e2, List.append_assoc]
theorem nt_del_end {w0 w : World} {p mb b off cap i : Nat} {v : Value} {s : Nt} {R : HProp} (hi : i < s.all.length)
    (h : Own w0 (SlAt 79 3 b off (s.all.length - 1) cap ((s.all.flatMap evCells).take (i * 3) ++ (s.all.flatMap evCells).drop ((i + 1) * 3)) * (ntBlk p mb v * (WMp mb (setW s.cut) * R))) w) :
    Own w0 (NtP p (ntOut s i) * R) (w.setCell ⟨p, 0, none⟩ (.slice (some ⟨b, off, none⟩) (s.all.length - 1) cap)) := by
  rw [← cells_erase evCells 3 (fun _ => rfl) s.all i hi] at h
  have h1 := h.sl_of_at.second.setCell (i := 0) (v := .slice (some ⟨b, off, none⟩) (s.all.length - 1) cap)
  refine Own.nt_close (mb := mb) (v := .slice (some ⟨b, off, none⟩) (s.all.length - 1) cap) (h1.perm ?_)
  unfold NtO PkSl ntBlk ntOut
  rw [Int.toNat_natCast, List.length_eraseIdx_of_lt hi]
  show (blk p (.cells #[.slice (some ⟨b, off, none⟩) (s.all.length - 1) cap, .map (some mb)] 122 (0, 0)) * _ : HProp) = _
  ac_rfl
/-- A packet of an owned row. -/
theorem Own.nt_at {w0 w : World} {p mb i : Nat} {v : Value} {s : Nt} {R : HProp} (hi : i < s.all.length) (h : Own w0 (NtO p mb v s * R) w) :
    ∃ b off cap, v = .slice (some ⟨b, off, none⟩) s.all.length cap ∧ s.all.length ≤ cap ∧ cap ≤ 9223372036854775807 ∧ w.cell? ⟨b, off + i * 3, none⟩ = some (.int .i64 (ntAt s i).1) ∧ w.cell? ⟨b, off + i * 3 + 1, none⟩ = some (.int .i64 (ntAt s i).2.1) ∧ w.cell? ⟨b, off + i * 3 + 2, none⟩ = some (.int .i64 (ntAt s i).2.2) ∧
      Own w0 (SlAt 79 3 b off s.all.length cap (s.all.flatMap evCells) * (ntBlk p mb v * (WMp mb (setW s.cut) * R))) w := by
  have hl : (s.all.flatMap evCells).length = s.all.length * 3 := cells_len evCells 3 (fun _ => rfl) _
  obtain ⟨b, off, cap, hv, h2⟩ := h.nt_all.slAt (by omega)
  obtain ⟨h3, h4, _, hc, _⟩ := h2.slAt_facts
  have hx : ntAt s i = s.all[i] := by
    unfold ntAt
    rw [List.getD_eq_getElem?_getD, Int.toNat_natCast, List.getElem?_eq_getElem hi]; rfl
  rw [hx]
  refine ⟨b, off, cap, hv, h3, by unfold maxLen at h4; omega, ?_, ?_, ?_, h2⟩
  · exact hc (i * 3) _ (ev_get s.all i 0 hi (by omega))
  · rw [Nat.add_assoc]; exact hc (i * 3 + 1) _ (ev_get s.all i 1 hi (by omega))
  · rw [Nat.add_assoc]; exact hc (i * 3 + 2) _ (ev_get s.all i 2 hi (by omega))
set_option maxRecDepth 100000 in
set_option maxHeartbeats 4000000 in
theorem ntDrop_any {w0 w : World} {R : HProp} (p : Nat) (s : Nt) (i : Int) (hI : NtI s) (h : Own w0 (NtP p s * R) w) :
    Calls Tryz.prog 81 #[.pointer (some ⟨p, 0, none⟩), .int .i64 i] w fun e w' => e = .returned (errV (ntDropErr s i)) ∧ Own w0 (NtP p (ntDrop s i) * R) w' := by
  cases hh : ntHas s i
  · have hE : ntDropErr s i = 1 := by unfold ntDropErr; rw [hh]; rfl
    have hS : ntDrop s i = s := by unfold ntDrop; rw [hE]; rfl
    rw [hE, hS]
    have HE := Lib.hid hE; have HS := Lib.hid hS; have HI := Lib.hid hI; have H := Lib.hid h
    clear hE hS hI h
    go_enter Tryz.func81, Tryz.ntmps81
    go_wp2_with fail
    refine (ntHas_any p s i H.out).mono ?_
    rintro e w' ⟨rfl, rfl⟩
    rw [hh]
    go_wp2
    go_ret
    exact ⟨rfl, H.out⟩
  have hE : ntDropErr s i = 0 := by unfold ntDropErr; rw [hh]; rfl
  have hS : ntDrop s i = ntOut s i := by unfold ntDrop; rw [hE]; rfl
  rw [hE, hS]
  obtain ⟨hi0, hi1⟩ := ntHas_iff.1 hh
  obtain ⟨k, rfl⟩ : ∃ k : Nat, i = (k : Int) := ⟨i.toNat, by omega⟩
  have hk : k < s.all.length := by omega
  have hlen := hI.len
  obtain ⟨mb, ad, cap0, h3, h4, ho⟩ := h.nt_open
  obtain ⟨c0, c1, cf⟩ := ho.nt_facts
  obtain ⟨b, off, cap, hv, h5, h6, _, _, _, hsl⟩ := ho.nt_at hk
  rw [hv] at c0
  obtain ⟨L, hL⟩ : ∃ L, L = s.all.length := ⟨_, rfl⟩
  rw [← hL] at hk hlen h3 h5 c0 hsl
  have hfin : ∀ w' R', Own w0 (SlAt 79 3 b off (L - 1) cap ((s.all.flatMap evCells).take (k * 3) ++ (s.all.flatMap evCells).drop ((k + 1) * 3)) * (ntBlk p mb (.slice ad L cap0) * (WMp mb (setW s.cut) * R'))) w' → Own w0 (NtP p (ntOut s k) * R') (w'.setCell ⟨p, 0, none⟩ (.slice (some ⟨b, off, none⟩) (L - 1) cap)) := fun w' R' h' => by
    rw [hL] at h' ⊢
    exact nt_del_end (by omega) h'
  have HE := Lib.hid hE; have HS := Lib.hid hS; have HI := Lib.hid hI; have H := Lib.hid h; have HO := Lib.hid ho; have CF := Lib.hid cf; have HV := Lib.hid hv; have HL := Lib.hid hL; have HFIN := Lib.hid hfin; have HSL := Lib.hid hsl
  clear hE hS hI h ho cf hv hL hfin hsl
  go_enter Tryz.func81, Tryz.ntmps81
  go_wp2_with fail
  refine (ntHas_any p s _ H.out).mono ?_
  rintro e w' ⟨rfl, rfl⟩
  rw [hh]
  go_wp2_with fail
  refine (delPk_any b off L cap k _ hk (ev_one _) HSL.out).mono ?_
  rintro e w2 ⟨rfl, ho2⟩
  have g0 := ho2.second.free 0 none
  have g1 := (ho2.second.cell 0)
  have HO2 := Lib.hid (HFIN.out _ _ ho2)
  clear ho2 c0 c1
  go_wp2
  go_ret
  exact ⟨rfl, HO2.out⟩
theorem way_ok {a b : Int} (ha : isMember a = true) (hb : isMember b = true) : plOk (wayOf a b) := by
  obtain ⟨h1, h2⟩ := wayOf_mem ha hb
  simp only [isMember, Bool.and_eq_true, decide_eq_true_eq] at h1 h2
  unfold plOk I64
  omega
set_option maxRecDepth 100000 in
set_option maxHeartbeats 4000000 in
theorem ntTwice_any {w0 w : World} {R : HProp} (p : Nat) (s : Nt) (i : Int) (hI : NtI s) (h : Own w0 (NtP p s * R) w) :
    Calls Tryz.prog 82 #[.pointer (some ⟨p, 0, none⟩), .int .i64 i] w fun e w' => e = .returned (errV (ntTwiceErr s i)) ∧ Own w0 (NtP p (ntTwice s i) * R) w' := by
  cases hh : ntHas s i
  · have hE : ntTwiceErr s i = 1 := by unfold ntTwiceErr; rw [hh]; rfl
    have hS : ntTwice s i = s := by unfold ntTwice; rw [hE]; rfl
    rw [hE, hS]
    have HE := Lib.hid hE; have HS := Lib.hid hS; have HI := Lib.hid hI; have H := Lib.hid h
    clear hE hS hI h
    go_enter Tryz.func82, Tryz.ntmps82
    go_wp2_with fail
    refine (ntHas_any p s i H.out).mono ?_
    rintro e w' ⟨rfl, rfl⟩
    rw [hh]
    go_wp2
    go_ret
    exact ⟨rfl, H.out⟩
  have hE : ntTwiceErr s i = ntErr s (ntAt s i) := by unfold ntTwiceErr; rw [hh]; rfl
  have hS : ntTwice s i = ntSend s (ntAt s i) := by
    unfold ntTwice
    rw [hE]
    by_cases h0 : ntErr s (ntAt s i) = 0
    · rw [if_pos h0]
    · rw [if_neg h0]; unfold ntSend; rw [if_neg h0]
  rw [hE, hS]
  obtain ⟨hi0, hi1⟩ := ntHas_iff.1 hh
  obtain ⟨k, rfl⟩ : ∃ k : Nat, i = (k : Int) := ⟨i.toNat, by omega⟩
  have hk : k < s.all.length := by omega
  have hlen := hI.len
  obtain ⟨mb, ad, cap0, h3, h4, ho⟩ := h.nt_open
  obtain ⟨c0, c1, cf⟩ := ho.nt_facts
  obtain ⟨b, off, cap, hv, h5, h6, d0, d1, d2, hsl⟩ := ho.nt_at hk
  rw [hv] at c0
  obtain ⟨L, hL⟩ : ∃ L, L = s.all.length := ⟨_, rfl⟩
  rw [← hL] at hk hlen h3 h5 c0
  obtain ⟨x, hx⟩ : ∃ x, x = ntAt s k := ⟨_, rfl⟩
  rw [← hx] at d0 d1 d2 ⊢
  have HE := Lib.hid hE; have HS := Lib.hid hS; have HI := Lib.hid hI; have H := Lib.hid h; have HO := Lib.hid ho; have CF := Lib.hid cf; have HV := Lib.hid hv; have HL := Lib.hid hL; have HSL := Lib.hid hsl; have HX := Lib.hid hx
  clear hE hS hI h ho cf hv hL hsl hx
  go_enter Tryz.func82, Tryz.ntmps82
  go_wp2_with fail
  refine (ntHas_any p s _ H.out).mono ?_
  rintro e w' ⟨rfl, rfl⟩
  rw [hh]
  go_wp2_with fail
  refine (ntSend_any p s x HI.out H.out).mono ?_
  rintro e w2 ⟨rfl, ho2⟩
  have HO2 := Lib.hid ho2
  clear ho2 c0 c1 d0 d1 d2
  go_wp2
  go_ret
  exact ⟨rfl, HO2.out⟩
theorem Own.nt_slAt {w0 w : World} {p mb b off L cap : Nat} {s : Nt} {R : HProp} (hL : L = s.all.length) (hp : 0 < L) (h : Own w0 (NtO p mb (.slice (some ⟨b, off, none⟩) L cap) s * R) w) :
    Own w0 (SlAt 79 3 b off L cap (s.all.flatMap evCells) * (ntBlk p mb (.slice (some ⟨b, off, none⟩) L cap) * (WMp mb (setW s.cut) * R))) w := by
  have hl : (s.all.flatMap evCells).length = s.all.length * 3 := cells_len evCells 3 (fun _ => rfl) _
  obtain ⟨b', off', cap', hv, h2⟩ := h.nt_all.slAt (by omega)
  injection hv with e1 _ e3
  injection e1 with e1
  injection e1 with e1 e2 _
  subst e1; subst e2; subst e3; subst hL
  exact h2
theorem Own.pk_free {w0 w : World} {b : Nat} {x : Ev} {R : HProp} (h : Own w0 (PkO b x * R) w) (i : Nat) (s : Option Nat) : w.frozen? ⟨b, i, s⟩ = false := Own.free h i s
theorem Own.pk_put {w0 w : World} {b : Nat} {x : Ev} {R : HProp} (y : Ev) (h : Own w0 (PkO b x * R) w) : Own w0 (PkO b y * R) (((w.setCell ⟨b, 0, none⟩ (.int .i64 y.1)).setCell ⟨b, 1, none⟩ (.int .i64 y.2.1)).setCell ⟨b, 2, none⟩ (.int .i64 y.2.2)) :=
  (Own.setCell (i := 2) (v := .int .i64 y.2.2) (Own.setCell (i := 1) (v := .int .i64 y.2.1) (Own.setCell (i := 0) (v := .int .i64 y.1) h))).perm rfl
set_option maxRecDepth 100000 in
set_option maxHeartbeats 4000000 in
theorem ntGive_any {w0 w : World} {R : HProp} (p : Nat) (s : Nt) (i : Int) (hI : NtI s) (h : Own w0 (NtP p s * R) w) :
    Calls Tryz.prog 77 #[.pointer (some ⟨p, 0, none⟩), .int .i64 i] w fun e w' => e = .returned (.tuple #[evV (ntGiven s i), errV (ntGiveErr s i)]) ∧ Own w0 (NtP p (ntGive s i) * R) w' := by
  obtain ⟨b1, hb_b1⟩ : ∃ zz_, zz_ = (w).heap.size := ⟨_, rfl⟩
  obtain ⟨w1, hw_w1⟩ : ∃ zz_, zz_ = (w).alloc (.cells #[.int .i64 0, .int .i64 0, .int .i64 0] 79 (0, 0)) := ⟨_, rfl⟩
  have h_HO := (h).alloc (.cells #[.int .i64 0, .int .i64 0, .int .i64 0] 79 (0, 0))
  rw [← hb_b1, ← hw_w1] at h_HO
  have HO := Lib.hid h_HO
  clear h_HO
  have HO1 : Hid (Own w0 (NtP p s * (PkO b1 (0, 0, 0) * R)) w1) := Lib.hid HO.out.second
  obtain ⟨x0, x1, x2⟩ := HO1.out.second.pk
  have xf0 := HO1.out.second.pk_free 0 none
  have xf1 := HO1.out.second.pk_free 1 none
  have xf2 := HO1.out.second.pk_free 2 none
  simp only at x0 x1 x2
  clear HO
  cases hh : ntHas s i
  · have hE : ntGiveErr s i = 1 := by unfold ntGiveErr; rw [hh]; rfl
    have hS : ntGive s i = s := by unfold ntGive; rw [hE]; rfl
    have hG : ntGiven s i = (0, 0, 0) := by unfold ntGiven; rw [hE]; rfl
    rw [hE, hS, hG]
    have HPUT := Lib.hid (HO1.out.second.pk_put (0, 0, 0))
    obtain ⟨q0, q1, q2⟩ := HPUT.out.pk
    simp only at q0 q1 q2
    have HE := Lib.hid hE; have HS := Lib.hid hS; have HG := Lib.hid hG; have HI := Lib.hid hI; have H := Lib.hid h
    clear hE hS hG hI h
    go_enter Tryz.func77, Tryz.ntmps77
    go_upto_region 1 with fail
    rw [← hb_b1, ← hw_w1]
    clear hb_b1 hw_w1
    go_wp2_with fail
    refine (ntHas_any p s i HO1.out).mono ?_
    rintro e w' ⟨rfl, rfl⟩
    rw [hh]
    go_wp2_with fail
    exact bodyPost_ret (v := .tuple #[evV (0, 0, 0), errV 1]) (by simp [results, Tryz.results77, go_sem, q0, q1, q2, evV, errV]) rfl ⟨rfl, HPUT.out.drop⟩
  obtain ⟨hi0, hi1⟩ := ntHas_iff.1 hh
  obtain ⟨k, rfl⟩ : ∃ k : Nat, i = (k : Int) := ⟨i.toNat, by omega⟩
  have hk : k < s.all.length := by omega
  have hlen := hI.len
  obtain ⟨pe1, pe2, _, _⟩ := pkErr0 (hI.ok _ (ntAt_mem hh))
  have hway := way_ok pe1 pe2
  have hlk := ntCutAt s k
  obtain ⟨D, hD⟩ : ∃ D, D = ntCutAt s k := ⟨_, rfl⟩
  have hE : ntGiveErr s k = if D = true then 6 else 0 := by unfold ntGiveErr; rw [hh, ← hD]; rfl
  obtain ⟨mb, ad, cap0, h3, h4, ho⟩ := HO1.out.nt_open
  obtain ⟨c0, c1, cf⟩ := ho.nt_facts
  obtain ⟨b, off, cap0', hv, h5, h6, d0, d1, d2, hsl⟩ := ho.nt_at hk
  unfold ntCutAt at hD
  have hG0 : ntGiven s k = if D = true then (0, 0, 0) else ntAt s k := by unfold ntGiven; rw [hE]; cases D <;> rfl
  have hS0 : ntGive s k = if D = true then s else ntOut s k := by unfold ntGive; rw [hE]; cases D <;> rfl
  injection hv with ev1 _ ev3
  subst ev1; subst ev3
  obtain ⟨L, hL⟩ : ∃ L, L = s.all.length := ⟨_, rfl⟩
  rw [← hL] at hk hlen h3 h5 c0 ho
  rw [hE, hG0, hS0]
  obtain ⟨X, hX⟩ : ∃ x, x = ntAt s k := ⟨_, rfl⟩
  rw [← hX] at d0 d1 d2 hway hD ⊢
  clear hE hG0 hS0 hlk
  obtain ⟨xa, xb, xd⟩ := X
  simp only at d0 d1 d2 hway hD
  obtain ⟨k1, hk1⟩ : ∃ x, x = wayOf xa xb := ⟨_, rfl⟩
  have hk1' := hk1
  rw [← hk1] at hway hD
  obtain ⟨ka, kb⟩ := k1
  obtain ⟨b2, hb_b2⟩ : ∃ zz_, zz_ = (w1).heap.size := ⟨_, rfl⟩
  obtain ⟨w2, hw_w2⟩ : ∃ zz_, zz_ = (w1).alloc (.cells #[.int .i64 xa, .int .i64 xb, .int .i64 xd] 79 (0, 0)) := ⟨_, rfl⟩
  have h_HB := (ho).alloc (.cells #[.int .i64 xa, .int .i64 xb, .int .i64 xd] 79 (0, 0))
  rw [← hb_b2, ← hw_w2] at h_HB
  have HB := Lib.hid h_HB
  clear h_HB
  have HO2 : Hid (Own w0 (NtO p mb (.slice (some ⟨b, off, none⟩) L cap0) s * (PkO b2 (xa, xb, xd) * (PkO b1 (0, 0, 0) * R))) w2) := Lib.hid HB.out.second
  clear HB
  obtain ⟨e0, e1, _⟩ := HO2.out.drew.nt_facts
  obtain ⟨y0, y1, y2⟩ := HO2.out.drew.second.pk
  simp only at y0 y1 y2
  have hHas := ntHas_any p s k HO1.out
  have HHAS := Lib.hid hHas
  clear hHas
  have HI := Lib.hid hI; have H := Lib.hid h; have HO := Lib.hid ho; have CF := Lib.hid cf; have HL := Lib.hid hL; have HSL := Lib.hid hsl; have HX := Lib.hid hX; have HK1 := Lib.hid hk1; have HK1' := Lib.hid hk1'; have HWAY := Lib.hid hway; have HD := Lib.hid hD; have PE1 := Lib.hid pe1; have PE2 := Lib.hid pe2
  clear hI h ho cf hL hsl hX hk1 hk1' hway hD pe1 pe2
  go_enter Tryz.func77, Tryz.ntmps77
  go_upto_region 1 with fail
  rw [← hb_b1, ← hw_w1]
  clear hb_b1 hw_w1
  go_wp2_with fail
  refine HHAS.out.mono ?_
  rintro e w' ⟨rfl, rfl⟩
  rw [hh]
  go_upto_region 4 with fail
  rw [← hb_b2, ← hw_w2]
  clear hb_b2 hw_w2
  clear c0 c1 d0 d1 d2
  refine wp_region_planH 9 [] [(true, 0), (true, 1), (true, 2), (true, 3), (true, 4), (true, 5), (true, 6), (true, 7), (false, 8)] [9] (fun wS => wS.cell? ⟨p, 1, none⟩ = some (.map (some mb)) ∧ wS.cell? ⟨b2, 0, none⟩ = some (.int .i64 xa) ∧ wS.cell? ⟨b2, 1, none⟩ = some (.int .i64 xb)) (by kernel_rfl) (by kernel_rfl) (⟨e1, y0, y1⟩) ?_
  simp only [pickH, pick, List.getElem?_cons_succ, List.getElem?_cons_zero, Option.toList, Option.map_some, List.cons_append, List.nil_append]
  repeat (refine wpPure_step ?_ rfl ?_ ?_; rotate_left; (focus (intro _; first | with_reducible rfl | (go_simp; done) | (go_simp; with_reducible rfl) | rfl)); go_simp)
  refine wpPure_nil ?_
  repeat (refine wpMix_read ?_ rfl ?_ ?_; rotate_left; (focus (intro _ hS; obtain ⟨s1, s2, s3⟩ := hS; first | with_reducible rfl | (go_simp; done) | (go_simp; with_reducible rfl) | rfl)); go_simp)
  refine wpMix_write (fun K hK => ?_)
  go_simp
  refine (between_any xa xb HO2.out.drew).mono ?_
  rintro e w4 ⟨rfl, ho4⟩
  rw [← HK1.out]
  clear e0 e1 y0 y1 y2 x0 x1 x2 xf0 xf1 xf2
  have hlk := ho4.nt_look (ka, kb) HWAY.out
  rw [← HD.out] at hlk
  unfold plV at hlk ⊢
  dsimp only at hlk ⊢
  obtain ⟨c0, c1, _⟩ := ho4.nt_facts
  obtain ⟨y0, y1, y2⟩ := ho4.second.pk
  obtain ⟨x0, x1, x2⟩ := ho4.third.pk
  have xf0 := ho4.third.pk_free 0 none
  have xf1 := ho4.third.pk_free 1 none
  have xf2 := ho4.third.pk_free 2 none
  simp only at x0 x1 x2 y0 y1 y2
  have HO4 := Lib.hid ho4
  clear ho4
  refine hK _ _ ⟨⟨c1, y0, y1⟩, ?_⟩
  clear hK K
  go_simp
  refine wpMix_nil ?_
  cases D
  · have hsl4 := HO4.out.nt_slAt HL.out (by omega)
    have hfin : ∀ w' R', Own w0 (SlAt 79 3 b off (L - 1) cap0 ((s.all.flatMap evCells).take (k * 3) ++ (s.all.flatMap evCells).drop ((k + 1) * 3)) * (ntBlk p mb (.slice (some ⟨b, off, none⟩) L cap0) * (WMp mb (setW s.cut) * R'))) w' → Own w0 (NtP p (ntOut s k) * R') (w'.setCell ⟨p, 0, none⟩ (.slice (some ⟨b, off, none⟩) (L - 1) cap0)) := fun w' R' h' => by
      have hLL := HL.out
      rw [hLL] at h' ⊢
      exact nt_del_end (by omega) h'
    have HSL4 := Lib.hid hsl4; have HFIN := Lib.hid hfin
    clear hsl4 hfin
    clear c1 y0 y1 y2 x0 x1 x2 xf0 xf1 xf2
    go_wp2_with fail
    refine NoPanic.normal ?_
    go_wp2_with fail
    refine (delPk_any b off L cap0 k _ hk (ev_one _) HSL4.out).mono ?_
    rintro e w5 ⟨rfl, ho5⟩
    have g0 := ho5.second.free 0 none
    have g1 := (ho5.second.cell 0)
    have HO5 := Lib.hid (HFIN.out _ _ ho5)
    obtain ⟨y0, y1, y2⟩ := HO5.out.second.pk
    obtain ⟨x0, x1, x2⟩ := HO5.out.third.pk
    have xf0 := HO5.out.third.pk_free 0 none
    have xf1 := HO5.out.third.pk_free 1 none
    have xf2 := HO5.out.third.pk_free 2 none
    have HPUT := Lib.hid (HO5.out.third.pk_put (xa, xb, xd))
    obtain ⟨q0, q1, q2⟩ := HPUT.out.pk
    simp only at x0 x1 x2 y0 y1 y2 q0 q1 q2
    clear ho5 c0 hlk
    go_wp2_with fail
    exact bodyPost_ret (v := .tuple #[evV (xa, xb, xd), errV 0]) (by simp [results, Tryz.results77, go_sem, q0, q1, q2, evV, errV]) rfl ⟨rfl, HPUT.out.drop.second.drop⟩
  · have HPUT := Lib.hid (HO4.out.third.pk_put (0, 0, 0))
    obtain ⟨q0, q1, q2⟩ := HPUT.out.pk
    simp only at q0 q1 q2
    go_wp2_with fail
    refine NoPanic.normal ?_
    go_wp2_with fail
    exact bodyPost_ret (v := .tuple #[evV (0, 0, 0), errV 6]) (by simp [results, Tryz.results77, go_sem, q0, q1, q2, evV, errV]) rfl ⟨rfl, HPUT.out.drop.nt_close.second.drop⟩
end Go.Proofs.YtdfjbnfdknpahaaGreatDoor
/- A map's entry, made and then filled: m[k] = v beside another assignment. -/
namespace Go.Proofs.YtdfjbnfdknpahaaGreatDoor
set_option linter.unusedVariables false
set_option linter.unusedSimpArgs false
open Go.RowKit Go.Maps
set_option linter.unusedSectionVars false
section
variable {K : Type} [DecidableEq K] {P : Program} {k : TypeId} {enc : K → Value} {ok : K → Prop}
theorem Born.find {es : Array MapEntry} {clock : Nat} (h : Born es.toList clock) {j : Nat} {e : MapEntry} (he : es[j]? = some e) : es.findIdx? (fun x => ((x.born : Nat) : Int) == ((e.born : Nat) : Int)) = some j := by
  obtain ⟨hj, rfl⟩ := Array.getElem?_eq_some_iff.1 he
  rw [Array.findIdx?_eq_some_iff_getElem]
  refine ⟨hj, by simp, fun i hij hb => ?_⟩
  have hb2 : es[i].born = es[j].born := Int.ofNat.inj (eq_of_beq hb)
  have hl : ∀ q (hq : q < es.size), (es.toList.map (·.born))[q]'(by simpa using hq) = es[q].born := fun q hq => by simp
  have h1 := List.pairwise_iff_getElem.1 h.2 i j (by simp; omega) (by simpa using hj) hij
  rw [hl i (by omega), hl j hj] at h1
  exact h1 hb2
end
end Go.Proofs.YtdfjbnfdknpahaaGreatDoor
/- A map's entry open for a store: m[k] = append(m[k], ..); and maps whose values own what they point to. -/
namespace Go.Proofs.YtdfjbnfdknpahaaGreatDoor
set_option linter.unusedVariables false
set_option linter.unusedSimpArgs false
open Go.RowKit Go.Maps
set_option linter.unusedSectionVars false
section
variable {K : Type} [DecidableEq K] {P : Program} {k : TypeId} {enc : K → Value} {ok : K → Prop}
/-! ### Maps whose values own -/
variable {α : Type}
def MpS (enc : K → Value) (ok : K → Prop) (f : α → HProp) (val : α → Value) (b : Nat) (m : List (K × α)) : HProp := Mp enc ok b (mvals val m) * starL (fun p : K × α => f p.2) m
theorem starL_mget (f : α → HProp) (m : List (K × α)) (x : K) (n : α) (hn : f n = emp) : starL (fun p : K × α => f p.2) m = f ((mget m x).getD n) * starL (fun p : K × α => f p.2) (mdel m x) := by
  induction m with
  | nil => simp [mget, mdel, starL, hn, emp_star]
  | cons p r ih =>
    unfold mget mdel
    by_cases h : p.1 = x
    · rw [if_pos h, if_pos h]; rfl
    · rw [if_neg h, if_neg h]; simp only [starL]; rw [ih]; ac_rfl
theorem Own.ms_take {f : α → HProp} {val : α → Value} {w0 w : World} {b : Nat} {m : List (K × α)} {R : HProp} (n : α) (hn : f n = emp) (x : K) (h : Own w0 (MpS enc ok f val b m * R) w) :
    Own w0 (f ((mget m x).getD n) * (Mp enc ok b (mvals val m) * (starL (fun p : K × α => f p.2) (mdel m x) * R))) w := by
  refine h.perm ?_
  unfold MpS
  rw [starL_mget f m x n hn]
  ac_rfl
theorem mget_val (val : α → Value) (m : List (K × α)) (x : K) (n : α) : (mget (mvals val m) x).getD (val n) = val ((mget m x).getD n) := by
  rw [mget_mvals]; cases mget m x <;> rfl
theorem Own.ms_new {f : α → HProp} {val : α → Value} {w0 w : World} {R : HProp} (h : Own w0 R w) : Own w0 (MpS enc ok f val w.heap.size ([] : List (K × α)) * R) (w.alloc (.map #[] 0)) :=
  (h.map_new (enc := enc) (ok := ok)).perm (by unfold MpS; rw [mvals_nil]; simp only [starL]; rw [star_emp])
end
end Go.Proofs.YtdfjbnfdknpahaaGreatDoor
