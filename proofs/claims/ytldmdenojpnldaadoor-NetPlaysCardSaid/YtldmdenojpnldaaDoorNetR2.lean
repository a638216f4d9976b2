/- The reference's net, continued: Out, Give. -/
import Derived.Test.YtldmdenojpnldaaDoorNetR
namespace Go.Proofs.YtldmdenojpnldaaDoor
set_option linter.unusedVariables false
set_option linter.unusedSimpArgs false
open Go.RowKit Go.Maps
theorem Rd.front_of {w : World} {ad : Option Addr} {len cp n sz : Nat} {xs : List Value} (h : Rd w (.slice ad len cp) len xs) (hn : n ≤ len) : Rd w (.slice ad n cp) n (xs.take (n * sz)) := by
  obtain ⟨ad', cp', e, h1, h2, h3, h4⟩ := h
  injection e with e1 e2 e3
  subst e1; subst e3
  refine ⟨ad, cp, rfl, by omega, h2, h3, fun i u hi => h4 i u ?_⟩
  rw [List.getElem?_take] at hi
  split at hi
  · exact hi
  · cases hi
theorem Rd.back_of {w : World} {b off len cp n sz : Nat} {xs : List Value} {A : Addr} (hA : (if cp = n then (⟨b, off, none⟩ : Addr) else ⟨b, off + n * sz, none⟩) = A) (hx : xs.length = len * sz) (h : Rd w (.slice (some ⟨b, off, none⟩) len cp) len xs) (hn : n ≤ len) :
    Rd w (.slice (some A) (len - n) (cp - n)) (len - n) (xs.drop (n * sz)) := by
  obtain ⟨ad', cp', e, h1, h2, h3, h4⟩ := h
  injection e with e1 e2 e3
  subst e1; subst e3
  refine ⟨some A, _, rfl, by omega, by omega, (fun hc => by cases hc), fun i u hi => ?_⟩
  rw [List.getElem?_drop] at hi
  have hlt : n * sz + i < xs.length := (List.getElem?_eq_some_iff.1 hi).1
  obtain ⟨a, ha, hc⟩ := h4 _ _ hi
  cases ha
  by_cases hcn : cp = n
  · have : len = n := by omega
    subst this
    omega
  · rw [if_neg hcn] at hA
    subst hA
    refine ⟨_, rfl, ?_⟩
    rw [Addr.add_lit] at hc ⊢
    rw [Nat.add_assoc]; exact hc
theorem Own.rn_at {w0 w : World} {p i : Nat} {v : Value} {B : List Bool} {s : Nt} {R : HProp} (hi : i < s.all.length) (h : Own w0 (RnO p v B s * R) w) :
    ∃ b off cap, v = .slice (some ⟨b, off, none⟩) s.all.length cap ∧ s.all.length ≤ cap ∧ cap ≤ 9223372036854775807 ∧ w.cell? ⟨b, off + i * 3, none⟩ = some (.int .i64 (ntAt s i).1) ∧ w.cell? ⟨b, off + i * 3 + 1, none⟩ = some (.int .i64 (ntAt s i).2.1) ∧ w.cell? ⟨b, off + i * 3 + 2, none⟩ = some (.int .i64 (ntAt s i).2.2) := by
  have hl : (s.all.flatMap evCells).length = s.all.length * 3 := cells_len evCells 3 (fun _ => rfl) _
  obtain ⟨b, off, cap, hv, h2⟩ := h.rn_all.slAt (by omega)
  obtain ⟨h3, h4, _, hc, _⟩ := h2.slAt_facts
  have hx : ntAt s i = s.all[i] := by
    unfold ntAt
    rw [List.getD_eq_getElem?_getD, Int.toNat_natCast, List.getElem?_eq_getElem hi]; rfl
  rw [hx]
  refine ⟨b, off, cap, hv, h3, by unfold maxLen at h4; omega, ?_, ?_, ?_⟩
  · exact hc (i * 3) _ (ev_get s.all i 0 hi (by omega))
  · rw [Nat.add_assoc]; exact hc (i * 3 + 1) _ (ev_get s.all i 1 hi (by omega))
  · rw [Nat.add_assoc]; exact hc (i * 3 + 2) _ (ev_get s.all i 2 hi (by omega))
theorem rn_out_end {w0 w : World} {p i L n : Nat} {v v' : Value} {B : List Bool} {s : Nt} {R Q : HProp} (hB : RnIs s B) (hi : i < s.all.length) (hL : L = s.all.length) (hn : n + 1 = L)
    (h : Own w0 (Sl 23 3 v' n ((s.all.flatMap evCells).take (i * 3) ++ (s.all.flatMap evCells).drop ((i + 1) * 3)) * (Q * (rnBlk p v B * R))) w) : Own w0 (RnP p (ntOut s i) * R) (w.setCell ⟨p, 0, none⟩ v') := by
  rw [← cells_erase evCells 3 (fun _ => rfl) s.all i hi] at h
  have h1 := (h.third.setCell (i := 0) (v := v'))
  have h2 := h1.third.drop
  refine Own.rn_close (s := ntOut s i) (v := v') (B := B) hB (h2.perm ?_)
  unfold RnO PkSl rnBlk ntOut
  simp only
  rw [Int.toNat_natCast, List.length_eraseIdx_of_lt hi, show n = s.all.length - 1 by omega]
  show (blk p (.cells (v' :: B.map Value.bool).toArray 44 (0, 0)) * _ : HProp) = _
  ac_rfl
set_option maxRecDepth 100000 in
set_option maxHeartbeats 4000000 in
theorem rnOut_any {w0 w : World} {R : HProp} (p : Nat) (s : Nt) (k : Nat) (hk : k < s.all.length) (hI : NtI s) (h : Own w0 (RnP p s * R) w) :
    Calls Tryd.prog 23 #[.pointer (some ⟨p, 0, none⟩), .int .i64 (k : Int)] w fun e w' => e = .returned (.tuple #[]) ∧ Own w0 (RnP p (ntOut s k) * R) w' := by
  obtain ⟨ad, cap0, B, hB, h3, h4, ho⟩ := h.rn_open
  obtain ⟨c0, cf, _⟩ := ho.rn_facts
  obtain ⟨b, off, cap, hv, h5, h6, _⟩ := ho.rn_at hk
  injection hv with ev1 _ ev3
  subst ev1; subst ev3
  have hlen := hI.len
  have hxl : (s.all.flatMap evCells).length = s.all.length * 3 := cells_len evCells 3 (fun _ => rfl) _
  have hho : Own w0 (Sl 23 3 (.slice none 0 0) 0 [] * (PkSl (.slice (some ⟨b, off, none⟩) s.all.length cap0) s.all * (rnBlk p (.slice (some ⟨b, off, none⟩) s.all.length cap0) B * R))) w := ho.rn_all.sl_nil _ _
  have hrd : Rd w (.slice (some ⟨b, off, none⟩) s.all.length cap0) s.all.length (s.all.flatMap evCells) := Own.rd ho.rn_all
  obtain ⟨L, hL⟩ : ∃ L, L = s.all.length := ⟨_, rfl⟩
  rw [← hL] at hk hlen h3 h5 c0 hxl
  have hhc : Own w0 (Sl 23 3 (.slice none 0 0) 0 [] * (Sl 23 3 (.slice (some ⟨b, off, none⟩) L cap0) L (s.all.flatMap evCells) * (rnBlk p (.slice (some ⟨b, off, none⟩) L cap0) B * R))) w := by rw [hL]; exact hho
  rw [← hL] at hrd
  obtain ⟨X, hX⟩ : ∃ X, X = s.all.flatMap evCells := ⟨_, rfl⟩
  have hone : ∀ u ∈ X, u.oneCell' = true := by rw [hX]; exact ev_one _
  have hfin : ∀ w' v' n, n + 1 = L → Own w0 (Sl 23 3 v' n (X.take (k * 3) ++ X.drop ((k + 1) * 3)) * (Sl 23 3 (.slice (some ⟨b, off, none⟩) L cap0) L X * (rnBlk p (.slice (some ⟨b, off, none⟩) L cap0) B * R))) w' → Own w0 (RnP p (ntOut s k) * R) (w'.setCell ⟨p, 0, none⟩ v') := fun w' v' n hn h' => by
    rw [hX] at h'
    exact rn_out_end hB (by omega) hL hn h'
  rw [← hX] at hhc hrd hxl
  have hr1 := hrd.front_of (sz := 3) (n := k) (by omega)
  obtain ⟨A, hA⟩ : ∃ A, (if cap0 = k + 1 then (⟨b, off, none⟩ : Addr) else ⟨b, off + (k + 1) * 3, none⟩) = A := ⟨_, rfl⟩
  have hk' : k + 1 ≤ L := by omega
  have hc1 := fun w => cut3_back (P := Tryd.prog) Tryd.underlying26 packet_size (b := b) (off := off) (show k ≤ L by omega) h3 w
  have hc2 := fun w => cut3_front (P := Tryd.prog) Tryd.underlying26 packet_size (b := b) (off := off) (cp := cap0) (n := k) hk' w
  rw [hA] at hc2
  have ht : (X.take (k * 3)).length = k * 3 := by rw [List.length_take]; omega
  have hd : (X.drop ((k + 1) * 3)).length = (L - (k + 1)) * 3 := by rw [List.length_drop]; omega
  have ho1 : ∀ u ∈ X.take (k * 3), u.oneCell' = true := fun u hu => hone u (List.mem_of_mem_take hu)
  have ho2 : ∀ u ∈ X.drop ((k + 1) * 3), u.oneCell' = true := fun u hu => hone u (List.mem_of_mem_drop hu)
  clear h ho hho hrd
  have HAA := Lib.hid hA
  clear hA
  have HI := Lib.hid hI; have HL := Lib.hid hL; have HX := Lib.hid hX; have HFIN := Lib.hid hfin; have HHC := Lib.hid hhc; have HR1 := Lib.hid hr1; have HXL := Lib.hid hxl; have HT := Lib.hid ht; have HD := Lib.hid hd; have HO1 := Lib.hid ho1; have HO2 := Lib.hid ho2; have HONE := Lib.hid hone; have HB := Lib.hid hB; have CF := Lib.hid cf
  clear hI hL hX hfin hhc hr1 hxl ht hd ho1 ho2 hone hB cf
  go_enter Tryd.func23, Tryd.ntmps23
  go_upto_region 2 with (at_builtin; refine wpList_app rfl _ _ 26 rfl 23 3 24 _ info_pk Tryd.underlying26 rfl (by decide) rfl HHC.out rfl HT.out HR1.out HO1.out (by unfold maxLen; omega) (by omega) ?_; intro v1 w1 ho1; rw [Nat.zero_add, List.nil_append] at ho1; obtain ⟨ad1, cp1, hv1, _⟩ := Own.rd ho1; subst hv1; clear c0; have c0 : w1.cell? ⟨p, 0, none⟩ = some (.slice (some ⟨b, off, none⟩) L cap0) := (ho1.third.cell 0).trans rfl; have HW1 := Lib.hid ho1; have HR2 := Lib.hid (Rd.back_of HAA.out HXL.out (Own.rd ho1.second) hk'); clear ho1)
  go_wp2_with (at_builtin; refine wpList_app rfl _ _ 26 rfl 23 3 24 _ info_pk Tryd.underlying26 rfl (by decide) rfl HW1.out rfl HD.out HR2.out HO2.out (by unfold maxLen; omega) (by omega) ?_; intro v2 w2 ho2; obtain ⟨ad2, cp2, hv2, _⟩ := Own.rd ho2; subst hv2; clear c0; have c0 : w2.cell? ⟨p, 0, none⟩ = some (.slice (some ⟨b, off, none⟩) L cap0) := (ho2.third.cell 0).trans rfl; have f0 := ho2.third.free 0 none; have HW2 := Lib.hid (HFIN.out _ _ _ (by omega) ho2); clear ho2)
  refine bodyPost_end (results_none rfl _ _ _) rfl ⟨rfl, HW2.out⟩
end Go.Proofs.YtldmdenojpnldaaDoor
