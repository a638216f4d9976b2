/- Contracts of package token: Pass, Waits. -/
import Derived.Test.YteelldblfmhjlaaDoorToken
namespace Go.Proofs.YteelldblfmhjlaaDoor
set_option linter.unusedVariables false
set_option linter.unusedSimpArgs false
open Go.RowKit
def plCells (x : Int × Int) : List Value := [.int .i64 x.1, .int .i64 x.2]
def PlSl (v : Value) (l : List (Int × Int)) : HProp := Sl 93 2 v l.length (l.flatMap plCells)
theorem pl_len (l : List (Int × Int)) : (l.flatMap plCells).length = l.length * 2 := cells_len plCells 2 (fun _ => rfl) l
theorem info_pl : (Tryd.prog.info? 93).map (fun i => (i.zero, i.size, i.bytes)) = some (some (.agg #[.int .i64 0, .int .i64 0]), 2, 16) := by kernel_rfl
theorem pl_snoc {w0 w : World} {R : HProp} {v : Value} {l : List (Int × Int)} {x : Int × Int} {cs : List Value} (hc : cs = plCells x) (h : Own w0 (Sl 93 2 v (l.length + 1) (l.flatMap plCells ++ cs) * R) w) : Own w0 (PlSl v (l ++ [x]) * R) w := by
  subst hc
  unfold PlSl
  simpa [List.flatMap_append] using h
theorem Own.tok_placed {w0 w : World} {p rb off cap mb j : Nat} {t : Tok} {rs : List (Value × List Int)} {Q R : HProp} (h : Own w0 (Q * (TokO p rb off cap mb { t with placed := t.placed + j } rs * R)) w) :
    w.cell? ⟨p, 4, none⟩ = some (.int .i64 ((t.placed : Int) + j)) ∧ w.frozen? ⟨p, 4, none⟩ = false := by
  have := h.drop.tok_facts
  exact ⟨by rw [this.2.2.2.2.1]; simp, this.2.2.2.2.2.1 4 none⟩
theorem int_size : ∀ w, (sizeOf 3).run Tryd.prog w = .ok 1 w := fun _ => by kernel_rfl
theorem Own.tok_setplaced {w0 w : World} {p rb off cap mb : Nat} {t : Tok} {rs : List (Value × List Int)} {R : HProp} (m : Nat) (h : Own w0 (TokO p rb off cap mb t rs * R) w) :
    Own w0 (TokO p rb off cap mb { t with placed := m } rs * R) (w.setCell ⟨p, 4, none⟩ (.int .i64 m)) := by
  have h1 : Own w0 (blk p (.cells #[.int .i64 t.most, .int .i64 t.holder, .slice (some ⟨rb, off, none⟩) rs.length cap, .map (some mb), .int .i64 t.placed] 121 (0, 0)) * (TabO rowP (·.1) 22 rb off cap rs * IMp mb (setM t.said) * R)) w := h.perm (by unfold TokO; ac_rfl)
  exact (h1.setCell (i := 4) (v := .int .i64 m)).perm (by unfold TokO; simp; ac_rfl)
theorem Own.tok_setholder {w0 w : World} {p rb off cap mb : Nat} {t : Tok} {rs : List (Value × List Int)} {R : HProp} (m : Nat) (h : Own w0 (TokO p rb off cap mb t rs * R) w) :
    Own w0 (TokO p rb off cap mb { t with holder := m } rs * R) (w.setCell ⟨p, 1, none⟩ (.int .i64 m)) := by
  have h1 : Own w0 (blk p (.cells #[.int .i64 t.most, .int .i64 t.holder, .slice (some ⟨rb, off, none⟩) rs.length cap, .map (some mb), .int .i64 t.placed] 121 (0, 0)) * (TabO rowP (·.1) 22 rb off cap rs * IMp mb (setM t.said) * R)) w := h.perm (by unfold TokO; ac_rfl)
  exact (h1.setCell (i := 1) (v := .int .i64 m)).perm (by unfold TokO; simp; ac_rfl)
theorem Own.tok_cellrow {w0 w : World} {p rb off cap mb : Nat} {t : Tok} {rs : List (Value × List Int)} {R : HProp} (h : Own w0 (TokO p rb off cap mb t rs * R) w) {k : Nat} (hk : k < rs.length) {ad : Option Addr} {len cp : Nat} (hs : rs[k].1 = .slice ad len cp)
    (i : Nat) (hi : i < rs[k].2.length) : ∃ a, ad = some a ∧ w.cell? (a.add i) = some (.int .i64 rs[k].2[i]) := by
  obtain ⟨ad', cap', e, _, _, _, hc⟩ := Own.rd (h.tok_row hk)
  rw [hs] at e
  injection e with e1 e2 e3
  subst e1
  exact hc i _ (by simp [hi])
def tokRow (t : Tok) : List Int := t.waits.getD t.holder []
def tokN (t : Tok) : Nat := min (tokRow t).length t.most
def passAt (t : Tok) (i : Nat) : Int × Int := (t.placed + i, (tokRow t).getD i 0)
def passOut (t : Tok) : List (Int × Int) := (List.range (tokN t)).map (passAt t)
def tokPass (t : Tok) : Tok := { t with waits := t.waits.set t.holder ((tokRow t).drop (tokN t)), holder := (t.holder + 1) % t.waits.length, placed := t.placed + tokN t }
theorem passOut_succ (t : Tok) (k : Nat) : (List.range (k + 1)).map (passAt t) = (List.range k).map (passAt t) ++ [passAt t k] := by
  rw [List.range_succ, List.map_append]; rfl
theorem pass_step {w0 w : World} {p rb off cap mb j : Nat} {t : Tok} {rs : List (Value × List Int)} {R : HProp} {v : Value} {k : Nat} {hk : k < rs.length} (hr : tokRow t = rs[k].2) (hj : j < rs[k].2.length)
    (h : Own w0 (Sl 93 2 v (((List.range j).map (passAt t)).length + 1) (((List.range j).map (passAt t)).flatMap plCells ++ [Value.int .i64 ((t.placed : Int) + j), Value.int .i64 rs[k].2[j]]) * (TokO p rb off cap mb { t with placed := t.placed + j } rs * R)) w) :
    Hid (Own w0 (PlSl v ((List.range (j + 1)).map (passAt t)) * (TokO p rb off cap mb { t with placed := t.placed + (j + 1) } rs * R)) (w.setCell ⟨p, 4, none⟩ (.int .i64 ((t.placed : Int) + j + 1)))) := by
  rw [passOut_succ]
  have h1 := pl_snoc (x := passAt t j) (by simp [plCells, passAt, hr, hj]) h
  have h2 : Own w0 (TokO p rb off cap mb { t with placed := t.placed + j } rs * (PlSl v ((List.range j).map (passAt t) ++ [passAt t j]) * R)) w := h1.perm (by ac_rfl)
  have h3 := (h2.tok_setplaced (t.placed + (j + 1))).perm (star_left_comm _ _ _)
  have e : ((t.placed + (j + 1) : Nat) : Int) = (t.placed : Int) + j + 1 := by omega
  rw [e] at h3
  exact Lib.hid h3
theorem pass_cut {w0 w : World} {p rb off cap mb k n : Nat} {t : Tok} {rs : List (Value × List Int)} {R Q : HProp} (hk : k < rs.length) {ad : Option Addr} {L cp : Nat} (hs : rs[k].1 = .slice ad L cp) (hL : L = rs[k].2.length) (hn : n ≤ L)
    (h : Own w0 (Q * (TokO p rb off cap mb t rs * R)) w) :
    Own w0 (Q * (TokO p rb off cap mb t (rs.set k (.slice (cutA ad cp n) (L - n) (cp - n), rs[k].2.drop n)) * R)) (w.drew.setCell ⟨rb, off + k, none⟩ (.slice (cutA ad cp n) (L - n) (cp - n))) := by
  have h1 : Own w0 (TokO p rb off cap mb t rs * (Q * R)) w := h.perm (star_left_comm _ _ _)
  have h2 := h1.drew.tok_row hk
  unfold IntSl at h2
  rw [hs, ← hL] at h2
  have h3 := h2.sl_cut hn
  have e2 : (List.map (Value.int .i64) rs[k].2).drop n = (rs[k].2.drop n).map (Value.int .i64) := by rw [List.map_drop]
  rw [e2] at h3
  have e : Sl 3 1 (cutV ad L cp n) (L - n) ((rs[k].2.drop n).map (Value.int .i64)) = IntSl (cutV ad L cp n) (rs[k].2.drop n) := by unfold IntSl; rw [List.length_drop, ← hL]
  rw [e] at h3
  exact (Own.tok_putrow hk h3).perm (star_left_comm _ _ _)
theorem Own.tok_ne {w0 w : World} {p rb off cap mb : Nat} {t : Tok} {rs : List (Value × List Int)} {R : HProp} (h : Own w0 (TokO p rb off cap mb t rs * R) w) : p ≠ rb := by
  have h1 : Own w0 (blk p (.cells #[.int .i64 t.most, .int .i64 t.holder, .slice (some ⟨rb, off, none⟩) rs.length cap, .map (some mb), .int .i64 t.placed] 121 (0, 0)) * (SlAt 22 1 rb off rs.length cap (rs.map (·.1)) * (starL rowP rs * (IMp mb (setM t.said) * R)))) w := h.perm (by unfold TokO TabO; ac_rfl)
  exact h1.slAt_ne
theorem pass_end {w0 w : World} {p rb off cap mb n k : Nat} {t : Tok} {rs : List (Value × List Int)} {R : HProp} {v : Value} {u : Value} (hn : n = tokN t) (hkh : k = t.holder) (hk : k < rs.length) (he : rs.map (·.2) = t.waits) (hr : tokRow t = rs[k].2)
    (h : Own w0 (PlSl v ((List.range n).map (passAt t)) * (TokO p rb off cap mb { t with placed := t.placed + n } (rs.set k (u, rs[k].2.drop n)) * R)) w) (m : Int) (hm : m = (IntKind.i64.wrap ((k : Int) + 1)).tmod rs.length) (h5 : rs.length ≤ 5) :
    Own w0 (PlSl v (passOut t) * (TokP p (tokPass t) * R)) (w.setCell ⟨p, 1, none⟩ (.int .i64 m)) := by
  subst hkh
  have e : m = ((t.holder + 1) % t.waits.length : Nat) := by
    have ew : IntKind.i64.wrap ((t.holder : Int) + 1) = (t.holder : Int) + 1 := by
      rw [IntKind.wrap_i64]; omega
    rw [hm, ew, ← he, List.length_map]
    rw [Int.natCast_emod, Int.natCast_add]; exact Int.tmod_eq_emod_of_nonneg (by omega)
  rw [e]
  subst hn
  have h1 := (h.perm (star_left_comm _ _ _)).tok_setholder ((t.holder + 1) % t.waits.length)
  have h2 := Own.tok_close (t := tokPass t) (rs := rs.set t.holder (u, rs[t.holder].2.drop (tokN t))) (by show _ = t.waits.set t.holder ((tokRow t).drop (tokN t)); rw [hr, List.map_set, he]) (h1.mono fun _ hh => hh)
  exact h2.perm (star_left_comm _ _ _)
set_option maxRecDepth 100000 in
set_option maxHeartbeats 4000000 in
theorem tokPass_any {w0 w : World} {R : HProp} (p : Nat) (t : Tok) (hfit : tokFit t) (h : Own w0 (TokP p t * R) w) :
    Calls Tryd.prog 40 #[.pointer (some ⟨p, 0, none⟩)] w fun e w' => ∃ v, e = .returned v ∧ Own w0 (PlSl v (passOut t) * (TokP p (tokPass t) * R)) w' := by
  obtain ⟨rb, off, cap, mb, rs, he, ho⟩ := h.tok_open
  have hlen : t.waits.length = rs.length := by rw [← he, List.length_map]
  obtain ⟨⟨f1, f2⟩, f3, ⟨f4, f5⟩, f6, f7⟩ := hfit
  obtain ⟨k, hkh⟩ : ∃ k, k = t.holder := ⟨_, rfl⟩
  have hk : k < rs.length := by omega
  have hr5 : rs.length ≤ 5 := by omega
  have hr2 : 2 ≤ rs.length := by omega
  have hrs : rs ≠ [] := by intro e; rw [e] at hk; simp at hk
  obtain ⟨c0, c1, c2, c3, c4, c5, c6, c7, c8, c9⟩ := ho.tok_facts
  rw [← hkh] at c1
  have hrow := c6 k rs[k] (by simp [hk])
  obtain ⟨ad, cp, hshape, hle, hcp, had, _⟩ := Own.rd (ho.tok_row hk)
  have HAD := Lib.hid had
  clear had
  rw [hshape] at hrow
  obtain ⟨L, hL⟩ : ∃ L, L = rs[k].2.length := ⟨_, rfl⟩
  have hr : tokRow t = rs[k].2 := by unfold tokRow; rw [← he, ← hkh]; simp [hk]
  have hL2 : L ≤ 10000 := by rw [hL]; exact (f6 _ (by rw [← he]; exact List.mem_map.2 ⟨rs[k], List.getElem_mem hk, rfl⟩)).1
  obtain ⟨n, hn⟩ : ∃ n, n = tokN t := ⟨_, rfl⟩
  have hn1 : n = min L t.most := by rw [hn, hL]; unfold tokN; rw [hr]
  have hnL : n ≤ L := by omega
  have hmin : min (L : Int) (t.most : Int) = (n : Int) := by omega
  rw [← hL] at hrow hle hshape
  have hcb := cut_back (P := Tryd.prog) (e := 3) Tryd.underlying22 int_size (ad := ad) hnL hle
  have hcf := cut_front (P := Tryd.prog) (e := 3) Tryd.underlying22 int_size (ad := ad) hnL hle
  have HO := Lib.hid ho; have HE := Lib.hid he; have HLEN := Lib.hid hlen; have HL := Lib.hid hL; have HN := Lib.hid hn; have HCB := Lib.hid hcb; have HCF := Lib.hid hcf; have HR := Lib.hid hr; have HMIN := Lib.hid hmin
  have HC6 := Lib.hid c6; have HC5 := Lib.hid c5; have HC7 := Lib.hid c7; have HF6 := Lib.hid f6; have HKH := Lib.hid hkh; have HSH := Lib.hid hshape
  clear h ho he hlen hL hn hcb hcf c5 c6 c7 f6 hr hmin hkh hshape hn1
  go_enter Tryd.func40, Tryd.ntmps40
  go_wp2_with fail
  go_quiet (fail)
  go_wp2_with (first | (refine wpList_min (L : Int) (t.most : Int) rfl _ _ _ _ rfl rfl rfl ?_; rw [HMIN.out]) | (refine wpList_slice (.slice ad n cp) rfl _ _ _ _ _ rfl (HCB.out _) ?_))
  go_loopw [5, 29] (fun v i wr => ∃ j : Nat, j ≤ n ∧ i = .int .i64 j ∧ Hid (Own w0 (PlSl v ((List.range j).map (passAt t)) * (TokO p rb off cap mb { t with placed := t.placed + j } rs * R)) wr)) (fun _ i _ => n - (intOf i).toNat)
  case atStart => exact ⟨0, Nat.zero_le _, rfl, ((HO.out.drewN _).sl_nil _ _)⟩
  case round =>
    obtain ⟨j, hj, rfl, hp⟩ := hrel
    by_cases hlt : j < n
    · have hp1 := hp.out.drop
      have hjl : j < rs[k].2.length := by rw [← HL.out]; omega
      obtain ⟨a, rfl, hcell⟩ := hp1.tok_cellrow hk HSH.out j hjl
      obtain ⟨_, _, _, _, e4, e5, _, _, _, _⟩ := hp1.tok_facts
      have e5' := e5 4 none
      have e4' := fun o => (hp1.alloc' o).tok_facts.2.2.2.2.1
      have hj7 : t.placed + j ≤ 20000000 := by omega
      have HP := Lib.hid hp.out
      have HJL := Lib.hid hjl
      clear hp hp1 e5
      go_wp2_with (at_builtin; refine wpList_app rfl _ _ 82 rfl 93 2 16 _ info_pl Tryd.underlying82 rfl (by decide) rfl (HP.out.alloc' _) rfl (by rfl) (Rd_lit rfl (by unfold maxLen; omega)) (by intro u hu; simp at hu; rcases hu with rfl | rfl <;> rfl) (by unfold maxLen; simp; omega) (by simp; omega) ?_; intro v' w1 hown'; obtain ⟨g4, g5⟩ := hown'.tok_placed; have HW := Lib.hid hown'; clear hown')
      exact ⟨⟨j + 1, by omega, by go_num, pass_step HR.out HJL.out HW.out⟩, by simp [intOf] <;> omega⟩
    · have hkn : j = n := by omega
      subst hkn
      have hp1 := hp.out.drop
      obtain ⟨_, e1, e2, _, _, e5, _, e7, _, _⟩ := hp1.tok_facts
      have e1' : wr.cell? ⟨p, 1, none⟩ = some (.int .i64 k) := e1.trans (congrArg (fun x : Nat => some (Value.int .i64 x)) HKH.out.symm)
      have e5' := e5 1 none
      have e7' := e7 (off + k) none
      have hne := hp1.tok_ne
      have g1 := fun u => (World.cell?_setCell_other wr ⟨rb, off + k, none⟩ ⟨p, 1, none⟩ u (by intro e; injection e with e; exact hne e.symm)).trans e1'
      have g2 := fun u => (World.cell?_setCell_other wr ⟨rb, off + k, none⟩ ⟨p, 2, none⟩ u (by intro e; injection e with e; exact hne e.symm)).trans e2
      have hA := pass_cut hk HSH.out HL.out hnL hp.out
      rcases (by
        by_cases hc : cp = j
        · exact .inl hc
        · refine .inr ⟨hc, ?_⟩
          cases ad with
          | none => have := HAD.out rfl; omega
          | some a => exact ⟨a, rfl⟩ : cp = j ∨ (¬ cp = j ∧ ∃ a, ad = some a)) with hc | ⟨hc, a, rfl⟩
      · subst hc
        have eA : cutA ad cp cp = ad := by unfold cutA; rw [if_pos rfl]
        rw [eA, show L - cp = 0 from by omega, Nat.sub_self] at hA
        have HA := Lib.hid hA
        clear hp hp1 e1 e5 e7 hA eA hne
        go_wp2_with fail
        go_region_law (fail)
        all_goals
          go_wp2_with fail
          go_region_law (fail)
          all_goals
            go_wp2
            go_ret
            exact ⟨_, rfl, (pass_end HN.out HKH.out hk HE.out HR.out HA.out _ rfl hr5).same rfl rfl rfl rfl⟩
      · have eA : cutA (some a) cp j = some (a.add j) := by unfold cutA; rw [if_neg hc]; rfl
        rw [eA] at hA
        have HA := Lib.hid hA
        clear hp hp1 e1 e5 e7 hA eA hne
        go_wp2_with fail
        go_region_law (fail)
        all_goals
          go_wp2_with fail
          go_region_law (fail)
          all_goals
            go_wp2
            go_ret
            exact ⟨_, rfl, (pass_end HN.out HKH.out hk HE.out HR.out HA.out _ rfl hr5).same rfl rfl rfl rfl⟩
end Go.Proofs.YteelldblfmhjlaaDoor
