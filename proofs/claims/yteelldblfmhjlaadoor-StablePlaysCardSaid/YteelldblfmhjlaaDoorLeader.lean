/- Contracts of package leader. -/
import Derived.Test.YteelldblfmhjlaaDoorSet
namespace Go.Proofs.YteelldblfmhjlaaDoor
set_option linter.unusedVariables false
set_option linter.unusedSimpArgs false
open Go.RowKit
/-- A member as it lies in memory. -/
structure LdR where
  p : Nat
  mb : Nat
  come : List Int
  heard : Nat
def ldV (r : LdR) : Value := .pointer (some ⟨r.p, 0, none⟩)
def ldM (r : LdR) : HProp := blk r.p (.cells #[.map (some r.mb), .int .i64 r.heard] 127 (0, 0)) * IMp r.mb (setM r.come)
/-- A leader: its words, and of each member what has come, and how much it heard. -/
structure Ld where
  words : List Int
  mem : List (List Int × Nat)
def ldA (r : LdR) : List Int × Nat := (r.come, r.heard)
def LdO (p : Nat) (wv : Value) (rb off cap : Nat) (ws : List Int) (rs : List LdR) : HProp :=
  blk p (.cells #[wv, .slice (some ⟨rb, off, none⟩) rs.length cap] 124 (0, 0)) * (IntSl wv ws * TabO ldM ldV 125 rb off cap rs)
def LdP (p : Nat) (l : Ld) : HProp := hex fun (x : (Value × Nat × Nat × Nat) × List LdR) => pur (x.2.map ldA = l.mem) * LdO p x.1.1 x.1.2.1 x.1.2.2.1 x.1.2.2.2 l.words x.2
theorem Own.ld_open {w0 w : World} {p : Nat} {l : Ld} {R : HProp} (h : Own w0 (LdP p l * R) w) : ∃ wv rb off cap rs, rs.map ldA = l.mem ∧ Own w0 (LdO p wv rb off cap l.words rs * R) w := by
  obtain ⟨⟨⟨wv, rb, off, cap⟩, rs⟩, h⟩ := Own.ex h
  rw [star_assoc] at h
  obtain ⟨he, h⟩ := Own.pur_out h
  exact ⟨wv, rb, off, cap, rs, he, h⟩
theorem Own.ld_close {w0 w : World} {p : Nat} {wv : Value} {rb off cap : Nat} {l : Ld} {rs : List LdR} {R : HProp} (he : rs.map ldA = l.mem) (h : Own w0 (LdO p wv rb off cap l.words rs * R) w) : Own w0 (LdP p l * R) w := by
  refine Own.ex_mk ((wv, rb, off, cap), rs) ?_
  rw [star_assoc]
  exact Own.pur_mk he h
section
variable {w0 w : World} {p : Nat} {wv : Value} {rb off cap : Nat} {ws : List Int} {rs : List LdR} {R : HProp}
theorem Own.ld_blk (h : Own w0 (LdO p wv rb off cap ws rs * R) w) : Own w0 (blk p (.cells #[wv, .slice (some ⟨rb, off, none⟩) rs.length cap] 124 (0, 0)) * (IntSl wv ws * (TabO ldM ldV 125 rb off cap rs * R))) w := h.perm (by unfold LdO; ac_rfl)
theorem Own.ld_tab (h : Own w0 (LdO p wv rb off cap ws rs * R) w) : Own w0 (TabO ldM ldV 125 rb off cap rs * (IntSl wv ws * (blk p (.cells #[wv, .slice (some ⟨rb, off, none⟩) rs.length cap] 124 (0, 0)) * R))) w := h.perm (by unfold LdO; ac_rfl)
theorem Own.ld_words (h : Own w0 (LdO p wv rb off cap ws rs * R) w) : Own w0 (IntSl wv ws * (TabO ldM ldV 125 rb off cap rs * (blk p (.cells #[wv, .slice (some ⟨rb, off, none⟩) rs.length cap] 124 (0, 0)) * R))) w := h.perm (by unfold LdO; ac_rfl)
theorem Own.ld_facts (h : Own w0 (LdO p wv rb off cap ws rs * R) w) :
    w.cell? ⟨p, 0, none⟩ = some wv ∧ w.cell? ⟨p, 1, none⟩ = some (.slice (some ⟨rb, off, none⟩) rs.length cap) ∧ (∀ i s, w.frozen? ⟨p, i, s⟩ = false) ∧
    (∀ (i : Nat) r, rs[i]? = some r → w.cell? ⟨rb, off + i, none⟩ = some (ldV r)) ∧ (∀ i s, w.frozen? ⟨rb, i, s⟩ = false) ∧ rs.length ≤ cap ∧ cap ≤ maxLen := by
  have h2 := h.ld_tab.tab_facts
  exact ⟨by rw [h.ld_blk.cell]; rfl, by rw [h.ld_blk.cell]; rfl, fun i s => h.ld_blk.free i s, h2.1, h2.2.1, h2.2.2.1, h2.2.2.2⟩
/-- What is left of a leader while one of its members is out. -/
def LdX (p : Nat) (wv : Value) (rb off cap : Nat) (ws : List Int) (rs : List LdR) (k : Nat) : HProp :=
  SlAt 125 1 rb off rs.length cap (rs.map ldV) * (starL ldM (rs.eraseIdx k) * (IntSl wv ws * blk p (.cells #[wv, .slice (some ⟨rb, off, none⟩) rs.length cap] 124 (0, 0))))
theorem Own.ld_take {k : Nat} (hk : k < rs.length) (h : Own w0 (LdO p wv rb off cap ws rs * R) w) : Own w0 (ldM rs[k] * (LdX p wv rb off cap ws rs k * R)) w :=
  (h.ld_tab.tab_take hk).perm (by unfold LdX; ac_rfl)
theorem Own.ld_give {k : Nat} (hk : k < rs.length) {y : LdR} (hy : y.p = rs[k].p) (h : Own w0 (ldM y * (LdX p wv rb off cap ws rs k * R)) w) : Own w0 (LdO p wv rb off cap ws (rs.set k y) * R) w := by
  refine h.perm ?_
  unfold LdX LdO TabO
  have e : (rs.set k y).map ldV = rs.map ldV := by
    rw [List.map_set]
    have : ldV y = (rs.map ldV)[k]'(by simpa using hk) := by simp [ldV, hy]
    rw [this, List.set_getElem_self]
  rw [starL_set ldM rs k hk, e, List.length_set]
  ac_rfl
theorem Own.ldx_facts {k : Nat} {Q : HProp} (h : Own w0 (Q * (LdX p wv rb off cap ws rs k * R)) w) :
    w.cell? ⟨p, 0, none⟩ = some wv ∧ w.cell? ⟨p, 1, none⟩ = some (.slice (some ⟨rb, off, none⟩) rs.length cap) := by
  have h1 : Own w0 (blk p (.cells #[wv, .slice (some ⟨rb, off, none⟩) rs.length cap] 124 (0, 0)) * (SlAt 125 1 rb off rs.length cap (rs.map ldV) * (starL ldM (rs.eraseIdx k) * (IntSl wv ws * (Q * R))))) w := h.perm (by unfold LdX; ac_rfl)
  exact ⟨by rw [h1.cell]; rfl, by rw [h1.cell]; rfl⟩
theorem Own.ldx_words {k : Nat} {Q : HProp} (h : Own w0 (Q * (LdX p wv rb off cap ws rs k * R)) w) : Own w0 (IntSl wv ws * (SlAt 125 1 rb off rs.length cap (rs.map ldV) * (starL ldM (rs.eraseIdx k) * (blk p (.cells #[wv, .slice (some ⟨rb, off, none⟩) rs.length cap] 124 (0, 0)) * (Q * R))))) w := h.perm (by unfold LdX; ac_rfl)
theorem Own.ldm_blk {r : LdR} (h : Own w0 (ldM r * R) w) : Own w0 (blk r.p (.cells #[.map (some r.mb), .int .i64 r.heard] 127 (0, 0)) * (IMp r.mb (setM r.come) * R)) w := h.perm (by unfold ldM; ac_rfl)
theorem Own.ldm_map {r : LdR} (h : Own w0 (ldM r * R) w) : Own w0 (IMp r.mb (setM r.come) * (blk r.p (.cells #[.map (some r.mb), .int .i64 r.heard] 127 (0, 0)) * R)) w := h.perm (by unfold ldM; ac_rfl)
theorem Own.ldm_facts {r : LdR} (h : Own w0 (ldM r * R) w) : w.cell? ⟨r.p, 0, none⟩ = some (.map (some r.mb)) ∧ w.cell? ⟨r.p, 1, none⟩ = some (.int .i64 r.heard) ∧ (∀ i s, w.frozen? ⟨r.p, i, s⟩ = false) :=
  ⟨by rw [h.ldm_blk.cell]; rfl, by rw [h.ldm_blk.cell]; rfl, fun i s => h.ldm_blk.free i s⟩
theorem Own.ldm_look {r : LdR} (h : Own w0 (ldM r * R) w) (x : Int) (hx : I64 x) :
    (Instr.lookup 119 (.map (some r.mb)) (.int .i64 x) false).run Tryd.prog w = .ok (.bool (decide (x ∈ r.come))) w := by
  have h1 := h.ldm_map.map_look (int_ke int_kind) mapint_kind bool_zero hx false
  rw [mget_setM, if_neg (by decide)] at h1
  exact h1
end
set_option maxRecDepth 100000 in
set_option maxHeartbeats 4000000 in
theorem ldHas_any (p n cap : Nat) (ad : Option Addr) (who : Int) (w : World) (hc : w.cell? ⟨p, 1, none⟩ = some (.slice ad n cap)) :
    Calls Tryd.prog 66 #[.pointer (some ⟨p, 0, none⟩), .int .i64 who] w fun e w' => e = .returned (.bool (inR who n)) ∧ w = w' := by
  by_cases h0 : 0 ≤ who
  · go_enter Tryd.func66, Tryd.ntmps66
    go_wp2
    all_goals (go_ret; exact ⟨ret_bool (by unfold inR; simp; try omega), rfl⟩)
  · go_enter Tryd.func66, Tryd.ntmps66
    go_wp2
    all_goals (go_ret; exact ⟨ret_bool (by unfold inR; simp; try omega), rfl⟩)
/-- How far a member has heard: on from h, as long as what is next has come. -/
def ldAdv (come : List Int) : Nat → Nat → Nat
  | 0, h => h
  | k + 1, h => if (h : Int) ∈ come then ldAdv come k (h + 1) else h
def ldErr (l : Ld) (who at0 : Int) : Nat := if inR who l.mem.length = false then 1 else if at0 < 0 then 5 else if (l.words.length : Int) ≤ at0 then 5 else 0
def ldGet (l : Ld) (who : Int) : List Int × Nat := l.mem.getD who.toNat ([], 0)
def ldFar (l : Ld) (who at0 : Int) : Nat := ldAdv (setPut (ldGet l who).1 at0) (l.words.length - (ldGet l who).2) (ldGet l who).2
def ldTake (l : Ld) (who at0 : Int) : Ld := if ldErr l who at0 = 0 then ⟨l.words, l.mem.set who.toNat (setPut (ldGet l who).1 at0, ldFar l who at0)⟩ else l
def ldOut (l : Ld) (who at0 : Int) : List Int := if ldErr l who at0 = 0 then (l.words.take (ldFar l who at0)).drop (ldGet l who).2 else []
def ldFit (l : Ld) : Prop := l.words.length ≤ 10000 ∧ (∀ x ∈ l.words, 1 ≤ x ∧ x ≤ 30) ∧ ∀ m ∈ l.mem, m.2 ≤ l.words.length ∧ ∀ x ∈ m.1, 0 ≤ x ∧ x < l.words.length
theorem ldAdv_le (come : List Int) (L : Nat) (hc : ∀ x ∈ come, x < (L : Int)) : ∀ k h, h ≤ L → h ≤ ldAdv come k h ∧ ldAdv come k h ≤ L
  | 0, h, hl => ⟨Nat.le_refl _, hl⟩
  | k + 1, h, hl => by
    unfold ldAdv
    by_cases e : (h : Int) ∈ come
    · rw [if_pos e]
      have := hc _ e
      have := ldAdv_le come L hc k (h + 1) (by omega)
      omega
    · rw [if_neg e]; omega
set_option maxRecDepth 100000 in
set_option maxHeartbeats 4000000 in
theorem ldTake_no {w0 w : World} {R : HProp} (p : Nat) (l : Ld) (who at0 : Int) (he : ldErr l who at0 ≠ 0) (h : Own w0 (LdP p l * R) w) :
    Calls Tryd.prog 48 #[.pointer (some ⟨p, 0, none⟩), .int .i64 who, .int .i64 at0] w fun e w' => e = .returned (.tuple #[.slice none 0 0, errV (ldErr l who at0)]) ∧ w = w' := by
  obtain ⟨wv, rb, off, cap, rs, hm, ho⟩ := h.ld_open
  have hlen : l.mem.length = rs.length := by rw [← hm, List.length_map]
  obtain ⟨c0, c1, _⟩ := ho.ld_facts
  obtain ⟨ad, cp, hv⟩ := ho.ld_words.int_shape
  rw [hv] at c0
  have HE := Lib.hid he
  clear he
  cases hin : inR who rs.length
  · have ht : ldErr l who at0 = 1 := by simp [ldErr, hlen, hin]
    have HIN := Lib.hid hin; have HT := Lib.hid ht; have H := Lib.hid h; have HO := Lib.hid ho; have HM := Lib.hid hm; have HLEN := Lib.hid hlen; have HV := Lib.hid hv
    clear hin ht h ho hm hlen hv
    go_enter Tryd.func48, Tryd.ntmps48
    go_wp2_with fail
    refine (ldHas_any _ _ _ _ _ _ c1).mono ?_
    rintro e w' ⟨rfl, rfl⟩
    rw [HIN.out]
    go_wp2
    go_ret2
    exact ⟨by rw [HT.out]; rfl, rfl⟩
  by_cases h1 : at0 < 0
  · have ht : ldErr l who at0 = 5 := by simp [ldErr, hlen, hin, h1]
    have HIN := Lib.hid hin; have HT := Lib.hid ht; have H := Lib.hid h; have HO := Lib.hid ho; have HM := Lib.hid hm; have HLEN := Lib.hid hlen; have HV := Lib.hid hv
    clear hin ht h ho hm hlen hv
    go_enter Tryd.func48, Tryd.ntmps48
    go_wp2_with fail
    refine (ldHas_any _ _ _ _ _ _ c1).mono ?_
    rintro e w' ⟨rfl, rfl⟩
    rw [HIN.out]
    go_wp2
    go_ret2
    exact ⟨by rw [HT.out]; rfl, rfl⟩
  have h2 : (l.words.length : Int) ≤ at0 := by
    have := HE.out
    simp only [ldErr, hlen, hin, h1] at this
    simp at this
    exact this
  have ht : ldErr l who at0 = 5 := by simp [ldErr, hlen, hin, h2]
  have HIN := Lib.hid hin; have HT := Lib.hid ht; have H := Lib.hid h; have HO := Lib.hid ho; have HM := Lib.hid hm; have HLEN := Lib.hid hlen; have HV := Lib.hid hv
  clear hin ht h ho hm hlen hv
  go_enter Tryd.func48, Tryd.ntmps48
  go_wp2_with fail
  refine (ldHas_any _ _ _ _ _ _ c1).mono ?_
  rintro e w' ⟨rfl, rfl⟩
  rw [HIN.out]
  go_wp2
  go_ret2
  exact ⟨by rw [HT.out]; rfl, rfl⟩
theorem ldTake_end {w0 w : World} {p : Nat} {ad : Option Addr} {L cp rb off cap k h : Nat} {l : Ld} {rs : List LdR} {R : HProp} {v : Value} {C : List Int} (hk : k < rs.length) (hm : rs.map ldA = l.mem)
    (ho : Own w0 (IntSl v ((l.words.take h).drop rs[k].heard) * (ldM ⟨rs[k].p, rs[k].mb, C, h⟩ * (LdX p (.slice ad L cp) rb off cap l.words rs k * R))) w) :
    Own w0 (IntSl v ((l.words.take h).drop rs[k].heard) * (LdP p ⟨l.words, l.mem.set k (C, h)⟩ * R)) w := by
  have h1 : Own w0 (ldM ⟨rs[k].p, rs[k].mb, C, h⟩ * (LdX p (.slice ad L cp) rb off cap l.words rs k * (IntSl v ((l.words.take h).drop rs[k].heard) * R))) w := ho.perm (by ac_rfl)
  have h2 := Own.ld_give (R := IntSl v ((l.words.take h).drop rs[k].heard) * R) hk (y := ⟨rs[k].p, rs[k].mb, C, h⟩) rfl h1
  exact (Own.ld_close (l := ⟨l.words, l.mem.set k (C, h)⟩) (by rw [List.map_set, hm]; rfl) h2).perm (star_left_comm _ _ _)
set_option maxRecDepth 100000 in
set_option maxHeartbeats 4000000 in
theorem ldTake_yes {w0 w : World} {R : HProp} (p : Nat) (l : Ld) (k : Nat) (at0 : Int) (hk : k < l.mem.length) (hat1 : 0 ≤ at0) (hat2 : at0 < (l.words.length : Int)) (hfit : ldFit l) (h : Own w0 (LdP p l * R) w) :
    Calls Tryd.prog 48 #[.pointer (some ⟨p, 0, none⟩), .int .i64 (k : Int), .int .i64 at0] w fun e w' => ∃ v, e = .returned (.tuple #[v, .nilIface]) ∧ Own w0 (IntSl v ((l.words.take (ldFar l k at0)).drop (ldGet l k).2) * (LdP p ⟨l.words, l.mem.set k (setPut (ldGet l k).1 at0, ldFar l k at0)⟩ * R)) w' := by
  obtain ⟨wv, rb, off, cap, rs, hm, ho⟩ := h.ld_open
  have hlen : l.mem.length = rs.length := by rw [← hm, List.length_map]
  rw [hlen] at hk
  obtain ⟨c0, c1, _, c3, _, c5, c6⟩ := ho.ld_facts
  obtain ⟨ad, cp, hv, hcp1, hcp2, _⟩ := Own.rd ho.ld_words
  have hwI : ∀ x ∈ l.words, I64 x := fun x hx => by have := hfit.2.1 x hx; unfold I64; omega
  subst hv
  obtain ⟨L, hL⟩ : ∃ L, L = l.words.length := ⟨_, rfl⟩
  have hL1 : L ≤ 10000 := by rw [hL]; exact hfit.1
  rw [← hL] at c0 ho hat2 hcp1
  have hget : ldGet l k = (rs[k].come, rs[k].heard) := by
    unfold ldGet
    rw [← hm]
    simp [hk, ldA]
  have hmem : (rs[k].come, rs[k].heard) ∈ l.mem := by rw [← hm]; exact List.mem_map.2 ⟨rs[k], List.getElem_mem hk, rfl⟩
  have hf := hfit.2.2 _ hmem
  have hC : ∀ x ∈ setPut rs[k].come at0, 0 ≤ x ∧ x < (L : Int) := fun x hx => by
    rcases mem_setPut.1 hx with hx | rfl
    · rw [hL]; exact hf.2 x hx
    · omega
  have hh0 : rs[k].heard ≤ L := by rw [hL]; exact hf.1
  have c3k := c3 k rs[k] (by simp [hk])
  have hx := ho.ld_take hk
  have hF : ldFar l k at0 = ldAdv (setPut rs[k].come at0) (L - rs[k].heard) rs[k].heard := by unfold ldFar; rw [hget, hL]
  rw [hget, hF]
  obtain ⟨h0, hh0e⟩ : ∃ h0, h0 = rs[k].heard := ⟨_, rfl⟩
  obtain ⟨mp, hmp⟩ : ∃ mp, mp = rs[k].p := ⟨_, rfl⟩
  obtain ⟨mb, hmb⟩ : ∃ mb, mb = rs[k].mb := ⟨_, rfl⟩
  obtain ⟨C, hCe⟩ : ∃ C, C = setPut rs[k].come at0 := ⟨_, rfl⟩
  obtain ⟨F, hFe⟩ : ∃ F, F = ldAdv C (L - h0) h0 := ⟨_, rfl⟩
  obtain ⟨d0, d1, d2⟩ := hx.ldm_facts
  rw [← hmp] at d0 d1 d2
  rw [← hmb] at d0
  rw [← hh0e] at d1
  unfold ldV at c3k
  rw [← hmp] at c3k
  rw [← hCe] at hC
  simp only
  rw [← hCe, ← hh0e, ← hFe]
  have hfin : ∀ v w', Own w0 (IntSl v ((l.words.take F).drop h0) * (ldM ⟨mp, mb, C, F⟩ * (LdX p (.slice ad L cp) rb off cap l.words rs k * R))) w' → Own w0 (IntSl v ((l.words.take F).drop h0) * (LdP p ⟨l.words, l.mem.set k (C, F)⟩ * R)) w' := fun v w' ho => by
    rw [hh0e] at ho ⊢
    rw [hmp, hmb] at ho
    exact ldTake_end hk hm ho
  have hin : inR (k : Int) rs.length = true := by simp [inR]; omega
  have hI : I64 at0 := by unfold I64; omega
  have hput : ∀ w', Own w0 (IMp mb (setM C) * (blk mp (.cells #[.map (some mb), .int .i64 h0] 127 (0, 0)) * (LdX p (.slice ad L cp) rb off cap l.words rs k * R))) w' → Own w0 (ldM ⟨mp, mb, C, h0⟩ * (LdX p (.slice ad L cp) rb off cap l.words rs k * R)) w' := fun w' ho => ho.perm (by unfold ldM; ac_rfl)
  have hxm := hx.ldm_map
  rw [← hmb, ← hmp, ← hh0e] at hxm
  have hh0L : h0 ≤ L := by omega
  have hnat : ¬ (L : Int) ≤ at0 := by omega
  have d2' := d2 0 none
  have c3k' := c3k
  have HIN := Lib.hid hin; have HI := Lib.hid hI; have HPUT := Lib.hid hput; have HXM := Lib.hid hxm; have HFIN := Lib.hid hfin; have HC := Lib.hid hC; have HM := Lib.hid hm; have HLEN := Lib.hid hlen; have HL := Lib.hid hL; have HWI := Lib.hid hwI; have HX := Lib.hid hx; have HO := Lib.hid ho; have HF := Lib.hid hF; have HCE := Lib.hid hCe; have HFE := Lib.hid hFe; have HH0E := Lib.hid hh0e; have HMP := Lib.hid hmp; have HMB := Lib.hid hmb; have HGET := Lib.hid hget; have HMEM := Lib.hid hmem; have HF := Lib.hid hf; have HFIT := Lib.hid hfit; have D2 := Lib.hid d2
  clear hin hI hput hxm hfin hC hm hlen hL hwI hx ho hF hCe hFe hh0e hmp hmb hget hmem hf hfit d2
  clear h c3 c3k' hh0
  go_enter Tryd.func48, Tryd.ntmps48
  go_wp2_with fail
  refine (ldHas_any _ _ _ _ _ _ c1).mono ?_
  rintro e w' ⟨rfl, rfl⟩
  rw [HIN.out]
  go_wp2_with (at_mapUpdate; refine wpList_put (v := .bool true) (x := at0) (int_ke int_kind) mapint_kind HXM.out HI.out rfl _ _ _ rfl rfl rfl rfl ?_; intro w1 hown1; rw [mput_setPut, ← HCE.out] at hown1; have ho1 := Lib.hid (HPUT.out _ hown1); clear hown1; have e1 := ho1.out.ldm_facts.2.1)
  go_loopg [] (L - h0) (fun g wr => ∃ h : Nat, h0 ≤ h ∧ h + g = L ∧ Hid (ldAdv C g h = F) ∧ Hid (Own w0 (ldM ⟨mp, mb, C, h⟩ * (LdX p (.slice ad L cp) rb off cap l.words rs k * R)) wr))
  case atStart => exact ⟨h0, Nat.le_refl _, by omega, HFE.out.symm, ho1⟩
  case round =>
    obtain ⟨h, hh1, hh2, HA, HO1⟩ := hrel
    obtain ⟨f0, f1, f2⟩ := HO1.out.ldm_facts
    have f2' := f2 1 none
    have hhI : I64 (h : Int) := by unfold I64; omega
    have hlk := fun n => (HO1.out.drewN n).ldm_look (h : Int) hhI
    obtain ⟨g0, g1⟩ := HO1.out.ldx_facts
    simp only at hlk f0 f1
    clear c0 c1 c3k d0 d1 d2' f2 hhI e1
    by_cases e : (h : Int) ∈ C
    · rw [decide_eq_true e] at hlk
      have hlt := (HC.out _ e).2
      have HE := Lib.hid e
      clear e
      go_wp2_with fail
      go_quiet (fail)
      go_wp2
      go_roundg (gk - 1)
      case measure => omega
      case rel =>
        refine ⟨h + 1, by omega, by omega, ?_, ?_⟩
        · have := HA.out
          rw [show gk = (gk - 1) + 1 from by omega, ldAdv, if_pos HE.out] at this
          exact this
        · exact (((HO1.out.drewN _).ldm_blk.setCell (i := 1) (v := .int .i64 ((h : Int) + 1))).perm (by unfold ldM; simp; ac_rfl))
    · rw [decide_eq_false e] at hlk
      have HE := Lib.hid e
      clear e
      go_wp2_with fail
      go_quiet (fail)
      have hFh : h = F := by
        have := HA.out
        cases gk with
        | zero => exact this
        | succ j => rw [ldAdv, if_neg HE.out] at this; exact this
      subst hFh
      have hsl := fun w => slice_mid (P := Tryd.prog) (e := 3) Tryd.underlying22 int_size1 (ad := ad) (cp := cp) hh1 (show h ≤ L from by omega) hcp1 w
      have hio : Ints wr (.slice ad L cp) l.words := ⟨by have := Own.rd HO1.out.ldx_words; exact this, HWI.out⟩
      have hmi := Ints.mid hio hh1 (show h ≤ L from by omega)
      have hsm : ((l.words.take h).drop h0).length ≤ 100000 := by simp; omega
      have HMI := Lib.hid hmi
      clear hio hmi
      go_wp2_with fail
      refine wp_region_tail 10 (by kernel_rfl) (by kernel_rfl) ?_
      simp only [List.take_succ_cons, List.take_zero, List.drop_succ_cons, List.drop_zero]
      repeat still_step
      refine wpStill_nil ?_
      go_wp2_with fail
      refine (cloneInts_any ((HO1.out.drewN _).drew) _ _ (HMI.out.heap rfl) hsm).mono ?_
      rintro e w2 ⟨v', rfl, ho2⟩
      have HO2 := Lib.hid ho2
      clear ho2
      go_wp2
      go_ret2
      exact ⟨v', rfl, HFIN.out _ _ HO2.out⟩
theorem ldTake_any {w0 w : World} {R : HProp} (p : Nat) (l : Ld) (who at0 : Int) (hfit : ldFit l) (h : Own w0 (LdP p l * R) w) :
    Calls Tryd.prog 48 #[.pointer (some ⟨p, 0, none⟩), .int .i64 who, .int .i64 at0] w fun e w' => ∃ v, e = .returned (.tuple #[v, errV (ldErr l who at0)]) ∧ Own w0 (IntSl v (ldOut l who at0) * (LdP p (ldTake l who at0) * R)) w' := by
  by_cases he : ldErr l who at0 = 0
  · have h1 := he
    unfold ldErr at h1
    split at h1
    · cases h1
    rename_i hin
    split at h1
    · cases h1
    rename_i h2
    split at h1
    · cases h1
    rename_i h3
    have hw : 0 ≤ who ∧ who < l.mem.length := by simpa [inR] using hin
    obtain ⟨k, rfl⟩ := Int.eq_ofNat_of_zero_le hw.1
    refine (ldTake_yes p l k at0 (by omega) (by omega) (by omega) hfit h).mono ?_
    rintro e w' ⟨v, rfl, ho⟩
    refine ⟨v, by rw [he]; rfl, ?_⟩
    unfold ldOut ldTake
    rw [if_pos he, if_pos he, Int.toNat_natCast]
    exact ho
  · refine (ldTake_no p l who at0 he h).mono ?_
    rintro e w' ⟨rfl, rfl⟩
    refine ⟨_, rfl, ?_⟩
    unfold ldOut ldTake
    rw [if_neg he, if_neg he]
    exact h.sl_nil _ _
end Go.Proofs.YteelldblfmhjlaaDoor
