/- Contracts of package leader. -/
import Derived.Test.YtiipldlggjjlnaaMTopTotal2
namespace Go.Proofs.Ytiipldlggjjlnaa
set_option linter.unusedVariables false
set_option linter.unusedSimpArgs false
open Go.RowKit
/-- A member as it lies in memory. -/
structure LdR where
  p : Nat
  mb : Nat
  come : List Int
  heard : Nat
def ldV (r : LdR) : Value := .pointer (some ⟨r.p, 0, none⟩)
def ldM (r : LdR) : HProp := blk r.p (.cells #[.map (some r.mb), .int .i64 r.heard] 90 (0, 0)) * IMp r.mb (setM r.come)
/-- A leader: its words, and of each member what has come, and how much it heard. -/
structure Ld where
  words : List Int
  mem : List (List Int × Nat)
def ldA (r : LdR) : List Int × Nat := (r.come, r.heard)
def LdO (p : Nat) (wv : Value) (rb off cap : Nat) (ws : List Int) (rs : List LdR) : HProp :=
  blk p (.cells #[wv, .slice (some ⟨rb, off, none⟩) rs.length cap] 87 (0, 0)) * (IntSl wv ws * TabO ldM ldV 88 rb off cap rs)
def LdP (p : Nat) (l : Ld) : HProp := hex fun (x : (Value × Nat × Nat × Nat) × List LdR) => pur (x.2.map ldA = l.mem) * LdO p x.1.1 x.1.2.1 x.1.2.2.1 x.1.2.2.2 l.words x.2
theorem Own.ld_open {w0 w : World} {p : Nat} {l : Ld} {R : HProp} (h : Own w0 (LdP p l * R) w) : ∃ wv rb off cap rs, rs.map ldA = l.mem ∧ Own w0 (LdO p wv rb off cap l.words rs * R) w := by
  obtain ⟨⟨⟨wv, rb, off, cap⟩, rs⟩, h⟩ := Own.ex h
  rw [star_assoc] at h
  obtain ⟨he, h⟩ := Own.pur_out h
  exact ⟨wv, rb, off, cap, rs, he, h⟩
theorem Own.ld_close {w0 w : World} {p : Nat} {wv : Value} {rb off cap : Nat} {l : Ld} {rs : List LdR} {R : HProp} (he : rs.map ldA = l.mem) (h : Own w0 (LdO p wv rb off cap l.words rs * R) w) : Own w0 (LdP p l * R) w := by
  refine Own.ex_mk ((wv, rb, off, cap), rs) ?_
  rw [star_assoc]
  exact Own.pur_mk he h
section
variable {w0 w : World} {p : Nat} {wv : Value} {rb off cap : Nat} {ws : List Int} {rs : List LdR} {R : HProp}
theorem Own.ld_blk (h : Own w0 (LdO p wv rb off cap ws rs * R) w) : Own w0 (blk p (.cells #[wv, .slice (some ⟨rb, off, none⟩) rs.length cap] 87 (0, 0)) * (IntSl wv ws * (TabO ldM ldV 88 rb off cap rs * R))) w := h.perm (by unfold LdO; ac_rfl)
theorem Own.ld_tab (h : Own w0 (LdO p wv rb off cap ws rs * R) w) : Own w0 (TabO ldM ldV 88 rb off cap rs * (IntSl wv ws * (blk p (.cells #[wv, .slice (some ⟨rb, off, none⟩) rs.length cap] 87 (0, 0)) * R))) w := h.perm (by unfold LdO; ac_rfl)
theorem Own.ld_words (h : Own w0 (LdO p wv rb off cap ws rs * R) w) : Own w0 (IntSl wv ws * (TabO ldM ldV 88 rb off cap rs * (blk p (.cells #[wv, .slice (some ⟨rb, off, none⟩) rs.length cap] 87 (0, 0)) * R))) w := h.perm (by unfold LdO; ac_rfl)
theorem Own.ld_facts (h : Own w0 (LdO p wv rb off cap ws rs * R) w) :
    w.cell? ⟨p, 0, none⟩ = some wv ∧ w.cell? ⟨p, 1, none⟩ = some (.slice (some ⟨rb, off, none⟩) rs.length cap) ∧ (∀ i s, w.frozen? ⟨p, i, s⟩ = false) ∧
    (∀ (i : Nat) r, rs[i]? = some r → w.cell? ⟨rb, off + i, none⟩ = some (ldV r)) ∧ (∀ i s, w.frozen? ⟨rb, i, s⟩ = false) ∧ rs.length ≤ cap ∧ cap ≤ maxLen := by
  have h2 := h.ld_tab.tab_facts
  exact ⟨by rw [h.ld_blk.cell]; rfl, by rw [h.ld_blk.cell]; rfl, fun i s => h.ld_blk.free i s, h2.1, h2.2.1, h2.2.2.1, h2.2.2.2⟩
/-- What is left of a leader while one of its members is out. -/
def LdX (p : Nat) (wv : Value) (rb off cap : Nat) (ws : List Int) (rs : List LdR) (k : Nat) : HProp :=
  SlAt 88 1 rb off rs.length cap (rs.map ldV) * (starL ldM (rs.eraseIdx k) * (IntSl wv ws * blk p (.cells #[wv, .slice (some ⟨rb, off, none⟩) rs.length cap] 87 (0, 0))))
theorem Own.ld_take {k : Nat} (hk : k < rs.length) (h : Own w0 (LdO p wv rb off cap ws rs * R) w) : Own w0 (ldM rs[k] * (LdX p wv rb off cap ws rs k * R)) w :=
  (h.ld_tab.tab_take hk).perm (by unfold LdX; ac_rfl)
theorem Own.ld_give {k : Nat} (hk : k < rs.length) {y : LdR} (hy : y.p = rs[k].p) (h : Own w0 (ldM y * (LdX p wv rb off cap ws rs k * R)) w) : Own w0 (LdO p wv rb off cap ws (rs.set k y) * R) w := by
  refine h.perm ?_
  unfold LdX LdO TabO
  have e : (rs.set k y).map ldV = rs.map ldV := by
    rw [List.map_set]
    have : ldV y = (rs.map ldV)[k]'(by simpa using hk) := by simp [ldV, hy]
    rw [this, List.set_getElem_self]
  rw [starL_set ldM rs k hk, e, List.length_set]
  ac_rfl
theorem Own.ldx_facts {k : Nat} {Q : HProp} (h : Own w0 (Q * (LdX p wv rb off cap ws rs k * R)) w) :
    w.cell? ⟨p, 0, none⟩ = some wv ∧ w.cell? ⟨p, 1, none⟩ = some (.slice (some ⟨rb, off, none⟩) rs.length cap) := by
  have h1 : Own w0 (blk p (.cells #[wv, .slice (some ⟨rb, off, none⟩) rs.length cap] 87 (0, 0)) * (SlAt 88 1 rb off rs.length cap (rs.map ldV) * (starL ldM (rs.eraseIdx k) * (IntSl wv ws * (Q * R))))) w := h.perm (by unfold LdX; ac_rfl)
  exact ⟨by rw [h1.cell]; rfl, by rw [h1.cell]; rfl⟩
theorem Own.ldx_words {k : Nat} {Q : HProp} (h : Own w0 (Q * (LdX p wv rb off cap ws rs k * R)) w) : Own w0 (IntSl wv ws * (SlAt 88 1 rb off rs.length cap (rs.map ldV) * (starL ldM (rs.eraseIdx k) * (blk p (.cells #[wv, .slice (some ⟨rb, off, none⟩) rs.length cap] 87 (0, 0)) * (Q * R))))) w := h.perm (by unfold LdX; ac_rfl)
theorem Own.ldm_blk {r : LdR} (h : Own w0 (ldM r * R) w) : Own w0 (blk r.p (.cells #[.map (some r.mb), .int .i64 r.heard] 90 (0, 0)) * (IMp r.mb (setM r.come) * R)) w := h.perm (by unfold ldM; ac_rfl)
theorem Own.ldm_map {r : LdR} (h : Own w0 (ldM r * R) w) : Own w0 (IMp r.mb (setM r.come) * (blk r.p (.cells #[.map (some r.mb), .int .i64 r.heard] 90 (0, 0)) * R)) w := h.perm (by unfold ldM; ac_rfl)
theorem Own.ldm_facts {r : LdR} (h : Own w0 (ldM r * R) w) : w.cell? ⟨r.p, 0, none⟩ = some (.map (some r.mb)) ∧ w.cell? ⟨r.p, 1, none⟩ = some (.int .i64 r.heard) ∧ (∀ i s, w.frozen? ⟨r.p, i, s⟩ = false) :=
  ⟨by rw [h.ldm_blk.cell]; rfl, by rw [h.ldm_blk.cell]; rfl, fun i s => h.ldm_blk.free i s⟩
theorem Own.ldm_look {r : LdR} (h : Own w0 (ldM r * R) w) (x : Int) (hx : I64 x) :
    (Instr.lookup 82 (.map (some r.mb)) (.int .i64 x) false).run Try.prog w = .ok (.bool (decide (x ∈ r.come))) w := by
  have h1 := h.ldm_map.map_look (int_ke int_kind) mapint_kind bool_zero hx false
  rw [mget_setM, if_neg (by decide)] at h1
  exact h1
end
set_option maxRecDepth 100000 in
set_option maxHeartbeats 4000000 in
theorem ldHas_any (p n cap : Nat) (ad : Option Addr) (who : Int) (w : World) (hc : w.cell? ⟨p, 1, none⟩ = some (.slice ad n cap)) :
    Calls Try.prog 36 #[.pointer (some ⟨p, 0, none⟩), .int .i64 who] w fun e w' => e = .returned (.bool (inR who n)) ∧ w = w' := by
  by_cases h0 : 0 ≤ who
  · go_enter Try.func36, Try.ntmps36
    go_wp2
    all_goals (go_ret; exact ⟨ret_bool (by unfold inR; simp; try omega), rfl⟩)
  · go_enter Try.func36, Try.ntmps36
    go_wp2
    all_goals (go_ret; exact ⟨ret_bool (by unfold inR; simp; try omega), rfl⟩)
/-- How far a member has heard: on from h, as long as what is next has come. -/
def ldAdv (come : List Int) : Nat → Nat → Nat
  | 0, h => h
  | k + 1, h => if (h : Int) ∈ come then ldAdv come k (h + 1) else h
def ldErr (l : Ld) (who at0 : Int) : Nat := if inR who l.mem.length = false then 1 else if at0 < 0 then 5 else if (l.words.length : Int) ≤ at0 then 5 else 0
def ldGet (l : Ld) (who : Int) : List Int × Nat := l.mem.getD who.toNat ([], 0)
def ldFar (l : Ld) (who at0 : Int) : Nat := ldAdv (setPut (ldGet l who).1 at0) (l.words.length - (ldGet l who).2) (ldGet l who).2
def ldTake (l : Ld) (who at0 : Int) : Ld := if ldErr l who at0 = 0 then ⟨l.words, l.mem.set who.toNat (setPut (ldGet l who).1 at0, ldFar l who at0)⟩ else l
def ldOut (l : Ld) (who at0 : Int) : List Int := if ldErr l who at0 = 0 then (l.words.take (ldFar l who at0)).drop (ldGet l who).2 else []
def ldFit (l : Ld) : Prop := l.words.length ≤ 10000 ∧ (∀ x ∈ l.words, 1 ≤ x ∧ x ≤ 30) ∧ ∀ m ∈ l.mem, m.2 ≤ l.words.length ∧ ∀ x ∈ m.1, 0 ≤ x ∧ x < l.words.length
theorem ldAdv_le (come : List Int) (L : Nat) (hc : ∀ x ∈ come, x < (L : Int)) : ∀ k h, h ≤ L → h ≤ ldAdv come k h ∧ ldAdv come k h ≤ L
  | 0, h, hl => ⟨Nat.le_refl _, hl⟩
  | k + 1, h, hl => by
    unfold ldAdv
    by_cases e : (h : Int) ∈ come
    · rw [if_pos e]
      have := hc _ e
      have := ldAdv_le come L hc k (h + 1) (by omega)
      omega
    · rw [if_neg e]; omega
set_option maxRecDepth 100000 in
set_option maxHeartbeats 4000000 in
theorem ldTake_no {w0 w : World} {R : HProp} (p : Nat) (l : Ld) (who at0 : Int) (he : ldErr l who at0 ≠ 0) (h : Own w0 (LdP p l * R) w) :
    Calls Try.prog 15 #[.pointer (some ⟨p, 0, none⟩), .int .i64 who, .int .i64 at0] w fun e w' => e = .returned (.tuple #[.slice none 0 0, errV (ldErr l who at0)]) ∧ w = w' := by
  obtain ⟨wv, rb, off, cap, rs, hm, ho⟩ := h.ld_open
  have hlen : l.mem.length = rs.length := by rw [← hm, List.length_map]
  obtain ⟨c0, c1, _⟩ := ho.ld_facts
  obtain ⟨ad, cp, hv⟩ := ho.ld_words.int_shape
  rw [hv] at c0
  have HE := Lib.hid he
  clear he
  cases hin : inR who rs.length
  · have ht : ldErr l who at0 = 1 := by simp [ldErr, hlen, hin]
    have HIN := Lib.hid hin; have HT := Lib.hid ht; have H := Lib.hid h; have HO := Lib.hid ho; have HM := Lib.hid hm; have HLEN := Lib.hid hlen; have HV := Lib.hid hv
    clear hin ht h ho hm hlen hv
    go_enter Try.func15, Try.ntmps15
    go_wp2_with fail
    refine (ldHas_any _ _ _ _ _ _ c1).mono ?_
    rintro e w' ⟨rfl, rfl⟩
    rw [HIN.out]
    go_wp2
    go_ret2
    exact ⟨by rw [HT.out]; rfl, rfl⟩
  by_cases h1 : at0 < 0
  · have ht : ldErr l who at0 = 5 := by simp [ldErr, hlen, hin, h1]
    have HIN := Lib.hid hin; have HT := Lib.hid ht; have H := Lib.hid h; have HO := Lib.hid ho; have HM := Lib.hid hm; have HLEN := Lib.hid hlen; have HV := Lib.hid hv
    clear hin ht h ho hm hlen hv
    go_enter Try.func15, Try.ntmps15
    go_wp2_with fail
    refine (ldHas_any _ _ _ _ _ _ c1).mono ?_
    rintro e w' ⟨rfl, rfl⟩
    rw [HIN.out]
    go_wp2
    go_ret2
    exact ⟨by rw [HT.out]; rfl, rfl⟩
  have h2 : (l.words.length : Int) ≤ at0 := by
    have := HE.out
    simp only [ldErr, hlen, hin, h1] at this
    simp at this
    exact this
  have ht : ldErr l who at0 = 5 := by simp [ldErr, hlen, hin, h2]
  have HIN := Lib.hid hin; have HT := Lib.hid ht; have H := Lib.hid h; have HO := Lib.hid ho; have HM := Lib.hid hm; have HLEN := Lib.hid hlen; have HV := Lib.hid hv
  clear hin ht h ho hm hlen hv
  go_enter Try.func15, Try.ntmps15
  go_wp2_with fail
  refine (ldHas_any _ _ _ _ _ _ c1).mono ?_
  rintro e w' ⟨rfl, rfl⟩
  rw [HIN.out]
  go_wp2
  go_ret2
  exact ⟨by rw [HT.out]; rfl, rfl⟩
theorem ldTake_end {w0 w : World} {p : Nat} {ad : Option Addr} {L cp rb off cap k h : Nat} {l : Ld} {rs : List LdR} {R : HProp} {v : Value} {C : List Int} (hk : k < rs.length) (hm : rs.map ldA = l.mem)
    (ho : Own w0 (IntSl v ((l.words.take h).drop rs[k].heard) * (ldM ⟨rs[k].p, rs[k].mb, C, h⟩ * (LdX p (.slice ad L cp) rb off cap l.words rs k * R))) w) :
    Own w0 (IntSl v ((l.words.take h).drop rs[k].heard) * (LdP p ⟨l.words, l.mem.set k (C, h)⟩ * R)) w := by
  have h1 : Own w0 (ldM ⟨rs[k].p, rs[k].mb, C, h⟩ * (LdX p (.slice ad L cp) rb off cap l.words rs k * (IntSl v ((l.words.take h).drop rs[k].heard) * R))) w := ho.perm (by ac_rfl)
  have h2 := Own.ld_give (R := IntSl v ((l.words.take h).drop rs[k].heard) * R) hk (y := ⟨rs[k].p, rs[k].mb, C, h⟩) rfl h1
  exact (Own.ld_close (l := ⟨l.words, l.mem.set k (C, h)⟩) (by rw [List.map_set, hm]; rfl) h2).perm (star_left_comm _ _ _)
set_option maxRecDepth 100000 in
set_option maxHeartbeats 4000000 in
theorem ldTake_yes {w0 w : World} {R : HProp} (p : Nat) (l : Ld) (k : Nat) (at0 : Int) (hk : k < l.mem.length) (hat1 : 0 ≤ at0) (hat2 : at0 < (l.words.length : Int)) (hfit : ldFit l) (h : Own w0 (LdP p l * R) w) :
    Calls Try.prog 15 #[.pointer (some ⟨p, 0, none⟩), .int .i64 (k : Int), .int .i64 at0] w fun e w' => ∃ v, e = .returned (.tuple #[v, .nilIface]) ∧ Own w0 (IntSl v ((l.words.take (ldFar l k at0)).drop (ldGet l k).2) * (LdP p ⟨l.words, l.mem.set k (setPut (ldGet l k).1 at0, ldFar l k at0)⟩ * R)) w' := by
  obtain ⟨wv, rb, off, cap, rs, hm, ho⟩ := h.ld_open
  have hlen : l.mem.length = rs.length := by rw [← hm, List.length_map]
  rw [hlen] at hk
  obtain ⟨c0, c1, _, c3, _, c5, c6⟩ := ho.ld_facts
  obtain ⟨ad, cp, hv, hcp1, hcp2, _⟩ := Own.rd ho.ld_words
  have hwI : ∀ x ∈ l.words, I64 x := fun x hx => by have := hfit.2.1 x hx; unfold I64; omega
  subst hv
  obtain ⟨L, hL⟩ : ∃ L, L = l.words.length := ⟨_, rfl⟩
  have hL1 : L ≤ 10000 := by rw [hL]; exact hfit.1
  rw [← hL] at c0 ho hat2 hcp1
  have hget : ldGet l k = (rs[k].come, rs[k].heard) := by
    unfold ldGet
    rw [← hm]
    simp [hk, ldA]
  have hmem : (rs[k].come, rs[k].heard) ∈ l.mem := by rw [← hm]; exact List.mem_map.2 ⟨rs[k], List.getElem_mem hk, rfl⟩
  have hf := hfit.2.2 _ hmem
  have hC : ∀ x ∈ setPut rs[k].come at0, 0 ≤ x ∧ x < (L : Int) := fun x hx => by
    rcases mem_setPut.1 hx with hx | rfl
    · rw [hL]; exact hf.2 x hx
    · omega
  have hh0 : rs[k].heard ≤ L := by rw [hL]; exact hf.1
  have c3k := c3 k rs[k] (by simp [hk])
  have hx := ho.ld_take hk
  have hF : ldFar l k at0 = ldAdv (setPut rs[k].come at0) (L - rs[k].heard) rs[k].heard := by unfold ldFar; rw [hget, hL]
  rw [hget, hF]
  obtain ⟨h0, hh0e⟩ : ∃ h0, h0 = rs[k].heard := ⟨_, rfl⟩
  obtain ⟨mp, hmp⟩ : ∃ mp, mp = rs[k].p := ⟨_, rfl⟩
  obtain ⟨mb, hmb⟩ : ∃ mb, mb = rs[k].mb := ⟨_, rfl⟩
  obtain ⟨C, hCe⟩ : ∃ C, C = setPut rs[k].come at0 := ⟨_, rfl⟩
  obtain ⟨F, hFe⟩ : ∃ F, F = ldAdv C (L - h0) h0 := ⟨_, rfl⟩
  obtain ⟨d0, d1, d2⟩ := hx.ldm_facts
  rw [← hmp] at d0 d1 d2
  rw [← hmb] at d0
  rw [← hh0e] at d1
  unfold ldV at c3k
  rw [← hmp] at c3k
  rw [← hCe] at hC
  simp only
  rw [← hCe, ← hh0e, ← hFe]
  have hfin : ∀ v w', Own w0 (IntSl v ((l.words.take F).drop h0) * (ldM ⟨mp, mb, C, F⟩ * (LdX p (.slice ad L cp) rb off cap l.words rs k * R))) w' → Own w0 (IntSl v ((l.words.take F).drop h0) * (LdP p ⟨l.words, l.mem.set k (C, F)⟩ * R)) w' := fun v w' ho => by
    rw [hh0e] at ho ⊢
    rw [hmp, hmb] at ho
    exact ldTake_end hk hm ho
  have hin : inR (k : Int) rs.length = true := by simp [inR]; omega
  have hI : I64 at0 := by unfold I64; omega
  have hput : ∀ w', Own w0 (IMp mb (setM C) * (blk mp (.cells #[.map (some mb), .int .i64 h0] 90 (0, 0)) * (LdX p (.slice ad L cp) rb off cap l.words rs k * R))) w' → Own w0 (ldM ⟨mp, mb, C, h0⟩ * (LdX p (.slice ad L cp) rb off cap l.words rs k * R)) w' := fun w' ho => ho.perm (by unfold ldM; ac_rfl)
  have hxm := hx.ldm_map
  rw [← hmb, ← hmp, ← hh0e] at hxm
  have hh0L : h0 ≤ L := by omega
  have hnat : ¬ (L : Int) ≤ at0 := by omega
  have d2' := d2 0 none
  have c3k' := c3k
  have HIN := Lib.hid hin; have HI := Lib.hid hI; have HPUT := Lib.hid hput; have HXM := Lib.hid hxm; have HFIN := Lib.hid hfin; have HC := Lib.hid hC; have HM := Lib.hid hm; have HLEN := Lib.hid hlen; have HL := Lib.hid hL; have HWI := Lib.hid hwI; have HX := Lib.hid hx; have HO := Lib.hid ho; have HF := Lib.hid hF; have HCE := Lib.hid hCe; have HFE := Lib.hid hFe; have HH0E := Lib.hid hh0e; have HMP := Lib.hid hmp; have HMB := Lib.hid hmb; have HGET := Lib.hid hget; have HMEM := Lib.hid hmem; have HF := Lib.hid hf; have HFIT := Lib.hid hfit; have D2 := Lib.hid d2
  clear hin hI hput hxm hfin hC hm hlen hL hwI hx ho hF hCe hFe hh0e hmp hmb hget hmem hf hfit d2
  clear h c3 c3k' hh0
  go_enter Try.func15, Try.ntmps15
  go_wp2_with fail
  refine (ldHas_any _ _ _ _ _ _ c1).mono ?_
  rintro e w' ⟨rfl, rfl⟩
  rw [HIN.out]
  go_wp2_with (at_mapUpdate; refine wpList_put (v := .bool true) (x := at0) (int_ke int_kind) mapint_kind HXM.out HI.out rfl _ _ _ rfl rfl rfl rfl ?_; intro w1 hown1; rw [mput_setPut, ← HCE.out] at hown1; have ho1 := Lib.hid (HPUT.out _ hown1); clear hown1; have e1 := ho1.out.ldm_facts.2.1)
  go_loopg [] (L - h0) (fun g wr => ∃ h : Nat, h0 ≤ h ∧ h + g = L ∧ Hid (ldAdv C g h = F) ∧ Hid (Own w0 (ldM ⟨mp, mb, C, h⟩ * (LdX p (.slice ad L cp) rb off cap l.words rs k * R)) wr))
  case atStart => exact ⟨h0, Nat.le_refl _, by omega, HFE.out.symm, ho1⟩
  case round =>
    obtain ⟨h, hh1, hh2, HA, HO1⟩ := hrel
    obtain ⟨f0, f1, f2⟩ := HO1.out.ldm_facts
    have f2' := f2 1 none
    have hhI : I64 (h : Int) := by unfold I64; omega
    have hlk := fun n => (HO1.out.drewN n).ldm_look (h : Int) hhI
    obtain ⟨g0, g1⟩ := HO1.out.ldx_facts
    simp only at hlk f0 f1
    clear c0 c1 c3k d0 d1 d2' f2 hhI e1
    by_cases e : (h : Int) ∈ C
    · rw [decide_eq_true e] at hlk
      have hlt := (HC.out _ e).2
      have HE := Lib.hid e
      clear e
      go_wp2_with fail
      go_quiet (fail)
      go_wp2
      go_roundg (gk - 1)
      case measure => omega
      case rel =>
        refine ⟨h + 1, by omega, by omega, ?_, ?_⟩
        · have := HA.out
          rw [show gk = (gk - 1) + 1 from by omega, ldAdv, if_pos HE.out] at this
          exact this
        · exact (((HO1.out.drewN _).ldm_blk.setCell (i := 1) (v := .int .i64 ((h : Int) + 1))).perm (by unfold ldM; simp; ac_rfl))
    · rw [decide_eq_false e] at hlk
      have HE := Lib.hid e
      clear e
      go_wp2_with fail
      go_quiet (fail)
      have hFh : h = F := by
        have := HA.out
        cases gk with
        | zero => exact this
        | succ j => rw [ldAdv, if_neg HE.out] at this; exact this
      subst hFh
      have hsl := fun w => slice_mid (P := Try.prog) (e := 3) Try.underlying25 int_size1 (ad := ad) (cp := cp) hh1 (show h ≤ L from by omega) hcp1 w
      have hio : Ints wr (.slice ad L cp) l.words := ⟨by have := Own.rd HO1.out.ldx_words; exact this, HWI.out⟩
      have hmi := Ints.mid hio hh1 (show h ≤ L from by omega)
      have hsm : ((l.words.take h).drop h0).length ≤ 100000 := by simp; omega
      have HMI := Lib.hid hmi
      clear hio hmi
      go_wp2_with fail
      refine wp_region_tail 10 (by kernel_rfl) (by kernel_rfl) ?_
      simp only [List.take_succ_cons, List.take_zero, List.drop_succ_cons, List.drop_zero]
      repeat still_step
      refine wpStill_nil ?_
      go_wp2_with fail
      refine (cloneInts_any ((HO1.out.drewN _).drew) _ _ (HMI.out.heap rfl) hsm).mono ?_
      rintro e w2 ⟨v', rfl, ho2⟩
      have HO2 := Lib.hid ho2
      clear ho2
      go_wp2
      go_ret2
      exact ⟨v', rfl, HFIN.out _ _ HO2.out⟩
theorem ldTake_any {w0 w : World} {R : HProp} (p : Nat) (l : Ld) (who at0 : Int) (hfit : ldFit l) (h : Own w0 (LdP p l * R) w) :
    Calls Try.prog 15 #[.pointer (some ⟨p, 0, none⟩), .int .i64 who, .int .i64 at0] w fun e w' => ∃ v, e = .returned (.tuple #[v, errV (ldErr l who at0)]) ∧ Own w0 (IntSl v (ldOut l who at0) * (LdP p (ldTake l who at0) * R)) w' := by
  by_cases he : ldErr l who at0 = 0
  · have h1 := he
    unfold ldErr at h1
    split at h1
    · cases h1
    rename_i hin
    split at h1
    · cases h1
    rename_i h2
    split at h1
    · cases h1
    rename_i h3
    have hw : 0 ≤ who ∧ who < l.mem.length := by simpa [inR] using hin
    obtain ⟨k, rfl⟩ := Int.eq_ofNat_of_zero_le hw.1
    refine (ldTake_yes p l k at0 (by omega) (by omega) (by omega) hfit h).mono ?_
    rintro e w' ⟨v, rfl, ho⟩
    refine ⟨v, by rw [he]; rfl, ?_⟩
    unfold ldOut ldTake
    rw [if_pos he, if_pos he, Int.toNat_natCast]
    exact ho
  · refine (ldTake_no p l who at0 he h).mono ?_
    rintro e w' ⟨rfl, rfl⟩
    refine ⟨_, rfl, ?_⟩
    unfold ldOut ldTake
    rw [if_neg he, if_neg he]
    exact h.sl_nil _ _
end Go.Proofs.Ytiipldlggjjlnaa
/- Contracts of package leader: New, Say, Lacks, Heard. -/
namespace Go.Proofs.Ytiipldlggjjlnaa
set_option linter.unusedVariables false
set_option linter.unusedSimpArgs false
open Go.RowKit
/-- A leader in the making. -/
def LdN (p : Nat) (mv : Value) (rs : List LdR) : HProp := blk p (.cells #[.slice none 0 0, mv] 87 (0, 0)) * (Sl 88 1 mv rs.length (rs.map ldV) * starL ldM rs)
theorem info_ldm : (Try.prog.info? 88).map (fun i => (i.zero, i.size, i.bytes)) = some (some (.pointer none), 1, 8) := by kernel_rfl
theorem ldN_open {w0 w : World} {p : Nat} {mv : Value} {rs : List LdR} {R : HProp} (h : Own w0 (LdN p mv rs * R) w) :
    Own w0 (blk p (.cells #[.slice none 0 0, mv] 87 (0, 0)) * (Sl 88 1 mv rs.length (rs.map ldV) * (starL ldM rs * R))) w := h.perm (by unfold LdN; ac_rfl)
theorem ldN_app {w0 w : World} {p : Nat} {mv : Value} {rs : List LdR} {R : HProp} (o : Obj) (h : Own w0 (LdN p mv rs * R) w) :
    Own w0 (Sl 88 1 mv rs.length (rs.map ldV) * (blk p (.cells #[.slice none 0 0, mv] 87 (0, 0)) * (starL ldM rs * (ldM ⟨w.heap.size + 1, w.heap.size, [], 0⟩ * R)))) (((w.alloc (.map #[] 0)).alloc (.cells #[.map (some w.heap.size), .int .i64 0] 90)).alloc o) := by
  have h1 := ((h.map_new (enc := fun n : Int => Value.int .i64 n) (ok := I64)).alloc (.cells #[.map (some w.heap.size), .int .i64 0] 90)).alloc' o
  refine h1.perm ?_
  unfold LdN ldM
  simp only [World.size_alloc, setM, List.map_nil]
  unfold IMp
  simp only [Int.natCast_zero]
  ac_rfl
theorem ldN_push {w0 w : World} {p q mb : Nat} {mv v' : Value} {rs : List LdR} {R : HProp}
    (h : Own w0 (Sl 88 1 v' (rs.length + 1) (rs.map ldV ++ [.pointer (some ⟨q, 0, none⟩)]) * (blk p (.cells #[.slice none 0 0, mv] 87 (0, 0)) * (starL ldM rs * (ldM ⟨q, mb, [], 0⟩ * R)))) w) :
    Own w0 (LdN p v' (rs ++ [⟨q, mb, [], 0⟩]) * R) (w.setCell ⟨p, 1, none⟩ v') := by
  have h1 := (h.perm (star_left_comm _ _ _)).setCell (i := 1) (v := v')
  refine h1.perm ?_
  unfold LdN
  rw [starL_snoc, List.length_append, List.map_append]
  simp [ldV]
  ac_rfl
def ldNew (n : Nat) : Ld := ⟨[], List.replicate n ([], 0)⟩
theorem ldN_done {w0 w : World} {p n : Nat} {mv : Value} {rs : List LdR} {R : HProp} (hn : 0 < rs.length) (hl : rs.map ldA = List.replicate n ([], 0)) (h : Own w0 (LdN p mv rs * R) w) : Own w0 (LdP p (ldNew n) * R) w := by
  have h1 := ((ldN_open h).perm (star_left_comm _ _ _))
  obtain ⟨b, off, cap, rfl, h2⟩ := h1.slAt (by simpa using hn)
  have h3 := h2.sl_nil 3 1
  refine Own.ld_close (wv := .slice none 0 0) (rb := b) (off := off) (cap := cap) (rs := rs) hl (h3.perm ?_)
  unfold LdO TabO IntSl
  simp [ldNew]
  ac_rfl
set_option maxRecDepth 100000 in
set_option maxHeartbeats 4000000 in
theorem ldNew_no (n : Int) (w : World) (h : isGroup n = false) :
    Calls Try.prog 13 #[.int .i64 n] w fun e w' => e = .returned (.tuple #[.pointer none, errV 1]) ∧ w = w' := by
  have H := Lib.hid h
  clear h
  go_enter Try.func13, Try.ntmps13
  go_wp2_with fail
  refine (group_any _ _).mono ?_
  rintro e w' ⟨rfl, rfl⟩
  rw [H.out]
  go_wp2
  go_ret2
  exact ⟨rfl, rfl⟩
set_option maxRecDepth 100000 in
set_option maxHeartbeats 4000000 in
theorem ldNew_yes {w0 w : World} {R : HProp} (n : Nat) (hg : isGroup n = true) (h : Own w0 R w) :
    Calls Try.prog 13 #[.int .i64 n] w fun e w' => ∃ p, e = .returned (.tuple #[.pointer (some ⟨p, 0, none⟩), .nilIface]) ∧ Own w0 (LdP p (ldNew n) * R) w' := by
  have hn5 : 2 ≤ n ∧ n ≤ 5 := by simp [isGroup] at hg; omega
  have hmm := mapint_made
  have HG := Lib.hid hg; have H := Lib.hid h
  clear hg h
  go_enter Try.func13, Try.ntmps13
  go_wp2_with fail
  refine (group_any _ _).mono ?_
  rintro e w' ⟨rfl, rfl⟩
  rw [HG.out]
  go_wp2
  go_loopw [12] (fun i wr => ∃ (k : Nat) (mv : Value) (rs : List LdR), k ≤ n ∧ i = .int .i64 k ∧ Hid (rs.length = k ∧ rs.map ldA = List.replicate k ([], 0)) ∧ Hid (Own w0 (LdN w.heap.size mv rs * R) wr)) (fun i _ => n - (intOf i).toNat)
  case atStart =>
    refine ⟨0, .slice none 0 0, [], Nat.zero_le _, rfl, ⟨rfl, rfl⟩, ?_⟩
    refine Lib.hid (((H.out.alloc (.cells #[.slice none 0 0, .slice none 0 0] 87)).sl_nil 88 1).perm ?_)
    unfold LdN
    show _ = _ * (_ * emp) * R
    rw [star_emp]
    simp only [List.length_nil, List.map_nil]
    ac_rfl
  case round =>
    obtain ⟨k, mv, rs, hk, rfl, HRS, HP⟩ := hrel
    by_cases hlt : k < n
    · have h1 := ldN_open HP.out
      have c1 : wr.cell? ⟨w.heap.size, 1, none⟩ = some mv := by rw [h1.cell]; rfl
      have hrl : rs.length = k := HRS.out.1
      obtain ⟨ad, cp, hmv, _⟩ := Own.rd (h1.perm (star_left_comm _ _ _))
      subst hmv
      have c2 := fun o => by have := (h1.alloc' o).cell 1; exact this.trans (show _ = some (Value.slice ad rs.length cp) from rfl)
      have HRL := Lib.hid hrl
      clear hrl
      clear h1
      go_wp2_with (at_builtin; refine wpList_app rfl _ _ 85 rfl 88 1 8 _ info_ldm Try.underlying85 rfl (by decide) rfl (ldN_app _ HP.out) rfl (by rfl) (Rd_lit (by simp) (by unfold maxLen; omega)) (by intro u hu; simp at hu; subst hu; rfl) (by have := HRL.out; unfold maxLen; omega) (by have := HRL.out; omega) ?_; intro v' w2 hown'; have g1 := (hown'.perm (star_left_comm _ _ _)).cell 1; have g2 := (hown'.perm (star_left_comm _ _ _)).free 1 none; obtain ⟨ad', cp', hv', _⟩ := Own.rd hown'; rw [hv'] at hown' ⊢; have HW := Lib.hid hown'; clear hown' hv')
      refine ⟨⟨k + 1, _, _, by omega, by go_num, ?_, Lib.hid (ldN_push HW.out)⟩, by simp [intOf] <;> omega⟩
      refine ⟨by simp [HRL.out], ?_⟩
      rw [List.map_append, HRS.out.2]
      exact (List.replicate_succ' ..).symm
    · have hkn : k = n := by omega
      subst hkn
      go_wp2
      go_ret2
      exact ⟨_, rfl, ldN_done (by have := HRS.out.1; omega) HRS.out.2 HP.out⟩
def ldSayErr (l : Ld) (word : Int) : Nat := if isWord word = false then 1 else if word ∈ l.words then 7 else 0
def ldSay (l : Ld) (word : Int) : Ld := if ldSayErr l word = 0 then ⟨l.words ++ [word], l.mem⟩ else l
def ldSayOut (l : Ld) (word : Int) : Int × Int := if ldSayErr l word = 0 then (l.words.length, word) else (0, 0)
theorem ldSay_end {w0 w : World} {p rb off cap : Nat} {wv v' : Value} {l : Ld} {rs : List LdR} {R : HProp} {word : Int} (hm : rs.map ldA = l.mem)
    (h : Own w0 (Sl 3 1 v' (l.words.length + 1) (l.words.map (Value.int .i64) ++ [.int .i64 word]) * (TabO ldM ldV 88 rb off cap rs * (blk p (.cells #[wv, .slice (some ⟨rb, off, none⟩) rs.length cap] 87 (0, 0)) * R))) w) :
    Own w0 (LdP p ⟨l.words ++ [word], l.mem⟩ * R) (w.setCell ⟨p, 0, none⟩ v') := by
  have h1 : Own w0 (blk p (.cells #[wv, .slice (some ⟨rb, off, none⟩) rs.length cap] 87 (0, 0)) * (Sl 3 1 v' (l.words.length + 1) (l.words.map (Value.int .i64) ++ [.int .i64 word]) * (TabO ldM ldV 88 rb off cap rs * R))) w := h.perm (by ac_rfl)
  refine Own.ld_close (wv := v') (rb := rb) (off := off) (cap := cap) (l := ⟨l.words ++ [word], l.mem⟩) hm ((h1.setCell (i := 0) (v := v')).perm ?_)
  unfold LdO IntSl
  simp
  ac_rfl
theorem ldSay_facts {w0 w : World} {p q : Nat} {wv mv : Value} {A T R : HProp} {tp tq : TypeId} {c0 c1 : Value}
    (h : Own w0 (A * (blk q (.cells #[c0, c1] tq (0, 0)) * (T * (blk p (.cells #[wv, mv] tp (0, 0)) * R)))) w) :
    w.cell? ⟨p, 0, none⟩ = some wv ∧ (w.frozen? ⟨p, 0, none⟩ = false) ∧ w.cell? ⟨q, 0, none⟩ = some c0 ∧ w.cell? ⟨q, 1, none⟩ = some c1 ∧ (∀ i s, w.frozen? ⟨q, i, s⟩ = false) ∧ ¬ p = q := by
  have h1 : Own w0 (blk p (.cells #[wv, mv] tp (0, 0)) * (blk q (.cells #[c0, c1] tq (0, 0)) * (A * (T * R)))) w := h.perm (by ac_rfl)
  have h2 := h1.perm (star_left_comm _ _ _)
  exact ⟨by rw [h1.cell]; rfl, h1.free _ _, by rw [h2.cell]; rfl, by rw [h2.cell]; rfl, fun i s => h2.free i s, h1.ne⟩
set_option maxRecDepth 100000 in
set_option maxHeartbeats 4000000 in
theorem ldSay_any {w0 w : World} {R : HProp} (p : Nat) (l : Ld) (word : Int) (hfit : ldFit l) (h : Own w0 (LdP p l * R) w) :
    Calls Try.prog 14 #[.pointer (some ⟨p, 0, none⟩), .int .i64 word] w fun e w' => e = .returned (.tuple #[.agg #[.int .i64 (ldSayOut l word).1, .int .i64 (ldSayOut l word).2], errV (ldSayErr l word)]) ∧ Own w0 (LdP p (ldSay l word) * R) w' := by
  obtain ⟨wv, rb, off, cap, rs, hm, ho⟩ := h.ld_open
  obtain ⟨c0, c1, c2, _⟩ := ho.ld_facts
  obtain ⟨ad, cp, hv, hcp1, hcp2, _⟩ := Own.rd ho.ld_words
  have hwI : ∀ x ∈ l.words, I64 x := fun x hx => by have := hfit.2.1 x hx; unfold I64; omega
  subst hv
  cases hwd : isWord word
  · have ht : ldSayErr l word = 1 := by simp [ldSayErr, hwd]
    have H := Lib.hid h; have HO := Lib.hid ho; have HWD := Lib.hid hwd; have HT := Lib.hid ht; have HM := Lib.hid hm; have HWI := Lib.hid hwI; have C2 := Lib.hid c2; have HFIT := Lib.hid hfit
    clear h ho hwd ht hm hwI c2 hfit
    clear c0 c1
    go_enter Try.func14, Try.ntmps14
    go_wp2_with fail
    refine (word_any _ _).mono ?_
    rintro e w' ⟨rfl, rfl⟩
    rw [HWD.out]
    go_wp2
    exact bodyPost_ret (v := .tuple #[.agg #[.int .i64 0, .int .i64 0], errV 1]) (by simp [results, Try.results14, go_sem]; rfl) rfl ⟨by unfold ldSayOut; rw [HT.out]; rfl, by unfold ldSay; rw [HT.out]; exact H.out.alloc' _⟩
  · by_cases hs : word ∈ l.words
    · have ht : ldSayErr l word = 7 := by simp [ldSayErr, hwd, hs]
      have hd : decide (word ∈ l.words) = true := by simp [hs]
      have hio : Ints w (.slice ad l.words.length cp) l.words := ⟨Own.rd ho.ld_words, hwI⟩
      have H := Lib.hid h; have HO := Lib.hid ho; have HWD := Lib.hid hwd; have HT := Lib.hid ht; have HM := Lib.hid hm; have HWI := Lib.hid hwI; have C2 := Lib.hid c2; have HFIT := Lib.hid hfit; have HS := Lib.hid hs; have HD := Lib.hid hd; have HIO := Lib.hid hio
      clear h ho hwd ht hm hwI c2 hfit hs hd hio
      have c0' := fun o => (HO.out.alloc' o).ld_facts.1
      clear c0 c1
      go_enter Try.func14, Try.ntmps14
      go_wp2_with fail
      refine (word_any _ _).mono ?_
      rintro e w' ⟨rfl, rfl⟩
      rw [HWD.out]
      go_wp2_with fail
      refine (containsInt_any _ _ _ _ (HIO.out.alloc _)).mono ?_
      rintro e w' ⟨rfl, rfl⟩
      rw [HD.out]
      go_wp2
      exact bodyPost_ret (v := .tuple #[.agg #[.int .i64 0, .int .i64 0], errV 7]) (by simp [results, Try.results14, go_sem]; rfl) rfl ⟨by unfold ldSayOut; rw [HT.out]; rfl, by unfold ldSay; rw [HT.out]; exact H.out.alloc' _⟩
    · have ht : ldSayErr l word = 0 := by simp [ldSayErr, hwd, hs]
      have hd : decide (word ∈ l.words) = false := by simp [hs]
      have hio : Ints w (.slice ad l.words.length cp) l.words := ⟨Own.rd ho.ld_words, hwI⟩
      obtain ⟨L, hL⟩ : ∃ L, L = l.words.length := ⟨_, rfl⟩
      have hL1 : L ≤ 10000 := by rw [hL]; exact hfit.1
      have H := Lib.hid h; have HO := Lib.hid ho; have HWD := Lib.hid hwd; have HT := Lib.hid ht; have HM := Lib.hid hm; have HWI := Lib.hid hwI; have C2 := Lib.hid c2; have HFIT := Lib.hid hfit; have HS := Lib.hid hs; have HD := Lib.hid hd; have HIO := Lib.hid hio
      clear h ho hwd ht hm hwI c2 hfit hs hd hio
      have c0' := fun o => (HO.out.alloc' o).ld_facts.1
      have c0'' := fun o o' => ((HO.out.alloc' o).alloc' o').ld_facts.1
      rw [← hL] at c0' c0''
      have HLL := Lib.hid hL
      clear c0 c1 hL
      have hsl := HO.out.ld_words
      unfold IntSl at hsl
      rw [← HLL.out] at hsl
      have HSL := Lib.hid hsl
      clear hsl
      go_enter Try.func14, Try.ntmps14
      go_wp2_with fail
      refine (word_any _ _).mono ?_
      rintro e w' ⟨rfl, rfl⟩
      rw [HWD.out]
      go_wp2_with fail
      refine (containsInt_any _ l.words _ _ (by rw [HLL.out]; exact HIO.out.alloc _)).mono ?_
      rintro e w' ⟨rfl, rfl⟩
      rw [HD.out]
      go_wp2_with (at_builtin; refine wpList_app rfl _ _ 25 rfl 3 1 8 _ info_int Try.underlying25 rfl (by decide) rfl (((HSL.out.alloc (.cells #[.int .i64 0, .int .i64 0] 46)).perm (star_left_comm _ _ _)).alloc' _) rfl (by rfl) (Rd_lit (by simp) (by unfold maxLen; omega)) (by intro u hu; simp at hu; subst hu; rfl) (by unfold maxLen; omega) (by omega) ?_; intro v' w2 hown'; obtain ⟨ad', cp', hv', _⟩ := Own.rd hown'; rw [hv'] at hown' ⊢; have g := ldSay_facts hown'; obtain ⟨g1, g2, g3, g4, g5, g6⟩ := g; have HW := Lib.hid hown'; clear hown' hv')
      exact bodyPost_ret (v := .tuple #[.agg #[.int .i64 L, .int .i64 word], .nilIface]) (by simp [results, Try.results14, go_sem, *]) rfl ⟨by unfold ldSayOut; rw [HT.out, HLL.out]; rfl, by
        unfold ldSay
        rw [if_pos HT.out]
        have hL' := HLL.out
        subst hL'
        have h1 := ldSay_end (R := blk w.heap.size (.cells #[.int .i64 0, .int .i64 0] 46 (0, 0)) * R) (v' := .slice ad' (l.words.length + 1) cp') HM.out (HW.out.perm (by ac_rfl))
        exact (((h1.perm (star_left_comm _ _ _)).setCell (i := 0) (v := .int .i64 l.words.length)).setCell (i := 1) (v := .int .i64 word)).drop⟩
def ldLacks (l : Ld) (who : Int) : List Int := if inR who l.mem.length then ((List.range l.words.length).map (fun i : Nat => (i : Int))).filter (fun x => decide (x ∉ (ldGet l who).1)) else []
def ldHeard (l : Ld) (who : Int) : List Int := if inR who l.mem.length then l.words.take (ldGet l who).2 else []
theorem lacks_snoc (come : List Int) (k : Nat) : ((List.range (k + 1)).map (fun i : Nat => (i : Int))).filter (fun x => decide (x ∉ come)) = ((List.range k).map (fun i : Nat => (i : Int))).filter (fun x => decide (x ∉ come)) ++ (if (k : Int) ∈ come then [] else [(k : Int)]) := by
  rw [List.range_succ, List.map_append, List.filter_append]
  by_cases h : (k : Int) ∈ come <;> simp [h]
set_option maxRecDepth 100000 in
set_option maxHeartbeats 4000000 in
theorem ldHeard_any {w0 w : World} {R : HProp} (p : Nat) (l : Ld) (who : Int) (hfit : ldFit l) (h : Own w0 (LdP p l * R) w) :
    Calls Try.prog 20 #[.pointer (some ⟨p, 0, none⟩), .int .i64 who] w fun e w' => ∃ v, e = .returned (.tuple #[v, errV (inErr who l.mem.length)]) ∧ Own w0 (IntSl v (ldHeard l who) * (LdP p l * R)) w' := by
  obtain ⟨wv, rb, off, cap, rs, hm, ho⟩ := h.ld_open
  have hlen : l.mem.length = rs.length := by rw [← hm, List.length_map]
  obtain ⟨c0, c1, _, c3, _, c5, c6⟩ := ho.ld_facts
  obtain ⟨ad, cp, hv, hcp1, hcp2, _⟩ := Own.rd ho.ld_words
  have hwI : ∀ x ∈ l.words, I64 x := fun x hx => by have := hfit.2.1 x hx; unfold I64; omega
  subst hv
  cases hin : inR who rs.length
  · have ht : inErr who l.mem.length = 1 := by simp [inErr, hlen, hin]
    have ho2 : ldHeard l who = [] := by simp [ldHeard, hlen, hin]
    have HIN := Lib.hid hin; have HT := Lib.hid ht; have H := Lib.hid h; have HO := Lib.hid ho; have HM := Lib.hid hm; have HLEN := Lib.hid hlen; have HO2 := Lib.hid ho2
    clear hin ht h ho hm hlen ho2
    go_enter Try.func20, Try.ntmps20
    go_wp2_with fail
    refine (ldHas_any _ _ _ _ _ _ c1).mono ?_
    rintro e w' ⟨rfl, rfl⟩
    rw [HIN.out]
    go_wp2
    go_ret2
    exact ⟨_, by rw [HT.out]; rfl, by rw [HO2.out]; exact H.out.sl_nil _ _⟩
  · have hw : 0 ≤ who ∧ who < rs.length := by simpa [inR] using hin
    obtain ⟨k, rfl⟩ := Int.eq_ofNat_of_zero_le hw.1
    have hk : k < rs.length := by omega
    have ht : inErr (k : Int) l.mem.length = 0 := by simp [inErr, hlen, hin]
    have hget : ldGet l k = (rs[k].come, rs[k].heard) := by
      unfold ldGet
      rw [← hm]
      simp [hk, ldA]
    obtain ⟨hh, hhe⟩ : ∃ hh, hh = rs[k].heard := ⟨_, rfl⟩
    have ho2 : ldHeard l k = l.words.take hh := by
      unfold ldHeard
      rw [hget, hlen, hin, hhe]; rfl
    have hf := (hfit.2.2 (rs[k].come, rs[k].heard) (by rw [← hm]; exact List.mem_map.2 ⟨rs[k], List.getElem_mem hk, rfl⟩)).1
    have hle : hh ≤ l.words.length := by rw [hhe]; exact hf
    have hio : Ints w (.slice ad l.words.length cp) l.words := ⟨Own.rd ho.ld_words, hwI⟩
    have hmi := Ints.mid hio (Nat.zero_le _) hle
    have hcut : cutA ad cp 0 = ad := by
      unfold cutA
      split
      · rfl
      · cases ad <;> simp [Addr.add]
    rw [hcut, List.drop_zero, Nat.sub_zero, Nat.sub_zero] at hmi
    have hsl := fun w => cut_back (P := Try.prog) (e := 3) Try.underlying25 int_size1 (ad := ad) hle hcp1 w
    have hsm : (l.words.take hh).length ≤ 100000 := by have := hfit.1; simp; omega
    obtain ⟨mp, hmp⟩ : ∃ mp, mp = rs[k].p := ⟨_, rfl⟩
    have c3k := c3 k rs[k] (by simp [hk])
    obtain ⟨f0, f1, _⟩ := (ho.ld_take hk).ldm_facts
    unfold ldV at c3k
    rw [← hmp] at c3k f0 f1
    rw [← hhe] at f1
    have hk0 : (0 : Int) ≤ (k : Int) := by omega
    have hk5 : (k : Int) < (rs.length : Int) := by omega
    have hh0 : (0 : Int) ≤ (hh : Int) := by omega
    have hh2 : (hh : Int) ≤ (cp : Int) := by omega
    have HIN := Lib.hid hin; have HT := Lib.hid ht; have H := Lib.hid h; have HM := Lib.hid hm; have HLEN := Lib.hid hlen; have HO2 := Lib.hid ho2; have HGET := Lib.hid hget; have HFIT := Lib.hid hfit; have HMP := Lib.hid hmp; have HHE := Lib.hid hhe; have HF := Lib.hid hf; have HIO := Lib.hid hio; have HMI := Lib.hid hmi; have HO := Lib.hid ho; have HCUT := Lib.hid hcut; have HWI := Lib.hid hwI
    clear hin ht h hm hlen ho2 hget hfit hmp hhe hf hio hmi ho hcut hwI
    clear hw c3 f0
    go_enter Try.func20, Try.ntmps20
    go_wp2_with fail
    refine (ldHas_any _ _ _ _ _ _ c1).mono ?_
    rintro e w' ⟨rfl, rfl⟩
    rw [HIN.out]
    go_wp2_with fail
    refine wp_region_tail 15 (by kernel_rfl) (by kernel_rfl) ?_
    simp only [List.take_succ_cons, List.take_zero, List.drop_succ_cons, List.drop_zero]
    repeat still_step
    refine wpStill_nil ?_
    go_wp2_with fail
    refine (cloneInts_any (H.out.drew) _ _ (HMI.out.heap rfl) hsm).mono ?_
    rintro e w2 ⟨v', rfl, ho3⟩
    have HO3 := Lib.hid ho3
    clear ho3
    go_wp2
    go_ret2
    exact ⟨v', by rw [HT.out]; rfl, by rw [HO2.out]; exact HO3.out⟩
end Go.Proofs.Ytiipldlggjjlnaa
