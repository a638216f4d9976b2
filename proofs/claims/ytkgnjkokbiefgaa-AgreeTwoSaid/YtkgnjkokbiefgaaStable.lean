/- Contracts of package stable. -/
import Derived.Test.YtkgnjkokbiefgaaVec2
import Derived.Deep.RegionLaw
import Derived.Deep.RegionHeld3
namespace Go.Proofs.Ytkgnjkokbiefgaa
set_option linter.unusedVariables false
set_option linter.unusedSimpArgs false
open Go.RowKit
/-- One of so many members? -/
def inR (who : Int) (n : Nat) : Bool := decide (0 ≤ who) && decide (who < n)
theorem info_ints : (Try.prog.info? 27).map (fun i => (i.zero, i.size, i.bytes)) = some (some (.slice none 0 0), 1, 24) := by kernel_rfl
def rowP (r : Value × List Int) : HProp := IntSl r.1 r.2
/-- A Stable at p, its rows at their places. -/
def StableO (p rb off cap : Nat) (rs : List (Value × List Int)) : HProp :=
  blk p (.cells #[.slice (some ⟨rb, off, none⟩) rs.length cap] 173 (0, 0)) * (SlAt 27 1 rb off rs.length cap (rs.map (·.1)) * starL rowP rs)
/-- A Stable at p with these rows. -/
def StableP (p : Nat) (rows : List (List Int)) : HProp :=
  hex fun (t : Value × List (Value × List Int)) => pur (t.2.map (·.2) = rows) * (blk p (.cells #[t.1] 173 (0, 0)) * (Sl 27 1 t.1 t.2.length (t.2.map (·.1)) * starL rowP t.2))
theorem Own.stable_open {w0 w : World} {p : Nat} {rows : List (List Int)} {R : HProp} (h : Own w0 (StableP p rows * R) w) (hne : 0 < rows.length) :
    ∃ rb off cap rs, rs.map (·.2) = rows ∧ Own w0 (StableO p rb off cap rs * R) w := by
  obtain ⟨⟨rv, rs⟩, h⟩ := Own.ex h
  rw [star_assoc] at h
  obtain ⟨he, h⟩ := Own.pur_out h
  simp only at he h
  have hl : 0 < (rs.map (·.1)).length := by have := congrArg List.length he; simp at this ⊢; omega
  have h2 : Own w0 (Sl 27 1 rv rs.length (rs.map (·.1)) * (blk p (.cells #[rv] 173 (0, 0)) * starL rowP rs * R)) w := h.perm (by ac_rfl)
  obtain ⟨b, off, cap, rfl, h3⟩ := h2.slAt hl
  exact ⟨b, off, cap, rs, he, h3.perm (by unfold StableO; ac_rfl)⟩
theorem Own.stable_close {w0 w : World} {p rb off cap : Nat} {rs : List (Value × List Int)} {R : HProp} (h : Own w0 (StableO p rb off cap rs * R) w) : Own w0 (StableP p (rs.map (·.2)) * R) w := by
  refine Own.ex_mk (.slice (some ⟨rb, off, none⟩) rs.length cap, rs) ?_
  rw [star_assoc]
  refine Own.pur_mk rfl ?_
  have h2 : Own w0 (SlAt 27 1 rb off rs.length cap (rs.map (·.1)) * (blk p (.cells #[.slice (some ⟨rb, off, none⟩) rs.length cap] 173 (0, 0)) * starL rowP rs * R)) w := h.perm (by unfold StableO; ac_rfl)
  exact h2.sl_of_at.perm (by ac_rfl)
/-- What a Stable's cells hold. -/
theorem Own.stable_facts {w0 w : World} {p rb off cap : Nat} {rs : List (Value × List Int)} {R : HProp} (h : Own w0 (StableO p rb off cap rs * R) w) :
    w.cell? ⟨p, 0, none⟩ = some (.slice (some ⟨rb, off, none⟩) rs.length cap) ∧ (∀ (i : Nat) r, rs[i]? = some r → w.cell? ⟨rb, off + i, none⟩ = some r.1) ∧ (∀ i s, w.frozen? ⟨rb, i, s⟩ = false) ∧ rs.length ≤ cap ∧ cap ≤ maxLen := by
  have h1 : Own w0 (blk p (.cells #[.slice (some ⟨rb, off, none⟩) rs.length cap] 173 (0, 0)) * (SlAt 27 1 rb off rs.length cap (rs.map (·.1)) * starL rowP rs * R)) w := h.perm (by unfold StableO; ac_rfl)
  have h2 : Own w0 (SlAt 27 1 rb off rs.length cap (rs.map (·.1)) * (blk p (.cells #[.slice (some ⟨rb, off, none⟩) rs.length cap] 173 (0, 0)) * starL rowP rs * R)) w := h.perm (by unfold StableO; ac_rfl)
  have h3 := h2.slAt_facts
  exact ⟨by rw [h1.cell]; rfl, fun i r hi => h3.2.2.2.1 i _ (by simp [hi]), h3.2.2.2.2.1, h3.1, h3.2.1⟩
theorem Own.stable_row {w0 w : World} {p rb off cap : Nat} {rs : List (Value × List Int)} {R : HProp} (h : Own w0 (StableO p rb off cap rs * R) w) (i : Nat) (hi : i < rs.length) (hI : ∀ x ∈ rs[i].2, I64 x) : Ints w rs[i].1 rs[i].2 := by
  have h1 : Own w0 (starL rowP rs * (blk p (.cells #[.slice (some ⟨rb, off, none⟩) rs.length cap] 173 (0, 0)) * SlAt 27 1 rb off rs.length cap (rs.map (·.1)) * R)) w := h.perm (by unfold StableO; ac_rfl)
  rw [starL_split rowP rs i hi, star_assoc] at h1
  exact ⟨Own.rd h1, hI⟩
/-- A new row in the place of an old one. -/
theorem Own.stable_put {w0 w : World} {p rb off cap k : Nat} {rs : List (Value × List Int)} {v : Value} {l : List Int} {R : HProp} (h : Own w0 (IntSl v l * (StableO p rb off cap rs * R)) w) (hk : k < rs.length) :
    Own w0 (StableP p ((rs.map (·.2)).set k l) * R) (w.setCell ⟨rb, off + k, none⟩ v) := by
  have h1 : Own w0 (SlAt 27 1 rb off rs.length cap (rs.map (·.1)) * (rowP rs[k] * (rowP (v, l) * starL rowP (rs.eraseIdx k) * blk p (.cells #[.slice (some ⟨rb, off, none⟩) rs.length cap] 173 (0, 0)) * R))) w :=
    h.perm (by unfold StableO; rw [starL_split rowP rs k hk]; show rowP (v, l) * _ = _; ac_rfl)
  have h2 := (h1.slAt_set k v (by simpa using hk))
  have h3 : Own w0 (rowP rs[k] * (StableO p rb off cap (rs.set k (v, l)) * R)) (w.setCell ⟨rb, off + k, none⟩ v) :=
    h2.perm (by unfold StableO; rw [starL_set rowP rs k hk]; simp only [List.length_set, List.map_set]; ac_rfl)
  have h4 := h3.drop.stable_close
  rwa [List.map_set] at h4
set_option maxHeartbeats 400000 in
theorem stableHas_any (p n cap : Nat) (ad : Option Addr) (who : Int) (w : World) (hc : w.cell? ⟨p, 0, none⟩ = some (.slice ad n cap)) :
    Calls Try.prog 96 #[.pointer (some ⟨p, 0, none⟩), .int .i64 who] w fun e w' => e = .returned (.bool (inR who n)) ∧ w = w' := by
  by_cases h0 : 0 ≤ who
  · go_enter Try.func96, Try.ntmps96
    go_wp2
    all_goals (go_ret; exact ⟨ret_bool (by unfold inR; simp; try omega), rfl⟩)
  · go_enter Try.func96, Try.ntmps96
    go_wp2
    all_goals (go_ret; exact ⟨ret_bool (by unfold inR; simp; try omega), rfl⟩)
def rowsOk (rows : List (List Int)) : Prop := ∀ r ∈ rows, vecErr r = 0
theorem vecErr_I64 {r : List Int} (h : vecErr r = 0) : ∀ x ∈ r, I64 x := fun x hx => by have := (vecErr0 h).2 x hx; unfold I64; omega
def toldErr (n : Nat) (who : Int) (v : List Int) : Nat := if inR who n = false then 1 else vecErr v
def toldRows (rows : List (List Int)) (who : Int) (v : List Int) : List (List Int) := if toldErr rows.length who v = 0 then rows.set who.toNat (zipMax (rows.getD who.toNat []) v) else rows
set_option maxRecDepth 100000 in
set_option maxHeartbeats 2000000 in
theorem told_any {w0 w : World} {R : HProp} (p : Nat) (rows : List (List Int)) (who : Int) (vv : Value) (v : List Int) (hok : rowsOk rows) (hne : 0 < rows.length) (h : Own w0 (StableP p rows * R) w) (hv : Reads w0 R vv v) :
    Calls Try.prog 52 #[.pointer (some ⟨p, 0, none⟩), .int .i64 who, vv] w fun e w' => e = .returned (errV (toldErr rows.length who v)) ∧ Own w0 (StableP p (toldRows rows who v) * R) w' := by
  obtain ⟨rb, off, cap, rs, rfl, ho⟩ := h.stable_open hne
  have hf := ho.stable_facts
  have hc := hf.1
  rw [List.length_map]
  have hvv : Ints w vv v := hv _ ho.drop
  have HO := Lib.hid ho; have HV := Lib.hid hv; have HOK := Lib.hid hok; have HVV := Lib.hid hvv; have HF := Lib.hid hf
  clear h ho hv hok hvv hf
  cases hin : inR who rs.length
  · have ht : toldErr rs.length who v = 1 := by simp [toldErr, hin]
    have hr : toldRows (rs.map (·.2)) who v = rs.map (·.2) := by unfold toldRows; rw [if_neg (by rw [List.length_map, ht]; simp)]
    have HT := Lib.hid ht; have HR := Lib.hid hr; have HIN := Lib.hid hin
    clear ht hr hin
    go_enter Try.func52, Try.ntmps52
    go_wp2_with fail
    refine (stableHas_any _ _ _ _ _ _ hc).mono ?_
    rintro e w' ⟨rfl, rfl⟩
    rw [HIN.out]
    go_wp2
    go_ret
    exact ⟨by rw [HT.out]; rfl, by rw [HR.out]; exact HO.out.stable_close⟩
  · have hw : 0 ≤ who ∧ who < rs.length := by simpa [inR] using hin
    obtain ⟨k, rfl⟩ := Int.eq_ofNat_of_zero_le hw.1
    have hk : k < rs.length := by omega
    by_cases h0 : vecErr v = 0
    · have ht : toldErr rs.length (k : Int) v = 0 := by simp [toldErr, hin, h0]
      have he : errV (vecErr v) = .nilIface := by rw [h0]; rfl
      have hrk : vecErr rs[k].2 = 0 := HOK.out _ (List.mem_map.2 ⟨rs[k], List.getElem_mem hk, rfl⟩)
      have hlen : rs[k].2.length = v.length := by have h1 := (vecErr0 hrk).1; have h2 := (vecErr0 h0).1; omega
      have hsm : rs[k].2.length ≤ 100000 := by have h1 := (vecErr0 hrk).1; omega
      have hck := HF.out.2.1 k rs[k] (by simp [hk])
      have hfk := HF.out.2.2.1 (off + k) none
      have hri := HO.out.stable_row k hk (vecErr_I64 hrk)
      have HT := Lib.hid ht; have HE := Lib.hid he; have HRI := Lib.hid hri; have HL := Lib.hid hlen; have HIN := Lib.hid hin
      clear ht he hri hlen hin h0 hrk hw
      go_enter Try.func52, Try.ntmps52
      go_wp2_with fail
      refine (stableHas_any _ _ _ _ _ _ hc).mono ?_
      rintro e w' ⟨rfl, rfl⟩
      rw [HIN.out]
      go_wp2_with fail
      refine (vcheck_any _ v _ HVV.out).mono ?_
      rintro e w' ⟨rfl, rfl⟩
      rw [HE.out]
      go_wp2_with fail
      have FF : ∀ w', Own w0 (StableO p rb off cap rs * R) w' → w'.cell? ⟨p, 0, none⟩ = some (.slice (some ⟨rb, off, none⟩) rs.length cap) ∧ w'.cell? ⟨rb, off + k, none⟩ = some rs[k].1 ∧ w'.frozen? ⟨rb, off + k, none⟩ = false := fun w' hw' => by
        have := hw'.stable_facts; exact ⟨this.1, this.2.1 k _ (by simp [hk]), this.2.2.1 _ _⟩
      have GG := Lib.hid FF
      clear FF
      go_region_law (go_simp; go_at_call 95; refine (joined_any (HO.out.drew) _ vv rs[k].2 v (HRI.out.heap rfl) (fun w' hw' => HV.out w' hw'.drop) HL.out hsm).mono ?_; rintro e w1 ⟨v', rfl, ho⟩; obtain ⟨ad', cp', rfl⟩ := ho.int_shape; have g1 := (GG.out _ ho.drop).1; have g2 := (GG.out _ ho.drop).2.1; have g3 := (GG.out _ ho.drop).2.2; have HO1 := Lib.hid ho; clear ho)
      all_goals
        go_wp2
        go_ret
        refine ⟨by rw [HT.out]; rfl, ?_⟩
        unfold toldRows
        rw [if_pos (by rw [List.length_map]; exact HT.out)]
        simpa [hk] using HO1.out.stable_put hk
    · obtain ⟨m, he⟩ := errV_some h0
      have ht : toldErr rs.length (k : Int) v = vecErr v := by simp [toldErr, hin]
      have hr : toldRows (rs.map (·.2)) (k : Int) v = rs.map (·.2) := by unfold toldRows; rw [if_neg (by rw [List.length_map, ht]; exact h0)]
      have HT := Lib.hid ht; have HR := Lib.hid hr; have HIN := Lib.hid hin; have HE := Lib.hid he
      clear ht hr hin he
      go_enter Try.func52, Try.ntmps52
      go_wp2_with fail
      refine (stableHas_any _ _ _ _ _ _ hc).mono ?_
      rintro e w' ⟨rfl, rfl⟩
      rw [HIN.out]
      go_wp2_with fail
      refine (vcheck_any _ v _ HVV.out).mono ?_
      rintro e w' ⟨rfl, rfl⟩
      rw [HE.out]
      go_wp2
      go_ret
      exact ⟨by rw [HT.out, HE.out]; rfl, by rw [HR.out]; exact HO.out.stable_close⟩
/-- The row of a member. -/
def rowOf (rows : List (List Int)) (who : Int) : List Int := if inR who rows.length then rows.getD who.toNat [] else []
def inErr (who : Int) (n : Nat) : Nat := if inR who n then 0 else 1
end Go.Proofs.Ytkgnjkokbiefgaa
