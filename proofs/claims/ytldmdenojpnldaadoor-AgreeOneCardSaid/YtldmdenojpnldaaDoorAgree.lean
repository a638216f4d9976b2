/- Package agree: a group as it lies in memory. -/
import Derived.Test.YtldmdenojpnldaaDoorAgreeP4
import Derived.Test.YtldmdenojpnldaaDoorMapOpen
import Derived.Test.YtldmdenojpnldaaDoorHeld
import Derived.Test.YtldmdenojpnldaaDoorStable2
import Derived.Test.YtldmdenojpnldaaDoorStar
import Derived.Deep.DeepCutAuto
import Derived.Deep.CutBlock
namespace Go.Proofs.YtldmdenojpnldaaDoor
set_option linter.unusedVariables false
set_option linter.unusedSimpArgs false
open Go.RowKit Go.Maps
def stCells (s : St) : List Value := [.int .i64 s.1, .int .i64 s.2]
def stP (x : Value × List St) : HProp := Sl 108 2 x.1 x.2.length (x.2.flatMap stCells)
def nilSt : Value × List St := (.slice none 0 0, [])
theorem stP_nil : stP nilSt = emp := Sl_nil _ _
def wtV (x : Wt) : Value := .agg #[.int .i64 x.1.1, .int .i64 x.1.2, .bool x.2]
/-- A member as it lies in memory. -/
structure AgR where
  p : Nat
  mb1 : Nat
  mb2 : Nat
  hv : Value
  m : AgM
def agV (r : AgR) : Value := .pointer (some ⟨r.p, 0, none⟩)
abbrev agBlk (p mb1 mb2 : Nat) (n : Int) (hv : Value) : HProp := blk p (.cells #[.int .i64 n, .map (some mb1), .map (some mb2), hv] 167 (0, 0))
def agM (r : AgR) : HProp := agBlk r.p r.mb1 r.mb2 r.m.n r.hv * (IMp r.mb1 (mvals wtV r.m.waits) * (IMp r.mb2 (setM r.m.knew) * IntSl r.hv r.m.heard))
abbrev GRow := Int × (Value × List St)
abbrev WRow := Int × (Value × List Int)
abbrev iK : Int → Value := fun n => Value.int .i64 n
abbrev agHd (p rb off n cap gb wb : Nat) : HProp := blk p (.cells #[.slice (some ⟨rb, off, none⟩) n cap, .map (some gb), .map (some wb)] 162 (0, 0))
def AgO (p rb off cap gb wb : Nat) (rs : List AgR) (gs : List GRow) (ws : List WRow) : HProp :=
  agHd p rb off rs.length cap gb wb * (TabO agM agV 163 rb off cap rs * (MpS iK I64 stP Prod.fst gb gs * MpS iK I64 rowP Prod.fst wb ws))
def agIs (rs : List AgR) (gs : List GRow) (ws : List WRow) (g : Ag) : Prop := rs.map (·.m) = g.mem ∧ mvals Prod.snd gs = g.given ∧ mvals Prod.snd ws = g.who
def AgP (p : Nat) (g : Ag) : HProp := hex fun (x : (Nat × Nat × Nat × Nat × Nat) × List AgR × List GRow × List WRow) => pur (agIs x.2.1 x.2.2.1 x.2.2.2 g) * AgO p x.1.1 x.1.2.1 x.1.2.2.1 x.1.2.2.2.1 x.1.2.2.2.2 x.2.1 x.2.2.1 x.2.2.2
theorem Own.ag_open {w0 w : World} {p : Nat} {g : Ag} {R : HProp} (h : Own w0 (AgP p g * R) w) : ∃ rb off cap gb wb rs gs ws, agIs rs gs ws g ∧ Own w0 (AgO p rb off cap gb wb rs gs ws * R) w := by
  obtain ⟨⟨⟨rb, off, cap, gb, wb⟩, rs, gs, ws⟩, h⟩ := Own.ex h
  rw [star_assoc] at h
  obtain ⟨he, h⟩ := Own.pur_out h
  exact ⟨rb, off, cap, gb, wb, rs, gs, ws, he, h⟩
theorem Own.ag_close {w0 w : World} {p rb off cap gb wb : Nat} {rs : List AgR} {gs : List GRow} {ws : List WRow} {g : Ag} {R : HProp} (he : agIs rs gs ws g) (h : Own w0 (AgO p rb off cap gb wb rs gs ws * R) w) : Own w0 (AgP p g * R) w := by
  refine Own.ex_mk ((rb, off, cap, gb, wb), rs, gs, ws) ?_
  rw [star_assoc]
  exact Own.pur_mk he h
section
variable {w0 w : World} {p rb off cap gb wb : Nat} {rs : List AgR} {gs : List GRow} {ws : List WRow} {R : HProp}
theorem Own.ag_blk (h : Own w0 (AgO p rb off cap gb wb rs gs ws * R) w) : Own w0 (agHd p rb off rs.length cap gb wb * (TabO agM agV 163 rb off cap rs * (MpS iK I64 stP Prod.fst gb gs * (MpS iK I64 rowP Prod.fst wb ws * R)))) w := h.perm (by unfold AgO; ac_rfl)
theorem Own.ag_tab (h : Own w0 (AgO p rb off cap gb wb rs gs ws * R) w) : Own w0 (TabO agM agV 163 rb off cap rs * (agHd p rb off rs.length cap gb wb * (MpS iK I64 stP Prod.fst gb gs * (MpS iK I64 rowP Prod.fst wb ws * R)))) w := h.perm (by unfold AgO; ac_rfl)
theorem Own.ag_gv (h : Own w0 (AgO p rb off cap gb wb rs gs ws * R) w) : Own w0 (MpS iK I64 stP Prod.fst gb gs * (agHd p rb off rs.length cap gb wb * (TabO agM agV 163 rb off cap rs * (MpS iK I64 rowP Prod.fst wb ws * R)))) w := h.perm (by unfold AgO; ac_rfl)
theorem Own.ag_who (h : Own w0 (AgO p rb off cap gb wb rs gs ws * R) w) : Own w0 (MpS iK I64 rowP Prod.fst wb ws * (agHd p rb off rs.length cap gb wb * (TabO agM agV 163 rb off cap rs * (MpS iK I64 stP Prod.fst gb gs * R)))) w := h.perm (by unfold AgO; ac_rfl)
theorem Own.ag_facts (h : Own w0 (AgO p rb off cap gb wb rs gs ws * R) w) :
    w.cell? ⟨p, 0, none⟩ = some (.slice (some ⟨rb, off, none⟩) rs.length cap) ∧ w.cell? ⟨p, 1, none⟩ = some (.map (some gb)) ∧ w.cell? ⟨p, 2, none⟩ = some (.map (some wb)) ∧ (∀ i s, w.frozen? ⟨p, i, s⟩ = false) ∧
    (∀ (i : Nat) r, rs[i]? = some r → w.cell? ⟨rb, off + i, none⟩ = some (agV r)) ∧ rs.length ≤ cap ∧ cap ≤ maxLen := by
  have h2 := h.ag_tab.tab_facts
  exact ⟨by rw [h.ag_blk.cell]; rfl, by rw [h.ag_blk.cell]; rfl, by rw [h.ag_blk.cell]; rfl, fun i s => h.ag_blk.free i s, h2.1, h2.2.2.1, h2.2.2.2⟩
/-- What is left of a group while one of its members is out. -/
def AgX (p rb off cap gb wb : Nat) (rs : List AgR) (gs : List GRow) (ws : List WRow) (k : Nat) : HProp :=
  SlAt 163 1 rb off rs.length cap (rs.map agV) * (starL agM (rs.eraseIdx k) * (agHd p rb off rs.length cap gb wb * (MpS iK I64 stP Prod.fst gb gs * MpS iK I64 rowP Prod.fst wb ws)))
theorem Own.ag_take {k : Nat} (hk : k < rs.length) (h : Own w0 (AgO p rb off cap gb wb rs gs ws * R) w) : Own w0 (agM rs[k] * (AgX p rb off cap gb wb rs gs ws k * R)) w :=
  (h.ag_tab.tab_take hk).perm (by unfold AgX; ac_rfl)
theorem Own.ag_give {k : Nat} (hk : k < rs.length) {y : AgR} (hy : y.p = rs[k].p) (h : Own w0 (agM y * (AgX p rb off cap gb wb rs gs ws k * R)) w) : Own w0 (AgO p rb off cap gb wb (rs.set k y) gs ws * R) w := by
  refine h.perm ?_
  unfold AgX AgO TabO
  have e : (rs.set k y).map agV = rs.map agV := by
    rw [List.map_set]
    have : agV y = (rs.map agV)[k]'(by simpa using hk) := by simp [agV, hy]
    rw [this, List.set_getElem_self]
  rw [starL_set agM rs k hk, e, List.length_set]
  ac_rfl
theorem Own.agx_blk {k : Nat} {Q : HProp} (h : Own w0 (Q * (AgX p rb off cap gb wb rs gs ws k * R)) w) : Own w0 (agHd p rb off rs.length cap gb wb * (SlAt 163 1 rb off rs.length cap (rs.map agV) * (starL agM (rs.eraseIdx k) * (MpS iK I64 stP Prod.fst gb gs * (MpS iK I64 rowP Prod.fst wb ws * (Q * R)))))) w := h.perm (by unfold AgX; ac_rfl)
theorem Own.agx_gv {k : Nat} {Q : HProp} (h : Own w0 (Q * (AgX p rb off cap gb wb rs gs ws k * R)) w) : Own w0 (MpS iK I64 stP Prod.fst gb gs * (SlAt 163 1 rb off rs.length cap (rs.map agV) * (starL agM (rs.eraseIdx k) * (agHd p rb off rs.length cap gb wb * (MpS iK I64 rowP Prod.fst wb ws * (Q * R)))))) w := h.perm (by unfold AgX; ac_rfl)
theorem Own.agx_facts {k : Nat} {Q : HProp} (h : Own w0 (Q * (AgX p rb off cap gb wb rs gs ws k * R)) w) :
    w.cell? ⟨p, 0, none⟩ = some (.slice (some ⟨rb, off, none⟩) rs.length cap) ∧ w.cell? ⟨p, 1, none⟩ = some (.map (some gb)) ∧ w.cell? ⟨p, 2, none⟩ = some (.map (some wb)) :=
  ⟨by rw [h.agx_blk.cell]; rfl, by rw [h.agx_blk.cell]; rfl, by rw [h.agx_blk.cell]; rfl⟩
theorem Own.agm_blk {r : AgR} (h : Own w0 (agM r * R) w) : Own w0 (agBlk r.p r.mb1 r.mb2 r.m.n r.hv * (IMp r.mb1 (mvals wtV r.m.waits) * (IMp r.mb2 (setM r.m.knew) * (IntSl r.hv r.m.heard * R)))) w := h.perm (by unfold agM; ac_rfl)
theorem Own.agm_waits {r : AgR} (h : Own w0 (agM r * R) w) : Own w0 (IMp r.mb1 (mvals wtV r.m.waits) * (agBlk r.p r.mb1 r.mb2 r.m.n r.hv * (IMp r.mb2 (setM r.m.knew) * (IntSl r.hv r.m.heard * R)))) w := h.perm (by unfold agM; ac_rfl)
theorem Own.agm_knew {r : AgR} (h : Own w0 (agM r * R) w) : Own w0 (IMp r.mb2 (setM r.m.knew) * (agBlk r.p r.mb1 r.mb2 r.m.n r.hv * (IMp r.mb1 (mvals wtV r.m.waits) * (IntSl r.hv r.m.heard * R)))) w := h.perm (by unfold agM; ac_rfl)
theorem Own.agm_heard {r : AgR} (h : Own w0 (agM r * R) w) : Own w0 (IntSl r.hv r.m.heard * (agBlk r.p r.mb1 r.mb2 r.m.n r.hv * (IMp r.mb1 (mvals wtV r.m.waits) * (IMp r.mb2 (setM r.m.knew) * R)))) w := h.perm (by unfold agM; ac_rfl)
theorem Own.agm_facts {r : AgR} (h : Own w0 (agM r * R) w) : w.cell? ⟨r.p, 0, none⟩ = some (.int .i64 r.m.n) ∧ w.cell? ⟨r.p, 1, none⟩ = some (.map (some r.mb1)) ∧ w.cell? ⟨r.p, 2, none⟩ = some (.map (some r.mb2)) ∧ w.cell? ⟨r.p, 3, none⟩ = some r.hv ∧ (∀ i s, w.frozen? ⟨r.p, i, s⟩ = false) :=
  ⟨by rw [h.agm_blk.cell]; rfl, by rw [h.agm_blk.cell]; rfl, by rw [h.agm_blk.cell]; rfl, by rw [h.agm_blk.cell]; rfl, fun i s => h.agm_blk.free i s⟩
end
end Go.Proofs.YtldmdenojpnldaaDoor
