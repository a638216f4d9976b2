/- Contracts of package agree, continued: Propose. -/
import Derived.Test.YtldmdenojpnldaaDoorAgree6
namespace Go.Proofs.YtldmdenojpnldaaDoor
set_option linter.unusedVariables false
set_option linter.unusedSimpArgs false
open Go.RowKit Go.Maps
theorem info_st : (Tryd.prog.info? 108).map (fun i => (i.zero, i.size, i.bytes)) = some (some (.agg #[.int .i64 0, .int .i64 0]), 2, 16) := by kernel_rfl
theorem st_len (l : List St) : (l.flatMap stCells).length = l.length * 2 := cells_len stCells 2 (fun _ => rfl) l
theorem st_one (l : List St) : ∀ u ∈ l.flatMap stCells, u.oneCell' = true := by
  intro u hu
  obtain ⟨e, _, hu⟩ := List.mem_flatMap.1 hu
  simp [stCells] at hu
  rcases hu with rfl | rfl <;> rfl
theorem agm_n {w0 w : World} {r : AgR} {R : HProp} (x : Int) (h : Own w0 (agM r * R) w) : Own w0 (agM ⟨r.p, r.mb1, r.mb2, r.hv, ⟨x, r.m.waits, r.m.knew, r.m.heard⟩⟩ * R) (w.setCell ⟨r.p, 0, none⟩ (.int .i64 x)) := by
  refine (h.agm_blk.setCell (i := 0) (v := .int .i64 x)).perm ?_
  unfold agM agBlk
  show (blk r.p (.cells #[.int .i64 x, .map (some r.mb1), .map (some r.mb2), r.hv] 167 (0, 0)) * _ : HProp) = _
  ac_rfl
theorem agm_put {w0 w : World} {p mb1 mb2 : Nat} {hv : Value} {n : Int} {W : List (Int × Wt)} {K H : List Int} {R : HProp} (k : Int) (y : Wt)
    (h : Own w0 (IMp mb1 (mput (mvals wtV W) k (wtV y)) * (agBlk p mb1 mb2 n hv * (IMp mb2 (setM K) * (IntSl hv H * R)))) w) : Own w0 (agM ⟨p, mb1, mb2, hv, ⟨n, mput W k y, K, H⟩⟩ * R) w := by
  rw [mput_mvals] at h
  refine h.perm ?_
  unfold agM
  ac_rfl
theorem Own.sto_put {w0 w : World} {b : Nat} {x : St} {R : HProp} (y : St) (h : Own w0 (StO b x * R) w) : Own w0 (StO b y * R) ((w.setCell ⟨b, 0, none⟩ (.int .i64 y.1)).setCell ⟨b, 1, none⟩ (.int .i64 y.2)) :=
  (Own.setCell (i := 1) (v := .int .i64 y.2) (Own.setCell (i := 0) (v := .int .i64 y.1) h)).perm rfl
section
variable {w0 w : World} {p rb off cap gb wb : Nat} {rs : List AgR} {gs : List GRow} {ws : List WRow} {g : Ag} {R : HProp}
theorem Own.ag_wholook (h : Own w0 (AgO p rb off cap gb wb rs gs ws * R) w) (x : Int) (hx : I64 x) :
    (Instr.lookup 159 (.map (some wb)) (.int .i64 x) false).run Tryd.prog w = .ok ((mget ws x).getD nilRow).1 w := by
  have h1 := (h.ag_who.perm (show _ = Mp iK I64 wb (mvals Prod.fst ws) * _ by unfold MpS; rw [star_assoc])).map_look (int_ke int_kind) mapwho_kind ints_zero hx false
  have h2 := mget_val Prod.fst ws x nilRow
  rw [show (nilRow).1 = Value.slice none 0 0 from rfl] at h2
  rw [h2, if_neg (by simp)] at h1
  exact h1
theorem agIs_who (he : agIs rs gs ws g) (x : Int) : ((mget ws x).getD nilRow).2 = whoOf g x := by
  unfold whoOf; rw [← he.2.2, mget_mvals]; cases mget ws x <;> rfl
/-- A group while a word's stamps are out: their row in front. -/
theorem Own.ag_gvtake (h : Own w0 (AgO p rb off cap gb wb rs gs ws * R) w) (x : Int) :
    Own w0 (stP ((mget gs x).getD nilSt) * (Mp iK I64 gb (mvals Prod.fst gs) * (starL (fun q : GRow => stP q.2) (mdel gs x) * (agHd p rb off rs.length cap gb wb * (TabO agM agV 163 rb off cap rs * (MpS iK I64 rowP Prod.fst wb ws * R)))))) w := h.ag_gv.ms_take nilSt stP_nil x
theorem Own.ag_gvput {y : Value × List St} {x : Int} (h : Own w0 (Mp iK I64 gb (mput (mvals Prod.fst gs) x y.1) * (stP y * (starL (fun q : GRow => stP q.2) (mdel gs x) * (agHd p rb off rs.length cap gb wb * (TabO agM agV 163 rb off cap rs * (MpS iK I64 rowP Prod.fst wb ws * R)))))) w) :
    Own w0 (AgO p rb off cap gb wb rs (mput gs x y) ws * R) w := by
  have h1 := (h.second).ms_put (f := stP) (val := Prod.fst) x
  refine h1.perm ?_
  unfold AgO
  ac_rfl
theorem Own.ag_whotake (h : Own w0 (AgO p rb off cap gb wb rs gs ws * R) w) (x : Int) :
    Own w0 (rowP ((mget ws x).getD nilRow) * (Mp iK I64 wb (mvals Prod.fst ws) * (starL (fun q : WRow => rowP q.2) (mdel ws x) * (agHd p rb off rs.length cap gb wb * (TabO agM agV 163 rb off cap rs * (MpS iK I64 stP Prod.fst gb gs * R)))))) w := h.ag_who.ms_take nilRow rowP_nil x
theorem Own.ag_whoput {y : Value × List Int} {x : Int} (h : Own w0 (Mp iK I64 wb (mput (mvals Prod.fst ws) x y.1) * (rowP y * (starL (fun q : WRow => rowP q.2) (mdel ws x) * (agHd p rb off rs.length cap gb wb * (TabO agM agV 163 rb off cap rs * (MpS iK I64 stP Prod.fst gb gs * R)))))) w) :
    Own w0 (AgO p rb off cap gb wb rs gs (mput ws x y) * R) w := by
  have h1 := (h.second).ms_put (f := rowP) (val := Prod.fst) x
  refine h1.perm ?_
  unfold AgO
  ac_rfl
end
end Go.Proofs.YtldmdenojpnldaaDoor
