/- The package-level variables that the rows of Run list: what a walk has of them; a world that meets them. -/
import Derived.Test.YtdfjbnfdknpahaaGreatDoorMRunAnswers37
import Derived.Test.YtdfjbnfdknpahaaGreatDoorMRunAnswers4
import Derived.Stop.LaidErr
import Derived.Lib.LaidTab
namespace Go.Proofs.YtdfjbnfdknpahaaGreatDoor
set_option linter.unusedVariables false
set_option linter.unusedSimpArgs false
open Go.ChangeShapes Go.WideShapes Go.RowKit
def theDataR : List (String × DataW Unit) := [("math/bits.deBruijn32tab", Rows.laid_math_bits_deBruijn32tab), ("math/bits.deBruijn64tab", Rows.laid_math_bits_deBruijn64tab), ("internal/strconv.uint64pow10", Rows.laid_internal_strconv_uint64pow10), ("unicode/utf8.acceptRanges", Rows.laid_unicode_utf8_acceptRanges), ("strconv.ErrRange", Rows.laid_strconv_ErrRange), ("strconv.ErrSyntax", Rows.laid_strconv_ErrSyntax), ("mootbell/run.unread", Rows.laid_mootbell_run_unread), ("unicode/utf8.first", Rows.laid_unicode_utf8_first)]
def theLaidR : List (String × DataW Unit) := [("math/bits.deBruijn32tab", Rows.laid_math_bits_deBruijn32tab), ("math/bits.deBruijn64tab", Rows.laid_math_bits_deBruijn64tab), ("internal/strconv.uint64pow10", Rows.laid_internal_strconv_uint64pow10), ("unicode/utf8.acceptRanges", Rows.laid_unicode_utf8_acceptRanges), ("errors.errorType", Rows.laid_errors_errorType), ("strconv.ErrRange", Rows.laid_strconv_ErrRange), ("strconv.ErrSyntax", Rows.laid_strconv_ErrSyntax), ("mootbell/run.unread", Rows.laid_mootbell_run_unread), ("unicode/utf8.first", Rows.laid_unicode_utf8_first)]
set_option maxRecDepth 1000000 in
set_option maxHeartbeats 2000000 in
theorem parts_of_laidR {W : World} (h : laidMetH Tryz.prog theLaidR W) : laidMet Tryz.prog theDataR W ∧ handlesMet Tryz.prog theLaid W := by
  have e1 : theLaidR.filter (fun x => x.2.handleName?.isSome) = theLaid := by kernel_rfl
  have e2 : theLaidR.filter (fun x => x.2.handleName?.isNone) = theDataR := by kernel_rfl
  unfold laidMetH at h
  rw [e1, e2] at h
  exact h
theorem rowNm {P : Program} {nm : String} {k : Nat} (hall : (List.range P.types.size).all (fun u => P.typeName? 3 u != some nm || u == k) = true) (hstar : ∀ s : String, "*" ++ s ≠ nm) (u : TypeId) (hu : P.typeName? 3 u = some nm) : u = k := by
  by_cases hlt : u < P.types.size
  · have := List.all_eq_true.1 hall u (List.mem_range.2 hlt)
    simpa [hu] using this
  · exfalso
    unfold Program.typeName? at hu
    cases hi : P.info? u with
    | none => simp [hi] at hu
    | some i =>
      have hb := Tables.info?_beyond hlt hi
      simp only [hi] at hu
      cases hd : i.desc <;> simp only [hd, TypeDesc.tableOnly] at hu hb <;> try cases hb
      all_goals try cases hu
      rename_i e
      simp only [Option.map_eq_some_iff] at hu
      obtain ⟨n', _, hs⟩ := hu
      exact hstar n' hs
theorem star_no (s : String) : "*" ++ s ≠ "mootbell/api.Errno" := fun h => by
  have h1 := congrArg (fun x : String => x.toList.head?) h
  simp only [String.toList_append] at h1
  revert h1
  show ¬ (("*".toList ++ s.toList).head? = "mootbell/api.Errno".toList.head?)
  rw [show "*".toList = "*".toList.head! :: [] from rfl, List.cons_append, List.head?_cons]
  decide
theorem starErr : "*" ++ "errors.errorString" = "*errors.errorString" := by decide
theorem rowErrStr (u : TypeId) (h : Tryz.prog.typeName? 3 u = some "*errors.errorString") : u = 257 :=
  typeName_ptr_named (nm := "errors.errorString") (by rw [starErr]; kernel_rfl) (by kernel_rfl) (by decide) u (by rw [starErr]; exact h)
theorem rowErrno (u : TypeId) (h : Tryz.prog.typeName? 3 u = some "mootbell/api.Errno") : u = 90 := rowNm (by kernel_rfl) star_no u h
set_option maxRecDepth 1000000 in
set_option maxHeartbeats 2000000 in
theorem unread_of_laid {W : World} {r : List (String × DataW Unit)} (h : laidMet Tryz.prog (("mootbell/run.unread", Rows.laid_mootbell_run_unread) :: r) W) : W.cell? ⟨0, 0, none⟩ = some (.iface 90 (.int .i64 2)) := by
  obtain ⟨ps, ⟨g0, t0, cs0, f0, p0, q0, hg0, ht0, hv0, hd0, _, e0⟩, _, hrows⟩ := h
  obtain rfl := Option.some.inj ((show Tryz.prog.globalNamed "mootbell/run.unread" = some 0 by kernel_rfl).symm.trans hg0)
  obtain rfl := Option.some.inj ((show (Tryz.prog.globals[0]?).map (·.type) = some 104 by kernel_rfl).symm.trans ht0)
  subst e0
  obtain ⟨l0⟩ := cs0
  obtain ⟨y0, n, hx, hl, hy⟩ := trod_struct1 Tryz.underlying104 hd0
  have hc1 : Tryz.prog.cellsOf 104 = 1 := by kernel_rfl
  have hc2 : Tryz.prog.cellsOf 34 = 1 := by kernel_rfl
  rw [hc1] at hl
  match l0, hl with
  | [c], _ =>
    have hy2 : DataW.trod (fun _ => ()) Tryz.prog W 0 (fun _ => true) false n 34 [c] = some y0 := by
      have h1 := hy
      simp only [hc2] at h1
      exact h1
    have hyy : y0 = (.iface "mootbell/api.Errno" (.lit (.int .i64 2)), y0.2) := by
      have h1 := congrArg Prod.fst hx
      simp only [Rows.laid_mootbell_run_unread, DataW.agg.injEq, List.cons.injEq, and_true] at h1
      rw [h1]
    rw [hyy] at hy2
    obtain ⟨f1, u, v, hcu, hnm, h1⟩ := iface_of_trod Tryz.underlying34 hy2
    obtain rfl := rowErrno u hnm
    injection hcu with hcu _
    subst hcu
    have hcell : W.cell? ⟨0, 0, none⟩ = some (.iface 90 v) := by simpa using World.var?_cell hg0 hv0 0
    have ok := (hrows 0 0 (by simp [MemPlace.row])).2 _ _ hcell
    obtain ⟨z, hz, he, _⟩ := DataW.trod_int Tryz.underlying90 h1
    have hz2 : z = 2 := by
      simp only [Prod.mk.injEq, DataW.lit.injEq, Lit.int.injEq, true_and] at he
      exact he.1.symm
    subst hz2
    have hv' : v = .int .i64 2 := by
      unfold Value.okWide at ok
      simp only [Tryz.underlying90] at ok
      unfold Cell.okWide at ok
      cases v <;> simp [Value.cells, Cell.ok, Tryz.underlying90] at ok hz
      obtain ⟨rfl, rfl⟩ := hz
      rfl
    rw [hcell, hv']
theorem sent_of_laid {W : World} {n : String} {g : Nat} {text : List UInt8} {r : List (String × DataW Unit)} (h : laidMet Tryz.prog ((n, .iface "*errors.errorString" (.ptr (.agg [.lit (.string text)]))) :: r) W)
    (hg : Tryz.prog.globalNamed n = some g) (ht : (Tryz.prog.globals[g]?).map (·.type) = some 34) : ∃ te pe, W.cell? ⟨g, 0, none⟩ = some (.iface te pe) := by
  obtain ⟨a, s, hv, _⟩ := laid_sentinel h hg ht Tryz.underlying34 rowErrStr Tryz.underlying257 Tryz.underlying259 rfl rfl Tryz.underlying9 (by kernel_rfl) (by kernel_rfl)
  exact ⟨_, _, by simpa using World.var?_cell hg hv 0⟩
theorem runW_of_laid {W : World} (h : laidMetH Tryz.prog theLaidR W) : RunW W := by
  obtain ⟨hd, hh⟩ := parts_of_laidR h
  have h2 := hd.tail.tail
  have h4 := h2.tail.tail
  have h5 := h4.tail
  have h6 := h5.tail
  exact {
    hg := handle_of_laid (show laidMetH Tryz.prog theLaid W from ⟨laidMet_nil _ _, hh⟩)
    tab := Lib.tabIs_of_head (g := 7) (k := .u64) (zs := Lib.pow10Tab) (by kernel_rfl) (by kernel_rfl) Tryz.underlying251 Tryz.underlying229 (by kernel_rfl) (by kernel_rfl) h2
    es := sent_of_laid h5 (by kernel_rfl) (by kernel_rfl)
    er := sent_of_laid h4 (by kernel_rfl) (by kernel_rfl)
    un := unread_of_laid h6 }
def tab64R : Array Value := #[.int .u64 1, .int .u64 10, .int .u64 100, .int .u64 1000, .int .u64 10000, .int .u64 100000, .int .u64 1000000, .int .u64 10000000, .int .u64 100000000, .int .u64 1000000000, .int .u64 10000000000, .int .u64 100000000000, .int .u64 1000000000000, .int .u64 10000000000000, .int .u64 100000000000000, .int .u64 1000000000000000, .int .u64 10000000000000000, .int .u64 100000000000000000, .int .u64 1000000000000000000, .int .u64 10000000000000000000]
def db32R : Array Value := ([0, 1, 28, 2, 29, 14, 24, 3, 30, 22, 20, 15, 25, 17, 4, 8, 31, 27, 13, 23, 21, 19, 16, 7, 26, 12, 18, 6, 11, 5, 10, 9].map (Value.int .u8)).toArray
def db64R : Array Value := ([0, 1, 56, 2, 57, 49, 28, 3, 61, 58, 42, 50, 38, 29, 17, 4, 62, 47, 59, 36, 45, 43, 51, 22, 53, 39, 33, 30, 24, 18, 12, 5, 63, 55, 48, 27, 60, 41, 37, 16, 46, 35, 44, 21, 52, 32, 23, 11, 54, 26, 40, 15, 34, 20, 31, 10, 25, 14, 19, 9, 13, 8, 7, 6].map (Value.int .u8)).toArray
def accR : Array Value := ([128, 191, 160, 191, 128, 159, 144, 191, 128, 143, 0, 0, 0, 0, 0, 0, 0, 0, 0, 0, 0, 0, 0, 0, 0, 0, 0, 0, 0, 0, 0, 0].map (Value.int .u8)).toArray
def firstR : Array Value := ([240, 240, 240, 240, 240, 240, 240, 240, 240, 240, 240, 240, 240, 240, 240, 240, 240, 240, 240, 240, 240, 240, 240, 240, 240, 240, 240, 240, 240, 240, 240, 240, 240, 240, 240, 240, 240, 240, 240, 240, 240, 240, 240, 240, 240, 240, 240, 240, 240, 240, 240, 240, 240, 240, 240, 240, 240, 240, 240, 240, 240, 240, 240, 240, 240, 240, 240, 240, 240, 240, 240, 240, 240, 240, 240, 240, 240, 240, 240, 240, 240, 240, 240, 240, 240, 240, 240, 240, 240, 240, 240, 240, 240, 240, 240, 240, 240, 240, 240, 240, 240, 240, 240, 240, 240, 240, 240, 240, 240, 240, 240, 240, 240, 240, 240, 240, 240, 240, 240, 240, 240, 240, 240, 240, 240, 240, 240, 240, 241, 241, 241, 241, 241, 241, 241, 241, 241, 241, 241, 241, 241, 241, 241, 241, 241, 241, 241, 241, 241, 241, 241, 241, 241, 241, 241, 241, 241, 241, 241, 241, 241, 241, 241, 241, 241, 241, 241, 241, 241, 241, 241, 241, 241, 241, 241, 241, 241, 241, 241, 241, 241, 241, 241, 241, 241, 241, 241, 241, 241, 241, 241, 241, 241, 241, 2, 2, 2, 2, 2, 2, 2, 2, 2, 2, 2, 2, 2, 2, 2, 2, 2, 2, 2, 2, 2, 2, 2, 2, 2, 2, 2, 2, 2, 2, 19, 3, 3, 3, 3, 3, 3, 3, 3, 3, 3, 3, 3, 35, 3, 3, 52, 4, 4, 4, 68, 241, 241, 241, 241, 241, 241, 241, 241, 241, 241, 241].map (Value.int .u8)).toArray
def heapR (h : Array Obj) : Array Obj := ((((((((((h).setIfInBounds 7 (.cells tab64R 251 (0, 0))).setIfInBounds 8 (.cells db32R 261 (0, 0))).setIfInBounds 9 (.cells db64R 262 (0, 0))).setIfInBounds 4 (.cells accR 241 (0, 0))).setIfInBounds 3 (.cells firstR 238 (0, 0))).setIfInBounds 0 (.cells #[.iface 90 (.int .i64 2)] 104 (0, 0))).setIfInBounds 6 (.cells #[.iface 257 (.pointer (some ⟨h.size, 0, none⟩))] 34 (0, 0))).setIfInBounds 5 (.cells #[.iface 257 (.pointer (some ⟨h.size + 1, 0, none⟩))] 34 (0, 0))).push (.cells #[.string ⟨#[118, 97, 108, 117, 101, 32, 111, 117, 116, 32, 111, 102, 32, 114, 97, 110, 103, 101]⟩] 259 (0, 0))).push (.cells #[.string ⟨#[105, 110, 118, 97, 108, 105, 100, 32, 115, 121, 110, 116, 97, 120]⟩] 259 (0, 0))
def laidWorldR (P : Program) (os : Os) : World := { laidWorld P os with heap := heapR (laidWorld P os).heap }
theorem laidWorldR_met (os : Os) (args : Array Value) : laidMetH Tryz.prog theLaidR ((laidWorldR Tryz.prog os).forCall (fun _ _ => 0) ⟨#[], args, []⟩).memory :=
  laidMetH_of_parts (laidMet_of_run' 8 (by kernel_rfl) (by kernel_rfl)) (by kernel_rfl)
end Go.Proofs.YtdfjbnfdknpahaaGreatDoor
