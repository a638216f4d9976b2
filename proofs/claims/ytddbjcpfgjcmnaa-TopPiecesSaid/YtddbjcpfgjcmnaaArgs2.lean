/- How arguments that hold structs read, as plain facts: events, views. -/
import Derived.Test.YtddbjcpfgjcmnaaArgs
import Derived.Test.YtddbjcpfgjcmnaaHistP
import Derived.Test.YtddbjcpfgjcmnaaTab
import Derived.ChangeArms
import Derived.Deep.Fields
namespace Go.Proofs.Ytddbjcpfgjcmnaa
set_option linter.unusedVariables false
set_option linter.unusedSimpArgs false
open Go.ChangeShapes Go.WideShapes Go.ChangeAt Go.RowKit Go.Deep
open Go.ChangeMaps (open_string shut_string)
variable {H : Type} {enc : TypeId × Value → H} {w : World} {b0 : Nat} {d : DataW H} {p : List MemPlace} {v : Value}
/-- A slice of structs, off its cells' reading. -/
theorem trod_recs {α : Type} (cells : α → List Value) (sz : Nat) (hsz : ∀ x, (cells x).length = sz) (hpos : 0 < sz) (good : α → Prop) {t e : TypeId} (ht : Try.prog.underlying t = some (.slice e)) (hce : Try.prog.cellsOf e = sz)
    (hel : ∀ n cs x, DataW.trod enc Try.prog w 0 (fun _ => true) true n e cs = some x → ∃ y, cs = cells y ∧ good y)
    {fuel : Nat} {cs : List Value} {x : DataW H × List MemPlace} (h : DataW.trod enc Try.prog w 0 (fun _ => true) true fuel t cs = some x) :
    ∃ (v : Value) (l : List α), cs = [v] ∧ Rd w v l.length (l.flatMap cells) ∧ ∀ x ∈ l, good x := by
  rcases open_slice ht h with ⟨rfl, _⟩ | ⟨a, len, cap, m, n, D, Pl, rfl, _, hl, hm, hmm, _, hx⟩
  · exact ⟨_, [], rfl, ⟨none, 0, rfl, Nat.le_refl _, Nat.zero_le _, fun _ => rfl, fun i u h => by simp at h⟩, fun x h => by cases h⟩
  have hlm : len ≤ m := by rw [hmm]; split <;> omega
  obtain ⟨l, hll, hlx⟩ := list_of len (fun i y => (∀ j, j < sz → w.cell? (a.add (i * sz + j)) = (cells y)[j]?) ∧ good y) (fun i hi => by
    obtain ⟨cs', h1, h2⟩ := hx i (by omega)
    rw [hce] at h1
    obtain ⟨_, hlen, hcell⟩ := World.cells?_some h1
    obtain ⟨y, rfl, hg⟩ := hel _ _ _ h2
    exact ⟨y, fun j hj => by rw [← add_add]; exact hcell j hj, hg⟩)
  refine ⟨_, l, rfl, ?_, fun x hx => ?_⟩
  · rw [hll]
    refine ⟨some a, cap, rfl, hl, hm, by simp, fun i u hu => ⟨a, rfl, ?_⟩⟩
    have hi : i < l.length * sz := by
      have := (List.getElem?_eq_some_iff.1 hu).1
      rwa [cells_len cells sz hsz] at this
    have hk : i / sz < l.length := by rw [Nat.div_lt_iff_lt_mul hpos]; exact hi
    have hj : i % sz < sz := Nat.mod_lt _ hpos
    have hij : i / sz * sz + i % sz = i := by rw [Nat.mul_comm]; exact Nat.div_add_mod i sz
    have h1 := cells_get cells sz hsz l (i / sz) (i % sz) hk hj
    rw [hij, hu] at h1
    have h2 := (hlx (i / sz) l[i / sz] (List.getElem?_eq_getElem hk)).1 (i % sz) hj
    rw [hij] at h2
    rw [h2, ← h1]
  · obtain ⟨i, hi, rfl⟩ := List.getElem_of_mem hx
    exact (hlx i _ (List.getElem?_eq_getElem hi)).2
def evCells (e : Ev) : List Value := [.int .i64 e.1, .int .i64 e.2.1, .int .i64 e.2.2]
def goodEv (e : Ev) : Prop := I64 e.1 ∧ I64 e.2.1 ∧ I64 e.2.2
def Evs (w : World) (v : Value) (h : List Ev) : Prop := Rd w v h.length (h.flatMap evCells) ∧ ∀ e ∈ h, goodEv e
set_option maxRecDepth 100000 in
theorem trod_ev (n : Nat) (cs : List Value) (x : DataW H × List MemPlace) (h : DataW.trod enc Try.prog w 0 (fun _ => true) true n 40 cs = some x) : ∃ e : Ev, cs = evCells e ∧ goodEv e := by
  obtain ⟨xs, n, _, _, hl, hxl, hf⟩ := DataW.trod_struct Try.underlying40 h
  have hl3 : cs.length = 3 := by rw [hl]; kernel_rfl
  have hx3 : xs.length = 3 := by rw [hxl]; rfl
  match cs, hl3, xs, hx3 with
  | [a, b, c], _, [x0, x1, x2], _ =>
    have g0 : DataW.trod enc Try.prog w 0 (fun _ => true) true n 3 ((([a, b, c] : List Value).drop 0).take (Try.prog.cellsOf 3)) = some x0 := hf 0 _ rfl
    have g1 : DataW.trod enc Try.prog w 0 (fun _ => true) true n 3 ((([a, b, c] : List Value).drop 1).take (Try.prog.cellsOf 3)) = some x1 := hf 1 _ rfl
    have g2 : DataW.trod enc Try.prog w 0 (fun _ => true) true n 3 ((([a, b, c] : List Value).drop 2).take (Try.prog.cellsOf 3)) = some x2 := hf 2 _ rfl
    rw [cells_int] at g0 g1 g2
    obtain ⟨n0, e0, _, w0⟩ := DataW.trod_int Try.underlying3 g0
    obtain ⟨n1, e1, _, w1⟩ := DataW.trod_int Try.underlying3 g1
    obtain ⟨n2, e2, _, w2⟩ := DataW.trod_int Try.underlying3 g2
    simp at e0 e1 e2
    subst e0 e1 e2
    exact ⟨(n0, n1, n2), rfl, I64_of_wf w0, I64_of_wf w1, I64_of_wf w2⟩
set_option maxRecDepth 100000 in
theorem arg_events (hv : Value.okWide Try.prog w .any b0 41 v) (h : DataW.Trod enc Try.prog w 0 (fun _ => true) true 41 v d p) : ∃ l, Evs w v l := by
  obtain ⟨ad, n, c, rfl⟩ := okWide_slice Try.underlying41 hv
  obtain ⟨fuel, hf⟩ := h
  obtain ⟨v', l, he, hr⟩ := trod_recs evCells 3 (fun _ => rfl) (by omega) goodEv Try.underlying41 (by kernel_rfl) trod_ev hf
  simp [Value.cells] at he
  exact ⟨l, he ▸ hr⟩
end Go.Proofs.Ytddbjcpfgjcmnaa
