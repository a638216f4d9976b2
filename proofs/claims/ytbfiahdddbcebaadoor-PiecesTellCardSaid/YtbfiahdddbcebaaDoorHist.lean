/- Contracts of package history: what is wrong with an event, with a history. -/
import Derived.Test.YtbfiahdddbcebaaDoorArgs2
import Derived.Test.YtbfiahdddbcebaaDoorPlan
import Derived.Test.YtbfiahdddbcebaaDoorVec2
import Derived.Deep.DeepCutAuto
import Derived.Deep.CutBlock
namespace Go.Proofs.YtbfiahdddbcebaaDoor
set_option linter.unusedVariables false
set_option linter.unusedSimpArgs false
open Go.RowKit
def evV (x : Ev) : Value := .agg #[.int .i64 x.1, .int .i64 x.2.1, .int .i64 x.2.2]
def ReadsE (w0 : World) (R : HProp) (v : Value) (l : List Ev) : Prop := ∀ w, Own w0 R w → Evs w v l
theorem Evs.later {w0 w : World} {P : HProp} {v : Value} {l : List Ev} (h : Evs w0 v l) (ho : Own w0 P w) : Evs w v l := ⟨h.1.later ho, h.2⟩
theorem Evs.reads {w0 : World} {R : HProp} {v : Value} {l : List Ev} (h : Evs w0 v l) : ReadsE w0 R v l := fun _ ho => h.later ho
theorem ReadsE.more {w0 : World} {P R : HProp} {v : Value} {l : List Ev} (h : ReadsE w0 R v l) : ReadsE w0 (P * R) v l := fun _ ho => h _ ho.drop
theorem Evs.shape {w : World} {v : Value} {l : List Ev} (h : Evs w v l) : ∃ ad cap, v = .slice ad l.length cap ∧ l.length ≤ cap ∧ cap ≤ 9223372036854775807 := by
  obtain ⟨ad, cap, rfl, h1, h2, _⟩ := h.1
  exact ⟨ad, cap, rfl, h1, h2⟩
theorem ev_get (l : List Ev) (k j : Nat) (hk : k < l.length) (hj : j < 3) : (l.flatMap evCells)[k * 3 + j]? = (evCells l[k])[j]? := cells_get evCells 3 (fun _ => rfl) l k j hk hj
theorem ReadsE.at {w0 : World} {R : HProp} {ad : Option Addr} {n cap : Nat} {l : List Ev} (h : ReadsE w0 R (.slice ad n cap) l) {w : World} (ho : Own w0 R w) (k : Nat) (hk : k < l.length) :
    ∃ (a : Addr) (eb eo : Nat) (es : Option Nat), ad = some a ∧ a.add (k * 3) = ⟨eb, eo, es⟩ ∧ (∀ w, Own w0 R w → w.cell? ⟨eb, eo, es⟩ = some (.int .i64 (evAt l k).1) ∧ w.cell? ⟨eb, eo + 1, none⟩ = some (.int .i64 (evAt l k).2.1) ∧ w.cell? ⟨eb, eo + 2, none⟩ = some (.int .i64 (evAt l k).2.2)) ∧ goodEv (evAt l k) := by
  have hev : evAt l k = l[k] := by unfold evAt; rw [List.getD_eq_getElem?_getD, List.getElem?_eq_getElem hk]; rfl
  rw [hev]
  have key : ∀ w, Own w0 R w → ∃ a : Addr, ad = some a ∧ w.cell? (a.add (k * 3)) = some (.int .i64 l[k].1) ∧ w.cell? (a.add (k * 3 + 1)) = some (.int .i64 l[k].2.1) ∧ w.cell? (a.add (k * 3 + 2)) = some (.int .i64 l[k].2.2) := by
    intro w ho
    obtain ⟨ad', cap', e, h1, h2, _, hc⟩ := (h w ho).1
    cases e
    obtain ⟨a, ha, c0⟩ := hc (k * 3) _ (ev_get l k 0 hk (by omega))
    obtain ⟨a', ha', c1⟩ := hc (k * 3 + 1) _ (ev_get l k 1 hk (by omega))
    obtain ⟨a'', ha'', c2⟩ := hc (k * 3 + 2) _ (ev_get l k 2 hk (by omega))
    rw [ha] at ha' ha''; cases ha'; cases ha''
    exact ⟨a, ha, c0, c1, c2⟩
  have hadd : ∀ (a : Addr) j, 0 < j → a.add (k * 3 + j) = ⟨(a.add (k * 3)).block, (a.add (k * 3)).off + j, none⟩ := by
    intro a j hj
    unfold Addr.add
    rw [if_neg (by omega)]
    split
    · rename_i h0; simp [h0]
    · simp [Nat.add_assoc]
  obtain ⟨a, ha, _⟩ := key w ho
  refine ⟨a, (a.add (k * 3)).block, (a.add (k * 3)).off, (a.add (k * 3)).spot, ha, rfl, fun w ho => ?_, (h w ho).2 _ (List.getElem_mem hk)⟩
  obtain ⟨a', ha', c0, c1, c2⟩ := key w ho
  rw [ha] at ha'; cases ha'
  rw [hadd a 1 (by omega)] at c1
  rw [hadd a 2 (by omega)] at c2
  exact ⟨c0, c1, c2⟩
theorem Evs.front {w : World} {ad : Option Addr} {n cap k : Nat} {l : List Ev} (h : Evs w (.slice ad n cap) l) (hk : k ≤ n) : Evs w (.slice ad k cap) (l.take k) := by
  obtain ⟨⟨ad', cap', e, h1, h2, h3, hc⟩, hg⟩ := h
  cases e
  have hl : (l.take k).length = k := by simp; omega
  refine ⟨⟨ad, cap, by rw [hl], by omega, h2, h3, fun i u hu => hc i u ?_⟩, fun x hx => hg x (List.mem_of_mem_take hx)⟩
  have hi : i < (l.take k).length * 3 := by
    have := (List.getElem?_eq_some_iff.1 hu).1
    rwa [cells_len evCells 3 (fun _ => rfl)] at this
  rw [← List.take_append_drop k l, List.flatMap_append, List.getElem?_append_left (by rw [cells_len evCells 3 (fun _ => rfl)]; exact hi)]
  exact hu
theorem ReadsE.front {w0 : World} {R : HProp} {ad : Option Addr} {n cap k : Nat} {l : List Ev} (h : ReadsE w0 R (.slice ad n cap) l) (hk : k ≤ n) : ReadsE w0 R (.slice ad k cap) (l.take k) := fun _ ho => (h _ ho).front hk
end Go.Proofs.YtbfiahdddbcebaaDoor
