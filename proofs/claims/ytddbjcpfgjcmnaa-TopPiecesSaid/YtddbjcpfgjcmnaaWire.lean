/- Contracts of package wire: sum, check, Pack. -/
import Derived.Test.YtddbjcpfgjcmnaaWireP
import Derived.Test.YtddbjcpfgjcmnaaStar
import Derived.Test.YtddbjcpfgjcmnaaHeld
import Derived.Deep.DeepCutAuto
import Derived.Deep.CutBlock
namespace Go.Proofs.Ytddbjcpfgjcmnaa
set_option linter.unusedVariables false
set_option linter.unusedSimpArgs false
open Go.RowKit
def u8V (b : UInt8) : Value := .int .u8 (b.toNat : Int)
def BySl (v : Value) (l : List UInt8) : HProp := Sl 5 1 v l.length (l.map u8V)
def ByRd (w : World) (v : Value) (l : List UInt8) : Prop := Rd w v l.length (l.map u8V)
theorem info_byte : (Try.prog.info? 5).map (fun i => (i.zero, i.size, i.bytes)) = some (some (.int .u8 0), 1, 1) := by kernel_rfl
theorem by_one (l : List UInt8) : ∀ u ∈ l.map u8V, u.oneCell' = true := by
  intro u hu
  obtain ⟨x, _, rfl⟩ := List.mem_map.1 hu
  rfl
theorem ByRd.at {w : World} {ad : Option Addr} {n cap : Nat} {l : List UInt8} (h : ByRd w (.slice ad n cap) l) (k : Nat) (hk : k < l.length) : ∃ a : Addr, ad = some a ∧ w.cell? (a.add k) = some (.int .u8 ((l[k]).toNat : Int)) := by
  obtain ⟨ad', cap', e, _, _, _, hc⟩ := h
  cases e
  exact hc k _ (by simp [hk, u8V])
theorem ByRd.shape {w : World} {v : Value} {l : List UInt8} (h : ByRd w v l) : ∃ ad cap, v = .slice ad l.length cap ∧ l.length ≤ cap ∧ cap ≤ 9223372036854775807 := by
  obtain ⟨ad', cap', e, h1, h2, _, hc⟩ := h
  exact ⟨_, _, e, h1, by simpa [maxLen] using h2⟩
theorem Own.by_shape {w0 w : World} {v : Value} {l : List UInt8} {R : HProp} (h : Own w0 (BySl v l * R) w) : ∃ ad cap, v = .slice ad l.length cap ∧ l.length ≤ cap ∧ cap ≤ 9223372036854775807 := ByRd.shape (Own.rd h)
end Go.Proofs.Ytddbjcpfgjcmnaa
