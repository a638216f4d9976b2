/- Contracts of package wire, continued: Pack. -/
import Derived.Test.YtddbjcpfgjcmnaaWire
namespace Go.Proofs.Ytddbjcpfgjcmnaa
set_option linter.unusedVariables false
set_option linter.unusedSimpArgs false
open Go.RowKit
theorem u8_of {n : Int} {x : UInt8} (h : n = (x.toNat : Int)) : Value.int .u8 n = u8V x := by unfold u8V; rw [h]
theorem wHead_next {who word : Int} {l : List Int} {k : Nat} (hk : k < l.length) : wHead who word (l.take (k + 1)) = wHead who word (l.take k) ++ dig3 l[k] := by
  unfold wHead
  rw [List.take_succ_eq_append_getElem hk, List.flatMap_append]
  simp
theorem wHead_size {who word : Int} (l : List Int) : (wHead who word l).length = 2 + 3 * l.length := by
  unfold wHead
  induction l with
  | nil => rfl
  | cons x r ih => simp only [List.flatMap_cons, List.length_cons, List.length_append, dig3, List.length_nil] at ih ⊢; omega
theorem dig3_vals (y : Nat) (h : y ≤ 1000000) : (dig3 y).map u8V = [.int .u8 ((y : Int) / 256 / 256), .int .u8 ((y : Int) / 256 % 256), .int .u8 ((y : Int) % 256)] := by
  show [u8V (byt ((y : Int) / 65536)), u8V (byt ((y : Int) / 256)), u8V (byt (y : Int))] = _
  rw [← u8_of (x := byt ((y : Int) / 65536)) (n := (y : Int) / 256 / 256) (by rw [byt_toNat _ (by omega)]; omega), ← u8_of (x := byt ((y : Int) / 256)) (n := (y : Int) / 256 % 256) (by rw [byt_toNat _ (by omega)]), ← u8_of (x := byt (y : Int)) (n := (y : Int) % 256) (by rw [byt_toNat _ (by omega)])]
/-- string(b). -/
theorem conv_back {w : World} {ad : Option Addr} {n cap : Nat} {l : List UInt8} (h : ByRd w (.slice ad n cap) l) (hl : 0 < l.length) (src dst e : TypeId) (hs : Try.prog.underlying src = some (.slice e)) (he : Try.prog.underlying e = some (.int .u8)) (hd : Try.prog.underlying dst = some .string) :
    (convert src dst (.slice ad n cap)).run Try.prog w = .ok (.string ⟨l.toArray⟩) w := by
  obtain ⟨a, rfl, _⟩ := h.at 0 hl
  have hn : n = l.length := by obtain ⟨_, _, e, _⟩ := h; cases e; rfl
  subst hn
  exact run_convert_bytes_back w src dst e a cap l hs he hd (fun j hj => by obtain ⟨a', h', hc⟩ := h.at j hj; cases h'; exact hc)
end Go.Proofs.Ytddbjcpfgjcmnaa
