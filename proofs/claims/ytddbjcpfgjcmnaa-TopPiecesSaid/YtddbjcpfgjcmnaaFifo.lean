/- Contracts of package fifo. -/
import Derived.Test.YtddbjcpfgjcmnaaTab
import Derived.Test.YtddbjcpfgjcmnaaMap
import Derived.Test.YtddbjcpfgjcmnaaStable
import Derived.DeepKeys3
import Derived.Deep.LoopGhost
import Derived.StillTailTactics
namespace Go.Proofs.Ytddbjcpfgjcmnaa
set_option linter.unusedVariables false
set_option linter.unusedSimpArgs false
open Go.RowKit Go.Maps
def ikv (n : Int) : Value := .int .i64 n
/-- A place: whose a word is, and which. -/
def plV (x : Int × Int) : Value := .agg #[.int .i64 x.1, .int .i64 x.2]
def plOk (x : Int × Int) : Prop := I64 x.1 ∧ I64 x.2
structure Fi where
  next : List Int
  waits : List ((Int × Int) × Int)
abbrev PMp (mb : Nat) (m : List ((Int × Int) × Int)) : HProp := Mp plV plOk mb (mvals ikv m)
def fiCells (f : Fi) (mb : Nat) : List Value := f.next.map (.int .i64) ++ [.map (some mb)]
def fiN (f : Fi) (who : Int) : Int := f.next.getD who.toNat 0
def fiHas (f : Fi) (who n : Int) : Bool := (mget f.waits (who, n)).isSome || decide (n < fiN f who)
/-- The words that are ready, from the number n on: these, the next number, what waits. -/
def fiDrain (who : Int) : Nat → Int → List ((Int × Int) × Int) → List Int × Int × List ((Int × Int) × Int)
  | 0, n, m => ([], n, m)
  | k + 1, n, m => match mget m (who, n) with
    | none => ([], n, m)
    | some x => let r := fiDrain who k (n + 1) (mdel m (who, n)); (x :: r.1, r.2.1, r.2.2)
def fiErr (f : Fi) (who n word : Int) : Nat :=
  if isMember who = false then 1 else if n < 1 then 1 else if 1000000 < n then 1 else if isWord word = false then 1 else if fiHas f who n = true then 7
  else if n ≠ fiN f who ∧ 40 ≤ f.waits.length then 4 else 0
def fiEnd (f : Fi) (who n word : Int) : List Int × Int × List ((Int × Int) × Int) := fiDrain who (mput f.waits (who, n) word).length (fiN f who) (mput f.waits (who, n) word)
def fiOut (f : Fi) (who n word : Int) : List Int := if fiErr f who n word = 0 then (fiEnd f who n word).1 else []
def fiTake (f : Fi) (who n word : Int) : Fi := if fiErr f who n word = 0 then ⟨f.next.set who.toNat (fiEnd f who n word).2.1, (fiEnd f who n word).2.2⟩ else f
def fiFit (f : Fi) : Prop := f.next.length = 5 ∧ (∀ x ∈ f.next, 1 ≤ x ∧ x ≤ 1000001) ∧ f.waits.length ≤ 40 ∧ (∀ p ∈ f.waits, 1 ≤ p.1.2 ∧ p.1.2 ≤ 1000000 ∧ 1 ≤ p.2 ∧ p.2 ≤ 30)
def fiNew : Fi := ⟨[1, 1, 1, 1, 1], []⟩
theorem fi_zero : ∀ w, (zeroValue 3).run Try.prog w = .ok (.int .i64 0) w := fun _ => by kernel_rfl
theorem mput_len_le (m : List ((Int × Int) × Int)) (x : Int × Int) (v : Int) : (mput m x v).length ≤ m.length + 1 := by
  have := congrArg List.length (mput_keys m x v)
  simp only [List.length_map] at this
  rw [this]
  split <;> simp
theorem mget_mem {m : List ((Int × Int) × Int)} {x : Int × Int} {v : Int} (h : mget m x = some v) : (x, v) ∈ m := by
  induction m with
  | nil => simp [mget] at h
  | cons p r ih =>
    unfold mget at h
    by_cases e : p.1 = x
    · rw [if_pos e] at h; injection h with h
      exact List.mem_cons.2 (.inl (by rw [← e, ← h]))
    · rw [if_neg e] at h; exact List.mem_cons.2 (.inr (ih h))
theorem fi_errV1 : errV 1 = .iface 38 (.int .i64 1) := rfl
end Go.Proofs.Ytddbjcpfgjcmnaa
