/- Contracts of the reference: what is wrong with a view; who is shared; the next view. -/
import Derived.Test.YtkgnjkokbiefgaaView6
import Derived.Test.YtkgnjkokbiefgaaRefIn
import Derived.Test.YtkgnjkokbiefgaaPlan
import Derived.Test.YtkgnjkokbiefgaaHeld
namespace Go.Proofs.Ytkgnjkokbiefgaa
set_option linter.unusedVariables false
set_option linter.unusedSimpArgs false
open Go.RowKit
theorem memGo_cons (p x : Int) (r : List Int) : memGo p (x :: r) = if isMember x = false then 1 else if x ≤ p then 3 else memGo x r := rfl
def prevOf (l : List Int) (k : Nat) : Int := if k = 0 then -1 else l.getD (k - 1) 0
theorem wpMix_readW {P : Program} {ops : Array Oper} {S : World → Prop} {Q : Exit → Act → World → Prop} {K : Act → World → Prop} {a : Act} {w : World} {o : Oper} {l : List (Bool × Oper)} (v : Value) (hw : Region.wanted o (yielded ops a.tmps) = true) (hv : ∀ w, S w → (execOp a.eval o).run P w = .ok (.value v) w) (h : wpMix P ops S Q K l (a.put o.dst v) w) : wpMix P ops S Q K ((true, o) :: l) a w :=
  ⟨v, .inl ⟨hw, hv⟩, h⟩
def refNextErr (n : Int) (A B : List Int) : Nat := if n = 1000000 then 4 else if memErr B ≠ 0 then memErr B else if mostB A B = false then 8 else 0
theorem nextErr_ref {n : Int} {A B : List Int} (h : viewErr n A = 0) : nextErr n A B = refNextErr n A B := by unfold nextErr refNextErr; rw [if_neg (by simpa using h)]
set_option maxRecDepth 100000 in
set_option maxHeartbeats 4000000 in
theorem sameView_any {w0 w : World} {R : HProp} (n m : Int) (va vb : Value) (A B : List Int) (h : Own w0 R w) (hA : Reads w0 R va A) (hB : Reads w0 R vb B) :
    Calls Try.prog 48 #[.agg #[.int .i64 n, va], .agg #[.int .i64 m, vb]] w fun e w' => e = .returned (.bool (decide (n = m) && (A == B))) ∧ Own w0 R w' := by
  obtain ⟨ad, acap, rfl, _, _⟩ := (hA _ h).shape
  obtain ⟨bd, bcap, rfl, _, _⟩ := (hB _ h).shape
  obtain ⟨o1, ho1⟩ : ∃ o, o = Obj.cells #[.int .i64 n, .slice ad A.length acap] 39 (0, 0) := ⟨_, rfl⟩
  obtain ⟨o2, ho2⟩ : ∃ o, o = Obj.cells #[.int .i64 m, .slice bd B.length bcap] 39 (0, 0) := ⟨_, rfl⟩
  obtain ⟨b1, hb1⟩ : ∃ c, c = w.heap.size := ⟨_, rfl⟩
  obtain ⟨b2, hb2⟩ : ∃ c, c = (w.alloc o1).heap.size := ⟨_, rfl⟩
  obtain ⟨w2, hw2⟩ : ∃ c, c = (w.alloc o1).alloc o2 := ⟨_, rfl⟩
  have hb2' : w.heap.size + 1 = b2 := by rw [hb2]; simp
  have h2 := (h.alloc o1).alloc o2
  rw [← hb1, ← hb2, ← hw2, ho1, ho2] at h2
  have HV2 : Hid (Own w0 (VwO b2 m (.slice bd B.length bcap) * (VwO b1 n (.slice ad A.length acap) * R)) w2) := Lib.hid h2
  obtain ⟨d0, d1, _⟩ := HV2.out.vw
  obtain ⟨c0, c1, _⟩ := (HV2.out.perm (star_left_comm _ _ _)).vw
  have hra := hA.more.more _ HV2.out
  have hrb := hB.more.more _ HV2.out
  have H := Lib.hid h; have HA := Lib.hid hA; have HB := Lib.hid hB; have HRA := Lib.hid hra; have HRB := Lib.hid hrb
  clear h hA hB hra hrb
  clear h2 hb2
  by_cases h1 : n = m
  · have t1 : (n == m) = true := by simpa using h1
    have hd := decide_eq_true h1
    have H1 := Lib.hid h1; have HD := Lib.hid hd
    clear h1 hd
    go_enter Try.func48, Try.ntmps48
    go_upto_region 1 with fail
    rw [← hb1, ← ho1, ← ho2, ← hw2]
    clear hb2' hb1 ho1 ho2 hw2
    go_wp2_with fail
    refine (sameInts_any _ _ A B _ HRA.out HRB.out).mono ?_
    rintro e w' ⟨rfl, nq, rfl⟩
    obtain ⟨z, hz⟩ : ∃ z, z = (A == B) := ⟨_, rfl⟩
    rw [← hz]
    have HZ := Lib.hid hz
    clear hz
    go_wp2
    go_ret
    exact ⟨by rw [HD.out, HZ.out]; rfl, (HV2.out.drewN _).drop.drop⟩
  · have t1 : (n == m) = false := by simpa using h1
    have hd := decide_eq_false h1
    have H1 := Lib.hid h1; have HD := Lib.hid hd
    clear h1 hd
    go_enter Try.func48, Try.ntmps48
    go_upto_region 1 with fail
    rw [← hb1, ← ho1, ← ho2, ← hw2]
    clear hb2' hb1 ho1 ho2 hw2
    go_wp2
    go_ret
    exact ⟨by rw [HD.out]; rfl, HV2.out.drop.drop⟩
end Go.Proofs.Ytkgnjkokbiefgaa
