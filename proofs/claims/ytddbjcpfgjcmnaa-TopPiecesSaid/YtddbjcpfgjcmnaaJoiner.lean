/- Contracts of package pieces: who joins them. -/
import Derived.Test.YtddbjcpfgjcmnaaPieces
import Derived.Test.YtddbjcpfgjcmnaaSet
import Derived.Test.YtddbjcpfgjcmnaaFifo
import Derived.Test.YtddbjcpfgjcmnaaHist
namespace Go.Proofs.Ytddbjcpfgjcmnaa
set_option linter.unusedVariables false
set_option linter.unusedSimpArgs false
open Go.RowKit Go.Maps
def isv (s : ByteArray) : Value := .string s
def pcV (p : Pc) : Value := .agg #[.int .i64 p.at', .int .i64 p.of, .string p.text]
def pcRight (p : Pc) : Bool := decide (1 ≤ p.of) && decide (p.of ≤ 60) && decide (0 ≤ p.at') && decide (p.at' < p.of) && decide (p.text.size ≤ 12)
def JoP (p mb : Nat) (N : Nat) (m : List (Int × ByteArray)) : HProp := blk p (.cells #[.int .i64 N, .map (some mb)] 47 (0, 0)) * IMp mb (mvals isv m)
theorem mapis_kind : Try.prog.underlying 45 = some (.map 3 9) := by kernel_rfl
theorem mapis_made : ∀ w, (Instr.makeMap 45 none).run Try.prog w = .ok (.map (some w.heap.size)) (w.alloc (.map #[] 0)) := fun _ => by kernel_rfl
theorem is_zero : ∀ w, (zeroValue 9).run Try.prog w = .ok (.string ⟨#[]⟩) w := fun _ => by kernel_rfl
section
variable {w0 w : World} {p mb N : Nat} {m : List (Int × ByteArray)} {R : HProp}
theorem Own.jo_blk (h : Own w0 (JoP p mb N m * R) w) : Own w0 (blk p (.cells #[.int .i64 N, .map (some mb)] 47 (0, 0)) * (IMp mb (mvals isv m) * R)) w := h.perm (by unfold JoP; ac_rfl)
theorem Own.jo_map (h : Own w0 (JoP p mb N m * R) w) : Own w0 (IMp mb (mvals isv m) * (blk p (.cells #[.int .i64 N, .map (some mb)] 47 (0, 0)) * R)) w := h.perm (by unfold JoP; ac_rfl)
theorem Own.jo_facts (h : Own w0 (JoP p mb N m * R) w) : w.cell? ⟨p, 0, none⟩ = some (.int .i64 N) ∧ w.cell? ⟨p, 1, none⟩ = some (.map (some mb)) ∧ (∀ i t, w.frozen? ⟨p, i, t⟩ = false) :=
  ⟨(h.jo_blk.cell 0).trans rfl, (h.jo_blk.cell 1).trans rfl, fun i t => h.jo_blk.free i t⟩
theorem Own.jo_look2 (h : Own w0 (JoP p mb N m * R) w) (x : Int) (hx : I64 x) : (Instr.lookup 45 (.map (some mb)) (.int .i64 x) true).run Try.prog w = .ok (.tuple #[((mget m x).map isv).getD (.string ⟨#[]⟩), .bool (mget m x).isSome]) w := by
  have h1 := h.jo_map.map_look (int_ke int_kind) mapis_kind is_zero (x := x) hx true
  rw [mget_mvals] at h1
  simpa using h1
end
set_option maxRecDepth 100000 in
set_option maxHeartbeats 4000000 in
theorem joNew_any {w0 w : World} {R : HProp} (h : Own w0 R w) :
    Calls Try.prog 8 #[] w fun e w' => ∃ p mb, e = .returned (.pointer (some ⟨p, 0, none⟩)) ∧ Own w0 (JoP p mb 0 [] * R) w' := by
  have hmm := mapis_made
  have H := Lib.hid h
  clear h
  go_enter Try.func8, Try.ntmps8
  go_wp2
  go_ret
  refine ⟨_, w.heap.size, rfl, ?_⟩
  have h1 := (H.out.map_new (enc := fun n : Int => Value.int .i64 n) (ok := I64)).alloc (.cells #[.int .i64 0, .map (some w.heap.size)] 47)
  refine h1.perm ?_
  unfold JoP
  simp only [World.size_alloc, mvals_nil, Int.natCast_zero]
  unfold IMp
  ac_rfl
set_option maxRecDepth 100000 in
set_option maxHeartbeats 4000000 in
theorem pcRight_any {w0 w : World} {R : HProp} (p : Pc) (h : Own w0 R w) :
    Calls Try.prog 12 #[pcV p] w fun e w' => e = .returned (.bool (pcRight p)) ∧ Own w0 R w' := by
  obtain ⟨a, o, t⟩ := p
  unfold pcV
  obtain ⟨b1, hb_b1⟩ : ∃ zz_, zz_ = (w).heap.size := ⟨_, rfl⟩
  obtain ⟨w1, hw_w1⟩ : ∃ zz_, zz_ = (w).alloc (.cells #[.int .i64 a, .int .i64 o, .string t] 28 (0, 0)) := ⟨_, rfl⟩
  have h_HO := (h).alloc (.cells #[.int .i64 a, .int .i64 o, .string t] 28 (0, 0))
  rw [← hb_b1, ← hw_w1] at h_HO
  have HO := Lib.hid h_HO
  clear h_HO
  have c0 : w1.cell? ⟨b1, 0, none⟩ = some (.int .i64 a) := (HO.out.cell 0).trans rfl
  have c1 : w1.cell? ⟨b1, 1, none⟩ = some (.int .i64 o) := (HO.out.cell 1).trans rfl
  have c2 : w1.cell? ⟨b1, 2, none⟩ = some (.string t) := (HO.out.cell 2).trans rfl
  obtain ⟨z, hz⟩ : ∃ z : Nat, z = t.size := ⟨_, rfl⟩
  obtain ⟨q1, h1⟩ : ∃ q, q = decide (1 ≤ o) := ⟨_, rfl⟩
  obtain ⟨q2, h2⟩ : ∃ q, q = decide (o ≤ 60) := ⟨_, rfl⟩
  obtain ⟨q3, h3⟩ : ∃ q, q = decide (0 ≤ a) := ⟨_, rfl⟩
  obtain ⟨q4, h4⟩ : ∃ q, q = decide (a < o) := ⟨_, rfl⟩
  obtain ⟨q5, h5⟩ : ∃ q, q = decide (t.size ≤ 12) := ⟨_, rfl⟩
  have hP : pcRight ⟨a, o, t⟩ = (q1 && q2 && q3 && q4 && q5) := by unfold pcRight; rw [h1, h2, h3, h4, h5]
  rw [hP]
  have t1 := h1.symm; have t2 := h2.symm; have t3 := h3.symm; have t4 := h4.symm
  have t5 : decide ((t.size : Int) ≤ 12) = q5 := by rw [h5, decide_eq_decide]; omega
  have H := Lib.hid h; have H1 := Lib.hid h1; have H2 := Lib.hid h2; have H3 := Lib.hid h3; have H4 := Lib.hid h4; have H5 := Lib.hid h5; have HP := Lib.hid hP
  clear h h1 h2 h3 h4 h5 hP
  go_enter Try.func12, Try.ntmps12
  go_upto_region 1 with fail
  rw [← hb_b1, ← hw_w1]
  clear hb_b1 hw_w1
  cases q1
  · go_wp2
    go_ret
    exact ⟨rfl, HO.out.drop⟩
  cases q2
  · go_wp2
    go_ret
    exact ⟨rfl, HO.out.drop⟩
  cases q3
  · go_wp2
    go_ret
    exact ⟨rfl, HO.out.drop⟩
  cases q4
  · go_wp2
    go_ret
    exact ⟨rfl, HO.out.drop⟩
  cases q5
  · go_wp2
    go_ret
    exact ⟨rfl, HO.out.drop⟩
  go_wp2
  go_ret
  exact ⟨rfl, HO.out.drop⟩
end Go.Proofs.Ytddbjcpfgjcmnaa
