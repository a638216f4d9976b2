/- slices.Delete of one element of three cells, at a slice that the call owns. -/
import Derived.Test.YtdfjbnfdknpahaaGreatDoorMRunAnswers7
import Derived.Test.YtdfjbnfdknpahaaGreatDoorMRunAnswers1
import Derived.Lib.SliceRun
import Derived.Deep.RegionLaw
import Derived.Deep.DeepCutAuto
import Derived.Deep.CutBlock
import Derived.Test.YtdfjbnfdknpahaaGreatDoorMRunAnswers13
namespace Go.Proofs.YtdfjbnfdknpahaaGreatDoor
set_option linter.unusedVariables false
set_option linter.unusedSimpArgs false
open Go.RowKit
theorem zeroCells_one (z : Array Value) : (Builtin.zeroCells z 1).toList = z.toList := by
  simp only [Builtin.zeroCells, Nat.one_mul]
  apply List.ext_getElem
  · simp
  · intro i h1 h2
    have hi : i < z.size := by simpa using h2
    simp [Nat.mod_eq_of_lt hi, hi]
theorem run_clear_one {P : Program} (w : World) (t e ty : TypeId) (z : Value) (ht : P.underlying t = some (.slice e)) (hv : ∀ w, (zeroValue e).run P w = .ok z w) (h1 : ∀ u ∈ z.cells.toList, u.oneCell' = true) (b o c : Nat)
    (hc : ∀ j, j < z.cells.toList.length → (w.cell? ⟨b, o + j, none⟩).isSome = true) (hf : ∀ j, j < z.cells.toList.length → w.frozen? ⟨b, o + j, none⟩ = false) :
    (Builtin.clear_ #[t] ty #[.slice (some ⟨b, o, none⟩) 1 c]).run P w = .ok (.tuple #[]) (w.setCells b o z.cells.toList) := by
  have hst := run_storeCells_cells (P := P) b o z.cells.toList 0 w (by simpa using hc) (by simpa using hf) h1
  simp only [Nat.add_zero] at hst
  simp [Builtin.clear_, run_underlying ht, hv, zeroCells_one, hst]
theorem del_cells {n i off : Nat} {cs : Array Value} {xs z3 : List Value} (hi : i < n) (hx : xs.length = n * 3) (hz : z3.length = 3) (hcs : off + n * 3 ≤ cs.size) (h6 : ∀ j, j < xs.length → cs[off + j]? = xs[j]?) :
    ∀ j, j < (xs.take (i * 3) ++ xs.drop ((i + 1) * 3)).length → (setL (setL cs (off + i * 3) (xs.drop ((i + 1) * 3))) (off + (n - 1) * 3) z3)[off + j]? = (xs.take (i * 3) ++ xs.drop ((i + 1) * 3))[j]? := by
  intro j hj
  have h0 : (xs.take (i * 3)).length = i * 3 := by rw [List.length_take]; omega
  have hd : (xs.drop ((i + 1) * 3)).length = n * 3 - (i + 1) * 3 := by rw [List.length_drop]; omega
  rw [List.length_append, h0, hd] at hj
  rw [setL_out _ _ _ _ (by omega)]
  by_cases hji : j < i * 3
  · rw [setL_out _ _ _ _ (by omega), List.getElem?_append_left (by omega), List.getElem?_take, if_pos hji, h6 j (by omega)]
  · rw [List.getElem?_append_right (by omega), h0]
    have := setL_in (xs.drop ((i + 1) * 3)) cs (off + i * 3) (j - i * 3) (by omega) (by omega)
    rw [show off + i * 3 + (j - i * 3) = off + j by omega] at this
    exact this
theorem cut3_back {P : Program} {t e : TypeId} (ht : P.underlying t = some (.slice e)) (hs : ∀ w, (sizeOf e).run P w = .ok 3 w) {b off len cp n : Nat} (h1 : n ≤ len) (h2 : len ≤ cp) (w : World) :
    (Instr.sliceAt t (.slice (some ⟨b, off, none⟩) len cp) none (some (.int .i64 n)) none).run P w = .ok (.slice (some ⟨b, off, none⟩) n cp) w := by
  have h3 : n ≤ cp := by omega
  simp [Instr.sliceAt, Instr.slice, Instr.sliceBounds, Instr.sliceBound, asIntOf, run_underlying ht, hs, h3, Result.andThen]
  intro _
  simp [Addr.add]
theorem cut3_front' {P : Program} {t e : TypeId} (ht : P.underlying t = some (.slice e)) (hs : ∀ w, (sizeOf e).run P w = .ok 3 w) {b off len cp m : Nat} (h1 : m ≤ len) (w : World) :
    (Instr.sliceAt t (.slice (some ⟨b, off, none⟩) len cp) (some (.int .i64 (m : Int))) none none).run P w = .ok (.slice (if cp = m then some (⟨b, off, none⟩ : Addr) else some ((⟨b, off, none⟩ : Addr).add (m * 3))) (len - m) (cp - m)) w := by
  simp [Instr.sliceAt, Instr.slice, Instr.sliceBounds, Instr.sliceBound, asIntOf, run_underlying ht, hs, h1, Result.andThen]
theorem cut3_front {P : Program} {t e : TypeId} (ht : P.underlying t = some (.slice e)) (hs : ∀ w, (sizeOf e).run P w = .ok 3 w) {b off len cp n : Nat} (h1 : n + 1 ≤ len) (w : World) :
    (Instr.sliceAt t (.slice (some ⟨b, off, none⟩) len cp) (some (.int .i64 ((n : Int) + 1))) none none).run P w = .ok (.slice (some (if cp = n + 1 then (⟨b, off, none⟩ : Addr) else ⟨b, off + (n + 1) * 3, none⟩)) (len - (n + 1)) (cp - (n + 1))) w := by
  have e1 : ((n : Int) + 1) = ((n + 1 : Nat) : Int) := by omega
  rw [e1, cut3_front' ht hs h1 w]
  split
  · rfl
  · rw [Addr.add_lit]
theorem packet_size : ∀ w, (sizeOf 79).run Tryz.prog w = .ok 3 w := fun _ => by kernel_rfl
theorem packet_zero : ∀ w, (zeroValue 79).run Tryz.prog w = .ok (.agg #[.int .i64 0, .int .i64 0, .int .i64 0]) w := fun _ => by kernel_rfl
theorem packet_info : Tryz.prog.info? 79 = some ((Tryz.prog.info? 79).get (by kernel_rfl)) := by kernel_rfl
set_option maxRecDepth 100000 in
set_option maxHeartbeats 4000000 in
theorem delPk_any {w0 w : World} {R : HProp} (b off n cap i : Nat) (xs : List Value) (hi : i < n) (h1 : ∀ u ∈ xs, u.oneCell' = true) (h : Own w0 (SlAt 79 3 b off n cap xs * R) w) :
    Calls Tryz.prog 100 #[.slice (some ⟨b, off, none⟩) n cap, .int .i64 (i : Int), .int .i64 ((i : Int) + 1)] w fun e w' => e = .returned (.slice (some ⟨b, off, none⟩) (n - 1) cap) ∧ Own w0 (SlAt 79 3 b off (n - 1) cap (xs.take (i * 3) ++ xs.drop ((i + 1) * 3)) * R) w' := by
  obtain ⟨m, rfl⟩ : ∃ m, n = m + 1 := ⟨n - 1, by omega⟩
  rw [Nat.add_sub_cancel]
  obtain ⟨hb, x, a, ⟨p, q, d, rfl, ⟨cs, h2, h3, h4, h5, h6, h7⟩, hq⟩⟩ := h
  have ho : Own w0 (blk b (.cells cs 79 (0, 0)) * R) w := ⟨hb, _, a, p, q, d, rfl, h7, hq⟩
  clear hb a d h7 hq
  obtain ⟨info, hinfo, hzero, hsize⟩ : ∃ info, Tryz.prog.info? 79 = some info ∧ info.zero = some (.agg #[.int .i64 0, .int .i64 0, .int .i64 0]) ∧ info.size = 3 := ⟨_, packet_info, by kernel_rfl, by kernel_rfl⟩
  have h34 : m + 1 ≤ 9223372036854775807 := by unfold maxLen at h3; omega
  have h35 : cap ≤ 9223372036854775807 := by unfold maxLen at h3; omega
  obtain ⟨news, hnews⟩ : ∃ news, news = xs.drop ((i + 1) * 3) := ⟨_, rfl⟩
  have hlen : news.length = (m - i) * 3 := by rw [hnews, List.length_drop, h4]; omega
  have hone : ∀ u ∈ news, u.oneCell' = true := fun u hu => h1 u (by rw [hnews] at hu; exact List.mem_of_mem_drop hu)
  obtain ⟨A, hA, hsrc⟩ : ∃ A : Addr, (if cap = i + 1 then (⟨b, off, none⟩ : Addr) else ⟨b, off + (i + 1) * 3, none⟩) = A ∧ ∀ t u, news[t]? = some u → w.drew.cell? (A.add t) = some u := by
    by_cases hc : cap = i + 1
    · refine ⟨⟨b, off, none⟩, by rw [if_pos hc], fun t u hu => ?_⟩
      have h0 : news.length = 0 := by rw [hlen]; omega
      rw [List.length_eq_zero_iff.1 h0] at hu
      simp at hu
    · refine ⟨⟨b, off + (i + 1) * 3, none⟩, by rw [if_neg hc], fun t u hu => ?_⟩
      have ht : t < news.length := (List.getElem?_eq_some_iff.1 hu).1
      rw [Addr.add_lit, ho.drew.cell, show off + (i + 1) * 3 + t = off + ((i + 1) * 3 + t) by omega, h6 _ (by omega), ← List.getElem?_drop, ← hnews]
      exact hu
  have hsp : ∀ j, j < news.length → (w.drew.cell? ⟨b, off + i * 3 + j, none⟩).isSome = true ∧ w.drew.frozen? ⟨b, off + i * 3 + j, none⟩ = false := fun j hj => by
    refine ⟨?_, ho.drew.free _ _⟩
    rw [ho.drew.cell, Array.getElem?_eq_getElem (by omega)]; rfl
  obtain ⟨W1, hW1⟩ : ∃ W1, W1 = w.drew.setCells b (off + i * 3) news := ⟨_, rfl⟩
  have ho1 := Own.setCells news (off + i * 3) cs w.drew ho.drew
  rw [← hW1] at ho1
  have hcl : ∀ ty, (Builtin.clear_ #[51] ty #[.slice (some ⟨b, off + m * 3, none⟩) 1 (cap - m)]).run Tryz.prog W1 = .ok (.tuple #[]) (W1.setCells b (off + m * 3) [.int .i64 0, .int .i64 0, .int .i64 0]) := fun ty =>
    run_clear_one W1 _ _ ty _ Tryz.underlying51 packet_zero (by intro u hu; simp [Value.cells] at hu; rcases hu with rfl | rfl | rfl <;> rfl) b _ _ (fun j hj => by
      rw [ho1.cell, Array.getElem?_eq_getElem (by rw [setL_size]; have hj' : j < 3 := hj; omega)]; rfl) (fun j hj => ho1.free _ _)
  have ho2 := Own.setCells [.int .i64 0, .int .i64 0, .int .i64 0] (off + m * 3) _ W1 ho1
  have hfin : ∀ w', w' = W1.setCells b (off + m * 3) [.int .i64 0, .int .i64 0, .int .i64 0] → Own w0 (SlAt 79 3 b off m cap (xs.take (i * 3) ++ xs.drop ((i + 1) * 3)) * R) w' := by
    rintro w' rfl
    refine ho2.cons fun y hy => ⟨_, by omega, h3, ?_, by rw [setL_size, setL_size]; exact h5, ?_, hy⟩
    · rw [List.length_append, List.length_take, List.length_drop, h4]; omega
    · rw [hnews]
      exact del_cells hi h4 rfl (by omega) h6
  clear ho2
  have hi' : i + 1 ≤ m + 1 := by omega
  have hc1 := fun w => cut3_back (P := Tryz.prog) Tryz.underlying51 packet_size (b := b) (off := off) (show i ≤ m + 1 by omega) h2 w
  have hc2 := fun w => cut3_front (P := Tryz.prog) Tryz.underlying51 packet_size (b := b) (off := off) (cp := cap) (len := m + 1) (n := i) hi' w
  rw [hA] at hc2
  clear hA
  have HW1 := Lib.hid hW1
  clear hW1
  have HO := Lib.hid ho; have HO1 := Lib.hid ho1; have H1 := Lib.hid h1; have H3 := Lib.hid h3; have H4 := Lib.hid h4; have H5 := Lib.hid h5; have H6 := Lib.hid h6; have HNEWS := Lib.hid hnews; have HLEN := Lib.hid hlen; have HONE := Lib.hid hone; have HSRC := Lib.hid hsrc; have HSP := Lib.hid hsp; have HFIN := Lib.hid hfin; have HZERO := Lib.hid hzero; have HSIZE := Lib.hid hsize
  clear ho ho1 h1 h3 h4 h5 h6 hnews hlen hone hsrc hsp hfin hzero hsize
  go_enter Tryz.func100, Tryz.ntmps100
  go_upto_region 5 with fail
  refine wp_region_planH 7 [] [(true, 0), (true, 1), (true, 2), (true, 3), (true, 4), (true, 5), (false, 6)] [7] (fun wS => True) (by kernel_rfl) (by kernel_rfl) (trivial) ?_
  simp only [pickH, pick, List.getElem?_cons_succ, List.getElem?_cons_zero, Option.toList, Option.map_some, List.cons_append, List.nil_append]
  repeat (refine wpPure_step ?_ rfl ?_ ?_; rotate_left; (focus (intro _; first | with_reducible rfl | (go_simp; done) | (go_simp; with_reducible rfl) | rfl)); go_simp)
  refine wpPure_nil ?_
  repeat (refine wpMix_read ?_ rfl ?_ ?_; rotate_left; (focus (intro _ hS; obtain _ := hS; first | with_reducible rfl | (go_simp; done) | (go_simp; with_reducible rfl) | rfl)); go_simp)
  refine wpMix_write (fun K hK => ?_)
  refine step_append_room rfl (.tmp 22) (.tmp 25) 51 rfl 79 info 3 Tryz.underlying51 hinfo HSIZE.out b off i cap (by rfl) A (m - i) (cap - (i + 1)) news (by rfl) HLEN.out HSRC.out HONE.out (by omega) HSP.out ?_
  rw [← HW1.out, show i + (m - i) = m by omega]
  clear HW1
  refine hK _ _ ⟨trivial, ?_⟩
  clear hK K
  go_simp
  refine wpMix_nil ?_
  go_wp2_with fail
  refine NoPanic.normal ?_
  have hm1 : m + 1 - m = 1 := by omega
  have hmc : ¬ cap = m := by omega
  go_wp2_with fail
  go_ret
  exact ⟨rfl, HFIN.out _ rfl⟩
end Go.Proofs.YtdfjbnfdknpahaaGreatDoor
/- slices.Delete of one word, at a row that the call owns. -/
namespace Go.Proofs.YtdfjbnfdknpahaaGreatDoor
set_option linter.unusedVariables false
set_option linter.unusedSimpArgs false
open Go.RowKit
theorem saidz_size : ∀ w, (sizeOf 59).run Tryz.prog w = .ok 3 w := fun _ => by kernel_rfl
theorem saidz_zero : ∀ w, (zeroValue 59).run Tryz.prog w = .ok (.agg #[.int .i64 0, .int .i64 0, .slice none 0 0]) w := fun _ => by kernel_rfl
theorem saidz_info : Tryz.prog.info? 59 = some ((Tryz.prog.info? 59).get (by kernel_rfl)) := by kernel_rfl
set_option maxRecDepth 100000 in
set_option maxHeartbeats 4000000 in
theorem delSd_any {w0 w : World} {R : HProp} (b off n cap i : Nat) (xs : List Value) (hi : i < n) (h1 : ∀ u ∈ xs, u.oneCell' = true) (h : Own w0 (SlAt 59 3 b off n cap xs * R) w) :
    Calls Tryz.prog 104 #[.slice (some ⟨b, off, none⟩) n cap, .int .i64 (i : Int), .int .i64 ((i : Int) + 1)] w fun e w' => e = .returned (.slice (some ⟨b, off, none⟩) (n - 1) cap) ∧ Own w0 (SlAt 59 3 b off (n - 1) cap (xs.take (i * 3) ++ xs.drop ((i + 1) * 3)) * R) w' := by
  obtain ⟨m, rfl⟩ : ∃ m, n = m + 1 := ⟨n - 1, by omega⟩
  rw [Nat.add_sub_cancel]
  obtain ⟨hb, x, a, ⟨p, q, d, rfl, ⟨cs, h2, h3, h4, h5, h6, h7⟩, hq⟩⟩ := h
  have ho : Own w0 (blk b (.cells cs 59 (0, 0)) * R) w := ⟨hb, _, a, p, q, d, rfl, h7, hq⟩
  clear hb a d h7 hq
  obtain ⟨info, hinfo, hzero, hsize⟩ : ∃ info, Tryz.prog.info? 59 = some info ∧ info.zero = some (.agg #[.int .i64 0, .int .i64 0, .slice none 0 0]) ∧ info.size = 3 := ⟨_, saidz_info, by kernel_rfl, by kernel_rfl⟩
  have h34 : m + 1 ≤ 9223372036854775807 := by unfold maxLen at h3; omega
  have h35 : cap ≤ 9223372036854775807 := by unfold maxLen at h3; omega
  obtain ⟨news, hnews⟩ : ∃ news, news = xs.drop ((i + 1) * 3) := ⟨_, rfl⟩
  have hlen : news.length = (m - i) * 3 := by rw [hnews, List.length_drop, h4]; omega
  have hone : ∀ u ∈ news, u.oneCell' = true := fun u hu => h1 u (by rw [hnews] at hu; exact List.mem_of_mem_drop hu)
  obtain ⟨A, hA, hsrc⟩ : ∃ A : Addr, (if cap = i + 1 then (⟨b, off, none⟩ : Addr) else ⟨b, off + (i + 1) * 3, none⟩) = A ∧ ∀ t u, news[t]? = some u → w.drew.cell? (A.add t) = some u := by
    by_cases hc : cap = i + 1
    · refine ⟨⟨b, off, none⟩, by rw [if_pos hc], fun t u hu => ?_⟩
      have h0 : news.length = 0 := by rw [hlen]; omega
      rw [List.length_eq_zero_iff.1 h0] at hu
      simp at hu
    · refine ⟨⟨b, off + (i + 1) * 3, none⟩, by rw [if_neg hc], fun t u hu => ?_⟩
      have ht : t < news.length := (List.getElem?_eq_some_iff.1 hu).1
      rw [Addr.add_lit, ho.drew.cell, show off + (i + 1) * 3 + t = off + ((i + 1) * 3 + t) by omega, h6 _ (by omega), ← List.getElem?_drop, ← hnews]
      exact hu
  have hsp : ∀ j, j < news.length → (w.drew.cell? ⟨b, off + i * 3 + j, none⟩).isSome = true ∧ w.drew.frozen? ⟨b, off + i * 3 + j, none⟩ = false := fun j hj => by
    refine ⟨?_, ho.drew.free _ _⟩
    rw [ho.drew.cell, Array.getElem?_eq_getElem (by omega)]; rfl
  obtain ⟨W1, hW1⟩ : ∃ W1, W1 = w.drew.setCells b (off + i * 3) news := ⟨_, rfl⟩
  have ho1 := Own.setCells news (off + i * 3) cs w.drew ho.drew
  rw [← hW1] at ho1
  have hcl : ∀ ty, (Builtin.clear_ #[66] ty #[.slice (some ⟨b, off + m * 3, none⟩) 1 (cap - m)]).run Tryz.prog W1 = .ok (.tuple #[]) (W1.setCells b (off + m * 3) [.int .i64 0, .int .i64 0, .slice none 0 0]) := fun ty =>
    run_clear_one W1 _ _ ty _ Tryz.underlying66 saidz_zero (by intro u hu; simp [Value.cells] at hu; rcases hu with rfl | rfl | rfl <;> rfl) b _ _ (fun j hj => by
      rw [ho1.cell, Array.getElem?_eq_getElem (by rw [setL_size]; have hj' : j < 3 := hj; omega)]; rfl) (fun j hj => ho1.free _ _)
  have ho2 := Own.setCells [.int .i64 0, .int .i64 0, .slice none 0 0] (off + m * 3) _ W1 ho1
  have hfin : ∀ w', w' = W1.setCells b (off + m * 3) [.int .i64 0, .int .i64 0, .slice none 0 0] → Own w0 (SlAt 59 3 b off m cap (xs.take (i * 3) ++ xs.drop ((i + 1) * 3)) * R) w' := by
    rintro w' rfl
    refine ho2.cons fun y hy => ⟨_, by omega, h3, ?_, by rw [setL_size, setL_size]; exact h5, ?_, hy⟩
    · rw [List.length_append, List.length_take, List.length_drop, h4]; omega
    · rw [hnews]
      exact del_cells hi h4 rfl (by omega) h6
  clear ho2
  have hi' : i + 1 ≤ m + 1 := by omega
  have hc1 := fun w => cut3_back (P := Tryz.prog) Tryz.underlying66 saidz_size (b := b) (off := off) (show i ≤ m + 1 by omega) h2 w
  have hc2 := fun w => cut3_front (P := Tryz.prog) Tryz.underlying66 saidz_size (b := b) (off := off) (cp := cap) (len := m + 1) (n := i) hi' w
  rw [hA] at hc2
  clear hA
  have HW1 := Lib.hid hW1
  clear hW1
  have HO := Lib.hid ho; have HO1 := Lib.hid ho1; have H1 := Lib.hid h1; have H3 := Lib.hid h3; have H4 := Lib.hid h4; have H5 := Lib.hid h5; have H6 := Lib.hid h6; have HNEWS := Lib.hid hnews; have HLEN := Lib.hid hlen; have HONE := Lib.hid hone; have HSRC := Lib.hid hsrc; have HSP := Lib.hid hsp; have HFIN := Lib.hid hfin; have HZERO := Lib.hid hzero; have HSIZE := Lib.hid hsize
  clear ho ho1 h1 h3 h4 h5 h6 hnews hlen hone hsrc hsp hfin hzero hsize
  go_enter Tryz.func104, Tryz.ntmps104
  go_upto_region 5 with fail
  refine wp_region_planH 7 [] [(true, 0), (true, 1), (true, 2), (true, 3), (true, 4), (true, 5), (false, 6)] [7] (fun wS => True) (by kernel_rfl) (by kernel_rfl) (trivial) ?_
  simp only [pickH, pick, List.getElem?_cons_succ, List.getElem?_cons_zero, Option.toList, Option.map_some, List.cons_append, List.nil_append]
  repeat (refine wpPure_step ?_ rfl ?_ ?_; rotate_left; (focus (intro _; first | with_reducible rfl | (go_simp; done) | (go_simp; with_reducible rfl) | rfl)); go_simp)
  refine wpPure_nil ?_
  repeat (refine wpMix_read ?_ rfl ?_ ?_; rotate_left; (focus (intro _ hS; obtain _ := hS; first | with_reducible rfl | (go_simp; done) | (go_simp; with_reducible rfl) | rfl)); go_simp)
  refine wpMix_write (fun K hK => ?_)
  refine step_append_room rfl (.tmp 22) (.tmp 25) 66 rfl 59 info 3 Tryz.underlying66 hinfo HSIZE.out b off i cap (by rfl) A (m - i) (cap - (i + 1)) news (by rfl) HLEN.out HSRC.out HONE.out (by omega) HSP.out ?_
  rw [← HW1.out, show i + (m - i) = m by omega]
  clear HW1
  refine hK _ _ ⟨trivial, ?_⟩
  clear hK K
  go_simp
  refine wpMix_nil ?_
  go_wp2_with fail
  refine NoPanic.normal ?_
  have hm1 : m + 1 - m = 1 := by omega
  have hmc : ¬ cap = m := by omega
  go_wp2_with fail
  go_ret
  exact ⟨rfl, HFIN.out _ rfl⟩
end Go.Proofs.YtdfjbnfdknpahaaGreatDoor
