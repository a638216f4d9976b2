/- strings.Builder, owned: WriteString, String. -/
import Derived.Test.YtdfjbnfdknpahaaGreatDoorMRunAnswers23
import Derived.Test.YtdfjbnfdknpahaaGreatDoorMRunAnswers3
import Derived.Test.YtdfjbnfdknpahaaGreatDoorMRunAnswers0
import Derived.RangeFuncKeeps
import Derived.RangeFuncLeaves
import Derived.RangeFuncCalls
import Derived.RangeFuncBound
import Derived.Test.YtdfjbnfdknpahaaGreatDoorMRunAnswers19
import Derived.Test.YtdfjbnfdknpahaaGreatDoorMRunAnswers13
import Derived.Test.YtdfjbnfdknpahaaGreatDoorMRunAnswers7
import Derived.OwnWalkIn
import Derived.TacticsInMore
import Derived.OrdersIn
import Derived.TacticsIn
namespace Go.Proofs.YtdfjbnfdknpahaaGreatDoor
set_option linter.unusedVariables false
set_option linter.unusedSimpArgs false
open Go.RowKit
/-- The slice value v owns its row of bytes xs. -/
def RowB (v : Value) (xs : List Value) : HProp := fun h =>
  (v = .slice none 0 0 ∧ xs = [] ∧ h = hnil) ∨
  ∃ g cap cur, v = .slice (some ⟨g, 0, none⟩) xs.length cap ∧ (xs.length ≤ cap ∧ 0 < cap) ∧ cap ≤ maxLen ∧ cur.size = cap * 1 ∧ cur.toList.take (xs.length * 1) = xs ∧ h = hone g (.cells cur 5 (0, 0))
theorem Own.rowB {w0 w : World} {v : Value} {xs : List Value} {R : HProp} (h : Own w0 (RowB v xs * R) w) :
    (v = .slice none 0 0 ∧ xs = [] ∧ Own w0 R w) ∨
    ∃ g cap cur, v = .slice (some ⟨g, 0, none⟩) xs.length cap ∧ (xs.length ≤ cap ∧ 0 < cap) ∧ cap ≤ maxLen ∧ cur.size = cap * 1 ∧ cur.toList.take (xs.length * 1) = xs ∧ Own w0 (blk g (.cells cur 5 (0, 0)) * R) w := by
  obtain ⟨hb, x, a, ⟨p, q, d, rfl, hp, hq⟩⟩ := h
  rcases hp with ⟨h1, h3, rfl⟩ | ⟨g, cap, cur, h1, h2, h3, h4, h5, rfl⟩
  · exact .inl ⟨h1, h3, hb, _, a, hq⟩
  · exact .inr ⟨g, cap, cur, h1, h2, h3, h4, h5, hb, _, a, _, _, d, rfl, rfl, hq⟩
theorem RowB_nil : RowB (.slice none 0 0) [] = emp := by
  funext h; apply propext; constructor
  · rintro (⟨_, _, h⟩ | ⟨g, cap, cur, h, _⟩)
    · exact h
    · cases h
  · intro h; exact .inl ⟨rfl, rfl, h⟩
theorem Own.rowB_mk {w0 w : World} {g cap : Nat} {cur : Array Value} {xs : List Value} {R : HProp} (h1 : xs.length ≤ cap ∧ 0 < cap) (h2 : cap ≤ maxLen) (h3 : cur.size = cap * 1) (h4 : cur.toList.take (xs.length * 1) = xs)
    (h : Own w0 (blk g (.cells cur 5 (0, 0)) * R) w) : Own w0 (RowB (.slice (some ⟨g, 0, none⟩) xs.length cap) xs * R) w :=
  h.cons fun _ hh => .inr ⟨g, cap, cur, rfl, h1, h2, h3, h4, hh⟩
theorem Own.newAt {w0 w w' : World} {g : Nat} {o : Obj} {R : HProp} (h : Own w0 R w) (hg : w.grownBy w' none) (hle : w.heap.size ≤ g) (hb : w'.heap[g]? = some o) : Own w0 (blk g o * R) w' := by
  obtain ⟨hbel, x, a, hx⟩ := h
  have hlt : ∀ k u, x k = some u → k < w.heap.size := fun k u hk => by
    rcases Nat.lt_or_ge k w.heap.size with h | h
    · exact h
    · have := (a k u hk).2; rw [Array.getElem?_eq_none h] at this; cases this
  refine ⟨hbel.trans ⟨hg.os, hg.tape, hg.output, hg.size, fun k hk => hg.block k (Nat.lt_of_lt_of_le hk hbel.size) (by simp)⟩, hjoin (hone g o) x, fun k u hk => ?_, hone g o, x, fun k => ?_, rfl, rfl, hx⟩
  · unfold hjoin hone at hk
    by_cases hkb : k = g
    · subst hkb; simp at hk; subst hk; exact ⟨Nat.le_trans hbel.size hle, hb⟩
    · simp [hkb] at hk
      exact ⟨(a k u hk).1, by rw [hg.block k (hlt k u hk) (by simp)]; exact (a k u hk).2⟩
  · unfold hone
    by_cases hkb : k = g
    · subst hkb
      right
      cases hxk : x k with
      | none => rfl
      | some u => exact absurd (hlt _ _ hxk) (by omega)
    · simp [hkb]
theorem Own.still {w0 w w' : World} {R : HProp} (h : Own w0 R w) (hg : w.grownBy w' none) : Own w0 R w' := by
  obtain ⟨hbel, x, a, hx⟩ := h
  refine ⟨hbel.trans ⟨hg.os, hg.tape, hg.output, hg.size, fun k hk => hg.block k (Nat.lt_of_lt_of_le hk hbel.size) (by simp)⟩, x, fun k u hk => ?_, hx⟩
  have h1 := a k u hk
  refine ⟨h1.1, ?_⟩
  rw [hg.block k ?_ (by simp)]
  · exact h1.2
  · rcases Nat.lt_or_ge k w.heap.size with h | h
    · exact h
    · have := h1.2; rw [Array.getElem?_eq_none h] at this; cases this
theorem run_append_str {w0 w : World} {R : HProp} {ty : TypeId} (v : Value) (xs : List Value) (h : Own w0 (RowB v xs * R) w) (s : ByteArray) (hs : xs.length + s.size ≤ 140737488355328) :
    ∃ v' w', (Builtin.append_ #[40, 9] ty #[v, .string s]).run Tryz.prog w = .ok v' w' ∧ Own w0 (RowB v' (xs ++ Lib.strCells s) * R) w' := by
  obtain ⟨i0, hi, hz0, hz1, hz2⟩ := info_parts bld_byte
  have hsl : (xs ++ Lib.strCells s).length = xs.length + s.size := by rw [List.length_append, Lib.strCells_length]
  rcases h.rowB with ⟨rfl, rfl, ho⟩ | ⟨g, cap, cur, rfl, ⟨h1, hcpos⟩, h2, h3, h4, ho⟩
  · obtain ⟨v', w', hr, hown, hg, hnn⟩ := Lib.run_append_own_string (P := Tryz.prog) w w.heap.size 40 9 ty 5 i0 Tryz.underlying40 Tryz.underlying9 hi hz0 hz1 hz2 (.slice none 0 0) 0 [] (World.ownsRow_nil w _ _ _) s (by unfold maxLen; simp at hs; omega) (by simpa using hs) (Nat.le_refl _)
    refine ⟨v', w', hr, ?_⟩
    rcases hown.2 with ⟨rfl, hz⟩ | ⟨g, cap, cur, rfl, hbg, hg2, hnc, hcm, hcs, htk⟩
    · have hnil : Lib.strCells s = [] := List.eq_nil_of_length_eq_zero (by rw [Lib.strCells_length]; omega)
      rw [List.nil_append, hnil, RowB_nil, emp_star]
      exact ho.still hg
    · have hh := ho.newAt hg hbg hg2
      have hsp : 0 < s.size := by
        rcases Nat.eq_zero_or_pos s.size with h9 | h9
        · have := hnn.2 ⟨rfl, h9⟩; cases this
        · exact h9
      simp only [List.length_nil, Nat.zero_add, List.nil_append] at hsl hnc htk ⊢
      rw [← hsl] at hnc htk ⊢
      exact Own.rowB_mk ⟨hnc, by omega⟩ hcm hcs htk hh
  · have hb := ho.blk_at.1
    have hown0 : w.ownsRow 0 5 1 (.slice (some ⟨g, 0, none⟩) xs.length cap) xs.length xs := ⟨by simp, .inr ⟨g, cap, cur, rfl, Nat.zero_le _, hb, h1, h2, h3, h4⟩⟩
    obtain ⟨v', w', hr, hown, hg, _⟩ := Lib.run_append_own_string (P := Tryz.prog) w 0 40 9 ty 5 i0 Tryz.underlying40 Tryz.underlying9 hi hz0 hz1 hz2 _ xs.length xs hown0 s (by unfold maxLen; omega) hs (Nat.zero_le _)
    refine ⟨v', w', hr, ?_⟩
    by_cases hroom : xs.length + s.size ≤ cap
    · have hr2 := Lib.run_append_room_string (P := Tryz.prog) w 40 9 ty 5 i0 Tryz.underlying40 Tryz.underlying9 hi hz1 g xs.length cap cur hb s hroom (by omega)
      rw [hr] at hr2
      injection hr2 with e1 e2
      subst e1
      rcases hown.2 with ⟨h9, _⟩ | ⟨g', cap', cur', h9, hbg, hg2, hnc, hcm, hcs, htk⟩
      · cases h9
      · cases h9
        have hh := ho.set hg.os hg.tape hg.output hg.size (fun k hk hne => hg.block k hk (fun e => hne (by simp [Value.ownBlock] at e; omega))) hg2
        rw [← hsl] at hnc htk ⊢
        exact Own.rowB_mk ⟨hnc, by omega⟩ hcm hcs htk hh
    · have holds : ∀ j u, xs[j]? = some u → w.cell? ((⟨g, 0, none⟩ : Addr).add j) = some u := hown0.cells (g := g) rfl
      have hr2 := Lib.run_append_grow_string (P := Tryz.prog) w 40 9 ty 5 i0 (.int .u8 0) Tryz.underlying40 Tryz.underlying9 hi hz0 ⟨g, 0, none⟩ xs.length cap xs (by rw [hz1]; simp) holds s (by omega) (by omega) (by rw [hz2]; exact growslice_fits (by omega) (by omega))
      rw [hr] at hr2
      injection hr2 with e1 e2
      rcases hown.2 with ⟨h9, _⟩ | ⟨g', cap', cur', h9, hbg, hg2, hnc, hcm, hcs, htk⟩
      · rw [h9] at e1; cases e1
      · rw [e1] at h9
        cases h9
        rw [e1]
        have hg3 : w.grownBy w' none := by rw [e2]; exact ⟨rfl, rfl, rfl, by simp, fun k hk _ => Below.heap_alloc w.drew _ _ hk⟩
        have hh := ho.drop.newAt hg3 (Nat.le_refl _) hg2
        rw [← hsl] at hnc hcm hcs htk ⊢
        exact Own.rowB_mk ⟨hnc, by omega⟩ hcm hcs htk hh
theorem wpList_appB {ops : Array Oper} {rest : List Oper} {o : Oper} {a : Act} {Q : Exit → Act → World → Prop} {w0 w : World} {R : HProp} (hgd : o.guard = none) (sl x : Operand)
    (ho : o.op = .call { callee := .builtin .append, args := #[sl, x], argTypes := #[40, 9] }) {v : Value} (hs : a.eval sl = v) {s : ByteArray} (hx : a.eval x = .string s)
    {xs : List Value} (hown : Own w0 (RowB v xs * R) w) (hlen : xs.length + s.size ≤ 140737488355328)
    (h : ∀ v' w', Own w0 (RowB v' (xs ++ Lib.strCells s) * R) w' → wpList Tryz.prog ops Q rest (a.put o.dst v') w') : wpList Tryz.prog ops Q (o :: rest) a w := by
  refine wpList_plain hgd fun K hK => ?_
  obtain ⟨v', w', hr, h2⟩ := run_append_str (ty := o.type) v xs hown s hlen
  unfold Oper.wp execOp
  simp only [ho, resolve, invoke, builtin, Sem.run_bind, Sem.run_pure, Result.andThen_ok, List.map_toArray, List.map_cons, List.map_nil, hs, hx, hr]
  exact hK _ _ (h v' w' h2)
theorem Own.rowB_shape {w0 w : World} {v : Value} {xs : List Value} {R : HProp} (h : Own w0 (RowB v xs * R) w) : ∃ ao cap, v = .slice ao xs.length cap ∧ xs.length ≤ cap := by
  rcases h.rowB with ⟨rfl, rfl, _⟩ | ⟨g, cap, cur, rfl, h1, _⟩
  · exact ⟨_, _, rfl, Nat.le_refl _⟩
  · exact ⟨_, _, rfl, h1.1⟩
theorem Own.modify {w0 w : World} {g : Nat} {o : Obj} {R : HProp} (h : Own w0 (blk g o * R) w) (f : Obj → Obj) : Own w0 (blk g (f o) * R) { w with heap := w.heap.modify g f } :=
  h.set rfl rfl rfl (by simp) (fun k _ hk => by simp [Array.getElem?_modify, Ne.symm hk]) (by show (w.heap.modify g f)[g]? = _; rw [Array.getElem?_modify, if_pos rfl, h.blk_at.1]; rfl)
theorem Own.freeze {w0 w : World} {g n : Nat} {o : Obj} {R : HProp} (h : Own w0 (blk g o * R) w) : Own w0 R (w.freeze ⟨g, 0, none⟩ n) := by
  unfold World.freeze
  split
  · exact h.drop
  · exact (h.modify _).drop
/-- The builder in block b holds the bytes l. -/
def BuO (b : Nat) (l : List UInt8) : HProp := hex fun q : Value × Value => pur (q.1 = .pointer none ∨ q.1 = .pointer (some ⟨b, 0, none⟩)) * (blk b (.cells #[q.1, q.2] 42 (0, 0)) * RowB q.2 (Lib.byteCells l))
theorem Own.bu {w0 w : World} {b : Nat} {l : List UInt8} {R : HProp} (h : Own w0 (BuO b l * R) w) : ∃ p v, (p = .pointer none ∨ p = .pointer (some ⟨b, 0, none⟩)) ∧ Own w0 (blk b (.cells #[p, v] 42 (0, 0)) * (RowB v (Lib.byteCells l) * R)) w := by
  obtain ⟨⟨p, v⟩, h1⟩ := Own.ex h
  have h2 : Own w0 (pur (p = .pointer none ∨ p = .pointer (some ⟨b, 0, none⟩)) * (blk b (.cells #[p, v] 42 (0, 0)) * (RowB v (Lib.byteCells l) * R))) w := h1.perm (by simp only [star_assoc])
  obtain ⟨h3, h4⟩ := h2.pur_out
  exact ⟨p, v, h3, h4⟩
theorem Own.bu_mk {w0 w : World} {b : Nat} {l : List UInt8} {v : Value} {R : HProp} (h : Own w0 (blk b (.cells #[.pointer (some ⟨b, 0, none⟩), v] 42 (0, 0)) * (RowB v (Lib.byteCells l) * R)) w) : Own w0 (BuO b l * R) w := by
  refine Own.ex_mk (.pointer (some ⟨b, 0, none⟩), v) ?_
  have h2 := Own.pur_mk (φ := (Value.pointer (some ⟨b, 0, none⟩) = .pointer none ∨ Value.pointer (some ⟨b, 0, none⟩) = .pointer (some ⟨b, 0, none⟩))) (.inr rfl) h
  exact h2.perm (by simp only [star_assoc])
theorem Own.bu_new {w0 w : World} {R : HProp} (h : Own w0 R w) : Own w0 (BuO w.heap.size [] * R) (w.alloc (.cells #[.pointer none, .slice none 0 0] 42)) := by
  have h1 := h.alloc (.cells #[.pointer none, .slice none 0 0] 42)
  refine Own.ex_mk (.pointer none, .slice none 0 0) ?_
  have h2 := Own.pur_mk (φ := (Value.pointer none = .pointer none ∨ Value.pointer none = .pointer (some ⟨w.heap.size, 0, none⟩))) (.inl rfl) h1
  refine h2.perm ?_
  show _ = pur _ * (blk _ _ * RowB (.slice none 0 0) []) * R
  rw [RowB_nil, star_emp, star_assoc]
theorem bytes_str (s : List UInt8) : Lib.strCells (tx s) = Lib.byteCells s := by
  unfold Lib.strCells Lib.byteCells
  rw [tx_list]
  first | done | rfl | simp
set_option maxRecDepth 100000 in
set_option maxHeartbeats 4000000 in
theorem buCopy_any {w0 w : World} {R : HProp} (b : Nat) (p v : Value) (hp : p = .pointer none ∨ p = .pointer (some ⟨b, 0, none⟩)) (h : Own w0 (blk b (.cells #[p, v] 42 (0, 0)) * R) w) :
    Calls Tryz.prog 36 #[.pointer (some ⟨b, 0, none⟩)] w fun e w' => e = .returned (.tuple #[]) ∧ Own w0 (blk b (.cells #[.pointer (some ⟨b, 0, none⟩), v] 42 (0, 0)) * R) w' := by
  rcases hp with rfl | rfl
  · refine (bCopy_fresh b ((h.cell 0).trans rfl) (by simp [World.shape?, h.blk_at.1]) (h.free 0 none)).mono ?_
    rintro e w' ⟨rfl, rfl⟩
    exact ⟨rfl, h.setCell (i := 0)⟩
  · refine (bCopy_used b ((h.cell 0).trans rfl)).mono ?_
    rintro e w' ⟨rfl, rfl⟩
    exact ⟨rfl, h⟩
set_option maxRecDepth 100000 in
set_option maxHeartbeats 4000000 in
theorem buWrite_any {w0 w : World} {R : HProp} (b : Nat) (l s : List UInt8) (hlen : l.length + s.length ≤ 140737488355328) (h : Own w0 (BuO b l * R) w) :
    Calls Tryz.prog 13 #[.pointer (some ⟨b, 0, none⟩), .string (tx s)] w fun e w' => ∃ v, e = .returned (.tuple #[v, .nilIface]) ∧ Own w0 (BuO b (l ++ s) * R) w' := by
  obtain ⟨p, v, hp, ho⟩ := h.bu
  have hcp := buCopy_any b p v hp ho
  have hbl : (Lib.byteCells l).length = l.length := Lib.byteCells_length ..
  have hln : ∀ (ty : TypeId) (w : World), (Builtin.len_ #[9] ty #[.string (tx s)]).run Tryz.prog w = .ok (.int .i64 (s.length : Int)) w := fun ty w => by
    rw [run_len_string w _ _ _ Tryz.underlying9, tx_size]; rfl
  have hsc : Lib.byteCells l ++ Lib.strCells (tx s) = Lib.byteCells (l ++ s) := by rw [bytes_str, ← Lib.byteCells_append]
  have hsz := tx_size s
  obtain ⟨S, hS⟩ : ∃ S, S = tx s := ⟨_, rfl⟩
  rw [← hS] at hln hsc hsz ⊢
  obtain ⟨n, hn⟩ : ∃ n, n = s.length := ⟨_, rfl⟩
  rw [← hn] at hln
  have H := Lib.hid h; have HO := Lib.hid ho; have HCP := Lib.hid hcp; have HS := Lib.hid hS; have HSC := Lib.hid hsc; have HBL := Lib.hid hbl; have HN := Lib.hid hn; have HP := Lib.hid hp; have HLEN := Lib.hid hlen
  clear h ho hcp hS hsc hbl hn hp hlen
  go_enter Tryz.func13, Tryz.ntmps13
  go_wp2_with fail
  refine HCP.out.mono ?_
  rintro e w1 ⟨rfl, ho1⟩
  have c0 : w1.cell? ⟨b, 0, none⟩ = some (.pointer (some ⟨b, 0, none⟩)) := (ho1.cell 0).trans rfl
  have c1 : w1.cell? ⟨b, 1, none⟩ = some v := (ho1.cell 1).trans rfl
  have ho2 : Own w0 (RowB v (Lib.byteCells l) * (blk b (.cells #[.pointer (some ⟨b, 0, none⟩), v] 42 (0, 0)) * R)) w1 := ho1.perm (by ac_rfl)
  have HO2 := Lib.hid ho2
  have hll : (Lib.byteCells l).length + S.size ≤ 140737488355328 := by rw [HBL.out, hsz]; exact HLEN.out
  have HLL := Lib.hid hll
  clear ho1 ho2 hll
  go_wp2_with (at_builtin; refine wpList_appB rfl _ _ rfl rfl rfl HO2.out HLL.out ?_; intro v' w2 ho3; rw [HSC.out] at ho3; obtain ⟨ao, cp, rfl, _⟩ := Own.rowB_shape ho3; have HO3 : Hid (Own w0 (blk b (.cells #[.pointer (some ⟨b, 0, none⟩), v] 42 (0, 0)) * (RowB (.slice ao (Lib.byteCells (l ++ s)).length cp) (Lib.byteCells (l ++ s)) * R)) w2) := Lib.hid (ho3.perm (by ac_rfl)); have d0 : w2.cell? ⟨b, 0, none⟩ = some (.pointer (some ⟨b, 0, none⟩)) := (HO3.out.cell 0).trans rfl; have d1 : w2.cell? ⟨b, 1, none⟩ = some v := (HO3.out.cell 1).trans rfl; have f1 := HO3.out.free 1 none; have HO4 : Hid (Own w0 (BuO b (l ++ s) * R) (w2.setCell ⟨b, 1, none⟩ (.slice ao (Lib.byteCells (l ++ s)).length cp))) := Lib.hid (Own.bu_mk (HO3.out.setCell (i := 1) (v := .slice ao (Lib.byteCells (l ++ s)).length cp))); clear ho3 HO3)
  go_ret2
  first | exact ⟨_, rfl, HO4.out⟩ | exact ⟨⟨_, rfl⟩, HO4.out⟩
set_option maxRecDepth 100000 in
set_option maxHeartbeats 4000000 in
theorem buString_any {w0 w : World} {R : HProp} (b : Nat) (l : List UInt8) (h : Own w0 (BuO b l * R) w) :
    Calls Tryz.prog 16 #[.pointer (some ⟨b, 0, none⟩)] w fun e w' => e = .returned (.string (tx l)) ∧ Own w0 R w' := by
  obtain ⟨p, v, hp, ho⟩ := h.bu
  have hbl : (Lib.byteCells l).length = l.length := Lib.byteCells_length ..
  have hbd : Own w0 R w.drew := h.drop.drew
  have mixed : Tryz.prog.follows Departure.mixedOrders = true := by kernel_rfl
  have hUS0 : ∀ (W : World) (q : Option Addr), (Builtin.unsafeString_ #[108, 3] 9 #[.pointer q, .int .i64 0]).run Tryz.prog W = .ok (.string .empty) W := fun W q => Lib.run_unsafeString_none W _ _ _ q
  have ho2 : Own w0 (RowB v (Lib.byteCells l) * (blk b (.cells #[p, v] 42 (0, 0)) * R)) w := ho.perm (by ac_rfl)
  have c1 : w.drew.cell? ⟨b, 1, none⟩ = some v := (ho.drew.cell 1).trans rfl
  rcases ho2.rowB with ⟨rfl, hn, _⟩ | ⟨g, cap, cur, rfl, ⟨h1, hcpos⟩, h2, h3, h4, ho3⟩
  · have hl : l = [] := List.eq_nil_of_length_eq_zero (by rw [← hbl, hn]; rfl)
    subst hl
    have hSD : (Builtin.unsafeSliceData_ #[40] 108 #[.slice none 0 0]).run Tryz.prog w.drew = .ok (.pointer none) w.drew := rfl
    have H := Lib.hid h; have HO := Lib.hid ho; have HO2 := Lib.hid ho2; have HBD := Lib.hid hbd
    clear h ho ho2 hbd
    go_enter Tryz.func16, Tryz.ntmps16
    go_wp2
    go_region_o
    all_goals (go_wp2; go_ret; exact ⟨rfl, HBD.out⟩)
  · rw [hbl] at c1 h1 h4
    have hg := ho3.drew.blk_at.1
    have hge := ho3.blk_at.2
    have hown : w.drew.ownsRow 0 5 1 (.slice (some ⟨g, 0, none⟩) l.length cap) l.length (Lib.byteCells l) := ⟨by rw [hbl]; simp, .inr ⟨g, cap, cur, rfl, Nat.zero_le _, hg, h1, h2, h3, h4⟩⟩
    by_cases h0 : l = []
    · subst h0
      have hSD : (Builtin.unsafeSliceData_ #[40] 108 #[.slice (some ⟨g, 0, none⟩) 0 cap]).run Tryz.prog w.drew = .ok (.pointer (some ⟨g, 0, none⟩)) w.drew :=
        Lib.run_unsafeSliceData_row _ _ _ _ _ _ (by omega)
      have c1' : w.drew.cell? ⟨b, 1, none⟩ = some (.slice (some ⟨g, 0, none⟩) 0 cap) := c1
      clear c1
      have H := Lib.hid h; have HO := Lib.hid ho; have HO2 := Lib.hid ho2; have HBD := Lib.hid hbd; have HO3 := Lib.hid ho3; have HOWN := Lib.hid hown; have HG := Lib.hid hg
      clear h ho ho2 hbd ho3 hown hg
      go_enter Tryz.func16, Tryz.ntmps16
      go_wp2
      go_region_o
      all_goals (go_wp2; go_ret; exact ⟨rfl, HBD.out⟩)
    · have hl0 : l.length ≠ 0 := by simpa using h0
      have hSD : (Builtin.unsafeSliceData_ #[40] 108 #[.slice (some ⟨g, 0, none⟩) l.length cap]).run Tryz.prog w.drew = .ok (.pointer (some ⟨g, 0, none⟩)) w.drew :=
        Lib.run_unsafeSliceData_row _ _ _ _ _ _ (by omega)
      have hUS : (Builtin.unsafeString_ #[108, 3] 9 #[.pointer (some ⟨g, 0, none⟩), .int .i64 l.length]).run Tryz.prog w.drew = .ok (.string ⟨l.toArray⟩) (w.drew.freeze ⟨g, 0, none⟩ l.length) := by
        refine Lib.run_unsafeString_row w.drew 108 3 9 5 Tryz.underlying108 bld_one g cur.size (by simp [World.shape?, hg]) l h0 (by omega) (by unfold maxLen at h2; omega) ?_
        intro j x hx
        exact hown.cells (g := g) rfl j (.int .u8 x.toNat) (by simp [Lib.byteCells, hx])
      have hfz : Own w0 R (w.drew.freeze ⟨g, 0, none⟩ l.length) := ho3.drew.freeze.drop
      clear hUS0
      have H := Lib.hid h; have HO := Lib.hid ho; have HO2 := Lib.hid ho2; have HBD := Lib.hid hbd; have HO3 := Lib.hid ho3; have HOWN := Lib.hid hown; have HG := Lib.hid hg; have HFZ := Lib.hid hfz
      clear h ho ho2 hbd ho3 hown hg hfz
      go_enter Tryz.func16, Tryz.ntmps16
      go_wp2
      go_region_o
      all_goals (go_wp2; go_ret; exact ⟨rfl, HFZ.out⟩)
end Go.Proofs.YtdfjbnfdknpahaaGreatDoor
/- A range over a function whose body never leaves: what is owned goes through the rounds. -/
namespace Go.Proofs.YtdfjbnfdknpahaaGreatDoor
set_option linter.unusedVariables false
set_option linter.unusedSimpArgs false
open Go.RowKit

def rgPost (w0 : World) (H : HProp) : Exit → Act → World → Prop
  | .normal, _, W' => Own w0 H W'
  | _, _, _ => False

theorem Own.putObj {w0 w : World} {b : Nat} {o o' : Obj} {R : HProp} (h : Own w0 (blk b o * R) w) : Own w0 (blk b o' * R) (w.putObj b o') :=
  h.set rfl rfl rfl (by simp) (fun k _ hk => World.putObj_heap_other hk) (World.putObj_heap_same h.lt)

/-- The law: `Z` is what the iterator owns ahead of the loop, `Ze` behind it; `I pre` is what the body owns when `pre` has come. -/
theorem wp_rangeOwn {α : Type} {P : Program} {g : Operand} {ps : Array Tmp} {assign body : Code} {Q : Exit → Act → World → Prop} {a : Act} {w w0 : World}
    {gf : Nat} {lb : Array Value} (hg : a.eval g = .func (.func gf) #[] lb) (eg : ∀ args w, (callFunc gf args).run P w = .ok (.enter gf args) w)
    (enc : α → Value) (Z Ze : HProp) (I : List α → HProp) (xs : List α) (h0 : Own w0 (Z * I []) w) (hps : ps.size = 1)
    (hseq : ∀ (l : Nat) (J : List α → HProp) (W : World),
      (∀ (U : HProp) (pre : List α) (x : α) (W1 : World), pre ++ [x] <+: xs → Own w0 (U * J pre) W1 → YieldAt Fence.wide 7 P l #[enc x] W1 fun e W' => e = .returned (.bool true) ∧ Own w0 (U * J (pre ++ [x])) W') →
      Own w0 (Z * J []) W → CallsIn Fence.wide 8 P gf (#[.func (.yield l) #[] #[]] ++ lb) W fun e W' => (∃ v, e = .returned v) ∧ Own w0 (Ze * J xs) W')
    (a₁ : α → Act)
    (hassign : ∀ (l : Nat) (x : α) (W : World) (K : Act → World → Prop), K (a₁ x) W →
      assign.wpIn (Fence.wide.inRound l) 7 P (Exit.then K (fun _ _ _ => False)) { tmps := (ps.zip #[enc x]).foldl (fun t (p, v) => t.setIfInBounds p v) a.tmps, defers := [] } W)
    (hbody : ∀ (l : Nat) (U : HProp) (pre : List α) (x : α) (W : World), pre ++ [x] <+: xs → Own w0 (U * I pre) W → body.wpIn (Fence.wide.inRound l) 7 P (rgPost w0 (U * I (pre ++ [x]))) (a₁ x) W)
    (hdone : ∀ (D : Nat) (W : World), Own w0 (blk D (.deferred (some [])) * (Ze * I xs)) W → Q .normal { a with defers := { target := .collected D, args := #[] } :: a.defers } W) :
    (Code.rangeFunc g ps assign body).wp P Q a w := by
  refine (wpIn_wide (n := 9)).1 ?_
  refine wpIn_rangeFunc ?_
  intro fn hfn
  rw [show Fence.wide.round = none from rfl]
  obtain ⟨rec, hrec⟩ : ∃ rec : LoopState → Option Code → Loop, rec = fun st pe => { state := st, pending := pe, fn, tmps := a.tmps, params := ps, assign, body, defers := w.heap.size } := ⟨_, rfl⟩
  obtain ⟨W1, hW1⟩ : ∃ W1, (w.alloc (.deferred (some []))).alloc (.loop (rec .ready none)) = W1 := ⟨_, rfl⟩
  obtain ⟨D, hD⟩ : ∃ D, w.heap.size = D := ⟨_, rfl⟩
  have hO1 : Own w0 (Z * (blk (D + 1) (.loop (rec .ready none)) * (blk D (.deferred (some [])) * I []))) W1 := by
    rw [← hW1, ← hD]
    have := (h0.alloc (.deferred (some []))).alloc (.loop (rec .ready none))
    rw [World.size_alloc] at this
    exact this.perm (by ac_rfl)
  refine ⟨w.heap.size + 1, [{ target := .collected w.heap.size, args := #[] }], W1, { target := .fn (.func gf) lb, args := #[.func (.yield (w.heap.size + 1)) #[] #[]] }, W1, gf,
    #[.func (.yield (w.heap.size + 1)) #[] #[]] ++ lb, W1, ?_, ?_, ?_, ?_, fun _ => by decide, ?_⟩
  · rw [← hW1, hrec]; exact run_enterLoop_outer _ _ _ _ _
  · simp only [resolve, hg]
    simp [go_sem]
  · intro f' _; trivial
  · simp [invoke, go_sem, eg]
  · rw [hD]
    refine (hseq (D + 1) (fun pre => blk (D + 1) (.loop (rec .ready none)) * (blk D (.deferred (some [])) * I pre)) W1 ?_ hO1).mono ?_
    · intro U pre x W hpre hO
      have hO' : Own w0 (blk (D + 1) (.loop (rec .ready none)) * (U * (blk D (.deferred (some [])) * I pre))) W := hO.perm (by ac_rfl)
      have hl := hO'.blk_at.1
      have hy := run_yield (P := P) (args := #[enc x]) hl (by rw [hrec]; exact hps.symm)
      rw [hrec] at hy
      refine ⟨fn, _, assign, body, hy, roundIn_of_wpIn hfn (hassign _ x W _ ⟨_, run_beginRound hl (by rw [hrec]), ?_⟩)⟩
      have hO2 := hO'.putObj (o' := .loop { rec .ready none with state := .busy })
      refine wpIn_mono (hbody (D + 1) (blk (D + 1) (.loop { rec .ready none with state := .busy }) * (U * blk D (.deferred (some [])))) pre x _ hpre (hO2.perm (by ac_rfl))) ?_
      rintro e a3 W3 hp
      cases e with
      | normal =>
        have hO3 : Own w0 (blk (D + 1) (.loop { rec .ready none with state := .busy }) * (U * (blk D (.deferred (some [])) * I (pre ++ [x])))) W3 := Own.perm hp (by ac_rfl)
        have hl3 := hO3.blk_at.1
        have hr := run_endRound (P := P) none hl3
        have hO4 := hO3.putObj (o' := .loop (rec .ready none))
        rw [hrec] at hr hO4
        exact ⟨_, _, hr, rfl, by rw [hrec]; exact hO4.perm (by ac_rfl)⟩
      | ret => exact hp.elim
      | exit id => exact hp.elim
      | goto t => exact hp.elim
      | panic ch => exact hp.elim
      | outgrown => exact hp.elim
    · rintro e W2 ⟨⟨v, rfl⟩, hO⟩
      have hO' : Own w0 (blk (D + 1) (.loop (rec .ready none)) * (blk D (.deferred (some [])) * (Ze * I xs))) W2 := hO.perm (by ac_rfl)
      have hl := hO'.blk_at.1
      have hr := run_endLoop (P := P) hl (by rw [hrec]; simp)
      rw [hrec] at hr
      exact ⟨none, _, hr, by rw [hD]; exact hdone D _ (hO'.putObj.drop)⟩
end Go.Proofs.YtdfjbnfdknpahaaGreatDoor
/- strings.Lines: its iterator. -/
namespace Go.Proofs.YtdfjbnfdknpahaaGreatDoor
set_option linter.unusedVariables false
set_option linter.unusedSimpArgs false
open Go.RowKit
attribute [local go_sem] Oper.semAt_some
abbrev TbO (b : Nat) (t : List UInt8) : HProp := blk b (.cells #[.string (tx t)] 9 (0, 0))
def leftT (b : Nat) (w : World) : Nat := match w.cell? ⟨b, 0, none⟩ with
  | some (.string s) => s.size
  | _ => 0
theorem Own.tb {w0 w : World} {b : Nat} {t : List UInt8} {R : HProp} (h : Own w0 (TbO b t * R) w) : w.cell? ⟨b, 0, none⟩ = some (.string (tx t)) := (h.cell 0).trans rfl
theorem leftT_own {w0 w : World} {b : Nat} {t : List UInt8} {R : HProp} (h : Own w0 (TbO b t * R) w) : leftT b w = t.length := by
  unfold leftT; rw [h.tb]; exact tx_size t
set_option maxHeartbeats 4000000 in
set_option maxRecDepth 1000000 in
theorem lines_any {w0 w : World} (l b : Nat) (J : List (List UInt8) → HProp) (t : List UInt8) (ht : t.length ≤ 90000)
    (hY : ∀ (U : HProp) (pre : List (List UInt8)) (x : List UInt8) (W1 : World), pre ++ [x] <+: rawL t → Own w0 (U * J pre) W1 → YieldAt Fence.wide 7 Tryz.prog l #[.string (tx x)] W1 fun e W' => e = .returned (.bool true) ∧ Own w0 (U * J (pre ++ [x])) W')
    (h : Own w0 (TbO b t * J []) w) : Calls Tryz.prog 34 #[.func (.yield l) #[] #[], .pointer (some ⟨b, 0, none⟩)] w fun e w' => (∃ v, e = .returned v) ∧ Own w0 (TbO b [] * J (rawL t)) w' := by
  have H := Lib.hid h; have HY := Lib.hid hY
  clear h hY
  go_enter Tryz.func34, Tryz.ntmps34
  go_wp2_with fail
  go_loopw [] (fun wr => ∃ (pre : List (List UInt8)) (rest : List UInt8), rest.length ≤ 90000 ∧ Hid (rawL t = pre ++ rawL rest) ∧ Hid (Own w0 (TbO b rest * J pre) wr)) (fun wr => leftT b wr)
  case atStart => exact ⟨[], t, ht, Lib.hid rfl, H⟩
  case round =>
    clear H
    obtain ⟨pre, rest, hrl, HR, HO⟩ := hrel
    have c0 := HO.out.tb
    have hlt := leftT_own HO.out
    have hln : ∀ (ty : TypeId) (w : World), (Builtin.len_ #[9] ty #[.string (tx rest)]).run Tryz.prog w = .ok (.int .i64 (rest.length : Int)) w := fun ty w => by
      rw [run_len_string w _ _ _ Tryz.underlying9, tx_size]; rfl
    have hix : ∀ w, Calls Tryz.prog 35 #[.string (tx rest), .int .u8 10] w fun e w' => e = .returned (.int .i64 (Lib.indexByte rest 10)) ∧ w = w' := fun w => by
      have h1 := ixb_any (w := w) (tx rest) 10
      rw [tx_list] at h1
      exact h1
    obtain ⟨T, hT⟩ : ∃ T, T = tx rest := ⟨_, rfl⟩
    obtain ⟨n, hn⟩ : ∃ n, n = rest.length := ⟨_, rfl⟩
    by_cases h0 : rest = []
    · subst h0
      rw [show tx ([] : List UInt8) = ⟨#[]⟩ from rfl] at c0
      have hO := HO.out
      rw [show pre = rawL t by rw [HR.out]; simp [rawL]] at hO
      have HO_ := Lib.hid hO
      clear hO
      have HIX := Lib.hid hix; have HT := Lib.hid hT; have HN := Lib.hid hn; have HLT := Lib.hid hlt
      clear hix hT hn hlt
      clear hln
      go_wp2_with fail
      go_end0
      exact ⟨⟨_, rfl⟩, HO_.out⟩
    · have hpos : 0 < n := by rw [hn]; cases rest with
        | nil => exact absurd rfl h0
        | cons x r => simp
      rw [← hT] at c0 hln hix
      rw [← hn] at hln
      have hfz := HO.out.free 0 none
      rcases ixb_cases 10 rest with ⟨e1, e2⟩ | ⟨m, e1, e2, e3, e4⟩
      · have hraw : rawL rest = [rest] := rawL_last rest e2 h0
        rw [e1] at hix
        have hpre : pre ++ [rest] <+: rawL t := by rw [HR.out, hraw]; exact List.prefix_rfl
        have ho2 : Own w0 (TbO b [] * J pre) (wr.setCell ⟨b, 0, none⟩ (.string ⟨#[]⟩)) := HO.out.setCell (i := 0) (v := .string ⟨#[]⟩)
        obtain ⟨w2, hw2⟩ : ∃ w2, w2 = wr.setCell ⟨b, 0, none⟩ (.string ⟨#[]⟩) := ⟨_, rfl⟩
        rw [← hw2] at ho2
        obtain ⟨fn, tmps, assign, body, hy, hR⟩ := HY.out (TbO b []) pre rest w2 hpre ho2
        simp only [← hT] at hy hR
        have hend : rawL t = (pre ++ [rest]) ++ rawL [] := by rw [HR.out, hraw]; simp [rawL]
        have hlt2 : leftT b wr = n := by rw [hlt, hn]
        have HIX := Lib.hid hix; have HT := Lib.hid hT; have HN := Lib.hid hn; have HLT := Lib.hid hlt; have E1 := Lib.hid e1; have E2 := Lib.hid e2; have H0 := Lib.hid h0; have HRAW := Lib.hid hraw; have HPRE := Lib.hid hpre; have HO2 := Lib.hid ho2; have HEND := Lib.hid hend; have HLT2 := Lib.hid hlt2
        clear hix hT hn hlt e1 e2 h0 hraw hpre ho2 hend hlt2
        have HR_ := Lib.hid hR
        clear hR
        go_wp2_with fail
        refine (HIX.out _).mono ?_
        rintro e w3 ⟨rfl, rfl⟩
        go_upto_region 6 with fail
        rw [← hw2]
        clear hw2 c0 hfz
        refine (wpIn_wide (n := 8)).1 ?_
        gi_wp2
        refine HR_.out.mono ?_
        rintro e W3 ⟨rfl, ho3⟩
        have HO3 := Lib.hid ho3
        clear ho3
        gi_wp2
        go_wp2_with fail
        go_roundw
        case rel => exact ⟨pre ++ [rest], [], by simp, HEND, HO3⟩
        case measure => rw [leftT_own HO3.out, HLT2.out]; exact hpos
      · have hm1 : m + 1 ≤ n := by rw [hn]; omega
        have hx : rest.take (m + 1) = rest.take m ++ [10] := by
          rw [List.take_add_one, e4]; rfl
        have hrs : rest = rest.take m ++ 10 :: rest.drop (m + 1) := by
          conv => lhs; rw [← List.take_append_drop (m + 1) rest]
          rw [hx]; simp
        have hraw : rawL rest = rest.take (m + 1) :: rawL (rest.drop (m + 1)) := by
          rw [hx]
          exact (congrArg rawL hrs).trans (rawL_seg _ _ e3)
        obtain ⟨x, hxx⟩ : ∃ x, x = rest.take (m + 1) := ⟨_, rfl⟩
        obtain ⟨r2, hr2⟩ : ∃ r2, r2 = rest.drop (m + 1) := ⟨_, rfl⟩
        have hl2 : r2.length + (m + 1) = n := by rw [hr2, List.length_drop, hn]; omega
        have hs1 : ∀ w, (Instr.slice 9 (.string T) none (some (.int .i64 ((m : Int) + 1))) none).run Tryz.prog w = .ok (.string (tx x)) w := fun w => by
          have hsz : T.size = n := by rw [hT, tx_size, hn]
          rw [run_slice_string_h w 9 T Tryz.underlying9 .i64 _ (by omega) (by omega), show ((m : Int) + 1).toNat = m + 1 by omega, hT, tx_extract, hxx]
          rfl
        have hs2 : ∀ w, (Instr.slice 9 (.string T) (some (.int .i64 ((m : Int) + 1))) none none).run Tryz.prog w = .ok (.string (tx r2)) w := fun w => by
          have hsz : T.size = n := by rw [hT, tx_size, hn]
          rw [run_slice_string_l w 9 T Tryz.underlying9 .i64 _ (by omega) (by omega), show ((m : Int) + 1).toNat = m + 1 by omega, hT, tx_extract, tx_size, List.take_of_length_le (by rw [List.length_drop]; exact Nat.le_refl _), hr2]
        rw [e1] at hix
        rw [← hxx, ← hr2] at hraw
        have hpre : pre ++ [x] <+: rawL t := by
          rw [HR.out, hraw, show pre ++ x :: rawL r2 = (pre ++ [x]) ++ rawL r2 by simp]
          exact List.prefix_append _ _
        have ho2 : Own w0 (TbO b r2 * J pre) ((wr.setCell ⟨b, 0, none⟩ (.string (tx r2))).drew) := (HO.out.setCell (i := 0) (v := .string (tx r2))).drew
        obtain ⟨w2, hw2⟩ : ∃ w2, w2 = (wr.setCell ⟨b, 0, none⟩ (.string (tx r2))).drew := ⟨_, rfl⟩
        rw [← hw2] at ho2
        obtain ⟨fn, tmps, assign, body, hy, hR⟩ := HY.out (TbO b r2) pre x w2 hpre ho2
        obtain ⟨X, hX⟩ : ∃ X, X = tx x := ⟨_, rfl⟩
        obtain ⟨X2, hX2⟩ : ∃ X2, X2 = tx r2 := ⟨_, rfl⟩
        simp only [← hX] at hy hR hs1
        rw [← hX2] at hs2 hw2
        have hend : rawL t = (pre ++ [x]) ++ rawL r2 := by rw [HR.out, hraw]; simp
        have hlt2 : leftT b wr = n := by rw [hlt, hn]
        have hrl2 : r2.length ≤ 90000 := by omega
        have hwr : IntKind.i64.wrap ((m : Int) + 1) = (m : Int) + 1 := IntWalk.i64_in _ (by omega)
        have HIX := Lib.hid hix; have HT := Lib.hid hT; have HN := Lib.hid hn; have HLT := Lib.hid hlt; have E1 := Lib.hid e1; have E2 := Lib.hid e2; have E3 := Lib.hid e3; have E4 := Lib.hid e4; have H0 := Lib.hid h0; have HRAW := Lib.hid hraw; have HPRE := Lib.hid hpre; have HO2 := Lib.hid ho2; have HEND := Lib.hid hend; have HLT2 := Lib.hid hlt2; have HX := Lib.hid hX; have HX2 := Lib.hid hX2; have HX := Lib.hid hx; have HRS := Lib.hid hrs; have HXX := Lib.hid hxx; have HR2 := Lib.hid hr2; have HS1 := Lib.hid hs1; have HS2 := Lib.hid hs2
        clear hix hT hn hlt e1 e2 e3 e4 h0 hraw hpre ho2 hend hlt2 hX hX2 hx hrs hxx hr2 hs1 hs2
        have HR_ := Lib.hid hR
        clear hR
        go_wp2_with fail
        refine (HIX.out _).mono ?_
        rintro e w3 ⟨rfl, rfl⟩
        have hs1 := HS1.out
        have hs2 := HS2.out
        have hq1 : ∀ w, (Instr.sliceAt 9 (.string T) none (some (.int .i64 ((m : Int) + 1))) none).run Tryz.prog w = .ok (.string X) w := fun w => by simp [Instr.sliceAt, hs1]
        have hq2 : ∀ w, (Instr.sliceAt 9 (.string T) (some (.int .i64 ((m : Int) + 1))) none none).run Tryz.prog w = .ok (.string X2) w := fun w => by simp [Instr.sliceAt, hs2]
        go_upto_region 4 with fail
        refine wp_region_planH 9 [] [(true, 0), (true, 1), (true, 2), (true, 3), (true, 4), (true, 5), (true, 6), (true, 7), (false, 8)] [9] (fun wS => wS.cell? ⟨b, 0, none⟩ = some (.string T)) (by kernel_rfl) (by kernel_rfl) (c0) ?_
        simp only [pickH, pick, List.getElem?_cons_succ, List.getElem?_cons_zero, Option.toList, Option.map_some, List.cons_append, List.nil_append]
        repeat (refine wpPure_step ?_ rfl ?_ ?_; rotate_left; (focus (intro _; first | with_reducible rfl | (go_simp; done) | (go_simp; with_reducible rfl) | rfl)); go_simp)
        refine wpPure_nil ?_
        repeat (refine wpMix_read ?_ rfl ?_ ?_; rotate_left; (focus (intro _ hS; obtain s1 := hS; first | with_reducible rfl | (go_simp; done) | (go_simp; with_reducible rfl) | rfl)); go_simp)
        refine wpMix_write (fun K hK => ?_)
        go_simp
        refine hK _ _ ⟨c0, ?_⟩
        clear hK K
        go_simp
        refine wpMix_nil ?_
        go_wp2_with fail
        refine NoPanic.normal ?_
        clear hs1 hs2 hq1 hq2 hwr
        go_upto_region 6 with fail
        rw [← hw2]
        clear hw2 c0 hfz
        refine (wpIn_wide (n := 8)).1 ?_
        gi_wp2
        refine HR_.out.mono ?_
        rintro e W3 ⟨rfl, ho3⟩
        have HO3 := Lib.hid ho3
        clear ho3
        gi_wp2
        go_wp2_with fail
        go_roundw
        case rel => exact ⟨pre ++ [x], r2, hrl2, HEND, HO3⟩
        case measure => rw [leftT_own HO3.out, HLT2.out]; omega
end Go.Proofs.YtdfjbnfdknpahaaGreatDoor
/- A drawn region inside a round: all its orders, one behind the other. -/
namespace Go.Proofs.YtdfjbnfdknpahaaGreatDoor
set_option linter.unusedVariables false
set_option linter.unusedSimpArgs false
open Go.RowKit
/-- All orders in which the operations that are not yet listed may come. -/
def allGo (m : Region.Mode) (ops : Array Oper) : Nat → Array Bool → List (List Nat)
  | 0, _ => [[]]
  | fuel + 1, listed => if Region.ready m ops listed = [] then [[]] else (Region.ready m ops listed).flatMap fun i => (allGo m ops fuel (listed.setIfInBounds i true)).map (i :: ·)
theorem go_mem {m : Region.Mode} {ops : Array Oper} : ∀ (fuel t : Nat) (listed : Array Bool) (acc : List Nat), ∃ L ∈ allGo m ops fuel listed, Region.linearise.go m ops fuel t listed acc = acc.reverse ++ L
  | 0, t, listed, acc => ⟨[], by simp [allGo], by simp [Region.linearise.go]⟩
  | fuel + 1, t, listed, acc => by
    simp only [Region.linearise.go]
    change ∃ L ∈ allGo m ops (fuel + 1) listed, (match (Region.ready m ops listed)[t % (Region.ready m ops listed).length]? with
      | some i => Region.linearise.go m ops fuel (t / (Region.ready m ops listed).length) (listed.setIfInBounds i true) (i :: acc)
      | none => acc.reverse) = acc.reverse ++ L
    cases hi : (Region.ready m ops listed)[t % (Region.ready m ops listed).length]? with
    | none =>
      have hnil : Region.ready m ops listed = [] := by
        cases hr : Region.ready m ops listed with
        | nil => rfl
        | cons x xs =>
          rw [hr] at hi
          have hlt : t % (x :: xs).length < (x :: xs).length := Nat.mod_lt _ (by simp)
          rw [List.getElem?_eq_getElem hlt] at hi
          cases hi
      refine ⟨[], ?_, by simp⟩
      unfold allGo
      rw [if_pos hnil]
      exact List.mem_singleton.2 rfl
    | some i =>
      have hmem : i ∈ Region.ready m ops listed := List.mem_of_getElem? hi
      have hne : Region.ready m ops listed ≠ [] := fun h => by rw [h] at hmem; cases hmem
      obtain ⟨L, hL, he⟩ := go_mem fuel (t / (Region.ready m ops listed).length) (listed.setIfInBounds i true) (i :: acc)
      refine ⟨i :: L, ?_, ?_⟩
      · unfold allGo
        rw [if_neg hne]
        exact List.mem_flatMap.2 ⟨i, hmem, List.mem_map.2 ⟨L, hL, rfl⟩⟩
      · show Region.linearise.go m ops fuel _ _ _ = _
        rw [he]; simp
theorem ops_pick {F : Fence} {n : Nat} {P : Program} {ops : Array Oper} {Q : Exit → Act → World → Prop} : ∀ (L : List Nat) (a : Act) (w : World), wpListIn F n P ops Q (L.filterMap fun i => ops[i]?) a w → wpOpsIn F n P ops Q L a w
  | [], a, w, h => h
  | i :: L, a, w, h => by
    rw [wpOpsIn]
    cases ho : ops[i]? with
    | none =>
      rw [List.filterMap_cons_none ho] at h
      exact ops_pick L a w h
    | some o =>
      rw [List.filterMap_cons_some ho] at h
      show if Region.wanted o (yielded ops a.tmps) then o.wpIn F n P a w (wpOpsIn F n P ops Q L) Q else (∀ f, o.about P w a.eval = some f → F.fn f) ∧ wpOpsIn F n P ops Q L (a.put o.dst undef) w
      unfold wpListIn at h
      split
      · rename_i hw
        rw [if_pos hw] at h
        exact Oper.wpIn_mono (fun a w => ops_pick L a w) h
      · rename_i hw
        rw [if_neg hw] at h
        exact ⟨h.1, ops_pick L _ _ h.2⟩
theorem wpIn_region_all {F : Fence} {n : Nat} {P : Program} {id : Nat} {Q : Exit → Act → World → Prop} {a : Act} {w : World} {l : List Oper} (Ls : List (List Nat)) (hm : P.follows .mixedOrders = true)
    (hA : allGo .any l.toArray l.length (Array.replicate l.length false) = Ls) (h : ∀ L ∈ Ls, wpListIn F n P l.toArray Q (L.filterMap fun i => l[i]?) a w.drew) : (Code.region id l.toArray true).wpIn F n P Q a w := by
  refine wpIn_region_draw fun t => ?_
  simp only [Region.schedule, hm, Bool.true_or, if_true]
  obtain ⟨L, hL, he⟩ := go_mem (m := .any) (ops := l.toArray) l.length t (Array.replicate l.length false) []
  rw [hA] at hL
  have h2 := ops_pick (F := F) (n := n) (P := P) (ops := l.toArray) (Q := Q) L a w.drew (by simpa using h L hL)
  show wpOpsIn F n P l.toArray Q (Region.linearise.go .any l.toArray l.toArray.size t (Array.replicate l.toArray.size false) []) a w.drew
  rw [List.size_toArray, he]
  exact h2
end Go.Proofs.YtdfjbnfdknpahaaGreatDoor
