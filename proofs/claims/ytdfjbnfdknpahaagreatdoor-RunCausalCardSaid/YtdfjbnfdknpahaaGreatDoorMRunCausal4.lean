/- The reference's way: what is on it. -/
import Derived.Test.YtdfjbnfdknpahaaGreatDoorMRunCausal3
import Derived.Test.YtdfjbnfdknpahaaGreatDoorMRunCausal0
import Derived.Test.YtdfjbnfdknpahaaGreatDoorProg
import Derived.Shelf.Strconv.Itoa3
import Derived.Shelf.Strconv.AtoiAll
import Derived.Lib.AtoiAllCases
import Derived.Lib.ItoaNum
namespace Go.Proofs.YtdfjbnfdknpahaaGreatDoor
set_option linter.unusedVariables false
set_option linter.unusedSimpArgs false
open Go.RowKit
/-- Words with one blank between. -/
def joinB (ws : List (List UInt8)) : List UInt8 := match ws with
  | [] => []
  | x :: r => x ++ r.flatMap fun y => 32 :: y
def rowW (ws : List (List UInt8)) : List UInt8 := if ws = [] then [45] else joinB ws
theorem joinB_snoc (ws : List (List UInt8)) (x : List UInt8) : joinB (ws ++ [x]) = (if ws = [] then [] else joinB ws ++ [32]) ++ x := by
  cases ws with
  | nil => simp [joinB]
  | cons y r => simp [joinB]
theorem rowC_join (l : List Int) : rowC l = joinB (l.map fun x => Lib.decDigits x.toNat) := by
  cases l with
  | nil => rfl
  | cons x r => simp [rowC, joinB, List.flatMap_map]
theorem rowT_row (l : List Int) : rowT l = rowW (l.map fun x => Lib.decDigits x.toNat) := by
  unfold rowT rowW
  rw [← rowC_join]
  cases l <;> simp
def pkB (p : Ev) : List UInt8 := Lib.decDigits p.1.toNat ++ [62] ++ Lib.decDigits p.2.1.toNat ++ [58] ++ Lib.decDigits p.2.2.toNat
def wayT (ps : List Ev) : List UInt8 := rowW (ps.map pkB)
def pkSmall (p : Ev) : Prop := (0 ≤ p.1 ∧ p.1 ≤ 1000000) ∧ (0 ≤ p.2.1 ∧ p.2.1 ≤ 1000000) ∧ (0 ≤ p.2.2 ∧ p.2.2 ≤ 1000000)
theorem pkB_len {p : Ev} (h : pkSmall p) : 1 ≤ (pkB p).length ∧ (pkB p).length ≤ 3000010 := by
  obtain ⟨h1, h2, h3⟩ := h
  have d1 := dec_len p.1.toNat
  have d2 := dec_len p.2.1.toNat
  have d3 := dec_len p.2.2.toNat
  unfold pkB
  simp only [List.length_append, List.length_cons, List.length_nil]
  omega
theorem joinB_len {ws : List (List UInt8)} {m : Nat} (h : ∀ x ∈ ws, x.length ≤ m) : (joinB ws).length ≤ ws.length * (m + 1) := by
  have key : ∀ (q : List (List UInt8)), (∀ x ∈ q, x.length ≤ m) → (q.flatMap fun y => 32 :: y).length ≤ q.length * (m + 1) := by
    intro q
    induction q with
    | nil => intro _; simp
    | cons y q ih =>
      intro hq
      have h3 := hq y (List.mem_cons_self ..)
      have h4 := ih (fun z hz => hq z (List.mem_cons_of_mem _ hz))
      rw [List.flatMap_cons, List.length_append, List.length_cons, List.length_cons, Nat.succ_mul]
      omega
  cases ws with
  | nil => simp [joinB]
  | cons x r =>
    have := key r (fun z hz => h z (List.mem_cons_of_mem _ hz))
    have h3 := h x (List.mem_cons_self ..)
    unfold joinB
    rw [List.length_append, List.length_cons, Nat.succ_mul]
    omega
theorem joinB_ne {ws : List (List UInt8)} (h : ws ≠ []) (hx : ∀ x ∈ ws, x ≠ []) : joinB ws ≠ [] := by
  cases ws with
  | nil => exact absurd rfl h
  | cons x r =>
    unfold joinB
    intro hc
    exact hx x (List.mem_cons_self ..) (List.append_eq_nil_iff.1 hc).1
theorem add_let (A B : ByteArray) (hA : A.size ≤ 2000000000000) (hB : B.size ≤ 2000000000000) : ∃ C, C = A ++ B ∧ C.size = A.size + B.size ∧ ∀ w : World, (Op.stringOp .add A B).run Tryz.prog w = .ok (.string C) w :=
  ⟨_, rfl, ByteArray.size_append .., fun w => run_string_add_sum _ _ _ (by omega)⟩
theorem tx_tests {T : ByteArray} (hq0 : T.toList ≠ []) : (T.toList == ByteArray.toList ⟨#[]⟩) = false ∧ (T.toList == []) = false ∧ T.toList.isEmpty = false := by
  refine ⟨?_, ?_, ?_⟩
  · rw [beq_eq_false_iff_ne, ByteArray.toList_eq ⟨#[]⟩]
    exact hq0
  · rw [beq_eq_false_iff_ne]; exact hq0
  · rw [List.isEmpty_eq_false_iff]; exact hq0
set_option maxRecDepth 100000 in
set_option maxHeartbeats 4000000 in
theorem rway_any {w : World} (v : Value) (ps : List Ev) (hv : Evs w v ps) (hb : ∀ p ∈ ps, pkSmall p) (hn : ps.length ≤ 1000) :
    Calls Tryz.prog 28 #[v] w fun e w' => e = .returned (.string (tx (wayT ps))) ∧ w = w' := by
  obtain ⟨ad, cap, rfl, hc1, hc2⟩ := hv.shape
  obtain ⟨n, hnn⟩ : ∃ n, n = ps.length := ⟨_, rfl⟩
  rw [← hnn] at hv hc1 hn ⊢
  have HRD : Hid (ReadsE w emp (.slice ad n cap) ps) := Lib.hid hv.reads
  have HV := Lib.hid hv; have HB := Lib.hid hb; have HNN := Lib.hid hnn
  clear hv hb hnn
  go_enter Tryz.func28, Tryz.ntmps28
  go_wp2_with fail
  go_loop [3, 4] (fun sv iv => ∃ k : Nat, k ≤ n ∧ iv = .int .i64 k ∧ sv = .string (tx (joinB ((ps.map pkB).take k)))) (fun _ iv => n - (intOf iv).toNat)
  case atStart => exact ⟨0, Nat.zero_le _, rfl, rfl⟩
  case round =>
    obtain ⟨k, hk, rfl, rfl⟩ := hrel
    by_cases hlt : k < n
    rotate_left
    · have hkn : k = n := by omega
      subst hkn
      have hfull : (ps.map pkB).take k = ps.map pkB := List.take_of_length_le (by rw [List.length_map]; have := HNN.out; omega)
      rw [hfull]
      by_cases hl0 : ps = []
      · subst hl0
        rw [show tx (joinB (([] : List Ev).map pkB)) = ⟨#[]⟩ from rfl]
        go_wp2_with fail
        go_ret
        exact ⟨rfl, rfl⟩
      · have hne : joinB (ps.map pkB) ≠ [] := joinB_ne (by simpa using hl0) (fun x hx => by
          obtain ⟨p, hp, rfl⟩ := List.mem_map.1 hx
          have := (pkB_len (HB.out p hp)).1
          intro hc
          rw [hc] at this
          simp at this)
        have hrt : wayT ps = joinB (ps.map pkB) := by unfold wayT rowW; rw [if_neg (by simpa using hl0)]
        have hq0 := tx_ne hne
        obtain ⟨T, hT⟩ : ∃ T, T = tx (joinB (ps.map pkB)) := ⟨_, rfl⟩
        have hrt2 : T = tx (wayT ps) := by rw [hrt]; exact hT
        rw [← hT] at hq0 ⊢
        obtain ⟨hq1, hq2, hq3⟩ := tx_tests hq0
        have HT := Lib.hid hT; have HNE := Lib.hid hne; have HL0 := Lib.hid hl0; have HRT := Lib.hid hrt; have HFULL := Lib.hid hfull; have HRT2 := Lib.hid hrt2
        clear hT hne hl0 hrt hfull hrt2
        go_wp2_with fail
        go_ret
        exact ⟨congrArg (fun t => Ending.returned (Value.string t)) HRT2.out, rfl⟩
    have hkl : k < ps.length := by rw [← HNN.out]; exact hlt
    obtain ⟨aa, eb, eo, es, e1, hea, hcs, _⟩ := HRD.out.at (Own.start w) k hkl
    subst e1
    obtain ⟨g0, g1, g2⟩ := hcs _ (Own.start w)
    have hev : evAt ps k = ps[k] := by unfold evAt; rw [List.getD_eq_getElem?_getD, List.getElem?_eq_getElem hkl]; rfl
    have hbk := HB.out _ (List.getElem_mem hkl)
    have hkm : k < (ps.map pkB).length := by rw [List.length_map]; exact hkl
    have hsn := joinB_snoc ((ps.map pkB).take k) (ps.map pkB)[k]
    rw [← List.take_succ_eq_append_getElem hkm, List.getElem_map] at hsn
    rw [hev] at g0 g1 g2
    obtain ⟨x, hx⟩ : ∃ x, x = ps[k] := ⟨_, rfl⟩
    rw [← hx] at g0 g1 g2 hsn hbk
    obtain ⟨⟨b1, b2⟩, ⟨b3, b4⟩, ⟨b5, b6⟩⟩ := hbk
    obtain ⟨m1, hm1⟩ : ∃ m : Nat, x.1 = (m : Int) := ⟨x.1.toNat, by omega⟩
    obtain ⟨m2, hm2⟩ : ∃ m : Nat, x.2.1 = (m : Int) := ⟨x.2.1.toNat, by omega⟩
    obtain ⟨m3, hm3⟩ : ∃ m : Nat, x.2.2 = (m : Int) := ⟨x.2.2.toNat, by omega⟩
    have hpk : pkB x = Lib.decDigits m1 ++ [62] ++ Lib.decDigits m2 ++ [58] ++ Lib.decDigits m3 := by
      unfold pkB; rw [hm1, hm2, hm3, Int.toNat_natCast, Int.toNat_natCast, Int.toNat_natCast]
    rw [hm1] at g0 b2
    rw [hm2] at g1 b4
    rw [hm3] at g2 b6
    have hdg1 := digits_any m1 (by omega) w
    have hdg2 := digits_any m2 (by omega) w
    have hdg3 := digits_any m3 (by omega) w
    have hz1 := (dec_len m1).2
    have hz2 := (dec_len m2).2
    have hz3 := (dec_len m3).2
    have hlen : (joinB ((ps.map pkB).take k)).length ≤ 1000 * 3000011 := by
      have h1 := joinB_len (ws := (ps.map pkB).take k) (m := 3000010) (fun y hy => by
        obtain ⟨p, hp, rfl⟩ := List.mem_map.1 (List.mem_of_mem_take hy)
        exact (pkB_len (HB.out p hp)).2)
      have h2 : ((ps.map pkB).take k).length ≤ 1000 := by rw [List.length_take]; omega
      exact Nat.le_trans h1 (Nat.mul_le_mul_right _ h2)
    -- what stands ahead of the packet
    obtain ⟨A, hAe, hA1, hA2, hcase⟩ : ∃ A : ByteArray, tx (joinB ((ps.map pkB).take (k + 1))) = A ++ tx (pkB x) ∧ A.size ≤ 3000012000 ∧ ((k = 0 → A = ⟨#[]⟩) ∧ (k ≠ 0 → A = tx (joinB ((ps.map pkB).take k)) ++ tx [32])) ∧ True := by
      by_cases hk0 : k = 0
      · subst hk0
        rw [show (ps.map pkB).take 0 = [] from rfl, if_pos rfl, List.nil_append] at hsn
        refine ⟨⟨#[]⟩, ?_, by show 0 ≤ _; omega, ⟨fun _ => rfl, fun h => absurd rfl h⟩, trivial⟩
        rw [hsn]
        apply ByteArray.ext
        simp
      · have hne : (ps.map pkB).take k ≠ [] := by
          intro hc
          have h3 := congrArg List.length hc
          rw [List.length_take, List.length_nil] at h3
          omega
        rw [if_neg hne] at hsn
        refine ⟨tx (joinB ((ps.map pkB).take k)) ++ tx [32], by rw [hsn, tx_add, tx_add], ?_, ⟨fun h => absurd h hk0, fun _ => rfl⟩, trivial⟩
        rw [ByteArray.size_append, tx_size, tx_size]
        simp only [List.length_cons, List.length_nil]
        omega
    obtain ⟨D1, hD1⟩ : ∃ D, D = tx (Lib.decDigits m1) := ⟨_, rfl⟩
    obtain ⟨D2, hD2⟩ : ∃ D, D = tx (Lib.decDigits m2) := ⟨_, rfl⟩
    obtain ⟨D3, hD3⟩ : ∃ D, D = tx (Lib.decDigits m3) := ⟨_, rfl⟩
    have s1 : D1.size ≤ 1000001 := by rw [hD1, tx_size]; omega
    have s2 : D2.size ≤ 1000001 := by rw [hD2, tx_size]; omega
    have s3 : D3.size ≤ 1000001 := by rw [hD3, tx_size]; omega
    rw [← hD1] at hdg1
    rw [← hD2] at hdg2
    rw [← hD3] at hdg3
    obtain ⟨X1, x1, z1, a1⟩ := add_let A D1 (by omega) (by omega)
    obtain ⟨X2, x2, z2, a2⟩ := add_let X1 ⟨#[62]⟩ (by omega) (by show 1 ≤ _; omega)
    have y2 : X2.size = X1.size + 1 := z2
    obtain ⟨X3, x3, z3, a3⟩ := add_let X2 D2 (by omega) (by omega)
    obtain ⟨X4, x4, z4, a4⟩ := add_let X3 ⟨#[58]⟩ (by omega) (by show 1 ≤ _; omega)
    have y4 : X4.size = X3.size + 1 := z4
    obtain ⟨X5, x5, z5, a5⟩ := add_let X4 D3 (by omega) (by omega)
    have hfin : X5 = tx (joinB ((ps.map pkB).take (k + 1))) := by
      rw [hAe, hpk, x5, x4, x3, x2, x1, hD1, hD2, hD3, ← tx_add, ← tx_add, ← tx_add, ← tx_add]
      apply ByteArray.ext
      simp [ByteArray.data_append, tx]
    have i0 : (0 : Int) ≤ (k : Int) := by omega
    have iN : (k : Int) < (n : Int) := by omega
    clear hcs hev
    by_cases hk0 : k = 0
    · have hA0 := hA2.1 hk0
      subst hk0
      rw [show tx (joinB ((ps.map pkB).take 0)) = ⟨#[]⟩ from rfl, ← hA0]
      have HSN := Lib.hid hsn; have HX := Lib.hid hx; have HM1 := Lib.hid hm1; have HM2 := Lib.hid hm2; have HM3 := Lib.hid hm3; have HPK := Lib.hid hpk; have HAE := Lib.hid hAe; have HA2 := Lib.hid hA2; have HA0 := Lib.hid hA0; have HLEN := Lib.hid hlen; have HFIN := Lib.hid hfin; have X1 := Lib.hid x1; have X2 := Lib.hid x2; have X3 := Lib.hid x3; have X4 := Lib.hid x4; have X5 := Lib.hid x5; have Z1 := Lib.hid z1; have Z2 := Lib.hid z2; have Z3 := Lib.hid z3; have Z4 := Lib.hid z4; have Z5 := Lib.hid z5; have Y2 := Lib.hid y2; have Y4 := Lib.hid y4; have HD1 := Lib.hid hD1; have HD2 := Lib.hid hD2; have HD3 := Lib.hid hD3; have HDG1 := Lib.hid hdg1; have HDG2 := Lib.hid hdg2; have HDG3 := Lib.hid hdg3; have B1 := Lib.hid b1; have B3 := Lib.hid b3; have B5 := Lib.hid b5
      clear hsn hx hm1 hm2 hm3 hpk hAe hA2 hA0 hlen hfin x1 x2 x3 x4 x5 z1 z2 z3 z4 z5 y2 y4 hD1 hD2 hD3 hdg1 hdg2 hdg3 b1 b3 b5
      go_wp2_with fail
      refine HDG1.out.mono ?_
      rintro e w2 ⟨rfl, rfl⟩
      go_wp2_with fail
      refine HDG2.out.mono ?_
      rintro e w2 ⟨rfl, rfl⟩
      go_wp2_with fail
      refine HDG3.out.mono ?_
      rintro e w2 ⟨rfl, rfl⟩
      go_wp2_with fail
      go_round
      case rel => exact ⟨0 + 1, by omega, by go_num, by rw [HFIN.out]⟩
      case measure => simp [intOf]; omega
    · have hA0 := hA2.2 hk0
      have k0 : (0 : Int) < (k : Int) := by omega
      obtain ⟨P0, hP0⟩ : ∃ P, P = tx (joinB ((ps.map pkB).take k)) := ⟨_, rfl⟩
      rw [← hP0] at hA0 ⊢
      have hps : P0.size ≤ 3000011000 := by rw [hP0, tx_size]; omega
      have a0 : ∀ w : World, (Op.stringOp .add P0 ⟨#[32]⟩).run Tryz.prog w = .ok (.string A) w := fun w => by
        rw [hA0]
        exact run_string_add_sum _ _ _ (by show _ + 1 ≤ _; omega)
      have HSN := Lib.hid hsn; have HX := Lib.hid hx; have HM1 := Lib.hid hm1; have HM2 := Lib.hid hm2; have HM3 := Lib.hid hm3; have HPK := Lib.hid hpk; have HAE := Lib.hid hAe; have HA2 := Lib.hid hA2; have HA0 := Lib.hid hA0; have HLEN := Lib.hid hlen; have HFIN := Lib.hid hfin; have X1 := Lib.hid x1; have X2 := Lib.hid x2; have X3 := Lib.hid x3; have X4 := Lib.hid x4; have X5 := Lib.hid x5; have Z1 := Lib.hid z1; have Z2 := Lib.hid z2; have Z3 := Lib.hid z3; have Z4 := Lib.hid z4; have Z5 := Lib.hid z5; have Y2 := Lib.hid y2; have Y4 := Lib.hid y4; have HD1 := Lib.hid hD1; have HD2 := Lib.hid hD2; have HD3 := Lib.hid hD3; have HDG1 := Lib.hid hdg1; have HDG2 := Lib.hid hdg2; have HDG3 := Lib.hid hdg3; have B1 := Lib.hid b1; have B3 := Lib.hid b3; have B5 := Lib.hid b5; have HP0 := Lib.hid hP0; have HK0 := Lib.hid hk0
      clear hsn hx hm1 hm2 hm3 hpk hAe hA2 hA0 hlen hfin x1 x2 x3 x4 x5 z1 z2 z3 z4 z5 y2 y4 hD1 hD2 hD3 hdg1 hdg2 hdg3 b1 b3 b5 hP0 hk0
      go_wp2_with fail
      refine HDG1.out.mono ?_
      rintro e w2 ⟨rfl, rfl⟩
      go_wp2_with fail
      refine HDG2.out.mono ?_
      rintro e w2 ⟨rfl, rfl⟩
      go_wp2_with fail
      refine HDG3.out.mono ?_
      rintro e w2 ⟨rfl, rfl⟩
      go_wp2_with fail
      go_round
      case rel => exact ⟨k + 1, by omega, by go_num, by rw [HFIN.out]⟩
      case measure => simp [intOf]; omega
end Go.Proofs.YtdfjbnfdknpahaaGreatDoor
/- strings.Join with a blank between, over the library's contract; run's row. -/
namespace Go.Proofs.YtdfjbnfdknpahaaGreatDoor
set_option linter.unusedVariables false
set_option linter.unusedSimpArgs false
open Go.RowKit
theorem Own.und {w0 w w' : World} {P : HProp} (h : Own w0 P w) (hb : Below w.heap.size w w') : Own w0 P w' := by
  obtain ⟨hbel, x, a, hx⟩ := h
  refine ⟨hbel.trans ⟨hb.os, hb.tape, hb.output, hb.size, fun k hk => hb.block k (Nat.lt_of_lt_of_le hk hbel.size)⟩, x, fun k o hk => ?_, hx⟩
  have h1 := a k o hk
  refine ⟨h1.1, ?_⟩
  rw [hb.block k, h1.2]
  rcases Nat.lt_or_ge k w.heap.size with h' | h'
  · exact h'
  · have := h1.2; rw [Array.getElem?_eq_none h'] at this; cases this
theorem join_tx : ∀ ls : List (List UInt8), Lib.join ((ls.map tx).map (·.data.toList)) [32] = joinB ls := by
  intro ls
  rw [List.map_map]
  have e : ((fun x : ByteArray => x.data.toList) ∘ tx) = id := by funext x; exact tx_list x
  rw [e, List.map_id]
  cases ls with
  | nil => rfl
  | cons x r =>
    rw [Lib.join_cons]
    unfold Lib.joinTail
    rw [joinB, List.flatMap_def]
    rfl
set_option maxRecDepth 100000 in
set_option maxHeartbeats 4000000 in
theorem stJoin_any {w0 w : World} {R : HProp} (v : Value) (ls : List (List UInt8)) (hne : ls ≠ []) (hl : ls.length ≤ 100000) (hb : (joinB ls).length ≤ 100000000) (h : Own w0 (StSl v ls * R) w) :
    Calls Tryz.prog 106 #[v, .string ⟨#[32]⟩] w fun e w' => e = .returned (.string (tx (joinB ls))) ∧ Own w0 (StSl v ls * R) w' := by
  have hpos : 0 < (ls.map fun l => Value.string (tx l)).length := by
    rw [List.length_map]
    cases ls with
    | nil => exact absurd rfl hne
    | cons x r => simp
  obtain ⟨b, off, cap, rfl, h1, h2, h3, _, _, h6, _⟩ := Own.sl_at h hpos
  have e1 := join_tx ls
  have hJ := Any.strings_Join joL joX b off cap (ls.map tx) ⟨#[32]⟩ w (fun j x hj => h3 j _ (by
    rw [List.getElem?_map] at hj ⊢
    cases hx : ls[j]? with
    | none => rw [hx] at hj; cases hj
    | some y => rw [hx] at hj; cases hj; rfl)) h6 (by rw [List.length_map]; omega) (by rw [List.length_map]; exact h1) (by
      show (Lib.join _ [32]).length ≤ _
      rw [e1]; omega)
  rw [List.length_map] at hJ
  refine Calls.mono hJ ?_
  rintro e w' ⟨rfl, hb'⟩
  refine ⟨?_, h.und hb'⟩
  show Ending.returned (Value.string ⟨(Lib.join _ [32]).toArray⟩) = _
  rw [e1]
  rfl
set_option maxRecDepth 100000 in
set_option maxHeartbeats 4000000 in
theorem prow_any {w0 w : World} {R : HProp} (v : Value) (ls : List (List UInt8)) (hl : ls.length ≤ 100000) (hb : (joinB ls).length ≤ 100000000) (h : Own w0 (StSl v ls * R) w) :
    Calls Tryz.prog 80 #[v] w fun e w' => e = .returned (.string (tx (rowW ls))) ∧ Own w0 (StSl v ls * R) w' := by
  obtain ⟨n, hn⟩ : ∃ n, n = ls.length := ⟨_, rfl⟩
  have hrd := h.rd
  rw [← hn] at hrd
  obtain ⟨ad, cap, rfl, hc1, hc2, hc3, hc4⟩ := hrd
  by_cases h0 : ls = []
  · have hn0 : n = 0 := by rw [hn, h0]; rfl
    subst hn0
    have e1 : rowW ls = [45] := by unfold rowW; rw [if_pos h0]
    rw [e1]
    have e2 : tx [45] = ⟨#[45]⟩ := rfl
    rw [e2]
    have H := Lib.hid h; have HN := Lib.hid hn; have HC4 := Lib.hid hc4
    clear h hn hc4
    go_enter Tryz.func80, Tryz.ntmps80
    go_wp2_with fail
    go_ret
    exact ⟨rfl, H.out⟩
  · have hn0 : ((n : Int) == 0) = false := by
      rw [beq_eq_false_iff_ne]
      cases ls with
      | nil => exact absurd rfl h0
      | cons x r => rw [hn]; simp; omega
    have e1 : rowW ls = joinB ls := by unfold rowW; rw [if_neg h0]
    rw [e1]
    have hJ := stJoin_any _ ls h0 hl hb h
    obtain ⟨T, hT⟩ : ∃ T, T = tx (joinB ls) := ⟨_, rfl⟩
    rw [← hT] at hJ ⊢
    have H := Lib.hid h; have HN := Lib.hid hn; have HC4 := Lib.hid hc4; have HJ := Lib.hid hJ; have HT := Lib.hid hT
    clear h hn hc4 hJ hT
    go_enter Tryz.func80, Tryz.ntmps80
    go_wp2_with fail
    refine HJ.out.mono ?_
    rintro e w2 ⟨rfl, hO⟩
    have HO := Lib.hid hO
    clear hO
    go_wp2_with fail
    go_ret
    exact ⟨rfl, HO.out⟩
end Go.Proofs.YtdfjbnfdknpahaaGreatDoor
/- strconv.Itoa at every int: that the loaded program bears the texts that the library's contracts speak of. -/
namespace Go.Proofs.YtdfjbnfdknpahaaGreatDoor
set_option linter.unusedVariables false
set_option linter.unusedSimpArgs false
open Go.RowKit Go.Proofs
def itRen : Go.Shelf.Ren := ⟨fun | 129 => 159 | 171 => 79 | 243 => 105 | 246 => 121 | 283 => 144 | 284 => 145 | 285 => 146 | 286 => 147 | 317 => 158 | 318 => 160 | 319 => 161 | 320 => 162 | 337 => 167 | 338 => 168 | n => n, fun | 0 => 0 | 2 => 2 | 3 => 3 | 4 => 4 | 5 => 5 | 9 => 9 | 20 => 20 | 37 => 40 | 46 => 220 | 51 => 242 | 53 => 229 | 171 => 228 | 173 => 232 | 212 => 251 | 213 => 252 | 232 => 261 | 233 => 262 | n => n, fun | 17 => 7 | 18 => 8 | 19 => 9 | n => n⟩
theorem itL : LaysM.n171 Tryz.prog itRen where
  mixed := by kernel_rfl
  f129 := Tryz.func159.trans (congrArg some (by kernel_rfl))
  f171 := Tryz.func79.trans (congrArg some (by kernel_rfl))
  f243 := Tryz.func105.trans (congrArg some (by kernel_rfl))
  f246 := Tryz.func121.trans (congrArg some (by kernel_rfl))
  f283 := Tryz.func144.trans (congrArg some (by kernel_rfl))
  f284 := Tryz.func145.trans (congrArg some (by kernel_rfl))
  f285 := Tryz.func146.trans (congrArg some (by kernel_rfl))
  f286 := Tryz.func147.trans (congrArg some (by kernel_rfl))
  f317 := Tryz.func158.trans (congrArg some (by kernel_rfl))
  f318 := Tryz.func160.trans (congrArg some (by kernel_rfl))
  f319 := Tryz.func161.trans (congrArg some (by kernel_rfl))
  f320 := Tryz.func162.trans (congrArg some (by kernel_rfl))
  f337 := Tryz.func167.trans (congrArg some (by kernel_rfl))
  f338 := Tryz.func168.trans (congrArg some (by kernel_rfl))
  t0 := Tryz.underlying0
  a0 := Tryz.isAgg0
  z0 := Tryz.sizeOf0
  v0 := Tryz.zeroValue0
  t2 := Tryz.underlying2
  a2 := Tryz.isAgg2
  z2 := Tryz.sizeOf2
  v2 := Tryz.zeroValue2
  t3 := Tryz.underlying3
  a3 := Tryz.isAgg3
  z3 := Tryz.sizeOf3
  v3 := Tryz.zeroValue3
  t4 := Tryz.underlying4
  a4 := Tryz.isAgg4
  z4 := Tryz.sizeOf4
  v4 := Tryz.zeroValue4
  t5 := Tryz.underlying5
  a5 := Tryz.isAgg5
  z5 := Tryz.sizeOf5
  v5 := Tryz.zeroValue5
  t9 := Tryz.underlying9
  a9 := Tryz.isAgg9
  z9 := Tryz.sizeOf9
  v9 := Tryz.zeroValue9
  t20 := Tryz.underlying20
  a20 := Tryz.isAgg20
  z20 := Tryz.sizeOf20
  v20 := Tryz.zeroValue20
  t37 := Tryz.underlying40
  a37 := Tryz.isAgg40
  z37 := Tryz.sizeOf40
  v37 := Tryz.zeroValue40
  t46 := Tryz.underlying220
  a46 := Tryz.isAgg220
  z46 := Tryz.sizeOf220
  v46 := Tryz.zeroValue220
  t51 := Tryz.underlying242
  a51 := Tryz.isAgg242
  z51 := Tryz.sizeOf242
  v51 := Tryz.zeroValue242
  t53 := Tryz.underlying229
  a53 := Tryz.isAgg229
  z53 := Tryz.sizeOf229
  v53 := Tryz.zeroValue229
  t171 := Tryz.underlying228
  a171 := Tryz.isAgg228
  z171 := Tryz.sizeOf228
  v171 := Tryz.zeroValue228
  t173 := Tryz.underlying232
  a173 := Tryz.isAgg232
  z173 := Tryz.sizeOf232
  v173 := Tryz.zeroValue232
  t212 := Tryz.underlying251
  a212 := Tryz.isAgg251
  z212 := Tryz.sizeOf251
  v212 := Tryz.zeroValue251
  t213 := Tryz.underlying252
  a213 := Tryz.isAgg252
  z213 := Tryz.sizeOf252
  t232 := Tryz.underlying261
  a232 := Tryz.isAgg261
  z232 := Tryz.sizeOf261
  v232 := Tryz.zeroValue261
  t233 := Tryz.underlying262
  a233 := Tryz.isAgg262
  z233 := Tryz.sizeOf262
  v233 := Tryz.zeroValue262
  g17 := by kernel_rfl
  g18 := by kernel_rfl
  g19 := by kernel_rfl
  i0 := by kernel_rfl
  i2 := by kernel_rfl
  i3 := by kernel_rfl
  i4 := by kernel_rfl
  i5 := by kernel_rfl
  i9 := by kernel_rfl
  i20 := by kernel_rfl
  i37 := by kernel_rfl
  i46 := by kernel_rfl
  i51 := by kernel_rfl
  i53 := by kernel_rfl
  i171 := by kernel_rfl
  i173 := by kernel_rfl
  i212 := by kernel_rfl
  i232 := by kernel_rfl
  i233 := by kernel_rfl
  m17 := by kernel_rfl
  m18 := by kernel_rfl
  m19 := by kernel_rfl
end Go.Proofs.YtdfjbnfdknpahaaGreatDoor
/- strconv.Atoi at every string: that the loaded program bears the texts that the library's contracts speak of. -/
namespace Go.Proofs.YtdfjbnfdknpahaaGreatDoor
set_option linter.unusedVariables false
set_option linter.unusedSimpArgs false
open Go.RowKit Go.Proofs
def atRen : Go.Shelf.Ren := ⟨fun | 129 => 159 | 171 => 79 | 172 => 95 | 205 => 157 | 243 => 105 | 244 => 116 | 245 => 117 | 246 => 121 | 247 => 136 | 279 => 137 | 280 => 138 | 281 => 139 | 282 => 140 | 283 => 144 | 284 => 145 | 285 => 146 | 286 => 147 | 287 => 155 | 316 => 156 | 317 => 158 | 318 => 160 | 319 => 161 | 320 => 162 | 321 => 165 | 322 => 166 | 337 => 167 | 338 => 168 | n => n, fun | 0 => 0 | 2 => 2 | 3 => 3 | 4 => 4 | 5 => 5 | 9 => 9 | 20 => 20 | 21 => 21 | 37 => 40 | 46 => 220 | 51 => 242 | 53 => 229 | 75 => 34 | 76 => 46 | 80 => 49 | 85 => 222 | 127 => 108 | 143 => 257 | 145 => 259 | 167 => 221 | 168 => 224 | 171 => 228 | 173 => 232 | 175 => 245 | 210 => 248 | 212 => 251 | 213 => 252 | 232 => 261 | 233 => 262 | n => n, fun | 15 => 5 | 16 => 6 | 17 => 7 | 18 => 8 | 19 => 9 | n => n⟩
theorem atL : LaysC.n172 Tryz.prog atRen where
  mixed := by kernel_rfl
  f129 := Tryz.func159.trans (congrArg some (by kernel_rfl))
  f171 := Tryz.func79.trans (congrArg some (by kernel_rfl))
  f172 := Tryz.func95.trans (congrArg some (by kernel_rfl))
  f205 := Tryz.func157.trans (congrArg some (by kernel_rfl))
  f243 := Tryz.func105.trans (congrArg some (by kernel_rfl))
  f244 := Tryz.func116.trans (congrArg some (by kernel_rfl))
  f245 := Tryz.func117.trans (congrArg some (by kernel_rfl))
  f246 := Tryz.func121.trans (congrArg some (by kernel_rfl))
  f247 := Tryz.func136.trans (congrArg some (by kernel_rfl))
  f279 := Tryz.func137.trans (congrArg some (by kernel_rfl))
  f280 := Tryz.func138.trans (congrArg some (by kernel_rfl))
  f281 := Tryz.func139.trans (congrArg some (by kernel_rfl))
  f282 := Tryz.func140.trans (congrArg some (by kernel_rfl))
  f283 := Tryz.func144.trans (congrArg some (by kernel_rfl))
  f284 := Tryz.func145.trans (congrArg some (by kernel_rfl))
  f285 := Tryz.func146.trans (congrArg some (by kernel_rfl))
  f286 := Tryz.func147.trans (congrArg some (by kernel_rfl))
  f287 := Tryz.func155.trans (congrArg some (by kernel_rfl))
  f316 := Tryz.func156.trans (congrArg some (by kernel_rfl))
  f317 := Tryz.func158.trans (congrArg some (by kernel_rfl))
  f318 := Tryz.func160.trans (congrArg some (by kernel_rfl))
  f319 := Tryz.func161.trans (congrArg some (by kernel_rfl))
  f320 := Tryz.func162.trans (congrArg some (by kernel_rfl))
  f321 := Tryz.func165.trans (congrArg some (by kernel_rfl))
  f322 := Tryz.func166.trans (congrArg some (by kernel_rfl))
  f337 := Tryz.func167.trans (congrArg some (by kernel_rfl))
  f338 := Tryz.func168.trans (congrArg some (by kernel_rfl))
  t0 := Tryz.underlying0
  a0 := Tryz.isAgg0
  z0 := Tryz.sizeOf0
  v0 := Tryz.zeroValue0
  t2 := Tryz.underlying2
  a2 := Tryz.isAgg2
  z2 := Tryz.sizeOf2
  v2 := Tryz.zeroValue2
  t3 := Tryz.underlying3
  a3 := Tryz.isAgg3
  z3 := Tryz.sizeOf3
  v3 := Tryz.zeroValue3
  t4 := Tryz.underlying4
  a4 := Tryz.isAgg4
  z4 := Tryz.sizeOf4
  v4 := Tryz.zeroValue4
  t5 := Tryz.underlying5
  a5 := Tryz.isAgg5
  z5 := Tryz.sizeOf5
  v5 := Tryz.zeroValue5
  t9 := Tryz.underlying9
  a9 := Tryz.isAgg9
  z9 := Tryz.sizeOf9
  v9 := Tryz.zeroValue9
  t20 := Tryz.underlying20
  a20 := Tryz.isAgg20
  z20 := Tryz.sizeOf20
  v20 := Tryz.zeroValue20
  t21 := Tryz.underlying21
  a21 := Tryz.isAgg21
  z21 := Tryz.sizeOf21
  v21 := Tryz.zeroValue21
  t37 := Tryz.underlying40
  a37 := Tryz.isAgg40
  z37 := Tryz.sizeOf40
  v37 := Tryz.zeroValue40
  t46 := Tryz.underlying220
  a46 := Tryz.isAgg220
  z46 := Tryz.sizeOf220
  v46 := Tryz.zeroValue220
  t51 := Tryz.underlying242
  a51 := Tryz.isAgg242
  z51 := Tryz.sizeOf242
  v51 := Tryz.zeroValue242
  t53 := Tryz.underlying229
  a53 := Tryz.isAgg229
  z53 := Tryz.sizeOf229
  v53 := Tryz.zeroValue229
  t75 := Tryz.underlying34
  a75 := Tryz.isAgg34
  z75 := Tryz.sizeOf34
  v75 := Tryz.zeroValue34
  t76 := Tryz.underlying46
  a76 := Tryz.isAgg46
  z76 := Tryz.sizeOf46
  v76 := Tryz.zeroValue46
  t85 := Tryz.underlying222
  a85 := Tryz.isAgg222
  z85 := Tryz.sizeOf222
  v85 := Tryz.zeroValue222
  t127 := Tryz.underlying108
  a127 := Tryz.isAgg108
  z127 := Tryz.sizeOf108
  v127 := Tryz.zeroValue108
  t143 := Tryz.underlying257
  a143 := Tryz.isAgg257
  z143 := Tryz.sizeOf257
  v143 := Tryz.zeroValue257
  t145 := Tryz.underlying259
  a145 := Tryz.isAgg259
  z145 := Tryz.sizeOf259
  v145 := Tryz.zeroValue259
  t167 := Tryz.underlying221
  a167 := Tryz.isAgg221
  z167 := Tryz.sizeOf221
  v167 := Tryz.zeroValue221
  t168 := Tryz.underlying224
  a168 := Tryz.isAgg224
  z168 := Tryz.sizeOf224
  v168 := Tryz.zeroValue224
  t171 := Tryz.underlying228
  a171 := Tryz.isAgg228
  z171 := Tryz.sizeOf228
  v171 := Tryz.zeroValue228
  t173 := Tryz.underlying232
  a173 := Tryz.isAgg232
  z173 := Tryz.sizeOf232
  v173 := Tryz.zeroValue232
  t175 := Tryz.underlying245
  a175 := Tryz.isAgg245
  z175 := Tryz.sizeOf245
  v175 := Tryz.zeroValue245
  t210 := Tryz.underlying248
  a210 := Tryz.isAgg248
  z210 := Tryz.sizeOf248
  v210 := Tryz.zeroValue248
  t212 := Tryz.underlying251
  a212 := Tryz.isAgg251
  z212 := Tryz.sizeOf251
  v212 := Tryz.zeroValue251
  t213 := Tryz.underlying252
  a213 := Tryz.isAgg252
  z213 := Tryz.sizeOf252
  t232 := Tryz.underlying261
  a232 := Tryz.isAgg261
  z232 := Tryz.sizeOf261
  v232 := Tryz.zeroValue261
  t233 := Tryz.underlying262
  a233 := Tryz.isAgg262
  z233 := Tryz.sizeOf262
  v233 := Tryz.zeroValue262
  g15 := by kernel_rfl
  g16 := by kernel_rfl
  g17 := by kernel_rfl
  g18 := by kernel_rfl
  g19 := by kernel_rfl
  t80 := Tryz.underlying49
  a80 := Tryz.isAgg49
  z80 := Tryz.sizeOf49
  v80 := Tryz.zeroValue49
  i0 := by kernel_rfl
  i2 := by kernel_rfl
  i3 := by kernel_rfl
  i4 := by kernel_rfl
  i5 := by kernel_rfl
  i9 := by kernel_rfl
  i20 := by kernel_rfl
  i21 := by kernel_rfl
  i37 := by kernel_rfl
  i46 := by kernel_rfl
  i51 := by kernel_rfl
  i53 := by kernel_rfl
  i75 := by kernel_rfl
  i76 := by kernel_rfl
  i80 := by kernel_rfl
  i85 := by kernel_rfl
  i127 := by kernel_rfl
  i143 := by kernel_rfl
  i145 := by kernel_rfl
  i167 := by kernel_rfl
  i168 := by kernel_rfl
  i171 := by kernel_rfl
  i173 := by kernel_rfl
  i175 := by kernel_rfl
  i210 := by kernel_rfl
  i212 := by kernel_rfl
  i232 := by kernel_rfl
  i233 := by kernel_rfl
  m15 := by kernel_rfl
  m16 := by kernel_rfl
  m17 := by kernel_rfl
  m18 := by kernel_rfl
  m19 := by kernel_rfl
  c0 := by kernel_rfl
  c2 := by kernel_rfl
  c3 := by kernel_rfl
  c4 := by kernel_rfl
  c5 := by kernel_rfl
  c9 := by kernel_rfl
  c20 := by kernel_rfl
  c21 := by kernel_rfl
  c37 := by kernel_rfl
  c46 := by kernel_rfl
  c51 := by kernel_rfl
  c53 := by kernel_rfl
  c75 := by kernel_rfl
  c76 := by kernel_rfl
  c80 := by kernel_rfl
  c85 := by kernel_rfl
  c127 := by kernel_rfl
  c143 := by kernel_rfl
  c145 := by kernel_rfl
  c167 := by kernel_rfl
  c168 := by kernel_rfl
  c171 := by kernel_rfl
  c173 := by kernel_rfl
  c175 := by kernel_rfl
  c210 := by kernel_rfl
  c212 := by kernel_rfl
  c213 := by kernel_rfl
  c232 := by kernel_rfl
  c233 := by kernel_rfl
end Go.Proofs.YtdfjbnfdknpahaaGreatDoor
/- A number's word, plainly: what Atoi and Itoa say of it. -/
namespace Go.Proofs.YtdfjbnfdknpahaaGreatDoor
set_option linter.unusedVariables false
set_option linter.unusedSimpArgs false
open Go.RowKit
theorem parse_dig : ∀ (s : List UInt8) (acc k : Nat), s.all digOk = true → acc < 10 ^ k → s.length + k ≤ 17 → Lib.parseUint10 acc s = .ok (s.foldl (fun n b => n * 10 + (b.toNat - 48)) acc)
  | [], acc, k, _, _, _ => rfl
  | c :: r, acc, k, h, ha, hk => by
    rw [List.all_cons, Bool.and_eq_true] at h
    have hc : 48 ≤ c.toNat ∧ c.toNat ≤ 57 := by
      have := h.1
      unfold digOk at this
      simpa using this
    have hp : 10 ^ (k + 1) = 10 ^ k * 10 := Nat.pow_succ ..
    rw [List.length_cons] at hk
    have h17 : 10 ^ (k + 1) ≤ 10 ^ 17 := Nat.pow_le_pow_right (by decide) (by omega)
    have h17' : (10 : Nat) ^ 17 = 100000000000000000 := by decide
    rw [Lib.parseUint10, if_pos hc, if_neg (by omega), if_neg (by omega), parse_dig r _ (k + 1) h.2 (by omega) (by omega)]
    rfl
theorem numOk_parts {s : List UInt8} (h : numOk s = true) : s ≠ [] ∧ s.length ≤ 4 ∧ (s.getD 0 0 = 48 → s.length ≤ 1) ∧ s.all digOk = true := by
  unfold numOk at h
  simp only [Bool.and_eq_true, decide_eq_true_eq, Bool.not_eq_true', Bool.and_eq_false_iff, decide_eq_false_iff_not] at h
  refine ⟨h.1, h.2.1, fun h0 => ?_, h.2.2.2⟩
  rcases h.2.2.1 with h3 | h3
  · exact absurd h0 h3
  · omega
theorem numOk_mk {s : List UInt8} (h1 : s ≠ []) (h2 : s.length ≤ 4) (h3 : s.getD 0 0 = 48 → s.length ≤ 1) (h4 : s.all digOk = true) : numOk s = true := by
  unfold numOk
  simp only [Bool.and_eq_true, decide_eq_true_eq, Bool.not_eq_true', Bool.and_eq_false_iff, decide_eq_false_iff_not]
  refine ⟨h1, h2, ?_, h4⟩
  by_cases h0 : s.getD 0 0 = 48
  · right; have := h3 h0; omega
  · exact .inl h0
theorem num_atoi {s : List UInt8} (h : numOk s = true) : Lib.atoiAll s = .ok (numV s : Nat) := by
  obtain ⟨h1, h2, h3, h4⟩ := numOk_parts h
  have hlt := numV_le s.length s rfl h4
  have hlt2 : numV s < 100000 := by
    have : 10 ^ s.length ≤ 10 ^ 4 := Nat.pow_le_pow_right (by decide) h2
    omega
  have hp := parse_dig s 0 1 h4 (by decide) (by omega)
  cases s with
  | nil => exact absurd rfl h1
  | cons c r =>
    have hc : 48 ≤ c.toNat ∧ c.toNat ≤ 57 := by
      rw [List.all_cons, Bool.and_eq_true] at h4
      have := h4.1
      unfold digOk at this
      simpa using this
    rw [Lib.atoiAll_plain c r (by omega) (by omega)]
    have e : Lib.parseMag (c :: r) = .ok (numV (c :: r)) := by
      unfold Lib.parseMag
      rw [if_neg (by simp), hp]
      rfl
    rw [e]
    unfold Lib.signless
    first | done | (simp only []; rw [if_neg (by omega)]) | (simp; omega)
theorem dec_num : ∀ (m : Nat) (s : List UInt8), s.length = m → s ≠ [] → s.all digOk = true → (s.getD 0 0 = 48 → s.length ≤ 1) → Lib.decDigits (numV s) = s := by
  intro m
  induction m with
  | zero => intro s h h1; exact absurd (List.length_eq_zero_iff.1 h) h1
  | succ m ih =>
    intro s h h1 h4 h3
    rcases List.eq_nil_or_concat s with rfl | ⟨r, b, rfl⟩
    · exact absurd rfl h1
    rw [List.concat_eq_append] at h h4 h3 ⊢
    have hb : 48 ≤ b.toNat ∧ b.toNat ≤ 57 := by
      rw [List.all_append, Bool.and_eq_true] at h4
      have h5 : digOk b = true := by simpa using h4.2
      unfold digOk at h5
      simpa using h5
    have hb2 : UInt8.ofNat (48 + (b.toNat - 48)) = b := by
      rw [show 48 + (b.toNat - 48) = b.toNat by omega]; simp
    rw [numV_snoc]
    by_cases hr : r = []
    · subst hr
      show Lib.decDigits (0 * 10 + (b.toNat - 48)) = [b]
      rw [Nat.zero_mul, Nat.zero_add, Lib.decDigits_one (by omega), hb2]
    · have hl : 2 ≤ (r ++ [b]).length := by
        cases r with
        | nil => exact absurd rfl hr
        | cons x q => simp
      have h0 : ¬ r.getD 0 0 = 48 := fun hc => by
        have : (r ++ [b]).getD 0 0 = 48 := by
          cases r with
          | nil => exact absurd rfl hr
          | cons x q => exact hc
        have := h3 this
        omega
      have ih2 := ih r (by rw [List.length_append] at h; simpa using h) hr (by rw [List.all_append, Bool.and_eq_true] at h4; exact h4.1) (fun hc => absurd hc h0)
      have hpos : 1 ≤ numV r := by
        rcases Nat.eq_zero_or_pos (numV r) with hz | hz
        · rw [hz, Lib.decDigits_one (by decide)] at ih2
          rw [← ih2] at h0
          exact absurd rfl h0
        · exact hz
      rw [Lib.decDigits, dif_neg (by omega), show (numV r * 10 + (b.toNat - 48)) / 10 = numV r by omega, ih2, show (numV r * 10 + (b.toNat - 48)) % 10 = b.toNat - 48 by omega, hb2]
theorem num_itoa {s : List UInt8} (h : numOk s = true) : Lib.itoa (numV s : Nat) = s := by
  obtain ⟨h1, h2, h3, h4⟩ := numOk_parts h
  unfold Lib.itoa
  rw [if_neg (by omega), Int.toNat_natCast]
  exact dec_num _ s rfl h1 h4 h3
theorem dec_shape : ∀ n : Nat, Lib.decDigits n ≠ [] ∧ (Lib.decDigits n).all digOk = true ∧ ((Lib.decDigits n).getD 0 0 = 48 → n = 0) := by
  intro n
  induction n using Nat.strongRecOn with
  | _ n ih =>
    have dg : ∀ d, d < 10 → digOk (UInt8.ofNat (48 + d)) = true := by decide
    have d0 : ∀ d, d < 10 → UInt8.ofNat (48 + d) = 48 → d = 0 := by decide
    by_cases h : n < 10
    · rw [Lib.decDigits_one h]
      exact ⟨by simp, by rw [List.all_cons, dg n h]; rfl, fun h0 => d0 n h h0⟩
    · obtain ⟨h1, h2, h3⟩ := ih (n / 10) (by omega)
      rw [Lib.decDigits, dif_neg h]
      refine ⟨by simp, ?_, fun h0 => ?_⟩
      · rw [List.all_append, h2]
        rw [List.all_cons, dg (n % 10) (by omega)]; rfl
      · have : (Lib.decDigits (n / 10)).getD 0 0 = 48 := by
          cases hd : Lib.decDigits (n / 10) with
          | nil => exact absurd hd h1
          | cons x q => rw [hd] at h0; exact h0
        have := h3 this
        omega
theorem itoa_num {s : List UInt8} {v : Int} (hv : 0 ≤ v) (hl : s.length ≤ 4) (h : Lib.itoa v = s) : numOk s = true := by
  unfold Lib.itoa at h
  rw [if_neg (by omega)] at h
  obtain ⟨h1, h2, h3⟩ := dec_shape v.toNat
  rw [h] at h1 h2 h3
  refine numOk_mk h1 hl (fun h0 => ?_) h2
  have := h3 h0
  rw [this, Lib.decDigits_one (by decide)] at h
  rw [← h]
  decide
theorem digB_small {n : Nat} : tx (Lib.decDigits n) = ⟨(Lib.decDigits n).toArray⟩ := rfl
end Go.Proofs.YtdfjbnfdknpahaaGreatDoor
