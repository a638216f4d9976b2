/- Contracts of package view: who is shared by two lists. -/
import Derived.Test.YtdeeephdojflpaaDoorView
import Derived.Lib.SliceRun
namespace Go.Proofs.YtdeeephdojflpaaDoor
set_option linter.unusedVariables false
set_option linter.unusedSimpArgs false
open Go.RowKit
def shF (c : Nat) : Value := .func (.func 99) #[] #[.pointer (some ⟨c, 0, none⟩)]
set_option maxRecDepth 100000 in
set_option maxHeartbeats 4000000 in
theorem sh1_any (c : Nat) (m : Int) (vb : Value) (B : List Int) (w : World) (hc : w.cell? ⟨c, 0, none⟩ = some vb) (hB : Ints w vb B) :
    Calls Tryd.prog 99 #[.int .i64 m, .pointer (some ⟨c, 0, none⟩)] w fun e w' => e = .returned (.bool (!decide (m ∈ B))) ∧ w = w' := by
  obtain ⟨ad, cap, rfl, _, _⟩ := hB.shape
  have HB := Lib.hid hB
  clear hB
  go_enter Tryd.func99, Tryd.ntmps99
  go_wp2_with fail
  refine (containsInt_any _ B m _ HB.out).mono ?_
  rintro e w' ⟨rfl, rfl⟩
  go_wp2
  go_ret
  exact ⟨rfl, rfl⟩
set_option maxRecDepth 100000 in
set_option maxHeartbeats 4000000 in
theorem shIndex_any (c : Nat) (v vb : Value) (l B : List Int) (w : World) (hc : w.cell? ⟨c, 0, none⟩ = some vb) (hB : Ints w vb B) (hl : Ints w v l) :
    Calls Tryd.prog 101 #[v, shF c] w fun e w' => e = .returned (.int .i64 (whereIs (fun n => !decide (n ∈ B)) l)) ∧ w = w' := by
  obtain ⟨ad, cap, rfl, hlc, hcap⟩ := hl.shape
  unfold shF
  have HL := Lib.hid hl; have HB := Lib.hid hB
  clear hl hB
  go_enter Tryd.func101, Tryd.ntmps101
  go_wp2_with fail
  go_loop [8] (fun i => ∃ k : Nat, k ≤ l.length ∧ i = .int .i64 k ∧ Hid (∀ j (_ : j < k) (h : j < l.length), l[j] ∈ B)) (fun i => l.length - (intOf i).toNat)
  case atStart => exact ⟨0, Nat.zero_le _, rfl, Lib.hid (fun j h => by omega)⟩
  case round =>
    obtain ⟨k, hk, rfl, hp⟩ := hrel
    by_cases hlt : k < l.length
    rotate_left
    · have hm : whereIs (fun n => !decide (n ∈ B)) l = -1 := whereIs_miss _ l (fun j h => by simpa using hp.out j (by omega) h)
      have HM := Lib.hid hm
      clear hm
      go_wp2
      go_ret
      exact ⟨by rw [HM.out]; rfl, rfl⟩
    obtain ⟨aa, rfl, hca⟩ := HL.out.at k hlt
    by_cases hin : l[k] ∈ B
    · have hn : ∀ j (_ : j < k + 1) (h : j < l.length), l[j] ∈ B := fun j h1 h2 => by
        by_cases e : j = k
        · subst e; exact hin
        · exact hp.out j (by omega) h2
      have HN := Lib.hid hn
      clear hn
      go_wp2_with fail
      refine (sh1_any c l[k] vb B _ hc HB.out).mono ?_
      rintro e w' ⟨rfl, rfl⟩
      rw [decide_eq_true hin]
      have HIN := Lib.hid hin
      clear hin
      go_wp2
      go_round
      case rel => exact ⟨k + 1, by omega, by go_num, HN⟩
      case measure => simp [intOf]; omega
    · have hm : whereIs (fun n => !decide (n ∈ B)) l = k := whereIs_hit _ l k hlt (fun j h => by simpa using hp.out j h (by omega)) (by simpa using hin)
      have HM := Lib.hid hm
      clear hm
      go_wp2_with fail
      refine (sh1_any c l[k] vb B _ hc HB.out).mono ?_
      rintro e w' ⟨rfl, rfl⟩
      rw [decide_eq_false hin]
      have HIN := Lib.hid hin
      clear hin
      go_wp2
      go_ret
      exact ⟨by rw [HM.out]; rfl, rfl⟩
theorem whereIs_spec (p : Int → Bool) : ∀ (l : List Int) (q : Nat), whereIs p l = q → ∃ (h : q < l.length), (∀ j (hj : j < q), p (l[j]'(by omega)) = false) ∧ p l[q] = true
  | [], q, h => by
    exfalso
    simp only [whereIs] at h
    omega
  | x :: r, q, h => by
    unfold whereIs at h
    by_cases hx : p x = true
    · rw [if_pos hx] at h
      have : q = 0 := by omega
      subst this
      exact ⟨by simp, fun j hj => by omega, by simpa using hx⟩
    · rw [if_neg hx] at h
      split at h
      · omega
      rename_i h0
      obtain ⟨q', rfl⟩ : ∃ q', q = q' + 1 := ⟨q - 1, by omega⟩
      obtain ⟨h1, h2, h3⟩ := whereIs_spec p r q' (by omega)
      refine ⟨by simp; omega, fun j hj => ?_, by simpa using h3⟩
      cases j with
      | zero => simpa using hx
      | succ j => simpa using h2 j (by omega)
def keepB (B : List Int) (l : List Int) : List Int := l.filter fun x => decide (x ∈ B)
/-- The front of a row kept, the rest cleared. -/
theorem clear_back {w0 w : World} {b off n cap i : Nat} {M : List Int} {R : HProp} (hi : i ≤ n) (hM : M.length = n) (h : Own w0 (IntSl (.slice (some ⟨b, off, none⟩) n cap) M * R) w) :
    (∀ j, j < n → (w.cell? ⟨b, off + j, none⟩).isSome = true) ∧ (∀ j, w.frozen? ⟨b, off + j, none⟩ = false) ∧ Own w0 (IntSl (.slice (some ⟨b, off, none⟩) i cap) (M.take i) * R) (w.setCells b (off + i) (List.replicate (n - i) (.int .i64 0))) := by
  unfold IntSl at h
  rw [hM] at h
  rcases h.sl_cases with ⟨h1, _⟩ | ⟨b', off', cap', cs, h1, h2, h3, h4, h5, h6, ho⟩
  · cases h1
  injection h1 with e1 e2 e3
  injection e1 with e1
  injection e1 with e1 e4
  subst e1; subst e4; subst e3
  rw [Nat.mul_one] at h4 h5
  have hlt : (M.take i).length = i := by rw [List.length_take]; omega
  refine ⟨fun j hj => ?_, fun j => ho.free _ _, ?_⟩
  · rw [ho.cell, h6 j (by omega)]
    simp [show j < M.length by omega]
  · unfold IntSl
    rw [hlt]
    refine Own.sl_mk (by omega) h3 (by simp; omega) (by rw [setL_size]; omega) (fun j hj => ?_) (Own.setCells _ _ _ _ ho)
    rw [List.length_map, hlt] at hj
    rw [setL_out _ _ _ _ (by left; omega), h6 j (by omega), List.getElem?_map, List.getElem?_map, List.getElem?_take, if_pos hj]
theorem int_zero : ∀ w, (zeroValue 3).run Tryd.prog w = .ok (.int .i64 0) w := fun _ => by kernel_rfl
set_option maxRecDepth 100000 in
set_option maxHeartbeats 4000000 in
theorem del_any {w0 w : World} {R : HProp} (c : Nat) (v vb : Value) (l B : List Int) (hl : ∀ x ∈ l, I64 x) (HB : Hid (∀ w', Own w0 R w' → w'.cell? ⟨c, 0, none⟩ = some vb ∧ Ints w' vb B)) (h : Own w0 (IntSl v l * R) w) :
    Calls Tryd.prog 98 #[v, shF c] w fun e w' => ∃ v', e = .returned v' ∧ Own w0 (IntSl v' (keepB B l) * R) w' := by
  have hv := IntSl_reads hl _ h
  obtain ⟨ad, cap, rfl, hlc, hcap⟩ := hv.shape
  obtain ⟨n, hn⟩ : ∃ n, n = l.length := ⟨_, rfl⟩
  obtain ⟨hc0, hB0⟩ := HB.out _ h.drop
  have HIX := Lib.hid (shIndex_any c _ vb l B w hc0 hB0 hv)
  rw [← hn] at hlc
  have H := Lib.hid h
  rw [← hn] at HIX H ⊢
  unfold shF at HIX ⊢
  by_cases hall : ∀ x ∈ l, x ∈ B
  · have hw : whereIs (fun n => !decide (n ∈ B)) l = -1 := whereIs_miss _ l (fun j h => by simpa using hall _ (List.getElem_mem h))
    have hk : keepB B l = l := List.filter_eq_self.2 (fun x hx => by simpa using hall x hx)
    have HW := Lib.hid hw; have HK := Lib.hid hk; have HV := Lib.hid hv; have HL := Lib.hid hl; have HALL := Lib.hid hall; have HB0 := Lib.hid hB0; have HN := Lib.hid hn
    clear hw hk hv hl hall hB0 hn
    clear h
    go_enter Tryd.func98, Tryd.ntmps98
    go_wp2_with fail
    refine HIX.out.mono ?_
    rintro e w' ⟨rfl, rfl⟩
    rw [HW.out]
    go_wp2
    go_ret
    exact ⟨_, rfl, by rw [HK.out]; exact H.out⟩
  obtain ⟨q, hq⟩ : ∃ q : Nat, whereIs (fun n => !decide (n ∈ B)) l = q := by
    refine ⟨(whereIs (fun n => !decide (n ∈ B)) l).toNat, ?_⟩
    have hneg : ¬ whereIs (fun n => !decide (n ∈ B)) l < 0 := fun h => by
      rw [whereIs_neg, List.any_eq_false] at h
      exact hall fun x hx => by simpa using h x hx
    omega
  have hwi := whereIs_spec (fun n => !decide (n ∈ B)) l q hq
  obtain ⟨hqn, hqb, hql⟩ := hwi
  have hql' : l[q]'hqn ∉ B := by simpa using hql
  have hkq : keepB B (l.take q) = l.take q := List.filter_eq_self.2 (fun x hx => by
    obtain ⟨j, hj, rfl⟩ := List.mem_iff_getElem.1 hx
    rw [List.length_take] at hj
    have := hqb j (by omega)
    rw [List.getElem_take]
    simpa using this)
  have hkq1 : keepB B (l.take (q + 1)) = l.take q := by
    rw [List.take_succ_eq_append_getElem hqn]
    unfold keepB at hkq ⊢
    rw [List.filter_append, hkq]
    simp [hql']
  have hqn' : q < n := by omega
  have HM0 : Hid (∃ M : List Int, M.length = n ∧ M.take q = keepB B (l.take (q + 1)) ∧ M.drop (q + 1) = l.drop (q + 1) ∧ Own w0 (IntSl (.slice ad n cap) M * R) w) := Lib.hid ⟨l, hn.symm, hkq1.symm, rfl, H.out⟩
  have hcap2 : cap ≤ 9223372036854775807 := hcap
  have hnp : 0 < n := by omega
  obtain ⟨b, off, cp, hsl, _⟩ := Own.ints_at H.out (by omega)
  injection hsl with e1 e2 e3
  subst e1; subst e3
  clear e2
  have HIX2 := HIX.out
  rw [hq] at HIX2
  have HIX3 := Lib.hid HIX2
  have hzc := fun w => Lib.run_clear_slice (P := Tryd.prog) w 43 3
  clear hzc HIX2 HIX
  have HQ := Lib.hid hq; have HQB := Lib.hid hqb; have HQL := Lib.hid hql; have HQL' := Lib.hid hql'; have HKQ := Lib.hid hkq; have HKQ1 := Lib.hid hkq1; have HALL := Lib.hid hall; have HV := Lib.hid hv; have HB0 := Lib.hid hB0; have HL := Lib.hid hl; have HN := Lib.hid hn
  clear hq hqb hql hql' hkq hkq1 hall hv hB0 hl hn
  clear h
  have tq : ((q : Int) == -1) = false := by rw [beq_eq_false_iff_ne]; omega
  go_enter Tryd.func98, Tryd.ntmps98
  go_wp2_with fail
  refine HIX3.out.mono ?_
  rintro e w' ⟨rfl, rfl⟩
  go_wp2_with fail
  go_loopw [5, 6] (fun iv jv wr => ∃ j i : Nat, q + 1 ≤ j ∧ j ≤ n ∧ i < j ∧ iv = .int .i64 i ∧ jv = .int .i64 j ∧ Hid (i = (keepB B (l.take j)).length ∧ ∃ M : List Int, M.length = n ∧ M.take i = keepB B (l.take j) ∧ M.drop j = l.drop j ∧ Own w0 (IntSl (.slice (some ⟨b, off, none⟩) n cap) M * R) wr)) (fun _ jv _ => n - (intOf jv).toNat)
  case atStart =>
    refine ⟨q + 1, q, Nat.le_refl _, by omega, by omega, rfl, by go_num, Lib.hid ⟨?_, ?_⟩⟩
    · rw [HKQ1.out, List.length_take]; omega
    · obtain ⟨M, a1, a2, a3, a4⟩ := HM0.out
      exact ⟨M, a1, a2, a3, a4⟩
  case round =>
    obtain ⟨j, i, hj1, hj2, hij, rfl, rfl, hp⟩ := hrel
    obtain ⟨hiq, M, a1, a2, a3, a4⟩ := hp.out
    by_cases hlt : j < n
    · have hjl : j < l.length := by rw [← HN.out]; exact hlt
      have hjM : j < M.length := by omega
      obtain ⟨b', off', cp', hsl', _, _, hcell, hfree, _, _, hset⟩ := Own.ints_at a4 (by omega)
      injection hsl' with e1 e2 e3
      clear e2
      injection e1 with e1
      injection e1 with e1 e4
      subst e1; subst e4; subst e3
      obtain ⟨x, hx⟩ : ∃ x, x = l[j] := ⟨_, rfl⟩
      have hMj : M[j] = x := by
        have h1 : (M.drop j)[0]? = (l.drop j)[0]? := by rw [a3]
        rw [List.getElem?_drop, List.getElem?_drop, Nat.add_zero, List.getElem?_eq_getElem hjM, List.getElem?_eq_getElem hjl] at h1
        rw [hx]; injection h1
      have c1 := hcell j hjM
      rw [hMj] at c1
      obtain ⟨hcc, hBB⟩ := HB.out _ a4.drop
      have f1 := hfree (off + i) none
      have hiM : i < M.length := by omega
      obtain ⟨mi, hmi⟩ : ∃ x, x = M[i]'hiM := ⟨_, rfl⟩
      have ci := hcell i hiM
      rw [← hmi] at ci
      clear hmi
      have htk : l.take (j + 1) = l.take j ++ [x] := by rw [hx]; exact List.take_succ_eq_append_getElem hjl
      have hd : M.drop (j + 1) = l.drop (j + 1) := by rw [← List.drop_drop, a3, List.drop_drop]
      have hsj := hset i x (by omega)
      have HBB := Lib.hid hBB
      have HA4 := Lib.hid a4
      by_cases hin : x ∈ B
      · have hk : keepB B (l.take (j + 1)) = keepB B (l.take j) ++ [x] := by rw [htk]; unfold keepB; rw [List.filter_append]; simp [hin]
        have fin : i + 1 = (keepB B (l.take (j + 1))).length ∧ ∃ M : List Int, M.length = n ∧ M.take (i + 1) = keepB B (l.take (j + 1)) ∧ M.drop (j + 1) = l.drop (j + 1) ∧ Own w0 (IntSl (.slice (some ⟨b, off, none⟩) n cap) M * R) (wr.setCell ⟨b, off + i, none⟩ (.int .i64 x)) := by
          refine ⟨by rw [hk, List.length_append, ← hiq]; rfl, M.set i x, by rw [List.length_set]; exact a1, ?_, ?_, hsj⟩
          · rw [hk, ← a2, List.take_succ_eq_append_getElem (by rw [List.length_set]; omega), List.getElem_set_self, List.take_set_of_le (Nat.le_refl i)]
          · rw [List.drop_set_of_lt (by omega)]; exact hd
        have FIN := Lib.hid fin; have HK := Lib.hid hk; have HSJ := Lib.hid hsj; have HD := Lib.hid hd; have HTK := Lib.hid htk; have HCELL := Lib.hid hcell; have HFREE := Lib.hid hfree; have HSET := Lib.hid hset; have HX := Lib.hid hx; have HMJ := Lib.hid hMj; have HIQ := Lib.hid hiq; have A2 := Lib.hid a2; have A3 := Lib.hid a3
        clear fin hk hsj hd htk hcell hfree hset hx hMj hiq a2 a3
        clear hp hBB a4
        go_wp2_with fail
        refine (sh1_any c x vb B _ hcc HBB.out).mono ?_
        rintro e w' ⟨rfl, rfl⟩
        rw [decide_eq_true hin]
        have HIN := Lib.hid hin
        clear hin
        go_wp2_with fail
        go_roundw
        case rel => exact ⟨j + 1, i + 1, by omega, by omega, by omega, by go_num, by go_num, FIN⟩
        case measure => simp [intOf]; omega
      · have hk : keepB B (l.take (j + 1)) = keepB B (l.take j) := by rw [htk]; unfold keepB; rw [List.filter_append]; simp [hin]
        have fin : i = (keepB B (l.take (j + 1))).length ∧ ∃ M : List Int, M.length = n ∧ M.take i = keepB B (l.take (j + 1)) ∧ M.drop (j + 1) = l.drop (j + 1) ∧ Own w0 (IntSl (.slice (some ⟨b, off, none⟩) n cap) M * R) wr :=
          ⟨by rw [hk]; exact hiq, M, a1, by rw [hk]; exact a2, hd, a4⟩
        have FIN := Lib.hid fin; have HK := Lib.hid hk; have HSJ := Lib.hid hsj; have HD := Lib.hid hd; have HTK := Lib.hid htk; have HCELL := Lib.hid hcell; have HFREE := Lib.hid hfree; have HSET := Lib.hid hset; have HX := Lib.hid hx; have HMJ := Lib.hid hMj; have HIQ := Lib.hid hiq; have A2 := Lib.hid a2; have A3 := Lib.hid a3
        clear fin hk hsj hd htk hcell hfree hset hx hMj hiq a2 a3
        clear hp hBB a4
        go_wp2_with fail
        refine (sh1_any c x vb B _ hcc HBB.out).mono ?_
        rintro e w' ⟨rfl, rfl⟩
        rw [decide_eq_false hin]
        have HIN := Lib.hid hin
        clear hin
        go_wp2_with fail
        go_roundw
        case rel => exact ⟨j + 1, i, by omega, by omega, by omega, by go_num, by go_num, FIN⟩
        case measure => simp [intOf]; omega
    · have hjn : j = n := by omega
      have hkl : keepB B (l.take j) = keepB B l := by rw [List.take_of_length_le (by rw [← HN.out]; omega)]
      rw [hkl] at hiq a2
      obtain ⟨k1, k2, k3⟩ := clear_back (i := i) (by omega) a1 a4
      rw [a2] at k3
      have hrun : ∀ ty, (Builtin.clear_ #[43] ty #[.slice (some ⟨b, off + i, none⟩) (n - i) (cap - i)]).run Tryd.prog wr = .ok (.tuple #[]) (wr.setCells b (off + i) (List.replicate (n - i) (.int .i64 0))) := fun ty =>
        Lib.run_clear_slice wr 43 3 ty (.int .i64 0) Tryd.underlying43 int_zero rfl rfl b (off + i) (n - i) (cap - i) (by omega) (fun t ht => by rw [Nat.add_assoc]; exact k1 (i + t) (by omega)) (fun t _ => by rw [Nat.add_assoc]; exact k2 (i + t))
      have hne : ¬ cap = i := by omega
      have K3 := Lib.hid k3
      have hin : i < n := by omega
      have HIQ := Lib.hid hiq; have A2 := Lib.hid a2; have A3 := Lib.hid a3; have HKL := Lib.hid hkl; have HJN := Lib.hid hjn; have K1 := Lib.hid k1; have K2 := Lib.hid k2
      clear hiq a2 a3 hkl hjn k1 k2
      clear hp a4 k3
      go_wp2_with fail
      go_ret
      exact ⟨_, rfl, K3.out⟩
end Go.Proofs.YtdeeephdojflpaaDoor
