/- Contracts of package view: who is shared by two lists. -/
import Derived.Test.YtpgonkecicmanaaDoorMPicturePlays7
import Derived.Lib.SliceRun
import Derived.Test.YtpgonkecicmanaaDoorMPicturePlays5
namespace Go.Proofs.YtpgonkecicmanaaDoor
set_option linter.unusedVariables false
set_option linter.unusedSimpArgs false
open Go.RowKit
def shF (c : Nat) : Value := .func (.func 119) #[] #[.pointer (some ⟨c, 0, none⟩)]
set_option maxRecDepth 100000 in
set_option maxHeartbeats 4000000 in
theorem sh1_any (c : Nat) (m : Int) (vb : Value) (B : List Int) (w : World) (hc : w.cell? ⟨c, 0, none⟩ = some vb) (hB : Ints w vb B) :
    Calls Tryd.prog 119 #[.int .i64 m, .pointer (some ⟨c, 0, none⟩)] w fun e w' => e = .returned (.bool (!decide (m ∈ B))) ∧ w = w' := by
  obtain ⟨ad, cap, rfl, _, _⟩ := hB.shape
  have HB := Lib.hid hB
  clear hB
  go_enter Tryd.func119, Tryd.ntmps119
  go_wp2_with fail
  refine (containsInt_any _ B m _ HB.out).mono ?_
  rintro e w' ⟨rfl, rfl⟩
  go_wp2
  go_ret
  exact ⟨rfl, rfl⟩
set_option maxRecDepth 100000 in
set_option maxHeartbeats 4000000 in
theorem shIndex_any (c : Nat) (v vb : Value) (l B : List Int) (w : World) (hc : w.cell? ⟨c, 0, none⟩ = some vb) (hB : Ints w vb B) (hl : Ints w v l) :
    Calls Tryd.prog 113 #[v, shF c] w fun e w' => e = .returned (.int .i64 (whereIs (fun n => !decide (n ∈ B)) l)) ∧ w = w' := by
  obtain ⟨ad, cap, rfl, hlc, hcap⟩ := hl.shape
  unfold shF
  have HL := Lib.hid hl; have HB := Lib.hid hB
  clear hl hB
  go_enter Tryd.func113, Tryd.ntmps113
  go_wp2_with fail
  go_loop [8] (fun i => ∃ k : Nat, k ≤ l.length ∧ i = .int .i64 k ∧ Hid (∀ j (_ : j < k) (h : j < l.length), l[j] ∈ B)) (fun i => l.length - (intOf i).toNat)
  case atStart => exact ⟨0, Nat.zero_le _, rfl, Lib.hid (fun j h => by omega)⟩
  case round =>
    obtain ⟨k, hk, rfl, hp⟩ := hrel
    by_cases hlt : k < l.length
    rotate_left
    · have hm : whereIs (fun n => !decide (n ∈ B)) l = -1 := whereIs_miss _ l (fun j h => by simpa using hp.out j (by omega) h)
      have HM := Lib.hid hm
      clear hm
      go_wp2
      go_ret
      exact ⟨by rw [HM.out]; rfl, rfl⟩
    obtain ⟨aa, rfl, hca⟩ := HL.out.at k hlt
    by_cases hin : l[k] ∈ B
    · have hn : ∀ j (_ : j < k + 1) (h : j < l.length), l[j] ∈ B := fun j h1 h2 => by
        by_cases e : j = k
        · subst e; exact hin
        · exact hp.out j (by omega) h2
      have HN := Lib.hid hn
      clear hn
      go_wp2_with fail
      refine (sh1_any c l[k] vb B _ hc HB.out).mono ?_
      rintro e w' ⟨rfl, rfl⟩
      rw [decide_eq_true hin]
      have HIN := Lib.hid hin
      clear hin
      go_wp2
      go_round
      case rel => exact ⟨k + 1, by omega, by go_num, HN⟩
      case measure => simp [intOf]; omega
    · have hm : whereIs (fun n => !decide (n ∈ B)) l = k := whereIs_hit _ l k hlt (fun j h => by simpa using hp.out j h (by omega)) (by simpa using hin)
      have HM := Lib.hid hm
      clear hm
      go_wp2_with fail
      refine (sh1_any c l[k] vb B _ hc HB.out).mono ?_
      rintro e w' ⟨rfl, rfl⟩
      rw [decide_eq_false hin]
      have HIN := Lib.hid hin
      clear hin
      go_wp2
      go_ret
      exact ⟨by rw [HM.out]; rfl, rfl⟩
theorem whereIs_spec (p : Int → Bool) : ∀ (l : List Int) (q : Nat), whereIs p l = q → ∃ (h : q < l.length), (∀ j (hj : j < q), p (l[j]'(by omega)) = false) ∧ p l[q] = true
  | [], q, h => by
    exfalso
    simp only [whereIs] at h
    omega
  | x :: r, q, h => by
    unfold whereIs at h
    by_cases hx : p x = true
    · rw [if_pos hx] at h
      have : q = 0 := by omega
      subst this
      exact ⟨by simp, fun j hj => by omega, by simpa using hx⟩
    · rw [if_neg hx] at h
      split at h
      · omega
      rename_i h0
      obtain ⟨q', rfl⟩ : ∃ q', q = q' + 1 := ⟨q - 1, by omega⟩
      obtain ⟨h1, h2, h3⟩ := whereIs_spec p r q' (by omega)
      refine ⟨by simp; omega, fun j hj => ?_, by simpa using h3⟩
      cases j with
      | zero => simpa using hx
      | succ j => simpa using h2 j (by omega)
def keepB (B : List Int) (l : List Int) : List Int := l.filter fun x => decide (x ∈ B)
/-- The front of a row kept, the rest cleared. -/
theorem clear_back {w0 w : World} {b off n cap i : Nat} {M : List Int} {R : HProp} (hi : i ≤ n) (hM : M.length = n) (h : Own w0 (IntSl (.slice (some ⟨b, off, none⟩) n cap) M * R) w) :
    (∀ j, j < n → (w.cell? ⟨b, off + j, none⟩).isSome = true) ∧ (∀ j, w.frozen? ⟨b, off + j, none⟩ = false) ∧ Own w0 (IntSl (.slice (some ⟨b, off, none⟩) i cap) (M.take i) * R) (w.setCells b (off + i) (List.replicate (n - i) (.int .i64 0))) := by
  unfold IntSl at h
  rw [hM] at h
  rcases h.sl_cases with ⟨h1, _⟩ | ⟨b', off', cap', cs, h1, h2, h3, h4, h5, h6, ho⟩
  · cases h1
  injection h1 with e1 e2 e3
  injection e1 with e1
  injection e1 with e1 e4
  subst e1; subst e4; subst e3
  rw [Nat.mul_one] at h4 h5
  have hlt : (M.take i).length = i := by rw [List.length_take]; omega
  refine ⟨fun j hj => ?_, fun j => ho.free _ _, ?_⟩
  · rw [ho.cell, h6 j (by omega)]
    simp [show j < M.length by omega]
  · unfold IntSl
    rw [hlt]
    refine Own.sl_mk (by omega) h3 (by simp; omega) (by rw [setL_size]; omega) (fun j hj => ?_) (Own.setCells _ _ _ _ ho)
    rw [List.length_map, hlt] at hj
    rw [setL_out _ _ _ _ (by left; omega), h6 j (by omega), List.getElem?_map, List.getElem?_map, List.getElem?_take, if_pos hj]
theorem int_zero : ∀ w, (zeroValue 3).run Tryd.prog w = .ok (.int .i64 0) w := fun _ => by kernel_rfl
set_option maxRecDepth 100000 in
set_option maxHeartbeats 4000000 in
theorem del_any {w0 w : World} {R : HProp} (c : Nat) (v vb : Value) (l B : List Int) (hl : ∀ x ∈ l, I64 x) (HB : Hid (∀ w', Own w0 R w' → w'.cell? ⟨c, 0, none⟩ = some vb ∧ Ints w' vb B)) (h : Own w0 (IntSl v l * R) w) :
    Calls Tryd.prog 118 #[v, shF c] w fun e w' => ∃ v', e = .returned v' ∧ Own w0 (IntSl v' (keepB B l) * R) w' := by
  have hv := IntSl_reads hl _ h
  obtain ⟨ad, cap, rfl, hlc, hcap⟩ := hv.shape
  obtain ⟨n, hn⟩ : ∃ n, n = l.length := ⟨_, rfl⟩
  obtain ⟨hc0, hB0⟩ := HB.out _ h.drop
  have HIX := Lib.hid (shIndex_any c _ vb l B w hc0 hB0 hv)
  rw [← hn] at hlc
  have H := Lib.hid h
  rw [← hn] at HIX H ⊢
  unfold shF at HIX ⊢
  by_cases hall : ∀ x ∈ l, x ∈ B
  · have hw : whereIs (fun n => !decide (n ∈ B)) l = -1 := whereIs_miss _ l (fun j h => by simpa using hall _ (List.getElem_mem h))
    have hk : keepB B l = l := List.filter_eq_self.2 (fun x hx => by simpa using hall x hx)
    have HW := Lib.hid hw; have HK := Lib.hid hk; have HV := Lib.hid hv; have HL := Lib.hid hl; have HALL := Lib.hid hall; have HB0 := Lib.hid hB0; have HN := Lib.hid hn
    clear hw hk hv hl hall hB0 hn
    clear h
    go_enter Tryd.func118, Tryd.ntmps118
    go_wp2_with fail
    refine HIX.out.mono ?_
    rintro e w' ⟨rfl, rfl⟩
    rw [HW.out]
    go_wp2
    go_ret
    exact ⟨_, rfl, by rw [HK.out]; exact H.out⟩
  obtain ⟨q, hq⟩ : ∃ q : Nat, whereIs (fun n => !decide (n ∈ B)) l = q := by
    refine ⟨(whereIs (fun n => !decide (n ∈ B)) l).toNat, ?_⟩
    have hneg : ¬ whereIs (fun n => !decide (n ∈ B)) l < 0 := fun h => by
      rw [whereIs_neg, List.any_eq_false] at h
      exact hall fun x hx => by simpa using h x hx
    omega
  have hwi := whereIs_spec (fun n => !decide (n ∈ B)) l q hq
  obtain ⟨hqn, hqb, hql⟩ := hwi
  have hql' : l[q]'hqn ∉ B := by simpa using hql
  have hkq : keepB B (l.take q) = l.take q := List.filter_eq_self.2 (fun x hx => by
    obtain ⟨j, hj, rfl⟩ := List.mem_iff_getElem.1 hx
    rw [List.length_take] at hj
    have := hqb j (by omega)
    rw [List.getElem_take]
    simpa using this)
  have hkq1 : keepB B (l.take (q + 1)) = l.take q := by
    rw [List.take_succ_eq_append_getElem hqn]
    unfold keepB at hkq ⊢
    rw [List.filter_append, hkq]
    simp [hql']
  have hqn' : q < n := by omega
  have HM0 : Hid (∃ M : List Int, M.length = n ∧ M.take q = keepB B (l.take (q + 1)) ∧ M.drop (q + 1) = l.drop (q + 1) ∧ Own w0 (IntSl (.slice ad n cap) M * R) w) := Lib.hid ⟨l, hn.symm, hkq1.symm, rfl, H.out⟩
  have hcap2 : cap ≤ 9223372036854775807 := hcap
  have hnp : 0 < n := by omega
  obtain ⟨b, off, cp, hsl, _⟩ := Own.ints_at H.out (by omega)
  injection hsl with e1 e2 e3
  subst e1; subst e3
  clear e2
  have HIX2 := HIX.out
  rw [hq] at HIX2
  have HIX3 := Lib.hid HIX2
  have hzc := fun w => Lib.run_clear_slice (P := Tryd.prog) w 38 3
  clear hzc HIX2 HIX
  have HQ := Lib.hid hq; have HQB := Lib.hid hqb; have HQL := Lib.hid hql; have HQL' := Lib.hid hql'; have HKQ := Lib.hid hkq; have HKQ1 := Lib.hid hkq1; have HALL := Lib.hid hall; have HV := Lib.hid hv; have HB0 := Lib.hid hB0; have HL := Lib.hid hl; have HN := Lib.hid hn
  clear hq hqb hql hql' hkq hkq1 hall hv hB0 hl hn
  clear h
  have tq : ((q : Int) == -1) = false := by rw [beq_eq_false_iff_ne]; omega
  go_enter Tryd.func118, Tryd.ntmps118
  go_wp2_with fail
  refine HIX3.out.mono ?_
  rintro e w' ⟨rfl, rfl⟩
  go_wp2_with fail
  go_loopw [5, 6] (fun iv jv wr => ∃ j i : Nat, q + 1 ≤ j ∧ j ≤ n ∧ i < j ∧ iv = .int .i64 i ∧ jv = .int .i64 j ∧ Hid (i = (keepB B (l.take j)).length ∧ ∃ M : List Int, M.length = n ∧ M.take i = keepB B (l.take j) ∧ M.drop j = l.drop j ∧ Own w0 (IntSl (.slice (some ⟨b, off, none⟩) n cap) M * R) wr)) (fun _ jv _ => n - (intOf jv).toNat)
  case atStart =>
    refine ⟨q + 1, q, Nat.le_refl _, by omega, by omega, rfl, by go_num, Lib.hid ⟨?_, ?_⟩⟩
    · rw [HKQ1.out, List.length_take]; omega
    · obtain ⟨M, a1, a2, a3, a4⟩ := HM0.out
      exact ⟨M, a1, a2, a3, a4⟩
  case round =>
    obtain ⟨j, i, hj1, hj2, hij, rfl, rfl, hp⟩ := hrel
    obtain ⟨hiq, M, a1, a2, a3, a4⟩ := hp.out
    by_cases hlt : j < n
    · have hjl : j < l.length := by rw [← HN.out]; exact hlt
      have hjM : j < M.length := by omega
      obtain ⟨b', off', cp', hsl', _, _, hcell, hfree, _, _, hset⟩ := Own.ints_at a4 (by omega)
      injection hsl' with e1 e2 e3
      clear e2
      injection e1 with e1
      injection e1 with e1 e4
      subst e1; subst e4; subst e3
      obtain ⟨x, hx⟩ : ∃ x, x = l[j] := ⟨_, rfl⟩
      have hMj : M[j] = x := by
        have h1 : (M.drop j)[0]? = (l.drop j)[0]? := by rw [a3]
        rw [List.getElem?_drop, List.getElem?_drop, Nat.add_zero, List.getElem?_eq_getElem hjM, List.getElem?_eq_getElem hjl] at h1
        rw [hx]; injection h1
      have c1 := hcell j hjM
      rw [hMj] at c1
      obtain ⟨hcc, hBB⟩ := HB.out _ a4.drop
      have f1 := hfree (off + i) none
      have hiM : i < M.length := by omega
      obtain ⟨mi, hmi⟩ : ∃ x, x = M[i]'hiM := ⟨_, rfl⟩
      have ci := hcell i hiM
      rw [← hmi] at ci
      clear hmi
      have htk : l.take (j + 1) = l.take j ++ [x] := by rw [hx]; exact List.take_succ_eq_append_getElem hjl
      have hd : M.drop (j + 1) = l.drop (j + 1) := by rw [← List.drop_drop, a3, List.drop_drop]
      have hsj := hset i x (by omega)
      have HBB := Lib.hid hBB
      have HA4 := Lib.hid a4
      by_cases hin : x ∈ B
      · have hk : keepB B (l.take (j + 1)) = keepB B (l.take j) ++ [x] := by rw [htk]; unfold keepB; rw [List.filter_append]; simp [hin]
        have fin : i + 1 = (keepB B (l.take (j + 1))).length ∧ ∃ M : List Int, M.length = n ∧ M.take (i + 1) = keepB B (l.take (j + 1)) ∧ M.drop (j + 1) = l.drop (j + 1) ∧ Own w0 (IntSl (.slice (some ⟨b, off, none⟩) n cap) M * R) (wr.setCell ⟨b, off + i, none⟩ (.int .i64 x)) := by
          refine ⟨by rw [hk, List.length_append, ← hiq]; rfl, M.set i x, by rw [List.length_set]; exact a1, ?_, ?_, hsj⟩
          · rw [hk, ← a2, List.take_succ_eq_append_getElem (by rw [List.length_set]; omega), List.getElem_set_self, List.take_set_of_le (Nat.le_refl i)]
          · rw [List.drop_set_of_lt (by omega)]; exact hd
        have FIN := Lib.hid fin; have HK := Lib.hid hk; have HSJ := Lib.hid hsj; have HD := Lib.hid hd; have HTK := Lib.hid htk; have HCELL := Lib.hid hcell; have HFREE := Lib.hid hfree; have HSET := Lib.hid hset; have HX := Lib.hid hx; have HMJ := Lib.hid hMj; have HIQ := Lib.hid hiq; have A2 := Lib.hid a2; have A3 := Lib.hid a3
        clear fin hk hsj hd htk hcell hfree hset hx hMj hiq a2 a3
        clear hp hBB a4
        go_wp2_with fail
        refine (sh1_any c x vb B _ hcc HBB.out).mono ?_
        rintro e w' ⟨rfl, rfl⟩
        rw [decide_eq_true hin]
        have HIN := Lib.hid hin
        clear hin
        go_wp2_with fail
        go_roundw
        case rel => exact ⟨j + 1, i + 1, by omega, by omega, by omega, by go_num, by go_num, FIN⟩
        case measure => simp [intOf]; omega
      · have hk : keepB B (l.take (j + 1)) = keepB B (l.take j) := by rw [htk]; unfold keepB; rw [List.filter_append]; simp [hin]
        have fin : i = (keepB B (l.take (j + 1))).length ∧ ∃ M : List Int, M.length = n ∧ M.take i = keepB B (l.take (j + 1)) ∧ M.drop (j + 1) = l.drop (j + 1) ∧ Own w0 (IntSl (.slice (some ⟨b, off, none⟩) n cap) M * R) wr :=
          ⟨by rw [hk]; exact hiq, M, a1, by rw [hk]; exact a2, hd, a4⟩
        have FIN := Lib.hid fin; have HK := Lib.hid hk; have HSJ := Lib.hid hsj; have HD := Lib.hid hd; have HTK := Lib.hid htk; have HCELL := Lib.hid hcell; have HFREE := Lib.hid hfree; have HSET := Lib.hid hset; have HX := Lib.hid hx; have HMJ := Lib.hid hMj; have HIQ := Lib.hid hiq; have A2 := Lib.hid a2; have A3 := Lib.hid a3
        clear fin hk hsj hd htk hcell hfree hset hx hMj hiq a2 a3
        clear hp hBB a4
        go_wp2_with fail
        refine (sh1_any c x vb B _ hcc HBB.out).mono ?_
        rintro e w' ⟨rfl, rfl⟩
        rw [decide_eq_false hin]
        have HIN := Lib.hid hin
        clear hin
        go_wp2_with fail
        go_roundw
        case rel => exact ⟨j + 1, i, by omega, by omega, by omega, by go_num, by go_num, FIN⟩
        case measure => simp [intOf]; omega
    · have hjn : j = n := by omega
      have hkl : keepB B (l.take j) = keepB B l := by rw [List.take_of_length_le (by rw [← HN.out]; omega)]
      rw [hkl] at hiq a2
      obtain ⟨k1, k2, k3⟩ := clear_back (i := i) (by omega) a1 a4
      rw [a2] at k3
      have hrun : ∀ ty, (Builtin.clear_ #[38] ty #[.slice (some ⟨b, off + i, none⟩) (n - i) (cap - i)]).run Tryd.prog wr = .ok (.tuple #[]) (wr.setCells b (off + i) (List.replicate (n - i) (.int .i64 0))) := fun ty =>
        Lib.run_clear_slice wr 38 3 ty (.int .i64 0) Tryd.underlying38 int_zero rfl rfl b (off + i) (n - i) (cap - i) (by omega) (fun t ht => by rw [Nat.add_assoc]; exact k1 (i + t) (by omega)) (fun t _ => by rw [Nat.add_assoc]; exact k2 (i + t))
      have hne : ¬ cap = i := by omega
      have K3 := Lib.hid k3
      have hin : i < n := by omega
      have HIQ := Lib.hid hiq; have A2 := Lib.hid a2; have A3 := Lib.hid a3; have HKL := Lib.hid hkl; have HJN := Lib.hid hjn; have K1 := Lib.hid k1; have K2 := Lib.hid k2
      clear hiq a2 a3 hkl hjn k1 k2
      clear hp a4 k3
      go_wp2_with fail
      go_ret
      exact ⟨_, rfl, K3.out⟩
end Go.Proofs.YtpgonkecicmanaaDoor
/- Contracts of package view: Shared, most. -/
namespace Go.Proofs.YtpgonkecicmanaaDoor
set_option linter.unusedVariables false
set_option linter.unusedSimpArgs false
open Go.RowKit
theorem keepB_le (B l : List Int) : (keepB B l).length ≤ l.length := List.length_filter_le _ _
set_option maxRecDepth 100000 in
set_option maxHeartbeats 4000000 in
theorem shared_any {w0 w : World} {R : HProp} (va vb : Value) (A B : List Int) (hA : Reads w0 R va A) (hB : Reads w0 R vb B) (hlen : A.length ≤ 100000) (h : Own w0 R w) :
    Calls Tryd.prog 88 #[va, vb] w fun e w' => ∃ v', e = .returned v' ∧ Own w0 (IntSl v' (keepB B A) * R) w' := by
  obtain ⟨bd, bcap, hvb, _, _⟩ := (hB _ h).shape
  subst hvb
  have hAI := (hA _ h).2
  have ho := h.alloc (.cells #[.slice bd B.length bcap] 38)
  obtain ⟨c, hc⟩ : ∃ c, c = w.heap.size := ⟨_, rfl⟩
  obtain ⟨w1, hw1⟩ : ∃ w1, w1 = w.alloc (.cells #[.slice bd B.length bcap] 38) := ⟨_, rfl⟩
  rw [← hc, ← hw1] at ho
  have HO := Lib.hid ho
  have HA1 := Lib.hid (hA.more _ ho)
  have HBB : Hid (∀ w', Own w0 (blk c (.cells #[.slice bd B.length bcap] 38 (0, 0)) * R) w' → w'.cell? ⟨c, 0, none⟩ = some (.slice bd B.length bcap) ∧ Ints w' (.slice bd B.length bcap) B) := Lib.hid (fun w' h' => ⟨by rw [h'.cell]; rfl, hB.more _ h'⟩)
  have H := Lib.hid h; have HA := Lib.hid hA; have HB := Lib.hid hB; have HAI := Lib.hid hAI
  clear h hA hB hAI
  clear ho
  go_enter Tryd.func88, Tryd.ntmps88
  go_upto_region 1 with fail
  rw [← hc, ← hw1]
  clear hc hw1
  go_wp2_with fail
  refine (cloneInts_any HO.out va A HA1.out hlen).mono ?_
  rintro e w2 ⟨v1, rfl, ho⟩
  have HO2 := Lib.hid ho
  clear ho
  go_wp2_with fail
  refine (del_any c v1 _ A B HAI.out HBB HO2.out).mono ?_
  rintro e w3 ⟨v2, rfl, ho⟩
  have HO3 := Lib.hid ho
  clear ho
  go_wp2
  go_ret
  exact ⟨v2, rfl, (HO3.out.perm (star_left_comm _ _ _)).drop⟩
def mostB (A B : List Int) : Bool := decide ((A.length : Int) < 2 * ((keepB B A).length : Int))
set_option maxRecDepth 100000 in
set_option maxHeartbeats 4000000 in
theorem most_any {w0 w : World} {R : HProp} (va vb : Value) (A B : List Int) (hA : Reads w0 R va A) (hB : Reads w0 R vb B) (hlen : A.length ≤ 100000) (h : Own w0 R w) :
    Calls Tryd.prog 117 #[va, vb] w fun e w' => e = .returned (.bool (mostB A B)) ∧ Own w0 R w' := by
  obtain ⟨ad, acap, hva, hac, hac2⟩ := (hA _ h).shape
  subst hva
  have hk := keepB_le B A
  obtain ⟨K, hK⟩ : ∃ K, K = (keepB B A).length := ⟨_, rfl⟩
  rw [← hK] at hk
  have hm : decide ((A.length : Int) < 2 * (K : Int)) = mostB A B := by unfold mostB; rw [hK]
  have H := Lib.hid h; have HA := Lib.hid hA; have HB := Lib.hid hB; have HK := Lib.hid hK
  clear h hA hB hK
  have HMB := Lib.hid hm
  clear hm
  go_enter Tryd.func117, Tryd.ntmps117
  go_wp2_with fail
  refine (shared_any _ vb A B HA.out HB.out hlen H.out).mono ?_
  rintro e w2 ⟨v1, rfl, ho⟩
  obtain ⟨ad1, cap1, hs1, _⟩ := Own.rd ho
  rw [← HK.out] at hs1
  subst hs1
  have HO2 := Lib.hid ho
  clear ho
  go_wp2
  go_ret
  exact ⟨by rw [← HMB.out]; rfl, HO2.out.drop⟩
end Go.Proofs.YtpgonkecicmanaaDoor
/- Contracts of package view: Next. -/
namespace Go.Proofs.YtpgonkecicmanaaDoor
set_option linter.unusedVariables false
set_option linter.unusedSimpArgs false
open Go.RowKit
def nextErr (n : Int) (A B : List Int) : Nat := if viewErr n A ≠ 0 then viewErr n A else if n = 1000000 then 4 else if memErr B ≠ 0 then memErr B else if mostB A B = false then 8 else 0
def nextN (n : Int) (A B : List Int) : Int := if nextErr n A B = 0 then n + 1 else 0
def nextHas (n : Int) (A B : List Int) : List Int := if nextErr n A B = 0 then B else []
theorem memGo_len : ∀ (l : List Int) (last : Int), -1 ≤ last → memGo last l = 0 → (l.length : Int) + last ≤ 4 ∨ l = []
  | [], last, h, _ => .inr rfl
  | m :: r, last, h, he => by
    unfold memGo at he
    split at he
    · cases he
    rename_i h1
    split at he
    · cases he
    rename_i h2
    have hm : 0 ≤ m ∧ m < 5 := by simpa [isMember] using h1
    left
    rcases memGo_len r m (by omega) he with h3 | h3
    · simp only [List.length_cons]; omega
    · subst h3; simp; omega
theorem memErr_len {l : List Int} (h : memErr l = 0) : 1 ≤ l.length ∧ l.length ≤ 5 := by
  unfold memErr at h
  split at h
  · cases h
  rename_i h0
  have hp : 0 < l.length := by cases l with | nil => exact absurd rfl h0 | cons a r => simp
  rcases memGo_len l (-1) (by omega) h with h1 | h1
  · omega
  · exact absurd h1 h0
theorem viewErr0 {n : Int} {A : List Int} (h : viewErr n A = 0) : (0 ≤ n ∧ n ≤ 1000000) ∧ memErr A = 0 := by
  unfold viewErr at h
  split at h
  · cases h
  rename_i h1
  exact ⟨by simpa [isCount] using h1, h⟩
theorem errV_pos {E : Nat} (h : E ≠ 0) : errV E = .iface 125 (.int .i64 (E : Int)) := by
  cases E with
  | zero => exact absurd rfl h
  | succ k => rfl
def VwO (b : Nat) (n : Int) (v : Value) : HProp := blk b (.cells #[.int .i64 n, v] 87 (0, 0))
theorem Own.vw {w0 w : World} {b : Nat} {n : Int} {v : Value} {R : HProp} (h : Own w0 (VwO b n v * R) w) : w.cell? ⟨b, 0, none⟩ = some (.int .i64 n) ∧ w.cell? ⟨b, 1, none⟩ = some v ∧ ∀ i s, w.frozen? ⟨b, i, s⟩ = false :=
  ⟨by rw [Own.cell h]; rfl, by rw [Own.cell h]; rfl, fun i s => Own.free h i s⟩
theorem Own.vw_put {w0 w : World} {b : Nat} {n : Int} {v : Value} {R : HProp} (n' : Int) (v' : Value) (h : Own w0 (VwO b n v * R) w) : Own w0 (VwO b n' v' * R) ((w.setCell ⟨b, 0, none⟩ (.int .i64 n')).setCell ⟨b, 1, none⟩ v') :=
  (Own.setCell (i := 1) (v := v') (Own.setCell (i := 0) (v := .int .i64 n') h)).perm rfl
set_option maxRecDepth 100000 in
set_option maxHeartbeats 4000000 in
theorem viewNext_no1 {w0 w : World} {R : HProp} (n : Int) (va vb : Value) (A B : List Int) (hA : Reads w0 R va A) (hB : Reads w0 R vb B) (h : Own w0 R w) (he : viewErr n A ≠ 0) :
    Calls Tryd.prog 87 #[.agg #[.int .i64 n, va], vb] w fun e w' => e = .returned (.tuple #[.agg #[.int .i64 0, .slice none 0 0], errV (viewErr n A)]) ∧ Own w0 R w' := by
  obtain ⟨ad, acap, hva, hac, hac2⟩ := (hA _ h).shape
  subst hva
  obtain ⟨b1, hb1⟩ : ∃ c, c = w.heap.size := ⟨_, rfl⟩
  have h1 := h.alloc (.cells #[.int .i64 n, .slice ad A.length acap] 87)
  rw [← hb1] at h1
  have h2 := h1.alloc (.cells #[.int .i64 0, .slice none 0 0] 87)
  obtain ⟨b2, hb2⟩ : ∃ c, c = (w.alloc (.cells #[.int .i64 n, .slice ad A.length acap] 87)).heap.size := ⟨_, rfl⟩
  rw [← hb2] at h2
  obtain ⟨w1, hw1⟩ : ∃ w1, w1 = (w.alloc (.cells #[.int .i64 n, .slice ad A.length acap] 87)).alloc (.cells #[.int .i64 0, .slice none 0 0] 87) := ⟨_, rfl⟩
  rw [← hw1] at h2
  have hb2' : w.heap.size + 1 = b2 := by rw [hb2]; simp
  have HO : Hid (Own w0 (VwO b2 0 (.slice none 0 0) * (VwO b1 n (.slice ad A.length acap) * R)) w1) := Lib.hid h2
  obtain ⟨c0, c1, _⟩ := (HO.out.perm (star_left_comm _ _ _)).vw
  have hee := errV_pos he
  have HAM : Hid (Reads w0 (VwO b2 0 (.slice none 0 0) * (VwO b1 n (.slice ad A.length acap) * R)) (.slice ad A.length acap) A) := Lib.hid hA.more.more
  have H := Lib.hid h; have HA := Lib.hid hA; have HB := Lib.hid hB; have HB2 := Lib.hid hb2; have HE := Lib.hid he
  clear h hA hB hb2 he
  clear h1 h2
  go_enter Tryd.func87, Tryd.ntmps87
  go_upto_region 1 with fail
  rw [← hb1, ← hw1]
  clear hb1 hw1 hb2'
  go_wp2_with fail
  refine (viewCheck_any n _ A HO.out HAM.out).mono ?_
  rintro e w2 ⟨rfl, ho⟩
  rw [hee]
  have HO2 := Lib.hid ho
  obtain ⟨d0, d1, d2⟩ := ho.vw
  have d20 := d2 0 none
  have d21 := d2 1 none
  have HEE := Lib.hid hee
  clear ho hee d2
  have hput := HO2.out.vw_put 0 (.slice none 0 0)
  obtain ⟨p0, p1, _⟩ := hput.vw
  have HO3 := Lib.hid hput.drop.drop
  clear hput
  go_wp2_with fail
  exact bodyPost_ret (v := .tuple #[.agg #[.int .i64 0, .slice none 0 0], errV (viewErr n A)]) (by simp [results, Tryd.results87, go_sem, p0, p1]; exact HEE.out.symm) rfl ⟨rfl, HO3.out⟩
def NextPost (w0 : World) (R : HProp) (n : Int) (A B : List Int) (e : Ending) (w' : World) : Prop :=
  ∃ v', e = .returned (.tuple #[.agg #[.int .i64 (nextN n A B), v'], errV (nextErr n A B)]) ∧ Own w0 (IntSl v' (nextHas n A B) * R) w'
theorem NextPost.no {w0 w' : World} {R : HProp} {n : Int} {A B : List Int} {E : Nat} {x : Value} (h : nextErr n A B = E) (hE : E ≠ 0) (hx : x = errV E) (ho : Own w0 R w') : NextPost w0 R n A B (.returned (.tuple #[.agg #[.int .i64 0, .slice none 0 0], x])) w' := by
  subst h; subst hx
  exact ⟨.slice none 0 0, by unfold nextN; rw [if_neg hE], by unfold nextHas; rw [if_neg hE]; exact ho.sl_nil _ _⟩
set_option maxRecDepth 100000 in
set_option maxHeartbeats 4000000 in
theorem viewNext_rest {w0 w : World} {R : HProp} (n : Int) (va vb : Value) (A B : List Int) (hA : Reads w0 R va A) (hB : Reads w0 R vb B) (h : Own w0 R w) (he : viewErr n A = 0) :
    Calls Tryd.prog 87 #[.agg #[.int .i64 n, va], vb] w fun e w' => NextPost w0 R n A B e w' := by
  obtain ⟨ad, acap, hva, hac, hac2⟩ := (hA _ h).shape
  subst hva
  obtain ⟨b1, hb1⟩ : ∃ c, c = w.heap.size := ⟨_, rfl⟩
  have h1 := h.alloc (.cells #[.int .i64 n, .slice ad A.length acap] 87)
  rw [← hb1] at h1
  have h2 := h1.alloc (.cells #[.int .i64 0, .slice none 0 0] 87)
  obtain ⟨b2, hb2⟩ : ∃ c, c = (w.alloc (.cells #[.int .i64 n, .slice ad A.length acap] 87)).heap.size := ⟨_, rfl⟩
  rw [← hb2] at h2
  obtain ⟨w1, hw1⟩ : ∃ w1, w1 = (w.alloc (.cells #[.int .i64 n, .slice ad A.length acap] 87)).alloc (.cells #[.int .i64 0, .slice none 0 0] 87) := ⟨_, rfl⟩
  rw [← hw1] at h2
  have hb2' : w.heap.size + 1 = b2 := by rw [hb2]; simp
  have HO : Hid (Own w0 (VwO b2 0 (.slice none 0 0) * (VwO b1 n (.slice ad A.length acap) * R)) w1) := Lib.hid h2
  obtain ⟨c0, c1, _⟩ := (HO.out.perm (star_left_comm _ _ _)).vw
  have HAM : Hid (Reads w0 (VwO b2 0 (.slice none 0 0) * (VwO b1 n (.slice ad A.length acap) * R)) (.slice ad A.length acap) A) := Lib.hid hA.more.more
  have HBM : Hid (Reads w0 (VwO b2 0 (.slice none 0 0) * (VwO b1 n (.slice ad A.length acap) * R)) vb B) := Lib.hid hB.more.more
  obtain ⟨hnb, hmA⟩ := viewErr0 he
  have hA5 := (memErr_len hmA).2
  have hn1 := hnb.1
  have hn2 := hnb.2
  have hne : nextErr n A B = if n = 1000000 then 4 else if memErr B ≠ 0 then memErr B else if mostB A B = false then 8 else 0 := by unfold nextErr; rw [he]; rfl
  have H := Lib.hid h; have HA := Lib.hid hA; have HB := Lib.hid hB; have HB2 := Lib.hid hb2; have HE := Lib.hid he; have HMA := Lib.hid hmA; have HNE := Lib.hid hne
  clear h hA hB hb2 he hmA hne
  clear h1 h2 hnb
  go_enter Tryd.func87, Tryd.ntmps87
  go_upto_region 1 with fail
  rw [← hb1, ← hw1]
  clear hb1 hw1 hb2'
  go_wp2_with fail
  refine (viewCheck_any n _ A HO.out HAM.out).mono ?_
  rintro e w2 ⟨rfl, ho⟩
  rw [HE.out]
  have HO2 := Lib.hid ho
  obtain ⟨d0, d1, d2⟩ := ho.vw
  have d20 := d2 0 none
  have d21 := d2 1 none
  obtain ⟨f0, f1, _⟩ := (ho.perm (star_left_comm _ _ _)).vw
  clear ho d2 c0 c1
  rw [errV0]
  by_cases hM : n = 1000000
  · have hE : nextErr n A B = 4 := by rw [HNE.out, if_pos hM]
    have t1 : (n == 1000000) = true := by rw [beq_iff_eq]; exact hM
    have hput := HO2.out.vw_put 0 (.slice none 0 0)
    obtain ⟨p0, p1, _⟩ := hput.vw
    have HO3 := Lib.hid hput.drop.drop
    have HE_ := Lib.hid hE
    clear hE
    have HM := Lib.hid hM
    clear hM
    clear hput
    go_wp2_with fail
    exact bodyPost_ret (v := .tuple #[.agg #[.int .i64 0, .slice none 0 0], errV 4]) (by simp [results, Tryd.results87, go_sem, p0, p1]; rfl) rfl (NextPost.no HE_.out (by simp) rfl HO3.out)
  have t1 : (n == 1000000) = false := by rw [beq_eq_false_iff_ne]; exact hM
  by_cases hmB : memErr B = 0
  rotate_left
  · have hE : nextErr n A B = memErr B := by rw [HNE.out, if_neg hM, if_pos hmB]
    have hee := errV_pos hmB
    have hput := HO2.out.vw_put 0 (.slice none 0 0)
    obtain ⟨p0, p1, _⟩ := hput.vw
    have HO3 := Lib.hid hput.drop.drop
    have HE_ := Lib.hid hE
    clear hE
    have HM := Lib.hid hM; have HEE := Lib.hid hee; have HMB := Lib.hid hmB
    clear hM hee hmB
    clear hput
    go_wp2_with fail
    refine (members_any vb B _ (HBM.out _ HO2.out)).mono ?_
    rintro e w' ⟨rfl, rfl⟩
    rw [HEE.out]
    go_wp2_with fail
    exact bodyPost_ret (v := .tuple #[.agg #[.int .i64 0, .slice none 0 0], errV (memErr B)]) (by simp [results, Tryd.results87, go_sem, p0, p1]; exact HEE.out.symm) rfl (NextPost.no HE_.out HMB.out rfl HO3.out)
  have hB5 := (memErr_len hmB).2
  have hee : errV (memErr B) = .nilIface := by rw [hmB]; rfl
  cases hmo : mostB A B
  · have hE : nextErr n A B = 8 := by rw [HNE.out, if_neg hM, if_neg (by rw [hmB]; simp), if_pos hmo]
    have HE_ := Lib.hid hE
    clear hE
    have HM := Lib.hid hM; have HEE := Lib.hid hee; have HMB := Lib.hid hmB; have HMO := Lib.hid hmo
    clear hM hee hmB hmo
    go_wp2_with fail
    refine (members_any vb B _ (HBM.out _ HO2.out)).mono ?_
    rintro e w' ⟨rfl, rfl⟩
    rw [HEE.out]
    go_wp2_with fail
    refine (most_any _ vb A B HAM.out HBM.out (by omega) HO2.out).mono ?_
    rintro e w3 ⟨rfl, ho⟩
    rw [HMO.out]
    obtain ⟨_, _, g2⟩ := ho.vw
    have g20 := g2 0 none
    have g21 := g2 1 none
    have q0 := ho.vw.1
    have q1 := ho.vw.2.1
    have hput := ho.vw_put 0 (.slice none 0 0)
    obtain ⟨p0, p1, _⟩ := hput.vw
    have HO3 := Lib.hid hput.drop.drop
    clear hput ho g2
    go_wp2_with fail
    exact bodyPost_ret (v := .tuple #[.agg #[.int .i64 0, .slice none 0 0], errV 8]) (by simp [results, Tryd.results87, go_sem, p0, p1]; rfl) rfl (NextPost.no HE_.out (by simp) rfl HO3.out)
  · have hE : nextErr n A B = 0 := by rw [HNE.out, if_neg hM, if_neg (by rw [hmB]; simp), if_neg (by rw [hmo]; simp)]
    have HE_ := Lib.hid hE
    clear hE
    have HM := Lib.hid hM; have HEE := Lib.hid hee; have HMB := Lib.hid hmB; have HMO := Lib.hid hmo
    clear hM hee hmB hmo
    go_wp2_with fail
    refine (members_any vb B _ (HBM.out _ HO2.out)).mono ?_
    rintro e w' ⟨rfl, rfl⟩
    rw [HEE.out]
    go_wp2_with fail
    refine (most_any _ vb A B HAM.out HBM.out (by omega) HO2.out).mono ?_
    rintro e w3 ⟨rfl, ho⟩
    rw [HMO.out]
    have HO3 := Lib.hid ho
    obtain ⟨q0, q1, g2⟩ := ho.vw
    obtain ⟨r0, r1, _⟩ := (ho.perm (star_left_comm _ _ _)).vw
    have g20 := g2 0 none
    have g21 := g2 1 none
    clear ho g2
    go_wp2_with fail
    refine wp_region_planH 6 [] [(true, 0), (true, 1), (true, 2), (true, 3), (false, 4), (true, 5)] [6, 7] (fun wS => wS.cell? ⟨b1, 0, none⟩ = some (.int .i64 n)) (by kernel_rfl) (by kernel_rfl) (r0) ?_
    simp only [pickH, pick, List.getElem?_cons_succ, List.getElem?_cons_zero, Option.toList, Option.map_some, List.cons_append, List.nil_append]
    repeat (refine wpPure_step ?_ rfl ?_ ?_; rotate_left; (focus (intro _; first | with_reducible rfl | (go_simp; done) | (go_simp; with_reducible rfl) | rfl)); go_simp)
    refine wpPure_nil ?_
    repeat (refine wpMix_read ?_ rfl ?_ ?_; rotate_left; (focus (intro _ hS; obtain s1 := hS; first | with_reducible rfl | (go_simp; done) | (go_simp; with_reducible rfl) | rfl)); go_simp)
    refine wpMix_write (fun K hK => ?_)
    go_simp
    refine (cloneInts_any HO3.out.drew vb B (HBM.out _ HO3.out.drew) (by omega)).mono ?_
    rintro e w4 ⟨v4, rfl, ho⟩
    obtain ⟨x1, x2, x3⟩ := (ho.perm (star_left_comm _ _ _)).vw
    obtain ⟨y1, _, _⟩ := (ho.perm (show _ = VwO b1 n (.slice ad A.length acap) * (IntSl v4 B * (VwO b2 0 (.slice none 0 0) * R)) by ac_rfl)).vw
    have x30 := x3 0 none
    have x31 := x3 1 none
    obtain ⟨ad4, cap4, hv4, _⟩ := Own.rd ho
    subst hv4
    have HO4 := Lib.hid ho
    have hput := (ho.perm (star_left_comm _ _ _)).vw_put (n + 1) (.slice ad4 B.length cap4)
    obtain ⟨p0, p1, _⟩ := hput.vw
    have HPUT := Lib.hid hput.drop
    clear ho hput x3
    refine hK _ _ ⟨y1, ?_⟩
    clear hK K
    go_simp
    repeat (refine wpMix_read ?_ rfl ?_ ?_; rotate_left; (focus (intro _ hS; obtain s1 := hS; first | with_reducible rfl | (go_simp; done) | (go_simp; with_reducible rfl) | rfl)); go_simp)
    refine wpMix_nil ?_
    go_wp2_with fail
    refine NoPanic.normal ?_
    go_wp2_with fail
    have hfin := (HPUT.out.perm (show _ = VwO b1 n (.slice ad A.length acap) * (IntSl (.slice ad4 B.length cap4) B * R) by ac_rfl)).drop
    exact bodyPost_ret (v := .tuple #[.agg #[.int .i64 (n + 1), .slice ad4 B.length cap4], .nilIface]) (by simp [results, Tryd.results87, go_sem, p0, p1]) rfl ⟨_, by unfold nextN; rw [if_pos HE_.out, HE_.out]; rfl, by unfold nextHas; rw [if_pos HE_.out]; exact hfin⟩
theorem viewNext_any {w0 w : World} {R : HProp} (n : Int) (va vb : Value) (A B : List Int) (hA : Reads w0 R va A) (hB : Reads w0 R vb B) (h : Own w0 R w) :
    Calls Tryd.prog 87 #[.agg #[.int .i64 n, va], vb] w fun e w' => NextPost w0 R n A B e w' := by
  by_cases he : viewErr n A = 0
  · exact viewNext_rest n va vb A B hA hB h he
  · refine (viewNext_no1 n va vb A B hA hB h he).mono ?_
    rintro e w' ⟨rfl, ho⟩
    have hE : nextErr n A B = viewErr n A := by unfold nextErr; rw [if_pos he]
    exact NextPost.no hE he rfl ho
end Go.Proofs.YtpgonkecicmanaaDoor
/- Contracts of package view: Both. -/
namespace Go.Proofs.YtpgonkecicmanaaDoor
set_option linter.unusedVariables false
set_option linter.unusedSimpArgs false
open Go.RowKit
def vbothErr (na : Int) (A : List Int) (nb : Int) (B : List Int) : Nat := if viewErr na A ≠ 0 then viewErr na A else viewErr nb B
def vbothHas (na : Int) (A : List Int) (nb : Int) (B : List Int) : List Int := if vbothErr na A nb B = 0 then keepB B A else []
end Go.Proofs.YtpgonkecicmanaaDoor
/- Contracts of package view: Chain. -/
namespace Go.Proofs.YtpgonkecicmanaaDoor
set_option linter.unusedVariables false
set_option linter.unusedSimpArgs false
open Go.RowKit
abbrev Vw := Int × Value × List Int
def vwCells (x : Vw) : List Value := [.int .i64 x.1, x.2.1]
def ReadsV (w0 : World) (R : HProp) (v : Value) (L : List Vw) : Prop := (∀ w, Own w0 R w → Rd w v L.length (L.flatMap vwCells)) ∧ ∀ x ∈ L, Reads w0 R x.2.1 x.2.2
/-- What Chain answers from its i-th view on, where the one before (if any) is p: the place and the error. -/
def chainGo : Option Vw → Nat → List Vw → Nat × Nat
  | _, _, [] => (0, 0)
  | p, i, x :: r => if viewErr x.1 x.2.2 ≠ 0 then (i, viewErr x.1 x.2.2) else
    match p with
    | none => chainGo (some x) (i + 1) r
    | some p => if x.1 ≠ p.1 + 1 then (i, 3) else if mostB p.2.2 x.2.2 = false then (i, 8) else chainGo (some x) (i + 1) r
theorem chainGo_none (i : Nat) (x : Vw) (r : List Vw) : chainGo none i (x :: r) = if viewErr x.1 x.2.2 ≠ 0 then (i, viewErr x.1 x.2.2) else chainGo (some x) (i + 1) r := rfl
theorem chainGo_some (p : Vw) (i : Nat) (x : Vw) (r : List Vw) : chainGo (some p) i (x :: r) = if viewErr x.1 x.2.2 ≠ 0 then (i, viewErr x.1 x.2.2) else if x.1 ≠ p.1 + 1 then (i, 3) else if mostB p.2.2 x.2.2 = false then (i, 8) else chainGo (some x) (i + 1) r := rfl
theorem chainGo_bad (p : Option Vw) (i : Nat) (x : Vw) (r : List Vw) (h : viewErr x.1 x.2.2 ≠ 0) : chainGo p i (x :: r) = (i, viewErr x.1 x.2.2) := by
  cases p
  · rw [chainGo_none, if_pos h]
  · rw [chainGo_some, if_pos h]
def chainR (L : List Vw) : Nat × Nat := if 60 < L.length then (0, 4) else chainGo none 0 L
def chainPrev (L : List Vw) (k : Nat) : Option Vw := if k = 0 then none else L[k - 1]?
theorem ReadsV.more {w0 : World} {P R : HProp} {v : Value} {L : List Vw} (h : ReadsV w0 R v L) : ReadsV w0 (P * R) v L := ⟨fun w ho => h.1 w ho.drop, fun x hx => (h.2 x hx).more⟩
theorem ReadsV.shape {w0 w : World} {R : HProp} {v : Value} {L : List Vw} (h : ReadsV w0 R v L) (ho : Own w0 R w) : ∃ ad cap, v = .slice ad L.length cap ∧ L.length ≤ cap ∧ cap ≤ 9223372036854775807 := by
  obtain ⟨ad', cap', e, h1, h2, _, hc⟩ := h.1 w ho
  exact ⟨ad', cap', e, h1, h2⟩
theorem vw_get : ∀ (l : List Vw) (k j : Nat) (hk : k < l.length) (_hj : j < 2), (l.flatMap vwCells)[k * 2 + j]? = (vwCells l[k])[j]?
  | x :: r, 0, j, hk, hj => by
    simp only [List.flatMap_cons, Nat.zero_mul, Nat.zero_add, List.getElem_cons_zero]
    rw [List.getElem?_append_left (by simpa [vwCells] using hj)]
  | x :: r, k + 1, j, hk, hj => by
    simp only [List.flatMap_cons, List.getElem_cons_succ]
    rw [List.getElem?_append_right (by simp [vwCells]; omega)]
    rw [show (k + 1) * 2 + j - (vwCells x).length = k * 2 + j from by simp [vwCells]; omega]
    exact vw_get r k j (by simpa using hk) hj
theorem ReadsV.at {w0 : World} {R : HProp} {ad : Option Addr} {n cap : Nat} {L : List Vw} (h : ReadsV w0 R (.slice ad n cap) L) {w : World} (ho : Own w0 R w) (k : Nat) (hk : k < L.length) :
    ∃ a : Addr, ad = some a ∧ (∀ w, Own w0 R w → w.cell? (a.add (k * 2)) = some (.int .i64 L[k].1) ∧ w.cell? (a.add (k * 2 + 1)) = some L[k].2.1) ∧ Reads w0 R L[k].2.1 L[k].2.2 := by
  have key : ∀ w, Own w0 R w → ∃ a : Addr, ad = some a ∧ w.cell? (a.add (k * 2)) = some (.int .i64 L[k].1) ∧ w.cell? (a.add (k * 2 + 1)) = some L[k].2.1 := by
    intro w ho
    obtain ⟨ad', cap', e, h1, h2, _, hc⟩ := h.1 w ho
    cases e
    obtain ⟨a, ha, c0⟩ := hc (k * 2) _ (vw_get L k 0 hk (by omega))
    obtain ⟨a', ha', c1⟩ := hc (k * 2 + 1) _ (vw_get L k 1 hk (by omega))
    rw [ha] at ha'; cases ha'
    exact ⟨a, ha, c0, c1⟩
  obtain ⟨a, ha, _, _⟩ := key w ho
  refine ⟨a, ha, fun w ho => ?_, h.2 _ (List.getElem_mem hk)⟩
  obtain ⟨a', ha', c⟩ := key w ho
  rw [ha] at ha'; cases ha'
  exact c
theorem ReadsV.at2 {w0 : World} {R : HProp} {ad : Option Addr} {n cap : Nat} {L : List Vw} (h : ReadsV w0 R (.slice ad n cap) L) {w : World} (ho : Own w0 R w) (k : Nat) (hk : k < L.length) :
    ∃ (a : Addr) (eb eo : Nat) (es : Option Nat), ad = some a ∧ a.add (k * 2) = ⟨eb, eo, es⟩ ∧ (∀ w, Own w0 R w → w.cell? ⟨eb, eo, es⟩ = some (.int .i64 L[k].1) ∧ w.cell? ⟨eb, eo + 1, none⟩ = some L[k].2.1) ∧ Reads w0 R L[k].2.1 L[k].2.2 := by
  obtain ⟨a, ha, hc, hr⟩ := h.at ho k hk
  refine ⟨a, (a.add (k * 2)).block, (a.add (k * 2)).off, (a.add (k * 2)).spot, ha, rfl, fun w ho => ⟨(hc w ho).1, ?_⟩, hr⟩
  have h1 := (hc w ho).2
  have : a.add (k * 2 + 1) = ⟨(a.add (k * 2)).block, (a.add (k * 2)).off + 1, none⟩ := by
    unfold Addr.add
    rw [if_neg (by omega)]
    split
    · rename_i h0; simp [h0]
    · simp [Nat.add_assoc]
  rw [this] at h1
  exact h1
end Go.Proofs.YtpgonkecicmanaaDoor
/- The reference's In: is a number in a list. -/
namespace Go.Proofs.YtpgonkecicmanaaDoor
set_option linter.unusedVariables false
set_option linter.unusedSimpArgs false
open Go.RowKit
set_option maxRecDepth 100000 in
set_option maxHeartbeats 4000000 in
theorem refIn_any (v : Value) (l : List Int) (x : Int) (w : World) (hl : Ints w v l) :
    Calls Tryd.prog 69 #[v, .int .i64 x] w fun e w' => e = .returned (.bool (decide (x ∈ l))) ∧ w = w' := by
  obtain ⟨ad, cap, rfl, hlc, hcap⟩ := hl.shape
  have HL := Lib.hid hl
  clear hl
  go_enter Tryd.func69, Tryd.ntmps69
  go_wp2_with fail
  go_loop [5] (fun i => ∃ k : Nat, k ≤ l.length ∧ i = .int .i64 k ∧ Hid (x ∉ l.take k)) (fun i => l.length - (intOf i).toNat)
  case atStart => exact ⟨0, Nat.zero_le _, rfl, Lib.hid (by simp)⟩
  case round =>
    obtain ⟨k, hk, rfl, hp⟩ := hrel
    by_cases hlt : k < l.length
    rotate_left
    · have hx : decide (x ∈ l) = false := by
        have := hp.out
        rw [List.take_of_length_le (by omega)] at this
        simpa using this
      have HX := Lib.hid hx
      clear hx
      go_wp2
      go_ret
      exact ⟨by rw [HX.out]; rfl, rfl⟩
    obtain ⟨aa, rfl, hca⟩ := HL.out.at k hlt
    by_cases he : l[k] = x
    · have t1 : (l[k] == x) = true := by rw [beq_iff_eq]; exact he
      have hx : decide (x ∈ l) = true := by rw [← he]; simp
      have HX := Lib.hid hx; have HE := Lib.hid he
      clear hx he
      go_wp2
      go_ret
      exact ⟨by rw [HX.out]; rfl, rfl⟩
    · have t1 : (l[k] == x) = false := by rw [beq_eq_false_iff_ne]; exact he
      have hn : x ∉ l.take (k + 1) := by
        rw [List.take_succ_eq_append_getElem hlt]
        intro h
        rcases List.mem_append.1 h with h | h
        · exact hp.out h
        · simp at h; exact he h.symm
      have HN := Lib.hid hn; have HE := Lib.hid he
      clear hn he
      go_wp2
      go_round
      case rel => exact ⟨k + 1, by omega, by go_num, HN⟩
      case measure => simp [intOf]; omega
end Go.Proofs.YtpgonkecicmanaaDoor
