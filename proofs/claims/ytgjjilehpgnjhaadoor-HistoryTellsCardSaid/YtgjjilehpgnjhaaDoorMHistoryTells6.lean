/- Contracts of package faces: what two lists share. -/
import Derived.Test.YtgjjilehpgnjhaaDoorMHistoryTells5
import Derived.Lib.SliceRun
import Derived.Test.YtgjjilehpgnjhaaDoorMHistoryTells1
import Derived.Test.YtgjjilehpgnjhaaDoorMHistoryTells2
import Derived.OwnWalk
import Derived.Test.YtgjjilehpgnjhaaDoorMHistoryTells3
import Derived.Test.YtgjjilehpgnjhaaDoorMHistoryTells4
namespace Go.Proofs.YtgjjilehpgnjhaaDoor
set_option linter.unusedVariables false
set_option linter.unusedSimpArgs false
open Go.RowKit
def alF (c : Nat) : Value := .func (.func 75) #[] #[.pointer (some ⟨c, 0, none⟩)]
set_option maxRecDepth 100000 in
set_option maxHeartbeats 4000000 in
theorem al1_any (c : Nat) (m : Int) (vb : Value) (B : List Int) (w : World) (hc : w.cell? ⟨c, 0, none⟩ = some vb) (hB : Ints w vb B) :
    Calls Tryd.prog 75 #[.int .i64 m, .pointer (some ⟨c, 0, none⟩)] w fun e w' => e = .returned (.bool (!decide (m ∈ B))) ∧ w = w' := by
  obtain ⟨ad, cap, rfl, _, _⟩ := hB.shape
  have HB := Lib.hid hB
  clear hB
  go_enter Tryd.func75, Tryd.ntmps75
  go_wp2_with fail
  refine (containsInt_any _ B m _ HB.out).mono ?_
  rintro e w' ⟨rfl, rfl⟩
  go_wp2
  go_ret
  exact ⟨rfl, rfl⟩
set_option maxRecDepth 100000 in
set_option maxHeartbeats 4000000 in
theorem alIndex_any (c : Nat) (v vb : Value) (l B : List Int) (w : World) (hc : w.cell? ⟨c, 0, none⟩ = some vb) (hB : Ints w vb B) (hl : Ints w v l) :
    Calls Tryd.prog 92 #[v, alF c] w fun e w' => e = .returned (.int .i64 (whereIs (fun n => !decide (n ∈ B)) l)) ∧ w = w' := by
  obtain ⟨ad, cap, rfl, hlc, hcap⟩ := hl.shape
  unfold alF
  have HL := Lib.hid hl; have HB := Lib.hid hB
  clear hl hB
  go_enter Tryd.func92, Tryd.ntmps92
  go_wp2_with fail
  go_loop [8] (fun i => ∃ k : Nat, k ≤ l.length ∧ i = .int .i64 k ∧ Hid (∀ j (_ : j < k) (h : j < l.length), l[j] ∈ B)) (fun i => l.length - (intOf i).toNat)
  case atStart => exact ⟨0, Nat.zero_le _, rfl, Lib.hid (fun j h => by omega)⟩
  case round =>
    obtain ⟨k, hk, rfl, hp⟩ := hrel
    by_cases hlt : k < l.length
    rotate_left
    · have hm : whereIs (fun n => !decide (n ∈ B)) l = -1 := whereIs_miss _ l (fun j h => by simpa using hp.out j (by omega) h)
      have HM := Lib.hid hm
      clear hm
      go_wp2
      go_ret
      exact ⟨by rw [HM.out]; rfl, rfl⟩
    obtain ⟨aa, rfl, hca⟩ := HL.out.at k hlt
    by_cases hin : l[k] ∈ B
    · have hn : ∀ j (_ : j < k + 1) (h : j < l.length), l[j] ∈ B := fun j h1 h2 => by
        by_cases e : j = k
        · subst e; exact hin
        · exact hp.out j (by omega) h2
      have HN := Lib.hid hn
      clear hn
      go_wp2_with fail
      refine (al1_any c l[k] vb B _ hc HB.out).mono ?_
      rintro e w' ⟨rfl, rfl⟩
      rw [decide_eq_true hin]
      have HIN := Lib.hid hin
      clear hin
      go_wp2
      go_round
      case rel => exact ⟨k + 1, by omega, by go_num, HN⟩
      case measure => simp [intOf]; omega
    · have hm : whereIs (fun n => !decide (n ∈ B)) l = k := whereIs_hit _ l k hlt (fun j h => by simpa using hp.out j h (by omega)) (by simpa using hin)
      have HM := Lib.hid hm
      clear hm
      go_wp2_with fail
      refine (al1_any c l[k] vb B _ hc HB.out).mono ?_
      rintro e w' ⟨rfl, rfl⟩
      rw [decide_eq_false hin]
      have HIN := Lib.hid hin
      clear hin
      go_wp2
      go_ret
      exact ⟨by rw [HM.out]; rfl, rfl⟩
set_option maxRecDepth 100000 in
set_option maxHeartbeats 4000000 in
theorem alDel_any {w0 w : World} {R : HProp} (c : Nat) (v vb : Value) (l B : List Int) (hl : ∀ x ∈ l, I64 x) (HB : Hid (∀ w', Own w0 R w' → w'.cell? ⟨c, 0, none⟩ = some vb ∧ Ints w' vb B)) (h : Own w0 (IntSl v l * R) w) :
    Calls Tryd.prog 74 #[v, alF c] w fun e w' => ∃ v', e = .returned v' ∧ Own w0 (IntSl v' (keepB B l) * R) w' := by
  have hv := IntSl_reads hl _ h
  obtain ⟨ad, cap, rfl, hlc, hcap⟩ := hv.shape
  obtain ⟨n, hn⟩ : ∃ n, n = l.length := ⟨_, rfl⟩
  obtain ⟨hc0, hB0⟩ := HB.out _ h.drop
  have HIX := Lib.hid (alIndex_any c _ vb l B w hc0 hB0 hv)
  rw [← hn] at hlc
  have H := Lib.hid h
  rw [← hn] at HIX H ⊢
  unfold alF at HIX ⊢
  by_cases hall : ∀ x ∈ l, x ∈ B
  · have hw : whereIs (fun n => !decide (n ∈ B)) l = -1 := whereIs_miss _ l (fun j h => by simpa using hall _ (List.getElem_mem h))
    have hk : keepB B l = l := List.filter_eq_self.2 (fun x hx => by simpa using hall x hx)
    have HW := Lib.hid hw; have HK := Lib.hid hk; have HV := Lib.hid hv; have HL := Lib.hid hl; have HALL := Lib.hid hall; have HB0 := Lib.hid hB0; have HN := Lib.hid hn
    clear hw hk hv hl hall hB0 hn
    clear h
    go_enter Tryd.func74, Tryd.ntmps74
    go_wp2_with fail
    refine HIX.out.mono ?_
    rintro e w' ⟨rfl, rfl⟩
    rw [HW.out]
    go_wp2
    go_ret
    exact ⟨_, rfl, by rw [HK.out]; exact H.out⟩
  obtain ⟨q, hq⟩ : ∃ q : Nat, whereIs (fun n => !decide (n ∈ B)) l = q := by
    refine ⟨(whereIs (fun n => !decide (n ∈ B)) l).toNat, ?_⟩
    have hneg : ¬ whereIs (fun n => !decide (n ∈ B)) l < 0 := fun h => by
      rw [whereIs_neg, List.any_eq_false] at h
      exact hall fun x hx => by simpa using h x hx
    omega
  have hwi := whereIs_spec (fun n => !decide (n ∈ B)) l q hq
  obtain ⟨hqn, hqb, hql⟩ := hwi
  have hql' : l[q]'hqn ∉ B := by simpa using hql
  have hkq : keepB B (l.take q) = l.take q := List.filter_eq_self.2 (fun x hx => by
    obtain ⟨j, hj, rfl⟩ := List.mem_iff_getElem.1 hx
    rw [List.length_take] at hj
    have := hqb j (by omega)
    rw [List.getElem_take]
    simpa using this)
  have hkq1 : keepB B (l.take (q + 1)) = l.take q := by
    rw [List.take_succ_eq_append_getElem hqn]
    unfold keepB at hkq ⊢
    rw [List.filter_append, hkq]
    simp [hql']
  have hqn' : q < n := by omega
  have HM0 : Hid (∃ M : List Int, M.length = n ∧ M.take q = keepB B (l.take (q + 1)) ∧ M.drop (q + 1) = l.drop (q + 1) ∧ Own w0 (IntSl (.slice ad n cap) M * R) w) := Lib.hid ⟨l, hn.symm, hkq1.symm, rfl, H.out⟩
  have hcap2 : cap ≤ 9223372036854775807 := hcap
  have hnp : 0 < n := by omega
  obtain ⟨b, off, cp, hsl, _⟩ := Own.ints_at H.out (by omega)
  injection hsl with e1 e2 e3
  subst e1; subst e3
  clear e2
  have HIX2 := HIX.out
  rw [hq] at HIX2
  have HIX3 := Lib.hid HIX2
  have hzc := fun w => Lib.run_clear_slice (P := Tryd.prog) w 31 3
  clear hzc HIX2 HIX
  have HQ := Lib.hid hq; have HQB := Lib.hid hqb; have HQL := Lib.hid hql; have HQL' := Lib.hid hql'; have HKQ := Lib.hid hkq; have HKQ1 := Lib.hid hkq1; have HALL := Lib.hid hall; have HV := Lib.hid hv; have HB0 := Lib.hid hB0; have HL := Lib.hid hl; have HN := Lib.hid hn
  clear hq hqb hql hql' hkq hkq1 hall hv hB0 hl hn
  clear h
  have tq : ((q : Int) == -1) = false := by rw [beq_eq_false_iff_ne]; omega
  go_enter Tryd.func74, Tryd.ntmps74
  go_wp2_with fail
  refine HIX3.out.mono ?_
  rintro e w' ⟨rfl, rfl⟩
  go_wp2_with fail
  go_loopw [5, 6] (fun iv jv wr => ∃ j i : Nat, q + 1 ≤ j ∧ j ≤ n ∧ i < j ∧ iv = .int .i64 i ∧ jv = .int .i64 j ∧ Hid (i = (keepB B (l.take j)).length ∧ ∃ M : List Int, M.length = n ∧ M.take i = keepB B (l.take j) ∧ M.drop j = l.drop j ∧ Own w0 (IntSl (.slice (some ⟨b, off, none⟩) n cap) M * R) wr)) (fun _ jv _ => n - (intOf jv).toNat)
  case atStart =>
    refine ⟨q + 1, q, Nat.le_refl _, by omega, by omega, rfl, by go_num, Lib.hid ⟨?_, ?_⟩⟩
    · rw [HKQ1.out, List.length_take]; omega
    · obtain ⟨M, a1, a2, a3, a4⟩ := HM0.out
      exact ⟨M, a1, a2, a3, a4⟩
  case round =>
    obtain ⟨j, i, hj1, hj2, hij, rfl, rfl, hp⟩ := hrel
    obtain ⟨hiq, M, a1, a2, a3, a4⟩ := hp.out
    by_cases hlt : j < n
    · have hjl : j < l.length := by rw [← HN.out]; exact hlt
      have hjM : j < M.length := by omega
      obtain ⟨b', off', cp', hsl', _, _, hcell, hfree, _, _, hset⟩ := Own.ints_at a4 (by omega)
      injection hsl' with e1 e2 e3
      clear e2
      injection e1 with e1
      injection e1 with e1 e4
      subst e1; subst e4; subst e3
      obtain ⟨x, hx⟩ : ∃ x, x = l[j] := ⟨_, rfl⟩
      have hMj : M[j] = x := by
        have h1 : (M.drop j)[0]? = (l.drop j)[0]? := by rw [a3]
        rw [List.getElem?_drop, List.getElem?_drop, Nat.add_zero, List.getElem?_eq_getElem hjM, List.getElem?_eq_getElem hjl] at h1
        rw [hx]; injection h1
      have c1 := hcell j hjM
      rw [hMj] at c1
      obtain ⟨hcc, hBB⟩ := HB.out _ a4.drop
      have f1 := hfree (off + i) none
      have hiM : i < M.length := by omega
      obtain ⟨mi, hmi⟩ : ∃ x, x = M[i]'hiM := ⟨_, rfl⟩
      have ci := hcell i hiM
      rw [← hmi] at ci
      clear hmi
      have htk : l.take (j + 1) = l.take j ++ [x] := by rw [hx]; exact List.take_succ_eq_append_getElem hjl
      have hd : M.drop (j + 1) = l.drop (j + 1) := by rw [← List.drop_drop, a3, List.drop_drop]
      have hsj := hset i x (by omega)
      have HBB := Lib.hid hBB
      have HA4 := Lib.hid a4
      by_cases hin : x ∈ B
      · have hk : keepB B (l.take (j + 1)) = keepB B (l.take j) ++ [x] := by rw [htk]; unfold keepB; rw [List.filter_append]; simp [hin]
        have fin : i + 1 = (keepB B (l.take (j + 1))).length ∧ ∃ M : List Int, M.length = n ∧ M.take (i + 1) = keepB B (l.take (j + 1)) ∧ M.drop (j + 1) = l.drop (j + 1) ∧ Own w0 (IntSl (.slice (some ⟨b, off, none⟩) n cap) M * R) (wr.setCell ⟨b, off + i, none⟩ (.int .i64 x)) := by
          refine ⟨by rw [hk, List.length_append, ← hiq]; rfl, M.set i x, by rw [List.length_set]; exact a1, ?_, ?_, hsj⟩
          · rw [hk, ← a2, List.take_succ_eq_append_getElem (by rw [List.length_set]; omega), List.getElem_set_self, List.take_set_of_le (Nat.le_refl i)]
          · rw [List.drop_set_of_lt (by omega)]; exact hd
        have FIN := Lib.hid fin; have HK := Lib.hid hk; have HSJ := Lib.hid hsj; have HD := Lib.hid hd; have HTK := Lib.hid htk; have HCELL := Lib.hid hcell; have HFREE := Lib.hid hfree; have HSET := Lib.hid hset; have HX := Lib.hid hx; have HMJ := Lib.hid hMj; have HIQ := Lib.hid hiq; have A2 := Lib.hid a2; have A3 := Lib.hid a3
        clear fin hk hsj hd htk hcell hfree hset hx hMj hiq a2 a3
        clear hp hBB a4
        go_wp2_with fail
        refine (al1_any c x vb B _ hcc HBB.out).mono ?_
        rintro e w' ⟨rfl, rfl⟩
        rw [decide_eq_true hin]
        have HIN := Lib.hid hin
        clear hin
        go_wp2_with fail
        go_roundw
        case rel => exact ⟨j + 1, i + 1, by omega, by omega, by omega, by go_num, by go_num, FIN⟩
        case measure => simp [intOf]; omega
      · have hk : keepB B (l.take (j + 1)) = keepB B (l.take j) := by rw [htk]; unfold keepB; rw [List.filter_append]; simp [hin]
        have fin : i = (keepB B (l.take (j + 1))).length ∧ ∃ M : List Int, M.length = n ∧ M.take i = keepB B (l.take (j + 1)) ∧ M.drop (j + 1) = l.drop (j + 1) ∧ Own w0 (IntSl (.slice (some ⟨b, off, none⟩) n cap) M * R) wr :=
          ⟨by rw [hk]; exact hiq, M, a1, by rw [hk]; exact a2, hd, a4⟩
        have FIN := Lib.hid fin; have HK := Lib.hid hk; have HSJ := Lib.hid hsj; have HD := Lib.hid hd; have HTK := Lib.hid htk; have HCELL := Lib.hid hcell; have HFREE := Lib.hid hfree; have HSET := Lib.hid hset; have HX := Lib.hid hx; have HMJ := Lib.hid hMj; have HIQ := Lib.hid hiq; have A2 := Lib.hid a2; have A3 := Lib.hid a3
        clear fin hk hsj hd htk hcell hfree hset hx hMj hiq a2 a3
        clear hp hBB a4
        go_wp2_with fail
        refine (al1_any c x vb B _ hcc HBB.out).mono ?_
        rintro e w' ⟨rfl, rfl⟩
        rw [decide_eq_false hin]
        have HIN := Lib.hid hin
        clear hin
        go_wp2_with fail
        go_roundw
        case rel => exact ⟨j + 1, i, by omega, by omega, by omega, by go_num, by go_num, FIN⟩
        case measure => simp [intOf]; omega
    · have hjn : j = n := by omega
      have hkl : keepB B (l.take j) = keepB B l := by rw [List.take_of_length_le (by rw [← HN.out]; omega)]
      rw [hkl] at hiq a2
      obtain ⟨k1, k2, k3⟩ := clear_back (i := i) (by omega) a1 a4
      rw [a2] at k3
      have hrun : ∀ ty, (Builtin.clear_ #[31] ty #[.slice (some ⟨b, off + i, none⟩) (n - i) (cap - i)]).run Tryd.prog wr = .ok (.tuple #[]) (wr.setCells b (off + i) (List.replicate (n - i) (.int .i64 0))) := fun ty =>
        Lib.run_clear_slice wr 31 3 ty (.int .i64 0) Tryd.underlying31 int_zero rfl rfl b (off + i) (n - i) (cap - i) (by omega) (fun t ht => by rw [Nat.add_assoc]; exact k1 (i + t) (by omega)) (fun t _ => by rw [Nat.add_assoc]; exact k2 (i + t))
      have hne : ¬ cap = i := by omega
      have K3 := Lib.hid k3
      have hin : i < n := by omega
      have HIQ := Lib.hid hiq; have A2 := Lib.hid a2; have A3 := Lib.hid a3; have HKL := Lib.hid hkl; have HJN := Lib.hid hjn; have K1 := Lib.hid k1; have K2 := Lib.hid k2
      clear hiq a2 a3 hkl hjn k1 k2
      clear hp a4 k3
      go_wp2_with fail
      go_ret
      exact ⟨_, rfl, K3.out⟩
set_option maxRecDepth 100000 in
set_option maxHeartbeats 4000000 in
theorem only_any {w0 w : World} {R : HProp} (va vb : Value) (A B : List Int) (hA : Reads w0 R va A) (hB : Reads w0 R vb B) (hlen : A.length ≤ 100000) (h : Own w0 R w) :
    Calls Tryd.prog 73 #[va, vb] w fun e w' => ∃ v', e = .returned v' ∧ Own w0 (IntSl v' (keepB B A) * R) w' := by
  obtain ⟨bd, bcap, hvb, _, _⟩ := (hB _ h).shape
  subst hvb
  have hAI := (hA _ h).2
  have ho := h.alloc (.cells #[.slice bd B.length bcap] 31)
  obtain ⟨c, hc⟩ : ∃ c, c = w.heap.size := ⟨_, rfl⟩
  obtain ⟨w1, hw1⟩ : ∃ w1, w1 = w.alloc (.cells #[.slice bd B.length bcap] 31) := ⟨_, rfl⟩
  rw [← hc, ← hw1] at ho
  have HO := Lib.hid ho
  have HA1 := Lib.hid (hA.more _ ho)
  have HBB : Hid (∀ w', Own w0 (blk c (.cells #[.slice bd B.length bcap] 31 (0, 0)) * R) w' → w'.cell? ⟨c, 0, none⟩ = some (.slice bd B.length bcap) ∧ Ints w' (.slice bd B.length bcap) B) := Lib.hid (fun w' h' => ⟨by rw [h'.cell]; rfl, hB.more _ h'⟩)
  have H := Lib.hid h; have HA := Lib.hid hA; have HB := Lib.hid hB; have HAI := Lib.hid hAI
  clear h hA hB hAI
  clear ho
  go_enter Tryd.func73, Tryd.ntmps73
  go_upto_region 1 with fail
  rw [← hc, ← hw1]
  clear hc hw1
  go_wp2_with fail
  refine (cloneInts_any HO.out va A HA1.out hlen).mono ?_
  rintro e w2 ⟨v1, rfl, ho⟩
  have HO2 := Lib.hid ho
  clear ho
  go_wp2_with fail
  refine (alDel_any c v1 _ A B HAI.out HBB HO2.out).mono ?_
  rintro e w3 ⟨v2, rfl, ho⟩
  have HO3 := Lib.hid ho
  clear ho
  go_wp2
  go_ret
  exact ⟨v2, rfl, (HO3.out.perm (star_left_comm _ _ _)).drop⟩
end Go.Proofs.YtgjjilehpgnjhaaDoor
/- make of a slice of a variable length, for own rows; a table of own rows of bools. -/
namespace Go.Proofs.YtgjjilehpgnjhaaDoor
set_option linter.unusedVariables false
set_option linter.unusedSimpArgs false
open Go.RowKit
theorem wpList_mk {P : Program} {w0 w : World} {R : HProp} {ops : Array Oper} {rest : List Oper} {o : Oper} {a : Act} {Q : Exit → Act → World → Prop}
    (hg : o.guard = none) (l c : Operand) (t : TypeId) (hop : o.op = Op.makeSlice t l c) (e : TypeId) (bytes : Nat) (z : Value) (ht : P.underlying t = some (.slice e)) (hinf : (P.info? e).map (fun i => (i.zero, i.size, i.bytes)) = some (some z, 1, bytes)) (hzs : z.cells = #[z])
    (n : Nat) (hl : a.eval l = .int .i64 (n : Int)) (hc : a.eval c = .int .i64 (n : Int)) (hn : n ≤ 100000) (hb : bytes ≤ 100) (h : Own w0 R w)
    (hK : ∀ b w', Own w0 (SlAt e 1 b 0 n n (List.replicate n z) * R) w' → wpList P ops Q rest (a.put o.dst (.slice (some ⟨b, 0, none⟩) n n)) w') :
    wpList P ops Q (o :: rest) a w := by
  obtain ⟨i, hi, hz, hsize, hby⟩ := info_parts hinf
  have hb2 : i.bytes * n ≤ 281474976710656 := by
    rw [hby]
    exact Nat.le_trans (Nat.mul_le_mul hb hn) (by decide)
  have hm : n ≤ maxLen := by unfold maxLen; omega
  refine wpList_plain hg fun K hK' => ?_
  obtain ⟨w', hrun, r1, r2⟩ := run_make_full (P := P) w w.heap.size t e i z 1 ht hi hz hsize .i64 .i64 n hb2 hm (Nat.le_refl _)
  unfold Oper.wp
  simp [execOp, hop, hl, hc, hrun, Result.andThen]
  refine hK' _ _ (hK _ w' ?_)
  obtain ⟨hxl, h1 | ⟨g, cap, cur, hv, hbg, hh, h3, h4, h5, h6⟩⟩ := r1
  · simp at h1
  · injection hv with e1 e2 e3
    injection e1 with e1
    injection e1 with e1 _ _
    subst e1
    subst e3
    have hx : (madeCells z.cells (n * 1)).toList = List.replicate n z := by
      rw [hzs]
      apply List.ext_getElem
      · simp [madeCells]
      · intro j h1 h2
        simp [madeCells, Nat.mod_one]
    rw [hx] at h6
    have ho := h.new (o := .cells cur e (0, 0)) r2.os r2.tape r2.output r2.size (fun k hk => r2.block k hk (by simp)) hh
    refine ho.cons fun x hx => ⟨cur, Nat.le_refl _, hm, by simp, by rw [h5]; omega, fun j hj => ?_, hx⟩
    rw [← h6, List.getElem?_take, if_pos (by simpa using hj)]
    simp
theorem bool_info : (Tryd.prog.info? 4).map (fun i => (i.zero, i.size, i.bytes)) = some (some (.bool false), 1, 1) := by kernel_rfl
/-- An owned slice of bools. -/
def BoolSl (v : Value) (l : List Bool) : HProp := Sl 4 1 v l.length (l.map Value.bool)
def BRow (r : Value × List Bool) : HProp := BoolSl r.1 r.2
def BTab (rb n : Nat) (rs : List (Value × List Bool)) : HProp := TabO BRow (·.1) 80 rb 0 n rs
theorem Own.bt_slot {w0 w : World} {rb n k : Nat} {rs : List (Value × List Bool)} {R : HProp} (h : Own w0 (BTab rb n rs * R) w) (hk : k < rs.length) : w.cell? ⟨rb, k, none⟩ = some rs[k].1 := by
  have := (Own.tab_facts h).1 k rs[k] (List.getElem?_eq_getElem hk)
  simpa using this
theorem Own.bt_row {w0 w : World} {rb n k : Nat} {rs : List (Value × List Bool)} {R : HProp} (h : Own w0 (BTab rb n rs * R) w) (hk : k < rs.length) (hp : 0 < rs[k].2.length) :
    ∃ b o cap, rs[k].1 = .slice (some ⟨b, o, none⟩) rs[k].2.length cap ∧ rs[k].2.length ≤ cap ∧ cap ≤ 9223372036854775807 ∧ (∀ i s, w.frozen? ⟨b, i, s⟩ = false) ∧ (∀ j (hj : j < rs[k].2.length), w.cell? ⟨b, o + j, none⟩ = some (.bool rs[k].2[j])) ∧
      ∀ j x, j < rs[k].2.length → Own w0 (BTab rb n (rs.set k (rs[k].1, rs[k].2.set j x)) * R) (w.setCell ⟨b, o + j, none⟩ (.bool x)) := by
  have h1 := Own.tab_take h hk
  obtain ⟨b, o, cap, e1, h2⟩ := Own.slAt h1 (by simpa using hp)
  have f := h2.slAt_facts
  refine ⟨b, o, cap, e1, f.1, f.2.1, fun i s => f.2.2.2.2.1 i s, fun j hj => f.2.2.2.1 j _ (by simp [hj]), fun j x hj => ?_⟩
  have h3 := h2.slAt_set j (.bool x) (by simpa using hj)
  have h4 := h3.sl_of_at
  have h5 : Own w0 (BRow (rs[k].1, rs[k].2.set j x) * (SlAt 80 1 rb 0 rs.length n (rs.map (·.1)) * (starL BRow (rs.eraseIdx k) * R))) (w.setCell ⟨b, o + j, none⟩ (.bool x)) := by
    refine h4.perm ?_
    congr 1
    unfold BRow BoolSl
    simp only [List.map_set, List.length_set]
    rw [← e1]
  unfold BTab TabO
  refine h5.perm ?_
  rw [starL_set BRow rs k hk]
  have : (rs.set k (rs[k].1, rs[k].2.set j x)).map (·.1) = rs.map (·.1) := by
    apply List.ext_getElem
    · simp
    · intro m h1 h2
      simp only [List.getElem_map, List.getElem_set]
      split
      · rename_i hm; subst hm; rfl
      · rfl
  rw [this, List.length_set]
  ac_rfl
end Go.Proofs.YtgjjilehpgnjhaaDoor
/- Contracts of package history, continued: who is ahead of whom. -/
namespace Go.Proofs.YtgjjilehpgnjhaaDoor
set_option linter.unusedVariables false
set_option linter.unusedSimpArgs false
open Go.RowKit
/-- The first j places of r with those of s. -/
def orFirst (r s : List Bool) (j : Nat) : List Bool := (List.range r.length).map fun m => if m < j then (r.getD m false || s.getD m false) else r.getD m false
theorem orFirst_len (r s : List Bool) (j : Nat) : (orFirst r s j).length = r.length := by simp [orFirst]
theorem orFirst_zero (r s : List Bool) : orFirst r s 0 = r := by
  apply List.ext_getElem
  · simp [orFirst]
  · intro m h1 h2
    simp [orFirst, List.getD_eq_getElem?_getD, h2]
theorem orFirst_get (r s : List Bool) (j : Nat) (hj : j < r.length) : (orFirst r s j)[j]? = some (r.getD j false) := by
  simp [orFirst, hj]
theorem orFirst_step (r s : List Bool) (j : Nat) (hj : j < r.length) : (orFirst r s j).set j (r.getD j false || s.getD j false) = orFirst r s (j + 1) := by
  apply List.ext_getElem
  · simp [orFirst]
  · intro m h1 h2
    have hm : m < r.length := by simpa [orFirst] using h2
    rw [List.getElem_set]
    simp only [orFirst, List.getElem_map, List.getElem_range]
    by_cases hmj : j = m
    · subst hmj; rw [if_pos rfl, if_pos (by omega)]
    · rw [if_neg hmj]
      by_cases h3 : m < j
      · rw [if_pos h3, if_pos (by omega)]
      · rw [if_neg h3, if_neg (by omega)]
theorem orFirst_all (r s : List Bool) (h : r.length = s.length) : orFirst r s r.length = orRow r s := by
  apply List.ext_getElem
  · simp [orFirst, orRow, h]
  · intro m h1 h2
    have hm : m < r.length := by simpa [orFirst] using h1
    simp only [orFirst, List.getElem_map, List.getElem_range, orRow, List.getElem_zipWith]
    rw [if_pos hm]
    simp [List.getD_eq_getElem?_getD, hm, show m < s.length by omega]
theorem Own.bt_cell {w0 w : World} {rb n k : Nat} {rs : List (Value × List Bool)} {R : HProp} {v : Value} {l : List Bool} (h : Own w0 (BTab rb n rs * R) w) (hk : rs[k]? = some (v, l)) : w.cell? ⟨rb, k, none⟩ = some v := by
  obtain ⟨hlt, he⟩ := List.getElem?_eq_some_iff.1 hk
  have := h.bt_slot hlt
  rw [he] at this; exact this
theorem Own.bt_free {w0 w : World} {rb n : Nat} {rs : List (Value × List Bool)} {R : HProp} (h : Own w0 (BTab rb n rs * R) w) : ∀ i s, w.frozen? ⟨rb, i, s⟩ = false := (Own.tab_facts h).2.1
theorem Own.bt_put {w0 w : World} {rb n k : Nat} {rs : List (Value × List Bool)} {R : HProp} {v : Value} {l : List Bool} {b o cap m : Nat} (h : Own w0 (BTab rb n rs * R) w) (hk : rs[k]? = some (v, l)) (hv : v = .slice (some ⟨b, o, none⟩) m cap) (hp : 0 < l.length) :
    l.length = m ∧ m ≤ cap ∧ cap ≤ 9223372036854775807 ∧ (∀ i s, w.frozen? ⟨b, i, s⟩ = false) ∧ (∀ j x, l[j]? = some x → w.cell? ⟨b, o + j, none⟩ = some (.bool x)) ∧
      ∀ j x, j < l.length → Own w0 (BTab rb n (rs.set k (v, l.set j x)) * R) (w.setCell ⟨b, o + j, none⟩ (.bool x)) := by
  obtain ⟨hlt, he⟩ := List.getElem?_eq_some_iff.1 hk
  obtain ⟨b', o', cap', e1, f1, f2, f3, f4, f5⟩ := h.bt_row hlt (by rw [he]; exact hp)
  simp only [he] at e1 f1 f4 f5
  rw [hv] at e1
  injection e1 with e1 e2 e3
  injection e1 with e1
  injection e1 with e1 e4 _
  subst e1; subst e3; subst e4
  refine ⟨e2.symm, by rw [e2]; exact f1, f2, f3, fun j x hj => ?_, fun j x hj => f5 j x hj⟩
  obtain ⟨hlt2, he2⟩ := List.getElem?_eq_some_iff.1 hj
  have := f4 j hlt2
  rw [he2] at this; exact this
theorem set_same {α : Type} {l : List α} {k : Nat} {a : α} (h : l[k]? = some a) : l.set k a = l := by
  obtain ⟨hk, rfl⟩ := List.getElem?_eq_some_iff.1 h
  simp
noncomputable def paOr_code : Code := ((Tryd.f45.body.bind (findBlock 4)).getD .skip)
set_option maxRecDepth 1000000 in
set_option maxHeartbeats 4000000 in
theorem paOr {Q : Exit → Act → World → Prop} {u0 u1 u2 u5 u6 u7 u8 u9 u10 u11 u12 u13 u14 u15 u16 u17 u18 u19 u20 u21 u22 u23 u24 u25 u26 u27 u28 u29 u30 u31 u32 u33 u34 u35 u36 u37 u38 u39 u40 u41 u42 u43 u44 u45 u46 u47 u48 u49 u50 u51 u52 u53 u54 u55 u56 u57 u58 u59 u60 u61 u62 u63 u64 u65 u66 u67 u68 u69 u70 u71 u75 u76 u77 u78 u79 u80 u81 u82 u83 u84 u85 u86 u87 u88 u89 u90 u91 u92 u93 u94 u95 u96 u97 u98 : Value} {w1 : World} (w : World) (R : HProp) (rb n k i kb ko kcap sb so scap : Nat) (rs : List (Value × List Bool)) (r s : List Bool) (hk : k < n) (hi : i < k) (hn : n ≤ 60) (HR : Hid (rs[k]? = some (.slice (some ⟨kb, ko, none⟩) n kcap, r))) (HS : Hid (rs[i]? = some (.slice (some ⟨sb, so, none⟩) n scap, s))) (HRL : Hid (r.length = n ∧ s.length = n)) (HP : Hid (Own w (BTab rb n rs * R) w1))
    (hK : ∀ (v8 v9 v74 v75 v76 v77 v78 v79 v80 v81 v82 v83 v84 v85 v86 v87 v88 v89 v90 v91 v92 v93 v94 v95 : Value) (wx : World), (Own w (BTab rb n (rs.set k (.slice (some ⟨kb, ko, none⟩) n kcap, orRow r s)) * R) wx) → Q .normal ⟨List.toArray (u0 :: u1 :: u2 :: (.slice (some ⟨rb, 0, none⟩) n n) :: (.int .i64 (k : Int)) :: u5 :: u6 :: u7 :: v8 :: v9 :: u10 :: u11 :: u12 :: u13 :: u14 :: u15 :: u16 :: u17 :: u18 :: u19 :: u20 :: u21 :: u22 :: u23 :: u24 :: u25 :: u26 :: u27 :: u28 :: u29 :: u30 :: u31 :: u32 :: u33 :: u34 :: u35 :: u36 :: u37 :: u38 :: u39 :: u40 :: u41 :: u42 :: u43 :: u44 :: u45 :: u46 :: u47 :: u48 :: u49 :: u50 :: u51 :: u52 :: u53 :: u54 :: u55 :: u56 :: u57 :: u58 :: u59 :: u60 :: u61 :: u62 :: u63 :: u64 :: u65 :: u66 :: u67 :: u68 :: u69 :: u70 :: u71 :: (.slice (some ⟨sb, so, none⟩) n scap) :: (.int .i64 (n : Int)) :: v74 :: v75 :: v76 :: v77 :: v78 :: v79 :: v80 :: v81 :: v82 :: v83 :: v84 :: v85 :: v86 :: v87 :: v88 :: v89 :: v90 :: v91 :: v92 :: v93 :: v94 :: v95 :: u96 :: u97 :: u98 :: []), []⟩ wx) :
    Code.wp Tryd.prog paOr_code Q ⟨List.toArray (u0 :: u1 :: u2 :: (.slice (some ⟨rb, 0, none⟩) n n) :: (.int .i64 (k : Int)) :: u5 :: u6 :: u7 :: u8 :: u9 :: u10 :: u11 :: u12 :: u13 :: u14 :: u15 :: u16 :: u17 :: u18 :: u19 :: u20 :: u21 :: u22 :: u23 :: u24 :: u25 :: u26 :: u27 :: u28 :: u29 :: u30 :: u31 :: u32 :: u33 :: u34 :: u35 :: u36 :: u37 :: u38 :: u39 :: u40 :: u41 :: u42 :: u43 :: u44 :: u45 :: u46 :: u47 :: u48 :: u49 :: u50 :: u51 :: u52 :: u53 :: u54 :: u55 :: u56 :: u57 :: u58 :: u59 :: u60 :: u61 :: u62 :: u63 :: u64 :: u65 :: u66 :: u67 :: u68 :: u69 :: u70 :: u71 :: (.slice (some ⟨sb, so, none⟩) n scap) :: (.int .i64 (n : Int)) :: (.int .i64 0) :: u75 :: u76 :: u77 :: u78 :: u79 :: u80 :: u81 :: u82 :: u83 :: u84 :: u85 :: u86 :: u87 :: u88 :: u89 :: u90 :: u91 :: u92 :: u93 :: u94 :: u95 :: u96 :: u97 :: u98 :: []), []⟩ w1 := by
  conv => arg 2; whnf
  have HK := Lib.hid hK
  clear hK
  go_wp2_with fail
  go_loopw [74] (fun jv wr => ∃ j : Nat, j ≤ n ∧ jv = .int .i64 j ∧ Hid (Own w (BTab rb n (rs.set k (.slice (some ⟨kb, ko, none⟩) n kcap, orFirst r s j)) * R) wr)) (fun jv _ => n - (intOf jv).toNat)
  case atStart =>
    refine ⟨0, Nat.zero_le _, rfl, Lib.hid ?_⟩
    rw [orFirst_zero, set_same HR.out]
    exact HP.out
  case round =>
    obtain ⟨j, hj, rfl, HO⟩ := hrel
    by_cases hlt : j < n
    rotate_left
    · have hjn : j = n := by omega
      have fin := HO.out
      rw [hjn, ← HRL.out.1, orFirst_all r s (HRL.out.1.trans HRL.out.2.symm), HRL.out.1] at fin
      have FIN := Lib.hid fin
      clear fin
      go_wp2_with fail
      apply HK.out
      exact FIN.out
    have hrl := HRL.out.1
    have hkr : k < rs.length := (List.getElem?_eq_some_iff.1 HR.out).1
    have e1 : (rs.set k (.slice (some ⟨kb, ko, none⟩) n kcap, orFirst r s j))[k]? = some (.slice (some ⟨kb, ko, none⟩) n kcap, orFirst r s j) := by simp [hkr]
    have e2 : (rs.set k (.slice (some ⟨kb, ko, none⟩) n kcap, orFirst r s j))[i]? = some (.slice (some ⟨sb, so, none⟩) n scap, s) := by rw [List.getElem?_set, if_neg (by omega)]; exact HS.out
    obtain ⟨g1, g2, g3, g4, g5, g6⟩ := HO.out.bt_put e1 rfl (by rw [orFirst_len]; omega)
    obtain ⟨k1, k2, k3, k4, k5, _⟩ := HO.out.bt_put e2 rfl (by rw [HRL.out.2]; omega)
    have c1 := HO.out.bt_cell e1
    have c2 := HO.out.bt_cell e2
    have d1 := g5 j _ (orFirst_get r s j (by omega))
    have d2 := k5 j (s.getD j false) (by rw [List.getD_eq_getElem?_getD, List.getElem?_eq_getElem (by rw [HRL.out.2]; omega)]; rfl)
    have hst := orFirst_step r s j (by omega)
    have st := g6 j (r.getD j false || s.getD j false) (by rw [orFirst_len]; omega)
    rw [hst, List.set_set] at st
    obtain ⟨x, hx⟩ : ∃ x, x = r.getD j false := ⟨_, rfl⟩
    obtain ⟨y, hy⟩ : ∃ y, y = s.getD j false := ⟨_, rfl⟩
    rw [← hx] at d1 st
    rw [← hy] at d2 st
    have f1 := HO.out.bt_free
    have j0 : (0 : Int) ≤ (j : Int) := by omega
    have j1 : (j : Int) < (n : Int) := by omega
    have k0' : (0 : Int) ≤ (k : Int) := by omega
    have k1' : (k : Int) < (n : Int) := by omega
    have E1 := Lib.hid e1; have E2 := Lib.hid e2; have G5 := Lib.hid g5; have G6 := Lib.hid g6; have K5 := Lib.hid k5; have HST := Lib.hid hst; have HX := Lib.hid hx; have HY := Lib.hid hy; have HRL := Lib.hid hrl; have ST := Lib.hid st; have G1 := Lib.hid g1; have K1 := Lib.hid k1
    clear e1 e2 g5 g6 k5 hst hx hy hrl st g1 k1
    cases x
    · go_wp2_with fail
      refine wp_region_tail 15 (by kernel_rfl) (by kernel_rfl) ?_
      simp only [List.take_succ_cons, List.take_zero, List.drop_succ_cons, List.drop_zero]
      repeat still_step
      refine wpStill_nil ?_
      go_wp2_with fail
      have ST2 := Lib.hid ST.out.drew
      clear ST
      go_roundw
      case rel => exact ⟨j + 1, by omega, by go_num, ST2⟩
      case measure => simp [intOf]; omega
    · go_wp2_with fail
      refine wp_region_tail 15 (by kernel_rfl) (by kernel_rfl) ?_
      simp only [List.take_succ_cons, List.take_zero, List.drop_succ_cons, List.drop_zero]
      repeat still_step
      refine wpStill_nil ?_
      go_wp2_with fail
      have ST2 := Lib.hid ST.out.drew
      clear ST
      go_roundw
      case rel => exact ⟨j + 1, by omega, by go_num, ST2⟩
      case measure => simp [intOf]; omega
end Go.Proofs.YtgjjilehpgnjhaaDoor
/- Contracts of package history, continued: the middle loop of Pasts. -/
namespace Go.Proofs.YtgjjilehpgnjhaaDoor
set_option linter.unusedVariables false
set_option linter.unusedSimpArgs false
open Go.RowKit
def pRows (hs : List Ev) (k n : Nat) (r : List Bool) : List (List Bool) := pastsR hs k ++ r :: List.replicate (n - k - 1) []
theorem pRows_at (hs : List Ev) (k n : Nat) (r : List Bool) : (pRows hs k n r)[k]? = some r := by
  unfold pRows
  rw [List.getElem?_append_right (by rw [pastsR_len]; omega), pastsR_len]; simp
theorem pRows_lt (hs : List Ev) (k n i : Nat) (r : List Bool) (hi : i < k) : (pRows hs k n r)[i]? = some ((pastsR hs k).getD i []) := by
  unfold pRows
  rw [List.getElem?_append_left (by rw [pastsR_len]; exact hi), List.getElem?_eq_getElem (by rw [pastsR_len]; exact hi), List.getD_eq_getElem?_getD, List.getElem?_eq_getElem (by rw [pastsR_len]; exact hi)]
  rfl
theorem pRows_set (hs : List Ev) (k n : Nat) (r r' : List Bool) : (pRows hs k n r).set k r' = pRows hs k n r' := by
  unfold pRows
  rw [List.set_append_right _ _ (by rw [pastsR_len]; omega), pastsR_len]; simp
theorem map_at {α β : Type} {rs : List (α × β)} {L : List β} {k : Nat} {r : β} (h : rs.map (·.2) = L) (hk : L[k]? = some r) : ∃ v, rs[k]? = some (v, r) := by
  rw [← h, List.getElem?_map, Option.map_eq_some_iff] at hk
  obtain ⟨⟨v, r'⟩, h1, h2⟩ := hk
  simp only at h2
  exact ⟨v, by rw [h1, h2]⟩
theorem map_put {α β : Type} {rs : List (α × β)} {L : List β} {k : Nat} {v : α} {r : β} (h : rs.map (·.2) = L) : (rs.set k (v, r)).map (·.2) = L.set k r := by
  rw [List.map_set, h]
theorem Own.bt_shape {w0 w : World} {rb n k : Nat} {rs : List (Value × List Bool)} {R : HProp} {v : Value} {l : List Bool} (h : Own w0 (BTab rb n rs * R) w) (hk : rs[k]? = some (v, l)) (hp : 0 < l.length) : ∃ b o cap, v = .slice (some ⟨b, o, none⟩) l.length cap := by
  obtain ⟨hlt, he⟩ := List.getElem?_eq_some_iff.1 hk
  obtain ⟨b, o, cap, e, _⟩ := h.bt_row hlt (by rw [he]; exact hp)
  rw [he] at e
  exact ⟨b, o, cap, e⟩
noncomputable def paMid_code : Code := ((Tryd.f45.body.bind (findBlock 2)).getD .skip)
set_option maxRecDepth 1000000 in
set_option maxHeartbeats 4000000 in
theorem paMid {Q : Exit → Act → World → Prop} {u1 u2 u6 u7 u8 u9 u10 u11 u12 u13 u14 u15 u16 u17 u18 u19 u20 u21 u22 u23 u24 u25 u28 u29 u30 u31 u32 u33 u34 u35 u36 u37 u38 u39 u40 u41 u42 u43 u44 u45 u46 u47 u48 u49 u50 u51 u52 u53 u54 u55 u56 u57 u58 u59 u60 u61 u62 u63 u64 u65 u66 u67 u68 u69 u70 u71 u72 u73 u74 u75 u76 u77 u78 u79 u80 u81 u82 u83 u84 u85 u86 u87 u88 u89 u90 u91 u92 u93 u94 u95 u96 u97 u98 : Value} {w1 : World} (w : World) (R : HProp) (rb n k eb hcap : Nat) (had : Option Addr) (hs : List Ev) (x : Ev) (rs0 : List (Value × List Bool)) (hk : k < n) (hn : n ≤ 60) (hc1 : n ≤ hcap) (hc2 : hcap ≤ 9223372036854775807) (HLN : Hid (hs.length = n)) (HX : Hid (x = evAt hs k)) (HV : Hid (ReadsE w R (.slice had n hcap) hs)) (HM : Hid (rs0.map (·.2) = pRows hs k n (List.replicate n false))) (HP : Hid (Own w (BTab rb n rs0 * (EvO eb x * R)) w1))
    (hK : ∀ (v6 v7 v8 v9 v27 v28 v29 v30 v31 v32 v33 v34 v35 v36 v37 v38 v39 v40 v41 v42 v43 v44 v45 v46 v47 v48 v49 v50 v51 v52 v53 v54 v55 v56 v57 v58 v59 v60 v61 v62 v63 v64 v65 v66 v67 v68 v69 v70 v71 v72 v73 v74 v75 v76 v77 v78 v79 v80 v81 v82 v83 v84 v85 v86 v87 v88 v89 v90 v91 v92 v93 v94 v95 v96 : Value) (wx : World), (∃ rs' y, rs' = rs0.set k y ∧ rs'.map (·.2) = pRows hs k n (pastRow hs (pastsR hs k) k k) ∧ Own w (BTab rb n rs' * (EvO eb x * R)) wx) → Q .normal ⟨List.toArray ((.slice had n hcap) :: u1 :: u2 :: (.slice (some ⟨rb, 0, none⟩) n n) :: (.int .i64 (k : Int)) :: (.pointer (some ⟨eb, 0, none⟩)) :: v6 :: v7 :: v8 :: v9 :: u10 :: u11 :: u12 :: u13 :: u14 :: u15 :: u16 :: u17 :: u18 :: u19 :: u20 :: u21 :: u22 :: u23 :: u24 :: u25 :: (.int .i64 (k : Int)) :: v27 :: v28 :: v29 :: v30 :: v31 :: v32 :: v33 :: v34 :: v35 :: v36 :: v37 :: v38 :: v39 :: v40 :: v41 :: v42 :: v43 :: v44 :: v45 :: v46 :: v47 :: v48 :: v49 :: v50 :: v51 :: v52 :: v53 :: v54 :: v55 :: v56 :: v57 :: v58 :: v59 :: v60 :: v61 :: v62 :: v63 :: v64 :: v65 :: v66 :: v67 :: v68 :: v69 :: v70 :: v71 :: v72 :: v73 :: v74 :: v75 :: v76 :: v77 :: v78 :: v79 :: v80 :: v81 :: v82 :: v83 :: v84 :: v85 :: v86 :: v87 :: v88 :: v89 :: v90 :: v91 :: v92 :: v93 :: v94 :: v95 :: v96 :: u97 :: u98 :: []), []⟩ wx) :
    Code.wp Tryd.prog paMid_code Q ⟨List.toArray ((.slice had n hcap) :: u1 :: u2 :: (.slice (some ⟨rb, 0, none⟩) n n) :: (.int .i64 (k : Int)) :: (.pointer (some ⟨eb, 0, none⟩)) :: u6 :: u7 :: u8 :: u9 :: u10 :: u11 :: u12 :: u13 :: u14 :: u15 :: u16 :: u17 :: u18 :: u19 :: u20 :: u21 :: u22 :: u23 :: u24 :: u25 :: (.int .i64 (k : Int)) :: (.int .i64 0) :: u28 :: u29 :: u30 :: u31 :: u32 :: u33 :: u34 :: u35 :: u36 :: u37 :: u38 :: u39 :: u40 :: u41 :: u42 :: u43 :: u44 :: u45 :: u46 :: u47 :: u48 :: u49 :: u50 :: u51 :: u52 :: u53 :: u54 :: u55 :: u56 :: u57 :: u58 :: u59 :: u60 :: u61 :: u62 :: u63 :: u64 :: u65 :: u66 :: u67 :: u68 :: u69 :: u70 :: u71 :: u72 :: u73 :: u74 :: u75 :: u76 :: u77 :: u78 :: u79 :: u80 :: u81 :: u82 :: u83 :: u84 :: u85 :: u86 :: u87 :: u88 :: u89 :: u90 :: u91 :: u92 :: u93 :: u94 :: u95 :: u96 :: u97 :: u98 :: []), []⟩ w1 := by
  conv => arg 2; whnf
  have HK := Lib.hid hK
  clear hK
  go_wp2_with fail
  go_loopw [27] (fun iv wr => ∃ (i : Nat) (rs : List (Value × List Bool)), i ≤ k ∧ iv = .int .i64 i ∧ Hid (∃ y, rs = rs0.set k y) ∧ Hid (rs.map (·.2) = pRows hs k n (pastRow hs (pastsR hs k) k i)) ∧ Hid (Own w (BTab rb n rs * (EvO eb x * R)) wr)) (fun iv _ => k - (intOf iv).toNat)
  case atStart => exact ⟨0, rs0, Nat.zero_le _, rfl, Lib.hid (by obtain ⟨v, hv⟩ := map_at HM.out (pRows_at hs k n _); exact ⟨_, (set_same hv).symm⟩), Lib.hid (by rw [HM.out]; unfold pastRow; rw [HLN.out]), HP⟩
  case round =>
    clear HM HP
    obtain ⟨i, rs, hi, rfl, HY, HM, HO⟩ := hrel
    by_cases hlt : i < k
    rotate_left
    · have hik : i = k := by omega
      subst hik
      go_wp2_with fail
      apply HK.out
      obtain ⟨y, hy⟩ := HY.out
      exact ⟨rs, y, hy, HM.out, HO.out⟩
    obtain ⟨p, hp⟩ : ∃ p, p = evAt hs i := ⟨_, rfl⟩
    obtain ⟨aa, pb, po, ps, rfl, hea, hcs, _⟩ := HV.out.more.more.at HO.out i (by rw [HLN.out]; omega)
    rw [← hp] at hcs
    obtain ⟨c0, c1, c2⟩ := hcs _ HO.out
    obtain ⟨d0, d1, d2⟩ := (HO.out.perm (star_left_comm _ _ _)).ev
    have hstep : pastRow hs (pastsR hs k) k (i + 1) = if directB p x then orRow ((pastRow hs (pastsR hs k) k i).set i true) ((pastsR hs k).getD i []) else pastRow hs (pastsR hs k) k i := by rw [hp, HX.out]; rfl
    obtain ⟨D, hD⟩ : ∃ D, D = directB p x := ⟨_, rfl⟩
    rw [← hD] at hstep
    obtain ⟨p1, p2, p3⟩ := p
    obtain ⟨x1, x2, x3⟩ := x
    simp only at c0 c1 c2 d0 d1 d2
    have i0 : (0 : Int) ≤ (i : Int) := by omega
    have i1 : (i : Int) < (n : Int) := by omega
    have k0 : (0 : Int) ≤ (k : Int) := by omega
    have k1 : (k : Int) < (n : Int) := by omega
    have HCS := Lib.hid hcs; have HP := Lib.hid hp; have HD := Lib.hid hD; have HSTEP := Lib.hid hstep
    clear hcs hp hD hstep
    go_upto_region 9 with fail
    go_cut [7] from 30 to 60 (fun tv wx => tv = .bool D ∧ ∃ nq, wx = wr.drewN nq)
    case first =>
      rcases (show ((p1 == x1) = true ∧ D = true) ∨ ((p1 == x1) = false ∧ (x2 == 3) = false ∧ D = false) ∨ ((p1 == x1) = false ∧ (x2 == 3) = true ∧ (p2 == 2) = false ∧ D = false) ∨ ((p1 == x1) = false ∧ (x2 == 3) = true ∧ (p2 == 2) = true ∧ D = (p3 == x3)) by
        rw [HD.out]; unfold directB
        by_cases b1 : p1 = x1 <;> by_cases b2 : x2 = 3 <;> by_cases b3 : p2 = 2 <;> simp [b1, b2, b3, Bool.beq_eq_decide_eq]) with ⟨b1, b4⟩ | ⟨b1, b2, b4⟩ | ⟨b1, b2, b3, b4⟩ | ⟨b1, b2, b3, b4⟩
      all_goals
        have B4 := Lib.hid b4
        clear b4
        go_quiet (fail)
        go_wp2_with fail
        go_meet
        exact ⟨by rw [B4.out], _, rfl⟩
    case rest =>
    obtain ⟨rfl, nq, rfl⟩ := hcut
    have HO2 := Lib.hid (HO.out.drewN nq)
    clear HO c0 c1 c2 d0 d1 d2
    generalize wr.drewN nq = wc at *
    cases D
    · have hM := HM.out
      rw [← (show pastRow hs (pastsR hs k) k (i + 1) = pastRow hs (pastsR hs k) k i by rw [HSTEP.out, if_neg (by simp)])] at hM
      have HM := Lib.hid hM
      clear hM
      go_wp2_with fail
      go_roundw
      case rel => exact ⟨i + 1, rs, by omega, by go_num, HY, HM, HO2⟩
      case measure => simp [intOf]; omega
    · have hstep := HSTEP.out
      rw [if_pos rfl] at hstep
      have hl := pastRow_len hs (pastsR hs k) k (pastsR_row hs k) i (by rw [pastsR_len]; omega)
      have hm : (pastsR hs k).getD i [] ∈ pastsR hs k := by
        rw [List.getD_eq_getElem?_getD, List.getElem?_eq_getElem (by rw [pastsR_len]; exact hlt)]
        exact List.getElem_mem _
      have hl2 := pastsR_row hs k _ hm
      obtain ⟨kv, hkv⟩ := map_at HM.out (pRows_at hs k n _)
      obtain ⟨sv, hsv⟩ := map_at HM.out (pRows_lt hs k n i _ hlt)
      have hM := HM.out
      obtain ⟨r, hr⟩ : ∃ r, r = pastRow hs (pastsR hs k) k i := ⟨_, rfl⟩
      obtain ⟨s, hs2⟩ : ∃ s, s = (pastsR hs k).getD i [] := ⟨_, rfl⟩
      rw [← hr] at hkv hl hM
      rw [← hs2] at hsv hl2
      rw [← hr, ← hs2] at hstep
      rw [HLN.out] at hl hl2
      obtain ⟨kb, ko, kcap, rfl⟩ := HO2.out.bt_shape hkv (by omega)
      obtain ⟨sb, so, scap, rfl⟩ := HO2.out.bt_shape hsv (by omega)
      rw [hl] at hkv
      rw [hl2] at hsv
      obtain ⟨g1, g2, g3, g4, g5, g6⟩ := HO2.out.bt_put hkv rfl (by omega)
      have c1 := HO2.out.bt_cell hkv
      have d5 := g5 i (r.getD i false) (by rw [List.getD_eq_getElem?_getD, List.getElem?_eq_getElem (by omega)]; rfl)
      have f1 := HO2.out.bt_free
      have st := g6 i true (by omega)
      have hkr : k < rs.length := (List.getElem?_eq_some_iff.1 hkv).1
      have e1 : (rs.set k (Value.slice (some ⟨kb, ko, none⟩) n kcap, r.set i true))[k]? = some (.slice (some ⟨kb, ko, none⟩) n kcap, r.set i true) := by simp [hkr]
      have e2 : (rs.set k (Value.slice (some ⟨kb, ko, none⟩) n kcap, r.set i true))[i]? = some (.slice (some ⟨sb, so, none⟩) n scap, s) := by rw [List.getElem?_set, if_neg (by omega)]; exact hsv
      have hfin : ((rs.set k (Value.slice (some ⟨kb, ko, none⟩) n kcap, r.set i true)).set k (.slice (some ⟨kb, ko, none⟩) n kcap, orRow (r.set i true) s)).map (·.2) = pRows hs k n (pastRow hs (pastsR hs k) k (i + 1)) := by
        rw [List.set_set, map_put hM, pRows_set, hstep]
      have c2 := st.bt_cell e2
      have hrl : (r.set i true).length = n ∧ s.length = n := ⟨by rw [List.length_set]; exact hl, hl2⟩
      have E1 := Lib.hid e1
      have E2 := Lib.hid e2
      have ST := Lib.hid st
      have HRL := Lib.hid hrl
      have HFIN := Lib.hid hfin
      clear hstep HSTEP hkv hsv hM HM hr hs2 hm g1 g5 g6 st e1 e2 hrl hfin hl hl2 hkr
      obtain ⟨w2, hw2⟩ : ∃ w2, w2 = wc.setCell ⟨kb, ko + i, none⟩ (.bool true) := ⟨_, rfl⟩
      rw [← hw2] at c2 ST
      go_upto_region 12 with fail
      rw [← hw2]
      clear hw2 c1 f1 g4 d5
      go_upto_block 4 with fail
      refine paOr w (EvO eb (x1, x2, x3) * R) rb n k i kb ko kcap sb so scap _ (r.set i true) s hk hlt hn E1 E2 HRL ST ?_
      intros
      rename_i hcut
      have HO3 := Lib.hid hcut
      clear hcut
      go_wp2_with fail
      go_roundw
      case rel => exact ⟨i + 1, _, by omega, by go_num, Lib.hid (by obtain ⟨y, hy⟩ := HY.out; rw [hy]; simp only [List.set_set]; exact ⟨_, rfl⟩), HFIN, HO3⟩
      case measure => simp [intOf]; omega
end Go.Proofs.YtgjjilehpgnjhaaDoor
