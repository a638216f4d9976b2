/- Contracts of package faces: what two lists share. -/
import Derived.Test.YtljlnhbndkdlcaaDoorMLogKeeps3
import Derived.Lib.SliceRun
import Derived.Test.YtljlnhbndkdlcaaDoorMLogKeeps0
import Derived.Test.YtljlnhbndkdlcaaDoorProg
import Derived.ProofKit
import Derived.OpenShut
import Derived.ShutString
import Derived.ChangeOld
import Derived.Deep.Slices
import Derived.SizedLaws
import Derived.KernelRfl
import Derived.Test.YtljlnhbndkdlcaaDoorMLogKeeps1
import Derived.ChangeArms
import Derived.Deep.Fields
namespace Go.Proofs.YtljlnhbndkdlcaaDoor
set_option linter.unusedVariables false
set_option linter.unusedSimpArgs false
open Go.RowKit
def alF (c : Nat) : Value := .func (.func 67) #[] #[.pointer (some ⟨c, 0, none⟩)]
set_option maxRecDepth 100000 in
set_option maxHeartbeats 4000000 in
theorem al1_any (c : Nat) (m : Int) (vb : Value) (B : List Int) (w : World) (hc : w.cell? ⟨c, 0, none⟩ = some vb) (hB : Ints w vb B) :
    Calls Tryd.prog 67 #[.int .i64 m, .pointer (some ⟨c, 0, none⟩)] w fun e w' => e = .returned (.bool (!decide (m ∈ B))) ∧ w = w' := by
  obtain ⟨ad, cap, rfl, _, _⟩ := hB.shape
  have HB := Lib.hid hB
  clear hB
  go_enter Tryd.func67, Tryd.ntmps67
  go_wp2_with fail
  refine (containsInt_any _ B m _ HB.out).mono ?_
  rintro e w' ⟨rfl, rfl⟩
  go_wp2
  go_ret
  exact ⟨rfl, rfl⟩
set_option maxRecDepth 100000 in
set_option maxHeartbeats 4000000 in
theorem alIndex_any (c : Nat) (v vb : Value) (l B : List Int) (w : World) (hc : w.cell? ⟨c, 0, none⟩ = some vb) (hB : Ints w vb B) (hl : Ints w v l) :
    Calls Tryd.prog 92 #[v, alF c] w fun e w' => e = .returned (.int .i64 (whereIs (fun n => !decide (n ∈ B)) l)) ∧ w = w' := by
  obtain ⟨ad, cap, rfl, hlc, hcap⟩ := hl.shape
  unfold alF
  have HL := Lib.hid hl; have HB := Lib.hid hB
  clear hl hB
  go_enter Tryd.func92, Tryd.ntmps92
  go_wp2_with fail
  go_loop [8] (fun i => ∃ k : Nat, k ≤ l.length ∧ i = .int .i64 k ∧ Hid (∀ j (_ : j < k) (h : j < l.length), l[j] ∈ B)) (fun i => l.length - (intOf i).toNat)
  case atStart => exact ⟨0, Nat.zero_le _, rfl, Lib.hid (fun j h => by omega)⟩
  case round =>
    obtain ⟨k, hk, rfl, hp⟩ := hrel
    by_cases hlt : k < l.length
    rotate_left
    · have hm : whereIs (fun n => !decide (n ∈ B)) l = -1 := whereIs_miss _ l (fun j h => by simpa using hp.out j (by omega) h)
      have HM := Lib.hid hm
      clear hm
      go_wp2
      go_ret
      exact ⟨by rw [HM.out]; rfl, rfl⟩
    obtain ⟨aa, rfl, hca⟩ := HL.out.at k hlt
    by_cases hin : l[k] ∈ B
    · have hn : ∀ j (_ : j < k + 1) (h : j < l.length), l[j] ∈ B := fun j h1 h2 => by
        by_cases e : j = k
        · subst e; exact hin
        · exact hp.out j (by omega) h2
      have HN := Lib.hid hn
      clear hn
      go_wp2_with fail
      refine (al1_any c l[k] vb B _ hc HB.out).mono ?_
      rintro e w' ⟨rfl, rfl⟩
      rw [decide_eq_true hin]
      have HIN := Lib.hid hin
      clear hin
      go_wp2
      go_round
      case rel => exact ⟨k + 1, by omega, by go_num, HN⟩
      case measure => simp [intOf]; omega
    · have hm : whereIs (fun n => !decide (n ∈ B)) l = k := whereIs_hit _ l k hlt (fun j h => by simpa using hp.out j h (by omega)) (by simpa using hin)
      have HM := Lib.hid hm
      clear hm
      go_wp2_with fail
      refine (al1_any c l[k] vb B _ hc HB.out).mono ?_
      rintro e w' ⟨rfl, rfl⟩
      rw [decide_eq_false hin]
      have HIN := Lib.hid hin
      clear hin
      go_wp2
      go_ret
      exact ⟨by rw [HM.out]; rfl, rfl⟩
set_option maxRecDepth 100000 in
set_option maxHeartbeats 4000000 in
theorem alDel_any {w0 w : World} {R : HProp} (c : Nat) (v vb : Value) (l B : List Int) (hl : ∀ x ∈ l, I64 x) (HB : Hid (∀ w', Own w0 R w' → w'.cell? ⟨c, 0, none⟩ = some vb ∧ Ints w' vb B)) (h : Own w0 (IntSl v l * R) w) :
    Calls Tryd.prog 66 #[v, alF c] w fun e w' => ∃ v', e = .returned v' ∧ Own w0 (IntSl v' (keepB B l) * R) w' := by
  have hv := IntSl_reads hl _ h
  obtain ⟨ad, cap, rfl, hlc, hcap⟩ := hv.shape
  obtain ⟨n, hn⟩ : ∃ n, n = l.length := ⟨_, rfl⟩
  obtain ⟨hc0, hB0⟩ := HB.out _ h.drop
  have HIX := Lib.hid (alIndex_any c _ vb l B w hc0 hB0 hv)
  rw [← hn] at hlc
  have H := Lib.hid h
  rw [← hn] at HIX H ⊢
  unfold alF at HIX ⊢
  by_cases hall : ∀ x ∈ l, x ∈ B
  · have hw : whereIs (fun n => !decide (n ∈ B)) l = -1 := whereIs_miss _ l (fun j h => by simpa using hall _ (List.getElem_mem h))
    have hk : keepB B l = l := List.filter_eq_self.2 (fun x hx => by simpa using hall x hx)
    have HW := Lib.hid hw; have HK := Lib.hid hk; have HV := Lib.hid hv; have HL := Lib.hid hl; have HALL := Lib.hid hall; have HB0 := Lib.hid hB0; have HN := Lib.hid hn
    clear hw hk hv hl hall hB0 hn
    clear h
    go_enter Tryd.func66, Tryd.ntmps66
    go_wp2_with fail
    refine HIX.out.mono ?_
    rintro e w' ⟨rfl, rfl⟩
    rw [HW.out]
    go_wp2
    go_ret
    exact ⟨_, rfl, by rw [HK.out]; exact H.out⟩
  obtain ⟨q, hq⟩ : ∃ q : Nat, whereIs (fun n => !decide (n ∈ B)) l = q := by
    refine ⟨(whereIs (fun n => !decide (n ∈ B)) l).toNat, ?_⟩
    have hneg : ¬ whereIs (fun n => !decide (n ∈ B)) l < 0 := fun h => by
      rw [whereIs_neg, List.any_eq_false] at h
      exact hall fun x hx => by simpa using h x hx
    omega
  have hwi := whereIs_spec (fun n => !decide (n ∈ B)) l q hq
  obtain ⟨hqn, hqb, hql⟩ := hwi
  have hql' : l[q]'hqn ∉ B := by simpa using hql
  have hkq : keepB B (l.take q) = l.take q := List.filter_eq_self.2 (fun x hx => by
    obtain ⟨j, hj, rfl⟩ := List.mem_iff_getElem.1 hx
    rw [List.length_take] at hj
    have := hqb j (by omega)
    rw [List.getElem_take]
    simpa using this)
  have hkq1 : keepB B (l.take (q + 1)) = l.take q := by
    rw [List.take_succ_eq_append_getElem hqn]
    unfold keepB at hkq ⊢
    rw [List.filter_append, hkq]
    simp [hql']
  have hqn' : q < n := by omega
  have HM0 : Hid (∃ M : List Int, M.length = n ∧ M.take q = keepB B (l.take (q + 1)) ∧ M.drop (q + 1) = l.drop (q + 1) ∧ Own w0 (IntSl (.slice ad n cap) M * R) w) := Lib.hid ⟨l, hn.symm, hkq1.symm, rfl, H.out⟩
  have hcap2 : cap ≤ 9223372036854775807 := hcap
  have hnp : 0 < n := by omega
  obtain ⟨b, off, cp, hsl, _⟩ := Own.ints_at H.out (by omega)
  injection hsl with e1 e2 e3
  subst e1; subst e3
  clear e2
  have HIX2 := HIX.out
  rw [hq] at HIX2
  have HIX3 := Lib.hid HIX2
  have hzc := fun w => Lib.run_clear_slice (P := Tryd.prog) w 32 3
  clear hzc HIX2 HIX
  have HQ := Lib.hid hq; have HQB := Lib.hid hqb; have HQL := Lib.hid hql; have HQL' := Lib.hid hql'; have HKQ := Lib.hid hkq; have HKQ1 := Lib.hid hkq1; have HALL := Lib.hid hall; have HV := Lib.hid hv; have HB0 := Lib.hid hB0; have HL := Lib.hid hl; have HN := Lib.hid hn
  clear hq hqb hql hql' hkq hkq1 hall hv hB0 hl hn
  clear h
  have tq : ((q : Int) == -1) = false := by rw [beq_eq_false_iff_ne]; omega
  go_enter Tryd.func66, Tryd.ntmps66
  go_wp2_with fail
  refine HIX3.out.mono ?_
  rintro e w' ⟨rfl, rfl⟩
  go_wp2_with fail
  go_loopw [5, 6] (fun iv jv wr => ∃ j i : Nat, q + 1 ≤ j ∧ j ≤ n ∧ i < j ∧ iv = .int .i64 i ∧ jv = .int .i64 j ∧ Hid (i = (keepB B (l.take j)).length ∧ ∃ M : List Int, M.length = n ∧ M.take i = keepB B (l.take j) ∧ M.drop j = l.drop j ∧ Own w0 (IntSl (.slice (some ⟨b, off, none⟩) n cap) M * R) wr)) (fun _ jv _ => n - (intOf jv).toNat)
  case atStart =>
    refine ⟨q + 1, q, Nat.le_refl _, by omega, by omega, rfl, by go_num, Lib.hid ⟨?_, ?_⟩⟩
    · rw [HKQ1.out, List.length_take]; omega
    · obtain ⟨M, a1, a2, a3, a4⟩ := HM0.out
      exact ⟨M, a1, a2, a3, a4⟩
  case round =>
    obtain ⟨j, i, hj1, hj2, hij, rfl, rfl, hp⟩ := hrel
    obtain ⟨hiq, M, a1, a2, a3, a4⟩ := hp.out
    by_cases hlt : j < n
    · have hjl : j < l.length := by rw [← HN.out]; exact hlt
      have hjM : j < M.length := by omega
      obtain ⟨b', off', cp', hsl', _, _, hcell, hfree, _, _, hset⟩ := Own.ints_at a4 (by omega)
      injection hsl' with e1 e2 e3
      clear e2
      injection e1 with e1
      injection e1 with e1 e4
      subst e1; subst e4; subst e3
      obtain ⟨x, hx⟩ : ∃ x, x = l[j] := ⟨_, rfl⟩
      have hMj : M[j] = x := by
        have h1 : (M.drop j)[0]? = (l.drop j)[0]? := by rw [a3]
        rw [List.getElem?_drop, List.getElem?_drop, Nat.add_zero, List.getElem?_eq_getElem hjM, List.getElem?_eq_getElem hjl] at h1
        rw [hx]; injection h1
      have c1 := hcell j hjM
      rw [hMj] at c1
      obtain ⟨hcc, hBB⟩ := HB.out _ a4.drop
      have f1 := hfree (off + i) none
      have hiM : i < M.length := by omega
      obtain ⟨mi, hmi⟩ : ∃ x, x = M[i]'hiM := ⟨_, rfl⟩
      have ci := hcell i hiM
      rw [← hmi] at ci
      clear hmi
      have htk : l.take (j + 1) = l.take j ++ [x] := by rw [hx]; exact List.take_succ_eq_append_getElem hjl
      have hd : M.drop (j + 1) = l.drop (j + 1) := by rw [← List.drop_drop, a3, List.drop_drop]
      have hsj := hset i x (by omega)
      have HBB := Lib.hid hBB
      have HA4 := Lib.hid a4
      by_cases hin : x ∈ B
      · have hk : keepB B (l.take (j + 1)) = keepB B (l.take j) ++ [x] := by rw [htk]; unfold keepB; rw [List.filter_append]; simp [hin]
        have fin : i + 1 = (keepB B (l.take (j + 1))).length ∧ ∃ M : List Int, M.length = n ∧ M.take (i + 1) = keepB B (l.take (j + 1)) ∧ M.drop (j + 1) = l.drop (j + 1) ∧ Own w0 (IntSl (.slice (some ⟨b, off, none⟩) n cap) M * R) (wr.setCell ⟨b, off + i, none⟩ (.int .i64 x)) := by
          refine ⟨by rw [hk, List.length_append, ← hiq]; rfl, M.set i x, by rw [List.length_set]; exact a1, ?_, ?_, hsj⟩
          · rw [hk, ← a2, List.take_succ_eq_append_getElem (by rw [List.length_set]; omega), List.getElem_set_self, List.take_set_of_le (Nat.le_refl i)]
          · rw [List.drop_set_of_lt (by omega)]; exact hd
        have FIN := Lib.hid fin; have HK := Lib.hid hk; have HSJ := Lib.hid hsj; have HD := Lib.hid hd; have HTK := Lib.hid htk; have HCELL := Lib.hid hcell; have HFREE := Lib.hid hfree; have HSET := Lib.hid hset; have HX := Lib.hid hx; have HMJ := Lib.hid hMj; have HIQ := Lib.hid hiq; have A2 := Lib.hid a2; have A3 := Lib.hid a3
        clear fin hk hsj hd htk hcell hfree hset hx hMj hiq a2 a3
        clear hp hBB a4
        go_wp2_with fail
        refine (al1_any c x vb B _ hcc HBB.out).mono ?_
        rintro e w' ⟨rfl, rfl⟩
        rw [decide_eq_true hin]
        have HIN := Lib.hid hin
        clear hin
        go_wp2_with fail
        go_roundw
        case rel => exact ⟨j + 1, i + 1, by omega, by omega, by omega, by go_num, by go_num, FIN⟩
        case measure => simp [intOf]; omega
      · have hk : keepB B (l.take (j + 1)) = keepB B (l.take j) := by rw [htk]; unfold keepB; rw [List.filter_append]; simp [hin]
        have fin : i = (keepB B (l.take (j + 1))).length ∧ ∃ M : List Int, M.length = n ∧ M.take i = keepB B (l.take (j + 1)) ∧ M.drop (j + 1) = l.drop (j + 1) ∧ Own w0 (IntSl (.slice (some ⟨b, off, none⟩) n cap) M * R) wr :=
          ⟨by rw [hk]; exact hiq, M, a1, by rw [hk]; exact a2, hd, a4⟩
        have FIN := Lib.hid fin; have HK := Lib.hid hk; have HSJ := Lib.hid hsj; have HD := Lib.hid hd; have HTK := Lib.hid htk; have HCELL := Lib.hid hcell; have HFREE := Lib.hid hfree; have HSET := Lib.hid hset; have HX := Lib.hid hx; have HMJ := Lib.hid hMj; have HIQ := Lib.hid hiq; have A2 := Lib.hid a2; have A3 := Lib.hid a3
        clear fin hk hsj hd htk hcell hfree hset hx hMj hiq a2 a3
        clear hp hBB a4
        go_wp2_with fail
        refine (al1_any c x vb B _ hcc HBB.out).mono ?_
        rintro e w' ⟨rfl, rfl⟩
        rw [decide_eq_false hin]
        have HIN := Lib.hid hin
        clear hin
        go_wp2_with fail
        go_roundw
        case rel => exact ⟨j + 1, i, by omega, by omega, by omega, by go_num, by go_num, FIN⟩
        case measure => simp [intOf]; omega
    · have hjn : j = n := by omega
      have hkl : keepB B (l.take j) = keepB B l := by rw [List.take_of_length_le (by rw [← HN.out]; omega)]
      rw [hkl] at hiq a2
      obtain ⟨k1, k2, k3⟩ := clear_back (i := i) (by omega) a1 a4
      rw [a2] at k3
      have hrun : ∀ ty, (Builtin.clear_ #[32] ty #[.slice (some ⟨b, off + i, none⟩) (n - i) (cap - i)]).run Tryd.prog wr = .ok (.tuple #[]) (wr.setCells b (off + i) (List.replicate (n - i) (.int .i64 0))) := fun ty =>
        Lib.run_clear_slice wr 32 3 ty (.int .i64 0) Tryd.underlying32 int_zero rfl rfl b (off + i) (n - i) (cap - i) (by omega) (fun t ht => by rw [Nat.add_assoc]; exact k1 (i + t) (by omega)) (fun t _ => by rw [Nat.add_assoc]; exact k2 (i + t))
      have hne : ¬ cap = i := by omega
      have K3 := Lib.hid k3
      have hin : i < n := by omega
      have HIQ := Lib.hid hiq; have A2 := Lib.hid a2; have A3 := Lib.hid a3; have HKL := Lib.hid hkl; have HJN := Lib.hid hjn; have K1 := Lib.hid k1; have K2 := Lib.hid k2
      clear hiq a2 a3 hkl hjn k1 k2
      clear hp a4 k3
      go_wp2_with fail
      go_ret
      exact ⟨_, rfl, K3.out⟩
set_option maxRecDepth 100000 in
set_option maxHeartbeats 4000000 in
theorem only_any {w0 w : World} {R : HProp} (va vb : Value) (A B : List Int) (hA : Reads w0 R va A) (hB : Reads w0 R vb B) (hlen : A.length ≤ 100000) (h : Own w0 R w) :
    Calls Tryd.prog 65 #[va, vb] w fun e w' => ∃ v', e = .returned v' ∧ Own w0 (IntSl v' (keepB B A) * R) w' := by
  obtain ⟨bd, bcap, hvb, _, _⟩ := (hB _ h).shape
  subst hvb
  have hAI := (hA _ h).2
  have ho := h.alloc (.cells #[.slice bd B.length bcap] 32)
  obtain ⟨c, hc⟩ : ∃ c, c = w.heap.size := ⟨_, rfl⟩
  obtain ⟨w1, hw1⟩ : ∃ w1, w1 = w.alloc (.cells #[.slice bd B.length bcap] 32) := ⟨_, rfl⟩
  rw [← hc, ← hw1] at ho
  have HO := Lib.hid ho
  have HA1 := Lib.hid (hA.more _ ho)
  have HBB : Hid (∀ w', Own w0 (blk c (.cells #[.slice bd B.length bcap] 32 (0, 0)) * R) w' → w'.cell? ⟨c, 0, none⟩ = some (.slice bd B.length bcap) ∧ Ints w' (.slice bd B.length bcap) B) := Lib.hid (fun w' h' => ⟨by rw [h'.cell]; rfl, hB.more _ h'⟩)
  have H := Lib.hid h; have HA := Lib.hid hA; have HB := Lib.hid hB; have HAI := Lib.hid hAI
  clear h hA hB hAI
  clear ho
  go_enter Tryd.func65, Tryd.ntmps65
  go_upto_region 1 with fail
  rw [← hc, ← hw1]
  clear hc hw1
  go_wp2_with fail
  refine (cloneInts_any HO.out va A HA1.out hlen).mono ?_
  rintro e w2 ⟨v1, rfl, ho⟩
  have HO2 := Lib.hid ho
  clear ho
  go_wp2_with fail
  refine (alDel_any c v1 _ A B HAI.out HBB HO2.out).mono ?_
  rintro e w3 ⟨v2, rfl, ho⟩
  have HO3 := Lib.hid ho
  clear ho
  go_wp2
  go_ret
  exact ⟨v2, rfl, (HO3.out.perm (star_left_comm _ _ _)).drop⟩
end Go.Proofs.YtljlnhbndkdlcaaDoor
/- How the arguments of a law read, as plain facts on the world in which the call begins. -/
namespace Go.Proofs.YtljlnhbndkdlcaaDoor
set_option linter.unusedVariables false
set_option linter.unusedSimpArgs false
open Go.ChangeShapes Go.WideShapes Go.ChangeAt Go.RowKit Go.Deep
open Go.ChangeMaps (open_string shut_string)
variable {H : Type} {enc : TypeId × Value → H} {w : World} {b0 : Nat} {d : DataW H} {p : List MemPlace} {v : Value}
set_option maxRecDepth 100000 in
theorem arg_int (hv : Value.okWide Tryd.prog w .any b0 3 v) (h : DataW.Trod enc Tryd.prog w 0 (fun _ => true) true 3 v d p) : ∃ a : Int, v = .int .i64 a ∧ I64 a := by
  obtain ⟨n, e, _, _, hw⟩ := open_int Tryd.underlying3 hv h
  exact ⟨n, e, I64_of_wf hw⟩
set_option maxRecDepth 100000 in
theorem arg_bool (hv : Value.okWide Tryd.prog w .any b0 4 v) (h : DataW.Trod enc Tryd.prog w 0 (fun _ => true) true 4 v d p) : ∃ a : Bool, v = .bool a := by
  obtain ⟨n, e, _⟩ := open_bool Tryd.underlying4 hv h
  exact ⟨n, e⟩
set_option maxRecDepth 100000 in
theorem arg_string (hv : Value.okWide Tryd.prog w .any b0 9 v) (h : DataW.Trod enc Tryd.prog w 0 (fun _ => true) true 9 v d p) : ∃ a : ByteArray, v = .string a ∧ a.size ≤ maxLen := by
  obtain ⟨n, e, _, _, hw⟩ := open_string Tryd.underlying9 hv h
  exact ⟨n, e, hw⟩
theorem cells_int : Tryd.prog.cellsOf 3 = 1 := by kernel_rfl
/-- A slice of ints, off its cells' reading. -/
theorem trod_ints {fuel : Nat} {cs : List Value} {x : DataW H × List MemPlace} (h : DataW.trod enc Tryd.prog w 0 (fun _ => true) true fuel 32 cs = some x) : ∃ v l, cs = [v] ∧ Ints w v l := by
  rcases open_ints Tryd.underlying32 Tryd.underlying3 cells_int h with ⟨rfl, _⟩ | ⟨a, len, cap, zs, rfl, _, hl, hm, hz, _, hc, hw⟩
  · exact ⟨_, [], rfl, Ints_nil _⟩
  · have hz' : zs.length = cap := by simpa using hz
    refine ⟨_, zs.take len, rfl, ⟨some a, cap, by simp; omega, by simp; omega, hm, by simp, fun i u hi => ⟨a, rfl, ?_⟩⟩, fun y hy => I64_of_wf (hw y (List.mem_of_mem_take hy))⟩
    rw [List.getElem?_map, Option.map_eq_some_iff] at hi
    obtain ⟨y, hy, rfl⟩ := hi
    rw [List.getElem?_take] at hy
    split at hy
    · rename_i hlt
      rw [hc i (by omega), List.getD, hy]; rfl
    · cases hy
set_option maxRecDepth 100000 in
theorem arg_ints (hv : Value.okWide Tryd.prog w .any b0 32 v) (h : DataW.Trod enc Tryd.prog w 0 (fun _ => true) true 32 v d p) : ∃ l, Ints w v l := by
  obtain ⟨ad, n, c, rfl⟩ := okWide_slice Tryd.underlying32 hv
  obtain ⟨fuel, hf⟩ := h
  obtain ⟨v', l, he, hr⟩ := trod_ints hf
  simp [Value.cells] at he
  exact ⟨l, he ▸ hr⟩
theorem cells_ints : Tryd.prog.cellsOf 32 = 1 := by kernel_rfl
set_option maxRecDepth 100000 in
theorem arg_rows (hv : Value.okWide Tryd.prog w .any b0 42 v) (h : DataW.Trod enc Tryd.prog w 0 (fun _ => true) true 42 v d p) : ∃ ll, Rows2 w v ll := by
  obtain ⟨ad, n, c, rfl⟩ := okWide_slice Tryd.underlying42 hv
  obtain ⟨fuel, hf⟩ := h
  rcases open_slice1 Tryd.underlying42 cells_ints hf with ⟨he, _⟩ | ⟨a, len, cap, m, k, V, D, Pl, he, _, hl, hm, hmm, _, hx⟩
  · simp [Value.cells] at he
    obtain ⟨rfl, rfl, rfl⟩ := he
    exact ⟨[], Rows2_nil _⟩
  · simp [Value.cells] at he
    obtain ⟨rfl, rfl, rfl⟩ := he
    simp only [if_true] at hmm
    exact Rows2_mk hl hm (fun i hi => (hx i (by omega)).1) (fun i hi => by
      obtain ⟨v', l, he, hr⟩ := trod_ints (hx i (by omega)).2
      simp at he
      exact ⟨l, he ▸ hr⟩)
end Go.Proofs.YtljlnhbndkdlcaaDoor
/- Histories, plainly: what is right, who is ahead of whom, which cuts could have been. -/
namespace Go.Proofs.YtljlnhbndkdlcaaDoor
set_option linter.unusedVariables false
set_option linter.unusedSimpArgs false
open Go.RowKit
abbrev Ev := Int × Int × Int
def whereI {α : Type} (p : α → Bool) : List α → Int
  | [] => -1
  | x :: r => if p x then 0 else if whereI p r < 0 then -1 else whereI p r + 1
theorem whereI_hit {α : Type} (p : α → Bool) : ∀ (l : List α) (k : Nat) (hk : k < l.length), (∀ j (h : j < k), p (l[j]'(by omega)) = false) → p l[k] = true → whereI p l = k
  | x :: r, 0, hk, _, h => by unfold whereI; rw [if_pos (by simpa using h)]; rfl
  | x :: r, k + 1, hk, h1, h2 => by
    have ih := whereI_hit p r k (by simpa using hk) (fun j h => by have := h1 (j + 1) (by omega); simpa using this) (by simpa using h2)
    unfold whereI
    rw [if_neg (by have := h1 0 (by omega); simpa using this), ih, if_neg (by omega)]
    omega
theorem whereI_miss {α : Type} (p : α → Bool) : ∀ (l : List α), (∀ j (h : j < l.length), p l[j] = false) → whereI p l = -1
  | [], _ => rfl
  | x :: r, h => by
    have ih := whereI_miss p r (fun j hj => by have := h (j + 1) (by simpa using hj); simpa using this)
    unfold whereI
    rw [if_neg (by have := h 0 (by simp); simpa using this), ih, if_pos (by omega)]
theorem whereI_cases {α : Type} (p : α → Bool) (l : List α) : (whereI p l = -1 ∧ ∀ x ∈ l, p x = false) ∨ ∃ (k : Nat) (hk : k < l.length), whereI p l = k ∧ p l[k] = true ∧ ∀ j (h : j < k), p (l[j]'(by omega)) = false := by
  induction l with
  | nil => exact .inl ⟨rfl, fun x h => by cases h⟩
  | cons x r ih =>
    by_cases hx : p x = true
    · exact .inr ⟨0, by simp, by unfold whereI; rw [if_pos hx]; rfl, by simpa using hx, fun j h => by omega⟩
    rcases ih with ⟨h1, h2⟩ | ⟨k, hk, h1, h2, h3⟩
    · refine .inl ⟨by unfold whereI; rw [if_neg hx, if_pos (by omega)], fun y hy => ?_⟩
      rcases List.mem_cons.1 hy with rfl | hy
      · simpa using hx
      · exact h2 y hy
    · refine .inr ⟨k + 1, by simpa using hk, by unfold whereI; rw [if_neg hx, if_neg (by omega)]; omega, by simpa using h2, fun j h => ?_⟩
      cases j with
      | zero => simpa using hx
      | succ j => simpa using h3 j (by omega)
theorem whereI_any {α : Type} (p : α → Bool) (l : List α) : (0 ≤ whereI p l) ↔ l.any p = true := by
  rcases whereI_cases p l with ⟨h1, h2⟩ | ⟨k, hk, h1, h2, _⟩
  · rw [h1]
    constructor
    · intro h; omega
    · intro h
      obtain ⟨x, hx, hp⟩ := List.any_eq_true.1 h
      rw [h2 x hx] at hp; cases hp
  · rw [h1]
    exact ⟨fun _ => List.any_eq_true.2 ⟨_, List.getElem_mem hk, h2⟩, fun _ => by omega⟩
def rightB (e : Ev) : Bool := isMember e.1 && (if e.2.1 = 1 then decide (e.2.2 = 0) else (decide (e.2.1 = 2) || decide (e.2.1 = 3)) && isWord e.2.2)
def saysB (wd : Int) (e : Ev) : Bool := decide (e.2.1 = 2) && decide (e.2.2 = wd)
def saidAt (h : List Ev) (wd : Int) : Int := whereI (saysB wd) h
def evAt (h : List Ev) (i : Nat) : Ev := h.getD i (0, 0, 0)
def evErr (ahead : List Ev) (e : Ev) : Nat :=
  if rightB e = false then 1
  else if (e.2.1 = 2 ∧ 0 ≤ saidAt ahead e.2.2) ∨ (e.2.1 = 3 ∧ e ∈ ahead) then 7
  else if e.2.1 = 3 ∧ saidAt ahead e.2.2 < 0 then 5
  else if e.2.1 = 3 ∧ (evAt ahead (saidAt ahead e.2.2).toNat).1 = e.1 then 3 else 0
def histGo (ahead : List Ev) : List Ev → Nat × Nat
  | [] => (0, 0)
  | e :: r => if evErr ahead e ≠ 0 then (ahead.length, evErr ahead e) else histGo (ahead ++ [e]) r
def histR (h : List Ev) : Nat × Nat := if 60 < h.length then (0, 4) else histGo [] h
/-- A history that is right. -/
def RightH (h : List Ev) : Prop := h.length ≤ 60 ∧ ∀ k (hk : k < h.length), evErr (h.take k) h[k] = 0
theorem histGo_ok : ∀ (r ahead : List Ev), (histGo ahead r).2 = 0 ↔ ∀ k (hk : k < r.length), evErr (ahead ++ r.take k) r[k] = 0
  | [], ahead => by simp [histGo]
  | e :: r, ahead => by
    unfold histGo
    by_cases he : evErr ahead e = 0
    · rw [if_neg (by simpa using he), histGo_ok r]
      constructor
      · intro h k hk
        cases k with
        | zero => simpa using he
        | succ k => have := h k (by simpa using hk); simpa using this
      · intro h k hk
        have := h (k + 1) (by simpa using hk); simpa using this
    · rw [if_pos he]
      constructor
      · intro h; exact absurd h he
      · intro h; exact absurd (by have := h 0 (by simp); simpa only [List.take_zero, List.append_nil, List.getElem_cons_zero] using this) he
theorem histR_ok (h : List Ev) : (histR h).2 = 0 ↔ RightH h := by
  unfold histR RightH
  by_cases hl : 60 < h.length
  · rw [if_pos hl]; simp; omega
  · rw [if_neg hl, histGo_ok]
    simp; intro _; omega
/-- Is an event straight ahead of another one behind it? -/
def directB (a e : Ev) : Bool := decide (a.1 = e.1) || (decide (e.2.1 = 3) && (decide (a.2.1 = 2) && decide (a.2.2 = e.2.2)))
def orRow (r s : List Bool) : List Bool := List.zipWith (fun a b => a || b) r s
/-- Row k, behind i rounds. -/
def pastRow (h : List Ev) (rows : List (List Bool)) (k : Nat) : Nat → List Bool
  | 0 => List.replicate h.length false
  | i + 1 => if directB (evAt h i) (evAt h k) then orRow ((pastRow h rows k i).set i true) (rows.getD i []) else pastRow h rows k i
def pastsR (h : List Ev) : Nat → List (List Bool)
  | 0 => []
  | k + 1 => pastsR h k ++ [pastRow h (pastsR h k) k k]
theorem pastsR_len (h : List Ev) : ∀ n, (pastsR h n).length = n
  | 0 => rfl
  | n + 1 => by simp [pastsR, pastsR_len h n]
theorem orRow_len {r s : List Bool} (h : r.length = s.length) : (orRow r s).length = r.length := by simp [orRow, h]
theorem pastRow_len (h : List Ev) (rows : List (List Bool)) (k : Nat) (hr : ∀ r ∈ rows, r.length = h.length) : ∀ i, i ≤ rows.length → (pastRow h rows k i).length = h.length
  | 0, _ => by simp [pastRow]
  | i + 1, hi => by
    have ih := pastRow_len h rows k hr i (by omega)
    have hg : (rows.getD i []).length = h.length := by
      rw [List.getD_eq_getElem?_getD, List.getElem?_eq_getElem (by omega), Option.getD_some]
      exact hr _ (List.getElem_mem _)
    unfold pastRow
    split
    · rw [orRow_len (by rw [List.length_set, ih, hg]), List.length_set, ih]
    · exact ih
theorem pastsR_row (h : List Ev) : ∀ n, ∀ r ∈ pastsR h n, r.length = h.length
  | 0, r, hr => by cases hr
  | n + 1, r, hr => by
    simp only [pastsR, List.mem_append, List.mem_singleton] at hr
    rcases hr with hr | rfl
    · exact pastsR_row h n r hr
    · exact pastRow_len h _ n (pastsR_row h n) n (by rw [pastsR_len]; omega)
theorem pastsR_get (h : List Ev) : ∀ n k, k < n → (pastsR h n).getD k [] = pastRow h (pastsR h k) k k
  | n + 1, k, hk => by
    simp only [pastsR]
    rw [List.getD_eq_getElem?_getD]
    by_cases hkn : k < n
    · rw [List.getElem?_append_left (by rw [pastsR_len]; exact hkn), ← List.getD_eq_getElem?_getD]
      exact pastsR_get h n k hkn
    · have : k = n := by omega
      subst this
      rw [List.getElem?_append_right (by rw [pastsR_len]; omega), pastsR_len]
      simp
/-- Is event j ahead of event k? -/
def bef (h : List Ev) (k j : Nat) : Bool := ((pastsR h h.length).getD k []).getD j false
theorem getD_orRow {r s : List Bool} (h : r.length = s.length) (j : Nat) : (orRow r s).getD j false = (r.getD j false || s.getD j false) := by
  simp only [orRow, List.getD_eq_getElem?_getD, List.getElem?_zipWith]
  by_cases hj : j < r.length
  · rw [List.getElem?_eq_getElem hj, List.getElem?_eq_getElem (by omega)]; rfl
  · rw [List.getElem?_eq_none (by omega), List.getElem?_eq_none (by omega)]; rfl
theorem pastRow_get (h : List Ev) (rows : List (List Bool)) (k : Nat) (hr : ∀ r ∈ rows, r.length = h.length) (j : Nat) : ∀ i, i ≤ rows.length → i ≤ h.length →
    ((pastRow h rows k i).getD j false = true ↔ ∃ m, m < i ∧ directB (evAt h m) (evAt h k) = true ∧ (m = j ∨ (rows.getD m []).getD j false = true))
  | 0, _, _ => by
    simp only [pastRow, List.getD_eq_getElem?_getD, List.getElem?_replicate]
    constructor
    · intro hh; split at hh <;> simp at hh
    · rintro ⟨m, hm, _⟩; omega
  | i + 1, hi, hi2 => by
    have ih := pastRow_get h rows k hr j i (by omega) (by omega)
    have hl := pastRow_len h rows k hr i (by omega)
    have hg : (rows.getD i []).length = h.length := by
      rw [List.getD_eq_getElem?_getD, List.getElem?_eq_getElem (by omega), Option.getD_some]
      exact hr _ (List.getElem_mem _)
    unfold pastRow
    by_cases hd : directB (evAt h i) (evAt h k) = true
    · rw [if_pos hd, getD_orRow (by rw [List.length_set, hl, hg]), Bool.or_eq_true]
      have hs : ((pastRow h rows k i).set i true).getD j false = true ↔ (i = j ∨ (pastRow h rows k i).getD j false = true) := by
        simp only [List.getD_eq_getElem?_getD, List.getElem?_set]
        by_cases hij : i = j
        · subst hij; rw [if_pos rfl, if_pos (by omega)]; simp
        · rw [if_neg hij]; simp [hij]
      rw [hs, ih]
      constructor
      · rintro ((h1 | ⟨m, h1, h2, h3⟩) | h1)
        · exact ⟨i, by omega, hd, .inl h1⟩
        · exact ⟨m, by omega, h2, h3⟩
        · exact ⟨i, by omega, hd, .inr h1⟩
      · rintro ⟨m, h1, h2, h3⟩
        by_cases hm : m = i
        · subst hm
          rcases h3 with h3 | h3
          · exact .inl (.inl h3)
          · exact .inr h3
        · exact .inl (.inr ⟨m, by omega, h2, h3⟩)
    · rw [if_neg hd, ih]
      constructor
      · rintro ⟨m, h1, h2, h3⟩; exact ⟨m, by omega, h2, h3⟩
      · rintro ⟨m, h1, h2, h3⟩
        by_cases hm : m = i
        · subst hm; exact absurd h2 hd
        · exact ⟨m, by omega, h2, h3⟩
theorem bef_iff (h : List Ev) (k j : Nat) (hk : k < h.length) : bef h k j = true ↔ ∃ m, m < k ∧ directB (evAt h m) (evAt h k) = true ∧ (m = j ∨ bef h m j = true) := by
  unfold bef
  rw [pastsR_get h _ k hk, pastRow_get h _ k (pastsR_row h k) j k (by rw [pastsR_len]; omega) (by omega)]
  constructor
  · rintro ⟨m, h1, h2, h3⟩
    refine ⟨m, h1, h2, ?_⟩
    rw [pastsR_get h k m h1] at h3
    rw [pastsR_get h _ m (by omega)]
    exact h3
  · rintro ⟨m, h1, h2, h3⟩
    refine ⟨m, h1, h2, ?_⟩
    rw [pastsR_get h k m h1]
    rw [pastsR_get h _ m (by omega)] at h3
    exact h3
theorem bef_none (h : List Ev) (k j : Nat) (hk : h.length ≤ k) : bef h k j = false := by
  unfold bef
  rw [show (pastsR h h.length).getD k [] = [] from by rw [List.getD_eq_getElem?_getD, List.getElem?_eq_none (by rw [pastsR_len]; exact hk)]; rfl]
  rfl
theorem bef_lt (h : List Ev) : ∀ k j, bef h k j = true → j < k := by
  intro k
  induction k using Nat.strongRecOn with
  | _ k ih =>
    intro j hb
    by_cases hk : k < h.length
    · obtain ⟨m, h1, _, h3⟩ := (bef_iff h k j hk).1 hb
      rcases h3 with rfl | h3
      · exact h1
      · have := ih m h1 j h3; omega
    · rw [bef_none h k j (by omega)] at hb; cases hb
theorem bef_trans (h : List Ev) : ∀ k i j, bef h k i = true → bef h i j = true → bef h k j = true := by
  intro k
  induction k using Nat.strongRecOn with
  | _ k ih =>
    intro i j h1 h2
    by_cases hk : k < h.length
    · obtain ⟨m, hm, hd, h3⟩ := (bef_iff h k i hk).1 h1
      rcases h3 with rfl | h3
      · exact (bef_iff h k j hk).2 ⟨m, hm, hd, .inr h2⟩
      · exact (bef_iff h k j hk).2 ⟨m, hm, hd, .inr (ih m hm i j h3 h2)⟩
    · rw [bef_none h k i (by omega)] at h1; cases h1
/-- How many of the first n events are of a member. -/
def cnt (h : List Ev) (m : Int) (n : Nat) : Nat := ((h.take n).filter fun e => decide (e.1 = m)).length
theorem cnt_zero (h : List Ev) (m : Int) : cnt h m 0 = 0 := by simp [cnt]
theorem cnt_succ (h : List Ev) (m : Int) (n : Nat) (hn : n < h.length) : cnt h m (n + 1) = cnt h m n + if h[n].1 = m then 1 else 0 := by
  unfold cnt
  rw [List.take_succ_eq_append_getElem hn, List.filter_append, List.length_append]
  congr 1
  by_cases he : h[n].1 = m <;> simp [he]
theorem cnt_le (h : List Ev) (m : Int) (n : Nat) : cnt h m n ≤ n := by
  unfold cnt
  exact Nat.le_trans (List.length_filter_le _ _) (by simp; omega)
theorem cnt_mono (h : List Ev) (m : Int) : ∀ {a b : Nat}, a ≤ b → cnt h m a ≤ cnt h m b := by
  intro a b hab
  unfold cnt
  have : h.take a = (h.take b).take a := by rw [List.take_take, Nat.min_eq_left hab]
  rw [this]
  exact ((List.take_sublist a _).filter _).length_le
/-- Is event k taken by a cut? -/
def takenB (h : List Ev) (many : List Int) (k : Nat) : Bool := decide (((cnt h (evAt h k).1 k : Nat) : Int) < many.getD (evAt h k).1.toNat 0)
def cutBadAt (h : List Ev) (many : List Int) (i : Nat) : Bool := decide (many.getD i 0 < 0) || decide (((cnt h (i : Int) h.length : Nat) : Int) < many.getD i 0)
def cutErr (h : List Ev) (many : List Int) : Nat :=
  if (histR h).2 ≠ 0 then (histR h).2 else if many.length ≠ 5 then 3 else if (List.range 5).any (cutBadAt h many) = true then 1 else 0
def cutB (h : List Ev) (many : List Int) : Bool := decide (∀ k, k < h.length → takenB h many k = true → ∀ i, i < k → bef h k i = true → takenB h many i = true)
end Go.Proofs.YtljlnhbndkdlcaaDoor
/- How arguments that hold structs read, as plain facts: events, views. -/
namespace Go.Proofs.YtljlnhbndkdlcaaDoor
set_option linter.unusedVariables false
set_option linter.unusedSimpArgs false
open Go.ChangeShapes Go.WideShapes Go.ChangeAt Go.RowKit Go.Deep
open Go.ChangeMaps (open_string shut_string)
variable {H : Type} {enc : TypeId × Value → H} {w : World} {b0 : Nat} {d : DataW H} {p : List MemPlace} {v : Value}
/-- A slice of structs, off its cells' reading. -/
theorem trod_recs {α : Type} (cells : α → List Value) (sz : Nat) (hsz : ∀ x, (cells x).length = sz) (hpos : 0 < sz) (good : α → Prop) {t e : TypeId} (ht : Tryd.prog.underlying t = some (.slice e)) (hce : Tryd.prog.cellsOf e = sz)
    (hel : ∀ n cs x, DataW.trod enc Tryd.prog w 0 (fun _ => true) true n e cs = some x → ∃ y, cs = cells y ∧ good y)
    {fuel : Nat} {cs : List Value} {x : DataW H × List MemPlace} (h : DataW.trod enc Tryd.prog w 0 (fun _ => true) true fuel t cs = some x) :
    ∃ (v : Value) (l : List α), cs = [v] ∧ Rd w v l.length (l.flatMap cells) ∧ ∀ x ∈ l, good x := by
  rcases open_slice ht h with ⟨rfl, _⟩ | ⟨a, len, cap, m, n, D, Pl, rfl, _, hl, hm, hmm, _, hx⟩
  · exact ⟨_, [], rfl, ⟨none, 0, rfl, Nat.le_refl _, Nat.zero_le _, fun _ => rfl, fun i u h => by simp at h⟩, fun x h => by cases h⟩
  have hlm : len ≤ m := by rw [hmm]; split <;> omega
  obtain ⟨l, hll, hlx⟩ := list_of len (fun i y => (∀ j, j < sz → w.cell? (a.add (i * sz + j)) = (cells y)[j]?) ∧ good y) (fun i hi => by
    obtain ⟨cs', h1, h2⟩ := hx i (by omega)
    rw [hce] at h1
    obtain ⟨_, hlen, hcell⟩ := World.cells?_some h1
    obtain ⟨y, rfl, hg⟩ := hel _ _ _ h2
    exact ⟨y, fun j hj => by rw [← add_add]; exact hcell j hj, hg⟩)
  refine ⟨_, l, rfl, ?_, fun x hx => ?_⟩
  · rw [hll]
    refine ⟨some a, cap, rfl, hl, hm, by simp, fun i u hu => ⟨a, rfl, ?_⟩⟩
    have hi : i < l.length * sz := by
      have := (List.getElem?_eq_some_iff.1 hu).1
      rwa [cells_len cells sz hsz] at this
    have hk : i / sz < l.length := by rw [Nat.div_lt_iff_lt_mul hpos]; exact hi
    have hj : i % sz < sz := Nat.mod_lt _ hpos
    have hij : i / sz * sz + i % sz = i := by rw [Nat.mul_comm]; exact Nat.div_add_mod i sz
    have h1 := cells_get cells sz hsz l (i / sz) (i % sz) hk hj
    rw [hij, hu] at h1
    have h2 := (hlx (i / sz) l[i / sz] (List.getElem?_eq_getElem hk)).1 (i % sz) hj
    rw [hij] at h2
    rw [h2, ← h1]
  · obtain ⟨i, hi, rfl⟩ := List.getElem_of_mem hx
    exact (hlx i _ (List.getElem?_eq_getElem hi)).2
def evCells (e : Ev) : List Value := [.int .i64 e.1, .int .i64 e.2.1, .int .i64 e.2.2]
def goodEv (e : Ev) : Prop := I64 e.1 ∧ I64 e.2.1 ∧ I64 e.2.2
def Evs (w : World) (v : Value) (h : List Ev) : Prop := Rd w v h.length (h.flatMap evCells) ∧ ∀ e ∈ h, goodEv e
set_option maxRecDepth 100000 in
theorem trod_ev (n : Nat) (cs : List Value) (x : DataW H × List MemPlace) (h : DataW.trod enc Tryd.prog w 0 (fun _ => true) true n 28 cs = some x) : ∃ e : Ev, cs = evCells e ∧ goodEv e := by
  obtain ⟨xs, n, _, _, hl, hxl, hf⟩ := DataW.trod_struct Tryd.underlying28 h
  have hl3 : cs.length = 3 := by rw [hl]; kernel_rfl
  have hx3 : xs.length = 3 := by rw [hxl]; rfl
  match cs, hl3, xs, hx3 with
  | [a, b, c], _, [x0, x1, x2], _ =>
    have g0 : DataW.trod enc Tryd.prog w 0 (fun _ => true) true n 3 ((([a, b, c] : List Value).drop 0).take (Tryd.prog.cellsOf 3)) = some x0 := hf 0 _ rfl
    have g1 : DataW.trod enc Tryd.prog w 0 (fun _ => true) true n 3 ((([a, b, c] : List Value).drop 1).take (Tryd.prog.cellsOf 3)) = some x1 := hf 1 _ rfl
    have g2 : DataW.trod enc Tryd.prog w 0 (fun _ => true) true n 3 ((([a, b, c] : List Value).drop 2).take (Tryd.prog.cellsOf 3)) = some x2 := hf 2 _ rfl
    rw [cells_int] at g0 g1 g2
    obtain ⟨n0, e0, _, w0⟩ := DataW.trod_int Tryd.underlying3 g0
    obtain ⟨n1, e1, _, w1⟩ := DataW.trod_int Tryd.underlying3 g1
    obtain ⟨n2, e2, _, w2⟩ := DataW.trod_int Tryd.underlying3 g2
    simp at e0 e1 e2
    subst e0 e1 e2
    exact ⟨(n0, n1, n2), rfl, I64_of_wf w0, I64_of_wf w1, I64_of_wf w2⟩
set_option maxRecDepth 100000 in
theorem arg_events (hv : Value.okWide Tryd.prog w .any b0 33 v) (h : DataW.Trod enc Tryd.prog w 0 (fun _ => true) true 33 v d p) : ∃ l, Evs w v l := by
  obtain ⟨ad, n, c, rfl⟩ := okWide_slice Tryd.underlying33 hv
  obtain ⟨fuel, hf⟩ := h
  obtain ⟨v', l, he, hr⟩ := trod_recs evCells 3 (fun _ => rfl) (by omega) goodEv Tryd.underlying33 (by kernel_rfl) trod_ev hf
  simp [Value.cells] at he
  exact ⟨l, he ▸ hr⟩
end Go.Proofs.YtljlnhbndkdlcaaDoor
