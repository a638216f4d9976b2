/- Contracts of package faces: what two lists share. -/
import Derived.Test.YtpafhfnimncklaaGreatDoorMTopCast5
import Derived.Lib.SliceRun
import Derived.Test.YtpafhfnimncklaaGreatDoorMTopCast3
import Derived.Test.YtpafhfnimncklaaGreatDoorMTopCast4
import Derived.Test.YtpafhfnimncklaaGreatDoorMTopCast2
import Derived.Deep.DeepCutAuto
import Derived.Deep.CutBlock
namespace Go.Proofs.YtpafhfnimncklaaGreatDoor
set_option linter.unusedVariables false
set_option linter.unusedSimpArgs false
open Go.RowKit
def alF (c : Nat) : Value := .func (.func 85) #[] #[.pointer (some ⟨c, 0, none⟩)]
set_option maxRecDepth 100000 in
set_option maxHeartbeats 4000000 in
theorem al1_any (c : Nat) (m : Int) (vb : Value) (B : List Int) (w : World) (hc : w.cell? ⟨c, 0, none⟩ = some vb) (hB : Ints w vb B) :
    Calls Tryz.prog 85 #[.int .i64 m, .pointer (some ⟨c, 0, none⟩)] w fun e w' => e = .returned (.bool (!decide (m ∈ B))) ∧ w = w' := by
  obtain ⟨ad, cap, rfl, _, _⟩ := hB.shape
  have HB := Lib.hid hB
  clear hB
  go_enter Tryz.func85, Tryz.ntmps85
  go_wp2_with fail
  refine (containsInt_any _ B m _ HB.out).mono ?_
  rintro e w' ⟨rfl, rfl⟩
  go_wp2
  go_ret
  exact ⟨rfl, rfl⟩
set_option maxRecDepth 100000 in
set_option maxHeartbeats 4000000 in
theorem alIndex_any (c : Nat) (v vb : Value) (l B : List Int) (w : World) (hc : w.cell? ⟨c, 0, none⟩ = some vb) (hB : Ints w vb B) (hl : Ints w v l) :
    Calls Tryz.prog 92 #[v, alF c] w fun e w' => e = .returned (.int .i64 (whereIs (fun n => !decide (n ∈ B)) l)) ∧ w = w' := by
  obtain ⟨ad, cap, rfl, hlc, hcap⟩ := hl.shape
  unfold alF
  have HL := Lib.hid hl; have HB := Lib.hid hB
  clear hl hB
  go_enter Tryz.func92, Tryz.ntmps92
  go_wp2_with fail
  go_loop [8] (fun i => ∃ k : Nat, k ≤ l.length ∧ i = .int .i64 k ∧ Hid (∀ j (_ : j < k) (h : j < l.length), l[j] ∈ B)) (fun i => l.length - (intOf i).toNat)
  case atStart => exact ⟨0, Nat.zero_le _, rfl, Lib.hid (fun j h => by omega)⟩
  case round =>
    obtain ⟨k, hk, rfl, hp⟩ := hrel
    by_cases hlt : k < l.length
    rotate_left
    · have hm : whereIs (fun n => !decide (n ∈ B)) l = -1 := whereIs_miss _ l (fun j h => by simpa using hp.out j (by omega) h)
      have HM := Lib.hid hm
      clear hm
      go_wp2
      go_ret
      exact ⟨by rw [HM.out]; rfl, rfl⟩
    obtain ⟨aa, rfl, hca⟩ := HL.out.at k hlt
    by_cases hin : l[k] ∈ B
    · have hn : ∀ j (_ : j < k + 1) (h : j < l.length), l[j] ∈ B := fun j h1 h2 => by
        by_cases e : j = k
        · subst e; exact hin
        · exact hp.out j (by omega) h2
      have HN := Lib.hid hn
      clear hn
      go_wp2_with fail
      refine (al1_any c l[k] vb B _ hc HB.out).mono ?_
      rintro e w' ⟨rfl, rfl⟩
      rw [decide_eq_true hin]
      have HIN := Lib.hid hin
      clear hin
      go_wp2
      go_round
      case rel => exact ⟨k + 1, by omega, by go_num, HN⟩
      case measure => simp [intOf]; omega
    · have hm : whereIs (fun n => !decide (n ∈ B)) l = k := whereIs_hit _ l k hlt (fun j h => by simpa using hp.out j h (by omega)) (by simpa using hin)
      have HM := Lib.hid hm
      clear hm
      go_wp2_with fail
      refine (al1_any c l[k] vb B _ hc HB.out).mono ?_
      rintro e w' ⟨rfl, rfl⟩
      rw [decide_eq_false hin]
      have HIN := Lib.hid hin
      clear hin
      go_wp2
      go_ret
      exact ⟨by rw [HM.out]; rfl, rfl⟩
set_option maxRecDepth 100000 in
set_option maxHeartbeats 4000000 in
theorem alDel_any {w0 w : World} {R : HProp} (c : Nat) (v vb : Value) (l B : List Int) (hl : ∀ x ∈ l, I64 x) (HB : Hid (∀ w', Own w0 R w' → w'.cell? ⟨c, 0, none⟩ = some vb ∧ Ints w' vb B)) (h : Own w0 (IntSl v l * R) w) :
    Calls Tryz.prog 84 #[v, alF c] w fun e w' => ∃ v', e = .returned v' ∧ Own w0 (IntSl v' (keepB B l) * R) w' := by
  have hv := IntSl_reads hl _ h
  obtain ⟨ad, cap, rfl, hlc, hcap⟩ := hv.shape
  obtain ⟨n, hn⟩ : ∃ n, n = l.length := ⟨_, rfl⟩
  obtain ⟨hc0, hB0⟩ := HB.out _ h.drop
  have HIX := Lib.hid (alIndex_any c _ vb l B w hc0 hB0 hv)
  rw [← hn] at hlc
  have H := Lib.hid h
  rw [← hn] at HIX H ⊢
  unfold alF at HIX ⊢
  by_cases hall : ∀ x ∈ l, x ∈ B
  · have hw : whereIs (fun n => !decide (n ∈ B)) l = -1 := whereIs_miss _ l (fun j h => by simpa using hall _ (List.getElem_mem h))
    have hk : keepB B l = l := List.filter_eq_self.2 (fun x hx => by simpa using hall x hx)
    have HW := Lib.hid hw; have HK := Lib.hid hk; have HV := Lib.hid hv; have HL := Lib.hid hl; have HALL := Lib.hid hall; have HB0 := Lib.hid hB0; have HN := Lib.hid hn
    clear hw hk hv hl hall hB0 hn
    clear h
    go_enter Tryz.func84, Tryz.ntmps84
    go_wp2_with fail
    refine HIX.out.mono ?_
    rintro e w' ⟨rfl, rfl⟩
    rw [HW.out]
    go_wp2
    go_ret
    exact ⟨_, rfl, by rw [HK.out]; exact H.out⟩
  obtain ⟨q, hq⟩ : ∃ q : Nat, whereIs (fun n => !decide (n ∈ B)) l = q := by
    refine ⟨(whereIs (fun n => !decide (n ∈ B)) l).toNat, ?_⟩
    have hneg : ¬ whereIs (fun n => !decide (n ∈ B)) l < 0 := fun h => by
      rw [whereIs_neg, List.any_eq_false] at h
      exact hall fun x hx => by simpa using h x hx
    omega
  have hwi := whereIs_spec (fun n => !decide (n ∈ B)) l q hq
  obtain ⟨hqn, hqb, hql⟩ := hwi
  have hql' : l[q]'hqn ∉ B := by simpa using hql
  have hkq : keepB B (l.take q) = l.take q := List.filter_eq_self.2 (fun x hx => by
    obtain ⟨j, hj, rfl⟩ := List.mem_iff_getElem.1 hx
    rw [List.length_take] at hj
    have := hqb j (by omega)
    rw [List.getElem_take]
    simpa using this)
  have hkq1 : keepB B (l.take (q + 1)) = l.take q := by
    rw [List.take_succ_eq_append_getElem hqn]
    unfold keepB at hkq ⊢
    rw [List.filter_append, hkq]
    simp [hql']
  have hqn' : q < n := by omega
  have HM0 : Hid (∃ M : List Int, M.length = n ∧ M.take q = keepB B (l.take (q + 1)) ∧ M.drop (q + 1) = l.drop (q + 1) ∧ Own w0 (IntSl (.slice ad n cap) M * R) w) := Lib.hid ⟨l, hn.symm, hkq1.symm, rfl, H.out⟩
  have hcap2 : cap ≤ 9223372036854775807 := hcap
  have hnp : 0 < n := by omega
  obtain ⟨b, off, cp, hsl, _⟩ := Own.ints_at H.out (by omega)
  injection hsl with e1 e2 e3
  subst e1; subst e3
  clear e2
  have HIX2 := HIX.out
  rw [hq] at HIX2
  have HIX3 := Lib.hid HIX2
  have hzc := fun w => Lib.run_clear_slice (P := Tryz.prog) w 30 3
  clear hzc HIX2 HIX
  have HQ := Lib.hid hq; have HQB := Lib.hid hqb; have HQL := Lib.hid hql; have HQL' := Lib.hid hql'; have HKQ := Lib.hid hkq; have HKQ1 := Lib.hid hkq1; have HALL := Lib.hid hall; have HV := Lib.hid hv; have HB0 := Lib.hid hB0; have HL := Lib.hid hl; have HN := Lib.hid hn
  clear hq hqb hql hql' hkq hkq1 hall hv hB0 hl hn
  clear h
  have tq : ((q : Int) == -1) = false := by rw [beq_eq_false_iff_ne]; omega
  go_enter Tryz.func84, Tryz.ntmps84
  go_wp2_with fail
  refine HIX3.out.mono ?_
  rintro e w' ⟨rfl, rfl⟩
  go_wp2_with fail
  go_loopw [5, 6] (fun iv jv wr => ∃ j i : Nat, q + 1 ≤ j ∧ j ≤ n ∧ i < j ∧ iv = .int .i64 i ∧ jv = .int .i64 j ∧ Hid (i = (keepB B (l.take j)).length ∧ ∃ M : List Int, M.length = n ∧ M.take i = keepB B (l.take j) ∧ M.drop j = l.drop j ∧ Own w0 (IntSl (.slice (some ⟨b, off, none⟩) n cap) M * R) wr)) (fun _ jv _ => n - (intOf jv).toNat)
  case atStart =>
    refine ⟨q + 1, q, Nat.le_refl _, by omega, by omega, rfl, by go_num, Lib.hid ⟨?_, ?_⟩⟩
    · rw [HKQ1.out, List.length_take]; omega
    · obtain ⟨M, a1, a2, a3, a4⟩ := HM0.out
      exact ⟨M, a1, a2, a3, a4⟩
  case round =>
    obtain ⟨j, i, hj1, hj2, hij, rfl, rfl, hp⟩ := hrel
    obtain ⟨hiq, M, a1, a2, a3, a4⟩ := hp.out
    by_cases hlt : j < n
    · have hjl : j < l.length := by rw [← HN.out]; exact hlt
      have hjM : j < M.length := by omega
      obtain ⟨b', off', cp', hsl', _, _, hcell, hfree, _, _, hset⟩ := Own.ints_at a4 (by omega)
      injection hsl' with e1 e2 e3
      clear e2
      injection e1 with e1
      injection e1 with e1 e4
      subst e1; subst e4; subst e3
      obtain ⟨x, hx⟩ : ∃ x, x = l[j] := ⟨_, rfl⟩
      have hMj : M[j] = x := by
        have h1 : (M.drop j)[0]? = (l.drop j)[0]? := by rw [a3]
        rw [List.getElem?_drop, List.getElem?_drop, Nat.add_zero, List.getElem?_eq_getElem hjM, List.getElem?_eq_getElem hjl] at h1
        rw [hx]; injection h1
      have c1 := hcell j hjM
      rw [hMj] at c1
      obtain ⟨hcc, hBB⟩ := HB.out _ a4.drop
      have f1 := hfree (off + i) none
      have hiM : i < M.length := by omega
      obtain ⟨mi, hmi⟩ : ∃ x, x = M[i]'hiM := ⟨_, rfl⟩
      have ci := hcell i hiM
      rw [← hmi] at ci
      clear hmi
      have htk : l.take (j + 1) = l.take j ++ [x] := by rw [hx]; exact List.take_succ_eq_append_getElem hjl
      have hd : M.drop (j + 1) = l.drop (j + 1) := by rw [← List.drop_drop, a3, List.drop_drop]
      have hsj := hset i x (by omega)
      have HBB := Lib.hid hBB
      have HA4 := Lib.hid a4
      by_cases hin : x ∈ B
      · have hk : keepB B (l.take (j + 1)) = keepB B (l.take j) ++ [x] := by rw [htk]; unfold keepB; rw [List.filter_append]; simp [hin]
        have fin : i + 1 = (keepB B (l.take (j + 1))).length ∧ ∃ M : List Int, M.length = n ∧ M.take (i + 1) = keepB B (l.take (j + 1)) ∧ M.drop (j + 1) = l.drop (j + 1) ∧ Own w0 (IntSl (.slice (some ⟨b, off, none⟩) n cap) M * R) (wr.setCell ⟨b, off + i, none⟩ (.int .i64 x)) := by
          refine ⟨by rw [hk, List.length_append, ← hiq]; rfl, M.set i x, by rw [List.length_set]; exact a1, ?_, ?_, hsj⟩
          · rw [hk, ← a2, List.take_succ_eq_append_getElem (by rw [List.length_set]; omega), List.getElem_set_self, List.take_set_of_le (Nat.le_refl i)]
          · rw [List.drop_set_of_lt (by omega)]; exact hd
        have FIN := Lib.hid fin; have HK := Lib.hid hk; have HSJ := Lib.hid hsj; have HD := Lib.hid hd; have HTK := Lib.hid htk; have HCELL := Lib.hid hcell; have HFREE := Lib.hid hfree; have HSET := Lib.hid hset; have HX := Lib.hid hx; have HMJ := Lib.hid hMj; have HIQ := Lib.hid hiq; have A2 := Lib.hid a2; have A3 := Lib.hid a3
        clear fin hk hsj hd htk hcell hfree hset hx hMj hiq a2 a3
        clear hp hBB a4
        go_wp2_with fail
        refine (al1_any c x vb B _ hcc HBB.out).mono ?_
        rintro e w' ⟨rfl, rfl⟩
        rw [decide_eq_true hin]
        have HIN := Lib.hid hin
        clear hin
        go_wp2_with fail
        go_roundw
        case rel => exact ⟨j + 1, i + 1, by omega, by omega, by omega, by go_num, by go_num, FIN⟩
        case measure => simp [intOf]; omega
      · have hk : keepB B (l.take (j + 1)) = keepB B (l.take j) := by rw [htk]; unfold keepB; rw [List.filter_append]; simp [hin]
        have fin : i = (keepB B (l.take (j + 1))).length ∧ ∃ M : List Int, M.length = n ∧ M.take i = keepB B (l.take (j + 1)) ∧ M.drop (j + 1) = l.drop (j + 1) ∧ Own w0 (IntSl (.slice (some ⟨b, off, none⟩) n cap) M * R) wr :=
          ⟨by rw [hk]; exact hiq, M, a1, by rw [hk]; exact a2, hd, a4⟩
        have FIN := Lib.hid fin; have HK := Lib.hid hk; have HSJ := Lib.hid hsj; have HD := Lib.hid hd; have HTK := Lib.hid htk; have HCELL := Lib.hid hcell; have HFREE := Lib.hid hfree; have HSET := Lib.hid hset; have HX := Lib.hid hx; have HMJ := Lib.hid hMj; have HIQ := Lib.hid hiq; have A2 := Lib.hid a2; have A3 := Lib.hid a3
        clear fin hk hsj hd htk hcell hfree hset hx hMj hiq a2 a3
        clear hp hBB a4
        go_wp2_with fail
        refine (al1_any c x vb B _ hcc HBB.out).mono ?_
        rintro e w' ⟨rfl, rfl⟩
        rw [decide_eq_false hin]
        have HIN := Lib.hid hin
        clear hin
        go_wp2_with fail
        go_roundw
        case rel => exact ⟨j + 1, i, by omega, by omega, by omega, by go_num, by go_num, FIN⟩
        case measure => simp [intOf]; omega
    · have hjn : j = n := by omega
      have hkl : keepB B (l.take j) = keepB B l := by rw [List.take_of_length_le (by rw [← HN.out]; omega)]
      rw [hkl] at hiq a2
      obtain ⟨k1, k2, k3⟩ := clear_back (i := i) (by omega) a1 a4
      rw [a2] at k3
      have hrun : ∀ ty, (Builtin.clear_ #[30] ty #[.slice (some ⟨b, off + i, none⟩) (n - i) (cap - i)]).run Tryz.prog wr = .ok (.tuple #[]) (wr.setCells b (off + i) (List.replicate (n - i) (.int .i64 0))) := fun ty =>
        Lib.run_clear_slice wr 30 3 ty (.int .i64 0) Tryz.underlying30 int_zero rfl rfl b (off + i) (n - i) (cap - i) (by omega) (fun t ht => by rw [Nat.add_assoc]; exact k1 (i + t) (by omega)) (fun t _ => by rw [Nat.add_assoc]; exact k2 (i + t))
      have hne : ¬ cap = i := by omega
      have K3 := Lib.hid k3
      have hin : i < n := by omega
      have HIQ := Lib.hid hiq; have A2 := Lib.hid a2; have A3 := Lib.hid a3; have HKL := Lib.hid hkl; have HJN := Lib.hid hjn; have K1 := Lib.hid k1; have K2 := Lib.hid k2
      clear hiq a2 a3 hkl hjn k1 k2
      clear hp a4 k3
      go_wp2_with fail
      go_ret
      exact ⟨_, rfl, K3.out⟩
set_option maxRecDepth 100000 in
set_option maxHeartbeats 4000000 in
theorem only_any {w0 w : World} {R : HProp} (va vb : Value) (A B : List Int) (hA : Reads w0 R va A) (hB : Reads w0 R vb B) (hlen : A.length ≤ 100000) (h : Own w0 R w) :
    Calls Tryz.prog 83 #[va, vb] w fun e w' => ∃ v', e = .returned v' ∧ Own w0 (IntSl v' (keepB B A) * R) w' := by
  obtain ⟨bd, bcap, hvb, _, _⟩ := (hB _ h).shape
  subst hvb
  have hAI := (hA _ h).2
  have ho := h.alloc (.cells #[.slice bd B.length bcap] 30)
  obtain ⟨c, hc⟩ : ∃ c, c = w.heap.size := ⟨_, rfl⟩
  obtain ⟨w1, hw1⟩ : ∃ w1, w1 = w.alloc (.cells #[.slice bd B.length bcap] 30) := ⟨_, rfl⟩
  rw [← hc, ← hw1] at ho
  have HO := Lib.hid ho
  have HA1 := Lib.hid (hA.more _ ho)
  have HBB : Hid (∀ w', Own w0 (blk c (.cells #[.slice bd B.length bcap] 30 (0, 0)) * R) w' → w'.cell? ⟨c, 0, none⟩ = some (.slice bd B.length bcap) ∧ Ints w' (.slice bd B.length bcap) B) := Lib.hid (fun w' h' => ⟨by rw [h'.cell]; rfl, hB.more _ h'⟩)
  have H := Lib.hid h; have HA := Lib.hid hA; have HB := Lib.hid hB; have HAI := Lib.hid hAI
  clear h hA hB hAI
  clear ho
  go_enter Tryz.func83, Tryz.ntmps83
  go_upto_region 1 with fail
  rw [← hc, ← hw1]
  clear hc hw1
  go_wp2_with fail
  refine (cloneInts_any HO.out va A HA1.out hlen).mono ?_
  rintro e w2 ⟨v1, rfl, ho⟩
  have HO2 := Lib.hid ho
  clear ho
  go_wp2_with fail
  refine (alDel_any c v1 _ A B HAI.out HBB HO2.out).mono ?_
  rintro e w3 ⟨v2, rfl, ho⟩
  have HO3 := Lib.hid ho
  clear ho
  go_wp2
  go_ret
  exact ⟨v2, rfl, (HO3.out.perm (star_left_comm _ _ _)).drop⟩
end Go.Proofs.YtpafhfnimncklaaGreatDoor
/- Contracts of package history: what is wrong with an event, with a history. -/
namespace Go.Proofs.YtpafhfnimncklaaGreatDoor
set_option linter.unusedVariables false
set_option linter.unusedSimpArgs false
open Go.RowKit
def evV (x : Ev) : Value := .agg #[.int .i64 x.1, .int .i64 x.2.1, .int .i64 x.2.2]
def EvO (b : Nat) (x : Ev) : HProp := blk b (.cells #[.int .i64 x.1, .int .i64 x.2.1, .int .i64 x.2.2] 40 (0, 0))
theorem Own.ev {w0 w : World} {b : Nat} {x : Ev} {R : HProp} (h : Own w0 (EvO b x * R) w) : w.cell? ⟨b, 0, none⟩ = some (.int .i64 x.1) ∧ w.cell? ⟨b, 1, none⟩ = some (.int .i64 x.2.1) ∧ w.cell? ⟨b, 2, none⟩ = some (.int .i64 x.2.2) :=
  ⟨(Own.cell h 0).trans rfl, (Own.cell h 1).trans rfl, (Own.cell h 2).trans rfl⟩
def ReadsE (w0 : World) (R : HProp) (v : Value) (l : List Ev) : Prop := ∀ w, Own w0 R w → Evs w v l
theorem Evs.later {w0 w : World} {P : HProp} {v : Value} {l : List Ev} (h : Evs w0 v l) (ho : Own w0 P w) : Evs w v l := ⟨h.1.later ho, h.2⟩
theorem Evs.reads {w0 : World} {R : HProp} {v : Value} {l : List Ev} (h : Evs w0 v l) : ReadsE w0 R v l := fun _ ho => h.later ho
theorem ReadsE.more {w0 : World} {P R : HProp} {v : Value} {l : List Ev} (h : ReadsE w0 R v l) : ReadsE w0 (P * R) v l := fun _ ho => h _ ho.drop
theorem Evs.shape {w : World} {v : Value} {l : List Ev} (h : Evs w v l) : ∃ ad cap, v = .slice ad l.length cap ∧ l.length ≤ cap ∧ cap ≤ 9223372036854775807 := by
  obtain ⟨ad, cap, rfl, h1, h2, _⟩ := h.1
  exact ⟨ad, cap, rfl, h1, h2⟩
theorem ev_get (l : List Ev) (k j : Nat) (hk : k < l.length) (hj : j < 3) : (l.flatMap evCells)[k * 3 + j]? = (evCells l[k])[j]? := cells_get evCells 3 (fun _ => rfl) l k j hk hj
theorem ReadsE.at {w0 : World} {R : HProp} {ad : Option Addr} {n cap : Nat} {l : List Ev} (h : ReadsE w0 R (.slice ad n cap) l) {w : World} (ho : Own w0 R w) (k : Nat) (hk : k < l.length) :
    ∃ (a : Addr) (eb eo : Nat) (es : Option Nat), ad = some a ∧ a.add (k * 3) = ⟨eb, eo, es⟩ ∧ (∀ w, Own w0 R w → w.cell? ⟨eb, eo, es⟩ = some (.int .i64 (evAt l k).1) ∧ w.cell? ⟨eb, eo + 1, none⟩ = some (.int .i64 (evAt l k).2.1) ∧ w.cell? ⟨eb, eo + 2, none⟩ = some (.int .i64 (evAt l k).2.2)) ∧ goodEv (evAt l k) := by
  have hev : evAt l k = l[k] := by unfold evAt; rw [List.getD_eq_getElem?_getD, List.getElem?_eq_getElem hk]; rfl
  rw [hev]
  have key : ∀ w, Own w0 R w → ∃ a : Addr, ad = some a ∧ w.cell? (a.add (k * 3)) = some (.int .i64 l[k].1) ∧ w.cell? (a.add (k * 3 + 1)) = some (.int .i64 l[k].2.1) ∧ w.cell? (a.add (k * 3 + 2)) = some (.int .i64 l[k].2.2) := by
    intro w ho
    obtain ⟨ad', cap', e, h1, h2, _, hc⟩ := (h w ho).1
    cases e
    obtain ⟨a, ha, c0⟩ := hc (k * 3) _ (ev_get l k 0 hk (by omega))
    obtain ⟨a', ha', c1⟩ := hc (k * 3 + 1) _ (ev_get l k 1 hk (by omega))
    obtain ⟨a'', ha'', c2⟩ := hc (k * 3 + 2) _ (ev_get l k 2 hk (by omega))
    rw [ha] at ha' ha''; cases ha'; cases ha''
    exact ⟨a, ha, c0, c1, c2⟩
  have hadd : ∀ (a : Addr) j, 0 < j → a.add (k * 3 + j) = ⟨(a.add (k * 3)).block, (a.add (k * 3)).off + j, none⟩ := by
    intro a j hj
    unfold Addr.add
    rw [if_neg (by omega)]
    split
    · rename_i h0; simp [h0]
    · simp [Nat.add_assoc]
  obtain ⟨a, ha, _⟩ := key w ho
  refine ⟨a, (a.add (k * 3)).block, (a.add (k * 3)).off, (a.add (k * 3)).spot, ha, rfl, fun w ho => ?_, (h w ho).2 _ (List.getElem_mem hk)⟩
  obtain ⟨a', ha', c0, c1, c2⟩ := key w ho
  rw [ha] at ha'; cases ha'
  rw [hadd a 1 (by omega)] at c1
  rw [hadd a 2 (by omega)] at c2
  exact ⟨c0, c1, c2⟩
theorem Evs.front {w : World} {ad : Option Addr} {n cap k : Nat} {l : List Ev} (h : Evs w (.slice ad n cap) l) (hk : k ≤ n) : Evs w (.slice ad k cap) (l.take k) := by
  obtain ⟨⟨ad', cap', e, h1, h2, h3, hc⟩, hg⟩ := h
  cases e
  have hl : (l.take k).length = k := by simp; omega
  refine ⟨⟨ad, cap, by rw [hl], by omega, h2, h3, fun i u hu => hc i u ?_⟩, fun x hx => hg x (List.mem_of_mem_take hx)⟩
  have hi : i < (l.take k).length * 3 := by
    have := (List.getElem?_eq_some_iff.1 hu).1
    rwa [cells_len evCells 3 (fun _ => rfl)] at this
  rw [← List.take_append_drop k l, List.flatMap_append, List.getElem?_append_left (by rw [cells_len evCells 3 (fun _ => rfl)]; exact hi)]
  exact hu
theorem ReadsE.front {w0 : World} {R : HProp} {ad : Option Addr} {n cap k : Nat} {l : List Ev} (h : ReadsE w0 R (.slice ad n cap) l) (hk : k ≤ n) : ReadsE w0 R (.slice ad k cap) (l.take k) := fun _ ho => (h _ ho).front hk
def saidF (c : Nat) : Value := .func (.func 89) #[] #[.pointer (some ⟨c, 0, none⟩)]
set_option maxRecDepth 100000 in
set_option maxHeartbeats 4000000 in
theorem said1_any {w0 w : World} {R : HProp} (c : Nat) (word : Int) (x : Ev) (h : Own w0 R w) (hc : ∀ w', Own w0 R w' → w'.cell? ⟨c, 0, none⟩ = some (.int .i64 word)) :
    Calls Tryz.prog 89 #[evV x, .pointer (some ⟨c, 0, none⟩)] w fun e w' => e = .returned (.bool (saysB word x)) ∧ Own w0 R w' := by
  obtain ⟨a, b, d⟩ := x
  unfold evV
  obtain ⟨b1, hb_b1⟩ : ∃ zz_, zz_ = (w).heap.size := ⟨_, rfl⟩
  obtain ⟨w1, hw_w1⟩ : ∃ zz_, zz_ = (w).alloc (.cells #[.int .i64 a, .int .i64 b, .int .i64 d] 40 (0, 0)) := ⟨_, rfl⟩
  have h_HO := (h).alloc (.cells #[.int .i64 a, .int .i64 b, .int .i64 d] 40 (0, 0))
  rw [← hb_b1, ← hw_w1] at h_HO
  have HO := Lib.hid h_HO
  clear h_HO
  obtain ⟨c0, c1, c2⟩ := (show Own w0 (EvO b1 (a, b, d) * R) w1 from HO.out).ev
  have c3 := hc _ HO.out.drop
  simp only at c0 c1 c2
  have H := Lib.hid h; have HC := Lib.hid hc
  clear h hc
  by_cases h1 : b = 2
  · subst h1
    have h2 : saysB word (a, 2, d) = (d == word) := by unfold saysB; simp [Bool.beq_eq_decide_eq]
    have H2 := Lib.hid h2
    clear h2
    go_enter Tryz.func89, Tryz.ntmps89
    go_upto_region 1 with fail
    rw [← hb_b1, ← hw_w1]
    clear hb_b1 hw_w1
    go_wp2
    go_ret
    exact ⟨by rw [H2.out]; rfl, HO.out.drop⟩
  · have h2 : saysB word (a, b, d) = false := by unfold saysB; simp [h1]
    have h3 : (b == 2) = false := by simpa using h1
    have H2 := Lib.hid h2; have H1 := Lib.hid h1
    clear h2 h1
    go_enter Tryz.func89, Tryz.ntmps89
    go_upto_region 1 with fail
    rw [← hb_b1, ← hw_w1]
    clear hb_b1 hw_w1
    go_wp2
    go_ret
    exact ⟨by rw [H2.out]; rfl, HO.out.drop⟩
set_option maxRecDepth 100000 in
set_option maxHeartbeats 4000000 in
theorem saidIndex_any {w0 w : World} {R : HProp} (c : Nat) (word : Int) (v : Value) (l : List Ev) (h : Own w0 R w) (hc : ∀ w', Own w0 R w' → w'.cell? ⟨c, 0, none⟩ = some (.int .i64 word)) (hl : ReadsE w0 R v l) :
    Calls Tryz.prog 88 #[v, saidF c] w fun e w' => e = .returned (.int .i64 (saidAt l word)) ∧ Own w0 R w' := by
  obtain ⟨ad, cap, rfl, hlc, hcap⟩ := (hl _ h).shape
  unfold saidF
  have H := Lib.hid h; have HL := Lib.hid hl; have HC := Lib.hid hc
  clear h hl hc
  go_enter Tryz.func88, Tryz.ntmps88
  go_wp2_with fail
  go_loopw [8] (fun i wr => ∃ k : Nat, k ≤ l.length ∧ i = .int .i64 k ∧ Hid (Own w0 R wr) ∧ Hid (∀ j (_ : j < k) (h : j < l.length), saysB word l[j] = false)) (fun i _ => l.length - (intOf i).toNat)
  case atStart => exact ⟨0, Nat.zero_le _, rfl, H, Lib.hid (fun j h => by omega)⟩
  case round =>
    obtain ⟨k, hk, rfl, HO, hp⟩ := hrel
    by_cases hlt : k < l.length
    rotate_left
    · have hm : saidAt l word = -1 := whereI_miss _ l (fun j h => hp.out j (by omega) h)
      have HM := Lib.hid hm
      clear hm
      go_wp2
      go_ret
      exact ⟨by rw [HM.out]; rfl, HO.out⟩
    obtain ⟨aa, eb, eo, es, rfl, hea, hcs, hgd⟩ := HL.out.at HO.out k hlt
    obtain ⟨x, hx⟩ : ∃ x, x = evAt l k := ⟨_, rfl⟩
    rw [← hx] at hcs
    have hxk : x = l[k] := by rw [hx]; unfold evAt; rw [List.getD_eq_getElem?_getD, List.getElem?_eq_getElem hlt]; rfl
    obtain ⟨c0, c1, c2⟩ := hcs _ HO.out
    have HCS := Lib.hid hcs; have HX := Lib.hid hx; have HGD := Lib.hid hgd
    clear hcs hx hgd
    cases hs : saysB word x
    · have hn : ∀ j (_ : j < k + 1) (h : j < l.length), saysB word l[j] = false := fun j h1 h2 => by
        by_cases e : j = k
        · subst e; rw [← hxk]; exact hs
        · exact hp.out j (by omega) h2
      have HN := Lib.hid hn; have HXK := Lib.hid hxk
      clear hn hxk
      go_wp2_with fail
      refine (said1_any c word x HO.out HC.out).mono ?_
      rintro e w' ⟨rfl, ho⟩
      rw [hs]
      have HO2 := Lib.hid ho
      clear ho c0 c1 c2
      go_wp2
      go_round
      case rel => exact ⟨k + 1, by omega, by go_num, HO2, HN⟩
      case measure => simp [intOf]; omega
    · have hm : saidAt l word = k := whereI_hit _ l k hlt (fun j h => hp.out j h (by omega)) (by rw [← hxk]; exact hs)
      have HM := Lib.hid hm; have HXK := Lib.hid hxk
      clear hm hxk
      go_wp2_with fail
      refine (said1_any c word x HO.out HC.out).mono ?_
      rintro e w' ⟨rfl, ho⟩
      rw [hs]
      have HO2 := Lib.hid ho
      clear ho c0 c1 c2
      go_wp2
      go_ret
      exact ⟨by rw [HM.out]; rfl, HO2.out⟩
set_option maxRecDepth 100000 in
set_option maxHeartbeats 4000000 in
theorem said_any {w0 w : World} {R : HProp} (word : Int) (v : Value) (l : List Ev) (h : Own w0 R w) (hl : ReadsE w0 R v l) :
    Calls Tryz.prog 69 #[v, .int .i64 word] w fun e w' => e = .returned (.int .i64 (saidAt l word)) ∧ Own w0 R w' := by
  obtain ⟨b1, hb_b1⟩ : ∃ zz_, zz_ = (w).heap.size := ⟨_, rfl⟩
  obtain ⟨w1, hw_w1⟩ : ∃ zz_, zz_ = (w).alloc (.cells #[.int .i64 word] 3 (0, 0)) := ⟨_, rfl⟩
  have h_HO := (h).alloc (.cells #[.int .i64 word] 3 (0, 0))
  rw [← hb_b1, ← hw_w1] at h_HO
  have HO := Lib.hid h_HO
  clear h_HO
  have hc : ∀ w', Own w0 (blk b1 (.cells #[.int .i64 word] 3 (0, 0)) * R) w' → w'.cell? ⟨b1, 0, none⟩ = some (.int .i64 word) := fun w' ho => (Own.cell ho 0).trans rfl
  have H := Lib.hid h; have HL := Lib.hid hl; have HC := Lib.hid hc
  clear h hl hc
  go_enter Tryz.func69, Tryz.ntmps69
  go_upto_region 1 with fail
  rw [← hb_b1, ← hw_w1]
  clear hb_b1 hw_w1
  go_wp2_with fail
  refine (saidIndex_any b1 word v l HO.out HC.out HL.out.more).mono ?_
  rintro e w' ⟨rfl, ho⟩
  have HO2 := Lib.hid ho.drop
  clear ho
  go_wp2
  go_ret
  exact ⟨rfl, HO2.out⟩
set_option maxRecDepth 100000 in
set_option maxHeartbeats 4000000 in
theorem right_any {w0 w : World} {R : HProp} (x : Ev) (h : Own w0 R w) :
    Calls Tryz.prog 93 #[evV x] w fun e w' => e = .returned (.bool (rightB x)) ∧ Own w0 R w' := by
  obtain ⟨a, b, d⟩ := x
  unfold evV
  obtain ⟨b1, hb_b1⟩ : ∃ zz_, zz_ = (w).heap.size := ⟨_, rfl⟩
  obtain ⟨w1, hw_w1⟩ : ∃ zz_, zz_ = (w).alloc (.cells #[.int .i64 a, .int .i64 b, .int .i64 d] 40 (0, 0)) := ⟨_, rfl⟩
  have h_HO := (h).alloc (.cells #[.int .i64 a, .int .i64 b, .int .i64 d] 40 (0, 0))
  rw [← hb_b1, ← hw_w1] at h_HO
  have HO := Lib.hid h_HO
  clear h_HO
  obtain ⟨c0, c1, c2⟩ := (show Own w0 (EvO b1 (a, b, d) * R) w1 from HO.out).ev
  simp only at c0 c1 c2
  have H := Lib.hid h
  clear h
  cases hm : isMember a
  · have hr : rightB (a, b, d) = false := by unfold rightB; simp [hm]
    have HR := Lib.hid hr
    clear hr
    go_enter Tryz.func93, Tryz.ntmps93
    go_upto_region 1 with fail
    rw [← hb_b1, ← hw_w1]
    clear hb_b1 hw_w1
    go_wp2_with fail
    refine (member_any a _).mono ?_
    rintro e w' ⟨rfl, rfl⟩
    rw [hm]
    go_wp2
    go_ret
    exact ⟨by rw [HR.out]; rfl, HO.out.drop⟩
  by_cases h1 : b = 1
  · subst h1
    have hr : rightB (a, 1, d) = (d == 0) := by unfold rightB; simp [hm, Bool.beq_eq_decide_eq]
    have HR := Lib.hid hr
    clear hr
    go_enter Tryz.func93, Tryz.ntmps93
    go_upto_region 1 with fail
    rw [← hb_b1, ← hw_w1]
    clear hb_b1 hw_w1
    go_wp2_with fail
    refine (member_any a _).mono ?_
    rintro e w' ⟨rfl, rfl⟩
    rw [hm]
    go_wp2
    go_ret
    exact ⟨by rw [HR.out]; rfl, HO.out.drop⟩
  have t1 : (b == 1) = false := by simpa using h1
  by_cases h2 : b = 2
  · subst h2
    have hr : rightB (a, 2, d) = isWord d := by unfold rightB; simp [hm]
    have HR := Lib.hid hr
    clear hr
    go_enter Tryz.func93, Tryz.ntmps93
    go_upto_region 1 with fail
    rw [← hb_b1, ← hw_w1]
    clear hb_b1 hw_w1
    go_wp2_with fail
    refine (member_any a _).mono ?_
    rintro e w' ⟨rfl, rfl⟩
    rw [hm]
    go_wp2_with fail
    refine (word_any d _).mono ?_
    rintro e w' ⟨rfl, rfl⟩
    go_wp2
    go_ret
    exact ⟨by rw [HR.out]; rfl, HO.out.drop⟩
  have t2 : (b == 2) = false := by simpa using h2
  by_cases h3 : b = 3
  · subst h3
    have hr : rightB (a, 3, d) = isWord d := by unfold rightB; simp [hm]
    have HR := Lib.hid hr
    clear hr
    go_enter Tryz.func93, Tryz.ntmps93
    go_upto_region 1 with fail
    rw [← hb_b1, ← hw_w1]
    clear hb_b1 hw_w1
    go_wp2_with fail
    refine (member_any a _).mono ?_
    rintro e w' ⟨rfl, rfl⟩
    rw [hm]
    go_wp2_with fail
    refine (word_any d _).mono ?_
    rintro e w' ⟨rfl, rfl⟩
    go_wp2
    go_ret
    exact ⟨by rw [HR.out]; rfl, HO.out.drop⟩
  have t3 : (b == 3) = false := by simpa using h3
  have hr : rightB (a, b, d) = false := by unfold rightB; simp [h1, h2, h3]
  have HR := Lib.hid hr; have H1 := Lib.hid h1; have H2 := Lib.hid h2; have H3 := Lib.hid h3
  clear hr h1 h2 h3
  go_enter Tryz.func93, Tryz.ntmps93
  go_upto_region 1 with fail
  rw [← hb_b1, ← hw_w1]
  clear hb_b1 hw_w1
  go_wp2_with fail
  refine (member_any a _).mono ?_
  rintro e w' ⟨rfl, rfl⟩
  rw [hm]
  go_wp2
  go_ret
  exact ⟨by rw [HR.out]; rfl, HO.out.drop⟩
end Go.Proofs.YtpafhfnimncklaaGreatDoor
