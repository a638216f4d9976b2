/- The lines of a text, cut at each end, are its lines without their ends. -/
import Derived.Test.YtdfjbnfdknpahaaGreatDoorMRunAnswers23
import Derived.Test.YtdfjbnfdknpahaaGreatDoorMRunAnswers25
import Derived.Test.YtdfjbnfdknpahaaGreatDoorMRunAnswers36
import Derived.Test.YtdfjbnfdknpahaaGreatDoorRows
import Derived.ProofKit
import Derived.KernelRfl
import Derived.Test.YtdfjbnfdknpahaaGreatDoorMRunAnswers4
import Derived.ChangeSame
import Derived.ChangeVars
import Derived.JoinedOf
import Derived.LaidLaws
import Derived.LaidHandle
import Derived.Stop.Joined
namespace Go.Proofs.YtdfjbnfdknpahaaGreatDoor
set_option linter.unusedVariables false
set_option linter.unusedSimpArgs false
def lsB (c : List (List UInt8)) : List (List UInt8) := if c.getLast? = some [] then c.dropLast else c
theorem lsB_cons (x : List UInt8) {y : List (List UInt8)} (hy : y ≠ []) : lsB (x :: y) = x :: lsB y := by
  cases y with
  | nil => exact absurd rfl hy
  | cons a q =>
    unfold lsB
    rw [List.getLast?_cons_cons]
    split
    · rw [List.dropLast_cons_of_ne_nil hy]
    · rfl
theorem lsB_one (x : List UInt8) : lsB [x] = if x = [] then [] else [x] := by
  unfold lsB
  by_cases h : x = []
  · rw [if_pos (by rw [h]; rfl), if_pos h]; rfl
  · rw [if_neg (by simpa using h), if_neg h]
theorem rawL_ne : ∀ (l : List UInt8), ∀ x ∈ rawL l, x ≠ []
  | [], x, h => by cases h
  | b :: r, x, h => by
    rw [rawL] at h
    split at h
    · rcases List.mem_cons.1 h with rfl | h
      · simp
      · exact rawL_ne r x h
    · split at h
      · rw [List.mem_singleton.1 h]; simp
      · rename_i u v huv
        rcases List.mem_cons.1 h with rfl | h
        · simp
        · exact rawL_ne r x (by rw [huv]; exact List.mem_cons_of_mem _ h)
theorem trimB_cons {b : UInt8} {x : List UInt8} (h : x ≠ []) : trimB (b :: x) = b :: trimB x := by
  cases x with
  | nil => exact absurd rfl h
  | cons a q =>
    have e : endsNl (b :: a :: q) = endsNl (a :: q) := by unfold endsNl; rw [List.getLast?_cons_cons]
    unfold trimB
    rw [e]
    split
    · rw [List.dropLast_cons_of_ne_nil (by simp)]
    · rfl
theorem cutS_nil {c : UInt8} : ∀ {r : List UInt8}, ∀ {x : List UInt8}, cutS c r = [x] → x = r
  | [], x, h => by simp [cutS] at h; exact h
  | b :: r, x, h => by
    unfold cutS at h
    split at h
    · have := cutS_ne c r
      simp at h
      exact absurd h.2 this
    · split at h
      · rename_i h2; exact absurd h2 (cutS_ne c r)
      · rename_i u v huv
        simp at h
        obtain ⟨h1, h2⟩ := h
        subst h2
        rw [← h1, cutS_nil huv]
theorem cut_raw : ∀ l : List UInt8, lsB (cutS 10 l) = (rawL l).map trimB
  | [] => by rw [cutS, lsB_one, if_pos rfl]; rfl
  | b :: r => by
    have ih := cut_raw r
    rw [cutS, rawL]
    by_cases hb : b = 10
    · rw [if_pos hb, if_pos hb, lsB_cons _ (cutS_ne 10 r), ih, List.map_cons]
      rfl
    · rw [if_neg hb, if_neg hb]
      cases hc : cutS 10 r with
      | nil => exact absurd hc (cutS_ne 10 r)
      | cons x y =>
        rw [hc] at ih
        cases hr : rawL r with
        | nil =>
          rw [hr] at ih
          have hrn : r = [] := by
            cases r with
            | nil => rfl
            | cons a q =>
              rw [rawL] at hr
              split at hr
              · cases hr
              · split at hr <;> cases hr
          subst hrn
          simp [cutS] at hc
          obtain ⟨rfl, rfl⟩ := hc
          show lsB [[b]] = [trimB [b]]
          rw [lsB_one, if_neg (by simp)]
          have : trimB [b] = [b] := by
            unfold trimB endsNl
            rw [if_neg (by simpa using hb)]
          rw [this]
        | cons u v =>
          rw [hr] at ih
          have hu := rawL_ne r u (by rw [hr]; exact List.mem_cons_self ..)
          show lsB ((b :: x) :: y) = trimB (b :: u) :: v.map trimB
          rw [trimB_cons hu]
          rw [List.map_cons] at ih
          by_cases hy : y = []
          · subst hy
            have hxr := cutS_nil hc
            have hxn : x ≠ [] := by
              rw [hxr]
              intro hc2
              rw [hc2] at hr
              cases hr
            rw [lsB_one, if_neg hxn] at ih
            rw [lsB_one, if_neg (by simp)]
            injection ih with e1 e2
            rw [e1, e2]
          · rw [lsB_cons _ hy] at ih ⊢
            injection ih with e1 e2
            rw [e1, e2]
theorem lsB_get {cs : List (List UInt8)} {i : Nat} (hi : i < (lsB cs).length) : cs[i]? = (lsB cs)[i]? := by
  unfold lsB at hi ⊢
  split
  · rename_i h
    rw [if_pos h, List.length_dropLast] at hi
    rw [List.getElem?_dropLast, if_pos hi]
  · rfl
theorem take_one {l : List (List UInt8)} {k : Nat} (h : k < l.length) : l.take (k + 1) = l.take k ++ [l[k]] := List.take_succ_eq_append_getElem h
end Go.Proofs.YtdfjbnfdknpahaaGreatDoor
/- RunAnswers: run's answers are the reference's, line by line. -/
namespace Go.Proofs.YtdfjbnfdknpahaaGreatDoor
set_option linter.unusedVariables false
set_option linter.unusedSimpArgs false
open Go.RowKit
set_option maxRecDepth 100000 in
set_option maxHeartbeats 4000000 in
theorem runAnswers_law (w : World) (hW : RunW w) (t : ByteArray) (_ht : t.size ≤ maxLen) :
    Calls Tryz.prog 3 #[.string t] w fun e w' => e = .returned (.bool true) ∧ Below w.heap.size w w' := by
  obtain ⟨l, hl⟩ : ∃ l, l = t.data.toList := ⟨_, rfl⟩
  have htx : t = tx l := by rw [hl, tx_of]
  subst htx
  obtain ⟨N, hN⟩ : ∃ N, N = l.length := ⟨_, rfl⟩
  have hln : ∀ (ty : TypeId) (w : World), (Builtin.len_ #[9] ty #[.string (tx l)]).run Tryz.prog w = .ok (.int .i64 (N : Int)) w := fun ty w => by
    rw [run_len_string w _ _ _ Tryz.underlying9, tx_size, ← hN]; rfl
  have hrn := run_any hW l
  by_cases h3 : 3000 < N
  · rw [show runB l = tooLong from (by unfold runB; rw [if_pos (by rw [← hN]; exact h3)]), show tx tooLong = ⟨#[116, 111, 111, 32, 108, 111, 110, 103, 10]⟩ from rfl] at hrn
    obtain ⟨T, hT⟩ : ∃ T, T = tx l := ⟨_, rfl⟩
    rw [← hT] at hln hrn ⊢
    have HRN := Lib.hid hrn; have HN := Lib.hid hN; have HL := Lib.hid hl; have HT := Lib.hid hT
    clear hrn hN hl hT
    go_enter Tryz.func3, Tryz.ntmps3
    go_wp2_with fail
    refine HRN.out.mono ?_
    rintro e w2 ⟨rfl, hb2⟩
    go_wp2_with fail
    go_ret
    exact ⟨rfl, hb2⟩
  · rw [show runB l = sessB l from (by unfold runB; rw [if_neg (by omega)])] at hrn
    have hcu := fun (w2 : World) (ho : Own w emp w2) => cutS_any l 10 (by omega) ho
    obtain ⟨cs, hcs⟩ : ∃ cs, cs = cutS 10 l := ⟨_, rfl⟩
    have hne : cs ≠ [] := by rw [hcs]; exact cutS_ne 10 l
    have hraw := cut_raw l
    rw [← hcs] at hraw
    simp only [← hcs] at hcu
    obtain ⟨ls, hls⟩ : ∃ ls, ls = lsB cs := ⟨_, rfl⟩
    have hsess : sessB l = runA (csNew 3) ls := by unfold sessB; rw [hls, hraw]
    have hsm : ∀ x ∈ ls, x.length ≤ 3000 := fun x hx => by
      rw [hls, hraw] at hx
      obtain ⟨y, hy, rfl⟩ := List.mem_map.1 hx
      have h1 := trimB_len y
      have h2 := (rawL_len l).2 y hy
      omega
    have hlL : ls.length ≤ 3000 := by
      rw [hls, hraw, List.length_map]
      have := (rawL_len l).1
      omega
    have hget : ∀ i (hi : i < ls.length), cs[i]? = some ls[i] := fun i hi => by
      subst hls
      rw [lsB_get hi, List.getElem?_eq_getElem hi]
    obtain ⟨M, hM⟩ : ∃ M, cs.length = M + 1 := by
      cases hc : cs with
      | nil => exact absurd hc hne
      | cons a q => exact ⟨q.length, rfl⟩
    obtain ⟨z, hz⟩ : ∃ z, cs[M]? = some z := ⟨cs[M], List.getElem?_eq_getElem (by omega)⟩
    have hlast : cs.getLast? = some z := by rw [List.getLast?_eq_getElem?, hM, Nat.add_sub_cancel]; exact hz
    have hlen : ls.length = if z = [] then M else M + 1 := by
      rw [hls]
      unfold lsB
      rw [hlast]
      by_cases h0 : z = []
      · subst h0; rw [if_pos rfl, if_pos rfl, List.length_dropLast, hM, Nat.add_sub_cancel]
      · rw [if_neg (by simpa using h0), if_neg h0, hM]
    obtain ⟨T, hT⟩ : ∃ T, T = tx l := ⟨_, rfl⟩
    simp only [← hT] at hcu
    rw [← hT] at hln hrn ⊢
    obtain ⟨G, hG⟩ : ∃ G, G = tx (sessB l) := ⟨_, rfl⟩
    rw [← hG] at hrn
    have HRN := Lib.hid hrn; have HN := Lib.hid hN; have HL := Lib.hid hl; have HT := Lib.hid hT; have HCU := Lib.hid hcu; have HCS := Lib.hid hcs; have HNE := Lib.hid hne; have HRAW := Lib.hid hraw; have HLS := Lib.hid hls; have HSESS := Lib.hid hsess; have HSM := Lib.hid hsm; have HGET := Lib.hid hget; have HLAST := Lib.hid hlast; have HG := Lib.hid hG
    clear hrn hN hl hT hcu hcs hne hraw hls hsess hsm hget hlast hG
    go_enter Tryz.func3, Tryz.ntmps3
    go_wp2_with fail
    refine HRN.out.mono ?_
    rintro e w2 ⟨rfl, hb2⟩
    have hcut := HCU.out w2 (show Own w emp w2 from ⟨hb2, hnil, (fun _ _ h => by cases h), rfl⟩)
    have HCUT := Lib.hid hcut
    clear hcut
    go_wp2_with fail
    refine HCUT.out.mono ?_
    rintro e w3 ⟨v3, rfl, ho⟩
    obtain ⟨b, off, cap, rfl, q1, q2, q3, _, _, _, _⟩ := Own.sl_at ho (by rw [List.length_map, hM]; omega)
    have hcm : w3.cell? ⟨b, off + M, none⟩ = some (.string (tx z)) := q3 M _ (by rw [List.getElem?_map, hz]; rfl)
    rw [hM] at q1 ho ⊢
    have HO3 := Lib.hid ho
    clear ho q3
    have hback : ∀ w, (Instr.sliceAt 23 (.slice (some ⟨b, off, none⟩) (M + 1) cap) none (some (.int .i64 (M : Int))) none).run Tryz.prog w = .ok (.slice (some ⟨b, off, none⟩) M cap) w := fun w =>
      cut_back (n := M) Tryz.underlying23 (fun w => by kernel_rfl) (by omega) q1 w
    have hcell : ∀ (w' : World) (P : HProp), Own w (StSl (.slice (some ⟨b, off, none⟩) (M + 1) cap) cs * P) w' → ∀ i (hi : i < ls.length), w'.cell? ⟨b, off + i, none⟩ = some (.string (tx ls[i])) := fun w' P ho i hi => by
      obtain ⟨b', off', cap', e1, _, _, q3', _⟩ := Own.sl_at ho (by rw [List.length_map, hM]; omega)
      rw [hM] at e1
      cases e1
      exact q3' i _ (by rw [List.getElem?_map, HGET.out i hi]; rfl)
    obtain ⟨Z, hZ⟩ : ∃ Z, Z = tx z := ⟨_, rfl⟩
    rw [← hZ] at hcm
    obtain ⟨K, hK⟩ : ∃ K, K = ls.length := ⟨_, rfl⟩
    have hzz : (z = [] ∧ K = M) ∨ (z ≠ [] ∧ K = M + 1) := by
      rw [hK, hlen]
      by_cases h0 : z = []
      · exact .inl ⟨h0, if_pos h0⟩
      · exact .inr ⟨h0, if_neg h0⟩
    clear hlen hz
    rw [← hK] at hlL
    have HCELL := Lib.hid hcell; have HK := Lib.hid hK
    clear hcell hK
    have HK_ := HK
    clear HK
    rcases hzz with ⟨h0, hKM⟩ | ⟨h0, hKM⟩
    · subst h0
      have hZ0 : Z = ⟨#[]⟩ := hZ
      subst hZ0
      subst hKM
      clear hZ
      go_upto_region 7 with fail
      go_wp2_with fail
      refine (rkNew_any 3 (by decide) (by decide) HO3.out).mono ?_
      rintro e w4 ⟨p, rfl, ho⟩
      have HO4 := Lib.hid ho
      clear ho
      go_wp2_with fail
      go_loopw [6, 7] (fun sv iv wr => ∃ k : Nat, k ≤ K ∧ iv = .int .i64 k ∧ sv = .string (tx (runA (csNew 3) (ls.take k))) ∧ Hid (Own w (RkP p (runC (csNew 3) (ls.take k)) * (StSl (.slice (some ⟨b, off, none⟩) (K + 1) cap) cs * emp)) wr)) (fun _ iv _ => K - (intOf iv).toNat)
      case atStart => exact ⟨0, Nat.zero_le _, rfl, rfl, HO4⟩
      case round =>
        clear HO4
        obtain ⟨k, hk, rfl, rfl, HO⟩ := hrel
        by_cases hlt : k < K
        · have hkl : k < ls.length := by rw [← HK_.out]; exact hlt
          have hc5 := HCELL.out wr _ (HO.out.perm (show _ = StSl (.slice (some ⟨b, off, none⟩) (K + 1) cap) cs * (RkP p (runC (csNew 3) (ls.take k)) * emp) by ac_rfl)) k hkl
          have hcz := cz3.runC (ls.take k)
          have hal := hcz.ansLen ls[k]
          have hrl := cz3.runLen (ls.take k)
          rw [List.length_take] at hrl
          have hrl2 : (runA (csNew 3) (ls.take k)).length ≤ 3000 * 10000002 := Nat.le_trans hrl (Nat.mul_le_mul_right _ (by omega))
          have hline := rline_any p _ hcz ls[k] (HSM.out _ (List.getElem_mem hkl)) HO.out
          have htk := take_one hkl
          have hA1 : runA (csNew 3) (ls.take (k + 1)) = runA (csNew 3) (ls.take k) ++ ((lineA (runC (csNew 3) (ls.take k)) ls[k]).2 ++ [10]) := by rw [htk, runA_snoc]
          have hC1 : runC (csNew 3) (ls.take (k + 1)) = (lineA (runC (csNew 3) (ls.take k)) ls[k]).1 := by rw [htk, runC_snoc]
          obtain ⟨x, hx⟩ : ∃ x, x = ls[k] := ⟨_, rfl⟩
          obtain ⟨c', y, hcy⟩ : ∃ c' y, lineA (runC (csNew 3) (ls.take k)) ls[k] = (c', y) := ⟨_, _, rfl⟩
          rw [hcy] at hline hA1 hC1 hal
          obtain ⟨S0, hS0⟩ : ∃ S0, S0 = tx (runA (csNew 3) (ls.take k)) := ⟨_, rfl⟩
          obtain ⟨X, hX⟩ : ∃ X, X = tx ls[k] := ⟨_, rfl⟩
          obtain ⟨Y, hY⟩ : ∃ Y, Y = tx y := ⟨_, rfl⟩
          have sS : S0.size ≤ 3000 * 10000002 := by rw [hS0, tx_size]; exact hrl2
          have sY : Y.size ≤ 10000001 := by rw [hY, tx_size]; exact hal
          obtain ⟨V1, e1, z1, a1⟩ := add_let S0 Y (by omega) (by omega)
          obtain ⟨V2, e2, z2, a2⟩ := add_let V1 ⟨#[10]⟩ (by omega) (by decide)
          have hV : tx (runA (csNew 3) (ls.take (k + 1))) = V2 := by
            rw [hA1, e2, e1, hS0, hY, ← tx_add, ← tx_add]
            apply ByteArray.ext
            simp [ByteArray.data_append, tx]
          rw [← hX] at hc5 hline
          rw [show tx (c', y).2 = Y from hY.symm] at hline
          rw [← hS0]
          have HAL := Lib.hid hal; have HRL := Lib.hid hrl; have HRL2 := Lib.hid hrl2; have HLINE := Lib.hid hline; have HTK := Lib.hid htk; have HA1 := Lib.hid hA1; have HC1 := Lib.hid hC1; have HX := Lib.hid hx; have HCY := Lib.hid hcy; have HS0 := Lib.hid hS0; have HX := Lib.hid hX; have HY := Lib.hid hY; have SS := Lib.hid sS; have SY := Lib.hid sY; have E1 := Lib.hid e1; have Z1 := Lib.hid z1; have E2 := Lib.hid e2; have Z2 := Lib.hid z2; have HV := Lib.hid hV; have HCZ := Lib.hid hcz
          clear hal hrl hrl2 hline htk hA1 hC1 hx hcy hS0 hX hY sS sY e1 z1 e2 z2 hV hcz
          go_wp2_with fail
          refine HLINE.out.mono ?_
          rintro e w5 ⟨rfl, ho⟩
          have HO5 := Lib.hid ho
          clear ho
          go_wp2_with fail
          go_roundw
          case rel => exact ⟨k + 1, by omega, by go_num, by rw [HV.out], by rw [HC1.out]; exact HO5⟩
          case measure => simp [intOf]; omega
        · have hkn : k = K := by omega
          have hfin : tx (runA (csNew 3) (ls.take k)) = G := by
            rw [List.take_of_length_le (by have := HK_.out; omega), HG.out, HSESS.out]
          have hbel := HO.out.below
          rw [hfin]
          have HFIN := Lib.hid hfin; have HBEL := Lib.hid hbel
          clear hfin hbel
          go_wp2_with fail
          go_ret
          exact ⟨by simp, HBEL.out⟩
    · have hq0 := tx_ne h0
      rw [← hZ] at hq0
      obtain ⟨u1, u2, u3⟩ := tx_tests hq0
      subst hKM
      have HZ := Lib.hid hZ; have H0 := Lib.hid h0; have HQ0 := Lib.hid hq0
      clear hZ h0 hq0
      go_upto_region 7 with fail
      go_wp2_with fail
      refine (rkNew_any 3 (by decide) (by decide) HO3.out).mono ?_
      rintro e w4 ⟨p, rfl, ho⟩
      have HO4 := Lib.hid ho
      clear ho
      go_wp2_with fail
      go_loopw [6, 7] (fun sv iv wr => ∃ k : Nat, k ≤ (M + 1) ∧ iv = .int .i64 k ∧ sv = .string (tx (runA (csNew 3) (ls.take k))) ∧ Hid (Own w (RkP p (runC (csNew 3) (ls.take k)) * (StSl (.slice (some ⟨b, off, none⟩) (M + 1) cap) cs * emp)) wr)) (fun _ iv _ => (M + 1) - (intOf iv).toNat)
      case atStart => exact ⟨0, Nat.zero_le _, rfl, rfl, HO4⟩
      case round =>
        clear HO4
        obtain ⟨k, hk, rfl, rfl, HO⟩ := hrel
        by_cases hlt : k < (M + 1)
        · have hkl : k < ls.length := by rw [← HK_.out]; exact hlt
          have hc5 := HCELL.out wr _ (HO.out.perm (show _ = StSl (.slice (some ⟨b, off, none⟩) (M + 1) cap) cs * (RkP p (runC (csNew 3) (ls.take k)) * emp) by ac_rfl)) k hkl
          have hcz := cz3.runC (ls.take k)
          have hal := hcz.ansLen ls[k]
          have hrl := cz3.runLen (ls.take k)
          rw [List.length_take] at hrl
          have hrl2 : (runA (csNew 3) (ls.take k)).length ≤ 3000 * 10000002 := Nat.le_trans hrl (Nat.mul_le_mul_right _ (by omega))
          have hline := rline_any p _ hcz ls[k] (HSM.out _ (List.getElem_mem hkl)) HO.out
          have htk := take_one hkl
          have hA1 : runA (csNew 3) (ls.take (k + 1)) = runA (csNew 3) (ls.take k) ++ ((lineA (runC (csNew 3) (ls.take k)) ls[k]).2 ++ [10]) := by rw [htk, runA_snoc]
          have hC1 : runC (csNew 3) (ls.take (k + 1)) = (lineA (runC (csNew 3) (ls.take k)) ls[k]).1 := by rw [htk, runC_snoc]
          obtain ⟨x, hx⟩ : ∃ x, x = ls[k] := ⟨_, rfl⟩
          obtain ⟨c', y, hcy⟩ : ∃ c' y, lineA (runC (csNew 3) (ls.take k)) ls[k] = (c', y) := ⟨_, _, rfl⟩
          rw [hcy] at hline hA1 hC1 hal
          obtain ⟨S0, hS0⟩ : ∃ S0, S0 = tx (runA (csNew 3) (ls.take k)) := ⟨_, rfl⟩
          obtain ⟨X, hX⟩ : ∃ X, X = tx ls[k] := ⟨_, rfl⟩
          obtain ⟨Y, hY⟩ : ∃ Y, Y = tx y := ⟨_, rfl⟩
          have sS : S0.size ≤ 3000 * 10000002 := by rw [hS0, tx_size]; exact hrl2
          have sY : Y.size ≤ 10000001 := by rw [hY, tx_size]; exact hal
          obtain ⟨V1, e1, z1, a1⟩ := add_let S0 Y (by omega) (by omega)
          obtain ⟨V2, e2, z2, a2⟩ := add_let V1 ⟨#[10]⟩ (by omega) (by decide)
          have hV : tx (runA (csNew 3) (ls.take (k + 1))) = V2 := by
            rw [hA1, e2, e1, hS0, hY, ← tx_add, ← tx_add]
            apply ByteArray.ext
            simp [ByteArray.data_append, tx]
          rw [← hX] at hc5 hline
          rw [show tx (c', y).2 = Y from hY.symm] at hline
          rw [← hS0]
          have HAL := Lib.hid hal; have HRL := Lib.hid hrl; have HRL2 := Lib.hid hrl2; have HLINE := Lib.hid hline; have HTK := Lib.hid htk; have HA1 := Lib.hid hA1; have HC1 := Lib.hid hC1; have HX := Lib.hid hx; have HCY := Lib.hid hcy; have HS0 := Lib.hid hS0; have HX := Lib.hid hX; have HY := Lib.hid hY; have SS := Lib.hid sS; have SY := Lib.hid sY; have E1 := Lib.hid e1; have Z1 := Lib.hid z1; have E2 := Lib.hid e2; have Z2 := Lib.hid z2; have HV := Lib.hid hV; have HCZ := Lib.hid hcz
          clear hal hrl hrl2 hline htk hA1 hC1 hx hcy hS0 hX hY sS sY e1 z1 e2 z2 hV hcz
          go_wp2_with fail
          refine HLINE.out.mono ?_
          rintro e w5 ⟨rfl, ho⟩
          have HO5 := Lib.hid ho
          clear ho
          go_wp2_with fail
          go_roundw
          case rel => exact ⟨k + 1, by omega, by go_num, by rw [HV.out], by rw [HC1.out]; exact HO5⟩
          case measure => simp [intOf]; omega
        · have hkn : k = (M + 1) := by omega
          have hfin : tx (runA (csNew 3) (ls.take k)) = G := by
            rw [List.take_of_length_le (by have := HK_.out; omega), HG.out, HSESS.out]
          have hbel := HO.out.below
          rw [hfin]
          have HFIN := Lib.hid hfin; have HBEL := Lib.hid hbel
          clear hfin hbel
          go_wp2_with fail
          go_ret
          exact ⟨by simp, HBEL.out⟩
end Go.Proofs.YtdfjbnfdknpahaaGreatDoor
/- Closed facts on the program as a whole, each asked once for all statements of the seat. -/
namespace Go.Proofs.YtdfjbnfdknpahaaGreatDoor.facts
set_option linter.unusedVariables false
set_option linter.unusedSimpArgs false
open Go.ChangeShapes Go.WideShapes Go.ChangeAt
theorem words_step (w r : List Char) (h : w.all (fun c => c != Char.ofNat 32) = true) : wordsSigns (w ++ Char.ofNat 32 :: r) = w :: wordsSigns r := by
  induction w with
  | nil => rfl
  | cons c w ih =>
    simp only [List.all_cons, Bool.and_eq_true, bne_iff_ne, ne_eq] at h
    rw [List.cons_append]
    have e : wordsSigns (c :: (w ++ Char.ofNat 32 :: r)) = match wordsSigns (w ++ Char.ofNat 32 :: r) with | x :: xs => (c :: x) :: xs | [] => [[c]] := by
      conv => lhs; unfold wordsSigns
      split
      · rename_i h1; cases h1
      · rename_i h1; injection h1 with h2 _; exact absurd h2 h.1
      · rename_i h1; injection h1 with h2 h3; subst h2 h3; rfl
    rw [e, ih (by simpa using h.2)]
theorem make_of (P : Program) (c : List Char) (rest : List (List Char)) (h : behindMainWord (wordsSigns P.initOrder.toList) = c :: rest) : P.make =
  if c == "gc".toList || c == "spec".toList then some .whole else if c == "cut".toList || (c == "finals".toList && rest.head? == some "cut".toList) then some .cut else if c == "carried".toList then some .carried else if P.headLifts.isEmpty then none else some (.lifted P.headLifts) := by
  unfold Program.make
  rw [h]
theorem mayEnter_of (P : Program) (c : List Char) (rest : List (List Char)) (h : behindMainWord (wordsSigns P.initOrder.toList) = c :: rest) : P.mayEnter = (
    ((c == "gc".toList || c == "spec".toList) && (rest.isEmpty || rest.head? == some "stop".toList)) ||
    (c == "carried".toList && rest.take 2 == ["gc".toList, "cut".toList] && !P.laysLater && !P.bearsReflect) ||
    ((stripLifts liftWords (c :: rest)).2.head? == some "cut".toList &&
      ((stripLifts liftWords (c :: rest)).1.contains "finals" || !P.laysLater) && ((stripLifts liftWords (c :: rest)).1.contains "reflectrows" || !P.bearsReflect) &&
      ((stripLifts liftWords (c :: rest)).1.contains "reflectrows" || !(stripLifts liftWords (c :: rest)).1.contains "leanrows") &&
      P.doorFits (stripLifts liftWords (c :: rest)).1)) := by
  unfold Program.mayEnter
  rw [h]
def hw0 : List Char := [Char.ofNat 104, Char.ofNat 97, Char.ofNat 114, Char.ofNat 110, Char.ofNat 101, Char.ofNat 115, Char.ofNat 115]
def hw1 : List Char := [Char.ofNat 49, Char.ofNat 51, Char.ofNat 51, Char.ofNat 57, Char.ofNat 54, Char.ofNat 101, Char.ofNat 99, Char.ofNat 100, Char.ofNat 97, Char.ofNat 53, Char.ofNat 98, Char.ofNat 100, Char.ofNat 48, Char.ofNat 51, Char.ofNat 48, Char.ofNat 102, Char.ofNat 51, Char.ofNat 97, Char.ofNat 102, Char.ofNat 99, Char.ofNat 53, Char.ofNat 101, Char.ofNat 52, Char.ofNat 100, Char.ofNat 56, Char.ofNat 99, Char.ofNat 49, Char.ofNat 54, Char.ofNat 102, Char.ofNat 56, Char.ofNat 49, Char.ofNat 53, Char.ofNat 52, Char.ofNat 101, Char.ofNat 51, Char.ofNat 50, Char.ofNat 51, Char.ofNat 102, Char.ofNat 51, Char.ofNat 102, Char.ofNat 97, Char.ofNat 101, Char.ofNat 99, Char.ofNat 57, Char.ofNat 100, Char.ofNat 49, Char.ofNat 51, Char.ofNat 57, Char.ofNat 100, Char.ofNat 50, Char.ofNat 97, Char.ofNat 98, Char.ofNat 56, Char.ofNat 56, Char.ofNat 49, Char.ofNat 101, Char.ofNat 54, Char.ofNat 55, Char.ofNat 52, Char.ofNat 50, Char.ofNat 101, Char.ofNat 48, Char.ofNat 101, Char.ofNat 99]
def hw2 : List Char := [Char.ofNat 99, Char.ofNat 117, Char.ofNat 116]
def hrest : List Char := [Char.ofNat 97, Char.ofNat 116, Char.ofNat 32, Char.ofNat 109, Char.ofNat 111, Char.ofNat 111, Char.ofNat 116, Char.ofNat 98, Char.ofNat 101, Char.ofNat 108, Char.ofNat 108, Char.ofNat 47, Char.ofNat 109, Char.ofNat 111, Char.ofNat 111, Char.ofNat 116, Char.ofNat 108, Char.ofNat 97, Char.ofNat 119, Char.ofNat 51, Char.ofNat 46, Char.ofNat 82, Char.ofNat 117, Char.ofNat 110, Char.ofNat 65, Char.ofNat 110, Char.ofNat 115, Char.ofNat 119, Char.ofNat 101, Char.ofNat 114, Char.ofNat 115, Char.ofNat 32, Char.ofNat 109, Char.ofNat 111, Char.ofNat 111, Char.ofNat 116, Char.ofNat 98, Char.ofNat 101, Char.ofNat 108, Char.ofNat 108, Char.ofNat 47, Char.ofNat 109, Char.ofNat 111, Char.ofNat 111, Char.ofNat 116, Char.ofNat 108, Char.ofNat 97, Char.ofNat 119, Char.ofNat 51, Char.ofNat 46, Char.ofNat 82, Char.ofNat 117, Char.ofNat 110, Char.ofNat 66, Char.ofNat 101, Char.ofNat 103, Char.ofNat 105, Char.ofNat 110, Char.ofNat 115, Char.ofNat 32, Char.ofNat 109, Char.ofNat 111, Char.ofNat 111, Char.ofNat 116, Char.ofNat 98, Char.ofNat 101, Char.ofNat 108, Char.ofNat 108, Char.ofNat 47, Char.ofNat 109, Char.ofNat 111, Char.ofNat 111, Char.ofNat 116, Char.ofNat 108, Char.ofNat 97, Char.ofNat 119, Char.ofNat 51, Char.ofNat 46, Char.ofNat 82, Char.ofNat 117, Char.ofNat 110, Char.ofNat 67, Char.ofNat 97, Char.ofNat 117, Char.ofNat 115, Char.ofNat 97, Char.ofNat 108]
set_option maxRecDepth 100000 in
theorem init_lit : Tryz.prog.initOrder = String.ofList [Char.ofNat 104, Char.ofNat 97, Char.ofNat 114, Char.ofNat 110, Char.ofNat 101, Char.ofNat 115, Char.ofNat 115, Char.ofNat 32, Char.ofNat 49, Char.ofNat 51, Char.ofNat 51, Char.ofNat 57, Char.ofNat 54, Char.ofNat 101, Char.ofNat 99, Char.ofNat 100, Char.ofNat 97, Char.ofNat 53, Char.ofNat 98, Char.ofNat 100, Char.ofNat 48, Char.ofNat 51, Char.ofNat 48, Char.ofNat 102, Char.ofNat 51, Char.ofNat 97, Char.ofNat 102, Char.ofNat 99, Char.ofNat 53, Char.ofNat 101, Char.ofNat 52, Char.ofNat 100, Char.ofNat 56, Char.ofNat 99, Char.ofNat 49, Char.ofNat 54, Char.ofNat 102, Char.ofNat 56, Char.ofNat 49, Char.ofNat 53, Char.ofNat 52, Char.ofNat 101, Char.ofNat 51, Char.ofNat 50, Char.ofNat 51, Char.ofNat 102, Char.ofNat 51, Char.ofNat 102, Char.ofNat 97, Char.ofNat 101, Char.ofNat 99, Char.ofNat 57, Char.ofNat 100, Char.ofNat 49, Char.ofNat 51, Char.ofNat 57, Char.ofNat 100, Char.ofNat 50, Char.ofNat 97, Char.ofNat 98, Char.ofNat 56, Char.ofNat 56, Char.ofNat 49, Char.ofNat 101, Char.ofNat 54, Char.ofNat 55, Char.ofNat 52, Char.ofNat 50, Char.ofNat 101, Char.ofNat 48, Char.ofNat 101, Char.ofNat 99, Char.ofNat 32, Char.ofNat 99, Char.ofNat 117, Char.ofNat 116, Char.ofNat 32, Char.ofNat 97, Char.ofNat 116, Char.ofNat 32, Char.ofNat 109, Char.ofNat 111, Char.ofNat 111, Char.ofNat 116, Char.ofNat 98, Char.ofNat 101, Char.ofNat 108, Char.ofNat 108, Char.ofNat 47, Char.ofNat 109, Char.ofNat 111, Char.ofNat 111, Char.ofNat 116, Char.ofNat 108, Char.ofNat 97, Char.ofNat 119, Char.ofNat 51, Char.ofNat 46, Char.ofNat 82, Char.ofNat 117, Char.ofNat 110, Char.ofNat 65, Char.ofNat 110, Char.ofNat 115, Char.ofNat 119, Char.ofNat 101, Char.ofNat 114, Char.ofNat 115, Char.ofNat 32, Char.ofNat 109, Char.ofNat 111, Char.ofNat 111, Char.ofNat 116, Char.ofNat 98, Char.ofNat 101, Char.ofNat 108, Char.ofNat 108, Char.ofNat 47, Char.ofNat 109, Char.ofNat 111, Char.ofNat 111, Char.ofNat 116, Char.ofNat 108, Char.ofNat 97, Char.ofNat 119, Char.ofNat 51, Char.ofNat 46, Char.ofNat 82, Char.ofNat 117, Char.ofNat 110, Char.ofNat 66, Char.ofNat 101, Char.ofNat 103, Char.ofNat 105, Char.ofNat 110, Char.ofNat 115, Char.ofNat 32, Char.ofNat 109, Char.ofNat 111, Char.ofNat 111, Char.ofNat 116, Char.ofNat 98, Char.ofNat 101, Char.ofNat 108, Char.ofNat 108, Char.ofNat 47, Char.ofNat 109, Char.ofNat 111, Char.ofNat 111, Char.ofNat 116, Char.ofNat 108, Char.ofNat 97, Char.ofNat 119, Char.ofNat 51, Char.ofNat 46, Char.ofNat 82, Char.ofNat 117, Char.ofNat 110, Char.ofNat 67, Char.ofNat 97, Char.ofNat 117, Char.ofNat 115, Char.ofNat 97, Char.ofNat 108] := by kernel_rfl
set_option maxRecDepth 100000 in
theorem init_chars : Tryz.prog.initOrder.toList = [Char.ofNat 104, Char.ofNat 97, Char.ofNat 114, Char.ofNat 110, Char.ofNat 101, Char.ofNat 115, Char.ofNat 115, Char.ofNat 32, Char.ofNat 49, Char.ofNat 51, Char.ofNat 51, Char.ofNat 57, Char.ofNat 54, Char.ofNat 101, Char.ofNat 99, Char.ofNat 100, Char.ofNat 97, Char.ofNat 53, Char.ofNat 98, Char.ofNat 100, Char.ofNat 48, Char.ofNat 51, Char.ofNat 48, Char.ofNat 102, Char.ofNat 51, Char.ofNat 97, Char.ofNat 102, Char.ofNat 99, Char.ofNat 53, Char.ofNat 101, Char.ofNat 52, Char.ofNat 100, Char.ofNat 56, Char.ofNat 99, Char.ofNat 49, Char.ofNat 54, Char.ofNat 102, Char.ofNat 56, Char.ofNat 49, Char.ofNat 53, Char.ofNat 52, Char.ofNat 101, Char.ofNat 51, Char.ofNat 50, Char.ofNat 51, Char.ofNat 102, Char.ofNat 51, Char.ofNat 102, Char.ofNat 97, Char.ofNat 101, Char.ofNat 99, Char.ofNat 57, Char.ofNat 100, Char.ofNat 49, Char.ofNat 51, Char.ofNat 57, Char.ofNat 100, Char.ofNat 50, Char.ofNat 97, Char.ofNat 98, Char.ofNat 56, Char.ofNat 56, Char.ofNat 49, Char.ofNat 101, Char.ofNat 54, Char.ofNat 55, Char.ofNat 52, Char.ofNat 50, Char.ofNat 101, Char.ofNat 48, Char.ofNat 101, Char.ofNat 99, Char.ofNat 32, Char.ofNat 99, Char.ofNat 117, Char.ofNat 116, Char.ofNat 32, Char.ofNat 97, Char.ofNat 116, Char.ofNat 32, Char.ofNat 109, Char.ofNat 111, Char.ofNat 111, Char.ofNat 116, Char.ofNat 98, Char.ofNat 101, Char.ofNat 108, Char.ofNat 108, Char.ofNat 47, Char.ofNat 109, Char.ofNat 111, Char.ofNat 111, Char.ofNat 116, Char.ofNat 108, Char.ofNat 97, Char.ofNat 119, Char.ofNat 51, Char.ofNat 46, Char.ofNat 82, Char.ofNat 117, Char.ofNat 110, Char.ofNat 65, Char.ofNat 110, Char.ofNat 115, Char.ofNat 119, Char.ofNat 101, Char.ofNat 114, Char.ofNat 115, Char.ofNat 32, Char.ofNat 109, Char.ofNat 111, Char.ofNat 111, Char.ofNat 116, Char.ofNat 98, Char.ofNat 101, Char.ofNat 108, Char.ofNat 108, Char.ofNat 47, Char.ofNat 109, Char.ofNat 111, Char.ofNat 111, Char.ofNat 116, Char.ofNat 108, Char.ofNat 97, Char.ofNat 119, Char.ofNat 51, Char.ofNat 46, Char.ofNat 82, Char.ofNat 117, Char.ofNat 110, Char.ofNat 66, Char.ofNat 101, Char.ofNat 103, Char.ofNat 105, Char.ofNat 110, Char.ofNat 115, Char.ofNat 32, Char.ofNat 109, Char.ofNat 111, Char.ofNat 111, Char.ofNat 116, Char.ofNat 98, Char.ofNat 101, Char.ofNat 108, Char.ofNat 108, Char.ofNat 47, Char.ofNat 109, Char.ofNat 111, Char.ofNat 111, Char.ofNat 116, Char.ofNat 108, Char.ofNat 97, Char.ofNat 119, Char.ofNat 51, Char.ofNat 46, Char.ofNat 82, Char.ofNat 117, Char.ofNat 110, Char.ofNat 67, Char.ofNat 97, Char.ofNat 117, Char.ofNat 115, Char.ofNat 97, Char.ofNat 108] := by rw [init_lit, String.toList_ofList]
set_option maxRecDepth 100000 in
theorem init_split : [Char.ofNat 104, Char.ofNat 97, Char.ofNat 114, Char.ofNat 110, Char.ofNat 101, Char.ofNat 115, Char.ofNat 115, Char.ofNat 32, Char.ofNat 49, Char.ofNat 51, Char.ofNat 51, Char.ofNat 57, Char.ofNat 54, Char.ofNat 101, Char.ofNat 99, Char.ofNat 100, Char.ofNat 97, Char.ofNat 53, Char.ofNat 98, Char.ofNat 100, Char.ofNat 48, Char.ofNat 51, Char.ofNat 48, Char.ofNat 102, Char.ofNat 51, Char.ofNat 97, Char.ofNat 102, Char.ofNat 99, Char.ofNat 53, Char.ofNat 101, Char.ofNat 52, Char.ofNat 100, Char.ofNat 56, Char.ofNat 99, Char.ofNat 49, Char.ofNat 54, Char.ofNat 102, Char.ofNat 56, Char.ofNat 49, Char.ofNat 53, Char.ofNat 52, Char.ofNat 101, Char.ofNat 51, Char.ofNat 50, Char.ofNat 51, Char.ofNat 102, Char.ofNat 51, Char.ofNat 102, Char.ofNat 97, Char.ofNat 101, Char.ofNat 99, Char.ofNat 57, Char.ofNat 100, Char.ofNat 49, Char.ofNat 51, Char.ofNat 57, Char.ofNat 100, Char.ofNat 50, Char.ofNat 97, Char.ofNat 98, Char.ofNat 56, Char.ofNat 56, Char.ofNat 49, Char.ofNat 101, Char.ofNat 54, Char.ofNat 55, Char.ofNat 52, Char.ofNat 50, Char.ofNat 101, Char.ofNat 48, Char.ofNat 101, Char.ofNat 99, Char.ofNat 32, Char.ofNat 99, Char.ofNat 117, Char.ofNat 116, Char.ofNat 32, Char.ofNat 97, Char.ofNat 116, Char.ofNat 32, Char.ofNat 109, Char.ofNat 111, Char.ofNat 111, Char.ofNat 116, Char.ofNat 98, Char.ofNat 101, Char.ofNat 108, Char.ofNat 108, Char.ofNat 47, Char.ofNat 109, Char.ofNat 111, Char.ofNat 111, Char.ofNat 116, Char.ofNat 108, Char.ofNat 97, Char.ofNat 119, Char.ofNat 51, Char.ofNat 46, Char.ofNat 82, Char.ofNat 117, Char.ofNat 110, Char.ofNat 65, Char.ofNat 110, Char.ofNat 115, Char.ofNat 119, Char.ofNat 101, Char.ofNat 114, Char.ofNat 115, Char.ofNat 32, Char.ofNat 109, Char.ofNat 111, Char.ofNat 111, Char.ofNat 116, Char.ofNat 98, Char.ofNat 101, Char.ofNat 108, Char.ofNat 108, Char.ofNat 47, Char.ofNat 109, Char.ofNat 111, Char.ofNat 111, Char.ofNat 116, Char.ofNat 108, Char.ofNat 97, Char.ofNat 119, Char.ofNat 51, Char.ofNat 46, Char.ofNat 82, Char.ofNat 117, Char.ofNat 110, Char.ofNat 66, Char.ofNat 101, Char.ofNat 103, Char.ofNat 105, Char.ofNat 110, Char.ofNat 115, Char.ofNat 32, Char.ofNat 109, Char.ofNat 111, Char.ofNat 111, Char.ofNat 116, Char.ofNat 98, Char.ofNat 101, Char.ofNat 108, Char.ofNat 108, Char.ofNat 47, Char.ofNat 109, Char.ofNat 111, Char.ofNat 111, Char.ofNat 116, Char.ofNat 108, Char.ofNat 97, Char.ofNat 119, Char.ofNat 51, Char.ofNat 46, Char.ofNat 82, Char.ofNat 117, Char.ofNat 110, Char.ofNat 67, Char.ofNat 97, Char.ofNat 117, Char.ofNat 115, Char.ofNat 97, Char.ofNat 108] = hw0 ++ Char.ofNat 32 :: (hw1 ++ Char.ofNat 32 :: (hw2 ++ Char.ofNat 32 :: hrest)) := by kernel_rfl
theorem init_words : wordsSigns Tryz.prog.initOrder.toList = hw0 :: hw1 :: hw2 :: wordsSigns hrest := by
  rw [init_chars.trans init_split]
  rw [words_step hw0 _ (by kernel_rfl)]
  rw [words_step hw1 _ (by kernel_rfl)]
  rw [words_step hw2 _ (by kernel_rfl)]
theorem behind (rs : List (List Char)) : behindMainWord (hw0 :: hw1 :: hw2 :: rs) = hw2 :: rs := by kernel_rfl
theorem strip (rs : List (List Char)) : stripLifts liftWords (hw2 :: rs) = ([], hw2 :: rs) := by kernel_rfl
theorem laysLater : Tryz.prog.laysLater = false := by kernel_rfl
theorem bearsReflect : Tryz.prog.bearsReflect = false := by kernel_rfl
theorem doorFits : Tryz.prog.doorFits [] = true := by kernel_rfl
theorem headLifts : Tryz.prog.headLifts = [] := by
  unfold Program.headLifts; rw [init_words, behind, strip]; generalize wordsSigns hrest = rs; kernel_rfl
theorem mayEnter : Tryz.prog.mayEnter = true := by
  rw [mayEnter_of Tryz.prog _ _ (by rw [init_words, behind]), strip, laysLater, bearsReflect, doorFits]; generalize wordsSigns hrest = rs; kernel_rfl
theorem lifts_eq : Tryz.prog.liftsFinal = false := by
  unfold Program.liftsFinal; rw [init_words, behind, headLifts]; generalize wordsSigns hrest = rs; kernel_rfl
theorem make_eq : (Tryz.prog.make == some .cut) = true := by
  rw [make_of Tryz.prog _ _ (by rw [init_words, behind]), headLifts]; generalize wordsSigns hrest = rs; kernel_rfl
theorem laidOut : laidOutB Tryz.prog = true := by kernel_rfl
theorem mapsRowed : mapsRowed Tryz.prog = true := by kernel_rfl
theorem stops : (Tryz.prog.stops == []) = true := by kernel_rfl
theorem stopKnobs : (Tryz.prog.stopKnobs == []) = true := by kernel_rfl
theorem stopsHeard : Tryz.prog.stopsHeard = true := by kernel_rfl
theorem own : ownKnob Tryz.prog.godebug = none := by kernel_rfl
theorem and_mk {a b : Bool} (ha : a = true) (hb : b = true) : (a && b) = true := by rw [ha, hb]; rfl
end Go.Proofs.YtdfjbnfdknpahaaGreatDoor.facts
/- The package-level variable errors.errorType as the rows list it: what a walk has of it; a world that meets it. (After the guide's Toyas example.) -/
namespace Go.Proofs.YtdfjbnfdknpahaaGreatDoor
set_option linter.unusedVariables false
set_option linter.unusedSimpArgs false
open Go.ChangeShapes Go.WideShapes Go.RowKit
theorem errt : Tryz.prog.globalNamed "errors.errorType" = some 1 := by kernel_rfl
theorem rtt : (Tryz.prog.cutTypes.find? (·.1 == "internal/reflectlite.rtype")).map (·.2) = some 175 := by kernel_rfl
theorem oneRow : ((List.range 290).filter fun t => Tryz.prog.rowNamed t [101, 114, 114, 111, 114]) = [34] := by kernel_rfl
theorem typesSize : Tryz.prog.types.size = 290 := by kernel_rfl
def theLaid : List (String × DataW Unit) := [("errors.errorType", Rows.laid_errors_errorType)]
theorem handle_of_laid {W : World} (h : laidMetH Tryz.prog theLaid W) : As.Handle W := by
  have h' : laidMet Tryz.prog [] W ∧ handlesMet Tryz.prog theLaid W := h
  obtain ⟨name, u, ty, e1, e2, e3, e4, e5⟩ := h'.2 _ (List.mem_singleton.2 rfl)
  have en : name = [101, 114, 114, 111, 114] := (Option.some.inj e1).symm
  subst en
  obtain rfl := Option.some.inj (rtt.symm.trans e2)
  have hm : ty ∈ (List.range 290).filter fun t => Tryz.prog.rowNamed t [101, 114, 114, 111, 114] := List.mem_filter.2 ⟨List.mem_range.2 (by rw [← typesSize]; exact e3), e4⟩
  rw [oneRow] at hm
  obtain rfl := List.mem_singleton.1 hm
  have hh : typeHandle Tryz.prog 34 = .pointer (some ⟨10, 34, none⟩) := by kernel_rfl
  rw [hh] at e5
  unfold As.Handle
  simpa using World.var?_cell errt e5 0
def laidWorld (P : Program) (os : Os) : World :=
  { World.holding P os ⟨#[], #[], []⟩ with heap := (World.holding P os ⟨#[], #[], []⟩).heap.setIfInBounds 1 (.cells #[.iface 175 (.agg #[.pointer (some ⟨10, 34, none⟩)])] 145 (0, 0)) }
end Go.Proofs.YtdfjbnfdknpahaaGreatDoor
