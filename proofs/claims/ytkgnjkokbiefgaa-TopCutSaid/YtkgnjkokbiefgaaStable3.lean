/- Contracts of package stable, the third part: the least of all. -/
import Derived.Test.YtkgnjkokbiefgaaStable2
namespace Go.Proofs.Ytkgnjkokbiefgaa
set_option linter.unusedVariables false
set_option linter.unusedSimpArgs false
open Go.RowKit
def zipMin : List Int → List Int → List Int
  | a :: r, b :: s => min a b :: zipMin r s
  | _, _ => []
theorem zipMin_len : ∀ (a b : List Int), a.length = b.length → (zipMin a b).length = a.length
  | [], [], _ => rfl
  | a :: r, b :: s, h => by simp [zipMin, zipMin_len r s (by simpa using h)]
theorem zipMin_get : ∀ (a b : List Int) (i : Nat) (h1 : i < a.length) (h2 : i < b.length) (h3 : i < (zipMin a b).length), (zipMin a b)[i] = min a[i] b[i]
  | a :: r, b :: s, 0, _, _, _ => rfl
  | a :: r, b :: s, i + 1, h1, h2, h3 => by simp only [zipMin, List.getElem_cons_succ]; exact zipMin_get r s i _ _ _
def leastOf (rows : List (List Int)) : List Int := rows.foldl zipMin (rows.headD [])
theorem foldl_len (l : List (List Int)) (a : List Int) (ha : a.length = 5) (hl : ∀ r ∈ l, r.length = 5) : (l.foldl zipMin a).length = 5 := by
  induction l generalizing a with
  | nil => exact ha
  | cons r l ih =>
    exact ih _ (by rw [zipMin_len _ _ (by rw [ha, hl r (by simp)])]; exact ha) (fun x hx => hl x (by simp [hx]))
set_option maxRecDepth 100000 in
set_option maxHeartbeats 4000000 in
theorem least_any {w0 w : World} {R : HProp} (p : Nat) (rows : List (List Int)) (hok : rowsOk rows) (hne : 0 < rows.length) (h : Own w0 (StableP p rows * R) w) :
    Calls Try.prog 54 #[.pointer (some ⟨p, 0, none⟩)] w fun e w' => ∃ v', e = .returned v' ∧ Own w0 (IntSl v' (leastOf rows) * (StableP p rows * R)) w' := by
  obtain ⟨rb, off, cap, rs, rfl, ho⟩ := h.stable_open hne
  have hlr : 0 < rs.length := by simpa using hne
  have hf := ho.stable_facts
  have hc := hf.1
  have h0c := hf.2.1 0 rs[0] (by simp [hlr])
  have hcapm : cap ≤ 9223372036854775807 := by have := hf.2.2.2.2; simpa [maxLen] using this
  have hcapl : rs.length ≤ cap := hf.2.2.2.1
  have hr5 : ∀ r ∈ rs.map (·.2), r.length = 5 := fun r hr => (vecErr0 (hok r hr)).1
  have h05 : rs[0].2.length = 5 := hr5 _ (List.mem_map.2 ⟨rs[0], List.getElem_mem hlr, rfl⟩)
  have hri := ho.stable_row 0 hlr (vecErr_I64 (hok _ (List.mem_map.2 ⟨rs[0], List.getElem_mem hlr, rfl⟩)))
  rw [Nat.add_zero] at h0c
  have hle0 : leastOf (rs.map (·.2)) = (rs.map (·.2)).foldl zipMin rs[0].2 := by
    unfold leastOf
    congr 1
    cases rs with
    | nil => simp at hlr
    | cons x r => rfl
  have HO := Lib.hid ho; have HOK := Lib.hid hok; have HRI := Lib.hid hri; have H5 := Lib.hid hr5; have HE := Lib.hid hle0; have H05 := Lib.hid h05
  clear h ho hok hf hri hr5 hle0 h05
  go_enter Try.func54, Try.ntmps54
  go_wp2_with fail
  refine (cloneInts_any HO.out _ _ HRI.out (by have := H05.out; omega)).mono ?_
  rintro e w1 ⟨vo, rfl, ho⟩
  have hc1 := (ho.drop.stable_facts).1
  have HW := Lib.hid ho
  clear ho
  go_wp2_with fail
  go_loopw [20] (fun i wr => ∃ j : Nat, j ≤ rs.length ∧ i = .int .i64 j ∧ Hid (Own w0 (IntSl vo (((rs.map (·.2)).take j).foldl zipMin rs[0].2) * (StableO p rb off cap rs * R)) wr)) (fun i _ => rs.length - (intOf i).toNat)
  case atStart => exact ⟨0, Nat.zero_le _, rfl, HW.out⟩
  case round =>
    obtain ⟨j, hj, rfl, hp⟩ := hrel
    by_cases hlt : j < rs.length
    · have hcj := hp.out.drop.stable_facts.2.1 j rs[j] (by simp [hlt])
      have hrj := hp.out.drop.stable_row j hlt (vecErr_I64 (HOK.out _ (List.mem_map.2 ⟨rs[j], List.getElem_mem hlt, rfl⟩)))
      have hj5 : rs[j].2.length = 5 := H5.out _ (List.mem_map.2 ⟨rs[j], List.getElem_mem hlt, rfl⟩)
      obtain ⟨ja, jcap, hjv, hj1, hj2⟩ := hrj.shape
      have HRJ := Lib.hid (fun w' (hw' : Own w0 (StableO p rb off cap rs * R) w') => hw'.stable_row j hlt (vecErr_I64 (HOK.out _ (List.mem_map.2 ⟨rs[j], List.getElem_mem hlt, rfl⟩))))
      obtain ⟨prev, hprev⟩ : ∃ prev, prev = ((rs.map (·.2)).take j).foldl zipMin rs[0].2 := ⟨_, rfl⟩
      have hp5 : prev.length = 5 := by rw [hprev]; exact foldl_len _ _ H05.out fun r hr => H5.out r (List.mem_of_mem_take hr)
      have hnext : ((rs.map (·.2)).take (j + 1)).foldl zipMin rs[0].2 = zipMin prev rs[j].2 := by
        rw [hprev, List.take_succ_eq_append_getElem (by simpa using hlt), List.foldl_append]; simp
      rw [← hprev] at hp
      have HP := Lib.hid hp.out; have HN := Lib.hid hnext; have HP5 := Lib.hid hp5; have HPV := Lib.hid hprev; have HJ5 := Lib.hid hj5
      obtain ⟨rjl, hrjl⟩ : ∃ rjl, rjl = rs[j].2 := ⟨_, rfl⟩
      rw [hjv] at hcj
      rw [← hrjl] at hcj hj1
      have hl5 : rjl.length ≤ 5 := by rw [hrjl]; omega
      have HRL := Lib.hid hrjl; have HJV := Lib.hid hjv
      clear hp hrj hnext hp5 hprev hj5 hjv hrjl
      obtain ⟨wo, hwo⟩ : ∃ wo : World, wo = wr := ⟨_, rfl⟩
      go_wp2_with fail
      go_loopw [26] (fun i wq => ∃ k : Nat, ∃ cur : List Int, k ≤ rjl.length ∧ i = .int .i64 k ∧ Hid (cur.length = 5 ∧ (∀ q (h : q < cur.length) (h' : q < prev.length) (h'' : q < rjl.length), cur[q] = if q < k then min prev[q] rjl[q] else prev[q]) ∧ Own w0 (IntSl vo cur * (StableO p rb off cap rs * R)) wq)) (fun i _ => rjl.length - (intOf i).toNat)
      case atStart => exact ⟨0, prev, Nat.zero_le _, rfl, HP5.out, fun q h h' h'' => by simp, HP.out⟩
      case round =>
        obtain ⟨k, cur, hk, rfl, hq⟩ := hrel
        by_cases hkl : k < rjl.length
        · obtain ⟨hcl, hcur, ho⟩ := hq.out
          have hri := HRJ.out _ ho.drop
          rw [← HRL.out, HJV.out] at hri
          obtain ⟨ab, hjab, hcb⟩ := hri.at k hkl
          subst hjab
          have hkc : k < cur.length := by omega
          obtain ⟨ob, ooff, ocap, hov, ho1, ho2, hoc, hof, ho3, ho4, hos⟩ := ho.ints_at (by omega)
          have hck := hoc k hkc
          have hfk := hof (ooff + k) none
          have Hos := Lib.hid hos; have Hcur := Lib.hid hcur; have Hcl := Lib.hid hcl
          clear hq hoc hof hos hcur ho hcl hri
          subst hov
          go_wp2
          go_roundw
          case rel =>
            refine ⟨k + 1, _, by omega, by go_num, ⟨?_, fun q h h' h'' => ?_, Hos.out k _ hkc⟩⟩
            · rw [List.length_set]; exact Hcl.out
            · have hp5 := HP5.out
              have hck' := Hcur.out k hkc (by omega) hkl
              rw [if_neg (by omega)] at hck'
              by_cases hkj : k = q
              · subst hkj
                rw [List.getElem_set_self, if_pos (show k < k + 1 by omega), hck', Int.min_def]
                split <;> split <;> omega
              · rw [List.getElem_set_ne hkj, Hcur.out q (by simpa using h) h' h'']
                by_cases hj : q < k
                · rw [if_pos hj, if_pos (by omega)]
                · rw [if_neg hj, if_neg (by omega)]
          case measure => simp [intOf]; omega
        · obtain ⟨hcl, hcur, ho⟩ := hq.out
          have e : cur = zipMin prev rs[j].2 := by
            have h1 := HP5.out; have h2 := HJ5.out; have h3 := HRL.out
            rw [← h3] at h2 ⊢
            refine List.ext_getElem (by rw [zipMin_len _ _ (by omega)]; omega) fun q hq1 hq2 => ?_
            rw [hcur q hq1 (by omega) (by omega), if_pos (by omega), zipMin_get prev rjl q (by omega) (by omega)]
          have HF := Lib.hid (e ▸ ho)
          clear hq hcl hcur ho e
          go_wp2
          go_roundw
          case rel => exact ⟨j + 1, by omega, by go_num, (by rw [HN.out]; exact HF.out)⟩
          case measure => simp [intOf]; omega
    · have hjn : j = rs.length := by omega
      subst hjn
      have HP := Lib.hid hp.out
      clear hp
      go_wp2
      go_ret
      refine ⟨_, rfl, ?_⟩
      have := HP.out
      rw [show rs.length = (rs.map (·.2)).length from by simp, List.take_length, ← HE.out] at this
      exact (this.perm (star_left_comm _ _ _)).stable_close.perm (star_left_comm _ _ _)
end Go.Proofs.Ytkgnjkokbiefgaa
