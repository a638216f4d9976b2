/- Contracts of package stable, the second part. -/
import Derived.Test.YtdfjbnfdknpahaaGreatDoorMRunAnswers5
import Derived.Test.YtdfjbnfdknpahaaGreatDoorMRunAnswers9
namespace Go.Proofs.YtdfjbnfdknpahaaGreatDoor
set_option linter.unusedVariables false
set_option linter.unusedSimpArgs false
open Go.RowKit
def zero5 : List Int := [0, 0, 0, 0, 0]
theorem vecErr_zero5 : vecErr zero5 = 0 := by decide
/-- The block of a new row is an owned list. -/
theorem Own.zero5 {w0 w : World} {b : Nat} {R : HProp} (h : Own w0 (blk b (.cells #[.int .i64 0, .int .i64 0, .int .i64 0, .int .i64 0, .int .i64 0] 3 (0, 0)) * R) w) : Own w0 (IntSl (.slice (some ⟨b, 0, none⟩) 5 5) Go.Proofs.YtdfjbnfdknpahaaGreatDoor.zero5 * R) w :=
  Own.sl_mk (by decide) (by unfold maxLen; decide) (by rfl) (by decide) (fun i hi => by
    match i, hi with
    | 0, _ => rfl
    | 1, _ => rfl
    | 2, _ => rfl
    | 3, _ => rfl
    | 4, _ => rfl
    | n + 5, h => simp [Go.Proofs.YtdfjbnfdknpahaaGreatDoor.zero5] at h; omega) h
end Go.Proofs.YtdfjbnfdknpahaaGreatDoor
/- Package clock, plainly: numbers and vectors of a history. -/
namespace Go.Proofs.YtdfjbnfdknpahaaGreatDoor
set_option linter.unusedVariables false
set_option linter.unusedSimpArgs false
open Go.RowKit
theorem evAt_take {h : List Ev} {k i : Nat} (hi : i < k) : evAt (h.take k) i = evAt h i := by
  unfold evAt
  simp only [List.getD_eq_getElem?_getD, List.getElem?_take]
  rw [if_pos hi]
/-- Of a word that is heard it is known where it was said. -/
theorem RightH.said {h : List Ev} (hr : RightH h) {k : Nat} (hk : k < h.length) (hw : (evAt h k).2.1 = 3) :
    ∃ i : Nat, i < k ∧ saidAt (h.take k) (evAt h k).2.2 = (i : Int) ∧ (evAt h i).2.1 = 2 ∧ (evAt h i).2.2 = (evAt h k).2.2 ∧ (evAt h i).1 ≠ (evAt h k).1 ∧ (∀ j, j < i → saysB (evAt h k).2.2 (evAt h j) = false) ∧ evAt h k ∉ h.take k := by
  have he := hr.2 k hk
  rw [← evAt_get hk] at he
  obtain ⟨e, hee⟩ : ∃ e, e = evAt h k := ⟨_, rfl⟩
  rw [← hee] at he hw ⊢
  unfold evErr at he
  split at he
  · cases he
  split at he
  · cases he
  rename_i h2
  split at he
  · cases he
  rename_i h3
  split at he
  · cases he
  rename_i h4
  have hlen : (h.take k).length = k := by simp; omega
  rcases whereI_cases (saysB e.2.2) (h.take k) with ⟨h1, _⟩ | ⟨i, hi, h1, h5, h6⟩
  · exact absurd ⟨hw, by show saidAt (h.take k) e.2.2 < 0; unfold saidAt; omega⟩ h3
  · have hik : i < k := by omega
    have hs : saidAt (h.take k) e.2.2 = (i : Int) := h1
    rw [hs] at h4
    have hev : (h.take k)[i] = evAt h i := by rw [← evAt_take hik, evAt_get hi]
    rw [hev] at h5
    unfold saysB at h5
    simp only [Bool.and_eq_true, decide_eq_true_eq] at h5
    refine ⟨i, hik, hs, h5.1, h5.2, fun hh => h4 ⟨hw, ?_⟩, fun j hj => ?_, fun hin => h2 (.inr ⟨hw, hin⟩)⟩
    · rw [Int.toNat_natCast, evAt_take hik]; exact hh
    · have := h6 j hj
      rw [show (h.take k)[j]'(by omega) = evAt h j by rw [← evAt_take (show j < k by omega), evAt_get (by omega)]] at this
      exact this
theorem getD_bound {l : List Int} {a b : Int} (h : ∀ x ∈ l, a ≤ x ∧ x ≤ b) (ha : a ≤ 0) (hb : 0 ≤ b) (i : Nat) : a ≤ l.getD i 0 ∧ l.getD i 0 ≤ b := by
  rw [List.getD_eq_getElem?_getD]
  by_cases hi : i < l.length
  · rw [List.getElem?_eq_getElem hi]; exact h _ (List.getElem_mem hi)
  · rw [List.getElem?_eq_none (by omega)]; exact ⟨ha, hb⟩
def vec0 (s : List (List Int) × List (List Int)) (w : Nat) : List Int := if s.2.getD w [] = [] then zero5 else s.2.getD w []
def vec1 (h : List Ev) (k : Nat) (s : List (List Int) × List (List Int)) : List Int :=
  if (evAt h k).2.1 = 3 then zipMax (vec0 s (evAt h k).1.toNat) (s.1.getD (saidAt (h.take k) (evAt h k).2.2).toNat []) else vec0 s (evAt h k).1.toNat
def vecNext (h : List Ev) (k : Nat) (s : List (List Int) × List (List Int)) : List Int :=
  (vec1 h k s).set (evAt h k).1.toNat ((vec1 h k s).getD (evAt h k).1.toNat 0 + 1)
def vecState (h : List Ev) : Nat → List (List Int) × List (List Int)
  | 0 => ([], [[], [], [], [], []])
  | k + 1 => ((vecState h k).1 ++ [vecNext h k (vecState h k)], (vecState h k).2.set (evAt h k).1.toNat (vecNext h k (vecState h k)))
def vecsR (h : List Ev) : List (List Int) := (vecState h h.length).1
theorem vecState_len (h : List Ev) : ∀ k, (vecState h k).1.length = k ∧ (vecState h k).2.length = 5
  | 0 => ⟨rfl, rfl⟩
  | k + 1 => by
    have := vecState_len h k
    simp [vecState, this]
/-- A vector of a history of k events. -/
def vecIn (k : Nat) (v : List Int) : Prop := v.length = 5 ∧ ∀ x ∈ v, 0 ≤ x ∧ x ≤ (k : Int)
theorem vecIn.up {k : Nat} {v : List Int} (h : vecIn k v) : vecIn (k + 1) v := ⟨h.1, fun x hx => by have := h.2 x hx; omega⟩
theorem zipMax_in {k : Nat} {a b : List Int} (ha : vecIn k a) (hb : vecIn k b) : vecIn k (zipMax a b) := by
  have hl := zipMax_len a b (by rw [ha.1, hb.1])
  refine ⟨by rw [hl, ha.1], fun x hx => ?_⟩
  obtain ⟨i, hi, rfl⟩ := List.getElem_of_mem hx
  rw [zipMax_get a b i (by omega) (by rw [hb.1, ← ha.1]; omega)]
  have h1 := ha.2 _ (List.getElem_mem (show i < a.length by omega))
  have h2 := hb.2 _ (List.getElem_mem (show i < b.length by rw [hb.1, ← ha.1]; omega))
  rw [Int.max_def]; split <;> omega
theorem zero5_in (k : Nat) : vecIn k zero5 := ⟨rfl, fun x hx => by simp [zero5] at hx; subst hx; omega⟩
theorem vec_getD {k : Nat} {l : List (List Int)} (h : ∀ v ∈ l, v = [] ∨ vecIn k v) (i : Nat) : l.getD i [] = [] ∨ vecIn k (l.getD i []) := by
  rw [List.getD_eq_getElem?_getD]
  by_cases hi : i < l.length
  · rw [List.getElem?_eq_getElem hi]; exact h _ (List.getElem_mem hi)
  · rw [List.getElem?_eq_none (by omega)]; exact .inl rfl
theorem vec0_in {k : Nat} {s : List (List Int) × List (List Int)} (h : ∀ v ∈ s.2, v = [] ∨ vecIn k v) (w : Nat) : vecIn k (vec0 s w) := by
  unfold vec0
  split
  · exact zero5_in k
  · rename_i h1
    rcases vec_getD h w with h2 | h2
    · exact absurd h2 h1
    · exact h2
theorem vec1_in {h : List Ev} (hr : RightH h) {k : Nat} (hk : k < h.length) {s : List (List Int) × List (List Int)} (hl : s.1.length = k) (h1 : ∀ v ∈ s.1, vecIn k v) (h2 : ∀ v ∈ s.2, v = [] ∨ vecIn k v) : vecIn k (vec1 h k s) := by
  unfold vec1
  split
  · rename_i hw
    obtain ⟨i, hi, hs, _⟩ := hr.said hk hw
    rw [hs, Int.toNat_natCast]
    refine zipMax_in (vec0_in h2 _) ?_
    rw [List.getD_eq_getElem?_getD, List.getElem?_eq_getElem (by omega)]
    exact h1 _ (List.getElem_mem _)
  · exact vec0_in h2 _
theorem vecNext_in {h : List Ev} (hr : RightH h) {k : Nat} (hk : k < h.length) {s : List (List Int) × List (List Int)} (hl : s.1.length = k) (h1 : ∀ v ∈ s.1, vecIn k v) (h2 : ∀ v ∈ s.2, v = [] ∨ vecIn k v) : vecIn (k + 1) (vecNext h k s) := by
  have hv := vec1_in hr hk hl h1 h2
  unfold vecNext
  refine ⟨by rw [List.length_set]; exact hv.1, fun x hx => ?_⟩
  have hb := getD_bound hv.2 (Int.le_refl 0) (Int.natCast_nonneg k) (evAt h k).1.toNat
  rcases List.mem_or_eq_of_mem_set hx with hx | hx
  · have := hv.2 x hx; omega
  · rw [hx]; omega
theorem vecState_in {h : List Ev} (hr : RightH h) : ∀ k, k ≤ h.length → (∀ v ∈ (vecState h k).1, vecIn k v) ∧ (∀ v ∈ (vecState h k).2, v = [] ∨ vecIn k v)
  | 0, _ => ⟨fun v hv => by simp [vecState] at hv, fun v hv => by simp [vecState] at hv; exact .inl hv⟩
  | k + 1, hk => by
    obtain ⟨h1, h2⟩ := vecState_in hr k (by omega)
    have hn := vecNext_in hr (show k < h.length by omega) (vecState_len h k).1 h1 h2
    simp only [vecState]
    refine ⟨fun v hv => ?_, fun v hv => ?_⟩
    · rcases List.mem_append.1 hv with hv | hv
      · exact (h1 v hv).up
      · rw [List.mem_singleton.1 hv]; exact hn
    · rcases List.mem_or_eq_of_mem_set hv with hv | hv
      · rcases h2 v hv with h3 | h3
        · exact .inl h3
        · exact .inr h3.up
      · rw [hv]; exact .inr hn
end Go.Proofs.YtdfjbnfdknpahaaGreatDoor
/- Contracts of package faces, continued: pairs of words. -/
namespace Go.Proofs.YtdfjbnfdknpahaaGreatDoor
set_option linter.unusedVariables false
set_option linter.unusedSimpArgs false
open Go.RowKit
def skipB (h : List Ev) (k i : Nat) : Bool := decide ((evAt h i).2.1 ≠ 2) || (decide ((evAt h k).2.1 ≠ 2) || (!bef h k i || aheadB h (evAt h i).2.2 (evAt h k).2.2))
def fifoOk (h : List Ev) (k i : Nat) : Bool := skipB h k i || decide ((evAt h i).1 ≠ (evAt h k).1)
def upTo (p : Nat → Bool) (n : Nat) : Bool := (List.range n).all p
theorem upTo_zero (p : Nat → Bool) : upTo p 0 = true := rfl
theorem upTo_step (p : Nat → Bool) (n : Nat) : upTo p (n + 1) = (upTo p n && p n) := by unfold upTo; rw [List.range_succ, List.all_append]; simp
theorem upTo_iff (p : Nat → Bool) (n : Nat) : upTo p n = true ↔ ∀ i, i < n → p i = true := by unfold upTo; simp
def FaO (b : Nat) (f c t : Bool) : HProp := blk b (.cells #[.bool f, .bool c, .bool t] 87 (0, 0))
theorem Own.fa {w0 w : World} {b : Nat} {f c t : Bool} {R : HProp} (h : Own w0 (FaO b f c t * R) w) : w.cell? ⟨b, 0, none⟩ = some (.bool f) ∧ w.cell? ⟨b, 1, none⟩ = some (.bool c) ∧ w.cell? ⟨b, 2, none⟩ = some (.bool t) ∧ ∀ i s, w.frozen? ⟨b, i, s⟩ = false :=
  ⟨(Own.cell h 0).trans rfl, (Own.cell h 1).trans rfl, (Own.cell h 2).trans rfl, fun i s => Own.free h i s⟩
theorem Own.fa0 {w0 w : World} {b : Nat} {f c t : Bool} {R : HProp} (x : Bool) (h : Own w0 (FaO b f c t * R) w) : Own w0 (FaO b x c t * R) (w.setCell ⟨b, 0, none⟩ (.bool x)) := Own.setCell (i := 0) (v := .bool x) h
theorem Own.fa1 {w0 w : World} {b : Nat} {f c t : Bool} {R : HProp} (x : Bool) (h : Own w0 (FaO b f c t * R) w) : Own w0 (FaO b f x t * R) (w.setCell ⟨b, 1, none⟩ (.bool x)) := Own.setCell (i := 1) (v := .bool x) h
theorem Own.fa2 {w0 w : World} {b : Nat} {f c t : Bool} {R : HProp} (x : Bool) (h : Own w0 (FaO b f c t * R) w) : Own w0 (FaO b f c x * R) (w.setCell ⟨b, 2, none⟩ (.bool x)) := Own.setCell (i := 2) (v := .bool x) h
noncomputable def faPairs_code : Code := ((Tryz.f87.body.bind (findBlock 2)).getD .skip)
set_option maxRecDepth 1000000 in
set_option maxHeartbeats 4000000 in
theorem faPairs {Q : Exit → Act → World → Prop} {u1 u2 u3 u4 u9 u10 u11 u12 u13 u14 u15 u16 u17 u18 u19 u20 u21 u22 u23 u24 u25 u26 u27 u28 u29 u30 u34 u35 u36 u37 u38 u39 u40 u41 u42 u43 u44 u45 u46 u47 u48 u49 u50 u51 u52 u53 u54 u55 u56 u57 u58 u59 u60 u61 u62 u63 u64 u65 u66 u67 u68 u69 u70 u71 u72 u73 u74 u75 u76 u77 u78 u79 u80 u81 u82 u83 u84 u85 u86 u87 u88 u89 u90 u91 u92 u93 u94 u95 u96 u97 u98 : Value} {w1 : World} (w : World) (R : HProp) (fb rb n k eb hcap : Nat) (had : Option Addr) (hs : List Ev) (x : Ev) (rs : List (Value × List Bool)) (f c t : Bool) (hk : k < n) (hn : n ≤ 60) (hc1 : n ≤ hcap) (hc2 : hcap ≤ 9223372036854775807) (HLN : Hid (hs.length = n)) (HX : Hid (x = evAt hs k)) (HV : Hid (ReadsE w R (.slice had n hcap) hs)) (HM : Hid (rs.map (·.2) = pastsR hs n)) (HP : Hid (Own w (FaO fb f c t * (EvO eb x * (BTab rb n rs * R))) w1))
    (hK : ∀ (v9 v10 v33 v34 v35 v36 v37 v38 v39 v40 v41 v42 v43 v44 v45 v46 v47 v48 v49 v50 v51 v52 v53 v54 v55 v56 v57 v58 v59 v60 v61 v62 v63 v64 v65 v66 v67 v68 v69 v70 v71 v72 v73 v74 v75 : Value) (wx : World), (Own w (FaO fb (f && upTo (fifoOk hs k) k) (c && upTo (skipB hs k) k) t * (EvO eb x * (BTab rb n rs * R))) wx) → Q .normal ⟨List.toArray ((.slice had n hcap) :: u1 :: u2 :: u3 :: u4 :: (.pointer (some ⟨fb, 0, none⟩)) :: (.slice (some ⟨rb, 0, none⟩) n n) :: (.int .i64 (k : Int)) :: (.pointer (some ⟨eb, 0, none⟩)) :: v9 :: v10 :: u11 :: u12 :: u13 :: u14 :: u15 :: u16 :: u17 :: u18 :: u19 :: u20 :: u21 :: u22 :: u23 :: u24 :: u25 :: u26 :: u27 :: u28 :: u29 :: u30 :: (.slice had k hcap) :: (.int .i64 (k : Int)) :: v33 :: v34 :: v35 :: v36 :: v37 :: v38 :: v39 :: v40 :: v41 :: v42 :: v43 :: v44 :: v45 :: v46 :: v47 :: v48 :: v49 :: v50 :: v51 :: v52 :: v53 :: v54 :: v55 :: v56 :: v57 :: v58 :: v59 :: v60 :: v61 :: v62 :: v63 :: v64 :: v65 :: v66 :: v67 :: v68 :: v69 :: v70 :: v71 :: v72 :: v73 :: v74 :: v75 :: u76 :: u77 :: u78 :: u79 :: u80 :: u81 :: u82 :: u83 :: u84 :: u85 :: u86 :: u87 :: u88 :: u89 :: u90 :: u91 :: u92 :: u93 :: u94 :: u95 :: u96 :: u97 :: u98 :: []), []⟩ wx) :
    Code.wp Tryz.prog faPairs_code Q ⟨List.toArray ((.slice had n hcap) :: u1 :: u2 :: u3 :: u4 :: (.pointer (some ⟨fb, 0, none⟩)) :: (.slice (some ⟨rb, 0, none⟩) n n) :: (.int .i64 (k : Int)) :: (.pointer (some ⟨eb, 0, none⟩)) :: u9 :: u10 :: u11 :: u12 :: u13 :: u14 :: u15 :: u16 :: u17 :: u18 :: u19 :: u20 :: u21 :: u22 :: u23 :: u24 :: u25 :: u26 :: u27 :: u28 :: u29 :: u30 :: (.slice had k hcap) :: (.int .i64 (k : Int)) :: (.int .i64 0) :: u34 :: u35 :: u36 :: u37 :: u38 :: u39 :: u40 :: u41 :: u42 :: u43 :: u44 :: u45 :: u46 :: u47 :: u48 :: u49 :: u50 :: u51 :: u52 :: u53 :: u54 :: u55 :: u56 :: u57 :: u58 :: u59 :: u60 :: u61 :: u62 :: u63 :: u64 :: u65 :: u66 :: u67 :: u68 :: u69 :: u70 :: u71 :: u72 :: u73 :: u74 :: u75 :: u76 :: u77 :: u78 :: u79 :: u80 :: u81 :: u82 :: u83 :: u84 :: u85 :: u86 :: u87 :: u88 :: u89 :: u90 :: u91 :: u92 :: u93 :: u94 :: u95 :: u96 :: u97 :: u98 :: []), []⟩ w1 := by
  conv => arg 2; whnf
  have HK := Lib.hid hK
  clear hK
  have HAH := Lib.hid (fun (R' : HProp) (w1 : World) (a b : Int) (ho : Own w (R' * R) w1) => ahead_any (.slice had n hcap) hs a b ho HV.out.more (by rw [HLN.out]; exact hn))
  go_wp2_with fail
  go_loopw [33] (fun iv wr => ∃ i : Nat, i ≤ k ∧ iv = .int .i64 i ∧ Hid (Own w (FaO fb (f && upTo (fifoOk hs k) i) (c && upTo (skipB hs k) i) t * (EvO eb x * (BTab rb n rs * R))) wr)) (fun iv _ => k - (intOf iv).toNat)
  case atStart => exact ⟨0, Nat.zero_le _, rfl, Lib.hid (by rw [upTo_zero, upTo_zero, Bool.and_true, Bool.and_true]; exact HP.out)⟩
  case round =>
    clear HP
    obtain ⟨i, hi, rfl, HO⟩ := hrel
    by_cases hlt : i < k
    rotate_left
    · have hik : i = k := by omega
      subst hik
      go_wp2_with fail
      apply HK.out
      exact HO.out
    have hlt2 : i < (hs.take k).length := by simp; rw [HLN.out]; omega
    obtain ⟨aa, pb, po, ps, rfl, hea, hcs, _⟩ := (HV.out.front (show k ≤ n by omega)).more.more.more.at HO.out i hlt2
    rw [evAt_take hlt] at hcs
    obtain ⟨p, hp⟩ : ∃ p, p = evAt hs i := ⟨_, rfl⟩
    rw [← hp] at hcs
    obtain ⟨c0, c1, c2⟩ := hcs _ HO.out
    have hS : skipB hs k i = (decide (p.2.1 ≠ 2) || (decide (x.2.1 ≠ 2) || (!bef hs k i || aheadB hs p.2.2 x.2.2))) := by rw [hp, HX.out]; rfl
    have hF : fifoOk hs k i = (skipB hs k i || decide (p.1 ≠ x.1)) := by rw [hp, HX.out]; rfl
    have hu1 := upTo_step (fifoOk hs k) i
    have hu2 := upTo_step (skipB hs k) i
    obtain ⟨S, hSS⟩ : ∃ S, S = skipB hs k i := ⟨_, rfl⟩
    obtain ⟨f', hf'⟩ : ∃ f', f' = (f && upTo (fifoOk hs k) i) := ⟨_, rfl⟩
    obtain ⟨c', hc'⟩ : ∃ c', c' = (c && upTo (skipB hs k) i) := ⟨_, rfl⟩
    have hun1 : (f && upTo (fifoOk hs k) (i + 1)) = (f' && fifoOk hs k i) := by rw [hu1, hf', Bool.and_assoc]
    have hun2 : (c && upTo (skipB hs k) (i + 1)) = (c' && S) := by rw [hu2, hc', Bool.and_assoc, hSS]
    rw [hF, ← hSS] at hun1
    rw [← hSS] at hS
    have ho := HO.out
    rw [← hf', ← hc'] at ho
    -- the row of k
    have hrow : (pastsR hs n)[k]? = some ((pastsR hs n).getD k []) := by
      rw [List.getD_eq_getElem?_getD, List.getElem?_eq_getElem (by rw [pastsR_len]; omega)]; rfl
    obtain ⟨cv, hcv⟩ := map_at HM.out hrow
    obtain ⟨r, hr⟩ : ∃ r, r = (pastsR hs n).getD k [] := ⟨_, rfl⟩
    have hrl : r.length = n := by
      rw [hr, pastsR_row hs n _ (by rw [List.getD_eq_getElem?_getD, List.getElem?_eq_getElem (by rw [pastsR_len]; omega)]; exact List.getElem_mem _)]
      exact HLN.out
    rw [← hr] at hcv
    have hbr : r[i]? = some (bef hs k i) := by unfold bef; rw [HLN.out, ← hr, List.getD_eq_getElem?_getD, List.getElem?_eq_getElem (by omega)]; rfl
    obtain ⟨y, hy⟩ : ∃ y, y = bef hs k i := ⟨_, rfl⟩
    rw [← hy] at hbr hS
    obtain ⟨p1, p2, p3⟩ := p
    obtain ⟨x1, x2, x3⟩ := x
    simp only at c0 c1 c2 hS hun1
    obtain ⟨qb, hb_qb⟩ : ∃ zz_, zz_ = (wr).heap.size := ⟨_, rfl⟩
    obtain ⟨w2, hw_w2⟩ : ∃ zz_, zz_ = (wr).alloc (.cells #[.int .i64 p1, .int .i64 p2, .int .i64 p3] 112 (0, 0)) := ⟨_, rfl⟩
    have h_HO1 := (ho).alloc (.cells #[.int .i64 p1, .int .i64 p2, .int .i64 p3] 112 (0, 0))
    rw [← hb_qb, ← hw_w2] at h_HO1
    have HO1 := Lib.hid h_HO1
    clear h_HO1
    have HE1 : Hid (Own w (EvO qb (p1, p2, p3) * (FaO fb f' c' t * (EvO eb (x1, x2, x3) * (BTab rb n rs * R)))) w2) := HO1
    clear HO1
    have HB1 : Hid (Own w (BTab rb n rs * (EvO qb (p1, p2, p3) * (FaO fb f' c' t * (EvO eb (x1, x2, x3) * R)))) w2) := Lib.hid (HE1.out.perm (by ac_rfl))
    obtain ⟨d0, d1, d2⟩ := HE1.out.ev
    obtain ⟨e0, e1, e2⟩ := (HE1.out.perm (show _ = EvO eb (x1, x2, x3) * (EvO qb (p1, p2, p3) * (FaO fb f' c' t * (BTab rb n rs * R))) by ac_rfl)).ev
    simp only at d0 d1 d2 e0 e1 e2
    obtain ⟨cb, co, ccap, rfl⟩ := HB1.out.bt_shape hcv (by omega)
    obtain ⟨_, g2, g3, _, g5, _⟩ := HB1.out.bt_put hcv rfl (by omega)
    have b1 := HB1.out.bt_cell hcv
    have b2 := g5 i _ hbr
    rw [hrl] at b1 g2
    have i0 : (0 : Int) ≤ (i : Int) := by omega
    have ik : (i : Int) < (k : Int) := by omega
    have i1 : (i : Int) < (n : Int) := by omega
    have k0 : (0 : Int) ≤ (k : Int) := by omega
    have k1 : (k : Int) < (n : Int) := by omega
    have HHP := Lib.hid hp
    have HCS := Lib.hid hcs; have HS := Lib.hid hS; have HF := Lib.hid hF; have HU1 := Lib.hid hu1; have HU2 := Lib.hid hu2; have HSS := Lib.hid hSS; have HF' := Lib.hid hf'; have HC' := Lib.hid hc'; have HUN1 := Lib.hid hun1; have HUN2 := Lib.hid hun2; have HROW := Lib.hid hrow; have HCV := Lib.hid hcv; have HR := Lib.hid hr; have HRL := Lib.hid hrl; have HBR := Lib.hid hbr; have HY := Lib.hid hy; have HO := Lib.hid ho; have G5 := Lib.hid g5
    clear hcs hS hF hu1 hu2 hSS hf' hc' hun1 hun2 hrow hcv hr hrl hbr hy ho g5
    clear hp
    go_upto_region 12 with fail
    rw [← hb_qb, ← hw_w2]
    clear hb_qb hw_w2
    clear c0 c1 c2
    go_cut [63] from 38 to 38 (fun tv wx => tv = .bool S ∧ Own w (EvO qb (p1, p2, p3) * (FaO fb f' c' t * (EvO eb (x1, x2, x3) * (BTab rb n rs * R)))) wx)
    case first =>
      by_cases a1 : p2 = 2
      rotate_left
      · have t1 : (p2 != 2) = true := by simpa using a1
        have hs1 : S = true := by rw [HS.out]; simp [a1]
        have A1 := Lib.hid a1; have HS1 := Lib.hid hs1
        clear a1 hs1
        go_wp2_with fail
        go_meet
        exact ⟨by rw [HS1.out], HE1.out⟩
      have t1 : (p2 != 2) = false := by simpa using a1
      by_cases a2 : x2 = 2
      rotate_left
      · have t2 : (x2 != 2) = true := by simpa using a2
        have hs1 : S = true := by rw [HS.out]; simp [a2]
        have A1 := Lib.hid a1; have A2 := Lib.hid a2; have HS1 := Lib.hid hs1
        clear a1 a2 hs1
        go_wp2_with fail
        go_meet
        exact ⟨by rw [HS1.out], HE1.out⟩
      have t2 : (x2 != 2) = false := by simpa using a2
      cases y
      · have hs1 : S = true := by rw [HS.out]; simp
        have A1 := Lib.hid a1; have A2 := Lib.hid a2; have HS1 := Lib.hid hs1
        clear a1 a2 hs1
        go_wp2_with fail
        go_meet
        exact ⟨by rw [HS1.out], HE1.out⟩
      · have hs1 : S = aheadB hs p3 x3 := by rw [HS.out]; simp [a1, a2]
        have A1 := Lib.hid a1; have A2 := Lib.hid a2; have HS1 := Lib.hid hs1
        clear a1 a2 hs1
        go_wp2_with fail
        refine (HAH.out (EvO qb (p1, p2, p3) * (FaO fb f' c' t * (EvO eb (x1, x2, x3) * BTab rb n rs))) w2 p3 x3 (HE1.out.perm (by ac_rfl))).mono ?_
        rintro e w3 ⟨rfl, ho⟩
        rw [← HS1.out]
        have HO3 : Hid (Own w (EvO qb (p1, p2, p3) * (FaO fb f' c' t * (EvO eb (x1, x2, x3) * (BTab rb n rs * R)))) w3) := Lib.hid (ho.perm (by ac_rfl))
        clear ho
        go_wp2_with fail
        go_meet
        exact ⟨rfl, HO3.out⟩
    case rest =>
    obtain ⟨rfl, ho⟩ := hcut
    clear HE1 HB1 d0 d1 d2 e0 e1 e2 b1 b2
    cases S
    rotate_left
    · have HN2 : Hid (Own w (FaO fb (f && upTo (fifoOk hs k) (i + 1)) (c && upTo (skipB hs k) (i + 1)) t * (EvO eb (x1, x2, x3) * (BTab rb n rs * R))) wc) := Lib.hid (by rw [HUN1.out, HUN2.out, Bool.true_or, Bool.and_true, Bool.and_true]; exact ho.drop)
      clear ho
      go_wp2_with fail
      go_roundw
      case rel => exact ⟨i + 1, by omega, by go_num, HN2⟩
      case measure => simp [intOf]; omega
    · have hf : Own w (FaO fb f' c' t * (EvO qb (p1, p2, p3) * (EvO eb (x1, x2, x3) * (BTab rb n rs * R)))) wc := ho.perm (by ac_rfl)
      obtain ⟨g0, g1, _, g4⟩ := hf.fa
      have hf1 := hf.fa1 false
      obtain ⟨wd, hwd⟩ : ∃ wd, wd = wc.setCell ⟨fb, 1, none⟩ (.bool false) := ⟨_, rfl⟩
      rw [← hwd] at hf1
      have HF1 := Lib.hid hf1
      clear hf1 ho hf
      go_upto_region 14 with fail
      rw [← hwd]
      clear hwd g0 g1 g4
      obtain ⟨g0, _, _, g4⟩ := HF1.out.fa
      obtain ⟨d0, _, _⟩ := (HF1.out.perm (star_left_comm _ _ _)).ev
      obtain ⟨e0, _, _⟩ := (HF1.out.perm (show _ = EvO eb (x1, x2, x3) * (FaO fb f' false t * (EvO qb (p1, p2, p3) * (BTab rb n rs * R))) by ac_rfl)).ev
      simp only at d0 e0
      obtain ⟨z, hz⟩ : ∃ z, z = (f' && (p1 != x1)) := ⟨_, rfl⟩
      have hst := HF1.out.fa0 z
      have HN2 : Hid (Own w (FaO fb (f && upTo (fifoOk hs k) (i + 1)) (c && upTo (skipB hs k) (i + 1)) t * (EvO eb (x1, x2, x3) * (BTab rb n rs * R))) (wd.setCell ⟨fb, 0, none⟩ (.bool z))) := Lib.hid (by
        rw [HUN1.out, HUN2.out, Bool.and_false, Bool.false_or, show (f' && decide (p1 ≠ x1)) = z by rw [hz]; by_cases a : p1 = x1 <;> simp [a]]
        exact (hst.perm (show _ = EvO qb (p1, p2, p3) * (FaO fb z false t * (EvO eb (x1, x2, x3) * (BTab rb n rs * R))) by ac_rfl)).drop)
      clear hst
      cases f'
      · rw [Bool.false_and] at hz
        subst hz
        go_wp2_with fail
        go_roundw
        case rel => exact ⟨i + 1, by omega, by go_num, HN2⟩
        case measure => simp [intOf]; omega
      · rw [Bool.true_and] at hz
        subst hz
        go_wp2_with fail
        go_roundw
        case rel => exact ⟨i + 1, by omega, by go_num, HN2⟩
        case measure => simp [intOf]; omega
end Go.Proofs.YtdfjbnfdknpahaaGreatDoor
/- Contracts of package faces, continued: faces of a history. -/
namespace Go.Proofs.YtdfjbnfdknpahaaGreatDoor
set_option linter.unusedVariables false
set_option linter.unusedSimpArgs false
open Go.RowKit
def alikeAt (h : List Ev) (a b : Nat) : Bool := alikeB (heardL h a) (heardL h b)
def totRow (h : List Ev) (a : Nat) : Bool := upTo (alikeAt h a) a
def totalB (h : List Ev) : Bool := upTo (totRow h) 5
def causalB (h : List Ev) : Bool := upTo (fun k => upTo (skipB h k) k) h.length
def fifoB (h : List Ev) : Bool := upTo (fun k => upTo (fifoOk h k) k) h.length
noncomputable def faTotal_code : Code := ((Tryz.f87.body.bind (findBlock 4)).getD .skip)
set_option maxRecDepth 1000000 in
set_option maxHeartbeats 4000000 in
theorem faTotal {Q : Exit → Act → World → Prop} {u1 u2 u3 u4 u6 u7 u8 u9 u10 u11 u12 u13 u14 u15 u16 u17 u18 u19 u20 u21 u22 u23 u24 u25 u26 u27 u28 u29 u30 u31 u32 u33 u34 u35 u36 u37 u38 u39 u40 u41 u42 u43 u44 u45 u46 u47 u48 u49 u50 u51 u52 u53 u54 u55 u56 u57 u58 u59 u60 u61 u62 u63 u64 u65 u66 u67 u68 u69 u70 u71 u72 u73 u74 u75 u76 u78 u79 u80 u81 u82 u83 u84 u85 u86 u87 u88 u89 u90 u91 u92 u93 u94 u95 u96 u97 u98 : Value} {w1 : World} (w : World) (R : HProp) (fb n hcap : Nat) (had : Option Addr) (hs : List Ev) (f c t : Bool) (hn : n ≤ 60) (hc1 : n ≤ hcap) (hc2 : hcap ≤ 9223372036854775807) (HLN : Hid (hs.length = n)) (HV : Hid (ReadsE w R (.slice had n hcap) hs)) (HP : Hid (Own w (FaO fb f c t * R) w1))
    (hK : ∀ (v11 v12 v77 v78 v79 v80 v81 v82 v83 v84 v85 v86 v87 v88 v89 v90 v91 v92 v93 v94 v95 v96 v97 : Value) (wx : World), (Own w (FaO fb f c (t && totalB hs) * R) wx) → Q .normal ⟨List.toArray ((.slice had n hcap) :: u1 :: u2 :: u3 :: u4 :: (.pointer (some ⟨fb, 0, none⟩)) :: u6 :: u7 :: u8 :: u9 :: u10 :: v11 :: v12 :: u13 :: u14 :: u15 :: u16 :: u17 :: u18 :: u19 :: u20 :: u21 :: u22 :: u23 :: u24 :: u25 :: u26 :: u27 :: u28 :: u29 :: u30 :: u31 :: u32 :: u33 :: u34 :: u35 :: u36 :: u37 :: u38 :: u39 :: u40 :: u41 :: u42 :: u43 :: u44 :: u45 :: u46 :: u47 :: u48 :: u49 :: u50 :: u51 :: u52 :: u53 :: u54 :: u55 :: u56 :: u57 :: u58 :: u59 :: u60 :: u61 :: u62 :: u63 :: u64 :: u65 :: u66 :: u67 :: u68 :: u69 :: u70 :: u71 :: u72 :: u73 :: u74 :: u75 :: u76 :: v77 :: v78 :: v79 :: v80 :: v81 :: v82 :: v83 :: v84 :: v85 :: v86 :: v87 :: v88 :: v89 :: v90 :: v91 :: v92 :: v93 :: v94 :: v95 :: v96 :: v97 :: u98 :: []), []⟩ wx) :
    Code.wp Tryz.prog faTotal_code Q ⟨List.toArray ((.slice had n hcap) :: u1 :: u2 :: u3 :: u4 :: (.pointer (some ⟨fb, 0, none⟩)) :: u6 :: u7 :: u8 :: u9 :: u10 :: u11 :: u12 :: u13 :: u14 :: u15 :: u16 :: u17 :: u18 :: u19 :: u20 :: u21 :: u22 :: u23 :: u24 :: u25 :: u26 :: u27 :: u28 :: u29 :: u30 :: u31 :: u32 :: u33 :: u34 :: u35 :: u36 :: u37 :: u38 :: u39 :: u40 :: u41 :: u42 :: u43 :: u44 :: u45 :: u46 :: u47 :: u48 :: u49 :: u50 :: u51 :: u52 :: u53 :: u54 :: u55 :: u56 :: u57 :: u58 :: u59 :: u60 :: u61 :: u62 :: u63 :: u64 :: u65 :: u66 :: u67 :: u68 :: u69 :: u70 :: u71 :: u72 :: u73 :: u74 :: u75 :: u76 :: (.int .i64 0) :: u78 :: u79 :: u80 :: u81 :: u82 :: u83 :: u84 :: u85 :: u86 :: u87 :: u88 :: u89 :: u90 :: u91 :: u92 :: u93 :: u94 :: u95 :: u96 :: u97 :: u98 :: []), []⟩ w1 := by
  conv => arg 2; whnf
  have HK := Lib.hid hK
  clear hK
  have HHD := Lib.hid (fun (R' : HProp) (w1 : World) (who : Int) (ho : Own w (R' * R) w1) => heard_any (.slice had n hcap) hs who ho HV.out.more (by rw [HLN.out]; exact hn))
  have HGD : Hid (∀ e ∈ hs, goodEv e) := Lib.hid (HV.out _ HP.out.drop).2
  go_wp2_with fail
  go_loopw [77] (fun iv wr => ∃ a : Nat, a ≤ 5 ∧ iv = .int .i64 a ∧ Hid (Own w (FaO fb f c (t && upTo (totRow hs) a) * R) wr)) (fun iv _ => 5 - (intOf iv).toNat)
  case atStart => exact ⟨0, Nat.zero_le _, rfl, Lib.hid (by rw [upTo_zero, Bool.and_true]; exact HP.out)⟩
  case round =>
    clear HP
    obtain ⟨a, ha, rfl, HO⟩ := hrel
    by_cases hlt : a < 5
    rotate_left
    · have ha5 : a = 5 := by omega
      subst ha5
      go_wp2_with fail
      apply HK.out
      exact HO.out
    have ta : decide ((a : Int) < 5) = true := decide_eq_true (by omega)
    obtain ⟨t1, ht1⟩ : ∃ t1, t1 = (t && upTo (totRow hs) a) := ⟨_, rfl⟩
    have hnx : (t && upTo (totRow hs) (a + 1)) = (t1 && upTo (alikeAt hs a) a) := by rw [upTo_step, ht1, Bool.and_assoc]; rfl
    have ho := HO.out
    rw [← ht1] at ho
    have HO1 := Lib.hid ho
    have HT1 := Lib.hid ht1; have HNX := Lib.hid hnx
    clear ht1 hnx
    clear ho HO
    go_wp2_with fail
    go_loopw [81] (fun jv wr => ∃ b : Nat, b ≤ a ∧ jv = .int .i64 b ∧ Hid (Own w (FaO fb f c (t1 && upTo (alikeAt hs a) b) * R) wr)) (fun jv _ => a - (intOf jv).toNat)
    case atStart => exact ⟨0, Nat.zero_le _, rfl, Lib.hid (by rw [upTo_zero, Bool.and_true]; exact HO1.out)⟩
    case round =>
      clear HO1
      obtain ⟨b, hb, rfl, HO⟩ := hrel
      by_cases hlt2 : b < a
      rotate_left
      · have hba : b = a := by omega
        have ho := HO.out
        rw [hba, ← HNX.out] at ho
        have HO3 := Lib.hid ho
        clear ho
        go_wp2_with fail
        go_roundw
        case rel => exact ⟨a + 1, by omega, by go_num, HO3⟩
        case measure => simp [intOf]; omega
      obtain ⟨t2, ht2⟩ : ∃ t2, t2 = (t1 && upTo (alikeAt hs a) b) := ⟨_, rfl⟩
      have hn2 : (t1 && upTo (alikeAt hs a) (b + 1)) = (t2 && alikeAt hs a b) := by rw [upTo_step, ht2, Bool.and_assoc]
      have ho := HO.out
      rw [← ht2] at ho
      obtain ⟨g0, g1, g2, g4⟩ := ho.fa
      have HO1 := Lib.hid ho
      have HN2 := Lib.hid hn2
      clear hn2
      have HT2 := Lib.hid ht2
      clear ht2
      clear HO
      cases t2
      · have hst := HO1.out.fa2 false
        have HO3 : Hid (Own w (FaO fb f c (t1 && upTo (alikeAt hs a) (b + 1)) * R) _) := Lib.hid (by rw [HN2.out, Bool.false_and]; exact hst)
        clear hst ho
        go_wp2_with fail
        go_roundw
        case rel => exact ⟨b + 1, by omega, by go_num, HO3⟩
        case measure => simp [intOf]; omega
      · clear ho g0 g1 g4
        go_wp2_with fail
        refine (HHD.out _ _ (a : Int) HO1.out).mono ?_
        rintro e w3 ⟨v3, rfl, ho⟩
        have HO3 : Hid (Own w ((IntSl v3 (heardL hs a) * FaO fb f c true) * R) w3) := Lib.hid (ho.perm (by ac_rfl))
        clear ho
        go_wp2_with fail
        refine (HHD.out _ _ (b : Int) HO3.out).mono ?_
        rintro e w4 ⟨v4, rfl, ho⟩
        have HO4 := Lib.hid ho
        have ha4 : Reads w (IntSl v4 (heardL hs b) * ((IntSl v3 (heardL hs a) * FaO fb f c true) * R)) v3 (heardL hs a) := fun w' ho' => IntSl_reads (heardL_I64 HGD.out a) w' (ho'.perm (show _ = IntSl v3 (heardL hs a) * (IntSl v4 (heardL hs b) * (FaO fb f c true * R)) by ac_rfl))
        have hb4 : Reads w (IntSl v4 (heardL hs b) * ((IntSl v3 (heardL hs a) * FaO fb f c true) * R)) v4 (heardL hs b) := IntSl_reads (heardL_I64 HGD.out b)
        have hla := heardL_len hs a
        have hlb := heardL_len hs b
        rw [HLN.out] at hla hlb
        have HA4 := Lib.hid ha4; have HB4 := Lib.hid hb4
        clear ha4 hb4
        clear ho
        go_wp2_with fail
        refine (alike_any v3 v4 _ _ HO4.out HA4.out HB4.out (by omega) (by omega)).mono ?_
        rintro e w5 ⟨rfl, ho⟩
        have hf : Own w (FaO fb f c true * (IntSl v4 (heardL hs b) * (IntSl v3 (heardL hs a) * R))) w5 := ho.perm (by ac_rfl)
        obtain ⟨g0, g1, g2, g4⟩ := hf.fa
        obtain ⟨z, hz⟩ : ∃ z, z = alikeB (heardL hs a) (heardL hs b) := ⟨_, rfl⟩
        have hst := hf.fa2 z
        have HO5 : Hid (Own w (FaO fb f c (t1 && upTo (alikeAt hs a) (b + 1)) * R) (w5.setCell ⟨fb, 2, none⟩ (.bool z))) := Lib.hid (by
          rw [HN2.out, Bool.true_and, show alikeAt hs a b = z from hz.symm]
          exact (hst.perm (show _ = IntSl v4 (heardL hs b) * (IntSl v3 (heardL hs a) * (FaO fb f c z * R)) by ac_rfl)).drop.drop)
        rw [← hz]
        have HZ := Lib.hid hz
        clear hz
        clear ho hf hst
        go_wp2_with fail
        go_roundw
        case rel => exact ⟨b + 1, by omega, by go_num, HO5⟩
        case measure => simp [intOf]; omega
def facesErr (hs : List Ev) : Nat := (histR hs).2
def facesF (hs : List Ev) : Bool := decide (facesErr hs = 0) && fifoB hs
def facesC (hs : List Ev) : Bool := decide (facesErr hs = 0) && causalB hs
def facesT (hs : List Ev) : Bool := decide (facesErr hs = 0) && totalB hs
set_option maxRecDepth 100000 in
set_option maxHeartbeats 4000000 in
theorem facesOf_any {w0 w : World} {R : HProp} (v : Value) (hs : List Ev) (h : Own w0 R w) (hv : ReadsE w0 R v hs) :
    Calls Tryz.prog 87 #[v] w fun e w' => e = .returned (.tuple #[.agg #[.bool (facesF hs), .bool (facesC hs), .bool (facesT hs)], errV (facesErr hs)]) ∧ Own w0 R w' := by
  obtain ⟨had, hcap, rfl, hc1, hc2⟩ := (hv _ h).shape
  obtain ⟨E, hE⟩ : ∃ E, E = (histR hs).2 := ⟨_, rfl⟩
  obtain ⟨n, hn⟩ : ∃ n, n = hs.length := ⟨_, rfl⟩
  by_cases h0 : E = 0
  rotate_left
  · have hB : facesErr hs = E := hE.symm
    have h1 : facesF hs = false := by unfold facesF; rw [hB]; simp [h0]
    have h2 : facesC hs = false := by unfold facesC; rw [hB]; simp [h0]
    have h3 : facesT hs = false := by unfold facesT; rw [hB]; simp [h0]
    have hee := errV_ne h0
    obtain ⟨zb, hb_zb⟩ : ∃ zz_, zz_ = (w).heap.size := ⟨_, rfl⟩
    obtain ⟨w1, hw_w1⟩ : ∃ zz_, zz_ = (w).alloc (.cells #[.bool false, .bool false, .bool false] 87 (0, 0)) := ⟨_, rfl⟩
    have h_HO1 := (h).alloc (.cells #[.bool false, .bool false, .bool false] 87 (0, 0))
    rw [← hb_zb, ← hw_w1] at h_HO1
    have HO1 := Lib.hid h_HO1
    clear h_HO1
    have H := Lib.hid h; have HV := Lib.hid hv; have HE := Lib.hid hE; have H0 := Lib.hid h0; have HEE := Lib.hid hee; have HB := Lib.hid hB; have H1 := Lib.hid h1; have H2 := Lib.hid h2; have H3 := Lib.hid h3; have HN := Lib.hid hn
    clear h hv hE h0 hee hB h1 h2 h3 hn
    go_enter Tryz.func87, Tryz.ntmps87
    go_upto_region 1 with fail
    rw [← hb_zb, ← hw_w1]
    clear hb_zb hw_w1
    go_wp2_with fail
    refine (hRight_any _ hs HO1.out HV.out.more).mono ?_
    rintro e w2 ⟨rfl, ho⟩
    rw [← HE.out, HEE.out]
    have HO2 : Hid (Own w0 (FaO zb false false false * R) w2) := Lib.hid ho
    clear ho
    obtain ⟨g0, g1, g2, g4⟩ := HO2.out.fa
    have hst := ((HO2.out.fa0 false).fa1 false).fa2 false
    obtain ⟨p0, p1, p2, _⟩ := hst.fa
    have HO3 := Lib.hid hst.drop
    clear hst
    go_wp2_with fail
    exact bodyPost_ret (v := .tuple #[.agg #[.bool (facesF hs), .bool (facesC hs), .bool (facesT hs)], errV (facesErr hs)]) (by rw [H1.out, H2.out, H3.out, HB.out]; simp [results, Tryz.results87, go_sem, p0, p1, p2]; exact HEE.out.symm) rfl ⟨rfl, HO3.out⟩
  have hee : errV E = .nilIface := by rw [h0]; rfl
  have hlen : hs.length ≤ 60 := ((histR_ok hs).1 (by rw [← hE]; exact h0)).1
  have hB : facesErr hs = 0 := by rw [← h0]; exact hE.symm
  have h1 : facesF hs = upTo (fun k => upTo (fifoOk hs k) k) n := by unfold facesF; rw [hB, hn]; simp [fifoB]
  have h2 : facesC hs = upTo (fun k => upTo (skipB hs k) k) n := by unfold facesC; rw [hB, hn]; simp [causalB]
  have h3 : facesT hs = totalB hs := by unfold facesT; rw [hB]; simp
  have hpp := fun (R' : HProp) (w4 : World) (ho : Own w0 (R' * R) w4) => hPasts_any (R := R' * R) (.slice had hs.length hcap) hs ho hv.more hlen
  rw [← hn] at hc1 hlen hv hpp ⊢
  have HNE := Lib.hid hn.symm
  obtain ⟨zb, hb_zb⟩ : ∃ zz_, zz_ = (w).heap.size := ⟨_, rfl⟩
  obtain ⟨w1, hw_w1⟩ : ∃ zz_, zz_ = (w).alloc (.cells #[.bool false, .bool false, .bool false] 87 (0, 0)) := ⟨_, rfl⟩
  have h_HO1 := (h).alloc (.cells #[.bool false, .bool false, .bool false] 87 (0, 0))
  rw [← hb_zb, ← hw_w1] at h_HO1
  have HO1 := Lib.hid h_HO1
  clear h_HO1
  have H := Lib.hid h; have HV := Lib.hid hv; have HE := Lib.hid hE; have H0 := Lib.hid h0; have HEE := Lib.hid hee; have HB := Lib.hid hB; have H1 := Lib.hid h1; have H2 := Lib.hid h2; have H3 := Lib.hid h3; have HN := Lib.hid hn; have HPP := Lib.hid hpp
  clear h hv hE h0 hee hB h1 h2 h3 hn hpp
  go_enter Tryz.func87, Tryz.ntmps87
  go_upto_region 1 with fail
  rw [← hb_zb, ← hw_w1]
  clear hb_zb hw_w1
  go_wp2_with fail
  refine (hRight_any _ hs HO1.out HV.out.more).mono ?_
  rintro e w2 ⟨rfl, ho⟩
  rw [← HE.out, HEE.out]
  obtain ⟨fb, hb_fb⟩ : ∃ zz_, zz_ = (w2).heap.size := ⟨_, rfl⟩
  obtain ⟨w3, hw_w3⟩ : ∃ zz_, zz_ = (w2).alloc (.cells #[.bool true, .bool true, .bool true] 87 (0, 0)) := ⟨_, rfl⟩
  have h_HO3 := (ho).alloc (.cells #[.bool true, .bool true, .bool true] 87 (0, 0))
  rw [← hb_fb, ← hw_w3] at h_HO3
  have HO3 := Lib.hid h_HO3
  clear h_HO3
  clear ho
  have HF3 : Hid (Own w0 (FaO fb true true true * (FaO zb false false false * R)) w3) := HO3
  clear HO3
  go_upto_region 5 with fail
  rw [← hb_fb, ← hw_w3]
  clear hb_fb hw_w3
  go_wp2_with fail
  refine (HPP.out (FaO fb true true true * FaO zb false false false) w3 (HF3.out.perm (by ac_rfl))).mono ?_
  rintro e w4 ⟨rb, rs, rfl, hm, ho⟩
  have HM := Lib.hid hm
  have HO4 : Hid (Own w0 (FaO fb (upTo (fun k => upTo (fifoOk hs k) k) 0) (upTo (fun k => upTo (skipB hs k) k) 0) true * (BTab rb n rs * (FaO zb false false false * R))) w4) := Lib.hid (ho.perm (by rw [upTo_zero, upTo_zero]; ac_rfl))
  clear ho hm
  go_wp2_with fail
  go_loopw [24] (fun iv wr => ∃ k : Nat, k ≤ n ∧ iv = .int .i64 k ∧ Hid (Own w0 (FaO fb (upTo (fun k => upTo (fifoOk hs k) k) k) (upTo (fun k => upTo (skipB hs k) k) k) true * (BTab rb n rs * (FaO zb false false false * R))) wr)) (fun iv _ => n - (intOf iv).toNat)
  case atStart => exact ⟨0, Nat.zero_le _, rfl, HO4⟩
  case round =>
    clear HO4
    obtain ⟨k, hk, rfl, HO⟩ := hrel
    by_cases hlt : k < n
    · have hkl : k < hs.length := by rw [← HN.out]; exact hlt
      obtain ⟨aa, pb, po, ps, rfl, hea, hcs, _⟩ := HV.out.more.more.more.at HO.out k hkl
      obtain ⟨x, hx⟩ : ∃ x, x = evAt hs k := ⟨_, rfl⟩
      rw [← hx] at hcs
      obtain ⟨c0, c1, c2⟩ := hcs _ HO.out
      obtain ⟨x1, x2, x3⟩ := x
      simp only at c0 c1 c2
      obtain ⟨eb, hb_eb⟩ : ∃ zz_, zz_ = (wr).heap.size := ⟨_, rfl⟩
      obtain ⟨w5, hw_w5⟩ : ∃ zz_, zz_ = (wr).alloc (.cells #[.int .i64 x1, .int .i64 x2, .int .i64 x3] 112 (0, 0)) := ⟨_, rfl⟩
      have h_HO1 := (HO.out).alloc (.cells #[.int .i64 x1, .int .i64 x2, .int .i64 x3] 112 (0, 0))
      rw [← hb_eb, ← hw_w5] at h_HO1
      have HO1 := Lib.hid h_HO1
      clear h_HO1
      have HE5 : Hid (Own w0 (FaO fb (upTo (fun k => upTo (fifoOk hs k) k) k) (upTo (fun k => upTo (skipB hs k) k) k) true * (EvO eb (x1, x2, x3) * (BTab rb n rs * (FaO zb false false false * R)))) w5) := Lib.hid (HO1.out.perm (by unfold EvO; ac_rfl))
      clear HO1
      have hf1 := upTo_step (fun k => upTo (fifoOk hs k) k) k
      have hf2 := upTo_step (fun k => upTo (skipB hs k) k) k
      have k0 : (0 : Int) ≤ (k : Int) := by omega
      have kc : (k : Int) ≤ (hcap : Int) := by omega
      have hc0 : hcap ≠ 0 := by omega
      have HXX := Lib.hid hx
      have HCS := Lib.hid hcs; have HF1 := Lib.hid hf1; have HF2 := Lib.hid hf2
      clear hcs hf1 hf2
      clear hx
      go_upto_region 9 with fail
      rw [← hb_eb, ← hw_w5]
      clear hb_eb hw_w5
      clear c0 c1 c2
      go_upto_block 2 with fail
      refine faPairs w0 (FaO zb false false false * R) fb rb n k eb hcap (some aa) hs (x1, x2, x3) rs _ _ true hlt hlen hc1 hc2 HNE HXX (Lib.hid HV.out.more) HM HE5 ?_
      intros
      rename_i hcut
      have HN2 : Hid (Own w0 (FaO fb (upTo (fun k => upTo (fifoOk hs k) k) (k + 1)) (upTo (fun k => upTo (skipB hs k) k) (k + 1)) true * (BTab rb n rs * (FaO zb false false false * R))) _) := Lib.hid (by rw [HF1.out, HF2.out]; exact (hcut.perm (star_left_comm _ _ _)).drop)
      clear hcut
      go_wp2_with fail
      go_roundw
      case rel => exact ⟨k + 1, by omega, by go_num, HN2⟩
      case measure => simp [intOf]; omega
    have hkn : k = n := by omega
    subst hkn
    go_upto_block 4 with fail
    refine faTotal w0 (BTab rb k rs * (FaO zb false false false * R)) fb k hcap had hs _ _ true hlen hc1 hc2 HNE (Lib.hid HV.out.more.more) HO ?_
    intros
    rename_i wx hcut
    rw [← H1.out, ← H2.out, Bool.true_and, ← H3.out] at hcut
    obtain ⟨F, hF⟩ : ∃ F, F = facesF hs := ⟨_, rfl⟩
    obtain ⟨C, hC⟩ : ∃ C, C = facesC hs := ⟨_, rfl⟩
    obtain ⟨T, hT⟩ : ∃ T, T = facesT hs := ⟨_, rfl⟩
    rw [← hF, ← hC, ← hT] at hcut
    obtain ⟨q0, q1, q2, _⟩ := hcut.fa
    have hz := hcut.perm (show _ = FaO zb false false false * (FaO fb F C T * (BTab rb k rs * R)) by ac_rfl)
    obtain ⟨g0, g1, g2, g4⟩ := hz.fa
    have hst := ((hz.fa0 F).fa1 C).fa2 T
    obtain ⟨p0, p1, p2, _⟩ := hst.fa
    have HO9 := Lib.hid hst.drop.drop.drop
    clear hst hz hcut
    have HF := Lib.hid hF; have HC := Lib.hid hC; have HT := Lib.hid hT
    clear hF hC hT
    go_wp2_with fail
    exact bodyPost_ret (v := .tuple #[.agg #[.bool (facesF hs), .bool (facesC hs), .bool (facesT hs)], errV (facesErr hs)]) (by rw [← HF.out, ← HC.out, ← HT.out, HB.out]; simp [results, Tryz.results87, go_sem, p0, p1, p2, errV0]) rfl ⟨rfl, HO9.out⟩
end Go.Proofs.YtdfjbnfdknpahaaGreatDoor
