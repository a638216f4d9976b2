/- Contracts of package history, continued: who is ahead of whom. -/
import Derived.Test.YtddbjcpfgjcmnaaHist3
import Derived.Test.YtddbjcpfgjcmnaaMake
import Derived.Test.YtddbjcpfgjcmnaaPiece
namespace Go.Proofs.Ytddbjcpfgjcmnaa
set_option linter.unusedVariables false
set_option linter.unusedSimpArgs false
open Go.RowKit
/-- The first j places of r with those of s. -/
def orFirst (r s : List Bool) (j : Nat) : List Bool := (List.range r.length).map fun m => if m < j then (r.getD m false || s.getD m false) else r.getD m false
theorem orFirst_len (r s : List Bool) (j : Nat) : (orFirst r s j).length = r.length := by simp [orFirst]
theorem orFirst_zero (r s : List Bool) : orFirst r s 0 = r := by
  apply List.ext_getElem
  · simp [orFirst]
  · intro m h1 h2
    simp [orFirst, List.getD_eq_getElem?_getD, h2]
theorem orFirst_get (r s : List Bool) (j : Nat) (hj : j < r.length) : (orFirst r s j)[j]? = some (r.getD j false) := by
  simp [orFirst, hj]
theorem orFirst_step (r s : List Bool) (j : Nat) (hj : j < r.length) : (orFirst r s j).set j (r.getD j false || s.getD j false) = orFirst r s (j + 1) := by
  apply List.ext_getElem
  · simp [orFirst]
  · intro m h1 h2
    have hm : m < r.length := by simpa [orFirst] using h2
    rw [List.getElem_set]
    simp only [orFirst, List.getElem_map, List.getElem_range]
    by_cases hmj : j = m
    · subst hmj; rw [if_pos rfl, if_pos (by omega)]
    · rw [if_neg hmj]
      by_cases h3 : m < j
      · rw [if_pos h3, if_pos (by omega)]
      · rw [if_neg h3, if_neg (by omega)]
theorem orFirst_all (r s : List Bool) (h : r.length = s.length) : orFirst r s r.length = orRow r s := by
  apply List.ext_getElem
  · simp [orFirst, orRow, h]
  · intro m h1 h2
    have hm : m < r.length := by simpa [orFirst] using h1
    simp only [orFirst, List.getElem_map, List.getElem_range, orRow, List.getElem_zipWith]
    rw [if_pos hm]
    simp [List.getD_eq_getElem?_getD, hm, show m < s.length by omega]
theorem Own.bt_cell {w0 w : World} {rb n k : Nat} {rs : List (Value × List Bool)} {R : HProp} {v : Value} {l : List Bool} (h : Own w0 (BTab rb n rs * R) w) (hk : rs[k]? = some (v, l)) : w.cell? ⟨rb, k, none⟩ = some v := by
  obtain ⟨hlt, he⟩ := List.getElem?_eq_some_iff.1 hk
  have := h.bt_slot hlt
  rw [he] at this; exact this
theorem Own.bt_free {w0 w : World} {rb n : Nat} {rs : List (Value × List Bool)} {R : HProp} (h : Own w0 (BTab rb n rs * R) w) : ∀ i s, w.frozen? ⟨rb, i, s⟩ = false := (Own.tab_facts h).2.1
theorem Own.bt_put {w0 w : World} {rb n k : Nat} {rs : List (Value × List Bool)} {R : HProp} {v : Value} {l : List Bool} {b o cap m : Nat} (h : Own w0 (BTab rb n rs * R) w) (hk : rs[k]? = some (v, l)) (hv : v = .slice (some ⟨b, o, none⟩) m cap) (hp : 0 < l.length) :
    l.length = m ∧ m ≤ cap ∧ cap ≤ 9223372036854775807 ∧ (∀ i s, w.frozen? ⟨b, i, s⟩ = false) ∧ (∀ j x, l[j]? = some x → w.cell? ⟨b, o + j, none⟩ = some (.bool x)) ∧
      ∀ j x, j < l.length → Own w0 (BTab rb n (rs.set k (v, l.set j x)) * R) (w.setCell ⟨b, o + j, none⟩ (.bool x)) := by
  obtain ⟨hlt, he⟩ := List.getElem?_eq_some_iff.1 hk
  obtain ⟨b', o', cap', e1, f1, f2, f3, f4, f5⟩ := h.bt_row hlt (by rw [he]; exact hp)
  simp only [he] at e1 f1 f4 f5
  rw [hv] at e1
  injection e1 with e1 e2 e3
  injection e1 with e1
  injection e1 with e1 e4 _
  subst e1; subst e3; subst e4
  refine ⟨e2.symm, by rw [e2]; exact f1, f2, f3, fun j x hj => ?_, fun j x hj => f5 j x hj⟩
  obtain ⟨hlt2, he2⟩ := List.getElem?_eq_some_iff.1 hj
  have := f4 j hlt2
  rw [he2] at this; exact this
theorem set_same {α : Type} {l : List α} {k : Nat} {a : α} (h : l[k]? = some a) : l.set k a = l := by
  obtain ⟨hk, rfl⟩ := List.getElem?_eq_some_iff.1 h
  simp
noncomputable def paOr_code : Code := ((Try.f18.body.bind (findBlock 4)).getD .skip)
set_option maxRecDepth 1000000 in
set_option maxHeartbeats 4000000 in
theorem paOr {Q : Exit → Act → World → Prop} {u0 u1 u2 u5 u6 u7 u8 u9 u10 u11 u12 u13 u14 u15 u16 u17 u18 u19 u20 u21 u22 u23 u24 u25 u26 u27 u28 u29 u30 u31 u32 u33 u34 u35 u36 u37 u38 u39 u40 u41 u42 u43 u44 u45 u46 u47 u48 u49 u50 u51 u52 u53 u54 u55 u56 u57 u58 u59 u60 u61 u62 u63 u64 u65 u66 u67 u68 u69 u70 u71 u75 u76 u77 u78 u79 u80 u81 u82 u83 u84 u85 u86 u87 u88 u89 u90 u91 u92 u93 u94 u95 u96 u97 u98 : Value} {w1 : World} (w : World) (R : HProp) (rb n k i kb ko kcap sb so scap : Nat) (rs : List (Value × List Bool)) (r s : List Bool) (hk : k < n) (hi : i < k) (hn : n ≤ 60) (HR : Hid (rs[k]? = some (.slice (some ⟨kb, ko, none⟩) n kcap, r))) (HS : Hid (rs[i]? = some (.slice (some ⟨sb, so, none⟩) n scap, s))) (HRL : Hid (r.length = n ∧ s.length = n)) (HP : Hid (Own w (BTab rb n rs * R) w1))
    (hK : ∀ (v8 v9 v74 v75 v76 v77 v78 v79 v80 v81 v82 v83 v84 v85 v86 v87 v88 v89 v90 v91 v92 v93 v94 v95 : Value) (wx : World), (Own w (BTab rb n (rs.set k (.slice (some ⟨kb, ko, none⟩) n kcap, orRow r s)) * R) wx) → Q .normal ⟨List.toArray (u0 :: u1 :: u2 :: (.slice (some ⟨rb, 0, none⟩) n n) :: (.int .i64 (k : Int)) :: u5 :: u6 :: u7 :: v8 :: v9 :: u10 :: u11 :: u12 :: u13 :: u14 :: u15 :: u16 :: u17 :: u18 :: u19 :: u20 :: u21 :: u22 :: u23 :: u24 :: u25 :: u26 :: u27 :: u28 :: u29 :: u30 :: u31 :: u32 :: u33 :: u34 :: u35 :: u36 :: u37 :: u38 :: u39 :: u40 :: u41 :: u42 :: u43 :: u44 :: u45 :: u46 :: u47 :: u48 :: u49 :: u50 :: u51 :: u52 :: u53 :: u54 :: u55 :: u56 :: u57 :: u58 :: u59 :: u60 :: u61 :: u62 :: u63 :: u64 :: u65 :: u66 :: u67 :: u68 :: u69 :: u70 :: u71 :: (.slice (some ⟨sb, so, none⟩) n scap) :: (.int .i64 (n : Int)) :: v74 :: v75 :: v76 :: v77 :: v78 :: v79 :: v80 :: v81 :: v82 :: v83 :: v84 :: v85 :: v86 :: v87 :: v88 :: v89 :: v90 :: v91 :: v92 :: v93 :: v94 :: v95 :: u96 :: u97 :: u98 :: []), []⟩ wx) :
    Code.wp Try.prog paOr_code Q ⟨List.toArray (u0 :: u1 :: u2 :: (.slice (some ⟨rb, 0, none⟩) n n) :: (.int .i64 (k : Int)) :: u5 :: u6 :: u7 :: u8 :: u9 :: u10 :: u11 :: u12 :: u13 :: u14 :: u15 :: u16 :: u17 :: u18 :: u19 :: u20 :: u21 :: u22 :: u23 :: u24 :: u25 :: u26 :: u27 :: u28 :: u29 :: u30 :: u31 :: u32 :: u33 :: u34 :: u35 :: u36 :: u37 :: u38 :: u39 :: u40 :: u41 :: u42 :: u43 :: u44 :: u45 :: u46 :: u47 :: u48 :: u49 :: u50 :: u51 :: u52 :: u53 :: u54 :: u55 :: u56 :: u57 :: u58 :: u59 :: u60 :: u61 :: u62 :: u63 :: u64 :: u65 :: u66 :: u67 :: u68 :: u69 :: u70 :: u71 :: (.slice (some ⟨sb, so, none⟩) n scap) :: (.int .i64 (n : Int)) :: (.int .i64 0) :: u75 :: u76 :: u77 :: u78 :: u79 :: u80 :: u81 :: u82 :: u83 :: u84 :: u85 :: u86 :: u87 :: u88 :: u89 :: u90 :: u91 :: u92 :: u93 :: u94 :: u95 :: u96 :: u97 :: u98 :: []), []⟩ w1 := by
  conv => arg 2; whnf
  have HK := Lib.hid hK
  clear hK
  go_wp2_with fail
  go_loopw [74] (fun jv wr => ∃ j : Nat, j ≤ n ∧ jv = .int .i64 j ∧ Hid (Own w (BTab rb n (rs.set k (.slice (some ⟨kb, ko, none⟩) n kcap, orFirst r s j)) * R) wr)) (fun jv _ => n - (intOf jv).toNat)
  case atStart =>
    refine ⟨0, Nat.zero_le _, rfl, Lib.hid ?_⟩
    rw [orFirst_zero, set_same HR.out]
    exact HP.out
  case round =>
    obtain ⟨j, hj, rfl, HO⟩ := hrel
    by_cases hlt : j < n
    rotate_left
    · have hjn : j = n := by omega
      have fin := HO.out
      rw [hjn, ← HRL.out.1, orFirst_all r s (HRL.out.1.trans HRL.out.2.symm), HRL.out.1] at fin
      have FIN := Lib.hid fin
      clear fin
      go_wp2_with fail
      apply HK.out
      exact FIN.out
    have hrl := HRL.out.1
    have hkr : k < rs.length := (List.getElem?_eq_some_iff.1 HR.out).1
    have e1 : (rs.set k (.slice (some ⟨kb, ko, none⟩) n kcap, orFirst r s j))[k]? = some (.slice (some ⟨kb, ko, none⟩) n kcap, orFirst r s j) := by simp [hkr]
    have e2 : (rs.set k (.slice (some ⟨kb, ko, none⟩) n kcap, orFirst r s j))[i]? = some (.slice (some ⟨sb, so, none⟩) n scap, s) := by rw [List.getElem?_set, if_neg (by omega)]; exact HS.out
    obtain ⟨g1, g2, g3, g4, g5, g6⟩ := HO.out.bt_put e1 rfl (by rw [orFirst_len]; omega)
    obtain ⟨k1, k2, k3, k4, k5, _⟩ := HO.out.bt_put e2 rfl (by rw [HRL.out.2]; omega)
    have c1 := HO.out.bt_cell e1
    have c2 := HO.out.bt_cell e2
    have d1 := g5 j _ (orFirst_get r s j (by omega))
    have d2 := k5 j (s.getD j false) (by rw [List.getD_eq_getElem?_getD, List.getElem?_eq_getElem (by rw [HRL.out.2]; omega)]; rfl)
    have hst := orFirst_step r s j (by omega)
    have st := g6 j (r.getD j false || s.getD j false) (by rw [orFirst_len]; omega)
    rw [hst, List.set_set] at st
    obtain ⟨x, hx⟩ : ∃ x, x = r.getD j false := ⟨_, rfl⟩
    obtain ⟨y, hy⟩ : ∃ y, y = s.getD j false := ⟨_, rfl⟩
    rw [← hx] at d1 st
    rw [← hy] at d2 st
    have f1 := HO.out.bt_free
    have j0 : (0 : Int) ≤ (j : Int) := by omega
    have j1 : (j : Int) < (n : Int) := by omega
    have k0' : (0 : Int) ≤ (k : Int) := by omega
    have k1' : (k : Int) < (n : Int) := by omega
    have E1 := Lib.hid e1; have E2 := Lib.hid e2; have G5 := Lib.hid g5; have G6 := Lib.hid g6; have K5 := Lib.hid k5; have HST := Lib.hid hst; have HX := Lib.hid hx; have HY := Lib.hid hy; have HRL := Lib.hid hrl; have ST := Lib.hid st; have G1 := Lib.hid g1; have K1 := Lib.hid k1
    clear e1 e2 g5 g6 k5 hst hx hy hrl st g1 k1
    cases x
    · go_wp2_with fail
      refine wp_region_tail 15 (by kernel_rfl) (by kernel_rfl) ?_
      simp only [List.take_succ_cons, List.take_zero, List.drop_succ_cons, List.drop_zero]
      repeat still_step
      refine wpStill_nil ?_
      go_wp2_with fail
      have ST2 := Lib.hid ST.out.drew
      clear ST
      go_roundw
      case rel => exact ⟨j + 1, by omega, by go_num, ST2⟩
      case measure => simp [intOf]; omega
    · go_wp2_with fail
      refine wp_region_tail 15 (by kernel_rfl) (by kernel_rfl) ?_
      simp only [List.take_succ_cons, List.take_zero, List.drop_succ_cons, List.drop_zero]
      repeat still_step
      refine wpStill_nil ?_
      go_wp2_with fail
      have ST2 := Lib.hid ST.out.drew
      clear ST
      go_roundw
      case rel => exact ⟨j + 1, by omega, by go_num, ST2⟩
      case measure => simp [intOf]; omega
end Go.Proofs.Ytddbjcpfgjcmnaa
