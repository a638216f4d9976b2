/- The reference's table of who is ahead of whom: [60][60]bool, by value. -/
import Derived.Test.YtdfjbnfdknpahaaGreatDoorMRunAnswers30
import Derived.Test.YtdfjbnfdknpahaaGreatDoorMRunAnswers10
import Derived.Deep.WholeRow
import Derived.Test.YtdfjbnfdknpahaaGreatDoorMRunAnswers9
namespace Go.Proofs.YtdfjbnfdknpahaaGreatDoor
set_option linter.unusedVariables false
set_option linter.unusedSimpArgs false
open Go.RowKit
def cells60 (f : Nat → Nat → Bool) : Array Value := ((List.range 3600).map fun j => Value.bool (f (j / 60) (j % 60))).toArray
theorem cells60_size (f : Nat → Nat → Bool) : (cells60 f).size = 3600 := by simp [cells60]
theorem cells60_get (f : Nat → Nat → Bool) {i k : Nat} (hi : i < 60) (hk : k < 60) : (cells60 f)[i * 60 + k]? = some (.bool (f i k)) := by
  unfold cells60
  rw [List.getElem?_toArray, List.getElem?_map, List.getElem?_range (by omega)]
  simp only [Option.map_some]
  rw [show (i * 60 + k) / 60 = i by omega, show (i * 60 + k) % 60 = k by omega]
theorem cells60_set (f g : Nat → Nat → Bool) {i k : Nat} (hi : i < 60) (hk : k < 60) (v : Bool) (hg : ∀ a b, g a b = if a = i ∧ b = k then v else f a b) : (cells60 f).setIfInBounds (i * 60 + k) (.bool v) = cells60 g := by
  apply Array.ext_getElem?
  intro j
  rw [Array.getElem?_setIfInBounds]
  by_cases hj : j < 3600
  · have e1 : j = (j / 60) * 60 + j % 60 := by omega
    have h1 := cells60_get g (i := j / 60) (k := j % 60) (by omega) (by omega)
    have h2 := cells60_get f (i := j / 60) (k := j % 60) (by omega) (by omega)
    rw [← e1] at h1 h2
    rw [h1, h2, hg, cells60_size]
    by_cases e : i * 60 + k = j
    · rw [if_pos e, if_pos (by omega), if_pos ⟨by omega, by omega⟩]
    · rw [if_neg e, if_neg (fun hh => e (by omega))]
  · rw [if_neg (by omega), Array.getElem?_eq_none (by rw [cells60_size]; omega), Array.getElem?_eq_none (by rw [cells60_size]; omega)]
def T60 (b : Nat) (f : Nat → Nat → Bool) : HProp := blk b (.cells (cells60 f) 117 (0, 0))
theorem Own.t60 {w0 w : World} {b : Nat} {f : Nat → Nat → Bool} {R : HProp} (h : Own w0 (T60 b f * R) w) {i k : Nat} (hi : i < 60) (hk : k < 60) : w.cell? ⟨b, i * 60 + k, none⟩ = some (.bool (f i k)) := (Own.cell h _).trans (cells60_get f hi hk)
theorem Own.t60_free {w0 w : World} {b : Nat} {f : Nat → Nat → Bool} {R : HProp} (h : Own w0 (T60 b f * R) w) (i : Nat) (s : Option Nat) : w.frozen? ⟨b, i, s⟩ = false := Own.free h i s
theorem Own.t60_set {w0 w : World} {b : Nat} {f g : Nat → Nat → Bool} {R : HProp} (h : Own w0 (T60 b f * R) w) {i k : Nat} (hi : i < 60) (hk : k < 60) (v : Bool) (hg : ∀ a b, g a b = if a = i ∧ b = k then v else f a b) : Own w0 (T60 b g * R) (w.setCell ⟨b, i * 60 + k, none⟩ (.bool v)) := by
  have h1 := Own.setCell (i := i * 60 + k) (v := .bool v) h
  rw [cells60_set f g hi hk v hg] at h1
  exact h1
/-- A whole array stored into a block. -/
theorem wp_store_row {P : Program} {o : Oper} {a : Act} {w : World} {K : Act → World → Prop} {Q : Exit → Act → World → Prop} (ty : TypeId) (x y : Operand) (ho : o.op = .store ty x y) (hd : o.dst = none)
    (g : Nat) (hx : a.eval x = .pointer (some ⟨g, 0, none⟩)) (t : TypeId) (old cs : Array Value) (hy : a.eval y = .agg cs) (hg : w.heap[g]? = some (.cells old t (0, 0)))
    (hi : (P.info? ty).map (·.size) = some cs.size) (hs : old.size = cs.size) (h1 : cs.all (·.oneCell') = true)
    (h : K a (w.setRow g cs)) : o.wp P a w K Q := by
  unfold Oper.wp execOp
  simp only [ho, hx, hy, Instr.storeAt, Instr.sureAddr, Sem.run_bind, Sem.run_pure, Result.andThen_ok, run_storeVar_row w g t ty old cs hg hi hs h1, Oper.upon_skip, hd]
  exact h
theorem Own.setRow {w0 w : World} {b : Nat} {cs cs' : Array Value} {t : TypeId} {R : HProp} (h : Own w0 (blk b (.cells cs t (0, 0)) * R) w) : Own w0 (blk b (.cells cs' t (0, 0)) * R) (w.setRow b cs') :=
  h.set rfl rfl rfl (by simp) (fun k _ hk => setRow_other w b k cs' hk) (setRow_heap w b cs cs' t (0, 0) h.blk_at.1)
theorem cells60_one (f : Nat → Nat → Bool) : (cells60 f).all (·.oneCell') = true := by
  rw [Array.all_eq_true_iff_forall_mem]
  intro v hv
  unfold cells60 at hv
  rw [List.mem_toArray] at hv
  obtain ⟨j, _, rfl⟩ := List.mem_map.1 hv
  rfl
theorem info60 (f : Nat → Nat → Bool) : (Tryz.prog.info? 117).map (·.size) = some (cells60 f).size := by
  rw [cells60_size]; kernel_rfl
theorem und60 : Tryz.prog.underlying 117 = some (.array 60 116) := by kernel_rfl
theorem tAll_at (h : List Ev) {i k n : Nat} (hn : h.length = n) (hk : k < n) (hi : i < k) : tAll h i k = directB (evAt h i) (evAt h k) := by
  unfold tAll
  rw [decide_eq_true (by omega), decide_eq_true hi]; simp
noncomputable def rbRow_code : Code := ((Tryz.f44.body.bind (findBlock 2)).getD .skip)
set_option maxRecDepth 1000000 in
set_option maxHeartbeats 4000000 in
theorem rbRow {Q : Exit → Act → World → Prop} {u1 u2 u6 u7 u8 u9 u10 u11 u12 u13 u14 u15 u16 u17 u18 u19 u20 u21 u22 u23 u24 u25 u26 u27 u28 u29 u30 u31 u32 u33 u34 u35 u36 u37 u38 u39 u40 u41 u42 u43 u44 u45 u46 u47 u48 u49 u50 u51 u52 u53 u54 u55 u56 u57 u58 u59 u60 u61 u62 u63 u64 u65 u66 u67 u68 u69 u70 u71 u72 u73 u74 u75 u76 u77 u78 u79 u80 u81 u82 u83 u84 u85 u86 u87 u88 u89 u90 u91 u92 u93 u94 u95 u96 u97 u98 u99 u100 u101 u102 : Value} {w1 : World} (w : World) (R : HProp) (tb n i hcap : Nat) (had : Option Addr) (hs : List Ev) (hi : i < n) (hn : n ≤ 60) (hc1 : n ≤ hcap) (hc2 : hcap ≤ 9223372036854775807) (HLN : Hid (hs.length = n)) (HV : Hid (ReadsE w R (.slice had n hcap) hs)) (HP : Hid (Own w (T60 tb (tIni hs i 0) * R) w1))
    (hK : ∀ (v5 v17 v18 v19 v20 v21 v22 v23 v24 v25 v26 v27 v28 v29 v30 v31 v32 v33 v34 v35 v36 v37 v38 v39 v40 v41 v42 v43 v44 v45 v46 v47 v48 v49 v50 v51 v52 v53 v54 v55 v56 v57 v58 v59 v60 v61 v62 v63 v64 v65 v66 : Value) (wx : World), (Own w (T60 tb (tIni hs i n) * R) wx) → Q .normal ⟨List.toArray ((.slice had n hcap) :: u1 :: u2 :: (.pointer (some ⟨tb, 0, none⟩)) :: (.int .i64 (i : Int)) :: v5 :: u6 :: u7 :: u8 :: u9 :: u10 :: u11 :: u12 :: u13 :: u14 :: u15 :: u16 :: v17 :: v18 :: v19 :: v20 :: v21 :: v22 :: v23 :: v24 :: v25 :: v26 :: v27 :: v28 :: v29 :: v30 :: v31 :: v32 :: v33 :: v34 :: v35 :: v36 :: v37 :: v38 :: v39 :: v40 :: v41 :: v42 :: v43 :: v44 :: v45 :: v46 :: v47 :: v48 :: v49 :: v50 :: v51 :: v52 :: v53 :: v54 :: v55 :: v56 :: v57 :: v58 :: v59 :: v60 :: v61 :: v62 :: v63 :: v64 :: v65 :: v66 :: u67 :: u68 :: u69 :: u70 :: u71 :: u72 :: u73 :: u74 :: u75 :: u76 :: u77 :: u78 :: u79 :: u80 :: u81 :: u82 :: u83 :: u84 :: u85 :: u86 :: u87 :: u88 :: u89 :: u90 :: u91 :: u92 :: u93 :: u94 :: u95 :: u96 :: u97 :: u98 :: u99 :: u100 :: u101 :: u102 :: []), []⟩ wx) :
    Code.wp Tryz.prog rbRow_code Q ⟨List.toArray ((.slice had n hcap) :: u1 :: u2 :: (.pointer (some ⟨tb, 0, none⟩)) :: (.int .i64 (i : Int)) :: (.int .i64 ((i : Int) + 1)) :: u6 :: u7 :: u8 :: u9 :: u10 :: u11 :: u12 :: u13 :: u14 :: u15 :: u16 :: u17 :: u18 :: u19 :: u20 :: u21 :: u22 :: u23 :: u24 :: u25 :: u26 :: u27 :: u28 :: u29 :: u30 :: u31 :: u32 :: u33 :: u34 :: u35 :: u36 :: u37 :: u38 :: u39 :: u40 :: u41 :: u42 :: u43 :: u44 :: u45 :: u46 :: u47 :: u48 :: u49 :: u50 :: u51 :: u52 :: u53 :: u54 :: u55 :: u56 :: u57 :: u58 :: u59 :: u60 :: u61 :: u62 :: u63 :: u64 :: u65 :: u66 :: u67 :: u68 :: u69 :: u70 :: u71 :: u72 :: u73 :: u74 :: u75 :: u76 :: u77 :: u78 :: u79 :: u80 :: u81 :: u82 :: u83 :: u84 :: u85 :: u86 :: u87 :: u88 :: u89 :: u90 :: u91 :: u92 :: u93 :: u94 :: u95 :: u96 :: u97 :: u98 :: u99 :: u100 :: u101 :: u102 :: []), []⟩ w1 := by
  conv => arg 2; whnf
  have HK := Lib.hid hK
  clear hK
  go_wp2_with fail
  go_loopw [5] (fun kv wr => ∃ k : Nat, k ≤ n ∧ i < k ∧ kv = .int .i64 k ∧ Hid (Own w (T60 tb (tIni hs i k) * R) wr)) (fun kv _ => n - (intOf kv).toNat)
  case atStart => exact ⟨i + 1, by omega, by omega, by go_num, Lib.hid (by have := HP.out; rw [show tIni hs i (i + 1) = tIni hs i 0 from funext fun a => funext fun b => tIni_first hs i a b]; exact this)⟩
  case round =>
    clear HP
    obtain ⟨k, hk, hik, rfl, HO⟩ := hrel
    by_cases hlt : k < n
    rotate_left
    · have hkn : k = n := by omega
      subst hkn
      go_wp2_with fail
      apply HK.out
      exact HO.out
    have hkl : k < hs.length := by rw [HLN.out]; exact hlt
    have hil : i < hs.length := by rw [HLN.out]; exact hi
    obtain ⟨aa, pb, po, ps, rfl, hea, hcs, _⟩ := HV.out.more.at HO.out k hkl
    obtain ⟨aa', qb, qo, qs, ea, heb, hcs2, _⟩ := HV.out.more.at HO.out i hil
    injection ea with ea
    subst ea
    have hta := tAll_at hs HLN.out hlt hik
    obtain ⟨y, hy⟩ : ∃ y, y = evAt hs k := ⟨_, rfl⟩
    obtain ⟨x, hx⟩ : ∃ x, x = evAt hs i := ⟨_, rfl⟩
    rw [← hy] at hcs
    rw [← hx] at hcs2
    rw [← hx, ← hy] at hta
    obtain ⟨c0, c1, c2⟩ := hcs _ HO.out
    obtain ⟨d0, d1, d2⟩ := hcs2 _ HO.out
    obtain ⟨x1, x2, x3⟩ := x
    obtain ⟨y1, y2, y3⟩ := y
    simp only at c0 c1 c2 d0 d1 d2
    obtain ⟨D, hD⟩ : ∃ D, D = directB (x1, x2, x3) (y1, y2, y3) := ⟨_, rfl⟩
    rw [← hD] at hta
    have hD2 : D = (decide (x1 = y1) || (decide (y2 = 3) && (decide (x2 = 2) && decide (x3 = y3)))) := hD
    have i0 : (0 : Int) ≤ (k : Int) := by omega
    have i1 : (k : Int) < (n : Int) := by omega
    have j0 : (0 : Int) ≤ (i : Int) := by omega
    have j1 : (i : Int) < (n : Int) := by omega
    have i6 : (k : Int) < 60 := by omega
    have j6 : (i : Int) < 60 := by omega
    clear hD
    have HCS := Lib.hid hcs; have HCS2 := Lib.hid hcs2; have HX := Lib.hid hx; have HY := Lib.hid hy; have HTA := Lib.hid hta; have HD2 := Lib.hid hD2
    clear hcs hcs2 hx hy hta hD2
    go_wp2_with fail
    go_upto_region 8 with fail
    go_cut [62] from 23 to 62 (fun c wx => c = .bool D ∧ Own w (T60 tb (tIni hs i k) * R) wx)
    case first =>
      by_cases a1 : x1 = y1
      · have hd : D = true := by rw [HD2.out]; simp [a1]
        subst a1
        have HD := Lib.hid hd
        clear hd
        go_wp2_with fail
        go_quiet (fail)
        go_wp2_with fail
        go_meet
        exact ⟨by rw [HD.out], HO.out.drewN _⟩
      have t1 : (x1 == y1) = false := by rw [beq_eq_false_iff_ne]; exact a1
      by_cases a2 : x2 = 2
      rotate_left
      · have t2 : (x2 == 2) = false := by rw [beq_eq_false_iff_ne]; exact a2
        have hd : D = false := by rw [HD2.out]; simp [a1, a2]
        have HD := Lib.hid hd; have A1 := Lib.hid a1; have A2 := Lib.hid a2
        clear hd a1 a2
        go_wp2_with fail
        go_quiet (fail)
        go_wp2_with fail
        go_meet
        exact ⟨by rw [HD.out], HO.out.drewN _⟩
      subst a2
      by_cases a3 : y2 = 3
      rotate_left
      · have t2 : (y2 == 3) = false := by rw [beq_eq_false_iff_ne]; exact a3
        have hd : D = false := by rw [HD2.out]; simp [a1, a3]
        have HD := Lib.hid hd; have A1 := Lib.hid a1; have A3 := Lib.hid a3
        clear hd a1 a3
        go_wp2_with fail
        go_quiet (fail)
        go_wp2_with fail
        go_meet
        exact ⟨by rw [HD.out], HO.out.drewN _⟩
      subst a3
      by_cases a4 : x3 = y3
      · have hd : D = true := by rw [HD2.out]; simp [a1, a4]
        subst a4
        have HD := Lib.hid hd; have A1 := Lib.hid a1
        clear hd a1
        go_wp2_with fail
        go_quiet (fail)
        go_wp2_with fail
        go_meet
        exact ⟨by rw [HD.out], HO.out.drewN _⟩
      · have t4 : (x3 == y3) = false := by rw [beq_eq_false_iff_ne]; exact a4
        have hd : D = false := by rw [HD2.out]; simp [a1, a4]
        have HD := Lib.hid hd; have A1 := Lib.hid a1; have A4 := Lib.hid a4
        clear hd a1 a4
        go_wp2_with fail
        go_quiet (fail)
        go_wp2_with fail
        go_meet
        exact ⟨by rw [HD.out], HO.out.drewN _⟩
    case rest =>
    obtain ⟨rfl, ho⟩ := hcut
    have HO2 := Lib.hid ho
    clear ho HO c0 c1 c2 d0 d1 d2
    have b0 := HO2.out.t60 (i := i) (k := k) (by omega) (by omega)
    have b1 := HO2.out.t60_free (i * 60 + k) none
    cases D
    · have hsame : tIni hs i k = tIni hs i (k + 1) := by
        funext a b
        rw [tIni_step]
        by_cases e : a = i ∧ b = k
        · rw [if_pos e, HTA.out, e.1, e.2]; unfold tIni; simp
        · rw [if_neg e]
      have HO3 : Hid (Own w (T60 tb (tIni hs i (k + 1)) * R) wc) := Lib.hid (by rw [← hsame]; exact HO2.out)
      clear hsame
      go_wp2_with fail
      go_roundw
      case rel => exact ⟨k + 1, by omega, by omega, by go_num, HO3⟩
      case measure => simp [intOf]; omega
    · have HO3 := Lib.hid (HO2.out.t60_set (g := tIni hs i (k + 1)) (i := i) (k := k) (by omega) (by omega) true (fun a b => by rw [tIni_step, HTA.out]))
      go_wp2_with fail
      go_roundw
      case rel => exact ⟨k + 1, by omega, by omega, by go_num, HO3⟩
      case measure => simp [intOf]; omega
noncomputable def rbIni_code : Code := ((Tryz.f44.body.bind (findBlock 0)).getD .skip)
set_option maxRecDepth 1000000 in
set_option maxHeartbeats 4000000 in
theorem rbIni {Q : Exit → Act → World → Prop} {u1 u2 u5 u6 u7 u8 u9 u10 u11 u12 u13 u14 u15 u16 u17 u18 u19 u20 u21 u22 u23 u24 u25 u26 u27 u28 u29 u30 u31 u32 u33 u34 u35 u36 u37 u38 u39 u40 u41 u42 u43 u44 u45 u46 u47 u48 u49 u50 u51 u52 u53 u54 u55 u56 u57 u58 u59 u60 u61 u62 u63 u64 u65 u66 u67 u68 u69 u70 u71 u72 u73 u74 u75 u76 u77 u78 u79 u80 u81 u82 u83 u84 u85 u86 u87 u88 u89 u90 u91 u92 u93 u94 u95 u96 u97 u98 u99 u100 u101 u102 : Value} {w1 : World} (w : World) (R : HProp) (tb n hcap : Nat) (had : Option Addr) (hs : List Ev) (hn : n ≤ 60) (hc1 : n ≤ hcap) (hc2 : hcap ≤ 9223372036854775807) (HLN : Hid (hs.length = n)) (HV : Hid (ReadsE w R (.slice had n hcap) hs)) (HP : Hid (Own w (T60 tb (tIni hs 0 0) * R) w1))
    (hK : ∀ (v4 v5 v9 v10 v11 v12 v13 v14 v15 v16 v17 v18 v19 v20 v21 v22 v23 v24 v25 v26 v27 v28 v29 v30 v31 v32 v33 v34 v35 v36 v37 v38 v39 v40 v41 v42 v43 v44 v45 v46 v47 v48 v49 v50 v51 v52 v53 v54 v55 v56 v57 v58 v59 v60 v61 v62 v63 v64 v65 v66 : Value) (wx : World), (Own w (T60 tb (tStage hs 0) * R) wx) → Q .normal ⟨List.toArray ((.slice had n hcap) :: u1 :: u2 :: (.pointer (some ⟨tb, 0, none⟩)) :: v4 :: v5 :: u6 :: u7 :: u8 :: v9 :: v10 :: v11 :: v12 :: v13 :: v14 :: v15 :: v16 :: v17 :: v18 :: v19 :: v20 :: v21 :: v22 :: v23 :: v24 :: v25 :: v26 :: v27 :: v28 :: v29 :: v30 :: v31 :: v32 :: v33 :: v34 :: v35 :: v36 :: v37 :: v38 :: v39 :: v40 :: v41 :: v42 :: v43 :: v44 :: v45 :: v46 :: v47 :: v48 :: v49 :: v50 :: v51 :: v52 :: v53 :: v54 :: v55 :: v56 :: v57 :: v58 :: v59 :: v60 :: v61 :: v62 :: v63 :: v64 :: v65 :: v66 :: u67 :: u68 :: u69 :: u70 :: u71 :: u72 :: u73 :: u74 :: u75 :: u76 :: u77 :: u78 :: u79 :: u80 :: u81 :: u82 :: u83 :: u84 :: u85 :: u86 :: u87 :: u88 :: u89 :: u90 :: u91 :: u92 :: u93 :: u94 :: u95 :: u96 :: u97 :: u98 :: u99 :: u100 :: u101 :: u102 :: []), []⟩ wx) :
    Code.wp Tryz.prog rbIni_code Q ⟨List.toArray ((.slice had n hcap) :: u1 :: u2 :: (.pointer (some ⟨tb, 0, none⟩)) :: (.int .i64 0) :: u5 :: u6 :: u7 :: u8 :: u9 :: u10 :: u11 :: u12 :: u13 :: u14 :: u15 :: u16 :: u17 :: u18 :: u19 :: u20 :: u21 :: u22 :: u23 :: u24 :: u25 :: u26 :: u27 :: u28 :: u29 :: u30 :: u31 :: u32 :: u33 :: u34 :: u35 :: u36 :: u37 :: u38 :: u39 :: u40 :: u41 :: u42 :: u43 :: u44 :: u45 :: u46 :: u47 :: u48 :: u49 :: u50 :: u51 :: u52 :: u53 :: u54 :: u55 :: u56 :: u57 :: u58 :: u59 :: u60 :: u61 :: u62 :: u63 :: u64 :: u65 :: u66 :: u67 :: u68 :: u69 :: u70 :: u71 :: u72 :: u73 :: u74 :: u75 :: u76 :: u77 :: u78 :: u79 :: u80 :: u81 :: u82 :: u83 :: u84 :: u85 :: u86 :: u87 :: u88 :: u89 :: u90 :: u91 :: u92 :: u93 :: u94 :: u95 :: u96 :: u97 :: u98 :: u99 :: u100 :: u101 :: u102 :: []), []⟩ w1 := by
  conv => arg 2; whnf
  have HK := Lib.hid hK
  clear hK
  go_wp2_with fail
  go_loopw [4] (fun iv wr => ∃ i : Nat, i ≤ n ∧ iv = .int .i64 i ∧ Hid (Own w (T60 tb (tIni hs i 0) * R) wr)) (fun iv _ => n - (intOf iv).toNat)
  case atStart => exact ⟨0, Nat.zero_le _, rfl, HP⟩
  case round =>
    clear HP
    obtain ⟨i, hi, rfl, HO⟩ := hrel
    by_cases hlt : i < n
    rotate_left
    · have hin : i = n := by omega
      subst hin
      have HO2 : Hid (Own w (T60 tb (tStage hs 0) * R) wr) := Lib.hid (by
        rw [show tStage hs 0 = tIni hs i 0 from funext fun a => funext fun b => by rw [← tIni_all, HLN.out]]; exact HO.out)
      go_wp2_with fail
      apply HK.out
      exact HO2.out
    go_upto_block 2 with fail
    refine rbRow w R tb n i hcap had hs hlt hn hc1 hc2 HLN HV HO ?_
    intros
    rename_i wq hcut
    have HO2 : Hid (Own w (T60 tb (tIni hs (i + 1) 0) * R) wq) := Lib.hid (by
      rw [show tIni hs (i + 1) 0 = tIni hs i n from funext fun a => funext fun b => by rw [← tIni_row, HLN.out]]; exact hcut)
    clear hcut HO
    go_wp2_with fail
    go_roundw
    case rel => exact ⟨i + 1, by omega, by go_num, HO2⟩
    case measure => simp [intOf]; omega
end Go.Proofs.YtdfjbnfdknpahaaGreatDoor
/- The reference's table of who is ahead of whom, continued: what lies between; Befores. -/
namespace Go.Proofs.YtdfjbnfdknpahaaGreatDoor
set_option linter.unusedVariables false
set_option linter.unusedSimpArgs false
open Go.RowKit
noncomputable def rbMidRow_code : Code := ((Tryz.f44.body.bind (findBlock 8)).getD .skip)
set_option maxRecDepth 1000000 in
set_option maxHeartbeats 4000000 in
theorem rbMidRow {Q : Exit → Act → World → Prop} {u1 u2 u4 u5 u9 u10 u11 u12 u13 u14 u15 u16 u17 u18 u19 u20 u21 u22 u23 u24 u25 u26 u27 u28 u29 u30 u31 u32 u33 u34 u35 u36 u37 u38 u39 u40 u41 u42 u43 u44 u45 u46 u47 u48 u49 u50 u51 u52 u53 u54 u55 u56 u57 u58 u59 u60 u61 u62 u63 u64 u65 u66 u67 u68 u69 u70 u71 u72 u73 u74 u75 u76 u77 u78 u79 u80 u81 u82 u83 u84 u85 u86 u87 u88 u89 u90 u91 u92 u93 u94 u95 u96 u97 u98 u99 u100 u101 u102 : Value} {w1 : World} (w : World) (R : HProp) (tb n m i hcap : Nat) (had : Option Addr) (hs : List Ev) (hm : m < n) (hi : i < m) (hn : n ≤ 60) (hc1 : n ≤ hcap) (hc2 : hcap ≤ 9223372036854775807) (HLN : Hid (hs.length = n)) (HP : Hid (Own w (T60 tb (tMid hs m i 0) * R) w1))
    (hK : ∀ (v8 v80 v81 v82 v83 v84 v85 v86 v87 v88 v89 v90 v91 v92 v93 v94 v95 v96 v97 v98 v99 v100 v101 : Value) (wx : World), (Own w (T60 tb (tMid hs m (i + 1) 0) * R) wx) → Q .normal ⟨List.toArray ((.slice had n hcap) :: u1 :: u2 :: (.pointer (some ⟨tb, 0, none⟩)) :: u4 :: u5 :: (.int .i64 (m : Int)) :: (.int .i64 (i : Int)) :: v8 :: u9 :: u10 :: u11 :: u12 :: u13 :: u14 :: u15 :: u16 :: u17 :: u18 :: u19 :: u20 :: u21 :: u22 :: u23 :: u24 :: u25 :: u26 :: u27 :: u28 :: u29 :: u30 :: u31 :: u32 :: u33 :: u34 :: u35 :: u36 :: u37 :: u38 :: u39 :: u40 :: u41 :: u42 :: u43 :: u44 :: u45 :: u46 :: u47 :: u48 :: u49 :: u50 :: u51 :: u52 :: u53 :: u54 :: u55 :: u56 :: u57 :: u58 :: u59 :: u60 :: u61 :: u62 :: u63 :: u64 :: u65 :: u66 :: u67 :: u68 :: u69 :: u70 :: u71 :: u72 :: u73 :: u74 :: u75 :: u76 :: u77 :: u78 :: u79 :: v80 :: v81 :: v82 :: v83 :: v84 :: v85 :: v86 :: v87 :: v88 :: v89 :: v90 :: v91 :: v92 :: v93 :: v94 :: v95 :: v96 :: v97 :: v98 :: v99 :: v100 :: v101 :: u102 :: []), []⟩ wx) :
    Code.wp Tryz.prog rbMidRow_code Q ⟨List.toArray ((.slice had n hcap) :: u1 :: u2 :: (.pointer (some ⟨tb, 0, none⟩)) :: u4 :: u5 :: (.int .i64 (m : Int)) :: (.int .i64 (i : Int)) :: (.int .i64 ((m : Int) + 1)) :: u9 :: u10 :: u11 :: u12 :: u13 :: u14 :: u15 :: u16 :: u17 :: u18 :: u19 :: u20 :: u21 :: u22 :: u23 :: u24 :: u25 :: u26 :: u27 :: u28 :: u29 :: u30 :: u31 :: u32 :: u33 :: u34 :: u35 :: u36 :: u37 :: u38 :: u39 :: u40 :: u41 :: u42 :: u43 :: u44 :: u45 :: u46 :: u47 :: u48 :: u49 :: u50 :: u51 :: u52 :: u53 :: u54 :: u55 :: u56 :: u57 :: u58 :: u59 :: u60 :: u61 :: u62 :: u63 :: u64 :: u65 :: u66 :: u67 :: u68 :: u69 :: u70 :: u71 :: u72 :: u73 :: u74 :: u75 :: u76 :: u77 :: u78 :: u79 :: u80 :: u81 :: u82 :: u83 :: u84 :: u85 :: u86 :: u87 :: u88 :: u89 :: u90 :: u91 :: u92 :: u93 :: u94 :: u95 :: u96 :: u97 :: u98 :: u99 :: u100 :: u101 :: u102 :: []), []⟩ w1 := by
  conv => arg 2; whnf
  have HK := Lib.hid hK
  clear hK
  obtain ⟨B, hB⟩ : ∃ B, B = tStage hs m i m := ⟨_, rfl⟩
  have HB := Lib.hid hB
  clear hB
  go_wp2_with fail
  go_loopw [8] (fun kv wr => ∃ k : Nat, k ≤ n ∧ m < k ∧ kv = .int .i64 k ∧ Hid (Own w (T60 tb (tMid hs m i k) * R) wr)) (fun kv _ => n - (intOf kv).toNat)
  case atStart => exact ⟨m + 1, by omega, by omega, by go_num, Lib.hid (by have := HP.out; rw [show tMid hs m i (m + 1) = tMid hs m i 0 from funext fun a => funext fun b => tMid_first hs m i a b]; exact this)⟩
  case round =>
    clear HP
    obtain ⟨k, hk, hmk, rfl, HO⟩ := hrel
    by_cases hlt : k < n
    rotate_left
    · have hkn : k = n := by omega
      subst hkn
      have HO2 : Hid (Own w (T60 tb (tMid hs m (i + 1) 0) * R) wr) := Lib.hid (by
        rw [show tMid hs m (i + 1) 0 = tMid hs m i k from funext fun a => funext fun b => by rw [← tMid_row, HLN.out]]; exact HO.out)
      go_wp2_with fail
      apply HK.out
      exact HO2.out
    have i0 : (0 : Int) ≤ (k : Int) := by omega
    have j0 : (0 : Int) ≤ (i : Int) := by omega
    have m0 : (0 : Int) ≤ (m : Int) := by omega
    have i6 : (k : Int) < 60 := by omega
    have j6 : (i : Int) < 60 := by omega
    have m6 : (m : Int) < 60 := by omega
    have b0 := HO.out.t60 (i := i) (k := m) (by omega) (by omega)
    have b1 := HO.out.t60 (i := m) (k := k) (by omega) (by omega)
    have b2 := HO.out.t60 (i := i) (k := k) (by omega) (by omega)
    have b3 := HO.out.t60_free (i * 60 + k) none
    rw [tMid_low hs m i k i m (Nat.le_refl m), ← HB.out] at b0
    rw [tMid_own] at b1
    obtain ⟨C, hC⟩ : ∃ C, C = tStage hs m m k := ⟨_, rfl⟩
    rw [← hC] at b1
    have HC := Lib.hid hC
    clear hC
    cases B
    · have HO2 : Hid (Own w (T60 tb (tMid hs m (i + 1) 0) * R) wr) := Lib.hid (by
        have e1 : tMid hs m (i + 1) 0 = tMid hs m i k := by
          funext a b
          rw [← tMid_skip hs m i a b HB.out.symm]
          unfold tMid
          by_cases e : a = i
          · subst e; rw [← HB.out]; simp
          · rw [decide_eq_false e]; simp
        rw [e1]; exact HO.out)
      go_wp2_with fail
      apply HK.out
      exact HO2.out
    have hst := fun (a b : Nat) => tMid_step hs m i k a b hi hmk HB.out.symm
    rw [← HC.out] at hst
    cases C
    · have hsame : tMid hs m i k = tMid hs m i (k + 1) := by
        funext a b
        rw [hst]
        by_cases e : a = i ∧ b = k
        · rw [if_pos e, e.1, e.2, Bool.or_false]
        · rw [if_neg e]
      have HO3 : Hid (Own w (T60 tb (tMid hs m i (k + 1)) * R) wr) := Lib.hid (by rw [← hsame]; exact HO.out)
      clear hsame hst
      go_wp2_with fail
      go_roundw
      case rel => exact ⟨k + 1, by omega, by omega, by go_num, HO3⟩
      case measure => simp [intOf]; omega
    · have HO3 := Lib.hid (HO.out.t60_set (g := tMid hs m i (k + 1)) (i := i) (k := k) (by omega) (by omega) true (fun a b => by rw [hst, Bool.or_true]))
      clear hst
      go_wp2_with fail
      go_roundw
      case rel => exact ⟨k + 1, by omega, by omega, by go_num, HO3⟩
      case measure => simp [intOf]; omega
noncomputable def rbMid_code : Code := ((Tryz.f44.body.bind (findBlock 6)).getD .skip)
set_option maxRecDepth 1000000 in
set_option maxHeartbeats 4000000 in
theorem rbMid {Q : Exit → Act → World → Prop} {u1 u2 u4 u5 u8 u9 u10 u11 u12 u13 u14 u15 u16 u17 u18 u19 u20 u21 u22 u23 u24 u25 u26 u27 u28 u29 u30 u31 u32 u33 u34 u35 u36 u37 u38 u39 u40 u41 u42 u43 u44 u45 u46 u47 u48 u49 u50 u51 u52 u53 u54 u55 u56 u57 u58 u59 u60 u61 u62 u63 u64 u65 u66 u67 u68 u69 u70 u71 u72 u73 u74 u75 u76 u77 u78 u79 u80 u81 u82 u83 u84 u85 u86 u87 u88 u89 u90 u91 u92 u93 u94 u95 u96 u97 u98 u99 u100 u101 u102 : Value} {w1 : World} (w : World) (R : HProp) (tb n m hcap : Nat) (had : Option Addr) (hs : List Ev) (hm : m < n) (hn : n ≤ 60) (hc1 : n ≤ hcap) (hc2 : hcap ≤ 9223372036854775807) (HLN : Hid (hs.length = n)) (HP : Hid (Own w (T60 tb (tStage hs m) * R) w1))
    (hK : ∀ (v7 v8 v73 v74 v75 v76 v77 v78 v79 v80 v81 v82 v83 v84 v85 v86 v87 v88 v89 v90 v91 v92 v93 v94 v95 v96 v97 v98 v99 v100 v101 : Value) (wx : World), (Own w (T60 tb (tStage hs (m + 1)) * R) wx) → Q .normal ⟨List.toArray ((.slice had n hcap) :: u1 :: u2 :: (.pointer (some ⟨tb, 0, none⟩)) :: u4 :: u5 :: (.int .i64 (m : Int)) :: v7 :: v8 :: u9 :: u10 :: u11 :: u12 :: u13 :: u14 :: u15 :: u16 :: u17 :: u18 :: u19 :: u20 :: u21 :: u22 :: u23 :: u24 :: u25 :: u26 :: u27 :: u28 :: u29 :: u30 :: u31 :: u32 :: u33 :: u34 :: u35 :: u36 :: u37 :: u38 :: u39 :: u40 :: u41 :: u42 :: u43 :: u44 :: u45 :: u46 :: u47 :: u48 :: u49 :: u50 :: u51 :: u52 :: u53 :: u54 :: u55 :: u56 :: u57 :: u58 :: u59 :: u60 :: u61 :: u62 :: u63 :: u64 :: u65 :: u66 :: u67 :: u68 :: u69 :: u70 :: u71 :: u72 :: v73 :: v74 :: v75 :: v76 :: v77 :: v78 :: v79 :: v80 :: v81 :: v82 :: v83 :: v84 :: v85 :: v86 :: v87 :: v88 :: v89 :: v90 :: v91 :: v92 :: v93 :: v94 :: v95 :: v96 :: v97 :: v98 :: v99 :: v100 :: v101 :: u102 :: []), []⟩ wx) :
    Code.wp Tryz.prog rbMid_code Q ⟨List.toArray ((.slice had n hcap) :: u1 :: u2 :: (.pointer (some ⟨tb, 0, none⟩)) :: u4 :: u5 :: (.int .i64 (m : Int)) :: (.int .i64 0) :: u8 :: u9 :: u10 :: u11 :: u12 :: u13 :: u14 :: u15 :: u16 :: u17 :: u18 :: u19 :: u20 :: u21 :: u22 :: u23 :: u24 :: u25 :: u26 :: u27 :: u28 :: u29 :: u30 :: u31 :: u32 :: u33 :: u34 :: u35 :: u36 :: u37 :: u38 :: u39 :: u40 :: u41 :: u42 :: u43 :: u44 :: u45 :: u46 :: u47 :: u48 :: u49 :: u50 :: u51 :: u52 :: u53 :: u54 :: u55 :: u56 :: u57 :: u58 :: u59 :: u60 :: u61 :: u62 :: u63 :: u64 :: u65 :: u66 :: u67 :: u68 :: u69 :: u70 :: u71 :: u72 :: u73 :: u74 :: u75 :: u76 :: u77 :: u78 :: u79 :: u80 :: u81 :: u82 :: u83 :: u84 :: u85 :: u86 :: u87 :: u88 :: u89 :: u90 :: u91 :: u92 :: u93 :: u94 :: u95 :: u96 :: u97 :: u98 :: u99 :: u100 :: u101 :: u102 :: []), []⟩ w1 := by
  conv => arg 2; whnf
  have HK := Lib.hid hK
  clear hK
  go_wp2_with fail
  go_loopw [7] (fun iv wr => ∃ i : Nat, i ≤ m ∧ iv = .int .i64 i ∧ Hid (Own w (T60 tb (tMid hs m i 0) * R) wr)) (fun iv _ => m - (intOf iv).toNat)
  case atStart => exact ⟨0, Nat.zero_le _, rfl, Lib.hid (by rw [show tMid hs m 0 0 = tStage hs m from funext fun a => funext fun b => tMid_zero hs m a b]; exact HP.out)⟩
  case round =>
    clear HP
    obtain ⟨i, hi, rfl, HO⟩ := hrel
    by_cases hlt : i < m
    rotate_left
    · have hin : i = m := by omega
      subst hin
      have HO2 : Hid (Own w (T60 tb (tStage hs (i + 1)) * R) wr) := Lib.hid (by
        rw [show tStage hs (i + 1) = tMid hs i i 0 from funext fun a => funext fun b => (tMid_all hs i a b).symm]; exact HO.out)
      go_wp2_with fail
      apply HK.out
      exact HO2.out
    go_upto_block 8 with fail
    refine rbMidRow w R tb n m i hcap had hs hm hlt hn hc1 hc2 HLN HO ?_
    intros
    rename_i wq hcut
    have HO2 := Lib.hid hcut
    clear hcut HO
    go_wp2_with fail
    go_roundw
    case rel => exact ⟨i + 1, by omega, by go_num, HO2⟩
    case measure => simp [intOf]; omega
noncomputable def rbStage_code : Code := ((Tryz.f44.body.bind (findBlock 4)).getD .skip)
set_option maxRecDepth 1000000 in
set_option maxHeartbeats 4000000 in
theorem rbStage {Q : Exit → Act → World → Prop} {u1 u2 u4 u5 u7 u8 u9 u10 u11 u12 u13 u14 u15 u16 u17 u18 u19 u20 u21 u22 u23 u24 u25 u26 u27 u28 u29 u30 u31 u32 u33 u34 u35 u36 u37 u38 u39 u40 u41 u42 u43 u44 u45 u46 u47 u48 u49 u50 u51 u52 u53 u54 u55 u56 u57 u58 u59 u60 u61 u62 u63 u64 u65 u66 u67 u68 u69 u70 u71 u72 u73 u74 u75 u76 u77 u78 u79 u80 u81 u82 u83 u84 u85 u86 u87 u88 u89 u90 u91 u92 u93 u94 u95 u96 u97 u98 u99 u100 u101 u102 : Value} {w1 : World} (w : World) (R : HProp) (tb n hcap : Nat) (had : Option Addr) (hs : List Ev) (hn : n ≤ 60) (hc1 : n ≤ hcap) (hc2 : hcap ≤ 9223372036854775807) (HLN : Hid (hs.length = n)) (HP : Hid (Own w (T60 tb (tStage hs 0) * R) w1))
    (hK : ∀ (v6 v7 v8 v67 v68 v69 v70 v71 v72 v73 v74 v75 v76 v77 v78 v79 v80 v81 v82 v83 v84 v85 v86 v87 v88 v89 v90 v91 v92 v93 v94 v95 v96 v97 v98 v99 v100 v101 : Value) (wx : World), (Own w (T60 tb (fun i k => bef hs k i) * R) wx) → Q .normal ⟨List.toArray ((.slice had n hcap) :: u1 :: u2 :: (.pointer (some ⟨tb, 0, none⟩)) :: u4 :: u5 :: v6 :: v7 :: v8 :: u9 :: u10 :: u11 :: u12 :: u13 :: u14 :: u15 :: u16 :: u17 :: u18 :: u19 :: u20 :: u21 :: u22 :: u23 :: u24 :: u25 :: u26 :: u27 :: u28 :: u29 :: u30 :: u31 :: u32 :: u33 :: u34 :: u35 :: u36 :: u37 :: u38 :: u39 :: u40 :: u41 :: u42 :: u43 :: u44 :: u45 :: u46 :: u47 :: u48 :: u49 :: u50 :: u51 :: u52 :: u53 :: u54 :: u55 :: u56 :: u57 :: u58 :: u59 :: u60 :: u61 :: u62 :: u63 :: u64 :: u65 :: u66 :: v67 :: v68 :: v69 :: v70 :: v71 :: v72 :: v73 :: v74 :: v75 :: v76 :: v77 :: v78 :: v79 :: v80 :: v81 :: v82 :: v83 :: v84 :: v85 :: v86 :: v87 :: v88 :: v89 :: v90 :: v91 :: v92 :: v93 :: v94 :: v95 :: v96 :: v97 :: v98 :: v99 :: v100 :: v101 :: u102 :: []), []⟩ wx) :
    Code.wp Tryz.prog rbStage_code Q ⟨List.toArray ((.slice had n hcap) :: u1 :: u2 :: (.pointer (some ⟨tb, 0, none⟩)) :: u4 :: u5 :: (.int .i64 0) :: u7 :: u8 :: u9 :: u10 :: u11 :: u12 :: u13 :: u14 :: u15 :: u16 :: u17 :: u18 :: u19 :: u20 :: u21 :: u22 :: u23 :: u24 :: u25 :: u26 :: u27 :: u28 :: u29 :: u30 :: u31 :: u32 :: u33 :: u34 :: u35 :: u36 :: u37 :: u38 :: u39 :: u40 :: u41 :: u42 :: u43 :: u44 :: u45 :: u46 :: u47 :: u48 :: u49 :: u50 :: u51 :: u52 :: u53 :: u54 :: u55 :: u56 :: u57 :: u58 :: u59 :: u60 :: u61 :: u62 :: u63 :: u64 :: u65 :: u66 :: u67 :: u68 :: u69 :: u70 :: u71 :: u72 :: u73 :: u74 :: u75 :: u76 :: u77 :: u78 :: u79 :: u80 :: u81 :: u82 :: u83 :: u84 :: u85 :: u86 :: u87 :: u88 :: u89 :: u90 :: u91 :: u92 :: u93 :: u94 :: u95 :: u96 :: u97 :: u98 :: u99 :: u100 :: u101 :: u102 :: []), []⟩ w1 := by
  conv => arg 2; whnf
  have HK := Lib.hid hK
  clear hK
  go_wp2_with fail
  go_loopw [6] (fun mv wr => ∃ m : Nat, m ≤ n ∧ mv = .int .i64 m ∧ Hid (Own w (T60 tb (tStage hs m) * R) wr)) (fun mv _ => n - (intOf mv).toNat)
  case atStart => exact ⟨0, Nat.zero_le _, rfl, HP⟩
  case round =>
    clear HP
    obtain ⟨m, hm, rfl, HO⟩ := hrel
    by_cases hlt : m < n
    rotate_left
    · have hin : m = n := by omega
      subst hin
      have HO2 : Hid (Own w (T60 tb (fun i k => bef hs k i) * R) wr) := Lib.hid (by
        rw [show (fun i k => bef hs k i) = tStage hs m from funext fun a => funext fun b => by rw [← tStage_all, HLN.out]]; exact HO.out)
      go_wp2_with fail
      apply HK.out
      exact HO2.out
    go_upto_block 6 with fail
    refine rbMid w R tb n m hcap had hs hlt hn hc1 hc2 HLN HO ?_
    intros
    rename_i wq hcut
    have HO2 := Lib.hid hcut
    clear hcut HO
    go_wp2_with fail
    go_roundw
    case rel => exact ⟨m + 1, by omega, by go_num, HO2⟩
    case measure => simp [intOf]; omega
theorem zero60 : Tryz.zeroCells117 = cells60 (fun _ _ => false) := by kernel_rfl
set_option maxRecDepth 100000 in
set_option maxHeartbeats 4000000 in
theorem refBefores_any {w0 w : World} {R : HProp} (v : Value) (hs : List Ev) (h : Own w0 R w) (hv : ReadsE w0 R v hs) (hlen : hs.length ≤ 60) :
    Calls Tryz.prog 44 #[v] w fun e w' => e = .returned (.agg (cells60 fun i k => bef hs k i)) ∧ Own w0 R w' := by
  obtain ⟨ad, cap, rfl, hlc, hcap⟩ := (hv _ h).shape
  obtain ⟨n, hn⟩ : ∃ n, n = hs.length := ⟨_, rfl⟩
  rw [← hn] at hv hlc hlen ⊢
  have hcap' : cap ≤ 9223372036854775807 := hcap
  have HLN := Lib.hid hn.symm
  clear hn
  obtain ⟨rb, hb_rb⟩ : ∃ zz_, zz_ = (w).heap.size := ⟨_, rfl⟩
  obtain ⟨w1, hw_w1⟩ : ∃ zz_, zz_ = (w).alloc (.cells Tryz.zeroCells117 117) := ⟨_, rfl⟩
  have h_H1 := (h).alloc (.cells Tryz.zeroCells117 117)
  rw [← hb_rb, ← hw_w1] at h_H1
  have H1 := Lib.hid h_H1
  clear h_H1
  obtain ⟨tb, hb_tb⟩ : ∃ zz_, zz_ = (w1).heap.size := ⟨_, rfl⟩
  obtain ⟨w2, hw_w2⟩ : ∃ zz_, zz_ = (w1).alloc (.cells Tryz.zeroCells117 117) := ⟨_, rfl⟩
  have h_H2 := (H1.out).alloc (.cells Tryz.zeroCells117 117)
  rw [← hb_tb, ← hw_w2] at h_H2
  have H2 := Lib.hid h_H2
  clear h_H2
  have HP : Hid (Own w0 (T60 tb (tIni hs 0 0) * (T60 rb (fun _ _ => false) * R)) w2) := Lib.hid (by
    have h2 := H2.out
    rw [zero60] at h2
    rw [show tIni hs 0 0 = fun _ _ => false from funext fun a => funext fun b => tIni_zero hs a b]
    exact h2)
  clear H1 H2
  have H := Lib.hid h; have HV := Lib.hid hv
  clear h hv
  go_enter Tryz.func44, Tryz.ntmps44
  go_upto_block 0 with fail
  have hq_tb : rb + 1 = tb := by rw [hb_tb, hw_w1, hb_rb, World.size_alloc]
  rw [← hb_rb, hq_tb, ← hw_w1, ← hw_w2]
  clear hq_tb hb_rb hb_tb hw_w1 hw_w2
  go_cut [] (fun wx => Own w0 (T60 tb (tStage hs 0) * (T60 rb (fun _ _ => false) * R)) wx)
  case first =>
    refine rbIni w0 _ tb n cap ad hs hlen hlc hcap' HLN (Lib.hid HV.out.more) HP ?_
    intros
    go_step
    go_step
    go_meet
    assumption
  case rest =>
  have HO2 := Lib.hid hcut
  clear hcut HP
  go_upto_block 4 with fail
  go_cut [] (fun wx => Own w0 (T60 tb (fun i k => bef hs k i) * (T60 rb (fun _ _ => false) * R)) wx)
  case first =>
    refine rbStage w0 _ tb n cap ad hs hlen hlc hcap' HLN HO2 ?_
    intros
    go_step
    go_step
    go_meet
    assumption
  case rest =>
  have HO3 := Lib.hid hcut
  clear hcut HO2
  go_upto_region 21 with fail
  have HS : Hid (Own w0 (T60 rb (fun _ _ => false) * (T60 tb (fun i k => bef hs k i) * R)) wc) := Lib.hid (HO3.out.perm (star_left_comm _ _ _))
  refine wp_region_lit ?_
  refine wpList_load_row rfl 117 (.tmp 3) rfl tb rfl 117 (cells60 fun i k => bef hs k i) (0, 0) _ HO3.out.blk_at.1 und60 rfl (info60 _) ?_
  refine wpList_plain rfl fun K hK => wp_store_row 117 (.tmp 2) (.tmp 102) rfl rfl rb rfl 117 (cells60 fun _ _ => false) (cells60 fun i k => bef hs k i) rfl HS.out.blk_at.1 (info60 _) (by rw [cells60_size, cells60_size]) (cells60_one _) (hK _ _ ?_)
  refine wpList_nil ?_
  have HO4 : Hid (Own w0 (T60 rb (fun i k => bef hs k i) * (T60 tb (fun i k => bef hs k i) * R)) (wc.setRow rb (cells60 fun i k => bef hs k i))) := Lib.hid (Own.setRow HS.out)
  clear hK
  go_wp2
  refine bodyPost_ret (v := .agg (cells60 fun i k => bef hs k i)) (results_cell_row rfl _ _ rb 117 _ (0, 0) _ rfl HO4.out.blk_at.1 und60 rfl (info60 _)) rfl ⟨rfl, HO4.out.drop.drop⟩
end Go.Proofs.YtdfjbnfdknpahaaGreatDoor
/- The reference's Cut. -/
namespace Go.Proofs.YtdfjbnfdknpahaaGreatDoor
set_option linter.unusedVariables false
set_option linter.unusedSimpArgs false
open Go.RowKit
def cells1 (f : Nat → Bool) : Array Value := ((List.range 60).map fun j => Value.bool (f j)).toArray
theorem cells1_get (f : Nat → Bool) {i : Nat} (hi : i < 60) : (cells1 f)[i]? = some (.bool (f i)) := by
  unfold cells1
  rw [List.getElem?_toArray, List.getElem?_map, List.getElem?_range hi]; rfl
def T1 (b : Nat) (f : Nat → Bool) : HProp := blk b (.cells (cells1 f) 116 (0, 0))
theorem Own.t1 {w0 w : World} {b : Nat} {f : Nat → Bool} {R : HProp} (h : Own w0 (T1 b f * R) w) {i : Nat} (hi : i < 60) : w.cell? ⟨b, i, none⟩ = some (.bool (f i)) := (Own.cell h _).trans (cells1_get f hi)
/-- A whole array made. -/
theorem wp_alloc_row {P : Program} {o : Oper} {a : Act} {w : World} {K : Act → World → Prop} {Q : Exit → Act → World → Prop} (ty : TypeId) (ho : o.op = .alloc ty) (cs : Array Value)
    (hz : (zeroValue ty).run P w = .ok (.agg cs) w) (h : K (a.put o.dst (.pointer (some ⟨w.heap.size, 0, none⟩))) (w.alloc (.cells cs ty))) : o.wp P a w K Q := by
  unfold Oper.wp execOp
  simp only [ho, Instr.alloc, Sem.run_bind, hz, newVar, newRow, newObj, Value.cells]
  exact h
theorem zrun60 (w : World) : (zeroValue 117).run Tryz.prog w = .ok (.agg (cells60 fun _ _ => false)) w := (zero_of_info (n := 3600) (by kernel_rfl)).1 w
/-- What Befores gave is laid into a variable: an allocation and a store. -/
theorem wp_keep60 {ops : Array Oper} {a : Act} {w w0 : World} {R : HProp} {Q : Exit → Act → World → Prop} {o1 o2 : Oper} (f : Nat → Nat → Bool) (t s : Tmp) (h1 : o1.op = .alloc 117) (g1 : o1.guard = none) (d1 : o1.dst = some t)
    (h2 : o2.op = .store 117 (.tmp t) (.tmp s)) (g2 : o2.guard = none) (d2 : o2.dst = none) (hx : ∀ b, (a.put (some t) b).eval (.tmp t) = b) (hy : ∀ b, (a.put (some t) b).eval (.tmp s) = .agg (cells60 f)) (ho : Own w0 R w)
    (h : ∀ b w', Own w0 (T60 b f * R) w' → Q .normal (a.put (some t) (.pointer (some ⟨b, 0, none⟩))) w') : wpList Tryz.prog ops Q [o1, o2] a w := by
  refine wpList_plain g1 fun K hK => wp_alloc_row 117 h1 (cells60 fun _ _ => false) (zrun60 w) (hK _ _ ?_)
  have hn := ho.alloc (.cells (cells60 fun _ _ => false) 117)
  refine wpList_plain g2 fun K hK => wp_store_row 117 (.tmp t) (.tmp s) h2 d2 w.heap.size (by rw [d1]; exact hx _) 117 (cells60 fun _ _ => false) (cells60 f) (by rw [d1]; exact hy _) hn.blk_at.1 (info60 _) (by rw [cells60_size, cells60_size]) (cells60_one _) (hK _ _ ?_)
  refine wpList_nil ?_
  rw [d1]
  exact h _ _ (Own.setRow hn)
end Go.Proofs.YtdfjbnfdknpahaaGreatDoor
/- The reference's Cut, continued. -/
namespace Go.Proofs.YtdfjbnfdknpahaaGreatDoor
set_option linter.unusedVariables false
set_option linter.unusedSimpArgs false
open Go.RowKit
end Go.Proofs.YtdfjbnfdknpahaaGreatDoor
