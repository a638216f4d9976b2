/- What plain.Told makes of an error: its number. -/
import Derived.Test.YtpgonkecicmanaaDoorMFlushPlays14
import Derived.Test.YtpgonkecicmanaaDoorMFlushPlays12
namespace Go.Proofs.YtpgonkecicmanaaDoor
open Go.RowKit
set_option linter.unusedVariables false
/-- What plain.Told makes of an error. -/
theorem tell_any {w0 w : World} {R : HProp} (hg : As.Handle w0) (n : Nat) (h : Own w0 R w) :
    Calls Tryd.prog 63 #[errV n] w fun e w' => e = .returned (.int .i64 n) ∧ Own w0 R w' := by
  have HH := Lib.hid h
  cases n with
  | zero =>
    rw [errV0]
    go_enter Tryd.func63, Tryd.ntmps63
    go_wp2
    go_ret
    exact ⟨rfl, HH.out⟩
  | succ n =>
    rw [show errV (n + 1) = .iface 125 (.int .i64 ((n : Int) + 1)) from rfl]
    have hlt : (⟨0, 0, none⟩ : Addr).block < w0.heap.size := World.block_lt_of_cell? _ _ hg
    have hw : As.Handle w := by unfold As.Handle; rw [h.below.cell (p := ⟨0, 0, none⟩) hlt]; exact hg
    have hlw : (⟨0, 0, none⟩ : Addr).block < w.heap.size := World.block_lt_of_cell? _ _ hw
    have hw1 : As.Handle (w.alloc (.cells #[.int .i64 0] 125)) := by unfold As.Handle; rw [World.cell?_alloc_lt _ _ _ hlw]; exact hw
    have HW1 := Lib.hid hw1
    have g1 := (h.alloc (.cells #[.int .i64 0] 125))
    have HC := Lib.hid (g1.cell 0); have HF := Lib.hid (g1.free 0 none)
    clear hw hw1 hlw hlt h g1 hg
    go_enter Tryd.func63, Tryd.ntmps63
    go_wp2_with fail
    refine (As.as_hit _ ⟨w.heap.size, 0, none⟩ (.int .i64 0) _ HW1.out HC.out HF.out).mono ?_
    rintro e w' ⟨rfl, rfl⟩
    go_wp2
    go_ret
    exact ⟨by simp, ((((HH.out.alloc' _).alloc' _).alloc' _).alloc' _).alloc' _⟩
/-- Is an error the one told? -/
theorem sameErr_any {w0 w : World} {R : HProp} (hg : As.Handle w0) (n : Nat) (m : Int) (h : Own w0 R w) :
    Calls Tryd.prog 11 #[errV n, .int .i64 m] w fun e w' => e = .returned (.bool ((n : Int) == m)) ∧ Own w0 R w' := by
  have T := Lib.hid (tell_any hg n h)
  clear hg h
  go_enter Tryd.func11, Tryd.ntmps11
  go_wp2_with fail
  refine (T.out).mono ?_
  rintro e w' ⟨rfl, ho⟩
  have HO := Lib.hid ho
  clear ho
  go_wp2
  go_ret
  exact ⟨rfl, HO.out⟩
end Go.Proofs.YtpgonkecicmanaaDoor
/- FlushPlays: one step of the law. -/
namespace Go.Proofs.YtpgonkecicmanaaDoor
set_option linter.unusedVariables false
set_option linter.unusedSimpArgs false
open Go.RowKit Go.Maps
theorem fp_same (n : Nat) : ((n : Int) == (n : Int)) = true := by simp
structure FpI (s : Fl) : Prop where
  inv : flInv s
  see : memErr s.has = 0
theorem FpI.say {s : Fl} (h : FpI s) (a b : Int) : FpI (flSay s a b) := ⟨flInv_say h.inv a b, by
  have : (flSay s a b).has = s.has := by unfold flSay; split <;> rfl
  rw [this]; exact h.see⟩
theorem FpI.give {s : Fl} (h : FpI s) (a b : Int) : FpI (flGive s a b) := ⟨flInv_give h.inv a b, by
  have : (flGive s a b).has = s.has := by unfold flGive; split <;> rfl
  rw [this]; exact h.see⟩
theorem FpI.change {s : Fl} (h : FpI s) (B : List Int) : FpI (flChange s B) := ⟨flInv_change h.inv B, by
  by_cases he : flNextErr s B = 0
  · rw [flChange_has he]; exact (nextErr0 he).2.2.1
  · rw [flChange_like he]; exact h.see⟩
theorem FpI.new (n : Nat) (h1 : 2 ≤ n) (h2 : n ≤ 5) : FpI (flNew n) := ⟨flInv_new n h2, by
  show memErr (upTo n) = 0
  have : n = 2 ∨ n = 3 ∨ n = 4 ∨ n = 5 := by omega
  rcases this with rfl | rfl | rfl | rfl <;> rfl⟩
set_option maxRecDepth 100000 in
set_option maxHeartbeats 4000000 in
theorem rfChange_any {w0 w : World} {R : HProp} (q : Nat) (s : Fl) (v : Value) (B : List Int) (hI : FpI s) (hB : ∀ R, Reads w0 R v B) (h : Own w0 (RfP q s * R) w) :
    Calls Tryd.prog 37 #[.pointer (some ⟨q, 0, none⟩), v] w fun e w' => e = .returned (.int .i64 (flNextErr s B : Nat)) ∧ Own w0 (RfP q (flChange s B) * R) w' := by
  by_cases he : flNextErr s B = 0
  · exact rfChange_yes q s v B hI.inv hI.see hB he h
  · exact rfChange_no q s v B hI.inv hI.see hB he h
set_option maxRecDepth 100000 in
set_option maxHeartbeats 4000000 in
theorem flHeard_all {w0 w : World} {R : HProp} (p : Nat) (s : Fl) (who n : Int) (hok : flOk s) (h : Own w0 (FlP p s * R) w) :
    Calls Tryd.prog 40 #[.pointer (some ⟨p, 0, none⟩), .int .i64 who, .int .i64 n] w fun e w' => ∃ v', e = .returned (.tuple #[v', errV (flHeardErr s who n)]) ∧ Own w0 (IntSl v' (flHeard s who n) * (FlP p s * R)) w' := by
  by_cases hn : I64 n
  · exact flHeard_any p s who n hok hn h
  obtain ⟨E, hE⟩ : ∃ E, E = flHeardErr s who n := ⟨_, rfl⟩
  obtain ⟨L, hL⟩ : ∃ S, S = flHeard s who n := ⟨_, rfl⟩
  rw [← hE, ← hL]
  unfold flHeard at hL
  rw [← hE] at hL
  unfold flHeardErr at hE
  obtain ⟨mb1, mb2, ha, hcp, sa, sc, m, hm', ho⟩ := h.fl_open
  obtain ⟨c0, c1, c2, c3, c4, cf⟩ := ho.fl_facts
  clear c1 c2 c3 cf
  cases h1 : isMember who
  · rw [if_pos h1] at hE
    subst hE
    rw [if_neg (by simp)] at hL
    subst hL
    have H1 := Lib.hid h1; have H := Lib.hid h; have HO := Lib.hid ho; have HM' := Lib.hid hm'; have HN := Lib.hid hn
    clear h1 h ho hm' hn
    go_enter Tryd.func40, Tryd.ntmps40
    go_wp2_with fail
    refine (member_any _ _).mono ?_
    rintro e w' ⟨rfl, rfl⟩
    rw [H1.out]
    go_wp2
    go_ret2
    exact ⟨_, rfl, H.out.sl_nil _ _⟩
  rw [if_neg (by rw [h1]; simp)] at hE
  by_cases h2 : n < 0
  · rw [if_pos h2] at hE
    subst hE
    rw [if_neg (by simp)] at hL
    subst hL
    have H1 := Lib.hid h1; have H := Lib.hid h; have HO := Lib.hid ho; have HM' := Lib.hid hm'; have HN := Lib.hid hn
    clear h1 h ho hm' hn
    go_enter Tryd.func40, Tryd.ntmps40
    go_wp2_with fail
    refine (member_any _ _).mono ?_
    rintro e w' ⟨rfl, rfl⟩
    rw [H1.out]
    go_wp2
    go_ret2
    exact ⟨_, rfl, H.out.sl_nil _ _⟩
  rw [if_neg h2] at hE
  have t2 : decide (n < 0) = false := by simp; omega
  obtain ⟨y, hy⟩ : ∃ y, y = s.n := ⟨_, rfl⟩
  have h3 : y < n := by
    have := hok.1
    rw [hy]
    unfold I64 at hn
    omega
  rw [← hy] at hE c0
  rw [if_pos h3] at hE
  subst hE
  rw [if_neg (by simp)] at hL
  subst hL
  have t3 : decide (y < n) = true := by simp; omega
  have H1 := Lib.hid h1; have H := Lib.hid h; have HO := Lib.hid ho; have HM' := Lib.hid hm'; have H2 := Lib.hid h2; have H3 := Lib.hid h3; have HY := Lib.hid hy; have HN := Lib.hid hn
  clear h1 h ho hm' h2 h3 hy hn
  go_enter Tryd.func40, Tryd.ntmps40
  go_wp2_with fail
  refine (member_any _ _).mono ?_
  rintro e w' ⟨rfl, rfl⟩
  rw [H1.out]
  go_wp2
  go_ret2
  exact ⟨_, rfl, H.out.sl_nil _ _⟩
end Go.Proofs.YtpgonkecicmanaaDoor
/- FlushPlays: the switch of one step. -/
namespace Go.Proofs.YtpgonkecicmanaaDoor
set_option linter.unusedVariables false
set_option linter.unusedSimpArgs false
open Go.RowKit Go.Maps
def FpC (w : World) (p q vb tn : Nat) (l : List Int) (tv av : Value) (wx : World) : Prop := tv = .bool true ∧ ∃ (j : Nat) (s2 : Fl), j ≤ tn ∧ av = .int .i64 (j : Int) ∧ FpI s2 ∧ Own w (FlP p s2 * (RfP q s2 * (Nms 42 vb l * emp))) wx
def FpH (w w1 : World) (tn : Nat) (av hv : Value) (wx : World) : Prop := ∃ (j : Nat) (B : List Int), j ≤ tn ∧ av = .int .i64 (j : Int) ∧ (∀ R, Reads w R hv B) ∧ wx = w1
noncomputable def fpFill_code : Code := ((Tryd.f5.body.bind (findBlock 2)).getD .skip)
set_option maxRecDepth 1000000 in
set_option maxHeartbeats 4000000 in
theorem fpFill {Q : Exit → Act → World → Prop} {u0 u2 u3 u4 u5 u6 u7 u8 u9 u10 u11 u12 u16 u17 u18 u19 u20 u21 u22 u23 u24 u25 u26 u27 u28 u29 u30 u31 u32 u33 u34 u35 u36 u37 u38 u39 u40 u41 u42 u43 u44 u45 u46 u47 u48 u49 u50 u51 u52 u53 u54 u55 u56 u57 u58 u59 u60 u61 u62 u63 u64 u65 u66 u67 u68 u69 u70 u71 u72 u73 u74 u75 u76 u77 u78 u79 u80 u81 u82 u83 u84 u85 u86 u87 u88 u89 u90 u91 u92 u93 u94 u95 u96 u97 u98 u99 u100 u101 u102 u103 u104 u105 u106 u107 u108 u109 u110 u111 u112 u113 u114 u115 u116 u117 u118 u119 u120 u121 u122 u123 u124 u125 u126 u127 u128 u129 u130 u131 u132 u133 u134 u135 u136 u137 u138 u139 u140 u141 u142 u143 u144 u145 u146 u147 u148 u149 u150 u151 u152 u153 u154 u155 u156 u157 u158 u159 u160 u161 u162 u163 u164 u165 u166 u167 u168 u169 u170 u171 u172 u173 u174 u175 u176 u177 u178 u179 u180 u181 u182 u183 u184 u185 u186 u187 u188 u189 u190 u191 u192 u193 u194 u195 u196 u197 u198 u199 u200 u201 u202 u203 u204 u205 u206 u207 u208 u209 u210 u211 u212 u213 u214 u215 u216 u217 u218 u219 u220 u221 u222 u223 : Value} {w1 : World} (w : World) (R : HProp) (vb k : Nat) (steps : List (List Int)) (row : List Int) (a2 : Addr) (scap rcap : Nat) (rad : Option Addr) (h1 : k < steps.length) (hc1 : steps.length ≤ scap) (hc2 : scap ≤ 9223372036854775807) (HR : Hid (Ints w (.slice rad row.length rcap) row)) (HC : Hid (∀ (w1 : World) (P : HProp), Own w P w1 → w1.cell? (a2.add k) = some (.slice rad row.length rcap))) (HT : Hid (Own w (Nms 42 vb [0, 0, 0] * R) w1))
    (hK : ∀ (v15 v58 v59 v60 v61 v62 v63 v64 v65 v66 v67 v68 v69 v70 v71 v72 v73 v74 v75 v76 v77 v78 v79 : Value) (wx : World), (NmV 42 3 w vb R wx) → Q .normal ⟨List.toArray (u0 :: (.slice (some a2) steps.length scap) :: u2 :: u3 :: u4 :: u5 :: u6 :: u7 :: u8 :: u9 :: u10 :: u11 :: u12 :: (.int .i64 (k : Int)) :: (.pointer (some ⟨vb, 0, none⟩)) :: v15 :: u16 :: u17 :: u18 :: u19 :: u20 :: u21 :: u22 :: u23 :: u24 :: u25 :: u26 :: u27 :: u28 :: u29 :: u30 :: u31 :: u32 :: u33 :: u34 :: u35 :: u36 :: u37 :: u38 :: u39 :: u40 :: u41 :: u42 :: u43 :: u44 :: u45 :: u46 :: u47 :: u48 :: u49 :: u50 :: u51 :: u52 :: u53 :: u54 :: u55 :: u56 :: u57 :: v58 :: v59 :: v60 :: v61 :: v62 :: v63 :: v64 :: v65 :: v66 :: v67 :: v68 :: v69 :: v70 :: v71 :: v72 :: v73 :: v74 :: v75 :: v76 :: v77 :: v78 :: v79 :: u80 :: u81 :: u82 :: u83 :: u84 :: u85 :: u86 :: u87 :: u88 :: u89 :: u90 :: u91 :: u92 :: u93 :: u94 :: u95 :: u96 :: u97 :: u98 :: u99 :: u100 :: u101 :: u102 :: u103 :: u104 :: u105 :: u106 :: u107 :: u108 :: u109 :: u110 :: u111 :: u112 :: u113 :: u114 :: u115 :: u116 :: u117 :: u118 :: u119 :: u120 :: u121 :: u122 :: u123 :: u124 :: u125 :: u126 :: u127 :: u128 :: u129 :: u130 :: u131 :: u132 :: u133 :: u134 :: u135 :: u136 :: u137 :: u138 :: u139 :: u140 :: u141 :: u142 :: u143 :: u144 :: u145 :: u146 :: u147 :: u148 :: u149 :: u150 :: u151 :: u152 :: u153 :: u154 :: u155 :: u156 :: u157 :: u158 :: u159 :: u160 :: u161 :: u162 :: u163 :: u164 :: u165 :: u166 :: u167 :: u168 :: u169 :: u170 :: u171 :: u172 :: u173 :: u174 :: u175 :: u176 :: u177 :: u178 :: u179 :: u180 :: u181 :: u182 :: u183 :: u184 :: u185 :: u186 :: u187 :: u188 :: u189 :: u190 :: u191 :: u192 :: u193 :: u194 :: u195 :: u196 :: u197 :: u198 :: u199 :: u200 :: u201 :: u202 :: u203 :: u204 :: u205 :: u206 :: u207 :: u208 :: u209 :: u210 :: u211 :: u212 :: u213 :: u214 :: u215 :: u216 :: u217 :: u218 :: u219 :: u220 :: u221 :: u222 :: u223 :: []), []⟩ wx) :
    Code.wp Tryd.prog fpFill_code Q ⟨List.toArray (u0 :: (.slice (some a2) steps.length scap) :: u2 :: u3 :: u4 :: u5 :: u6 :: u7 :: u8 :: u9 :: u10 :: u11 :: u12 :: (.int .i64 (k : Int)) :: (.pointer (some ⟨vb, 0, none⟩)) :: (.int .i64 0) :: u16 :: u17 :: u18 :: u19 :: u20 :: u21 :: u22 :: u23 :: u24 :: u25 :: u26 :: u27 :: u28 :: u29 :: u30 :: u31 :: u32 :: u33 :: u34 :: u35 :: u36 :: u37 :: u38 :: u39 :: u40 :: u41 :: u42 :: u43 :: u44 :: u45 :: u46 :: u47 :: u48 :: u49 :: u50 :: u51 :: u52 :: u53 :: u54 :: u55 :: u56 :: u57 :: u58 :: u59 :: u60 :: u61 :: u62 :: u63 :: u64 :: u65 :: u66 :: u67 :: u68 :: u69 :: u70 :: u71 :: u72 :: u73 :: u74 :: u75 :: u76 :: u77 :: u78 :: u79 :: u80 :: u81 :: u82 :: u83 :: u84 :: u85 :: u86 :: u87 :: u88 :: u89 :: u90 :: u91 :: u92 :: u93 :: u94 :: u95 :: u96 :: u97 :: u98 :: u99 :: u100 :: u101 :: u102 :: u103 :: u104 :: u105 :: u106 :: u107 :: u108 :: u109 :: u110 :: u111 :: u112 :: u113 :: u114 :: u115 :: u116 :: u117 :: u118 :: u119 :: u120 :: u121 :: u122 :: u123 :: u124 :: u125 :: u126 :: u127 :: u128 :: u129 :: u130 :: u131 :: u132 :: u133 :: u134 :: u135 :: u136 :: u137 :: u138 :: u139 :: u140 :: u141 :: u142 :: u143 :: u144 :: u145 :: u146 :: u147 :: u148 :: u149 :: u150 :: u151 :: u152 :: u153 :: u154 :: u155 :: u156 :: u157 :: u158 :: u159 :: u160 :: u161 :: u162 :: u163 :: u164 :: u165 :: u166 :: u167 :: u168 :: u169 :: u170 :: u171 :: u172 :: u173 :: u174 :: u175 :: u176 :: u177 :: u178 :: u179 :: u180 :: u181 :: u182 :: u183 :: u184 :: u185 :: u186 :: u187 :: u188 :: u189 :: u190 :: u191 :: u192 :: u193 :: u194 :: u195 :: u196 :: u197 :: u198 :: u199 :: u200 :: u201 :: u202 :: u203 :: u204 :: u205 :: u206 :: u207 :: u208 :: u209 :: u210 :: u211 :: u212 :: u213 :: u214 :: u215 :: u216 :: u217 :: u218 :: u219 :: u220 :: u221 :: u222 :: u223 :: []), []⟩ w1 := by
  conv => arg 2; whnf
  have HK := Lib.hid hK
  clear hK
  go_wp2_with fail
  go_loopw [15] (fun jv w2 => ∃ (j : Nat) (l : List Int), j ≤ 3 ∧ jv = .int .i64 j ∧ Hid (l.length = 3) ∧ Hid (Own w (Nms 42 vb l * R) w2)) (fun jv _ => 3 - (intOf jv).toNat)
  case atStart => exact ⟨0, [0, 0, 0], Nat.zero_le _, rfl, Lib.hid rfl, HT⟩
  case round =>
    obtain ⟨j, l, hj, rfl, hl, hpw⟩ := hrel
    have c1 := HC.out _ _ hpw.out
    have FIN := Lib.hid (show NmV 42 3 w vb R wr from ⟨l, hl.out, hpw.out⟩)
    by_cases h3 : j < row.length
    rotate_left
    · go_wp2_with fail
      apply HK.out
      exact FIN.out
    by_cases h4 : j < 3
    rotate_left
    · go_wp2_with fail
      apply HK.out
      exact FIN.out
    obtain ⟨b3, rfl, hcb⟩ := HR.out.at_later j h3
    have c2 := hcb _ _ hpw.out
    have hjl : j < l.length := by rw [hl.out]; exact h4
    have c3 := hpw.out.nms_cell j hjl
    have c4 := hpw.out.nms_free j
    have HS := Lib.hid (hpw.out.nms_set j row[j])
    have i0 : (0 : Int) ≤ (j : Int) := by omega
    have i3 : (j : Int) < 3 := by omega
    clear hcb
    go_wp2_with fail
    go_roundw
    case rel => exact ⟨j + 1, l.set j row[j], by omega, by go_num, Lib.hid (by rw [List.length_set]; exact hl.out), HS⟩
    case measure => simp [intOf]; omega
noncomputable def fpSwitch_code : Code := ((Tryd.f5.body.bind (findBlock 4)).getD .skip)
set_option maxRecDepth 1000000 in
set_option maxHeartbeats 4000000 in
theorem fpSwitch {Q : Exit → Act → World → Prop} {u0 u1 u3 u4 u5 u6 u9 u10 u13 u15 u16 u17 u18 u19 u20 u21 u22 u23 u24 u25 u26 u27 u28 u29 u30 u31 u32 u33 u34 u35 u36 u37 u38 u39 u40 u41 u42 u43 u44 u45 u46 u47 u48 u49 u50 u51 u52 u53 u54 u55 u56 u57 u58 u59 u60 u61 u62 u63 u64 u65 u66 u67 u68 u69 u70 u71 u72 u73 u74 u75 u76 u77 u78 u79 u80 u82 u83 u84 u85 u86 u87 u88 u89 u90 u91 u92 u93 u94 u95 u96 u97 u98 u99 u100 u101 u102 u103 u104 u105 u106 u107 u108 u109 u110 u111 u112 u113 u114 u115 u116 u117 u118 u119 u120 u121 u122 u123 u124 u125 u126 u127 u128 u129 u130 u131 u132 u133 u134 u135 u136 u137 u138 u139 u140 u141 u142 u143 u144 u145 u146 u147 u148 u149 u150 u151 u152 u153 u154 u155 u156 u157 u158 u159 u160 u161 u162 u163 u164 u165 u166 u167 u168 u169 u170 u171 u172 u173 u174 u175 u176 u177 u178 u179 u180 u181 u182 u183 u184 u185 u186 u187 u188 u189 u190 u191 u192 u193 u194 u195 u196 u197 u198 u199 u200 u201 u202 u203 u204 u205 u206 u207 u208 u209 u210 u211 u212 u213 u214 u215 u216 u217 u218 u219 u220 u221 u222 u223 : Value} {w1 : World} (w : World) (hg : As.Handle w) (p q vb at0 : Nat) (x y z : Int) (s : Fl) (hI : FpI s) (sets : List (List Int)) (tad : Option Addr) (tcap : Nat) (hat : at0 ≤ sets.length) (htc1 : sets.length ≤ tcap) (htc2 : tcap ≤ 9223372036854775807) (HVT : Hid (Rows2 w (.slice tad sets.length tcap) sets)) (HO : Hid (Own w (FlP p s * (RfP q s * (Nms 42 vb [x, y, z] * emp))) w1))
    (hK : ∀ (v7 v10 v12 v16 v17 v18 v19 v82 v83 v84 v85 v86 v87 v88 v89 v90 v91 v92 v93 v94 v95 v96 v97 v98 v99 v100 v101 v102 v103 v104 v105 v106 v107 v108 v109 v110 v111 v112 v113 v114 v115 v116 v117 v118 v119 v120 v121 v122 v123 v124 v125 v126 v127 v128 v129 v130 v131 v132 v133 v134 v135 v136 v137 v138 v139 v140 v141 v142 v143 v144 v145 v146 v147 v148 v149 v150 : Value) (wx : World), (FpC w p q vb sets.length [x, y, z] v10 v12 wx) → Q .normal ⟨List.toArray (u0 :: u1 :: (.slice tad sets.length tcap) :: u3 :: u4 :: u5 :: u6 :: v7 :: (.pointer (some ⟨p, 0, none⟩)) :: u9 :: v10 :: (.pointer (some ⟨q, 0, none⟩)) :: v12 :: u13 :: (.pointer (some ⟨vb, 0, none⟩)) :: u15 :: v16 :: v17 :: v18 :: v19 :: u20 :: u21 :: u22 :: u23 :: u24 :: u25 :: u26 :: u27 :: u28 :: u29 :: u30 :: u31 :: u32 :: u33 :: u34 :: u35 :: u36 :: u37 :: u38 :: u39 :: u40 :: u41 :: u42 :: u43 :: u44 :: u45 :: u46 :: u47 :: u48 :: u49 :: u50 :: u51 :: u52 :: u53 :: u54 :: u55 :: u56 :: u57 :: u58 :: u59 :: u60 :: u61 :: u62 :: u63 :: u64 :: u65 :: u66 :: u67 :: u68 :: u69 :: u70 :: u71 :: u72 :: u73 :: u74 :: u75 :: u76 :: u77 :: u78 :: u79 :: u80 :: (.int .i64 x) :: v82 :: v83 :: v84 :: v85 :: v86 :: v87 :: v88 :: v89 :: v90 :: v91 :: v92 :: v93 :: v94 :: v95 :: v96 :: v97 :: v98 :: v99 :: v100 :: v101 :: v102 :: v103 :: v104 :: v105 :: v106 :: v107 :: v108 :: v109 :: v110 :: v111 :: v112 :: v113 :: v114 :: v115 :: v116 :: v117 :: v118 :: v119 :: v120 :: v121 :: v122 :: v123 :: v124 :: v125 :: v126 :: v127 :: v128 :: v129 :: v130 :: v131 :: v132 :: v133 :: v134 :: v135 :: v136 :: v137 :: v138 :: v139 :: v140 :: v141 :: v142 :: v143 :: v144 :: v145 :: v146 :: v147 :: v148 :: v149 :: v150 :: u151 :: u152 :: u153 :: u154 :: u155 :: u156 :: u157 :: u158 :: u159 :: u160 :: u161 :: u162 :: u163 :: u164 :: u165 :: u166 :: u167 :: u168 :: u169 :: u170 :: u171 :: u172 :: u173 :: u174 :: u175 :: u176 :: u177 :: u178 :: u179 :: u180 :: u181 :: u182 :: u183 :: u184 :: u185 :: u186 :: u187 :: u188 :: u189 :: u190 :: u191 :: u192 :: u193 :: u194 :: u195 :: u196 :: u197 :: u198 :: u199 :: u200 :: u201 :: u202 :: u203 :: u204 :: u205 :: u206 :: u207 :: u208 :: u209 :: u210 :: u211 :: u212 :: u213 :: u214 :: u215 :: u216 :: u217 :: u218 :: u219 :: u220 :: u221 :: u222 :: u223 :: []), []⟩ wx) :
    Code.wp Tryd.prog fpSwitch_code Q ⟨List.toArray (u0 :: u1 :: (.slice tad sets.length tcap) :: u3 :: u4 :: u5 :: u6 :: (.int .i64 0) :: (.pointer (some ⟨p, 0, none⟩)) :: u9 :: u10 :: (.pointer (some ⟨q, 0, none⟩)) :: (.int .i64 (at0 : Int)) :: u13 :: (.pointer (some ⟨vb, 0, none⟩)) :: u15 :: u16 :: u17 :: u18 :: u19 :: u20 :: u21 :: u22 :: u23 :: u24 :: u25 :: u26 :: u27 :: u28 :: u29 :: u30 :: u31 :: u32 :: u33 :: u34 :: u35 :: u36 :: u37 :: u38 :: u39 :: u40 :: u41 :: u42 :: u43 :: u44 :: u45 :: u46 :: u47 :: u48 :: u49 :: u50 :: u51 :: u52 :: u53 :: u54 :: u55 :: u56 :: u57 :: u58 :: u59 :: u60 :: u61 :: u62 :: u63 :: u64 :: u65 :: u66 :: u67 :: u68 :: u69 :: u70 :: u71 :: u72 :: u73 :: u74 :: u75 :: u76 :: u77 :: u78 :: u79 :: u80 :: (.int .i64 x) :: u82 :: u83 :: u84 :: u85 :: u86 :: u87 :: u88 :: u89 :: u90 :: u91 :: u92 :: u93 :: u94 :: u95 :: u96 :: u97 :: u98 :: u99 :: u100 :: u101 :: u102 :: u103 :: u104 :: u105 :: u106 :: u107 :: u108 :: u109 :: u110 :: u111 :: u112 :: u113 :: u114 :: u115 :: u116 :: u117 :: u118 :: u119 :: u120 :: u121 :: u122 :: u123 :: u124 :: u125 :: u126 :: u127 :: u128 :: u129 :: u130 :: u131 :: u132 :: u133 :: u134 :: u135 :: u136 :: u137 :: u138 :: u139 :: u140 :: u141 :: u142 :: u143 :: u144 :: u145 :: u146 :: u147 :: u148 :: u149 :: u150 :: u151 :: u152 :: u153 :: u154 :: u155 :: u156 :: u157 :: u158 :: u159 :: u160 :: u161 :: u162 :: u163 :: u164 :: u165 :: u166 :: u167 :: u168 :: u169 :: u170 :: u171 :: u172 :: u173 :: u174 :: u175 :: u176 :: u177 :: u178 :: u179 :: u180 :: u181 :: u182 :: u183 :: u184 :: u185 :: u186 :: u187 :: u188 :: u189 :: u190 :: u191 :: u192 :: u193 :: u194 :: u195 :: u196 :: u197 :: u198 :: u199 :: u200 :: u201 :: u202 :: u203 :: u204 :: u205 :: u206 :: u207 :: u208 :: u209 :: u210 :: u211 :: u212 :: u213 :: u214 :: u215 :: u216 :: u217 :: u218 :: u219 :: u220 :: u221 :: u222 :: u223 :: []), []⟩ w1 := by
  conv => arg 2; whnf
  have HK := Lib.hid hK
  clear hK
  have hok : flOk s := hI.inv.1.ok
  have hfew : s.said.length ≤ 900 := hI.inv.1.few
  have d1 : w1.cell? ⟨vb, 1, none⟩ = some (.int .i64 y) := HO.out.third.nms_cell 1 (by simp)
  have d2 : w1.cell? ⟨vb, 2, none⟩ = some (.int .i64 z) := HO.out.third.nms_cell 2 (by simp)
  obtain ⟨l, hl⟩ : ∃ l, l = [x, y, z] := ⟨_, rfl⟩
  have HDC : Hid (∀ w' R, Own w (Nms 42 vb l * R) w' → w'.cell? ⟨vb, 1, none⟩ = some (.int .i64 y) ∧ w'.cell? ⟨vb, 2, none⟩ = some (.int .i64 z)) := Lib.hid (fun w' R h => by
    rw [hl] at h
    exact ⟨h.nms_cell 1 (by simp), h.nms_cell 2 (by simp)⟩)
  rw [← hl] at HO HK
  have HIS := Lib.hid hI
  have HI := Lib.hid hI; have HOK := Lib.hid hok; have HFEW := Lib.hid hfew; have HG := Lib.hid hg; have HL := Lib.hid hl
  clear hI hok hfew hg hl
  by_cases h01 : x = 0 ∨ x = 1
  · skip
    obtain ⟨E, hE⟩ : ∃ E, E = flSayErr s y z := ⟨_, rfl⟩
    obtain ⟨S2, hS2⟩ : ∃ S, S = flSay s y z := ⟨_, rfl⟩
    have hni := HIS.out.say y z
    rw [← hS2] at hni
    have tE := fp_same E
    have HNI := Lib.hid hni; have HE := Lib.hid hE; have HS2 := Lib.hid hS2
    clear hni hE hS2
    rcases h01 with rfl | rfl
    all_goals
      go_wp2_with fail
      refine (rfSay_any q s y z HIS.out.inv (HO.out.perm (star_left_comm _ _ _))).mono ?_
      rintro e w2 ⟨rfl, ho⟩
      rw [← HE.out]
      rw [← HS2.out] at ho
      have HO2 := Lib.hid (ho.perm (star_left_comm _ _ _))
      clear ho d1 d2
      obtain ⟨d1, d2⟩ := HDC.out _ _ HO2.out.third
      go_wp2_with fail
      refine (flSay_any p s y z HOK.out HFEW.out HO2.out).mono ?_
      rintro e w3 ⟨rfl, ho⟩
      rw [← HE.out]
      rw [← HS2.out] at ho
      have HO3 := Lib.hid ho
      clear ho d1 d2 HO2
      go_wp2_with fail
      refine (sameErr_any HG.out E E HO3.out).mono ?_
      rintro e w4 ⟨rfl, ho⟩
      rw [tE]
      have HO4 := Lib.hid ho
      clear ho HO3
      go_wp2_with fail
      apply HK.out
      exact ⟨rfl, at0, S2, hat, rfl, HNI.out, HO4.out⟩
  by_cases h25 : x = 2 ∨ x = 3 ∨ x = 4 ∨ x = 5
  · skip
    obtain ⟨E, hE⟩ : ∃ E, E = flGiveErr s y z := ⟨_, rfl⟩
    obtain ⟨S2, hS2⟩ : ∃ S, S = flGive s y z := ⟨_, rfl⟩
    have hni := HIS.out.give y z
    rw [← hS2] at hni
    have tE := fp_same E
    have HNI := Lib.hid hni; have HE := Lib.hid hE; have HS2 := Lib.hid hS2
    clear hni hE hS2
    clear h01
    rcases h25 with rfl | rfl | rfl | rfl
    all_goals
      go_wp2_with fail
      refine (rfGive_any q s y z HIS.out.inv (HO.out.perm (star_left_comm _ _ _))).mono ?_
      rintro e w2 ⟨rfl, ho⟩
      rw [← HE.out]
      rw [← HS2.out] at ho
      have HO2 := Lib.hid (ho.perm (star_left_comm _ _ _))
      clear ho d1 d2
      obtain ⟨d1, d2⟩ := HDC.out _ _ HO2.out.third
      go_wp2_with fail
      refine (flGive_any p s y z HOK.out HO2.out).mono ?_
      rintro e w3 ⟨rfl, ho⟩
      rw [← HE.out]
      rw [← HS2.out] at ho
      have HO3 := Lib.hid ho
      clear ho d1 d2 HO2
      go_wp2_with fail
      refine (sameErr_any HG.out E E HO3.out).mono ?_
      rintro e w4 ⟨rfl, ho⟩
      rw [tE]
      have HO4 := Lib.hid ho
      clear ho HO3
      go_wp2_with fail
      apply HK.out
      exact ⟨rfl, at0, S2, hat, rfl, HNI.out, HO4.out⟩
  have b0 : (x == 0) = false := by rw [beq_eq_false_iff_ne]; omega
  have b1 : (x == 1) = false := by rw [beq_eq_false_iff_ne]; omega
  have b2 : (x == 2) = false := by rw [beq_eq_false_iff_ne]; omega
  have b3 : (x == 3) = false := by rw [beq_eq_false_iff_ne]; omega
  have b4 : (x == 4) = false := by rw [beq_eq_false_iff_ne]; omega
  have b5 : (x == 5) = false := by rw [beq_eq_false_iff_ne]; omega
  clear h01 h25 d1 d2
  go_upto_if 85 with fail
  go_cut [12, 16] from 12 to 12 (fun av hv wx => FpH w w1 sets.length av hv wx)
  case first =>
    by_cases hlt : at0 < sets.length
    rotate_left
    · go_wp2_with fail
      go_meet
      exact ⟨at0, [], hat, rfl, fun R => (Ints_nil w).reads, rfl⟩
    · obtain ⟨a2, bad, bcap, e2, hr, hc⟩ := HVT.out.at_later at0 hlt
      subst e2
      have c1 := hc _ _ HO.out
      have i0 : (0 : Int) ≤ (at0 : Int) := by omega
      have iS : (at0 : Int) < (sets.length : Int) := by omega
      clear hc
      have HR := Lib.hid hr
      clear hr
      go_wp2_with fail
      go_meet
      exact ⟨at0 + 1, sets[at0], by omega, by go_num, fun R => HR.out.reads, rfl⟩
  case rest =>
  obtain ⟨j, B, hj, rfl, hB, rfl⟩ := hcut
  rename_i hvv
  obtain ⟨bad, bcap, rfl, hbc1, hbc2⟩ := (hB _ _ HO.out).shape
  have HB := Lib.hid hB
  clear hB
  obtain ⟨E, hE⟩ : ∃ E, E = flNextErr s B := ⟨_, rfl⟩
  obtain ⟨S2, hS2⟩ : ∃ S, S = flChange s B := ⟨_, rfl⟩
  have hni := HIS.out.change B
  rw [← hS2] at hni
  have tE := fp_same E
  have HNI := Lib.hid hni; have HE := Lib.hid hE; have HS2 := Lib.hid hS2
  clear hni hE hS2
  go_wp2_with fail
  refine (rfChange_any q s _ B HIS.out HB.out (HO.out.perm (star_left_comm _ _ _))).mono ?_
  rintro e w2 ⟨rfl, ho⟩
  rw [← HE.out]
  rw [← HS2.out] at ho
  by_cases h0 : E = 0
  rotate_left
  · skip
    have hSS : S2 = s := by rw [HS2.out]; exact flChange_like (by rw [← HE.out]; exact h0)
    have hE0 : flNextErr s B ≠ 0 := by rw [← HE.out]; exact h0
    have t0 : ((E : Int) == 0) = false := by rw [beq_eq_false_iff_ne]; omega
    subst hSS
    obtain ⟨b7, hb_b7⟩ : ∃ zz_, zz_ = (w2).heap.size := ⟨_, rfl⟩
    obtain ⟨w3, hw_w3⟩ : ∃ zz_, zz_ = (w2).alloc (.cells #[.int .i64 0, .slice none 0 0] 87 (0, 0)) := ⟨_, rfl⟩
    have h_HO3 := (ho).alloc (.cells #[.int .i64 0, .slice none 0 0] 87 (0, 0))
    rw [← hb_b7, ← hw_w3] at h_HO3
    have HO3 := Lib.hid h_HO3
    clear h_HO3
    have HE0 := Lib.hid hE0; have H0 := Lib.hid h0
    clear hE0 h0
    have HO4 : Hid (Own w (FlP p S2 * (VwO b7 0 (.slice none 0 0) * (RfP q S2 * (Nms 42 vb l * emp)))) w3) := Lib.hid (HO3.out.perm (by unfold VwO; ac_rfl))
    clear ho HO3
    go_upto_region 26 with fail
    rw [← hb_b7, ← hw_w3]
    clear hb_b7 hw_w3
    go_wp2_with fail
    refine (flChange_no p S2 _ B HOK.out HE0.out (HB.out _) HO4.out).mono ?_
    rintro e w4 ⟨rfl, ho⟩
    rw [← HE.out]
    obtain ⟨b8, hb_b8⟩ : ∃ zz_, zz_ = (w4).heap.size := ⟨_, rfl⟩
    obtain ⟨w5, hw_w5⟩ : ∃ zz_, zz_ = (w4).alloc (.cells #[.int .i64 0, .slice none 0 0] 87 (0, 0)) := ⟨_, rfl⟩
    have h_HO5 := (ho).alloc (.cells #[.int .i64 0, .slice none 0 0] 87 (0, 0))
    rw [← hb_b8, ← hw_w5] at h_HO5
    have HO5 := Lib.hid h_HO5
    clear h_HO5
    have HO6 : Hid (Own w (FlP p S2 * (VwO b7 0 (.slice none 0 0) * (VwO b8 0 (.slice none 0 0) * (RfP q S2 * (Nms 42 vb l * emp))))) w5) := Lib.hid (HO5.out.perm (by unfold VwO; ac_rfl))
    clear ho HO5 HO4
    go_upto_region 29 with fail
    rw [← hb_b8, ← hw_w5]
    clear hb_b8 hw_w5
    go_wp2_with fail
    refine (sameErr_any HG.out E E HO6.out).mono ?_
    rintro e w6 ⟨rfl, ho⟩
    rw [tE]
    obtain ⟨x0, x1, _⟩ := ho.second.vw
    obtain ⟨y0, y1, _⟩ := (ho.third.perm (show _ = VwO b8 0 (.slice none 0 0) * _ from rfl)).vw
    have HO7 := Lib.hid ho
    clear ho HO6
    go_wp2_with fail
    refine (sameView_any 0 0 _ _ [] [] HO7.out (Ints_nil w).reads (Ints_nil w).reads).mono ?_
    rintro e w8 ⟨rfl, ho⟩
    rw [show (decide ((0 : Int) = 0) && (([] : List Int) == [])) = true from rfl]
    have HO8 : Hid (Own w (FlP p S2 * (RfP q S2 * (Nms 42 vb l * emp))) w8) := Lib.hid ((ho.perm (show _ = VwO b7 0 (.slice none 0 0) * (VwO b8 0 (.slice none 0 0) * (FlP p S2 * (RfP q S2 * (Nms 42 vb l * emp)))) by ac_rfl)).drop.drop)
    clear ho HO7 x0 x1 y0 y1
    go_wp2_with fail
    apply HK.out
    exact ⟨rfl, j, S2, hj, rfl, HNI.out, HO8.out⟩
  have hE0 : flNextErr s B = 0 := by rw [← HE.out]; exact h0
  subst h0
  have hn2 : S2.n = s.n + 1 := by rw [HS2.out]; exact flChange_n hE0
  have hh2 : S2.has = B := by rw [HS2.out]; exact flChange_has hE0
  obtain ⟨b7, hb_b7⟩ : ∃ zz_, zz_ = (w2).heap.size := ⟨_, rfl⟩
  obtain ⟨w3, hw_w3⟩ : ∃ zz_, zz_ = (w2).alloc (.cells #[.int .i64 0, .slice none 0 0] 87 (0, 0)) := ⟨_, rfl⟩
  have h_HO3 := (ho).alloc (.cells #[.int .i64 0, .slice none 0 0] 87 (0, 0))
  rw [← hb_b7, ← hw_w3] at h_HO3
  have HO3 := Lib.hid h_HO3
  clear h_HO3
  obtain ⟨cs, hv, sv, dv, N, rows, hrf, hof⟩ := (HO3.out.perm (show _ = RfP q S2 * (VwO b7 0 (.slice none 0 0) * (FlP p s * (Nms 42 vb l * emp))) by unfold VwO; ac_rfl)).rf_open
  obtain ⟨hhd, hhc, hs⟩ := Own.int_shape hof.second
  rw [hs] at hof hrf
  obtain ⟨m, hm⟩ : ∃ m, m = S2.n := ⟨_, rfl⟩
  have hms : s.n + 1 = m := by rw [hm, hn2]
  rw [hh2] at hof hrf
  obtain ⟨FR, hFE⟩ : ∃ FR, FR = rfBlk q cs * (IntSl (.slice hhd B.length hhc) B * (IntSl sv S2.said * (dSl dv N rows * (starL rowP rows * (Nms 42 vb l * emp))))) := ⟨_, rfl⟩
  have HO4 : Hid (Own w (FlP p s * (VwO b7 0 (.slice none 0 0) * FR)) w3) := Lib.hid (hof.perm (by rw [hFE]; ac_rfl))
  have hBI : ∀ v ∈ B, I64 v := fun v hv => by
    have := HNI.out.inv.1.ok.2.1.2 v (by rw [hh2]; exact hv)
    exact this
  have HFR : Hid (∀ w' T, Own w (T * FR) w' → Own w (RfP q S2 * (T * (Nms 42 vb l * emp))) w' ∧ w'.cell? ⟨q, 0, none⟩ = some (.int .i64 m) ∧ w'.cell? ⟨q, 1, none⟩ = some (.slice hhd B.length hhc) ∧ Ints w' (.slice hhd B.length hhc) B) := Lib.hid (fun w' T h => by
    rw [hFE] at h
    have h2 : Own w (rfBlk q cs * (IntSl (.slice hhd B.length hhc) B * (IntSl sv S2.said * (dSl dv N rows * (starL rowP rows * (T * (Nms 42 vb l * emp))))))) w' := h.perm (by ac_rfl)
    obtain ⟨c0, c1, _⟩ := h2.rf_cells hrf.c
    refine ⟨Own.rf_close (s := S2) hrf (by rw [hh2]; exact h2), by rw [hm]; exact c0, c1, IntSl_reads hBI _ h2.second⟩)
  obtain ⟨_, c0, c1, _⟩ := HFR.out _ (FlP p s * VwO b7 0 (.slice none 0 0)) (HO4.out.perm (by ac_rfl))
  obtain ⟨x0, x1, xf⟩ := HO4.out.second.vw
  have xf0 := xf 0 none
  have xf1 := xf 1 none
  have hput := (HO4.out.perm (star_left_comm _ _ _)).vw_put m (.slice hhd B.length hhc)
  have HPUT := Lib.hid hput
  clear ho HO3 hof xf hput
  have HE0 := Lib.hid hE0; have HN2 := Lib.hid hn2; have HH2 := Lib.hid hh2; have HM := Lib.hid hm; have HMS := Lib.hid hms; have HFE := Lib.hid hFE; have HBI := Lib.hid hBI; have HRF := Lib.hid hrf; have HS := Lib.hid hs
  clear hE0 hn2 hh2 hm hms hFE hBI hrf hs
  go_upto_region 26 with fail
  rw [← hb_b7, ← hw_w3]
  clear hb_b7 hw_w3
  go_upto_region 28 with fail
  obtain ⟨w4, hw4⟩ : ∃ x, x = (w3.setCell ⟨b7, 0, none⟩ (.int .i64 m)).setCell ⟨b7, 1, none⟩ (.slice hhd B.length hhc) := ⟨_, rfl⟩
  rw [← hw4] at HPUT ⊢
  have HO5 : Hid (Own w (FlP p s * (VwO b7 m (.slice hhd B.length hhc) * FR)) w4) := Lib.hid (HPUT.out.perm (star_left_comm _ _ _))
  clear hw4 HPUT HO4 x0 x1 xf0 xf1 c0 c1
  go_wp2_with fail
  refine (flChange_yes p s _ B HIS.out.inv.1 HE0.out (HB.out _) HO5.out).mono ?_
  rintro e w5 ⟨v5, rfl, ho⟩
  rw [← HS2.out] at ho
  rw [HMS.out]
  obtain ⟨ad5, cap5, hv5⟩ := Own.int_shape ho
  subst hv5
  obtain ⟨b8, hb_b8⟩ : ∃ zz_, zz_ = (w5).heap.size := ⟨_, rfl⟩
  obtain ⟨w6, hw_w6⟩ : ∃ zz_, zz_ = (w5).alloc (.cells #[.int .i64 m, .slice ad5 B.length cap5] 87 (0, 0)) := ⟨_, rfl⟩
  have h_HO6 := (ho).alloc (.cells #[.int .i64 m, .slice ad5 B.length cap5] 87 (0, 0))
  rw [← hb_b8, ← hw_w6] at h_HO6
  have HO6 := Lib.hid h_HO6
  clear h_HO6
  have HO7 : Hid (Own w (VwO b8 m (.slice ad5 B.length cap5) * (IntSl (.slice ad5 B.length cap5) B * (VwO b7 m (.slice hhd B.length hhc) * (FlP p S2 * FR)))) w6) := Lib.hid (HO6.out.perm (by unfold VwO; ac_rfl))
  clear ho HO6 HO5
  go_upto_region 29 with fail
  rw [← hb_b8, ← hw_w6]
  clear hb_b8 hw_w6
  go_wp2_with fail
  refine (sameErr_any HG.out 0 0 HO7.out).mono ?_
  rintro e w7 ⟨rfl, ho⟩
  obtain ⟨y0, y1, _⟩ := ho.vw
  obtain ⟨x0, x1, _⟩ := ho.third.vw
  have HO8 := Lib.hid ho
  clear ho HO7
  go_wp2_with fail
  refine (sameView_any m m (.slice ad5 B.length cap5) (.slice hhd B.length hhc) B B HO8.out (fun w' h => IntSl_reads HBI.out _ h.second) (fun w' h => (HFR.out _ (VwO b8 m (.slice ad5 B.length cap5) * (IntSl (.slice ad5 B.length cap5) B * (VwO b7 m (.slice hhd B.length hhc) * FlP p S2))) (h.perm (by ac_rfl))).2.2.2)).mono ?_
  rintro e w8 ⟨rfl, ho⟩
  rw [show (decide (m = m) && (B == B)) = true by simp]
  have HO9 : Hid (Own w (FlP p S2 * (RfP q S2 * (Nms 42 vb l * emp))) w8) := Lib.hid ((HFR.out _ _ (ho.drop.drop.drop)).1.perm (star_left_comm _ _ _))
  clear ho HO8 x0 x1 y0 y1
  go_wp2_with fail
  apply HK.out
  exact ⟨rfl, j, S2, hj, rfl, HNI.out, HO9.out⟩
end Go.Proofs.YtpgonkecicmanaaDoor
