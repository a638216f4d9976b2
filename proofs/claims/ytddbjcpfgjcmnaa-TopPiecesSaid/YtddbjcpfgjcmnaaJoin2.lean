/- Contracts of package pieces: the Joiner's Take, Lacks. -/
import Derived.Test.YtddbjcpfgjcmnaaJoiner
import Derived.Test.YtddbjcpfgjcmnaaMapOpen
import Derived.Test.YtddbjcpfgjcmnaaHeld
import Derived.Test.YtddbjcpfgjcmnaaStar
import Derived.Test.YtddbjcpfgjcmnaaPiece
import Derived.Deep.DeepCutAuto
import Derived.Deep.CutBlock
namespace Go.Proofs.Ytddbjcpfgjcmnaa
set_option linter.unusedVariables false
set_option linter.unusedSimpArgs false
open Go.RowKit Go.Maps
def joBad (m : List (Int × ByteArray)) (p : Pc) : Bool := match mget m p.at' with
  | some s => !(s.toList == p.text.toList)
  | none => false
def joErr (N : Nat) (m : List (Int × ByteArray)) (p : Pc) : Nat := if pcRight p = false then 1 else if N ≠ 0 ∧ (N : Int) ≠ p.of then 3 else if joBad m p = true then 7 else 0
def joN (N : Nat) (m : List (Int × ByteArray)) (p : Pc) : Nat := if joErr N m p = 0 then p.of.toNat else N
def joM (N : Nat) (m : List (Int × ByteArray)) (p : Pc) : List (Int × ByteArray) := if joErr N m p = 0 then mput m p.at' p.text else m
def PiO (b : Nat) (p : Pc) : HProp := blk b (.cells #[.int .i64 p.at', .int .i64 p.of, .string p.text] 28 (0, 0))
theorem Own.pi {w0 w : World} {b : Nat} {p : Pc} {R : HProp} (h : Own w0 (PiO b p * R) w) : w.cell? ⟨b, 0, none⟩ = some (.int .i64 p.at') ∧ w.cell? ⟨b, 1, none⟩ = some (.int .i64 p.of) ∧ w.cell? ⟨b, 2, none⟩ = some (.string p.text) :=
  ⟨(Own.cell h 0).trans rfl, (Own.cell h 1).trans rfl, (Own.cell h 2).trans rfl⟩
theorem Own.jo_n_put {w0 w : World} {p mb N k : Nat} {m : List (Int × ByteArray)} {R : HProp} (h : Own w0 (JoP p mb N m * R) w) : Own w0 (JoP p mb k m * R) (w.setCell ⟨p, 0, none⟩ (.int .i64 (k : Int))) :=
  (h.jo_blk.setCell (i := 0) (v := .int .i64 (k : Int))).perm (by unfold JoP; show (blk p (.cells #[.int .i64 (k : Int), .map (some mb)] 47 (0, 0)) * _ : HProp) = _; ac_rfl)
def memJ (n : Nat) : List Int := (List.range n).map fun i : Nat => (i : Int)
theorem memJ_len (n : Nat) : (memJ n).length = n := by simp [memJ]
theorem memJ_snoc (n : Nat) : memJ (n + 1) = memJ n ++ [(n : Int)] := by simp [memJ, List.range_succ]
def joCut (w0 : World) (P : HProp) (X : Bool) (c : Value) (wx : World) : Prop := c = .bool X ∧ Own w0 P wx
set_option maxRecDepth 100000 in
set_option maxHeartbeats 4000000 in
theorem joTake_any {w0 w : World} {R : HProp} (p mb N : Nat) (hN : N ≤ 60) (m : List (Int × ByteArray)) (x : Pc) (h : Own w0 (JoP p mb N m * R) w) :
    Calls Try.prog 9 #[.pointer (some ⟨p, 0, none⟩), pcV x] w fun e w' => e = .returned (.tuple #[.bool (decide (joErr N m x = 0) && (mget m x.at').isNone), errV (joErr N m x)]) ∧ Own w0 (JoP p mb (joN N m x) (joM N m x) * R) w' := by
  obtain ⟨b1, hb_b1⟩ : ∃ zz_, zz_ = (w).heap.size := ⟨_, rfl⟩
  obtain ⟨w1, hw_w1⟩ : ∃ zz_, zz_ = (w).alloc (.cells #[.int .i64 x.at', .int .i64 x.of, .string x.text] 28 (0, 0)) := ⟨_, rfl⟩
  have h_HO := (h).alloc (.cells #[.int .i64 x.at', .int .i64 x.of, .string x.text] 28 (0, 0))
  rw [← hb_b1, ← hw_w1] at h_HO
  have HO := Lib.hid h_HO
  clear h_HO
  have HO1 : Hid (Own w0 (PiO b1 x * (JoP p mb N m * R)) w1) := HO
  obtain ⟨x0, x1, x2⟩ := HO1.out.pi
  have hV : pcV x = .agg #[.int .i64 x.at', .int .i64 x.of, .string x.text] := rfl
  rw [hV]
  obtain ⟨E, hE⟩ : ∃ E, E = joErr N m x := ⟨_, rfl⟩
  obtain ⟨N', hN'⟩ : ∃ E, E = joN N m x := ⟨_, rfl⟩
  obtain ⟨M', hM'⟩ : ∃ E, E = joM N m x := ⟨_, rfl⟩
  rw [← hE, ← hN', ← hM']
  unfold joN at hN'
  unfold joM at hM'
  rw [← hE] at hN' hM'
  unfold joErr at hE
  cases hp : pcRight x
  · rw [if_pos hp] at hE
    subst hE
    rw [if_neg (by simp)] at hN' hM'
    rw [hN', hM']
    clear hN' hM'
    have H := Lib.hid h; have HP := Lib.hid hp; have HN := Lib.hid hN; have HV := Lib.hid hV
    clear h hp hN hV
    clear HO
    go_enter Try.func9, Try.ntmps9
    go_upto_region 1 with fail
    rw [← hb_b1, ← hw_w1]
    clear hb_b1 hw_w1
    go_wp2_with fail
    rw [← HV.out]
    refine (pcRight_any x HO1.out).mono ?_
    rintro e w2 ⟨rfl, ho⟩
    rw [HP.out]
    have HO2 := Lib.hid ho.drop
    clear ho
    go_wp2
    go_ret2
    exact ⟨rfl, HO2.out⟩
  rw [if_neg (by simp [hp])] at hE
  have hr : 0 ≤ x.at' ∧ x.at' < x.of ∧ 1 ≤ x.of ∧ x.of ≤ 60 := by
    unfold pcRight at hp
    simp only [Bool.and_eq_true, decide_eq_true_eq] at hp
    omega
  obtain ⟨a, ha⟩ : ∃ a, a = x.at' := ⟨_, rfl⟩
  obtain ⟨o, hoo⟩ : ∃ o, o = x.of := ⟨_, rfl⟩
  obtain ⟨t, htt⟩ : ∃ t, t = x.text := ⟨_, rfl⟩
  have hI : I64 a := by rw [ha]; unfold I64; omega
  obtain ⟨X, hX⟩ : ∃ X : Bool, X = (decide (N ≠ 0) && decide ((N : Int) ≠ o)) := ⟨_, rfl⟩
  obtain ⟨D, hD⟩ : ∃ D, D = (mget m a).isSome := ⟨_, rfl⟩
  obtain ⟨s, hs⟩ : ∃ s, s = (mget m a).getD ⟨#[]⟩ := ⟨_, rfl⟩
  obtain ⟨Q, hQ⟩ : ∃ Q : Bool, Q = (D && !(s.toList == t.toList)) := ⟨_, rfl⟩
  have hbad : joBad m x = Q := by
    unfold joBad
    rw [hQ, hD, hs, htt, ha]
    cases hg : mget m x.at' <;> simp
  have hEX : E = if X = true then 3 else if Q = true then 7 else 0 := by
    rw [hE, hbad, hX, hoo]
    by_cases h1 : N ≠ 0 ∧ (N : Int) ≠ x.of
    · rw [if_pos h1, if_pos (by simp [h1.1, h1.2])]
    · have hc : (decide (N ≠ 0) && decide ((N : Int) ≠ x.of)) = false := by
        rw [Bool.and_eq_false_iff, decide_eq_false_iff_not, decide_eq_false_iff_not]
        exact Classical.byContradiction fun h2 => h1 ⟨Classical.byContradiction fun h3 => h2 (.inl h3), Classical.byContradiction fun h3 => h2 (.inr h3)⟩
      rw [if_neg h1, hc, if_neg (by simp : ¬ false = true)]
  have hnone : (mget m x.at').isNone = !D := by rw [hD, ha]; cases mget m x.at' <;> rfl
  rw [hnone]
  rw [← ha, ← hoo, ← htt] at hV
  rw [← ha, ← hoo, ← htt] at hw_w1
  rw [← ha] at x0
  rw [← hoo] at x1
  rw [← htt] at x2
  rw [← ha, ← hoo, ← htt]
  rw [← ha, ← htt] at hM'
  rw [← hoo] at hN'
  have H := Lib.hid h; have HP := Lib.hid hp; have HN := Lib.hid hN; have HV := Lib.hid hV; have HA := Lib.hid ha; have HOO := Lib.hid hoo; have HTT := Lib.hid htt; have HI := Lib.hid hI; have HR := Lib.hid hr; have HX := Lib.hid hX; have HD := Lib.hid hD; have HS := Lib.hid hs; have HQ := Lib.hid hQ; have HE := Lib.hid hE; have HEX := Lib.hid hEX; have HBAD := Lib.hid hbad; have HNONE := Lib.hid hnone; have HN' := Lib.hid hN'; have HM' := Lib.hid hM'
  clear h hp hN hV ha hoo htt hI hr hX hD hs hQ hE hEX hbad hnone hN' hM'
  clear HO
  go_enter Try.func9, Try.ntmps9
  go_upto_region 1 with fail
  rw [← hb_b1, ← hw_w1]
  clear hb_b1 hw_w1
  go_wp2_with fail
  rw [← HV.out]
  refine (pcRight_any x HO1.out).mono ?_
  rintro e w2 ⟨rfl, ho⟩
  rw [HP.out]
  have HO2 := Lib.hid (ho.perm (star_left_comm _ _ _))
  obtain ⟨y0, y1, y2⟩ := ho.pi
  rw [← HA.out] at y0
  rw [← HOO.out] at y1
  rw [← HTT.out] at y2
  obtain ⟨c0, c1, cf⟩ := HO2.out.jo_facts
  have hlk := HO2.out.drew.jo_look2 a HI.out
  rw [← HD.out, show ((mget m a).map isv).getD (.string ⟨#[]⟩) = .string s by rw [HS.out]; cases mget m a <;> rfl] at hlk
  clear ho x0 x1 x2
  have CF := Lib.hid cf
  clear cf
  go_upto_region 3 with fail
  refine wp_region_planH 11 [] [(true, 0), (true, 1), (true, 2), (true, 3), (true, 4), (true, 5), (true, 6), (true, 7), (true, 8), (true, 9), (false, 10)] [11] (fun wS => wS = w2.drew) (by kernel_rfl) (by kernel_rfl) (rfl) ?_
  simp only [pickH, pick, List.getElem?_cons_succ, List.getElem?_cons_zero, Option.toList, Option.map_some, List.cons_append, List.nil_append]
  repeat (refine wpPure_step ?_ rfl ?_ ?_; rotate_left; (focus (intro _; first | with_reducible rfl | (go_simp; done) | (go_simp; with_reducible rfl) | rfl)); go_simp)
  refine wpPure_nil ?_
  repeat (refine wpMix_read ?_ rfl ?_ ?_; rotate_left; (focus (intro _ hS; obtain rfl := hS; first | with_reducible rfl | (go_simp; done) | (go_simp; with_reducible rfl) | rfl)); go_simp)
  refine wpMix_write (fun K hK => ?_)
  go_simp
  refine hK _ _ ⟨rfl, ?_⟩
  clear hK K
  go_simp
  repeat (refine wpMix_read ?_ rfl ?_ ?_; rotate_left; (focus (intro _ hS; obtain rfl := hS; first | with_reducible rfl | (go_simp; done) | (go_simp; with_reducible rfl) | rfl)); go_simp)
  refine wpMix_nil ?_
  go_wp2_with fail
  refine NoPanic.normal ?_
  clear hlk c0 c1 y0 y1 y2
  have HO3 := Lib.hid HO2.out.drew
  obtain ⟨w3, hw3⟩ : ∃ w3, w3 = w2.drew := ⟨_, rfl⟩
  rw [← hw3] at HO3
  rw [← hw3]
  clear hw3 HO2 HO1
  obtain ⟨c0, c1, _⟩ := HO3.out.jo_facts
  obtain ⟨y0, y1, y2⟩ := (HO3.out.perm (star_left_comm _ _ _)).pi
  rw [← HA.out] at y0
  rw [← HOO.out] at y1
  rw [← HTT.out] at y2
  go_upto_region 4 with fail
  go_cut [22] (fun c wx => joCut w0 (JoP p mb N m * (PiO b1 x * R)) X c wx)
  case first =>
    by_cases h0 : N = 0
    · subst h0
      have hx : X = false := by rw [HX.out]; simp
      have HX2 := Lib.hid hx
      clear hx
      go_wp2_with fail
      go_quiet (fail)
      go_wp2_with fail
      go_meet
      exact ⟨by rw [HX2.out], HO3.out.drewN _⟩
    have t0 : ((N : Int) != 0) = true := by rw [bne_iff_ne]; omega
    obtain ⟨Z, hZ⟩ : ∃ Z : Bool, ((N : Int) != o) = Z := ⟨_, rfl⟩
    have hx : X = Z := by
      rw [HX.out, ← hZ, decide_eq_true h0, Bool.true_and]
      by_cases h1 : (N : Int) = o
      · simp [h1]
      · simp [h1]
    have HX2 := Lib.hid hx
    clear hx
    go_wp2_with fail
    go_quiet (fail)
    go_wp2_with fail
    go_meet
    exact ⟨by rw [HX2.out], HO3.out.drewN _⟩
  case rest =>
  obtain ⟨rfl, ho⟩ := hcut
  have HO4 := Lib.hid ho
  clear ho c0 c1 y0 y1 y2 HO3
  obtain ⟨c0, c1, cf⟩ := HO4.out.jo_facts
  obtain ⟨y0, y1, y2⟩ := (HO4.out.perm (star_left_comm _ _ _)).pi
  rw [← HA.out] at y0
  rw [← HOO.out] at y1
  rw [← HTT.out] at y2
  cases X
  rotate_left
  · have hE3 : E = 3 := by rw [HEX.out, if_pos rfl]
    have hn3 : N' = N := by rw [HN'.out, if_neg (by rw [hE3]; decide)]
    have hm3 : M' = m := by rw [HM'.out, if_neg (by rw [hE3]; decide)]
    have HF : Hid (Own w0 (JoP p mb N m * R) wc) := Lib.hid (HO4.out.perm (by ac_rfl : _ = PiO b1 x * (JoP p mb N m * R))).drop
    clear cf
    have HE3 := Lib.hid hE3; have HN3 := Lib.hid hn3; have HM3 := Lib.hid hm3
    clear hE3 hn3 hm3
    go_wp2
    go_ret2
    exact ⟨by rw [HE3.out]; rfl, by rw [HN3.out, HM3.out]; exact HF.out⟩
  have hEQ : E = if Q = true then 7 else 0 := by rw [HEX.out, if_neg (by simp)]
  obtain ⟨Y, hY⟩ : ∃ Y : Bool, (s.toList == t.toList) = Y := ⟨_, rfl⟩
  have hQY : Q = (D && !Y) := by rw [HQ.out, hY]
  have f0 := cf 0 none
  clear cf
  have HEQ := Lib.hid hEQ; have HQY := Lib.hid hQY
  clear hEQ hQY
  go_upto_region 6 with fail
  go_cut [38] (fun c wx => c = .bool Q ∧ wx = wc)
  case first =>
    cases D
    · have hq : Q = false := by rw [HQY.out]; rfl
      have HQ3 := Lib.hid hq
      clear hq
      go_wp2_with fail
      go_meet
      exact ⟨by rw [HQ3.out], rfl⟩
    · have hq : Q = !Y := by rw [HQY.out]; simp
      have HQ3 := Lib.hid hq
      clear hq
      go_wp2_with fail
      go_meet
      exact ⟨by rw [HQ3.out], rfl⟩
  case rest =>
  obtain ⟨rfl, rfl⟩ := hcut
  have HYY := Lib.hid hY
  clear hY
  cases Q
  rotate_left
  · have hE3 : E = 7 := by rw [HEQ.out, if_pos rfl]
    have hn3 : N' = N := by rw [HN'.out, if_neg (by rw [hE3]; decide)]
    have hm3 : M' = m := by rw [HM'.out, if_neg (by rw [hE3]; decide)]
    have HF : Hid (Own w0 (JoP p mb N m * R) wc) := Lib.hid (HO4.out.perm (by ac_rfl : _ = PiO b1 x * (JoP p mb N m * R))).drop
    have HE3 := Lib.hid hE3; have HN3 := Lib.hid hn3; have HM3 := Lib.hid hm3
    clear hE3 hn3 hm3
    go_wp2
    go_ret2
    exact ⟨by rw [HE3.out]; rfl, by rw [HN3.out, HM3.out]; exact HF.out⟩
  have hE3 : E = 0 := by rw [HEQ.out, if_neg (by simp)]
  have hn3 : N' = o.toNat := by rw [HN'.out, if_pos hE3]
  have hm3 : M' = mput m a t := by rw [HM'.out, if_pos hE3]
  have hoN : ((o.toNat : Nat) : Int) = o := by have := HR.out; rw [HOO.out]; omega
  have HO5 : Hid (Own w0 (JoP p mb o.toNat m * (PiO b1 x * R)) ((wc.setCell ⟨p, 0, none⟩ (.int .i64 o)).drew)) := Lib.hid (by
    have h1 := (HO4.out.jo_n_put (k := o.toNat)).drew
    rw [hoN] at h1
    exact h1)
  obtain ⟨w5, hw5⟩ : ∃ w5, w5 = (wc.setCell ⟨p, 0, none⟩ (.int .i64 o)).drew := ⟨_, rfl⟩
  rw [← hw5] at HO5
  have g0 : wc.drew.frozen? ⟨p, 0, none⟩ = false := f0
  have g1 : wc.drew.cell? ⟨p, 0, none⟩ = some (.int .i64 N) := c0
  have HE3 := Lib.hid hE3; have HN3 := Lib.hid hn3; have HM3 := Lib.hid hm3; have HON := Lib.hid hoN; have HW5 := Lib.hid hw5
  clear hE3 hn3 hm3 hoN hw5
  go_upto_region 8 with fail
  refine wp_region_planH 16 [] [(true, 0), (true, 1), (true, 2), (true, 3), (true, 4), (true, 5), (true, 6), (true, 7), (true, 8), (true, 9), (true, 10), (true, 11), (true, 12), (false, 13), (false, 14), (true, 15)] [16] (fun wS => wS.cell? ⟨p, 1, none⟩ = some (.map (some mb)) ∧ wS.cell? ⟨b1, 0, none⟩ = some (.int .i64 a) ∧ wS.cell? ⟨b1, 1, none⟩ = some (.int .i64 o) ∧ wS.cell? ⟨b1, 2, none⟩ = some (.string t)) (by kernel_rfl) (by kernel_rfl) (⟨c1, y0, y1, y2⟩) ?_
  simp only [pickH, pick, List.getElem?_cons_succ, List.getElem?_cons_zero, Option.toList, Option.map_some, List.cons_append, List.nil_append]
  repeat (refine wpPure_step ?_ rfl ?_ ?_; rotate_left; (focus (intro _; first | with_reducible rfl | (go_simp; done) | (go_simp; with_reducible rfl) | rfl)); go_simp)
  refine wpPure_nil ?_
  repeat (refine wpMix_read ?_ rfl ?_ ?_; rotate_left; (focus (intro _ hS; obtain ⟨s1, s2, s3, s4⟩ := hS; first | with_reducible rfl | (go_simp; done) | (go_simp; with_reducible rfl) | rfl)); go_simp)
  refine wpMix_write (fun K hK => ?_)
  go_simp
  rw [← HW5.out]
  obtain ⟨_, k1, _⟩ := HO5.out.jo_facts
  obtain ⟨k2, k3, k4⟩ := (HO5.out.perm (star_left_comm _ _ _)).pi
  rw [← HA.out] at k2
  rw [← HOO.out] at k3
  rw [← HTT.out] at k4
  refine hK _ _ ⟨⟨k1, k2, k3, k4⟩, ?_⟩
  clear hK K
  go_simp
  clear k1 k2 k3 k4 c0 c1 y0 y1 y2 g0 g1 f0
  repeat (refine wpMix_read ?_ rfl ?_ ?_; rotate_left; (focus (intro _ hS; obtain ⟨s1, s2, s3, s4⟩ := hS; first | with_reducible rfl | (go_simp; done) | (go_simp; with_reducible rfl) | rfl)); go_simp)
  refine wpMix_write (fun K hK => ?_)
  refine step_open (int_ke int_kind) mapis_kind is_zero HO5.out.jo_map HI.out rfl _ _ rfl rfl rfl ?_
  intro w6 st ho6
  have HO6 : Hid (Own w0 (MpE (fun n : Int => Value.int .i64 n) I64 mb (mvals isv m) a st * (blk p (.cells #[.int .i64 (o.toNat : Nat), .map (some mb)] 47 (0, 0)) * (PiO b1 x * R))) w6) := Lib.hid ho6
  clear ho6
  have k1 : w6.cell? ⟨p, 1, none⟩ = some (.map (some mb)) := (HO6.out.drop.cell 1).trans rfl
  obtain ⟨k2, k3, k4⟩ := HO6.out.drop.drop.pi
  rw [← HA.out] at k2
  rw [← HOO.out] at k3
  rw [← HTT.out] at k4
  refine hK _ _ ⟨⟨k1, k2, k3, k4⟩, ?_⟩
  clear hK K
  go_simp
  clear k1 k2 k3 k4
  repeat (refine wpMix_read ?_ rfl ?_ ?_; rotate_left; (focus (intro _ hS; obtain ⟨s1, s2, s3, s4⟩ := hS; first | with_reducible rfl | (go_simp; done) | (go_simp; with_reducible rfl) | rfl)); go_simp)
  refine wpMix_nil ?_
  go_wp2_with (refine wpList_fill (v := .string t) HO6.out rfl _ _ _ rfl rfl rfl rfl ?_; intro w7 ho7; have HO7 := Lib.hid ho7; clear ho7)
  refine NoPanic.normal ?_
  go_wp2
  go_ret2
  refine ⟨by rw [HE3.out]; rfl, ?_⟩
  rw [HN3.out, HM3.out]
  have h9 : Own w0 (IMp mb (mvals isv (mput m a t)) * (blk p (.cells #[.int .i64 (o.toNat : Nat), .map (some mb)] 47 (0, 0)) * (PiO b1 x * R))) w7 := HO7.out.perm (by rw [show (Value.string t) = isv t from rfl, mput_mvals])
  exact (h9.perm (show _ = PiO b1 x * (JoP p mb o.toNat (mput m a t) * R) by unfold JoP; ac_rfl)).drop
def joLacks (N : Nat) (m : List (Int × ByteArray)) : List Int := (memJ N).filter fun i => !(mget m i).isSome
set_option maxRecDepth 100000 in
set_option maxHeartbeats 4000000 in
theorem joLacks_any {w0 w : World} {R : HProp} (p mb N : Nat) (hN : N ≤ 60) (m : List (Int × ByteArray)) (h : Own w0 (JoP p mb N m * R) w) :
    Calls Try.prog 13 #[.pointer (some ⟨p, 0, none⟩)] w fun e w' => ∃ v', e = .returned v' ∧ Own w0 (IntSl v' (joLacks N m) * (JoP p mb N m * R)) w' := by
  obtain ⟨c0, c1, _⟩ := h.jo_facts
  have H := Lib.hid h
  clear h
  go_enter Try.func13, Try.ntmps13
  go_wp2_with fail
  clear c0 c1
  go_loopw [11, 3] (fun iv ov wr => ∃ k : Nat, k ≤ N ∧ iv = .int .i64 k ∧ Hid (Own w0 (IntSl ov (joLacks k m) * (JoP p mb N m * R)) wr)) (fun iv _ _ => N - (intOf iv).toNat)
  case atStart => exact ⟨0, Nat.zero_le _, rfl, Lib.hid (H.out.sl_nil 3 1)⟩
  case round =>
    obtain ⟨k, hk, rfl, HO⟩ := hrel
    by_cases hlt : k < N
    rotate_left
    · have hkn : k = N := by omega
      rw [hkn] at HO
      have HKN := Lib.hid hkn
      clear hkn
      go_wp2
      go_ret
      exact ⟨_, rfl, HO.out⟩
    obtain ⟨c0, c1, _⟩ := HO.out.drop.jo_facts
    have hkI : I64 (k : Int) := by unfold I64; omega
    have hlk := HO.out.drop.jo_look2 k hkI
    have hnx : joLacks (k + 1) m = joLacks k m ++ (if (mget m (k : Int)).isSome = true then [] else [(k : Int)]) := by
      unfold joLacks
      rw [memJ_snoc, List.filter_append]
      cases hg : mget m (k : Int) <;> simp [hg]
    have hol : (joLacks k m).length ≤ k := by unfold joLacks; exact Nat.le_trans (List.length_filter_le _ _) (by rw [memJ_len]; exact Nat.le_refl _)
    obtain ⟨D, hD⟩ : ∃ D, D = (mget m (k : Int)).isSome := ⟨_, rfl⟩
    obtain ⟨s, hs⟩ : ∃ s, s = (mget m (k : Int)).getD ⟨#[]⟩ := ⟨_, rfl⟩
    rw [← hD] at hnx hlk
    rw [show ((mget m (k : Int)).map isv).getD (.string ⟨#[]⟩) = .string s by rw [hs]; cases mget m (k : Int) <;> rfl] at hlk
    obtain ⟨L, hL⟩ : ∃ L, L = joLacks k m := ⟨_, rfl⟩
    rw [← hL] at HO hnx hol
    have HKI := Lib.hid hkI; have HS := Lib.hid hs; have HL := Lib.hid hL
    clear hkI hs hL
    cases D
    · rw [if_neg (by simp)] at hnx
      have HOW : Hid (Own w0 (Sl 3 1 u3 L.length (L.map (Value.int .i64)) * (JoP p mb N m * R)) wr) := HO
      have HNX := Lib.hid hnx; have HD := Lib.hid hD
      clear hnx hD
      go_wp2_with (at_builtin; refine wpList_app rfl _ _ 49 rfl 3 1 8 _ info_int Try.underlying49 rfl (by decide) rfl (HOW.out.alloc' _) (by rfl) (by rfl) (Rd_lit (by simp) (by unfold maxLen; omega)) (by intro u hu; simp at hu; subst hu; rfl) (by unfold maxLen; omega) (by omega) ?_; intro v' w5 ho5; have HO5 := Lib.hid ho5; clear ho5)
      go_round
      case rel => exact ⟨k + 1, by omega, by go_num, Lib.hid (by rw [HNX.out]; unfold IntSl; rw [List.length_append, List.map_append]; exact HO5.out)⟩
      case measure => simp [intOf]; omega
    · rw [if_pos rfl, List.append_nil] at hnx
      have HNX := Lib.hid hnx; have HD := Lib.hid hD
      clear hnx hD
      go_wp2
      go_round
      case rel => exact ⟨k + 1, by omega, by go_num, Lib.hid (by rw [HNX.out]; exact HO.out)⟩
      case measure => simp [intOf]; omega
end Go.Proofs.Ytddbjcpfgjcmnaa
