/- CastCausal: whatever comes late, twice, or never, a group's history is right, causal and fifo; all heard all. -/
import Derived.Test.YtldmdenojpnldaaDoorMCastCausal22
import Derived.Test.YtldmdenojpnldaaDoorRows
import Derived.ProofKit
import Derived.KernelRfl
namespace Go.Proofs.YtldmdenojpnldaaDoor
set_option linter.unusedVariables false
set_option linter.unusedSimpArgs false
open Go.RowKit Go.Maps
def oneC : Cs := csSay (csNew 2) 0 7
theorem one_say : csSayErr (csNew 2) 0 7 = 0 := by decide +kernel
theorem one_give : csGiveErr oneC 0 = 0 := by decide +kernel
theorem one_given : csGiven oneC 0 = [7] := by decide +kernel
theorem hist_good {N D c} (h : Cc N D c) : ∀ e ∈ c.hist, goodEv e := h.z.i.hist
theorem Cc.count {N D c} (h : Cc N D c) : (saysN c.hist = c.said.length ∧ saysN c.hist + hearsN c.hist = c.hist.length) ∧ hearsN c.hist ≤ saysN c.hist * (N - 1) ∧ saysN c.hist * (N - 1) ≤ 60 ∧ (c.net.all = [] → D = false → hearsN c.hist = saysN c.hist * (N - 1)) := by
  have h1 := h.z.ci.says
  have h2 := says_hears c.hist h.z.ci.what
  have h3 := h.z.ci.pairs
  have h4 := h.z.L
  rw [h.n] at h3 h4
  have h5 := h.z.i.n2
  rw [h.n] at h5
  obtain ⟨m, rfl⟩ : ∃ m, N = m + 1 := ⟨N - 1, by omega⟩
  have e1 : (m + 1) * c.said.length = c.said.length * m + c.said.length := by rw [Nat.succ_mul, Nat.mul_comm]
  have e2 : c.said.length * (m + 1) = c.said.length * m + c.said.length := Nat.mul_succ _ _
  rw [Nat.add_sub_cancel, h1]
  rw [h1] at h2
  refine ⟨⟨rfl, h2⟩, by omega, by omega, fun hn hd => ?_⟩
  have h6 := h.z.ci.all (h.z.full (h.nd hd) hn)
  rw [h.n] at h6
  omega
set_option maxRecDepth 100000 in
set_option maxHeartbeats 4000000 in
theorem castCausal_law (w : World) (hg : As.Handle w) (n : Int) (_hn : I64 n) (vs : Value) (steps : List (List Int)) (hvs : Rows2 w vs steps) (D : Bool) :
    Calls Tryd.prog 10 #[.int .i64 n, vs, .bool D] w fun e w' => e = .returned (.bool true) ∧ Below w.heap.size w w' := by
  obtain ⟨sad, scap, rfl, hsc1, hsc2⟩ := hvs.shape
  have HW0 := Lib.hid (Own.start w)
  have HI2 := Lib.hid (CsI.new (n := 2) (by omega) (by omega))
  have HI3 := Lib.hid ((CsI.new (n := 2) (by omega) (by omega)).say 0 7)
  have HG := Lib.hid hg; have HVS := Lib.hid hvs
  clear hg hvs
  go_enter Tryd.func10, Tryd.ntmps10
  go_wp2_with fail
  refine (csNew_yes 2 (by decide) HW0.out).mono ?_
  rintro e w1 ⟨p1, rfl, ho⟩
  rw [errV0]
  have HO1 := Lib.hid ho
  clear ho
  go_wp2_with fail
  refine (csSay_any p1 (csNew 2) 0 7 HI2.out (by simp [csNew]) HO1.out).mono ?_
  rintro e w2 ⟨rfl, ho⟩
  rw [one_say, errV0]
  have HO2 : Hid (Own w (CsP p1 oneC * emp) w2) := Lib.hid ho
  clear ho HO1
  go_wp2_with fail
  refine (csGive_any HG.out p1 oneC 0 HI3.out (by decide +kernel) HO2.out).mono ?_
  rintro e w3 ⟨v3, rfl, ho⟩
  rw [one_give, errV0]
  rw [one_given] at ho
  obtain ⟨ad3, cp3, hv3, hc31, hc32, _⟩ := Own.rd ho
  subst hv3
  have hI7 : ∀ u ∈ ([7] : List Int), I64 u := by intro u hu; simp at hu; subst hu; unfold I64; omega
  obtain ⟨a3, ha3, hc3⟩ := (IntSl_reads hI7 _ ho).at 0 (by simp)
  subst ha3
  have haa : a3.add 0 = a3 := by cases a3; rfl
  rw [haa] at hc3
  clear haa
  have HO3 := Lib.hid ho.drop
  clear ho HO2
  have HI7 := Lib.hid hI7
  clear hI7
  simp only [List.length_singleton, List.getElem_cons_zero] at hc31 hc3 ⊢
  cases hgr : isGrp n
  · have hcs : n < 2 ∨ (¬ n < 2 ∧ 5 < n) := by simp [isGrp] at hgr; omega
    have HGR := Lib.hid hgr
    clear hgr
    go_wp2_with fail
    refine (csNew_no n _ HGR.out).mono ?_
    rintro e w4 ⟨rfl, rfl⟩
    rw [show errV 1 = .iface 129 (.int .i64 1) from rfl]
    go_wp2
    go_ret
    exact ⟨rfl, HO3.out.below⟩
  have hnb : 2 ≤ n ∧ n ≤ 5 := by simpa [isGrp] using hgr
  obtain ⟨N, rfl⟩ : ∃ N : Nat, n = (N : Int) := ⟨n.toNat, by omega⟩
  have hN2 : 2 ≤ N := by omega
  have hN5 : N ≤ 5 := by omega
  have HI0 := Lib.hid (Cc.new hN2 hN5 D)
  have HGR := Lib.hid hgr
  clear hgr
  go_wp2_with fail
  refine (csNew_yes N HGR.out HO3.out.drop).mono ?_
  rintro e w4 ⟨p, rfl, ho⟩
  rw [errV0]
  have HO4 := Lib.hid ho
  clear ho HO3 hc3
  go_upto_block 0 with fail
  go_cut [] (fun wx => CcO w p N D wx)
  case first =>
    refine ccLoop w HG.out D (csNew N) HI0.out sad scap steps hsc1 hsc2 HVS.out HO4 ?_
    intros
    go_step
    go_step
    go_meet
    assumption
  case rest =>
  obtain ⟨c, hi, ho⟩ := hcut
  have HO5 := Lib.hid ho
  have hbb : c.hist.length ≤ 100000 := by have := hi.z.len; omega
  have hef := hi.z.right
  have hcf := hi.z.causal
  have hff := hi.z.fifo
  have HI5 := Lib.hid hi
  clear ho hi HI0 HO4
  obtain ⟨T, hT⟩ : ∃ x, x = facesT c.hist := ⟨_, rfl⟩
  have HEF := Lib.hid hef; have HCF := Lib.hid hcf; have HFF := Lib.hid hff; have HT := Lib.hid hT
  clear hef hcf hff hT
  go_wp2_with fail
  refine (csHistory_any p c HI5.out.z.i hbb HO5.out).mono ?_
  rintro e w6 ⟨v6, rfl, ho⟩
  have hrd : ReadsE w (EvSl v6 c.hist * (CsP p c * emp)) v6 c.hist := EvSl_reads (hist_good HI5.out)
  have HO6 := Lib.hid ho
  clear ho HO5
  have HRD := Lib.hid hrd
  clear hrd
  go_wp2_with fail
  refine (facesOf_any v6 c.hist HO6.out HRD.out).mono ?_
  rintro e w7 ⟨rfl, ho⟩
  rw [HEF.out, HCF.out, HFF.out, ← HT.out, errV0]
  have HO7 := Lib.hid ho.drop
  clear ho HO6
  obtain ⟨fb, hb_fb⟩ : ∃ zz_, zz_ = (w7).heap.size := ⟨_, rfl⟩
  obtain ⟨w8, hw_w8⟩ : ∃ zz_, zz_ = (w7).alloc (.cells #[.bool true, .bool true, .bool T] 98) := ⟨_, rfl⟩
  have h_HO8 := (HO7.out).alloc (.cells #[.bool true, .bool true, .bool T] 98)
  rw [← hb_fb, ← hw_w8] at h_HO8
  have HO8 := Lib.hid h_HO8
  clear h_HO8
  go_upto_region 29 with fail
  rw [← hb_fb, ← hw_w8]
  clear hb_fb hw_w8
  have HO9 : Hid (Own w (FaO fb true true T * (CsP p c * emp)) w8) := HO8
  obtain ⟨f0, f1, f2, f3⟩ := HO9.out.fa
  clear HO8 HO7
  go_upto_block 5 with fail
  have HPG : Hid (Own w (CsP p c * (FaO fb true true T * emp)) w8) := Lib.hid HO9.out.second
  go_cut [] (fun wx => ∃ c : Cs, Cc N D c ∧ c.net.all = [] ∧ Own w (CsP p c * (FaO fb true true T * emp)) wx)
  case first =>
    refine ccGive w (FaO fb true true T * emp) HG.out D c HI5.out HPG ?_
    intros
    go_step
    go_step
    go_meet
    assumption
  case rest =>
  clear f0 f1 f2 f3 HI5 HEF HCF HFF HPG HO9 hbb
  obtain ⟨c, hi, hnet, ho⟩ := hcut
  have hbb : c.hist.length ≤ 100000 := by have := hi.z.len; omega
  have hl60 := hi.z.len
  have hef := hi.z.right
  have hcf := hi.z.causal
  have hff := hi.z.fifo
  have hwt := hi.z.ci.what
  obtain ⟨⟨_, _⟩, hq1, hq2, hq3⟩ := hi.count
  have HI5 := Lib.hid hi
  have HO5 := Lib.hid ho
  clear ho hi HT
  obtain ⟨T2, hT2⟩ : ∃ x, x = facesT c.hist := ⟨_, rfl⟩
  obtain ⟨LH, hLH⟩ : ∃ x, x = c.hist.length := ⟨_, rfl⟩
  obtain ⟨LN, hLN⟩ : ∃ x, x = c.net.all.length := ⟨_, rfl⟩
  obtain ⟨S, hS⟩ : ∃ x, x = saysN c.hist := ⟨_, rfl⟩
  obtain ⟨H, hH⟩ : ∃ x, x = hearsN c.hist := ⟨_, rfl⟩
  rw [← hS, ← hH] at hq1 hq3
  rw [← hS] at hq2
  rw [← hLH] at hl60
  have hln0 : LN = 0 := by rw [hLN, hnet]; rfl
  subst hln0
  obtain ⟨M, hM⟩ : ∃ M, M = S * (N - 1) := ⟨_, rfl⟩
  rw [← hM] at hq1 hq2 hq3
  have HEF := Lib.hid hef; have HCF := Lib.hid hcf; have HFF := Lib.hid hff; have HT2 := Lib.hid hT2; have HLH := Lib.hid hLH; have HLN := Lib.hid hLN; have HS := Lib.hid hS; have HH := Lib.hid hH; have HM := Lib.hid hM; have HWT := Lib.hid hwt; have HQ3 := Lib.hid hq3; have HNET := Lib.hid hnet
  clear hef hcf hff hT2 hLH hLN hS hH hM hwt hq3 hnet
  go_wp2_with fail
  refine (csHistory_any p c HI5.out.z.i hbb HO5.out).mono ?_
  rintro e w10 ⟨v10, rfl, ho⟩
  obtain ⟨had, hcp, hhv, hx1, hx2, _⟩ := Own.rd ho
  have hrd : ReadsE w (EvSl v10 c.hist * (CsP p c * (FaO fb true true T * emp))) v10 c.hist := EvSl_reads (hist_good HI5.out)
  rw [← HLH.out] at hhv hx1
  subst hhv
  have HO10 := Lib.hid ho
  clear ho HO5
  have HRD := Lib.hid hrd
  clear hrd
  go_wp2_with fail
  refine (facesOf_any _ c.hist HO10.out HRD.out).mono ?_
  rintro e w11 ⟨rfl, ho⟩
  rw [HEF.out, HCF.out, HFF.out, ← HT2.out, errV0]
  have HO11 : Hid (Own w (FaO fb true true T * (EvSl (.slice had LH hcp) c.hist * (CsP p c * emp))) w11) := Lib.hid (ho.perm (by ac_rfl))
  clear ho HO10
  obtain ⟨f0, f1, f2, f3⟩ := HO11.out.fa
  go_upto_region 39 with fail
  have h12 := ((HO11.out.fa0 true).fa1 true).fa2 T2
  obtain ⟨w12, hw12⟩ : ∃ x, x = (((w11.setCell ⟨fb, 0, none⟩ (.bool true)).setCell ⟨fb, 1, none⟩ (.bool true)).setCell ⟨fb, 2, none⟩ (.bool T2)) := ⟨_, rfl⟩
  rw [← hw12] at h12 ⊢
  clear hw12 f0 f1 f2 f3
  obtain ⟨f0, f1, f2, f3⟩ := h12.fa
  have HO12 : Hid (Own w (CsP p c * (FaO fb true true T2 * (EvSl (.slice had LH hcp) c.hist * emp))) w12) := Lib.hid (h12.perm (by ac_rfl))
  clear h12 HO11
  have n1 : ¬ (N : Int) < 2 := by omega
  have n2 : ¬ 5 < (N : Int) := by omega
  go_wp2_with fail
  refine (csOnWay_any p c HI5.out.z.i HO12.out).mono ?_
  rintro e w13 ⟨v13, rfl, ho⟩
  obtain ⟨ad13, cp13, hv13, _⟩ := Own.rd ho
  rw [← HLN.out] at hv13
  subst hv13
  have HO13 : Hid (Own w (EvSl (.slice had LH hcp) c.hist * (CsP p c * (FaO fb true true T2 * emp))) w13) := Lib.hid (ho.drop.perm (by ac_rfl))
  clear ho HO12 f0 f1 f2 f3
  have HRD2 : Hid (ReadsE w (EvSl (.slice had LH hcp) c.hist * (CsP p c * (FaO fb true true T2 * emp))) (.slice had LH hcp) c.hist) := Lib.hid (EvSl_reads (hist_good HI5.out))
  go_upto_block 7 with fail
  go_cut [21, 22] (fun a b wx => a = .int .i64 (saysN c.hist : Nat) ∧ b = .int .i64 (hearsN c.hist : Nat) ∧ wx = w13)
  case first =>
    refine ccCount w _ LH had hcp c.hist HWT.out HLH.out hl60 hx1 hx2 HRD2 HO13 ?_
    intros
    go_step
    go_step
    go_meet
    assumption
  case rest =>
  obtain ⟨rfl, rfl, rfl⟩ := hcut
  rw [← HS.out, ← HH.out]
  have hprod : (S : Int) * ((N : Int) - 1) = (M : Int) := by
    rw [HM.out, Int.natCast_mul, Int.natCast_sub (by omega)]; rfl
  have hSb : S ≤ 60 := by
    have := HM.out
    have h2 : S * 1 ≤ S * (N - 1) := Nat.mul_le_mul_left _ (by omega)
    omega
  cases D
  · have hHM : H = M := HQ3.out HNET.out rfl
    subst hHM
    go_wp2
    go_ret
    exact ⟨rfl, HO13.out.below⟩
  · go_wp2
    go_ret
    exact ⟨rfl, HO13.out.below⟩
end Go.Proofs.YtldmdenojpnldaaDoor
/- Closed facts on the program as a whole, each asked once for all statements of the seat. -/
namespace Go.Proofs.YtldmdenojpnldaaDoor.facts
set_option linter.unusedVariables false
set_option linter.unusedSimpArgs false
open Go.ChangeShapes Go.WideShapes Go.ChangeAt
theorem words_step (w r : List Char) (h : w.all (fun c => c != Char.ofNat 32) = true) : wordsSigns (w ++ Char.ofNat 32 :: r) = w :: wordsSigns r := by
  induction w with
  | nil => rfl
  | cons c w ih =>
    simp only [List.all_cons, Bool.and_eq_true, bne_iff_ne, ne_eq] at h
    rw [List.cons_append]
    have e : wordsSigns (c :: (w ++ Char.ofNat 32 :: r)) = match wordsSigns (w ++ Char.ofNat 32 :: r) with | x :: xs => (c :: x) :: xs | [] => [[c]] := by
      conv => lhs; unfold wordsSigns
      split
      · rename_i h1; cases h1
      · rename_i h1; injection h1 with h2 _; exact absurd h2 h.1
      · rename_i h1; injection h1 with h2 h3; subst h2 h3; rfl
    rw [e, ih (by simpa using h.2)]
theorem make_of (P : Program) (c : List Char) (rest : List (List Char)) (h : behindMainWord (wordsSigns P.initOrder.toList) = c :: rest) : P.make =
  if c == "gc".toList || c == "spec".toList then some .whole else if c == "cut".toList || (c == "finals".toList && rest.head? == some "cut".toList) then some .cut else if c == "carried".toList then some .carried else if P.headLifts.isEmpty then none else some (.lifted P.headLifts) := by
  unfold Program.make
  rw [h]
theorem mayEnter_of (P : Program) (c : List Char) (rest : List (List Char)) (h : behindMainWord (wordsSigns P.initOrder.toList) = c :: rest) : P.mayEnter = (
    ((c == "gc".toList || c == "spec".toList) && (rest.isEmpty || rest.head? == some "stop".toList)) ||
    (c == "carried".toList && rest.take 2 == ["gc".toList, "cut".toList] && !P.laysLater && !P.bearsReflect) ||
    ((stripLifts liftWords (c :: rest)).2.head? == some "cut".toList &&
      ((stripLifts liftWords (c :: rest)).1.contains "finals" || !P.laysLater) && ((stripLifts liftWords (c :: rest)).1.contains "reflectrows" || !P.bearsReflect) &&
      ((stripLifts liftWords (c :: rest)).1.contains "reflectrows" || !(stripLifts liftWords (c :: rest)).1.contains "leanrows") &&
      P.doorFits (stripLifts liftWords (c :: rest)).1)) := by
  unfold Program.mayEnter
  rw [h]
def hw0 : List Char := [Char.ofNat 104, Char.ofNat 97, Char.ofNat 114, Char.ofNat 110, Char.ofNat 101, Char.ofNat 115, Char.ofNat 115]
def hw1 : List Char := [Char.ofNat 101, Char.ofNat 102, Char.ofNat 98, Char.ofNat 50, Char.ofNat 56, Char.ofNat 101, Char.ofNat 52, Char.ofNat 57, Char.ofNat 97, Char.ofNat 50, Char.ofNat 48, Char.ofNat 53, Char.ofNat 51, Char.ofNat 55, Char.ofNat 56, Char.ofNat 57, Char.ofNat 50, Char.ofNat 57, Char.ofNat 52, Char.ofNat 49, Char.ofNat 55, Char.ofNat 55, Char.ofNat 50, Char.ofNat 99, Char.ofNat 101, Char.ofNat 53, Char.ofNat 56, Char.ofNat 53, Char.ofNat 50, Char.ofNat 102, Char.ofNat 53, Char.ofNat 99, Char.ofNat 53, Char.ofNat 48, Char.ofNat 102, Char.ofNat 98, Char.ofNat 50, Char.ofNat 97, Char.ofNat 100, Char.ofNat 56, Char.ofNat 54, Char.ofNat 97, Char.ofNat 55, Char.ofNat 97, Char.ofNat 55, Char.ofNat 52, Char.ofNat 54, Char.ofNat 49, Char.ofNat 99, Char.ofNat 54, Char.ofNat 97, Char.ofNat 101, Char.ofNat 52, Char.ofNat 98, Char.ofNat 49, Char.ofNat 100, Char.ofNat 57, Char.ofNat 101, Char.ofNat 102, Char.ofNat 54, Char.ofNat 54, Char.ofNat 56, Char.ofNat 49, Char.ofNat 51]
def hw2 : List Char := [Char.ofNat 99, Char.ofNat 117, Char.ofNat 116]
def hrest : List Char := [Char.ofNat 97, Char.ofNat 116, Char.ofNat 32, Char.ofNat 109, Char.ofNat 111, Char.ofNat 111, Char.ofNat 116, Char.ofNat 98, Char.ofNat 101, Char.ofNat 108, Char.ofNat 108, Char.ofNat 47, Char.ofNat 109, Char.ofNat 111, Char.ofNat 111, Char.ofNat 116, Char.ofNat 108, Char.ofNat 97, Char.ofNat 119, Char.ofNat 52, Char.ofNat 46, Char.ofNat 78, Char.ofNat 101, Char.ofNat 116, Char.ofNat 70, Char.ofNat 117, Char.ofNat 108, Char.ofNat 108, Char.ofNat 32, Char.ofNat 109, Char.ofNat 111, Char.ofNat 111, Char.ofNat 116, Char.ofNat 98, Char.ofNat 101, Char.ofNat 108, Char.ofNat 108, Char.ofNat 47, Char.ofNat 109, Char.ofNat 111, Char.ofNat 111, Char.ofNat 116, Char.ofNat 108, Char.ofNat 97, Char.ofNat 119, Char.ofNat 49, Char.ofNat 46, Char.ofNat 78, Char.ofNat 101, Char.ofNat 116, Char.ofNat 75, Char.ofNat 101, Char.ofNat 101, Char.ofNat 112, Char.ofNat 115, Char.ofNat 32, Char.ofNat 109, Char.ofNat 111, Char.ofNat 111, Char.ofNat 116, Char.ofNat 98, Char.ofNat 101, Char.ofNat 108, Char.ofNat 108, Char.ofNat 47, Char.ofNat 109, Char.ofNat 111, Char.ofNat 111, Char.ofNat 116, Char.ofNat 108, Char.ofNat 97, Char.ofNat 119, Char.ofNat 49, Char.ofNat 46, Char.ofNat 78, Char.ofNat 101, Char.ofNat 116, Char.ofNat 80, Char.ofNat 108, Char.ofNat 97, Char.ofNat 121, Char.ofNat 115, Char.ofNat 32, Char.ofNat 109, Char.ofNat 111, Char.ofNat 111, Char.ofNat 116, Char.ofNat 98, Char.ofNat 101, Char.ofNat 108, Char.ofNat 108, Char.ofNat 47, Char.ofNat 109, Char.ofNat 111, Char.ofNat 111, Char.ofNat 116, Char.ofNat 108, Char.ofNat 97, Char.ofNat 119, Char.ofNat 49, Char.ofNat 46, Char.ofNat 67, Char.ofNat 97, Char.ofNat 117, Char.ofNat 115, Char.ofNat 101, Char.ofNat 87, Char.ofNat 97, Char.ofNat 105, Char.ofNat 116, Char.ofNat 115, Char.ofNat 32, Char.ofNat 109, Char.ofNat 111, Char.ofNat 111, Char.ofNat 116, Char.ofNat 98, Char.ofNat 101, Char.ofNat 108, Char.ofNat 108, Char.ofNat 47, Char.ofNat 109, Char.ofNat 111, Char.ofNat 111, Char.ofNat 116, Char.ofNat 108, Char.ofNat 97, Char.ofNat 119, Char.ofNat 49, Char.ofNat 46, Char.ofNat 67, Char.ofNat 97, Char.ofNat 117, Char.ofNat 115, Char.ofNat 101, Char.ofNat 80, Char.ofNat 108, Char.ofNat 97, Char.ofNat 121, Char.ofNat 115, Char.ofNat 32, Char.ofNat 109, Char.ofNat 111, Char.ofNat 111, Char.ofNat 116, Char.ofNat 98, Char.ofNat 101, Char.ofNat 108, Char.ofNat 108, Char.ofNat 47, Char.ofNat 109, Char.ofNat 111, Char.ofNat 111, Char.ofNat 116, Char.ofNat 108, Char.ofNat 97, Char.ofNat 119, Char.ofNat 52, Char.ofNat 46, Char.ofNat 67, Char.ofNat 97, Char.ofNat 115, Char.ofNat 116, Char.ofNat 65, Char.ofNat 108, Char.ofNat 108, Char.ofNat 32, Char.ofNat 109, Char.ofNat 111, Char.ofNat 111, Char.ofNat 116, Char.ofNat 98, Char.ofNat 101, Char.ofNat 108, Char.ofNat 108, Char.ofNat 47, Char.ofNat 109, Char.ofNat 111, Char.ofNat 111, Char.ofNat 116, Char.ofNat 108, Char.ofNat 97, Char.ofNat 119, Char.ofNat 49, Char.ofNat 46, Char.ofNat 67, Char.ofNat 97, Char.ofNat 115, Char.ofNat 116, Char.ofNat 80, Char.ofNat 108, Char.ofNat 97, Char.ofNat 121, Char.ofNat 115, Char.ofNat 32, Char.ofNat 109, Char.ofNat 111, Char.ofNat 111, Char.ofNat 116, Char.ofNat 98, Char.ofNat 101, Char.ofNat 108, Char.ofNat 108, Char.ofNat 47, Char.ofNat 109, Char.ofNat 111, Char.ofNat 111, Char.ofNat 116, Char.ofNat 108, Char.ofNat 97, Char.ofNat 119, Char.ofNat 49, Char.ofNat 46, Char.ofNat 67, Char.ofNat 97, Char.ofNat 115, Char.ofNat 116, Char.ofNat 67, Char.ofNat 97, Char.ofNat 117, Char.ofNat 115, Char.ofNat 97, Char.ofNat 108, Char.ofNat 32, Char.ofNat 109, Char.ofNat 111, Char.ofNat 111, Char.ofNat 116, Char.ofNat 98, Char.ofNat 101, Char.ofNat 108, Char.ofNat 108, Char.ofNat 47, Char.ofNat 109, Char.ofNat 111, Char.ofNat 111, Char.ofNat 116, Char.ofNat 108, Char.ofNat 97, Char.ofNat 119, Char.ofNat 50, Char.ofNat 46, Char.ofNat 65, Char.ofNat 103, Char.ofNat 114, Char.ofNat 101, Char.ofNat 101, Char.ofNat 79, Char.ofNat 110, Char.ofNat 101, Char.ofNat 32, Char.ofNat 109, Char.ofNat 111, Char.ofNat 111, Char.ofNat 116, Char.ofNat 98, Char.ofNat 101, Char.ofNat 108, Char.ofNat 108, Char.ofNat 47, Char.ofNat 109, Char.ofNat 111, Char.ofNat 111, Char.ofNat 116, Char.ofNat 108, Char.ofNat 97, Char.ofNat 119, Char.ofNat 50, Char.ofNat 46, Char.ofNat 65, Char.ofNat 103, Char.ofNat 114, Char.ofNat 101, Char.ofNat 101, Char.ofNat 80, Char.ofNat 108, Char.ofNat 97, Char.ofNat 121, Char.ofNat 115]
set_option maxRecDepth 100000 in
theorem init_lit : Tryd.prog.initOrder = String.ofList [Char.ofNat 104, Char.ofNat 97, Char.ofNat 114, Char.ofNat 110, Char.ofNat 101, Char.ofNat 115, Char.ofNat 115, Char.ofNat 32, Char.ofNat 101, Char.ofNat 102, Char.ofNat 98, Char.ofNat 50, Char.ofNat 56, Char.ofNat 101, Char.ofNat 52, Char.ofNat 57, Char.ofNat 97, Char.ofNat 50, Char.ofNat 48, Char.ofNat 53, Char.ofNat 51, Char.ofNat 55, Char.ofNat 56, Char.ofNat 57, Char.ofNat 50, Char.ofNat 57, Char.ofNat 52, Char.ofNat 49, Char.ofNat 55, Char.ofNat 55, Char.ofNat 50, Char.ofNat 99, Char.ofNat 101, Char.ofNat 53, Char.ofNat 56, Char.ofNat 53, Char.ofNat 50, Char.ofNat 102, Char.ofNat 53, Char.ofNat 99, Char.ofNat 53, Char.ofNat 48, Char.ofNat 102, Char.ofNat 98, Char.ofNat 50, Char.ofNat 97, Char.ofNat 100, Char.ofNat 56, Char.ofNat 54, Char.ofNat 97, Char.ofNat 55, Char.ofNat 97, Char.ofNat 55, Char.ofNat 52, Char.ofNat 54, Char.ofNat 49, Char.ofNat 99, Char.ofNat 54, Char.ofNat 97, Char.ofNat 101, Char.ofNat 52, Char.ofNat 98, Char.ofNat 49, Char.ofNat 100, Char.ofNat 57, Char.ofNat 101, Char.ofNat 102, Char.ofNat 54, Char.ofNat 54, Char.ofNat 56, Char.ofNat 49, Char.ofNat 51, Char.ofNat 32, Char.ofNat 99, Char.ofNat 117, Char.ofNat 116, Char.ofNat 32, Char.ofNat 97, Char.ofNat 116, Char.ofNat 32, Char.ofNat 109, Char.ofNat 111, Char.ofNat 111, Char.ofNat 116, Char.ofNat 98, Char.ofNat 101, Char.ofNat 108, Char.ofNat 108, Char.ofNat 47, Char.ofNat 109, Char.ofNat 111, Char.ofNat 111, Char.ofNat 116, Char.ofNat 108, Char.ofNat 97, Char.ofNat 119, Char.ofNat 52, Char.ofNat 46, Char.ofNat 78, Char.ofNat 101, Char.ofNat 116, Char.ofNat 70, Char.ofNat 117, Char.ofNat 108, Char.ofNat 108, Char.ofNat 32, Char.ofNat 109, Char.ofNat 111, Char.ofNat 111, Char.ofNat 116, Char.ofNat 98, Char.ofNat 101, Char.ofNat 108, Char.ofNat 108, Char.ofNat 47, Char.ofNat 109, Char.ofNat 111, Char.ofNat 111, Char.ofNat 116, Char.ofNat 108, Char.ofNat 97, Char.ofNat 119, Char.ofNat 49, Char.ofNat 46, Char.ofNat 78, Char.ofNat 101, Char.ofNat 116, Char.ofNat 75, Char.ofNat 101, Char.ofNat 101, Char.ofNat 112, Char.ofNat 115, Char.ofNat 32, Char.ofNat 109, Char.ofNat 111, Char.ofNat 111, Char.ofNat 116, Char.ofNat 98, Char.ofNat 101, Char.ofNat 108, Char.ofNat 108, Char.ofNat 47, Char.ofNat 109, Char.ofNat 111, Char.ofNat 111, Char.ofNat 116, Char.ofNat 108, Char.ofNat 97, Char.ofNat 119, Char.ofNat 49, Char.ofNat 46, Char.ofNat 78, Char.ofNat 101, Char.ofNat 116, Char.ofNat 80, Char.ofNat 108, Char.ofNat 97, Char.ofNat 121, Char.ofNat 115, Char.ofNat 32, Char.ofNat 109, Char.ofNat 111, Char.ofNat 111, Char.ofNat 116, Char.ofNat 98, Char.ofNat 101, Char.ofNat 108, Char.ofNat 108, Char.ofNat 47, Char.ofNat 109, Char.ofNat 111, Char.ofNat 111, Char.ofNat 116, Char.ofNat 108, Char.ofNat 97, Char.ofNat 119, Char.ofNat 49, Char.ofNat 46, Char.ofNat 67, Char.ofNat 97, Char.ofNat 117, Char.ofNat 115, Char.ofNat 101, Char.ofNat 87, Char.ofNat 97, Char.ofNat 105, Char.ofNat 116, Char.ofNat 115, Char.ofNat 32, Char.ofNat 109, Char.ofNat 111, Char.ofNat 111, Char.ofNat 116, Char.ofNat 98, Char.ofNat 101, Char.ofNat 108, Char.ofNat 108, Char.ofNat 47, Char.ofNat 109, Char.ofNat 111, Char.ofNat 111, Char.ofNat 116, Char.ofNat 108, Char.ofNat 97, Char.ofNat 119, Char.ofNat 49, Char.ofNat 46, Char.ofNat 67, Char.ofNat 97, Char.ofNat 117, Char.ofNat 115, Char.ofNat 101, Char.ofNat 80, Char.ofNat 108, Char.ofNat 97, Char.ofNat 121, Char.ofNat 115, Char.ofNat 32, Char.ofNat 109, Char.ofNat 111, Char.ofNat 111, Char.ofNat 116, Char.ofNat 98, Char.ofNat 101, Char.ofNat 108, Char.ofNat 108, Char.ofNat 47, Char.ofNat 109, Char.ofNat 111, Char.ofNat 111, Char.ofNat 116, Char.ofNat 108, Char.ofNat 97, Char.ofNat 119, Char.ofNat 52, Char.ofNat 46, Char.ofNat 67, Char.ofNat 97, Char.ofNat 115, Char.ofNat 116, Char.ofNat 65, Char.ofNat 108, Char.ofNat 108, Char.ofNat 32, Char.ofNat 109, Char.ofNat 111, Char.ofNat 111, Char.ofNat 116, Char.ofNat 98, Char.ofNat 101, Char.ofNat 108, Char.ofNat 108, Char.ofNat 47, Char.ofNat 109, Char.ofNat 111, Char.ofNat 111, Char.ofNat 116, Char.ofNat 108, Char.ofNat 97, Char.ofNat 119, Char.ofNat 49, Char.ofNat 46, Char.ofNat 67, Char.ofNat 97, Char.ofNat 115, Char.ofNat 116, Char.ofNat 80, Char.ofNat 108, Char.ofNat 97, Char.ofNat 121, Char.ofNat 115, Char.ofNat 32, Char.ofNat 109, Char.ofNat 111, Char.ofNat 111, Char.ofNat 116, Char.ofNat 98, Char.ofNat 101, Char.ofNat 108, Char.ofNat 108, Char.ofNat 47, Char.ofNat 109, Char.ofNat 111, Char.ofNat 111, Char.ofNat 116, Char.ofNat 108, Char.ofNat 97, Char.ofNat 119, Char.ofNat 49, Char.ofNat 46, Char.ofNat 67, Char.ofNat 97, Char.ofNat 115, Char.ofNat 116, Char.ofNat 67, Char.ofNat 97, Char.ofNat 117, Char.ofNat 115, Char.ofNat 97, Char.ofNat 108, Char.ofNat 32, Char.ofNat 109, Char.ofNat 111, Char.ofNat 111, Char.ofNat 116, Char.ofNat 98, Char.ofNat 101, Char.ofNat 108, Char.ofNat 108, Char.ofNat 47, Char.ofNat 109, Char.ofNat 111, Char.ofNat 111, Char.ofNat 116, Char.ofNat 108, Char.ofNat 97, Char.ofNat 119, Char.ofNat 50, Char.ofNat 46, Char.ofNat 65, Char.ofNat 103, Char.ofNat 114, Char.ofNat 101, Char.ofNat 101, Char.ofNat 79, Char.ofNat 110, Char.ofNat 101, Char.ofNat 32, Char.ofNat 109, Char.ofNat 111, Char.ofNat 111, Char.ofNat 116, Char.ofNat 98, Char.ofNat 101, Char.ofNat 108, Char.ofNat 108, Char.ofNat 47, Char.ofNat 109, Char.ofNat 111, Char.ofNat 111, Char.ofNat 116, Char.ofNat 108, Char.ofNat 97, Char.ofNat 119, Char.ofNat 50, Char.ofNat 46, Char.ofNat 65, Char.ofNat 103, Char.ofNat 114, Char.ofNat 101, Char.ofNat 101, Char.ofNat 80, Char.ofNat 108, Char.ofNat 97, Char.ofNat 121, Char.ofNat 115] := by kernel_rfl
set_option maxRecDepth 100000 in
theorem init_chars : Tryd.prog.initOrder.toList = [Char.ofNat 104, Char.ofNat 97, Char.ofNat 114, Char.ofNat 110, Char.ofNat 101, Char.ofNat 115, Char.ofNat 115, Char.ofNat 32, Char.ofNat 101, Char.ofNat 102, Char.ofNat 98, Char.ofNat 50, Char.ofNat 56, Char.ofNat 101, Char.ofNat 52, Char.ofNat 57, Char.ofNat 97, Char.ofNat 50, Char.ofNat 48, Char.ofNat 53, Char.ofNat 51, Char.ofNat 55, Char.ofNat 56, Char.ofNat 57, Char.ofNat 50, Char.ofNat 57, Char.ofNat 52, Char.ofNat 49, Char.ofNat 55, Char.ofNat 55, Char.ofNat 50, Char.ofNat 99, Char.ofNat 101, Char.ofNat 53, Char.ofNat 56, Char.ofNat 53, Char.ofNat 50, Char.ofNat 102, Char.ofNat 53, Char.ofNat 99, Char.ofNat 53, Char.ofNat 48, Char.ofNat 102, Char.ofNat 98, Char.ofNat 50, Char.ofNat 97, Char.ofNat 100, Char.ofNat 56, Char.ofNat 54, Char.ofNat 97, Char.ofNat 55, Char.ofNat 97, Char.ofNat 55, Char.ofNat 52, Char.ofNat 54, Char.ofNat 49, Char.ofNat 99, Char.ofNat 54, Char.ofNat 97, Char.ofNat 101, Char.ofNat 52, Char.ofNat 98, Char.ofNat 49, Char.ofNat 100, Char.ofNat 57, Char.ofNat 101, Char.ofNat 102, Char.ofNat 54, Char.ofNat 54, Char.ofNat 56, Char.ofNat 49, Char.ofNat 51, Char.ofNat 32, Char.ofNat 99, Char.ofNat 117, Char.ofNat 116, Char.ofNat 32, Char.ofNat 97, Char.ofNat 116, Char.ofNat 32, Char.ofNat 109, Char.ofNat 111, Char.ofNat 111, Char.ofNat 116, Char.ofNat 98, Char.ofNat 101, Char.ofNat 108, Char.ofNat 108, Char.ofNat 47, Char.ofNat 109, Char.ofNat 111, Char.ofNat 111, Char.ofNat 116, Char.ofNat 108, Char.ofNat 97, Char.ofNat 119, Char.ofNat 52, Char.ofNat 46, Char.ofNat 78, Char.ofNat 101, Char.ofNat 116, Char.ofNat 70, Char.ofNat 117, Char.ofNat 108, Char.ofNat 108, Char.ofNat 32, Char.ofNat 109, Char.ofNat 111, Char.ofNat 111, Char.ofNat 116, Char.ofNat 98, Char.ofNat 101, Char.ofNat 108, Char.ofNat 108, Char.ofNat 47, Char.ofNat 109, Char.ofNat 111, Char.ofNat 111, Char.ofNat 116, Char.ofNat 108, Char.ofNat 97, Char.ofNat 119, Char.ofNat 49, Char.ofNat 46, Char.ofNat 78, Char.ofNat 101, Char.ofNat 116, Char.ofNat 75, Char.ofNat 101, Char.ofNat 101, Char.ofNat 112, Char.ofNat 115, Char.ofNat 32, Char.ofNat 109, Char.ofNat 111, Char.ofNat 111, Char.ofNat 116, Char.ofNat 98, Char.ofNat 101, Char.ofNat 108, Char.ofNat 108, Char.ofNat 47, Char.ofNat 109, Char.ofNat 111, Char.ofNat 111, Char.ofNat 116, Char.ofNat 108, Char.ofNat 97, Char.ofNat 119, Char.ofNat 49, Char.ofNat 46, Char.ofNat 78, Char.ofNat 101, Char.ofNat 116, Char.ofNat 80, Char.ofNat 108, Char.ofNat 97, Char.ofNat 121, Char.ofNat 115, Char.ofNat 32, Char.ofNat 109, Char.ofNat 111, Char.ofNat 111, Char.ofNat 116, Char.ofNat 98, Char.ofNat 101, Char.ofNat 108, Char.ofNat 108, Char.ofNat 47, Char.ofNat 109, Char.ofNat 111, Char.ofNat 111, Char.ofNat 116, Char.ofNat 108, Char.ofNat 97, Char.ofNat 119, Char.ofNat 49, Char.ofNat 46, Char.ofNat 67, Char.ofNat 97, Char.ofNat 117, Char.ofNat 115, Char.ofNat 101, Char.ofNat 87, Char.ofNat 97, Char.ofNat 105, Char.ofNat 116, Char.ofNat 115, Char.ofNat 32, Char.ofNat 109, Char.ofNat 111, Char.ofNat 111, Char.ofNat 116, Char.ofNat 98, Char.ofNat 101, Char.ofNat 108, Char.ofNat 108, Char.ofNat 47, Char.ofNat 109, Char.ofNat 111, Char.ofNat 111, Char.ofNat 116, Char.ofNat 108, Char.ofNat 97, Char.ofNat 119, Char.ofNat 49, Char.ofNat 46, Char.ofNat 67, Char.ofNat 97, Char.ofNat 117, Char.ofNat 115, Char.ofNat 101, Char.ofNat 80, Char.ofNat 108, Char.ofNat 97, Char.ofNat 121, Char.ofNat 115, Char.ofNat 32, Char.ofNat 109, Char.ofNat 111, Char.ofNat 111, Char.ofNat 116, Char.ofNat 98, Char.ofNat 101, Char.ofNat 108, Char.ofNat 108, Char.ofNat 47, Char.ofNat 109, Char.ofNat 111, Char.ofNat 111, Char.ofNat 116, Char.ofNat 108, Char.ofNat 97, Char.ofNat 119, Char.ofNat 52, Char.ofNat 46, Char.ofNat 67, Char.ofNat 97, Char.ofNat 115, Char.ofNat 116, Char.ofNat 65, Char.ofNat 108, Char.ofNat 108, Char.ofNat 32, Char.ofNat 109, Char.ofNat 111, Char.ofNat 111, Char.ofNat 116, Char.ofNat 98, Char.ofNat 101, Char.ofNat 108, Char.ofNat 108, Char.ofNat 47, Char.ofNat 109, Char.ofNat 111, Char.ofNat 111, Char.ofNat 116, Char.ofNat 108, Char.ofNat 97, Char.ofNat 119, Char.ofNat 49, Char.ofNat 46, Char.ofNat 67, Char.ofNat 97, Char.ofNat 115, Char.ofNat 116, Char.ofNat 80, Char.ofNat 108, Char.ofNat 97, Char.ofNat 121, Char.ofNat 115, Char.ofNat 32, Char.ofNat 109, Char.ofNat 111, Char.ofNat 111, Char.ofNat 116, Char.ofNat 98, Char.ofNat 101, Char.ofNat 108, Char.ofNat 108, Char.ofNat 47, Char.ofNat 109, Char.ofNat 111, Char.ofNat 111, Char.ofNat 116, Char.ofNat 108, Char.ofNat 97, Char.ofNat 119, Char.ofNat 49, Char.ofNat 46, Char.ofNat 67, Char.ofNat 97, Char.ofNat 115, Char.ofNat 116, Char.ofNat 67, Char.ofNat 97, Char.ofNat 117, Char.ofNat 115, Char.ofNat 97, Char.ofNat 108, Char.ofNat 32, Char.ofNat 109, Char.ofNat 111, Char.ofNat 111, Char.ofNat 116, Char.ofNat 98, Char.ofNat 101, Char.ofNat 108, Char.ofNat 108, Char.ofNat 47, Char.ofNat 109, Char.ofNat 111, Char.ofNat 111, Char.ofNat 116, Char.ofNat 108, Char.ofNat 97, Char.ofNat 119, Char.ofNat 50, Char.ofNat 46, Char.ofNat 65, Char.ofNat 103, Char.ofNat 114, Char.ofNat 101, Char.ofNat 101, Char.ofNat 79, Char.ofNat 110, Char.ofNat 101, Char.ofNat 32, Char.ofNat 109, Char.ofNat 111, Char.ofNat 111, Char.ofNat 116, Char.ofNat 98, Char.ofNat 101, Char.ofNat 108, Char.ofNat 108, Char.ofNat 47, Char.ofNat 109, Char.ofNat 111, Char.ofNat 111, Char.ofNat 116, Char.ofNat 108, Char.ofNat 97, Char.ofNat 119, Char.ofNat 50, Char.ofNat 46, Char.ofNat 65, Char.ofNat 103, Char.ofNat 114, Char.ofNat 101, Char.ofNat 101, Char.ofNat 80, Char.ofNat 108, Char.ofNat 97, Char.ofNat 121, Char.ofNat 115] := by rw [init_lit, String.toList_ofList]
set_option maxRecDepth 100000 in
theorem init_split : [Char.ofNat 104, Char.ofNat 97, Char.ofNat 114, Char.ofNat 110, Char.ofNat 101, Char.ofNat 115, Char.ofNat 115, Char.ofNat 32, Char.ofNat 101, Char.ofNat 102, Char.ofNat 98, Char.ofNat 50, Char.ofNat 56, Char.ofNat 101, Char.ofNat 52, Char.ofNat 57, Char.ofNat 97, Char.ofNat 50, Char.ofNat 48, Char.ofNat 53, Char.ofNat 51, Char.ofNat 55, Char.ofNat 56, Char.ofNat 57, Char.ofNat 50, Char.ofNat 57, Char.ofNat 52, Char.ofNat 49, Char.ofNat 55, Char.ofNat 55, Char.ofNat 50, Char.ofNat 99, Char.ofNat 101, Char.ofNat 53, Char.ofNat 56, Char.ofNat 53, Char.ofNat 50, Char.ofNat 102, Char.ofNat 53, Char.ofNat 99, Char.ofNat 53, Char.ofNat 48, Char.ofNat 102, Char.ofNat 98, Char.ofNat 50, Char.ofNat 97, Char.ofNat 100, Char.ofNat 56, Char.ofNat 54, Char.ofNat 97, Char.ofNat 55, Char.ofNat 97, Char.ofNat 55, Char.ofNat 52, Char.ofNat 54, Char.ofNat 49, Char.ofNat 99, Char.ofNat 54, Char.ofNat 97, Char.ofNat 101, Char.ofNat 52, Char.ofNat 98, Char.ofNat 49, Char.ofNat 100, Char.ofNat 57, Char.ofNat 101, Char.ofNat 102, Char.ofNat 54, Char.ofNat 54, Char.ofNat 56, Char.ofNat 49, Char.ofNat 51, Char.ofNat 32, Char.ofNat 99, Char.ofNat 117, Char.ofNat 116, Char.ofNat 32, Char.ofNat 97, Char.ofNat 116, Char.ofNat 32, Char.ofNat 109, Char.ofNat 111, Char.ofNat 111, Char.ofNat 116, Char.ofNat 98, Char.ofNat 101, Char.ofNat 108, Char.ofNat 108, Char.ofNat 47, Char.ofNat 109, Char.ofNat 111, Char.ofNat 111, Char.ofNat 116, Char.ofNat 108, Char.ofNat 97, Char.ofNat 119, Char.ofNat 52, Char.ofNat 46, Char.ofNat 78, Char.ofNat 101, Char.ofNat 116, Char.ofNat 70, Char.ofNat 117, Char.ofNat 108, Char.ofNat 108, Char.ofNat 32, Char.ofNat 109, Char.ofNat 111, Char.ofNat 111, Char.ofNat 116, Char.ofNat 98, Char.ofNat 101, Char.ofNat 108, Char.ofNat 108, Char.ofNat 47, Char.ofNat 109, Char.ofNat 111, Char.ofNat 111, Char.ofNat 116, Char.ofNat 108, Char.ofNat 97, Char.ofNat 119, Char.ofNat 49, Char.ofNat 46, Char.ofNat 78, Char.ofNat 101, Char.ofNat 116, Char.ofNat 75, Char.ofNat 101, Char.ofNat 101, Char.ofNat 112, Char.ofNat 115, Char.ofNat 32, Char.ofNat 109, Char.ofNat 111, Char.ofNat 111, Char.ofNat 116, Char.ofNat 98, Char.ofNat 101, Char.ofNat 108, Char.ofNat 108, Char.ofNat 47, Char.ofNat 109, Char.ofNat 111, Char.ofNat 111, Char.ofNat 116, Char.ofNat 108, Char.ofNat 97, Char.ofNat 119, Char.ofNat 49, Char.ofNat 46, Char.ofNat 78, Char.ofNat 101, Char.ofNat 116, Char.ofNat 80, Char.ofNat 108, Char.ofNat 97, Char.ofNat 121, Char.ofNat 115, Char.ofNat 32, Char.ofNat 109, Char.ofNat 111, Char.ofNat 111, Char.ofNat 116, Char.ofNat 98, Char.ofNat 101, Char.ofNat 108, Char.ofNat 108, Char.ofNat 47, Char.ofNat 109, Char.ofNat 111, Char.ofNat 111, Char.ofNat 116, Char.ofNat 108, Char.ofNat 97, Char.ofNat 119, Char.ofNat 49, Char.ofNat 46, Char.ofNat 67, Char.ofNat 97, Char.ofNat 117, Char.ofNat 115, Char.ofNat 101, Char.ofNat 87, Char.ofNat 97, Char.ofNat 105, Char.ofNat 116, Char.ofNat 115, Char.ofNat 32, Char.ofNat 109, Char.ofNat 111, Char.ofNat 111, Char.ofNat 116, Char.ofNat 98, Char.ofNat 101, Char.ofNat 108, Char.ofNat 108, Char.ofNat 47, Char.ofNat 109, Char.ofNat 111, Char.ofNat 111, Char.ofNat 116, Char.ofNat 108, Char.ofNat 97, Char.ofNat 119, Char.ofNat 49, Char.ofNat 46, Char.ofNat 67, Char.ofNat 97, Char.ofNat 117, Char.ofNat 115, Char.ofNat 101, Char.ofNat 80, Char.ofNat 108, Char.ofNat 97, Char.ofNat 121, Char.ofNat 115, Char.ofNat 32, Char.ofNat 109, Char.ofNat 111, Char.ofNat 111, Char.ofNat 116, Char.ofNat 98, Char.ofNat 101, Char.ofNat 108, Char.ofNat 108, Char.ofNat 47, Char.ofNat 109, Char.ofNat 111, Char.ofNat 111, Char.ofNat 116, Char.ofNat 108, Char.ofNat 97, Char.ofNat 119, Char.ofNat 52, Char.ofNat 46, Char.ofNat 67, Char.ofNat 97, Char.ofNat 115, Char.ofNat 116, Char.ofNat 65, Char.ofNat 108, Char.ofNat 108, Char.ofNat 32, Char.ofNat 109, Char.ofNat 111, Char.ofNat 111, Char.ofNat 116, Char.ofNat 98, Char.ofNat 101, Char.ofNat 108, Char.ofNat 108, Char.ofNat 47, Char.ofNat 109, Char.ofNat 111, Char.ofNat 111, Char.ofNat 116, Char.ofNat 108, Char.ofNat 97, Char.ofNat 119, Char.ofNat 49, Char.ofNat 46, Char.ofNat 67, Char.ofNat 97, Char.ofNat 115, Char.ofNat 116, Char.ofNat 80, Char.ofNat 108, Char.ofNat 97, Char.ofNat 121, Char.ofNat 115, Char.ofNat 32, Char.ofNat 109, Char.ofNat 111, Char.ofNat 111, Char.ofNat 116, Char.ofNat 98, Char.ofNat 101, Char.ofNat 108, Char.ofNat 108, Char.ofNat 47, Char.ofNat 109, Char.ofNat 111, Char.ofNat 111, Char.ofNat 116, Char.ofNat 108, Char.ofNat 97, Char.ofNat 119, Char.ofNat 49, Char.ofNat 46, Char.ofNat 67, Char.ofNat 97, Char.ofNat 115, Char.ofNat 116, Char.ofNat 67, Char.ofNat 97, Char.ofNat 117, Char.ofNat 115, Char.ofNat 97, Char.ofNat 108, Char.ofNat 32, Char.ofNat 109, Char.ofNat 111, Char.ofNat 111, Char.ofNat 116, Char.ofNat 98, Char.ofNat 101, Char.ofNat 108, Char.ofNat 108, Char.ofNat 47, Char.ofNat 109, Char.ofNat 111, Char.ofNat 111, Char.ofNat 116, Char.ofNat 108, Char.ofNat 97, Char.ofNat 119, Char.ofNat 50, Char.ofNat 46, Char.ofNat 65, Char.ofNat 103, Char.ofNat 114, Char.ofNat 101, Char.ofNat 101, Char.ofNat 79, Char.ofNat 110, Char.ofNat 101, Char.ofNat 32, Char.ofNat 109, Char.ofNat 111, Char.ofNat 111, Char.ofNat 116, Char.ofNat 98, Char.ofNat 101, Char.ofNat 108, Char.ofNat 108, Char.ofNat 47, Char.ofNat 109, Char.ofNat 111, Char.ofNat 111, Char.ofNat 116, Char.ofNat 108, Char.ofNat 97, Char.ofNat 119, Char.ofNat 50, Char.ofNat 46, Char.ofNat 65, Char.ofNat 103, Char.ofNat 114, Char.ofNat 101, Char.ofNat 101, Char.ofNat 80, Char.ofNat 108, Char.ofNat 97, Char.ofNat 121, Char.ofNat 115] = hw0 ++ Char.ofNat 32 :: (hw1 ++ Char.ofNat 32 :: (hw2 ++ Char.ofNat 32 :: hrest)) := by kernel_rfl
theorem init_words : wordsSigns Tryd.prog.initOrder.toList = hw0 :: hw1 :: hw2 :: wordsSigns hrest := by
  rw [init_chars.trans init_split]
  rw [words_step hw0 _ (by kernel_rfl)]
  rw [words_step hw1 _ (by kernel_rfl)]
  rw [words_step hw2 _ (by kernel_rfl)]
theorem behind (rs : List (List Char)) : behindMainWord (hw0 :: hw1 :: hw2 :: rs) = hw2 :: rs := by kernel_rfl
theorem strip (rs : List (List Char)) : stripLifts liftWords (hw2 :: rs) = ([], hw2 :: rs) := by kernel_rfl
theorem laysLater : Tryd.prog.laysLater = false := by kernel_rfl
theorem bearsReflect : Tryd.prog.bearsReflect = false := by kernel_rfl
theorem doorFits : Tryd.prog.doorFits [] = true := by kernel_rfl
theorem headLifts : Tryd.prog.headLifts = [] := by
  unfold Program.headLifts; rw [init_words, behind, strip]; generalize wordsSigns hrest = rs; kernel_rfl
theorem mayEnter : Tryd.prog.mayEnter = true := by
  rw [mayEnter_of Tryd.prog _ _ (by rw [init_words, behind]), strip, laysLater, bearsReflect, doorFits]; generalize wordsSigns hrest = rs; kernel_rfl
theorem lifts_eq : Tryd.prog.liftsFinal = false := by
  unfold Program.liftsFinal; rw [init_words, behind, headLifts]; generalize wordsSigns hrest = rs; kernel_rfl
theorem make_eq : (Tryd.prog.make == some .cut) = true := by
  rw [make_of Tryd.prog _ _ (by rw [init_words, behind]), headLifts]; generalize wordsSigns hrest = rs; kernel_rfl
theorem laidOut : laidOutB Tryd.prog = true := by kernel_rfl
theorem mapsRowed : mapsRowed Tryd.prog = true := by kernel_rfl
theorem stops : (Tryd.prog.stops == []) = true := by kernel_rfl
theorem stopKnobs : (Tryd.prog.stopKnobs == []) = true := by kernel_rfl
theorem stopsHeard : Tryd.prog.stopsHeard = true := by kernel_rfl
theorem own : ownKnob Tryd.prog.godebug = none := by kernel_rfl
theorem and_mk {a b : Bool} (ha : a = true) (hb : b = true) : (a && b) = true := by rw [ha, hb]; rfl
end Go.Proofs.YtldmdenojpnldaaDoor.facts
