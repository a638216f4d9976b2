/- Contracts of package history, continued: what is wrong with a history. -/
import Derived.Test.YtddbjcpfgjcmnaaHist2
namespace Go.Proofs.Ytddbjcpfgjcmnaa
set_option linter.unusedVariables false
set_option linter.unusedSimpArgs false
open Go.RowKit
theorem histGo_cons (ahead : List Ev) (x : Ev) (r : List Ev) : histGo ahead (x :: r) = if evErr ahead x ≠ 0 then (ahead.length, evErr ahead x) else histGo (ahead ++ [x]) r := rfl
theorem histGo_step {l : List Ev} {k : Nat} (hk : k < l.length) : histGo (l.take k) (l.drop k) = if evErr (l.take k) (evAt l k) ≠ 0 then (k, evErr (l.take k) (evAt l k)) else histGo (l.take (k + 1)) (l.drop (k + 1)) := by
  have hev : evAt l k = l[k] := by unfold evAt; rw [List.getD_eq_getElem?_getD, List.getElem?_eq_getElem hk]; rfl
  rw [List.drop_eq_getElem_cons hk, hev, histGo_cons, show (l.take k).length = k by simp; omega, ← List.take_succ_eq_append_getElem hk]
theorem errV_ne {E : Nat} (h : E ≠ 0) : errV E = .iface 38 (.int .i64 (E : Int)) := by
  obtain ⟨k, rfl⟩ : ∃ k, E = k + 1 := ⟨E - 1, by omega⟩
  rfl
set_option maxRecDepth 100000 in
set_option maxHeartbeats 4000000 in
theorem hCheck_any {w0 w : World} {R : HProp} (v : Value) (l : List Ev) (h : Own w0 R w) (hl : ReadsE w0 R v l) :
    Calls Try.prog 20 #[v] w fun e w' => e = .returned (.tuple #[.int .i64 (histR l).1, errV (histR l).2]) ∧ Own w0 R w' := by
  obtain ⟨ad, cap, rfl, hlc, hcap⟩ := (hl _ h).shape
  by_cases hlen : 60 < l.length
  · have hr : histR l = (0, 4) := by unfold histR; rw [if_pos hlen]
    have t1 : decide ((60 : Int) < (l.length : Int)) = true := by simp; omega
    have H := Lib.hid h; have HL := Lib.hid hl; have HR := Lib.hid hr
    clear h hl hr
    go_enter Try.func20, Try.ntmps20
    go_wp2
    go_ret2
    exact ⟨by rw [HR.out]; rfl, H.out⟩
  have hr : histR l = histGo [] l := by unfold histR; rw [if_neg hlen]
  have t1 : decide ((60 : Int) < (l.length : Int)) = false := by simp; omega
  have H := Lib.hid h; have HL := Lib.hid hl; have HR := Lib.hid hr
  clear h hl hr
  go_enter Try.func20, Try.ntmps20
  go_wp2_with fail
  go_loopw [13] (fun i wr => ∃ k : Nat, k ≤ l.length ∧ i = .int .i64 k ∧ Hid (histGo (l.take k) (l.drop k) = histR l) ∧ Hid (Own w0 R wr)) (fun i _ => l.length - (intOf i).toNat)
  case atStart => exact ⟨0, Nat.zero_le _, rfl, Lib.hid HR.out.symm, H⟩
  case round =>
    obtain ⟨k, hk, rfl, hp, HO⟩ := hrel
    by_cases hlt : k < l.length
    rotate_left
    · have hfin : histR l = (0, 0) := by
        have := hp.out
        rw [List.drop_of_length_le (by omega)] at this
        rw [← this]; unfold histGo; rfl
      have HFIN := Lib.hid hfin
      clear hfin
      go_wp2
      go_ret2
      exact ⟨by rw [HFIN.out]; rfl, HO.out⟩
    obtain ⟨aa, eb, eo, es, rfl, hea, hcs, hgd⟩ := HL.out.at HO.out k hlt
    have hst := histGo_step hlt
    rw [hp.out] at hst
    obtain ⟨x, hx⟩ : ∃ x, x = evAt l k := ⟨_, rfl⟩
    rw [← hx] at hcs hst hgd
    obtain ⟨c0, c1, c2⟩ := hcs _ HO.out
    have hck := fun (w1 : World) (b1 : Nat) (ho : Own w0 (EvO b1 x * R) w1) => evCheck_any (w0 := w0) (w := w1) (R := EvO b1 x * R) x (.slice (some aa) k cap) (l.take k) ho (HL.out.front (by omega)).more
    obtain ⟨a, b, d⟩ := x
    unfold evV at hck
    obtain ⟨b1, hb_b1⟩ : ∃ zz_, zz_ = (wr).heap.size := ⟨_, rfl⟩
    obtain ⟨w1, hw_w1⟩ : ∃ zz_, zz_ = (wr).alloc (.cells #[.int .i64 a, .int .i64 b, .int .i64 d] 40 (0, 0)) := ⟨_, rfl⟩
    have h_HO1 := (HO.out).alloc (.cells #[.int .i64 a, .int .i64 b, .int .i64 d] 40 (0, 0))
    rw [← hb_b1, ← hw_w1] at h_HO1
    have HO1 := Lib.hid h_HO1
    clear h_HO1
    have HW1 : Hid (Own w0 (EvO b1 (a, b, d) * R) w1) := HO1
    obtain ⟨d0, d1, d2⟩ := HW1.out.ev
    simp only at c0 c1 c2 d0 d1 d2
    clear HO1
    obtain ⟨E, hE⟩ : ∃ E, E = evErr (l.take k) (a, b, d) := ⟨_, rfl⟩
    rw [← hE] at hst
    have HE_ := Lib.hid hE
    clear hE
    have HCS := Lib.hid hcs; have HX := Lib.hid hx; have HGD := Lib.hid hgd; have HCK := Lib.hid hck
    clear hcs hx hgd hck
    have hk0 : (0 : Int) ≤ (k : Int) := by omega
    have hkc : (k : Int) ≤ (cap : Int) := by omega
    have hkl : (k : Int) ≤ (l.length : Int) := by omega
    have hc0 : cap ≠ 0 := by omega
    by_cases he : E = 0
    rotate_left
    · have hee := errV_ne he
      rw [if_pos he] at hst
      have HE := Lib.hid he; have HST := Lib.hid hst; have HEE := Lib.hid hee
      clear he hst hee
      go_upto_region 6 with fail
      rw [← hb_b1, ← hw_w1]
      clear hb_b1 hw_w1
      clear c0 c1 c2
      refine wp_region_tail 4 (by kernel_rfl) (by kernel_rfl) ?_
      simp only [List.take_succ_cons, List.take_zero, List.drop_succ_cons, List.drop_zero]
      repeat still_step
      refine wpStill_nil ?_
      go_wp2_with fail
      refine (HCK.out _ _ HW1.out.drew).mono ?_
      rintro e w2 ⟨rfl, ho⟩
      rw [← HE_.out, HEE.out]
      have HO2 := Lib.hid ho.drop
      clear ho
      go_wp2
      go_ret2
      exact ⟨by rw [HST.out]; exact congrArg (fun z => Ending.returned (.tuple #[.int .i64 k, z])) HEE.out.symm, HO2.out⟩
    rw [if_neg (by simpa using he)] at hst
    have hee : errV E = .nilIface := by rw [he]; rfl
    have HE := Lib.hid he; have HST := Lib.hid hst; have HEE := Lib.hid hee
    clear he hst hee
    go_upto_region 6 with fail
    rw [← hb_b1, ← hw_w1]
    clear hb_b1 hw_w1
    clear c0 c1 c2
    refine wp_region_tail 4 (by kernel_rfl) (by kernel_rfl) ?_
    simp only [List.take_succ_cons, List.take_zero, List.drop_succ_cons, List.drop_zero]
    repeat still_step
    refine wpStill_nil ?_
    go_wp2_with fail
    refine (HCK.out _ _ HW1.out.drew).mono ?_
    rintro e w2 ⟨rfl, ho⟩
    rw [← HE_.out, HEE.out]
    have HO2 := Lib.hid ho.drop
    clear ho
    go_wp2
    go_round
    case rel => exact ⟨k + 1, by omega, by go_num, Lib.hid HST.out.symm, HO2⟩
    case measure => simp [intOf]; omega
set_option maxRecDepth 100000 in
set_option maxHeartbeats 4000000 in
theorem hRight_any {w0 w : World} {R : HProp} (v : Value) (l : List Ev) (h : Own w0 R w) (hl : ReadsE w0 R v l) :
    Calls Try.prog 16 #[v] w fun e w' => e = .returned (errV (histR l).2) ∧ Own w0 R w' := by
  obtain ⟨ad, cap, rfl, hlc, hcap⟩ := (hl _ h).shape
  have H := Lib.hid h; have HL := Lib.hid hl
  clear h hl
  go_enter Try.func16, Try.ntmps16
  go_wp2_with fail
  refine (hCheck_any _ l H.out HL.out).mono ?_
  rintro e w2 ⟨rfl, ho⟩
  obtain ⟨E, hE⟩ : ∃ E, E = (histR l).2 := ⟨_, rfl⟩
  obtain ⟨q, hq⟩ : ∃ q, q = (histR l).1 := ⟨_, rfl⟩
  rw [← hE, ← hq]
  have HO2 := Lib.hid ho
  have HE := Lib.hid hE; have HQ := Lib.hid hq
  clear hE hq
  clear ho
  go_wp2
  go_ret
  exact ⟨by rw [← HE.out]; rfl, HO2.out⟩
set_option maxRecDepth 100000 in
set_option maxHeartbeats 4000000 in
theorem fnIndex_any {w0 w : World} {R : HProp} (fid : FuncId) (c : Value) (p : Int → Bool) (v : Value) (l : List Int) (h : Own w0 R w) (hl : Reads w0 R v l) (hcf : ∀ a w, Sem.run Try.prog (callFunc fid a) w = .ok (.enter fid a) w) (hf : ∀ x w, Own w0 R w → Calls Try.prog fid #[.int .i64 x, c] w fun e w' => e = .returned (.bool (p x)) ∧ Own w0 R w') :
    Calls Try.prog 25 #[v, .func (.func fid) #[] #[c]] w fun e w' => e = .returned (.int .i64 (whereI p l)) ∧ Own w0 R w' := by
  obtain ⟨ad, cap, rfl, hlc, hcap⟩ := (hl _ h).shape
  have H := Lib.hid h; have HL := Lib.hid hl; have HF := Lib.hid hf; have HCF := Lib.hid hcf
  clear h hl hf hcf
  go_enter Try.func25, Try.ntmps25
  go_wp2_with fail
  go_loopw [8] (fun i wr => ∃ k : Nat, k ≤ l.length ∧ i = .int .i64 k ∧ Hid (Own w0 R wr) ∧ Hid (∀ j (_ : j < k) (h : j < l.length), p l[j] = false)) (fun i _ => l.length - (intOf i).toNat)
  case atStart => exact ⟨0, Nat.zero_le _, rfl, H, Lib.hid (fun j h => by omega)⟩
  case round =>
    obtain ⟨k, hk, rfl, HO, hp⟩ := hrel
    by_cases hlt : k < l.length
    rotate_left
    · have hm : whereI p l = -1 := whereI_miss _ l (fun j h => hp.out j (by omega) h)
      have HM := Lib.hid hm
      clear hm
      go_wp2
      go_ret
      exact ⟨by rw [HM.out]; rfl, HO.out⟩
    obtain ⟨aa, rfl, hca⟩ := (HL.out _ HO.out).at k hlt
    obtain ⟨x, hx⟩ : ∃ x, x = l[k] := ⟨_, rfl⟩
    rw [← hx] at hca
    cases hs : p x
    · have hn : ∀ j (_ : j < k + 1) (h : j < l.length), p l[j] = false := fun j h1 h2 => by
        by_cases e : j = k
        · subst e; rw [← hx]; exact hs
        · exact hp.out j (by omega) h2
      have HN := Lib.hid hn; have HX := Lib.hid hx
      clear hn hx
      go_wp2_with fail
      rw [HCF.out]
      go_wp2_with fail
      refine (HF.out x _ HO.out).mono ?_
      rintro e w' ⟨rfl, ho⟩
      rw [hs]
      have HO2 := Lib.hid ho
      clear ho hca
      go_wp2
      go_round
      case rel => exact ⟨k + 1, by omega, by go_num, HO2, HN⟩
      case measure => simp [intOf]; omega
    · have hm : whereI p l = k := whereI_hit _ l k hlt (fun j h => hp.out j h (by omega)) (by rw [← hx]; exact hs)
      have HM := Lib.hid hm; have HX := Lib.hid hx
      clear hm hx
      go_wp2_with fail
      rw [HCF.out]
      go_wp2_with fail
      refine (HF.out x _ HO.out).mono ?_
      rintro e w' ⟨rfl, ho⟩
      rw [hs]
      have HO2 := Lib.hid ho
      clear ho hca
      go_wp2
      go_ret
      exact ⟨by rw [HM.out]; rfl, HO2.out⟩
set_option maxRecDepth 100000 in
set_option maxHeartbeats 4000000 in
theorem fnContains_any {w0 w : World} {R : HProp} (fid : FuncId) (c : Value) (p : Int → Bool) (v : Value) (l : List Int) (h : Own w0 R w) (hl : Reads w0 R v l) (hcf : ∀ a w, Sem.run Try.prog (callFunc fid a) w = .ok (.enter fid a) w) (hf : ∀ x w, Own w0 R w → Calls Try.prog fid #[.int .i64 x, c] w fun e w' => e = .returned (.bool (p x)) ∧ Own w0 R w') :
    Calls Try.prog 21 #[v, .func (.func fid) #[] #[c]] w fun e w' => e = .returned (.bool (l.any p)) ∧ Own w0 R w' := by
  have hd : decide ((0 : Int) ≤ whereI p l) = l.any p := by rw [Bool.eq_iff_iff]; simpa using whereI_any p l
  have H := Lib.hid h; have HL := Lib.hid hl; have HF := Lib.hid hf; have HD := Lib.hid hd; have HCF := Lib.hid hcf
  clear h hl hf hd hcf
  go_enter Try.func21, Try.ntmps21
  go_wp2_with fail
  refine (fnIndex_any fid c p v l H.out HL.out HCF.out HF.out).mono ?_
  rintro e w' ⟨rfl, ho⟩
  have HO2 := Lib.hid ho
  clear ho
  go_wp2
  go_ret
  exact ⟨by rw [← HD.out]; rfl, HO2.out⟩
def insideB (n : Nat) (i : Int) : Bool := decide (i < 0) || decide ((n : Int) ≤ i)
set_option maxRecDepth 100000 in
set_option maxHeartbeats 4000000 in
theorem inside1_any {w0 w : World} {R : HProp} (b n cap : Nat) (ad : Option Addr) (i : Int) (h : Own w0 R w) (hc : w.cell? ⟨b, 0, none⟩ = some (.slice ad n cap)) :
    Calls Try.prog 22 #[.int .i64 i, .pointer (some ⟨b, 0, none⟩)] w fun e w' => e = .returned (.bool (insideB n i)) ∧ Own w0 R w' := by
  have H := Lib.hid h
  clear h
  by_cases h1 : i < 0
  · have t1 : decide (i < 0) = true := by simpa using h1
    have hi : insideB n i = true := by unfold insideB; simp [h1]
    have H1 := Lib.hid h1; have HI := Lib.hid hi
    clear h1 hi
    go_enter Try.func22, Try.ntmps22
    go_wp2
    go_ret
    exact ⟨by rw [HI.out]; rfl, H.out⟩
  · have t1 : decide (i < 0) = false := by simpa using h1
    have hi : insideB n i = decide ((n : Int) ≤ i) := by unfold insideB; simp [h1]
    have H1 := Lib.hid h1; have HI := Lib.hid hi
    clear h1 hi
    go_enter Try.func22, Try.ntmps22
    go_wp2
    go_ret
    exact ⟨by rw [HI.out]; rfl, H.out⟩
set_option maxRecDepth 100000 in
set_option maxHeartbeats 4000000 in
theorem inside_any {w0 w : World} {R : HProp} (v vl : Value) (hs : List Ev) (l : List Int) (h : Own w0 R w) (hv : ReadsE w0 R v hs) (hl : Reads w0 R vl l) :
    Calls Try.prog 17 #[v, vl] w fun e w' => e = .returned (.bool (!l.any (insideB hs.length))) ∧ Own w0 R w' := by
  obtain ⟨ad, cap, rfl, _, _⟩ := (hv _ h).shape
  obtain ⟨b1, hb_b1⟩ : ∃ zz_, zz_ = (w).heap.size := ⟨_, rfl⟩
  obtain ⟨w1, hw_w1⟩ : ∃ zz_, zz_ = (w).alloc (.cells #[.slice ad hs.length cap] 41 (0, 0)) := ⟨_, rfl⟩
  have h_HO := (h).alloc (.cells #[.slice ad hs.length cap] 41 (0, 0))
  rw [← hb_b1, ← hw_w1] at h_HO
  have HO := Lib.hid h_HO
  clear h_HO
  have hf : ∀ x w, Own w0 (blk b1 (.cells #[.slice ad hs.length cap] 41 (0, 0)) * R) w → Calls Try.prog 22 #[.int .i64 x, .pointer (some ⟨b1, 0, none⟩)] w fun e w' => e = .returned (.bool (insideB hs.length x)) ∧ Own w0 (blk b1 (.cells #[.slice ad hs.length cap] 41 (0, 0)) * R) w' :=
    fun x w ho => inside1_any b1 hs.length cap ad x ho ((Own.cell ho 0).trans rfl)
  have H := Lib.hid h; have HV := Lib.hid hv; have HL := Lib.hid hl; have HF := Lib.hid hf
  clear h hv hl hf
  go_enter Try.func17, Try.ntmps17
  go_upto_region 1 with fail
  rw [← hb_b1, ← hw_w1]
  clear hb_b1 hw_w1
  go_wp2_with fail
  refine (fnContains_any _ _ (insideB hs.length) vl l HO.out HL.out.more (fun a w => by kernel_rfl) HF.out).mono ?_
  rintro e w' ⟨rfl, ho⟩
  have HO2 := Lib.hid ho.drop
  clear ho
  go_wp2
  go_ret
  exact ⟨rfl, HO2.out⟩
end Go.Proofs.Ytddbjcpfgjcmnaa
