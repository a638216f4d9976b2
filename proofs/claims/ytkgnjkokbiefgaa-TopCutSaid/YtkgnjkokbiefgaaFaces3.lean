/- Contracts of package faces, continued: who hears ahead; what a member heard. -/
import Derived.Test.YtkgnjkokbiefgaaFaces
namespace Go.Proofs.Ytkgnjkokbiefgaa
set_option linter.unusedVariables false
set_option linter.unusedSimpArgs false
open Go.RowKit
def aheadOk (h : List Ev) (first second : Int) (e : Ev) : Bool := !hearsB second e || hasAhead h first second e.1
theorem all_step {α : Type} (p : α → Bool) (d : α) (l : List α) (k : Nat) (hk : k < l.length) : (l.take (k + 1)).all p = ((l.take k).all p && p (l.getD k d)) := by
  rw [List.take_succ_eq_append_getElem hk, List.all_append, List.getD_eq_getElem?_getD, List.getElem?_eq_getElem hk]; simp
theorem all_false {α : Type} (p : α → Bool) (d : α) (l : List α) (k : Nat) (hk : k < l.length) (h : p (l.getD k d) = false) : l.all p = false := by
  rw [List.all_eq_false]
  refine ⟨l[k], List.getElem_mem hk, ?_⟩
  rw [List.getD_eq_getElem?_getD, List.getElem?_eq_getElem hk] at h
  simpa using h
set_option maxRecDepth 100000 in
set_option maxHeartbeats 4000000 in
theorem ahead_any {w0 w : World} {R : HProp} (v : Value) (hs : List Ev) (first second : Int) (h : Own w0 R w) (hv : ReadsE w0 R v hs) (hlen : hs.length ≤ 60) :
    Calls Try.prog 86 #[v, .int .i64 first, .int .i64 second] w fun e w' => e = .returned (.bool (aheadB hs first second)) ∧ Own w0 R w' := by
  obtain ⟨had, hcap, rfl, hc1, hc2⟩ := (hv _ h).shape
  obtain ⟨n, hn⟩ : ∃ n, n = hs.length := ⟨_, rfl⟩
  have hlen2 := hlen
  have hgood := (hv _ h).2
  have hhd := fun (R' : HProp) (w1 : World) (who : Int) (ho : Own w0 (R' * R) w1) => heard_any (.slice had hs.length hcap) hs who ho hv.more hlen
  rw [← hn] at hc1 hlen hv hhd ⊢
  have haB : aheadB hs first second = hs.all (aheadOk hs first second) := rfl
  have H := Lib.hid h; have HV := Lib.hid hv; have HN := Lib.hid hn; have HLEN2 := Lib.hid hlen2; have HGOOD := Lib.hid hgood; have HHD := Lib.hid hhd; have HAB := Lib.hid haB
  clear h hv hn hlen2 hgood hhd haB
  go_enter Try.func86, Try.ntmps86
  go_wp2_with fail
  go_loopw [13] (fun iv wr => ∃ k : Nat, k ≤ n ∧ iv = .int .i64 k ∧ Hid ((hs.take k).all (aheadOk hs first second) = true) ∧ Hid (Own w0 R wr)) (fun iv _ => n - (intOf iv).toNat)
  case atStart => exact ⟨0, Nat.zero_le _, rfl, Lib.hid rfl, H⟩
  case round =>
    obtain ⟨k, hk, rfl, HALL, HO⟩ := hrel
    by_cases hlt : k < n
    rotate_left
    · have hall := HALL.out
      rw [List.take_of_length_le (by rw [← HN.out]; omega)] at hall
      have HALL := Lib.hid hall
      clear hall
      go_wp2
      go_ret
      exact ⟨by rw [HAB.out, HALL.out]; rfl, HO.out⟩
    have hkl : k < hs.length := by rw [← HN.out]; exact hlt
    obtain ⟨aa, pb, po, ps, rfl, hea, hcs, _⟩ := HV.out.at HO.out k hkl
    obtain ⟨x, hx⟩ : ∃ x, x = evAt hs k := ⟨_, rfl⟩
    rw [← hx] at hcs
    obtain ⟨c0, c1, c2⟩ := hcs _ HO.out
    have hnext : aheadOk hs first second x = true → (hs.take (k + 1)).all (aheadOk hs first second) = true := fun h1 => by
      rw [all_step _ (0, 0, 0) hs k hkl, HALL.out, show hs.getD k (0, 0, 0) = x from hx.symm, h1]; rfl
    have hbad : aheadOk hs first second x = false → aheadB hs first second = false := fun h1 => by
      rw [HAB.out]; exact all_false _ (0, 0, 0) hs k hkl (by rw [show hs.getD k (0, 0, 0) = x from hx.symm]; exact h1)
    obtain ⟨x1, x2, x3⟩ := x
    simp only at c0 c1 c2
    obtain ⟨eb, hb_eb⟩ : ∃ zz_, zz_ = (wr).heap.size := ⟨_, rfl⟩
    obtain ⟨w2, hw_w2⟩ : ∃ zz_, zz_ = (wr).alloc (.cells #[.int .i64 x1, .int .i64 x2, .int .i64 x3] 49 (0, 0)) := ⟨_, rfl⟩
    have h_HO1 := (HO.out).alloc (.cells #[.int .i64 x1, .int .i64 x2, .int .i64 x3] 49 (0, 0))
    rw [← hb_eb, ← hw_w2] at h_HO1
    have HO1 := Lib.hid h_HO1
    clear h_HO1
    have HE1 : Hid (Own w0 (EvO eb (x1, x2, x3) * R) w2) := HO1
    clear HO1
    obtain ⟨d0, d1, d2⟩ := HE1.out.ev
    simp only at d0 d1 d2
    have HD : Hid (Own w0 R w2) := Lib.hid HE1.out.drop
    have hok : aheadOk hs first second (x1, x2, x3) = (!(decide (x2 = 3) && decide (x3 = second)) || hasAhead hs first second x1) := rfl
    have HCS := Lib.hid hcs; have HX := Lib.hid hx; have HNEXT := Lib.hid hnext; have HBAD := Lib.hid hbad
    clear hcs hx hnext hbad
    go_upto_region 4 with fail
    rw [← hb_eb, ← hw_w2]
    clear hb_eb hw_w2
    clear c0 c1 c2
    by_cases h1 : x2 = 3
    rotate_left
    · have t1 : (x2 != 3) = true := by simpa using h1
      have h2 := HNEXT.out (by rw [hok]; simp [h1])
      have H1 := Lib.hid h1; have H2 := Lib.hid h2; have HOK := Lib.hid hok
      clear h1 h2 hok
      go_wp2_with fail
      go_roundw
      case rel => exact ⟨k + 1, by omega, by go_num, H2, HD⟩
      case measure => simp [intOf]; omega
    have t1 : (x2 != 3) = false := by simpa using h1
    by_cases h3 : x3 = second
    rotate_left
    · have t2 : (x3 != second) = true := by simpa using h3
      have h2 := HNEXT.out (by rw [hok]; simp [h3])
      have H1 := Lib.hid h1; have H2 := Lib.hid h2; have H3 := Lib.hid h3; have HOK := Lib.hid hok
      clear h1 h2 h3 hok
      go_wp2_with fail
      go_roundw
      case rel => exact ⟨k + 1, by omega, by go_num, H2, HD⟩
      case measure => simp [intOf]; omega
    have t2 : (x3 != second) = false := by simpa using h3
    have hok2 : aheadOk hs first second (x1, x2, x3) = hasAhead hs first second x1 := by rw [hok]; simp [h1, h3]
    obtain ⟨p, hp⟩ : ∃ p, p = idxI (heardL hs x1) first := ⟨_, rfl⟩
    obtain ⟨q, hq⟩ : ∃ q, q = idxI (heardL hs x1) second := ⟨_, rfl⟩
    have hha : hasAhead hs first second x1 = (decide (0 ≤ p) && decide (p ≤ q)) := by unfold hasAhead; rw [← hp, ← hq]
    rw [hha] at hok2
    have H1 := Lib.hid h1; have H3 := Lib.hid h3; have HOK := Lib.hid hok; have HOK2 := Lib.hid hok2; have HHA := Lib.hid hha; have HP := Lib.hid hp; have HQ := Lib.hid hq
    clear h1 h3 hok hok2 hha hp hq
    go_wp2_with fail
    refine (HHD.out _ _ x1 HE1.out).mono ?_
    rintro e w3 ⟨v3, rfl, ho⟩
    have HO3 : Hid (Own w0 R w3) := Lib.hid ho.drop.drop
    have hi3 : Ints w3 v3 (heardL hs x1) := IntSl_reads (heardL_I64 HGOOD.out x1) _ ho
    have HI3 := Lib.hid hi3
    clear hi3
    clear ho d0 d1 d2
    go_wp2_with fail
    refine (indexInt_any v3 _ first _ HI3.out).mono ?_
    rintro e w' ⟨rfl, rfl⟩
    rw [show whereIs (fun n => decide (n = first)) (heardL hs x1) = p from HP.out.symm]
    by_cases h5 : p < 0
    · have t5 : decide (p < 0) = true := by simpa using h5
      have hb := HBAD.out (by rw [HOK2.out]; simp; omega)
      have H5 := Lib.hid h5; have HB := Lib.hid hb
      clear h5 hb
      go_wp2_with fail
      go_ret
      exact ⟨by rw [HB.out]; rfl, HO3.out⟩
    have t5 : decide (p < 0) = false := by simpa using h5
    go_wp2_with fail
    refine (indexInt_any v3 _ second _ HI3.out).mono ?_
    rintro e w' ⟨rfl, rfl⟩
    rw [show whereIs (fun n => decide (n = second)) (heardL hs x1) = q from HQ.out.symm]
    by_cases h6 : q < p
    · have t6 : decide (q < p) = true := by simpa using h6
      have hb := HBAD.out (by rw [HOK2.out]; simp; omega)
      have H5 := Lib.hid h5; have H6 := Lib.hid h6; have HB := Lib.hid hb
      clear h5 h6 hb
      go_wp2_with fail
      go_ret
      exact ⟨by rw [HB.out]; rfl, HO3.out⟩
    have t6 : decide (q < p) = false := by simpa using h6
    have h2 := HNEXT.out (by rw [HOK2.out]; simp; omega)
    have H5 := Lib.hid h5; have H6 := Lib.hid h6; have H2 := Lib.hid h2
    clear h5 h6 h2
    go_wp2_with fail
    go_roundw
    case rel => exact ⟨k + 1, by omega, by go_num, H2, HO3⟩
    case measure => simp [intOf]; omega
def heardErr (hs : List Ev) (who : Int) : Nat := if (histR hs).2 ≠ 0 then (histR hs).2 else if isMember who = false then 1 else 0
def heardE (hs : List Ev) (who : Int) : List Int := if heardErr hs who = 0 then heardL hs who else []
set_option maxRecDepth 100000 in
set_option maxHeartbeats 4000000 in
theorem facesHeard_any {w0 w : World} {R : HProp} (v : Value) (hs : List Ev) (who : Int) (h : Own w0 R w) (hv : ReadsE w0 R v hs) :
    Calls Try.prog 41 #[v, .int .i64 who] w fun e w' => ∃ v', e = .returned (.tuple #[v', errV (heardErr hs who)]) ∧ Own w0 (IntSl v' (heardE hs who) * R) w' := by
  obtain ⟨had, hcap, rfl, hc1, hc2⟩ := (hv _ h).shape
  obtain ⟨E, hE⟩ : ∃ E, E = (histR hs).2 := ⟨_, rfl⟩
  by_cases h0 : E = 0
  rotate_left
  · have hB : heardErr hs who = E := by unfold heardErr; rw [if_pos (by rw [← hE]; exact h0), ← hE]
    have hb_ : heardE hs who = [] := by unfold heardE; rw [hB]; simp [h0]
    have hee := errV_ne h0
    have H := Lib.hid h; have HV := Lib.hid hv; have HE := Lib.hid hE; have H0 := Lib.hid h0; have HEE := Lib.hid hee; have HB := Lib.hid hB; have HB_ := Lib.hid hb_
    clear h hv hE h0 hee hB hb_
    go_enter Try.func41, Try.ntmps41
    go_wp2_with fail
    refine (hRight_any _ hs H.out HV.out).mono ?_
    rintro e w2 ⟨rfl, ho⟩
    rw [← HE.out, HEE.out]
    have HO2 := Lib.hid ho
    clear ho
    go_wp2
    go_ret2
    exact ⟨.slice none 0 0, by rw [HB.out]; exact congrArg (fun z => Ending.returned (.tuple #[.slice none 0 0, z])) HEE.out.symm, by rw [HB_.out]; exact HO2.out.sl_nil _ _⟩
  have hee : errV E = .nilIface := by rw [h0]; rfl
  have hlen : hs.length ≤ 60 := ((histR_ok hs).1 (by rw [← hE]; exact h0)).1
  have hB : heardErr hs who = if isMember who = false then 1 else 0 := by unfold heardErr; rw [if_neg (by rw [← hE]; simpa using h0)]
  cases hm : isMember who
  · have hB1 : heardErr hs who = 1 := by rw [hB, hm]; rfl
    have hb_ : heardE hs who = [] := by unfold heardE; rw [hB1]; simp
    have H := Lib.hid h; have HV := Lib.hid hv; have HE := Lib.hid hE; have H0 := Lib.hid h0; have HEE := Lib.hid hee; have HB := Lib.hid hB; have HB_ := Lib.hid hb_; have HB1 := Lib.hid hB1
    clear h hv hE h0 hee hB hb_ hB1
    go_enter Try.func41, Try.ntmps41
    go_wp2_with fail
    refine (hRight_any _ hs H.out HV.out).mono ?_
    rintro e w2 ⟨rfl, ho⟩
    rw [← HE.out, HEE.out]
    have HO2 := Lib.hid ho
    clear ho
    go_wp2_with fail
    refine (member_any who _).mono ?_
    rintro e w' ⟨rfl, rfl⟩
    rw [hm]
    go_wp2
    go_ret2
    exact ⟨.slice none 0 0, by rw [HB1.out]; rfl, by rw [HB_.out]; exact HO2.out.sl_nil _ _⟩
  · have hB1 : heardErr hs who = 0 := by rw [hB, hm]; rfl
    have hb_ : heardE hs who = heardL hs who := by unfold heardE; rw [hB1]; simp
    have H := Lib.hid h; have HV := Lib.hid hv; have HE := Lib.hid hE; have H0 := Lib.hid h0; have HEE := Lib.hid hee; have HB := Lib.hid hB; have HB_ := Lib.hid hb_; have HB1 := Lib.hid hB1
    clear h hv hE h0 hee hB hb_ hB1
    go_enter Try.func41, Try.ntmps41
    go_wp2_with fail
    refine (hRight_any _ hs H.out HV.out).mono ?_
    rintro e w2 ⟨rfl, ho⟩
    rw [← HE.out, HEE.out]
    have HO2 := Lib.hid ho
    clear ho
    go_wp2_with fail
    refine (member_any who _).mono ?_
    rintro e w' ⟨rfl, rfl⟩
    rw [hm]
    go_wp2_with fail
    refine (heard_any _ hs who HO2.out HV.out hlen).mono ?_
    rintro e w3 ⟨v3, rfl, ho⟩
    have HO3 := Lib.hid ho
    clear ho
    go_wp2
    go_ret2
    exact ⟨v3, by rw [HB1.out]; rfl, by rw [HB_.out]; exact HO3.out⟩
end Go.Proofs.Ytkgnjkokbiefgaa
