/- Contracts of package faces: what is heard, who hears ahead, who hears alike. -/
import Derived.Test.YtkgnjkokbiefgaaFaces2
import Derived.Test.YtkgnjkokbiefgaaHist9
import Derived.Test.YtkgnjkokbiefgaaEvSl
namespace Go.Proofs.Ytkgnjkokbiefgaa
set_option linter.unusedVariables false
set_option linter.unusedSimpArgs false
open Go.RowKit
def heardB (who : Int) (e : Ev) : Bool := decide (e.1 = who) && !decide (e.2.1 = 1)
def heardL (h : List Ev) (who : Int) : List Int := (h.filter (heardB who)).map (·.2.2)
def idxI (l : List Int) (x : Int) : Int := whereIs (fun n => decide (n = x)) l
def hearsB (second : Int) (e : Ev) : Bool := decide (e.2.1 = 3) && decide (e.2.2 = second)
def hasAhead (h : List Ev) (first second who : Int) : Bool := decide (0 ≤ idxI (heardL h who) first) && decide (idxI (heardL h who) first ≤ idxI (heardL h who) second)
def aheadB (h : List Ev) (first second : Int) : Bool := h.all fun e => !hearsB second e || hasAhead h first second e.1
def alikeB (a b : List Int) : Bool := keepB b a == keepB a b
set_option maxRecDepth 100000 in
set_option maxHeartbeats 4000000 in
theorem equal_any (va vb : Value) (a b : List Int) (w : World) (ha : Ints w va a) (hb : Ints w vb b) :
    Calls Try.prog 117 #[va, vb] w fun e w' => e = .returned (.bool (a == b)) ∧ ∃ n, w' = w.drewN n := by
  obtain ⟨ad, cap, rfl, hac, hacap⟩ := ha.shape
  obtain ⟨bd, bcap, rfl, hbc, hbcap⟩ := hb.shape
  have HA := Lib.hid ha; have HB := Lib.hid hb
  clear ha hb
  by_cases hlen : a.length = b.length
  · have hl' : ((a.length : Int) != (b.length : Int)) = false := by rw [bne_eq_false_iff_eq]; omega
    have h1 : a.length ≤ b.length := by omega
    have h2 : b.length ≤ a.length := by omega
    have HL := Lib.hid hlen
    clear hlen
    go_enter Try.func117, Try.ntmps117
    go_wp2_with fail
    go_loopw [13] (fun i wr => ∃ k : Nat, k ≤ a.length ∧ i = .int .i64 k ∧ Hid ((∀ j (h : j < k) (h' : j < a.length) (h'' : j < b.length), a[j] = b[j]) ∧ ∃ n, wr = w.drewN n)) (fun i _ => a.length - (intOf i).toNat)
    case atStart => exact ⟨0, Nat.zero_le _, rfl, fun j h => by omega, 0, rfl⟩
    case round =>
      obtain ⟨k, hk, rfl, hp⟩ := hrel
      obtain ⟨n, rfl⟩ := hp.out.2
      by_cases hlt : k < a.length
      · have hlt' : k < b.length := by omega
        obtain ⟨aa, rfl, hca⟩ := HA.out.at k hlt
        obtain ⟨ab, rfl, hcb⟩ := HB.out.at k hlt'
        by_cases hle : a[k] = b[k]
        · have hb' : (a[k] != b[k]) = false := by rw [bne_eq_false_iff_eq]; exact hle
          have Hle := Lib.hid hle
          clear hle
          go_wp2_with fail
          go_quiet (fail)
          go_wp2
          go_roundw
          case rel =>
            refine ⟨k + 1, by omega, by go_num, ⟨fun j h h' h'' => ?_, _, rfl⟩⟩
            by_cases hj : j < k
            · exact hp.out.1 j hj h' h''
            · have : j = k := by omega
              subst this; exact Hle.out
          case measure => simp [intOf]; omega
        · have hb' : (a[k] != b[k]) = true := by rw [bne_iff_ne]; exact hle
          have Hle := Lib.hid hle
          clear hle
          go_wp2_with fail
          go_quiet (fail)
          go_wp2
          go_ret
          exact ⟨ret_bool (by rw [eq_comm, beq_eq_false_iff_ne]; intro e; subst e; exact Hle.out rfl), _, World.drewN_drewN _ _ _⟩
      · go_wp2
        go_ret
        exact ⟨ret_bool (by rw [eq_comm, beq_iff_eq]; exact List.ext_getElem HL.out fun j h h' => hp.out.1 j (by omega) h h'), _, rfl⟩
  · have hl' : ((a.length : Int) != (b.length : Int)) = true := by rw [bne_iff_ne]; omega
    have HL := Lib.hid hlen
    clear hlen
    go_enter Try.func117, Try.ntmps117
    go_wp2
    go_ret
    exact ⟨ret_bool (by rw [eq_comm, beq_eq_false_iff_ne]; intro e; exact HL.out (by rw [e])), 0, rfl⟩
theorem heardL_len (h : List Ev) (who : Int) : (heardL h who).length ≤ h.length := by
  unfold heardL; rw [List.length_map]; exact List.length_filter_le _ _
theorem heardL_I64 {h : List Ev} (hg : ∀ e ∈ h, goodEv e) (who : Int) : ∀ x ∈ heardL h who, I64 x := by
  intro x hx
  obtain ⟨e, he, rfl⟩ := List.mem_map.1 hx
  exact (hg e (List.mem_filter.1 he).1).2.2
theorem heardL_step (h : List Ev) (who : Int) (k : Nat) (hk : k < h.length) : heardL (h.take (k + 1)) who = if heardB who (evAt h k) then heardL (h.take k) who ++ [(evAt h k).2.2] else heardL (h.take k) who := by
  unfold heardL
  rw [List.take_succ_eq_append_getElem hk, List.filter_append, evAt_get hk]
  cases hb : heardB who h[k]
  · simp [hb]
  · simp [hb]
set_option maxRecDepth 100000 in
set_option maxHeartbeats 4000000 in
theorem heard_any {w0 w : World} {R : HProp} (v : Value) (hs : List Ev) (who : Int) (h : Own w0 R w) (hv : ReadsE w0 R v hs) (hlen : hs.length ≤ 60) :
    Calls Try.prog 88 #[v, .int .i64 who] w fun e w' => ∃ v', e = .returned v' ∧ Own w0 (IntSl v' (heardL hs who) * R) w' := by
  obtain ⟨had, hcap, rfl, hc1, hc2⟩ := (hv _ h).shape
  obtain ⟨n, hn⟩ : ∃ n, n = hs.length := ⟨_, rfl⟩
  rw [← hn] at hc1 hlen hv ⊢
  have H := Lib.hid h; have HV := Lib.hid hv; have HN := Lib.hid hn
  clear h hv hn
  go_enter Try.func88, Try.ntmps88
  go_wp2_with fail
  go_loopw [10, 5] (fun iv ov wr => ∃ k : Nat, k ≤ n ∧ iv = .int .i64 k ∧ Hid (Own w0 (IntSl ov (heardL (hs.take k) who) * R) wr)) (fun iv _ _ => n - (intOf iv).toNat)
  case atStart => exact ⟨0, Nat.zero_le _, rfl, Lib.hid (by rw [List.take_zero]; exact H.out.sl_nil _ _)⟩
  case round =>
    obtain ⟨k, hk, rfl, HO⟩ := hrel
    by_cases hlt : k < n
    rotate_left
    · have ho := HO.out
      rw [List.take_of_length_le (by rw [← HN.out]; omega)] at ho
      have HF := Lib.hid ho
      clear ho
      go_wp2
      go_ret
      exact ⟨_, rfl, HF.out⟩
    have hkl : k < hs.length := by rw [← HN.out]; exact hlt
    obtain ⟨aa, pb, po, ps, rfl, hea, hcs, _⟩ := HV.out.more.at HO.out k hkl
    have hst := heardL_step hs who k hkl
    obtain ⟨out, hout⟩ : ∃ out, out = heardL (hs.take k) who := ⟨_, rfl⟩
    have hol : out.length ≤ 60 := by rw [hout]; have := heardL_len (hs.take k) who; simp at this; omega
    have ho := HO.out
    rw [← hout] at ho hst
    obtain ⟨x, hx⟩ : ∃ x, x = evAt hs k := ⟨_, rfl⟩
    rw [← hx] at hcs hst
    obtain ⟨c0, c1, c2⟩ := hcs _ HO.out
    obtain ⟨x1, x2, x3⟩ := x
    simp only at c0 c1 c2
    obtain ⟨eb, hb_eb⟩ : ∃ zz_, zz_ = (wr).heap.size := ⟨_, rfl⟩
    obtain ⟨w2, hw_w2⟩ : ∃ zz_, zz_ = (wr).alloc (.cells #[.int .i64 x1, .int .i64 x2, .int .i64 x3] 49 (0, 0)) := ⟨_, rfl⟩
    have h_HO1 := (ho).alloc (.cells #[.int .i64 x1, .int .i64 x2, .int .i64 x3] 49 (0, 0))
    rw [← hb_eb, ← hw_w2] at h_HO1
    have HO1 := Lib.hid h_HO1
    clear h_HO1
    have HE1 : Hid (Own w0 (EvO eb (x1, x2, x3) * (IntSl u5 out * R)) w2) := HO1
    clear HO1
    obtain ⟨d0, d1, d2⟩ := HE1.out.ev
    simp only at d0 d1 d2
    have HA : Hid (Own w0 (Sl 3 1 u5 out.length (out.map (Value.int .i64)) * (EvO eb (x1, x2, x3) * R)) w2) := Lib.hid (HE1.out.perm (by unfold IntSl; ac_rfl))
    have HD : Hid (Own w0 (IntSl u5 out * R) w2) := Lib.hid HE1.out.drop
    have hB : heardB who (x1, x2, x3) = ((x1 == who) && (x2 != 1)) := by unfold heardB; by_cases a1 : x1 = who <;> by_cases a2 : x2 = 1 <;> simp [a1, a2]
    rw [hB] at hst
    have HCS := Lib.hid hcs; have HX := Lib.hid hx; have HOUT := Lib.hid hout; have HO := Lib.hid ho; have HST := Lib.hid hst; have HB := Lib.hid hB
    clear hcs hx hout ho hst hB
    go_upto_region 5 with fail
    rw [← hb_eb, ← hw_w2]
    clear hb_eb hw_w2
    clear c0 c1 c2
    by_cases h1 : x1 = who
    · have t1 : (x1 == who) = true := by simpa using h1
      by_cases h2 : x2 = 1
      · have t2 : (x2 != 1) = false := by simpa using h2
        have hs2 := HST.out
        rw [t1, t2] at hs2
        simp only [Bool.and_false, Bool.false_eq_true, if_false] at hs2
        have HN2 : Hid (Own w0 (IntSl u5 (heardL (hs.take (k + 1)) who) * R) w2) := Lib.hid (by rw [hs2]; exact HD.out)
        have H1 := Lib.hid h1; have H2 := Lib.hid h2; have HS2 := Lib.hid hs2
        clear h1 h2 hs2
        go_wp2_with fail
        go_roundw
        case rel => exact ⟨k + 1, by omega, by go_num, HN2⟩
        case measure => simp [intOf]; omega
      · have t2 : (x2 != 1) = true := by simpa using h2
        have hs2 := HST.out
        rw [t1, t2] at hs2
        simp only [Bool.and_true, if_true] at hs2
        have H1 := Lib.hid h1; have H2 := Lib.hid h2; have HS2 := Lib.hid hs2
        clear h1 h2 hs2
        go_wp2_with (at_builtin; refine wpList_app rfl _ _ 27 rfl 3 1 8 _ info_int Try.underlying27 rfl (by decide) rfl (HA.out.alloc' _) rfl (by rfl) (Rd_lit (by simp) (by unfold maxLen; omega)) (by intro u hu; simp at hu; subst hu; rfl) (by unfold maxLen; omega) (by omega) ?_; intro v' w4 hown; have HN2 : Hid (Own w0 (IntSl v' (heardL (hs.take (k + 1)) who) * R) w4) := Lib.hid (by rw [HS2.out]; exact (hown.perm (show _ = EvO eb (x1, x2, x3) * (IntSl v' (out ++ [x3]) * R) by unfold IntSl; simp; ac_rfl)).drop); clear hown)
        go_roundw
        case rel => exact ⟨k + 1, by omega, by go_num, HN2⟩
        case measure => simp [intOf]; omega
    · have t1 : (x1 == who) = false := by simpa using h1
      have hs2 := HST.out
      rw [t1] at hs2
      simp only [Bool.false_and, Bool.false_eq_true, if_false] at hs2
      have HN2 : Hid (Own w0 (IntSl u5 (heardL (hs.take (k + 1)) who) * R) w2) := Lib.hid (by rw [hs2]; exact HD.out)
      have H1 := Lib.hid h1; have HS2 := Lib.hid hs2
      clear h1 hs2
      go_wp2_with fail
      go_roundw
      case rel => exact ⟨k + 1, by omega, by go_num, HN2⟩
      case measure => simp [intOf]; omega
set_option maxRecDepth 100000 in
set_option maxHeartbeats 4000000 in
theorem alike_any {w0 w : World} {R : HProp} (va vb : Value) (A B : List Int) (h : Own w0 R w) (hA : Reads w0 R va A) (hB : Reads w0 R vb B) (ha : A.length ≤ 100000) (hb : B.length ≤ 100000) :
    Calls Try.prog 87 #[va, vb] w fun e w' => e = .returned (.bool (alikeB A B)) ∧ Own w0 R w' := by
  obtain ⟨ad, acap, rfl, _, _⟩ := (hA _ h).shape
  obtain ⟨bd, bcap, rfl, _, _⟩ := (hB _ h).shape
  have hAI := (hA _ h).2
  have hBI := (hB _ h).2
  have H := Lib.hid h; have HA := Lib.hid hA; have HB := Lib.hid hB; have HAI := Lib.hid hAI; have HBI := Lib.hid hBI
  clear h hA hB hAI hBI
  go_enter Try.func87, Try.ntmps87
  go_wp2_with fail
  refine (only_any _ _ A B HA.out HB.out ha H.out).mono ?_
  rintro e w2 ⟨v2, rfl, ho⟩
  have HO2 := Lib.hid ho
  clear ho
  go_wp2_with fail
  refine (only_any _ _ B A HB.out.more HA.out.more hb HO2.out).mono ?_
  rintro e w3 ⟨v3, rfl, ho⟩
  have HO3 := Lib.hid ho
  clear ho
  have h1 : Ints w3 v3 (keepB A B) := IntSl_reads (fun x hx => HBI.out x (List.mem_filter.1 hx).1) _ HO3.out
  have h2 : Ints w3 v2 (keepB B A) := IntSl_reads (fun x hx => HAI.out x (List.mem_filter.1 hx).1) _ (HO3.out.perm (star_left_comm _ _ _))
  have H1 := Lib.hid h1; have H2 := Lib.hid h2
  clear h1 h2
  go_wp2_with fail
  refine (equal_any v2 v3 _ _ _ H2.out H1.out).mono ?_
  rintro e w4 ⟨rfl, nq, rfl⟩
  obtain ⟨z, hz⟩ : ∃ z, z = (keepB B A == keepB A B) := ⟨_, rfl⟩
  rw [← hz]
  have HZ := Lib.hid hz
  clear hz
  go_wp2
  go_ret
  exact ⟨by rw [HZ.out]; rfl, (HO3.out.drewN _).drop.drop⟩
end Go.Proofs.Ytkgnjkokbiefgaa
