/- Plain law of HistoryBefore: a beginning of a right history is a cut that could have been. -/
import Derived.Test.YtiipldlggjjlnaaMTopTotal4
import Derived.Test.YtiipldlggjjlnaaMTopTotal6
import Derived.Test.YtiipldlggjjlnaaMTopTotal5
import Derived.Test.YtiipldlggjjlnaaMTopTotal2
namespace Go.Proofs.Ytiipldlggjjlnaa
set_option linter.unusedVariables false
set_option linter.unusedSimpArgs false
open Go.RowKit
theorem evErr0 {ahead : List Ev} {e : Ev} (h : evErr ahead e = 0) : rightB e = true := by
  unfold evErr at h
  by_cases hr : rightB e = false
  · rw [if_pos hr] at h; cases h
  · simpa using hr
theorem rightB_who {e : Ev} (h : rightB e = true) : 0 ≤ e.1 ∧ e.1 < 5 := by
  unfold rightB at h
  simp only [Bool.and_eq_true, isMember, decide_eq_true_eq] at h
  exact h.1
theorem evAt_get {h : List Ev} {k : Nat} (hk : k < h.length) : evAt h k = h[k] := by
  unfold evAt; rw [List.getD_eq_getElem?_getD, List.getElem?_eq_getElem hk]; rfl
theorem RightH.who {h : List Ev} (hr : RightH h) {k : Nat} (hk : k < h.length) : 0 ≤ (evAt h k).1 ∧ (evAt h k).1 < 5 := by
  rw [evAt_get hk]; exact rightB_who (evErr0 (hr.2 k hk))
/-- What the law counts: how many of the first n events each member has. -/
def counts (h : List Ev) (n : Nat) : List Int := (List.range 5).map fun m : Nat => ((cnt h (m : Int) n : Nat) : Int)
theorem counts_len (h : List Ev) (n : Nat) : (counts h n).length = 5 := by simp [counts]
theorem counts_get (h : List Ev) (n m : Nat) (hm : m < 5) : (counts h n).getD m 0 = (cnt h (m : Int) n : Nat) := by
  unfold counts
  rw [List.getD_eq_getElem?_getD, List.getElem?_map, List.getElem?_range hm]; rfl
theorem counts_zero (h : List Ev) : counts h 0 = [0, 0, 0, 0, 0] := by simp [counts, cnt_zero, List.range_succ]
theorem counts_step (h : List Ev) (hr : RightH h) (n : Nat) (hn : n < h.length) : counts h (n + 1) = (counts h n).set (evAt h n).1.toNat ((cnt h (evAt h n).1 n : Nat) + 1) := by
  have hw := hr.who hn
  apply List.ext_getElem
  · simp [counts]
  intro m h1 h2
  have hm : m < 5 := by simpa [counts] using h1
  rw [List.getElem_set]
  simp only [counts, List.getElem_map, List.getElem_range]
  rw [cnt_succ h m n hn, evAt_get hn]
  rw [evAt_get hn] at hw
  by_cases he : h[n].1 = (m : Int)
  · rw [if_pos he, if_pos (by omega), he]; simp
  · rw [if_neg he, if_neg (by omega)]; simp
theorem taken_counts (h : List Ev) (hr : RightH h) (n k : Nat) (hk : k < h.length) (hn : n < h.length) : takenB h (counts h (n + 1)) k = decide (k ≤ n) := by
  have hw := hr.who hk
  have hm : (evAt h k).1.toNat < 5 := by omega
  unfold takenB
  rw [counts_get h _ _ hm, show (((evAt h k).1.toNat : Nat) : Int) = (evAt h k).1 from by omega, decide_eq_decide]
  constructor
  · intro h1
    refine Nat.le_of_not_lt fun h2 => ?_
    have := cnt_mono h (evAt h k).1 (show n + 1 ≤ k by omega)
    omega
  · intro h1
    have h2 := cnt_mono h (evAt h k).1 (show k + 1 ≤ n + 1 by omega)
    rw [cnt_succ h _ k hk, evAt_get hk, if_pos rfl] at h2
    rw [evAt_get hk]; omega
theorem cut_counts (h : List Ev) (hr : RightH h) (n : Nat) (hn : n < h.length) : cutErr h (counts h (n + 1)) = 0 ∧ cutB h (counts h (n + 1)) = true := by
  constructor
  · unfold cutErr
    rw [if_neg (by simpa using (histR_ok h).2 hr), if_neg (by simp [counts_len]), if_neg]
    intro hh
    obtain ⟨i, hi, hb⟩ := List.any_eq_true.1 hh
    have hi := List.mem_range.1 hi
    unfold cutBadAt at hb
    rw [counts_get h _ _ hi] at hb
    simp only [Bool.or_eq_true, decide_eq_true_eq] at hb
    have := cnt_mono h (i : Int) (show n + 1 ≤ h.length by omega)
    omega
  · unfold cutB
    rw [decide_eq_true_eq]
    intro k hk h1 i hi _
    rw [taken_counts h hr n k hk hn, decide_eq_true_eq] at h1
    rw [taken_counts h hr n i (by omega) hn, decide_eq_true_eq]
    omega
end Go.Proofs.Ytiipldlggjjlnaa
/- Contracts of package history, continued: Cut. -/
namespace Go.Proofs.Ytiipldlggjjlnaa
set_option linter.unusedVariables false
set_option linter.unusedSimpArgs false
open Go.RowKit
def Five (b : Nat) (l : List Int) : HProp := blk b (.cells (l.map (Value.int .i64)).toArray 104 (0, 0))
theorem Own.five_cell {w0 w : World} {b : Nat} {l : List Int} {R : HProp} (h : Own w0 (Five b l * R) w) (i : Nat) (x : Int) (hi : l[i]? = some x) : w.cell? ⟨b, i, none⟩ = some (.int .i64 x) := by
  rw [Own.cell h]; simp [hi]
theorem Own.five_free {w0 w : World} {b : Nat} {l : List Int} {R : HProp} (h : Own w0 (Five b l * R) w) (i : Nat) : w.frozen? ⟨b, i, none⟩ = false := Own.free h i none
theorem Own.five_set {w0 w : World} {b : Nat} {l : List Int} {R : HProp} (i : Nat) (x : Int) (h : Own w0 (Five b l * R) w) : Own w0 (Five b (l.set i x) * R) (w.setCell ⟨b, i, none⟩ (.int .i64 x)) := by
  have h1 := Own.setCell (i := i) (v := .int .i64 x) h
  unfold Five
  refine h1.perm ?_
  simp [List.map_set]
def takenL (hs : List Ev) (many : List Int) (k : Nat) : List Bool := (List.range k).map (takenB hs many)
theorem takenL_len (hs : List Ev) (many : List Int) (k : Nat) : (takenL hs many k).length = k := by simp [takenL]
theorem takenL_step (hs : List Ev) (many : List Int) (k : Nat) : takenL hs many (k + 1) = takenL hs many k ++ [takenB hs many k] := by simp [takenL, List.range_succ]
theorem takenL_get (hs : List Ev) (many : List Int) (n k : Nat) (hk : k < n) : (takenL hs many n)[k]? = some (takenB hs many k) := by simp [takenL, hk]
theorem counts_at (h : List Ev) (n m : Nat) (hm : m < 5) : (counts h n)[m]? = some ((cnt h (m : Int) n : Nat) : Int) := by
  unfold counts
  rw [List.getElem?_map, List.getElem?_range hm]; rfl
theorem Ints.cell_at {w : World} {ad : Option Addr} {n cap : Nat} {l : List Int} (h : Ints w (.slice ad n cap) l) (k : Nat) (hk : k < l.length) : ∃ a : Addr, ad = some a ∧ w.cell? (a.add k) = some (.int .i64 (l.getD k 0)) := by
  obtain ⟨a, e, c⟩ := h.at k hk
  exact ⟨a, e, by rw [List.getD_eq_getElem?_getD, List.getElem?_eq_getElem hk]; exact c⟩
end Go.Proofs.Ytiipldlggjjlnaa
/- Contracts of package history, continued: Cut. -/
namespace Go.Proofs.Ytiipldlggjjlnaa
set_option linter.unusedVariables false
set_option linter.unusedSimpArgs false
open Go.RowKit
def cutOk (hs : List Ev) (many : List Int) : Bool := decide (cutErr hs many = 0) && cutB hs many
theorem Own.bools_at {w0 w : World} {v : Value} {l : List Bool} {R : HProp} (h : Own w0 (BoolSl v l * R) w) (hl : 0 < l.length) :
    ∃ b o cap, v = .slice (some ⟨b, o, none⟩) l.length cap ∧ l.length ≤ cap ∧ cap ≤ 9223372036854775807 ∧ ∀ j x, l[j]? = some x → w.cell? ⟨b, o + j, none⟩ = some (.bool x) := by
  obtain ⟨b, o, cap, e1, h2⟩ := Own.slAt h (by simpa using hl)
  have f := h2.slAt_facts
  exact ⟨b, o, cap, e1, f.1, f.2.1, fun j x hj => f.2.2.2.1 j _ (by simp [hj])⟩
theorem takenB_len {hs : List Ev} {many : List Int} {k : Nat} : True := trivial
end Go.Proofs.Ytiipldlggjjlnaa
/- Owned slices of events. -/
namespace Go.Proofs.Ytiipldlggjjlnaa
set_option linter.unusedVariables false
set_option linter.unusedSimpArgs false
open Go.RowKit
theorem info_ev : (Try.prog.info? 24).map (fun i => (i.zero, i.size, i.bytes)) = some (some (.agg #[.int .i64 0, .int .i64 0, .int .i64 0]), 3, 24) := by kernel_rfl
def EvSl (v : Value) (l : List Ev) : HProp := Sl 24 3 v l.length (l.flatMap evCells)
theorem EvSl_reads {w0 : World} {R : HProp} {v : Value} {l : List Ev} (hg : ∀ e ∈ l, goodEv e) : ReadsE w0 (EvSl v l * R) v l := fun _ ho => ⟨Own.rd ho, hg⟩
theorem ev_one (l : List Ev) : ∀ u ∈ l.flatMap evCells, u.oneCell' = true := by
  intro u hu
  obtain ⟨e, _, hu⟩ := List.mem_flatMap.1 hu
  simp [evCells] at hu
  rcases hu with rfl | rfl | rfl <;> rfl
theorem Own.evs_nil {w0 w : World} {R : HProp} (h : Own w0 R w) : Own w0 (EvSl (.slice none 0 0) [] * R) w := h.sl_nil _ _
theorem Own.evs_snoc {w0 w : World} {v : Value} {l l2 : List Ev} {R : HProp} (h : Own w0 (Sl 24 3 v (l.length + l2.length) (l.flatMap evCells ++ l2.flatMap evCells) * R) w) : Own w0 (EvSl v (l ++ l2) * R) w :=
  h.perm (by unfold EvSl; rw [List.length_append, List.flatMap_append])
end Go.Proofs.Ytiipldlggjjlnaa
/- Contracts of package faces: what is heard, who hears ahead, who hears alike. -/
namespace Go.Proofs.Ytiipldlggjjlnaa
set_option linter.unusedVariables false
set_option linter.unusedSimpArgs false
open Go.RowKit
def heardB (who : Int) (e : Ev) : Bool := decide (e.1 = who) && !decide (e.2.1 = 1)
def heardL (h : List Ev) (who : Int) : List Int := (h.filter (heardB who)).map (·.2.2)
def idxI (l : List Int) (x : Int) : Int := whereIs (fun n => decide (n = x)) l
def hearsB (second : Int) (e : Ev) : Bool := decide (e.2.1 = 3) && decide (e.2.2 = second)
def hasAhead (h : List Ev) (first second who : Int) : Bool := decide (0 ≤ idxI (heardL h who) first) && decide (idxI (heardL h who) first ≤ idxI (heardL h who) second)
def aheadB (h : List Ev) (first second : Int) : Bool := h.all fun e => !hearsB second e || hasAhead h first second e.1
def alikeB (a b : List Int) : Bool := keepB b a == keepB a b
set_option maxRecDepth 100000 in
set_option maxHeartbeats 4000000 in
theorem equal_any (va vb : Value) (a b : List Int) (w : World) (ha : Ints w va a) (hb : Ints w vb b) :
    Calls Try.prog 58 #[va, vb] w fun e w' => e = .returned (.bool (a == b)) ∧ ∃ n, w' = w.drewN n := by
  obtain ⟨ad, cap, rfl, hac, hacap⟩ := ha.shape
  obtain ⟨bd, bcap, rfl, hbc, hbcap⟩ := hb.shape
  have HA := Lib.hid ha; have HB := Lib.hid hb
  clear ha hb
  by_cases hlen : a.length = b.length
  · have hl' : ((a.length : Int) != (b.length : Int)) = false := by rw [bne_eq_false_iff_eq]; omega
    have h1 : a.length ≤ b.length := by omega
    have h2 : b.length ≤ a.length := by omega
    have HL := Lib.hid hlen
    clear hlen
    go_enter Try.func58, Try.ntmps58
    go_wp2_with fail
    go_loopw [13] (fun i wr => ∃ k : Nat, k ≤ a.length ∧ i = .int .i64 k ∧ Hid ((∀ j (h : j < k) (h' : j < a.length) (h'' : j < b.length), a[j] = b[j]) ∧ ∃ n, wr = w.drewN n)) (fun i _ => a.length - (intOf i).toNat)
    case atStart => exact ⟨0, Nat.zero_le _, rfl, fun j h => by omega, 0, rfl⟩
    case round =>
      obtain ⟨k, hk, rfl, hp⟩ := hrel
      obtain ⟨n, rfl⟩ := hp.out.2
      by_cases hlt : k < a.length
      · have hlt' : k < b.length := by omega
        obtain ⟨aa, rfl, hca⟩ := HA.out.at k hlt
        obtain ⟨ab, rfl, hcb⟩ := HB.out.at k hlt'
        by_cases hle : a[k] = b[k]
        · have hb' : (a[k] != b[k]) = false := by rw [bne_eq_false_iff_eq]; exact hle
          have Hle := Lib.hid hle
          clear hle
          go_wp2_with fail
          go_quiet (fail)
          go_wp2
          go_roundw
          case rel =>
            refine ⟨k + 1, by omega, by go_num, ⟨fun j h h' h'' => ?_, _, rfl⟩⟩
            by_cases hj : j < k
            · exact hp.out.1 j hj h' h''
            · have : j = k := by omega
              subst this; exact Hle.out
          case measure => simp [intOf]; omega
        · have hb' : (a[k] != b[k]) = true := by rw [bne_iff_ne]; exact hle
          have Hle := Lib.hid hle
          clear hle
          go_wp2_with fail
          go_quiet (fail)
          go_wp2
          go_ret
          exact ⟨ret_bool (by rw [eq_comm, beq_eq_false_iff_ne]; intro e; subst e; exact Hle.out rfl), _, World.drewN_drewN _ _ _⟩
      · go_wp2
        go_ret
        exact ⟨ret_bool (by rw [eq_comm, beq_iff_eq]; exact List.ext_getElem HL.out fun j h h' => hp.out.1 j (by omega) h h'), _, rfl⟩
  · have hl' : ((a.length : Int) != (b.length : Int)) = true := by rw [bne_iff_ne]; omega
    have HL := Lib.hid hlen
    clear hlen
    go_enter Try.func58, Try.ntmps58
    go_wp2
    go_ret
    exact ⟨ret_bool (by rw [eq_comm, beq_eq_false_iff_ne]; intro e; exact HL.out (by rw [e])), 0, rfl⟩
theorem heardL_len (h : List Ev) (who : Int) : (heardL h who).length ≤ h.length := by
  unfold heardL; rw [List.length_map]; exact List.length_filter_le _ _
theorem heardL_I64 {h : List Ev} (hg : ∀ e ∈ h, goodEv e) (who : Int) : ∀ x ∈ heardL h who, I64 x := by
  intro x hx
  obtain ⟨e, he, rfl⟩ := List.mem_map.1 hx
  exact (hg e (List.mem_filter.1 he).1).2.2
theorem heardL_step (h : List Ev) (who : Int) (k : Nat) (hk : k < h.length) : heardL (h.take (k + 1)) who = if heardB who (evAt h k) then heardL (h.take k) who ++ [(evAt h k).2.2] else heardL (h.take k) who := by
  unfold heardL
  rw [List.take_succ_eq_append_getElem hk, List.filter_append, evAt_get hk]
  cases hb : heardB who h[k]
  · simp [hb]
  · simp [hb]
set_option maxRecDepth 100000 in
set_option maxHeartbeats 4000000 in
theorem heard_any {w0 w : World} {R : HProp} (v : Value) (hs : List Ev) (who : Int) (h : Own w0 R w) (hv : ReadsE w0 R v hs) (hlen : hs.length ≤ 60) :
    Calls Try.prog 43 #[v, .int .i64 who] w fun e w' => ∃ v', e = .returned v' ∧ Own w0 (IntSl v' (heardL hs who) * R) w' := by
  obtain ⟨had, hcap, rfl, hc1, hc2⟩ := (hv _ h).shape
  obtain ⟨n, hn⟩ : ∃ n, n = hs.length := ⟨_, rfl⟩
  rw [← hn] at hc1 hlen hv ⊢
  have H := Lib.hid h; have HV := Lib.hid hv; have HN := Lib.hid hn
  clear h hv hn
  go_enter Try.func43, Try.ntmps43
  go_wp2_with fail
  go_loopw [10, 5] (fun iv ov wr => ∃ k : Nat, k ≤ n ∧ iv = .int .i64 k ∧ Hid (Own w0 (IntSl ov (heardL (hs.take k) who) * R) wr)) (fun iv _ _ => n - (intOf iv).toNat)
  case atStart => exact ⟨0, Nat.zero_le _, rfl, Lib.hid (by rw [List.take_zero]; exact H.out.sl_nil _ _)⟩
  case round =>
    obtain ⟨k, hk, rfl, HO⟩ := hrel
    by_cases hlt : k < n
    rotate_left
    · have ho := HO.out
      rw [List.take_of_length_le (by rw [← HN.out]; omega)] at ho
      have HF := Lib.hid ho
      clear ho
      go_wp2
      go_ret
      exact ⟨_, rfl, HF.out⟩
    have hkl : k < hs.length := by rw [← HN.out]; exact hlt
    obtain ⟨aa, pb, po, ps, rfl, hea, hcs, _⟩ := HV.out.more.at HO.out k hkl
    have hst := heardL_step hs who k hkl
    obtain ⟨out, hout⟩ : ∃ out, out = heardL (hs.take k) who := ⟨_, rfl⟩
    have hol : out.length ≤ 60 := by rw [hout]; have := heardL_len (hs.take k) who; simp at this; omega
    have ho := HO.out
    rw [← hout] at ho hst
    obtain ⟨x, hx⟩ : ∃ x, x = evAt hs k := ⟨_, rfl⟩
    rw [← hx] at hcs hst
    obtain ⟨c0, c1, c2⟩ := hcs _ HO.out
    obtain ⟨x1, x2, x3⟩ := x
    simp only at c0 c1 c2
    obtain ⟨eb, hb_eb⟩ : ∃ zz_, zz_ = (wr).heap.size := ⟨_, rfl⟩
    obtain ⟨w2, hw_w2⟩ : ∃ zz_, zz_ = (wr).alloc (.cells #[.int .i64 x1, .int .i64 x2, .int .i64 x3] 24 (0, 0)) := ⟨_, rfl⟩
    have h_HO1 := (ho).alloc (.cells #[.int .i64 x1, .int .i64 x2, .int .i64 x3] 24 (0, 0))
    rw [← hb_eb, ← hw_w2] at h_HO1
    have HO1 := Lib.hid h_HO1
    clear h_HO1
    have HE1 : Hid (Own w0 (EvO eb (x1, x2, x3) * (IntSl u5 out * R)) w2) := HO1
    clear HO1
    obtain ⟨d0, d1, d2⟩ := HE1.out.ev
    simp only at d0 d1 d2
    have HA : Hid (Own w0 (Sl 3 1 u5 out.length (out.map (Value.int .i64)) * (EvO eb (x1, x2, x3) * R)) w2) := Lib.hid (HE1.out.perm (by unfold IntSl; ac_rfl))
    have HD : Hid (Own w0 (IntSl u5 out * R) w2) := Lib.hid HE1.out.drop
    have hB : heardB who (x1, x2, x3) = ((x1 == who) && (x2 != 1)) := by unfold heardB; by_cases a1 : x1 = who <;> by_cases a2 : x2 = 1 <;> simp [a1, a2]
    rw [hB] at hst
    have HCS := Lib.hid hcs; have HX := Lib.hid hx; have HOUT := Lib.hid hout; have HO := Lib.hid ho; have HST := Lib.hid hst; have HB := Lib.hid hB
    clear hcs hx hout ho hst hB
    go_upto_region 5 with fail
    rw [← hb_eb, ← hw_w2]
    clear hb_eb hw_w2
    clear c0 c1 c2
    by_cases h1 : x1 = who
    · have t1 : (x1 == who) = true := by simpa using h1
      by_cases h2 : x2 = 1
      · have t2 : (x2 != 1) = false := by simpa using h2
        have hs2 := HST.out
        rw [t1, t2] at hs2
        simp only [Bool.and_false, Bool.false_eq_true, if_false] at hs2
        have HN2 : Hid (Own w0 (IntSl u5 (heardL (hs.take (k + 1)) who) * R) w2) := Lib.hid (by rw [hs2]; exact HD.out)
        have H1 := Lib.hid h1; have H2 := Lib.hid h2; have HS2 := Lib.hid hs2
        clear h1 h2 hs2
        go_wp2_with fail
        go_roundw
        case rel => exact ⟨k + 1, by omega, by go_num, HN2⟩
        case measure => simp [intOf]; omega
      · have t2 : (x2 != 1) = true := by simpa using h2
        have hs2 := HST.out
        rw [t1, t2] at hs2
        simp only [Bool.and_true, if_true] at hs2
        have H1 := Lib.hid h1; have H2 := Lib.hid h2; have HS2 := Lib.hid hs2
        clear h1 h2 hs2
        go_wp2_with (at_builtin; refine wpList_app rfl _ _ 25 rfl 3 1 8 _ info_int Try.underlying25 rfl (by decide) rfl (HA.out.alloc' _) rfl (by rfl) (Rd_lit (by simp) (by unfold maxLen; omega)) (by intro u hu; simp at hu; subst hu; rfl) (by unfold maxLen; omega) (by omega) ?_; intro v' w4 hown; have HN2 : Hid (Own w0 (IntSl v' (heardL (hs.take (k + 1)) who) * R) w4) := Lib.hid (by rw [HS2.out]; exact (hown.perm (show _ = EvO eb (x1, x2, x3) * (IntSl v' (out ++ [x3]) * R) by unfold IntSl; simp; ac_rfl)).drop); clear hown)
        go_roundw
        case rel => exact ⟨k + 1, by omega, by go_num, HN2⟩
        case measure => simp [intOf]; omega
    · have t1 : (x1 == who) = false := by simpa using h1
      have hs2 := HST.out
      rw [t1] at hs2
      simp only [Bool.false_and, Bool.false_eq_true, if_false] at hs2
      have HN2 : Hid (Own w0 (IntSl u5 (heardL (hs.take (k + 1)) who) * R) w2) := Lib.hid (by rw [hs2]; exact HD.out)
      have H1 := Lib.hid h1; have HS2 := Lib.hid hs2
      clear h1 hs2
      go_wp2_with fail
      go_roundw
      case rel => exact ⟨k + 1, by omega, by go_num, HN2⟩
      case measure => simp [intOf]; omega
set_option maxRecDepth 100000 in
set_option maxHeartbeats 4000000 in
theorem alike_any {w0 w : World} {R : HProp} (va vb : Value) (A B : List Int) (h : Own w0 R w) (hA : Reads w0 R va A) (hB : Reads w0 R vb B) (ha : A.length ≤ 100000) (hb : B.length ≤ 100000) :
    Calls Try.prog 42 #[va, vb] w fun e w' => e = .returned (.bool (alikeB A B)) ∧ Own w0 R w' := by
  obtain ⟨ad, acap, rfl, _, _⟩ := (hA _ h).shape
  obtain ⟨bd, bcap, rfl, _, _⟩ := (hB _ h).shape
  have hAI := (hA _ h).2
  have hBI := (hB _ h).2
  have H := Lib.hid h; have HA := Lib.hid hA; have HB := Lib.hid hB; have HAI := Lib.hid hAI; have HBI := Lib.hid hBI
  clear h hA hB hAI hBI
  go_enter Try.func42, Try.ntmps42
  go_wp2_with fail
  refine (only_any _ _ A B HA.out HB.out ha H.out).mono ?_
  rintro e w2 ⟨v2, rfl, ho⟩
  have HO2 := Lib.hid ho
  clear ho
  go_wp2_with fail
  refine (only_any _ _ B A HB.out.more HA.out.more hb HO2.out).mono ?_
  rintro e w3 ⟨v3, rfl, ho⟩
  have HO3 := Lib.hid ho
  clear ho
  have h1 : Ints w3 v3 (keepB A B) := IntSl_reads (fun x hx => HBI.out x (List.mem_filter.1 hx).1) _ HO3.out
  have h2 : Ints w3 v2 (keepB B A) := IntSl_reads (fun x hx => HAI.out x (List.mem_filter.1 hx).1) _ (HO3.out.perm (star_left_comm _ _ _))
  have H1 := Lib.hid h1; have H2 := Lib.hid h2
  clear h1 h2
  go_wp2_with fail
  refine (equal_any v2 v3 _ _ _ H2.out H1.out).mono ?_
  rintro e w4 ⟨rfl, nq, rfl⟩
  obtain ⟨z, hz⟩ : ∃ z, z = (keepB B A == keepB A B) := ⟨_, rfl⟩
  rw [← hz]
  have HZ := Lib.hid hz
  clear hz
  go_wp2
  go_ret
  exact ⟨by rw [HZ.out]; rfl, (HO3.out.drewN _).drop.drop⟩
end Go.Proofs.Ytiipldlggjjlnaa
/- Contracts of package faces, continued: who hears ahead; what a member heard. -/
namespace Go.Proofs.Ytiipldlggjjlnaa
set_option linter.unusedVariables false
set_option linter.unusedSimpArgs false
open Go.RowKit
def aheadOk (h : List Ev) (first second : Int) (e : Ev) : Bool := !hearsB second e || hasAhead h first second e.1
theorem all_step {α : Type} (p : α → Bool) (d : α) (l : List α) (k : Nat) (hk : k < l.length) : (l.take (k + 1)).all p = ((l.take k).all p && p (l.getD k d)) := by
  rw [List.take_succ_eq_append_getElem hk, List.all_append, List.getD_eq_getElem?_getD, List.getElem?_eq_getElem hk]; simp
theorem all_false {α : Type} (p : α → Bool) (d : α) (l : List α) (k : Nat) (hk : k < l.length) (h : p (l.getD k d) = false) : l.all p = false := by
  rw [List.all_eq_false]
  refine ⟨l[k], List.getElem_mem hk, ?_⟩
  rw [List.getD_eq_getElem?_getD, List.getElem?_eq_getElem hk] at h
  simpa using h
set_option maxRecDepth 100000 in
set_option maxHeartbeats 4000000 in
theorem ahead_any {w0 w : World} {R : HProp} (v : Value) (hs : List Ev) (first second : Int) (h : Own w0 R w) (hv : ReadsE w0 R v hs) (hlen : hs.length ≤ 60) :
    Calls Try.prog 41 #[v, .int .i64 first, .int .i64 second] w fun e w' => e = .returned (.bool (aheadB hs first second)) ∧ Own w0 R w' := by
  obtain ⟨had, hcap, rfl, hc1, hc2⟩ := (hv _ h).shape
  obtain ⟨n, hn⟩ : ∃ n, n = hs.length := ⟨_, rfl⟩
  have hlen2 := hlen
  have hgood := (hv _ h).2
  have hhd := fun (R' : HProp) (w1 : World) (who : Int) (ho : Own w0 (R' * R) w1) => heard_any (.slice had hs.length hcap) hs who ho hv.more hlen
  rw [← hn] at hc1 hlen hv hhd ⊢
  have haB : aheadB hs first second = hs.all (aheadOk hs first second) := rfl
  have H := Lib.hid h; have HV := Lib.hid hv; have HN := Lib.hid hn; have HLEN2 := Lib.hid hlen2; have HGOOD := Lib.hid hgood; have HHD := Lib.hid hhd; have HAB := Lib.hid haB
  clear h hv hn hlen2 hgood hhd haB
  go_enter Try.func41, Try.ntmps41
  go_wp2_with fail
  go_loopw [13] (fun iv wr => ∃ k : Nat, k ≤ n ∧ iv = .int .i64 k ∧ Hid ((hs.take k).all (aheadOk hs first second) = true) ∧ Hid (Own w0 R wr)) (fun iv _ => n - (intOf iv).toNat)
  case atStart => exact ⟨0, Nat.zero_le _, rfl, Lib.hid rfl, H⟩
  case round =>
    obtain ⟨k, hk, rfl, HALL, HO⟩ := hrel
    by_cases hlt : k < n
    rotate_left
    · have hall := HALL.out
      rw [List.take_of_length_le (by rw [← HN.out]; omega)] at hall
      have HALL := Lib.hid hall
      clear hall
      go_wp2
      go_ret
      exact ⟨by rw [HAB.out, HALL.out]; rfl, HO.out⟩
    have hkl : k < hs.length := by rw [← HN.out]; exact hlt
    obtain ⟨aa, pb, po, ps, rfl, hea, hcs, _⟩ := HV.out.at HO.out k hkl
    obtain ⟨x, hx⟩ : ∃ x, x = evAt hs k := ⟨_, rfl⟩
    rw [← hx] at hcs
    obtain ⟨c0, c1, c2⟩ := hcs _ HO.out
    have hnext : aheadOk hs first second x = true → (hs.take (k + 1)).all (aheadOk hs first second) = true := fun h1 => by
      rw [all_step _ (0, 0, 0) hs k hkl, HALL.out, show hs.getD k (0, 0, 0) = x from hx.symm, h1]; rfl
    have hbad : aheadOk hs first second x = false → aheadB hs first second = false := fun h1 => by
      rw [HAB.out]; exact all_false _ (0, 0, 0) hs k hkl (by rw [show hs.getD k (0, 0, 0) = x from hx.symm]; exact h1)
    obtain ⟨x1, x2, x3⟩ := x
    simp only at c0 c1 c2
    obtain ⟨eb, hb_eb⟩ : ∃ zz_, zz_ = (wr).heap.size := ⟨_, rfl⟩
    obtain ⟨w2, hw_w2⟩ : ∃ zz_, zz_ = (wr).alloc (.cells #[.int .i64 x1, .int .i64 x2, .int .i64 x3] 24 (0, 0)) := ⟨_, rfl⟩
    have h_HO1 := (HO.out).alloc (.cells #[.int .i64 x1, .int .i64 x2, .int .i64 x3] 24 (0, 0))
    rw [← hb_eb, ← hw_w2] at h_HO1
    have HO1 := Lib.hid h_HO1
    clear h_HO1
    have HE1 : Hid (Own w0 (EvO eb (x1, x2, x3) * R) w2) := HO1
    clear HO1
    obtain ⟨d0, d1, d2⟩ := HE1.out.ev
    simp only at d0 d1 d2
    have HD : Hid (Own w0 R w2) := Lib.hid HE1.out.drop
    have hok : aheadOk hs first second (x1, x2, x3) = (!(decide (x2 = 3) && decide (x3 = second)) || hasAhead hs first second x1) := rfl
    have HCS := Lib.hid hcs; have HX := Lib.hid hx; have HNEXT := Lib.hid hnext; have HBAD := Lib.hid hbad
    clear hcs hx hnext hbad
    go_upto_region 4 with fail
    rw [← hb_eb, ← hw_w2]
    clear hb_eb hw_w2
    clear c0 c1 c2
    by_cases h1 : x2 = 3
    rotate_left
    · have t1 : (x2 != 3) = true := by simpa using h1
      have h2 := HNEXT.out (by rw [hok]; simp [h1])
      have H1 := Lib.hid h1; have H2 := Lib.hid h2; have HOK := Lib.hid hok
      clear h1 h2 hok
      go_wp2_with fail
      go_roundw
      case rel => exact ⟨k + 1, by omega, by go_num, H2, HD⟩
      case measure => simp [intOf]; omega
    have t1 : (x2 != 3) = false := by simpa using h1
    by_cases h3 : x3 = second
    rotate_left
    · have t2 : (x3 != second) = true := by simpa using h3
      have h2 := HNEXT.out (by rw [hok]; simp [h3])
      have H1 := Lib.hid h1; have H2 := Lib.hid h2; have H3 := Lib.hid h3; have HOK := Lib.hid hok
      clear h1 h2 h3 hok
      go_wp2_with fail
      go_roundw
      case rel => exact ⟨k + 1, by omega, by go_num, H2, HD⟩
      case measure => simp [intOf]; omega
    have t2 : (x3 != second) = false := by simpa using h3
    have hok2 : aheadOk hs first second (x1, x2, x3) = hasAhead hs first second x1 := by rw [hok]; simp [h1, h3]
    obtain ⟨p, hp⟩ : ∃ p, p = idxI (heardL hs x1) first := ⟨_, rfl⟩
    obtain ⟨q, hq⟩ : ∃ q, q = idxI (heardL hs x1) second := ⟨_, rfl⟩
    have hha : hasAhead hs first second x1 = (decide (0 ≤ p) && decide (p ≤ q)) := by unfold hasAhead; rw [← hp, ← hq]
    rw [hha] at hok2
    have H1 := Lib.hid h1; have H3 := Lib.hid h3; have HOK := Lib.hid hok; have HOK2 := Lib.hid hok2; have HHA := Lib.hid hha; have HP := Lib.hid hp; have HQ := Lib.hid hq
    clear h1 h3 hok hok2 hha hp hq
    go_wp2_with fail
    refine (HHD.out _ _ x1 HE1.out).mono ?_
    rintro e w3 ⟨v3, rfl, ho⟩
    have HO3 : Hid (Own w0 R w3) := Lib.hid ho.drop.drop
    have hi3 : Ints w3 v3 (heardL hs x1) := IntSl_reads (heardL_I64 HGOOD.out x1) _ ho
    have HI3 := Lib.hid hi3
    clear hi3
    clear ho d0 d1 d2
    go_wp2_with fail
    refine (indexInt_any v3 _ first _ HI3.out).mono ?_
    rintro e w' ⟨rfl, rfl⟩
    rw [show whereIs (fun n => decide (n = first)) (heardL hs x1) = p from HP.out.symm]
    by_cases h5 : p < 0
    · have t5 : decide (p < 0) = true := by simpa using h5
      have hb := HBAD.out (by rw [HOK2.out]; simp; omega)
      have H5 := Lib.hid h5; have HB := Lib.hid hb
      clear h5 hb
      go_wp2_with fail
      go_ret
      exact ⟨by rw [HB.out]; rfl, HO3.out⟩
    have t5 : decide (p < 0) = false := by simpa using h5
    go_wp2_with fail
    refine (indexInt_any v3 _ second _ HI3.out).mono ?_
    rintro e w' ⟨rfl, rfl⟩
    rw [show whereIs (fun n => decide (n = second)) (heardL hs x1) = q from HQ.out.symm]
    by_cases h6 : q < p
    · have t6 : decide (q < p) = true := by simpa using h6
      have hb := HBAD.out (by rw [HOK2.out]; simp; omega)
      have H5 := Lib.hid h5; have H6 := Lib.hid h6; have HB := Lib.hid hb
      clear h5 h6 hb
      go_wp2_with fail
      go_ret
      exact ⟨by rw [HB.out]; rfl, HO3.out⟩
    have t6 : decide (q < p) = false := by simpa using h6
    have h2 := HNEXT.out (by rw [HOK2.out]; simp; omega)
    have H5 := Lib.hid h5; have H6 := Lib.hid h6; have H2 := Lib.hid h2
    clear h5 h6 h2
    go_wp2_with fail
    go_roundw
    case rel => exact ⟨k + 1, by omega, by go_num, H2, HO3⟩
    case measure => simp [intOf]; omega
def heardErr (hs : List Ev) (who : Int) : Nat := if (histR hs).2 ≠ 0 then (histR hs).2 else if isMember who = false then 1 else 0
def heardE (hs : List Ev) (who : Int) : List Int := if heardErr hs who = 0 then heardL hs who else []
end Go.Proofs.Ytiipldlggjjlnaa
/- Contracts of package stable, the second part. -/
namespace Go.Proofs.Ytiipldlggjjlnaa
set_option linter.unusedVariables false
set_option linter.unusedSimpArgs false
open Go.RowKit
def zero5 : List Int := [0, 0, 0, 0, 0]
theorem vecErr_zero5 : vecErr zero5 = 0 := by decide
/-- The block of a new row is an owned list. -/
theorem Own.zero5 {w0 w : World} {b : Nat} {R : HProp} (h : Own w0 (blk b (.cells #[.int .i64 0, .int .i64 0, .int .i64 0, .int .i64 0, .int .i64 0] 3 (0, 0)) * R) w) : Own w0 (IntSl (.slice (some ⟨b, 0, none⟩) 5 5) Go.Proofs.Ytiipldlggjjlnaa.zero5 * R) w :=
  Own.sl_mk (by decide) (by unfold maxLen; decide) (by rfl) (by decide) (fun i hi => by
    match i, hi with
    | 0, _ => rfl
    | 1, _ => rfl
    | 2, _ => rfl
    | 3, _ => rfl
    | 4, _ => rfl
    | n + 5, h => simp [Go.Proofs.Ytiipldlggjjlnaa.zero5] at h; omega) h
end Go.Proofs.Ytiipldlggjjlnaa
/- Package clock, plainly: numbers and vectors of a history. -/
namespace Go.Proofs.Ytiipldlggjjlnaa
set_option linter.unusedVariables false
set_option linter.unusedSimpArgs false
open Go.RowKit
theorem evAt_take {h : List Ev} {k i : Nat} (hi : i < k) : evAt (h.take k) i = evAt h i := by
  unfold evAt
  simp only [List.getD_eq_getElem?_getD, List.getElem?_take]
  rw [if_pos hi]
/-- Of a word that is heard it is known where it was said. -/
theorem RightH.said {h : List Ev} (hr : RightH h) {k : Nat} (hk : k < h.length) (hw : (evAt h k).2.1 = 3) :
    ∃ i : Nat, i < k ∧ saidAt (h.take k) (evAt h k).2.2 = (i : Int) ∧ (evAt h i).2.1 = 2 ∧ (evAt h i).2.2 = (evAt h k).2.2 ∧ (evAt h i).1 ≠ (evAt h k).1 ∧ (∀ j, j < i → saysB (evAt h k).2.2 (evAt h j) = false) ∧ evAt h k ∉ h.take k := by
  have he := hr.2 k hk
  rw [← evAt_get hk] at he
  obtain ⟨e, hee⟩ : ∃ e, e = evAt h k := ⟨_, rfl⟩
  rw [← hee] at he hw ⊢
  unfold evErr at he
  split at he
  · cases he
  split at he
  · cases he
  rename_i h2
  split at he
  · cases he
  rename_i h3
  split at he
  · cases he
  rename_i h4
  have hlen : (h.take k).length = k := by simp; omega
  rcases whereI_cases (saysB e.2.2) (h.take k) with ⟨h1, _⟩ | ⟨i, hi, h1, h5, h6⟩
  · exact absurd ⟨hw, by show saidAt (h.take k) e.2.2 < 0; unfold saidAt; omega⟩ h3
  · have hik : i < k := by omega
    have hs : saidAt (h.take k) e.2.2 = (i : Int) := h1
    rw [hs] at h4
    have hev : (h.take k)[i] = evAt h i := by rw [← evAt_take hik, evAt_get hi]
    rw [hev] at h5
    unfold saysB at h5
    simp only [Bool.and_eq_true, decide_eq_true_eq] at h5
    refine ⟨i, hik, hs, h5.1, h5.2, fun hh => h4 ⟨hw, ?_⟩, fun j hj => ?_, fun hin => h2 (.inr ⟨hw, hin⟩)⟩
    · rw [Int.toNat_natCast, evAt_take hik]; exact hh
    · have := h6 j hj
      rw [show (h.take k)[j]'(by omega) = evAt h j by rw [← evAt_take (show j < k by omega), evAt_get (by omega)]] at this
      exact this
def numNext (h : List Ev) (k : Nat) (s : List Int × List Int) : Int :=
  (if (evAt h k).2.1 = 3 then max (s.2.getD (evAt h k).1.toNat 0) (s.1.getD (saidAt (h.take k) (evAt h k).2.2).toNat 0) else s.2.getD (evAt h k).1.toNat 0) + 1
def numState (h : List Ev) : Nat → List Int × List Int
  | 0 => ([], [0, 0, 0, 0, 0])
  | k + 1 => ((numState h k).1 ++ [numNext h k (numState h k)], (numState h k).2.set (evAt h k).1.toNat (numNext h k (numState h k)))
def numsR (h : List Ev) : List Int := (numState h h.length).1
theorem numState_len (h : List Ev) : ∀ k, (numState h k).1.length = k ∧ (numState h k).2.length = 5
  | 0 => ⟨rfl, rfl⟩
  | k + 1 => by
    have := numState_len h k
    simp [numState, this]
theorem getD_bound {l : List Int} {a b : Int} (h : ∀ x ∈ l, a ≤ x ∧ x ≤ b) (ha : a ≤ 0) (hb : 0 ≤ b) (i : Nat) : a ≤ l.getD i 0 ∧ l.getD i 0 ≤ b := by
  rw [List.getD_eq_getElem?_getD]
  by_cases hi : i < l.length
  · rw [List.getElem?_eq_getElem hi]; exact h _ (List.getElem_mem hi)
  · rw [List.getElem?_eq_none (by omega)]; exact ⟨ha, hb⟩
theorem numState_bound (h : List Ev) : ∀ k, (∀ x ∈ (numState h k).1, 0 ≤ x ∧ x ≤ (k : Int)) ∧ (∀ x ∈ (numState h k).2, 0 ≤ x ∧ x ≤ (k : Int))
  | 0 => by simp [numState]
  | k + 1 => by
    obtain ⟨h1, h2⟩ := numState_bound h k
    have hn : 0 ≤ numNext h k (numState h k) ∧ numNext h k (numState h k) ≤ ((k + 1 : Nat) : Int) := by
      have a := getD_bound h2 (Int.le_refl 0) (Int.natCast_nonneg k) (evAt h k).1.toNat
      have b := getD_bound h1 (Int.le_refl 0) (Int.natCast_nonneg k) (saidAt (h.take k) (evAt h k).2.2).toNat
      unfold numNext
      split
      · rw [Int.max_def]; split <;> omega
      · omega
    simp only [numState]
    refine ⟨fun x hx => ?_, fun x hx => ?_⟩
    · rcases List.mem_append.1 hx with hx | hx
      · have := h1 x hx; omega
      · rw [List.mem_singleton.1 hx]; exact hn
    · rcases List.mem_or_eq_of_mem_set hx with hx | hx
      · have := h2 x hx; omega
      · rw [hx]; exact hn
def vec0 (s : List (List Int) × List (List Int)) (w : Nat) : List Int := if s.2.getD w [] = [] then zero5 else s.2.getD w []
def vec1 (h : List Ev) (k : Nat) (s : List (List Int) × List (List Int)) : List Int :=
  if (evAt h k).2.1 = 3 then zipMax (vec0 s (evAt h k).1.toNat) (s.1.getD (saidAt (h.take k) (evAt h k).2.2).toNat []) else vec0 s (evAt h k).1.toNat
def vecNext (h : List Ev) (k : Nat) (s : List (List Int) × List (List Int)) : List Int :=
  (vec1 h k s).set (evAt h k).1.toNat ((vec1 h k s).getD (evAt h k).1.toNat 0 + 1)
def vecState (h : List Ev) : Nat → List (List Int) × List (List Int)
  | 0 => ([], [[], [], [], [], []])
  | k + 1 => ((vecState h k).1 ++ [vecNext h k (vecState h k)], (vecState h k).2.set (evAt h k).1.toNat (vecNext h k (vecState h k)))
def vecsR (h : List Ev) : List (List Int) := (vecState h h.length).1
theorem vecState_len (h : List Ev) : ∀ k, (vecState h k).1.length = k ∧ (vecState h k).2.length = 5
  | 0 => ⟨rfl, rfl⟩
  | k + 1 => by
    have := vecState_len h k
    simp [vecState, this]
/-- A vector of a history of k events. -/
def vecIn (k : Nat) (v : List Int) : Prop := v.length = 5 ∧ ∀ x ∈ v, 0 ≤ x ∧ x ≤ (k : Int)
theorem vecIn.up {k : Nat} {v : List Int} (h : vecIn k v) : vecIn (k + 1) v := ⟨h.1, fun x hx => by have := h.2 x hx; omega⟩
theorem zipMax_in {k : Nat} {a b : List Int} (ha : vecIn k a) (hb : vecIn k b) : vecIn k (zipMax a b) := by
  have hl := zipMax_len a b (by rw [ha.1, hb.1])
  refine ⟨by rw [hl, ha.1], fun x hx => ?_⟩
  obtain ⟨i, hi, rfl⟩ := List.getElem_of_mem hx
  rw [zipMax_get a b i (by omega) (by rw [hb.1, ← ha.1]; omega)]
  have h1 := ha.2 _ (List.getElem_mem (show i < a.length by omega))
  have h2 := hb.2 _ (List.getElem_mem (show i < b.length by rw [hb.1, ← ha.1]; omega))
  rw [Int.max_def]; split <;> omega
theorem zero5_in (k : Nat) : vecIn k zero5 := ⟨rfl, fun x hx => by simp [zero5] at hx; subst hx; omega⟩
theorem vec_getD {k : Nat} {l : List (List Int)} (h : ∀ v ∈ l, v = [] ∨ vecIn k v) (i : Nat) : l.getD i [] = [] ∨ vecIn k (l.getD i []) := by
  rw [List.getD_eq_getElem?_getD]
  by_cases hi : i < l.length
  · rw [List.getElem?_eq_getElem hi]; exact h _ (List.getElem_mem hi)
  · rw [List.getElem?_eq_none (by omega)]; exact .inl rfl
theorem vec0_in {k : Nat} {s : List (List Int) × List (List Int)} (h : ∀ v ∈ s.2, v = [] ∨ vecIn k v) (w : Nat) : vecIn k (vec0 s w) := by
  unfold vec0
  split
  · exact zero5_in k
  · rename_i h1
    rcases vec_getD h w with h2 | h2
    · exact absurd h2 h1
    · exact h2
theorem vec1_in {h : List Ev} (hr : RightH h) {k : Nat} (hk : k < h.length) {s : List (List Int) × List (List Int)} (hl : s.1.length = k) (h1 : ∀ v ∈ s.1, vecIn k v) (h2 : ∀ v ∈ s.2, v = [] ∨ vecIn k v) : vecIn k (vec1 h k s) := by
  unfold vec1
  split
  · rename_i hw
    obtain ⟨i, hi, hs, _⟩ := hr.said hk hw
    rw [hs, Int.toNat_natCast]
    refine zipMax_in (vec0_in h2 _) ?_
    rw [List.getD_eq_getElem?_getD, List.getElem?_eq_getElem (by omega)]
    exact h1 _ (List.getElem_mem _)
  · exact vec0_in h2 _
theorem vecNext_in {h : List Ev} (hr : RightH h) {k : Nat} (hk : k < h.length) {s : List (List Int) × List (List Int)} (hl : s.1.length = k) (h1 : ∀ v ∈ s.1, vecIn k v) (h2 : ∀ v ∈ s.2, v = [] ∨ vecIn k v) : vecIn (k + 1) (vecNext h k s) := by
  have hv := vec1_in hr hk hl h1 h2
  unfold vecNext
  refine ⟨by rw [List.length_set]; exact hv.1, fun x hx => ?_⟩
  have hb := getD_bound hv.2 (Int.le_refl 0) (Int.natCast_nonneg k) (evAt h k).1.toNat
  rcases List.mem_or_eq_of_mem_set hx with hx | hx
  · have := hv.2 x hx; omega
  · rw [hx]; omega
theorem vecState_in {h : List Ev} (hr : RightH h) : ∀ k, k ≤ h.length → (∀ v ∈ (vecState h k).1, vecIn k v) ∧ (∀ v ∈ (vecState h k).2, v = [] ∨ vecIn k v)
  | 0, _ => ⟨fun v hv => by simp [vecState] at hv, fun v hv => by simp [vecState] at hv; exact .inl hv⟩
  | k + 1, hk => by
    obtain ⟨h1, h2⟩ := vecState_in hr k (by omega)
    have hn := vecNext_in hr (show k < h.length by omega) (vecState_len h k).1 h1 h2
    simp only [vecState]
    refine ⟨fun v hv => ?_, fun v hv => ?_⟩
    · rcases List.mem_append.1 hv with hv | hv
      · exact (h1 v hv).up
      · rw [List.mem_singleton.1 hv]; exact hn
    · rcases List.mem_or_eq_of_mem_set hv with hv | hv
      · rcases h2 v hv with h3 | h3
        · exact .inl h3
        · exact .inr h3.up
      · rw [hv]; exact .inr hn
end Go.Proofs.Ytiipldlggjjlnaa
