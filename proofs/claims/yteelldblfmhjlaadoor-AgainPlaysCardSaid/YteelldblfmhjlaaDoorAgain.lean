/- Contracts of package again. -/
import Derived.Test.YteelldblfmhjlaaDoorFifo
import Derived.Test.YteelldblfmhjlaaDoorSet
import Derived.Test.YteelldblfmhjlaaDoorRange
namespace Go.Proofs.YteelldblfmhjlaaDoor
set_option linter.unusedVariables false
set_option linter.unusedSimpArgs false
open Go.RowKit Go.Maps
/-- A sender: what it keeps, and how much it said. -/
structure Se where
  kept : List (Int × Int)
  said : Nat
def SeO (p mb : Nat) (s : Se) : HProp := blk p (.cells #[.map (some mb), .int .i64 s.said] 118 (0, 0)) * IMp mb (mvals ikv s.kept)
def SeP (p : Nat) (s : Se) : HProp := hex fun mb => SeO p mb s
theorem mapii_kind : Tryd.prog.underlying 116 = some (.map 3 3) := by kernel_rfl
theorem mapii_made : ∀ w, (Instr.makeMap 116 none).run Tryd.prog w = .ok (.map (some w.heap.size)) (w.alloc (.map #[] 0)) := fun _ => by kernel_rfl
section
variable {w0 w : World} {p mb : Nat} {s : Se} {R : HProp}
theorem Own.se_open (h : Own w0 (SeP p s * R) w) : ∃ mb, Own w0 (SeO p mb s * R) w := Own.ex h
theorem Own.se_close (h : Own w0 (SeO p mb s * R) w) : Own w0 (SeP p s * R) w := Own.ex_mk mb h
theorem Own.se_blk (h : Own w0 (SeO p mb s * R) w) : Own w0 (blk p (.cells #[.map (some mb), .int .i64 s.said] 118 (0, 0)) * (IMp mb (mvals ikv s.kept) * R)) w := h.perm (by unfold SeO; ac_rfl)
theorem Own.se_map (h : Own w0 (SeO p mb s * R) w) : Own w0 (IMp mb (mvals ikv s.kept) * (blk p (.cells #[.map (some mb), .int .i64 s.said] 118 (0, 0)) * R)) w := h.perm (by unfold SeO; ac_rfl)
theorem Own.se_facts (h : Own w0 (SeO p mb s * R) w) : w.cell? ⟨p, 0, none⟩ = some (.map (some mb)) ∧ w.cell? ⟨p, 1, none⟩ = some (.int .i64 s.said) ∧ (∀ i t, w.frozen? ⟨p, i, t⟩ = false) ∧
    (∀ ty, (Builtin.len_ #[116] ty #[.map (some mb)]).run Tryd.prog w = .ok (.int .i64 s.kept.length) w) :=
  ⟨by rw [h.se_blk.cell]; rfl, by rw [h.se_blk.cell]; rfl, fun i t => h.se_blk.free i t, fun ty => by
    have h1 := h.se_map.map_len mapii_kind ty
    rwa [mvals_len] at h1⟩
end
set_option maxRecDepth 100000 in
set_option maxHeartbeats 4000000 in
theorem seNew_any {w0 w : World} {R : HProp} (h : Own w0 R w) :
    Calls Tryd.prog 33 #[] w fun e w' => ∃ p, e = .returned (.pointer (some ⟨p, 0, none⟩)) ∧ Own w0 (SeP p ⟨[], 0⟩ * R) w' := by
  have hmm := mapii_made
  have H := Lib.hid h
  clear h
  go_enter Tryd.func33, Tryd.ntmps33
  go_wp2
  go_ret
  refine ⟨_, rfl, Own.se_close (mb := w.heap.size) ?_⟩
  have h1 := (H.out.map_new (enc := fun n : Int => Value.int .i64 n) (ok := I64)).alloc (.cells #[.map (some w.heap.size), .int .i64 0] 118)
  refine h1.perm ?_
  unfold SeO
  simp only [World.size_alloc, mvals_nil, Int.natCast_zero]
  unfold IMp
  ac_rfl
def seErr (s : Se) (word : Int) : Nat := if isWord word = false then 1 else if 40 ≤ s.kept.length then 4 else 0
def seSay (s : Se) (word : Int) : Se := if seErr s word = 0 then ⟨mput s.kept ((s.said : Int) + 1) word, s.said + 1⟩ else s
def seGot (s : Se) (word : Int) : Int := if seErr s word = 0 then (s.said : Int) + 1 else 0
set_option maxRecDepth 100000 in
set_option maxHeartbeats 4000000 in
theorem seSay_any {w0 w : World} {R : HProp} (p : Nat) (s : Se) (word : Int) (hs : s.said ≤ 1000000) (h : Own w0 (SeP p s * R) w) :
    Calls Tryd.prog 34 #[.pointer (some ⟨p, 0, none⟩), .int .i64 word] w fun e w' => e = .returned (.tuple #[.int .i64 (seGot s word), errV (seErr s word)]) ∧ Own w0 (SeP p (seSay s word) * R) w' := by
  obtain ⟨mb, ho⟩ := h.se_open
  obtain ⟨c0, c1, c2, c3⟩ := ho.se_facts
  cases hwd : isWord word
  · have ht : seErr s word = 1 := by simp [seErr, hwd]
    have HT := Lib.hid ht; have HWD := Lib.hid hwd; have H := Lib.hid h; have HO := Lib.hid ho; have C2 := Lib.hid c2
    clear ht hwd h ho c2
    go_enter Tryd.func34, Tryd.ntmps34
    go_wp2_with fail
    refine (word_any _ _).mono ?_
    rintro e w' ⟨rfl, rfl⟩
    rw [HWD.out]
    go_wp2
    go_ret2
    exact ⟨by unfold seGot; rw [HT.out]; rfl, by unfold seSay; rw [HT.out]; exact H.out⟩
  by_cases h40 : 40 ≤ s.kept.length
  · have ht : seErr s word = 4 := by simp [seErr, hwd, h40]
    have hd : decide ((40 : Int) ≤ (s.kept.length : Int)) = true := by simp; omega
    have HT := Lib.hid ht; have HWD := Lib.hid hwd; have H := Lib.hid h; have HO := Lib.hid ho; have C2 := Lib.hid c2
    clear ht hwd h ho c2
    go_enter Tryd.func34, Tryd.ntmps34
    go_wp2_with fail
    refine (word_any _ _).mono ?_
    rintro e w' ⟨rfl, rfl⟩
    rw [HWD.out]
    go_wp2
    go_ret2
    exact ⟨by unfold seGot; rw [HT.out]; rfl, by unfold seSay; rw [HT.out]; exact H.out⟩
  · have ht : seErr s word = 0 := by simp [seErr, hwd, h40]
    have hd : decide ((40 : Int) ≤ (s.kept.length : Int)) = false := by simp; omega
    have c2' := c2 1 none
    have hI : I64 ((s.said : Int) + 1) := by unfold I64; omega
    have ho2 := (ho.se_blk.setCell (i := 1) (v := .int .i64 ((s.said : Int) + 1))).drew.perm (star_left_comm _ _ _)
    have HT := Lib.hid ht; have HWD := Lib.hid hwd; have H := Lib.hid h; have HO := Lib.hid ho; have C2 := Lib.hid c2; have HI := Lib.hid hI; have HO2 := Lib.hid ho2
    clear ht hwd h ho c2 hI ho2
    go_enter Tryd.func34, Tryd.ntmps34
    go_wp2_with fail
    refine (word_any _ _).mono ?_
    rintro e w' ⟨rfl, rfl⟩
    rw [HWD.out]
    go_wp2_with fail
    refine wp_region_tail 9 (by kernel_rfl) (by kernel_rfl) ?_
    simp only [List.take_succ_cons, List.take_zero, List.drop_succ_cons, List.drop_zero]
    repeat still_step
    refine wpStill_nil ?_
    go_wp2_with (at_mapUpdate; refine wpList_put (v := .int .i64 word) (x := (s.said : Int) + 1) (int_ke int_kind) mapii_kind HO2.out HI.out rfl _ _ _ rfl rfl rfl rfl ?_; intro w1 hown1; rw [show Value.int .i64 word = ikv word from rfl, mput_mvals] at hown1; have g1 := (hown1.perm (star_left_comm _ _ _)).cell 1; have HW := Lib.hid hown1; clear hown1)
    go_ret2
    refine ⟨by unfold seGot; rw [HT.out]; rfl, ?_⟩
    unfold seSay
    rw [if_pos HT.out]
    refine Own.se_close (mb := mb) (HW.out.perm ?_)
    unfold SeO
    simp only [List.setIfInBounds_toArray, List.set_cons_succ, List.set_cons_zero, Int.natCast_add, Int.natCast_one]
    unfold IMp
    ac_rfl
def seAskErr (s : Se) (n : Int) : Nat := if n < 1 then 1 else if (s.said : Int) < n then 1 else if (mget s.kept n).isSome = false then 5 else 0
def seAsk (s : Se) (n : Int) : Int := if seAskErr s n = 0 then (mget s.kept n).getD 0 else 0
set_option maxRecDepth 100000 in
set_option maxHeartbeats 4000000 in
theorem seAsk_any {w0 w : World} {R : HProp} (p : Nat) (s : Se) (n : Int) (hs : s.said ≤ 1000000) (h : Own w0 (SeP p s * R) w) :
    Calls Tryd.prog 35 #[.pointer (some ⟨p, 0, none⟩), .int .i64 n] w fun e w' => e = .returned (.tuple #[.int .i64 (seAsk s n), errV (seAskErr s n)]) ∧ w = w' := by
  obtain ⟨mb, ho⟩ := h.se_open
  obtain ⟨c0, c1, c2, c3⟩ := ho.se_facts
  by_cases h1 : n < 1
  · have ht : seAskErr s n = 1 := by simp [seAskErr, h1]
    have HT := Lib.hid ht; have H := Lib.hid h; have HO := Lib.hid ho; have C2 := Lib.hid c2; have C3 := Lib.hid c3
    clear ht h ho c2 c3
    go_enter Tryd.func35, Tryd.ntmps35
    go_wp2
    go_ret2
    exact ⟨by unfold seAsk; rw [HT.out]; rfl, rfl⟩
  by_cases h2 : (s.said : Int) < n
  · have ht : seAskErr s n = 1 := by simp [seAskErr, h2]
    have HT := Lib.hid ht; have H := Lib.hid h; have HO := Lib.hid ho; have C2 := Lib.hid c2; have C3 := Lib.hid c3
    clear ht h ho c2 c3
    go_enter Tryd.func35, Tryd.ntmps35
    go_wp2
    go_ret2
    exact ⟨by unfold seAsk; rw [HT.out]; rfl, rfl⟩
  have hlk := ho.se_map.map_look (int_ke int_kind) mapii_kind fi_zero (x := n) (by unfold I64; omega) true
  rw [mget_mvals] at hlk
  cases hm : mget s.kept n with
  | none =>
    have ht : seAskErr s n = 5 := by simp [seAskErr, h1, h2, hm]
    rw [hm] at hlk
    simp only [Option.map_none, Option.getD_none, Option.isSome_none, if_true] at hlk
    have HT := Lib.hid ht; have H := Lib.hid h; have HO := Lib.hid ho; have C2 := Lib.hid c2; have C3 := Lib.hid c3; have HM := Lib.hid hm
    clear ht h ho c2 c3 hm
    go_enter Tryd.func35, Tryd.ntmps35
    go_wp2
    go_ret2
    exact ⟨by unfold seAsk; rw [HT.out]; rfl, rfl⟩
  | some x =>
    have ht : seAskErr s n = 0 := by simp [seAskErr, h1, h2, hm]
    have ha : seAsk s n = x := by unfold seAsk; rw [if_pos ht, hm]; rfl
    rw [hm] at hlk
    simp only [Option.map_some, Option.getD_some, Option.isSome_some, if_true, ikv] at hlk
    have HT := Lib.hid ht; have H := Lib.hid h; have HO := Lib.hid ho; have C2 := Lib.hid c2; have C3 := Lib.hid c3; have HM := Lib.hid hm; have HA := Lib.hid ha
    clear ht h ho c2 c3 hm ha
    go_enter Tryd.func35, Tryd.ntmps35
    go_wp2
    go_ret2
    exact ⟨by rw [HT.out, HA.out]; rfl, rfl⟩
def seFreeErr (s : Se) (n : Int) : Nat := if n < 0 then 1 else if (s.said : Int) < n then 1 else 0
def seFree (s : Se) (n : Int) : Se := if seFreeErr s n = 0 then ⟨s.kept.filter (fun p => decide (n < p.1)), s.said⟩ else s
theorem mdel_filter {K V : Type} [DecidableEq K] : ∀ (m : List (K × V)) (x : K), (m.map (·.1)).Nodup → mdel m x = m.filter (fun p => decide (p.1 ≠ x))
  | [], _, _ => rfl
  | p :: r, x, hn => by
    simp only [List.map_cons, List.nodup_cons] at hn
    unfold mdel
    by_cases h : p.1 = x
    · rw [if_pos h, List.filter_cons, if_neg (by simp [h])]
      refine (List.filter_eq_self.2 fun q hq => ?_).symm
      simp only [decide_eq_true_eq]
      exact fun e => hn.1 (List.mem_map.2 ⟨q, hq, by rw [e, h]⟩)
    · rw [if_neg h, List.filter_cons, if_pos (by simpa using h), mdel_filter r x hn.2]
theorem keys_filter_nodup {K V : Type} (m : List (K × V)) (f : K × V → Bool) (hn : (m.map (·.1)).Nodup) : ((m.filter f).map (·.1)).Nodup := hn.sublist (List.filter_sublist.map _)
def freeNow (n : Int) (kept : List (Int × Int)) (left : List Int) : List (Int × Int) := kept.filter (fun p => decide (n < p.1 ∨ p.1 ∈ left))
theorem freeNow_del (n : Int) (kept : List (Int × Int)) (left : List Int) (x : Int) (hn : (kept.map (·.1)).Nodup) (hx : x ≤ n) : mdel (mvals ikv (freeNow n kept left)) x = mvals ikv (freeNow n kept (dropKey (dropKey left x) x)) := by
  rw [mdel_mvals]
  unfold freeNow
  rw [mdel_filter _ _ (keys_filter_nodup _ _ hn)]
  congr 1
  rw [List.filter_filter]
  apply List.filter_congr
  intro q _
  rw [Bool.eq_iff_iff]
  simp only [Bool.and_eq_true, decide_eq_true_eq, mem_dropKey]
  constructor
  · rintro ⟨h1, h2 | h2⟩
    · exact .inl h2
    · exact .inr ⟨⟨h2, h1⟩, h1⟩
  · rintro (h | ⟨⟨h1, h2⟩, _⟩)
    · exact ⟨by omega, .inl h⟩
    · exact ⟨h2, .inr h1⟩
theorem freeNow_keep (n : Int) (kept : List (Int × Int)) (left : List Int) (x : Int) (hx : n < x) : freeNow n kept left = freeNow n kept (dropKey left x) := by
  unfold freeNow
  apply List.filter_congr
  intro q _
  rw [Bool.eq_iff_iff]
  simp only [decide_eq_true_eq, mem_dropKey]
  constructor
  · rintro (h | h)
    · exact .inl h
    · by_cases e : q.1 = x
      · exact .inl (by omega)
      · exact .inr ⟨h, e⟩
  · rintro (h | ⟨h, _⟩)
    · exact .inl h
    · exact .inr h
theorem mvals_filter (f : Int → Bool) (m : List (Int × Int)) : (mvals ikv m).filter (fun p => f p.1) = mvals ikv (m.filter fun p => f p.1) := by
  unfold mvals
  rw [List.filter_map]
  rfl
set_option maxRecDepth 100000 in
set_option maxHeartbeats 4000000 in
theorem seFree_any {w0 w : World} {R : HProp} (p : Nat) (s : Se) (n : Int) (hs : s.said ≤ 1000000) (h : Own w0 (SeP p s * R) w) :
    Calls Tryd.prog 36 #[.pointer (some ⟨p, 0, none⟩), .int .i64 n] w fun e w' => e = .returned (errV (seFreeErr s n)) ∧ Own w0 (SeP p (seFree s n) * R) w' := by
  obtain ⟨mb, ho⟩ := h.se_open
  obtain ⟨c0, c1, c2, c3⟩ := ho.se_facts
  by_cases h1 : n < 0
  · have ht : seFreeErr s n = 1 := by simp [seFreeErr, h1]
    have HT := Lib.hid ht; have H := Lib.hid h; have HO := Lib.hid ho; have C2 := Lib.hid c2; have C3 := Lib.hid c3
    clear ht h ho c2 c3
    go_enter Tryd.func36, Tryd.ntmps36
    go_wp2
    go_ret
    exact ⟨by rw [HT.out]; rfl, by unfold seFree; rw [HT.out]; exact H.out⟩
  by_cases h2 : (s.said : Int) < n
  · have ht : seFreeErr s n = 1 := by simp [seFreeErr, h2]
    have HT := Lib.hid ht; have H := Lib.hid h; have HO := Lib.hid ho; have C2 := Lib.hid c2; have C3 := Lib.hid c3
    clear ht h ho c2 c3
    go_enter Tryd.func36, Tryd.ntmps36
    go_wp2
    go_ret
    exact ⟨by rw [HT.out]; rfl, by unfold seFree; rw [HT.out]; exact H.out⟩
  have ht : seFreeErr s n = 0 := by simp [seFreeErr, h1, h2]
  have hnd : (s.kept.map (·.1)).Nodup := by
    have := ho.se_map.map_nodup
    unfold mvals at this
    rw [List.map_map] at this
    exact this
  obtain ⟨rb, hrb⟩ : ∃ rb, rb = w.heap.size := ⟨_, rfl⟩
  have HT := Lib.hid ht; have H := Lib.hid h; have HO := Lib.hid ho; have C2 := Lib.hid c2; have C3 := Lib.hid c3; have HND := Lib.hid hnd; have HRB := Lib.hid hrb
  clear ht h ho c2 c3 hnd hrb
  go_enter Tryd.func36, Tryd.ntmps36
  go_wp2_with (refine wpList_range mapii_kind HO.out.se_map rfl _ rfl rfl ?_; intro w1 hown1; rw [← HRB.out] at hown1 ⊢; have HW := Lib.hid hown1; clear hown1)
  go_loopg [] (s.kept.length) (fun g wr => ∃ (left : List Int) (last : Option Int), left.length ≤ g ∧ Hid (Own w0 (MpIt (fun n : Int => Value.int .i64 n) I64 mb rb (mvals ikv (freeNow n s.kept left)) left last * (blk p (.cells #[.map (some mb), .int .i64 s.said] 118 (0, 0)) * R)) wr))
  case atStart =>
    refine ⟨(mvals ikv s.kept).map (·.1), none, by simp [mvals], ?_⟩
    have e : freeNow n s.kept ((mvals ikv s.kept).map (·.1)) = s.kept := by
      unfold freeNow
      rw [List.filter_eq_self]
      intro q hq
      simp only [decide_eq_true_eq]
      refine .inr ?_
      unfold mvals
      rw [List.map_map]
      exact List.mem_map.2 ⟨q, hq, rfl⟩
    rw [e]; exact HW
  case round =>
    obtain ⟨left, last, hlen, HP⟩ := hrel
    go_wp2_with (refine wpList_next (int_ke int_kind) HP.out rfl _ rfl rfl ?_ ?_)
    · intro hnil
      subst hnil
      have hfin := HP.out.it_end
      have e : freeNow n s.kept [] = s.kept.filter (fun p => decide (n < p.1)) := by unfold freeNow; simp
      rw [e] at hfin
      have HF := Lib.hid hfin
      clear hfin e
      go_wp2
      go_ret
      refine ⟨by rw [HT.out]; rfl, ?_⟩
      unfold seFree
      rw [if_pos HT.out]
      refine Own.se_close (mb := mb) (HF.out.perm ?_)
      unfold SeO IMp
      ac_rfl
    · intro x v w2 hmem hxl hent ho
      have hlt := dropKey_lt hxl
      have c0 : w2.cell? ⟨p, 0, none⟩ = some (.map (some mb)) := by
        have h3 := ho.perm (star_left_comm _ _ _)
        rw [h3.cell]; rfl
      have hxI : I64 x := by
        have := HP.out.it_end.map_ok _ hmem
        exact this
      have HO := Lib.hid ho; have HXI := Lib.hid hxI; have HXL := Lib.hid hxl
      clear ho hxI hmem hxl
      by_cases hxn : x ≤ n
      · go_wp2_with (at_delete; refine wpList_itdel (int_ke int_kind) mapii_kind HO.out (x := x) HXI.out rfl _ _ rfl rfl rfl ?_; intro w3 hown3; have HW3 := Lib.hid hown3; clear hown3)
        go_roundg ((dropKey left x).length)
        case measure => omega
        case rel => exact ⟨dropKey (dropKey left x) x, none, dropKey_le _ _, by rw [← freeNow_del n s.kept left x HND.out hxn]; exact HW3⟩
      · go_wp2
        go_roundg ((dropKey left x).length)
        case measure => omega
        case rel => exact ⟨dropKey left x, some x, Nat.le_refl _, by rw [← freeNow_keep n s.kept left x (by omega)]; exact HO⟩
/-- A hearer: a fifo behind a pointer. -/
def HeO (p q : Nat) (f : Fi) : HProp := blk p (.cells #[.pointer (some ⟨q, 0, none⟩)] 115 (0, 0)) * FiP q f
def HeP (p : Nat) (f : Fi) : HProp := hex fun q => HeO p q f
section
variable {w0 w : World} {p q : Nat} {f : Fi} {R : HProp}
theorem Own.he_open (h : Own w0 (HeP p f * R) w) : ∃ q, Own w0 (HeO p q f * R) w := Own.ex h
theorem Own.he_close (h : Own w0 (HeO p q f * R) w) : Own w0 (HeP p f * R) w := Own.ex_mk q h
theorem Own.he_blk (h : Own w0 (HeO p q f * R) w) : Own w0 (blk p (.cells #[.pointer (some ⟨q, 0, none⟩)] 115 (0, 0)) * (FiP q f * R)) w := h.perm (by unfold HeO; ac_rfl)
theorem Own.he_fi (h : Own w0 (HeO p q f * R) w) : Own w0 (FiP q f * (blk p (.cells #[.pointer (some ⟨q, 0, none⟩)] 115 (0, 0)) * R)) w := h.perm (by unfold HeO; ac_rfl)
theorem Own.he_unfi (h : Own w0 (FiP q f * (blk p (.cells #[.pointer (some ⟨q, 0, none⟩)] 115 (0, 0)) * R)) w) : Own w0 (HeP p f * R) w := Own.he_close (q := q) (h.perm (by unfold HeO; ac_rfl))
end
set_option maxRecDepth 100000 in
set_option maxHeartbeats 4000000 in
theorem heNew_any {w0 w : World} {R : HProp} (h : Own w0 R w) :
    Calls Tryd.prog 30 #[] w fun e w' => ∃ p, e = .returned (.pointer (some ⟨p, 0, none⟩)) ∧ Own w0 (HeP p fiNew * R) w' := by
  have H := Lib.hid h
  clear h
  go_enter Tryd.func30, Tryd.ntmps30
  go_wp2_with fail
  refine (fiNew_any H.out).mono ?_
  rintro e w' ⟨q, rfl, ho⟩
  have HO := Lib.hid ho
  clear ho
  go_wp2
  go_ret
  refine ⟨_, rfl, Own.he_close (q := q) ((HO.out.alloc (.cells #[.pointer (some ⟨q, 0, none⟩)] 115)).perm ?_)⟩
  unfold HeO
  ac_rfl
def heErr (f : Fi) (n word : Int) : Nat := if fiErr f 0 n word = 7 then 0 else fiErr f 0 n word
set_option maxRecDepth 100000 in
set_option maxHeartbeats 4000000 in
theorem heTake_any {w0 w : World} {R : HProp} (p : Nat) (f : Fi) (n word : Int) (hfit : fiFit f) (h : Own w0 (HeP p f * R) w) :
    Calls Tryd.prog 31 #[.pointer (some ⟨p, 0, none⟩), .int .i64 n, .int .i64 word] w fun e w' => ∃ v, e = .returned (.tuple #[v, errV (heErr f n word)]) ∧ Own w0 (IntSl v (fiOut f 0 n word) * (HeP p (fiTake f 0 n word) * R)) w' := by
  obtain ⟨q, ho⟩ := h.he_open
  have c0 : w.cell? ⟨p, 0, none⟩ = some (.pointer (some ⟨q, 0, none⟩)) := by rw [ho.he_blk.cell]; rfl
  have hbase := fiTake_any q f 0 n word hfit ho.he_fi
  have hend : ∀ v w', Own w0 (IntSl v (fiOut f 0 n word) * (FiP q (fiTake f 0 n word) * (blk p (.cells #[.pointer (some ⟨q, 0, none⟩)] 115 (0, 0)) * R))) w' → Own w0 (IntSl v (fiOut f 0 n word) * (HeP p (fiTake f 0 n word) * R)) w' := fun v w' ho =>
    (Own.he_unfi (ho.perm (by ac_rfl : _ = FiP q (fiTake f 0 n word) * (blk p (.cells #[.pointer (some ⟨q, 0, none⟩)] 115 (0, 0)) * (IntSl v (fiOut f 0 n word) * R))))).perm (star_left_comm _ _ _)
  have hm0 : isMember 0 = true := by decide
  by_cases h7 : fiErr f 0 n word = 7
  · have h8 := h7
    unfold fiErr at h8
    rw [hm0, if_neg (by decide)] at h8
    split at h8
    · cases h8
    rename_i hn1
    split at h8
    · cases h8
    rename_i hn2
    split at h8
    · cases h8
    rename_i hwd
    have hwd : isWord word = true := by simpa using hwd
    split at h8
    · rename_i hh
      obtain ⟨mb, hfo⟩ := ho.he_fi.fi_open
      have hhas := fiHas_any q mb f 0 n hm0 (by unfold I64; omega) hfit.1 hfo
      have ht : heErr f n word = 0 := by simp [heErr, h7]
      have hout : fiOut f 0 n word = [] := by simp [fiOut, h7]
      have htk : fiTake f 0 n word = f := by simp [fiTake, h7]
      have hn1' : 1 ≤ n := by omega
      have hn2' : n ≤ 1000000 := by omega
      have H7 := Lib.hid h7; have HWD := Lib.hid hwd; have HH := Lib.hid hh; have HHAS := Lib.hid hhas; have HT := Lib.hid ht; have HOUT := Lib.hid hout; have HTK := Lib.hid htk; have H := Lib.hid h; have HO := Lib.hid ho; have HBASE := Lib.hid hbase; have HEND := Lib.hid hend; have HFO := Lib.hid hfo; have HFIT := Lib.hid hfit
      clear h7 hwd hh hhas ht hout htk h ho hbase hend hfo hfit
      go_enter Tryd.func31, Tryd.ntmps31
      go_wp2_with fail
      refine (word_any _ _).mono ?_
      rintro e w' ⟨rfl, rfl⟩
      rw [HWD.out]
      go_wp2_with fail
      refine (HHAS.out).mono ?_
      rintro e w' ⟨rfl, rfl⟩
      rw [HH.out]
      go_wp2
      go_ret2
      exact ⟨_, by rw [HT.out]; rfl, by rw [HOUT.out, HTK.out]; exact H.out.sl_nil _ _⟩
    · split at h8 <;> cases h8
  · have ht : heErr f n word = fiErr f 0 n word := by simp [heErr, h7]
    obtain ⟨mb, hfo⟩ := ho.he_fi.fi_open
    by_cases hn1 : 1 ≤ n
    · by_cases hn2 : n ≤ 1000000
      · cases hwd : isWord word
        · have H7 := Lib.hid h7; have HWD := Lib.hid hwd; have HT := Lib.hid ht; have H := Lib.hid h; have HO := Lib.hid ho; have HBASE := Lib.hid hbase; have HEND := Lib.hid hend; have HFO := Lib.hid hfo; have HFIT := Lib.hid hfit
          clear h7 hwd ht h ho hbase hend hfo hfit
          go_enter Tryd.func31, Tryd.ntmps31
          go_wp2_with fail
          refine (word_any _ _).mono ?_
          rintro e w' ⟨rfl, rfl⟩
          rw [HWD.out]
          go_wp2_with fail
          refine (HBASE.out).mono ?_
          rintro e w' ⟨v, rfl, ho1⟩
          have HO1 := Lib.hid ho1
          clear ho1
          go_wp2
          go_ret2
          exact ⟨v, by rw [HT.out]; rfl, HEND.out _ _ HO1.out⟩
        · have hhas := fiHas_any q mb f 0 n hm0 (by unfold I64; omega) hfit.1 hfo
          have hh : fiHas f 0 n = false := by
            cases hh : fiHas f 0 n
            · rfl
            · exfalso; apply h7
              simp [fiErr, hm0, show ¬ n < 1 from by omega, show ¬ 1000000 < n from by omega, hwd, hh]
          have H7 := Lib.hid h7; have HWD := Lib.hid hwd; have HT := Lib.hid ht; have H := Lib.hid h; have HO := Lib.hid ho; have HBASE := Lib.hid hbase; have HEND := Lib.hid hend; have HFO := Lib.hid hfo; have HFIT := Lib.hid hfit; have HHAS := Lib.hid hhas; have HH := Lib.hid hh
          clear h7 hwd ht h ho hbase hend hfo hfit hhas hh
          go_enter Tryd.func31, Tryd.ntmps31
          go_wp2_with fail
          refine (word_any _ _).mono ?_
          rintro e w' ⟨rfl, rfl⟩
          rw [HWD.out]
          go_wp2_with fail
          refine (HHAS.out).mono ?_
          rintro e w' ⟨rfl, rfl⟩
          rw [HH.out]
          go_wp2_with fail
          refine (HBASE.out).mono ?_
          rintro e w' ⟨v, rfl, ho1⟩
          have HO1 := Lib.hid ho1
          clear ho1
          go_wp2
          go_ret2
          exact ⟨v, by rw [HT.out]; rfl, HEND.out _ _ HO1.out⟩
      · have H7 := Lib.hid h7; have HT := Lib.hid ht; have H := Lib.hid h; have HO := Lib.hid ho; have HBASE := Lib.hid hbase; have HEND := Lib.hid hend; have HFO := Lib.hid hfo; have HFIT := Lib.hid hfit
        clear h7 ht h ho hbase hend hfo hfit
        go_enter Tryd.func31, Tryd.ntmps31
        go_wp2_with fail
        refine (HBASE.out).mono ?_
        rintro e w' ⟨v, rfl, ho1⟩
        have HO1 := Lib.hid ho1
        clear ho1
        go_wp2
        go_ret2
        exact ⟨v, by rw [HT.out]; rfl, HEND.out _ _ HO1.out⟩
    · have H7 := Lib.hid h7; have HT := Lib.hid ht; have H := Lib.hid h; have HO := Lib.hid ho; have HBASE := Lib.hid hbase; have HEND := Lib.hid hend; have HFO := Lib.hid hfo; have HFIT := Lib.hid hfit
      clear h7 ht h ho hbase hend hfo hfit
      go_enter Tryd.func31, Tryd.ntmps31
      go_wp2_with fail
      refine (HBASE.out).mono ?_
      rintro e w' ⟨v, rfl, ho1⟩
      have HO1 := Lib.hid ho1
      clear ho1
      go_wp2
      go_ret2
      exact ⟨v, by rw [HT.out]; rfl, HEND.out _ _ HO1.out⟩
/-- The numbers from a on, k of them, that have not come. -/
def heRow (f : Fi) (a : Int) (k : Nat) : List Int := ((List.range k).map fun i : Nat => a + (i : Int)).filter fun n => !fiHas f 0 n
theorem heRow_succ (f : Fi) (a : Int) (k : Nat) : heRow f a (k + 1) = heRow f a k ++ (if fiHas f 0 (a + k) then [] else [a + (k : Int)]) := by
  unfold heRow
  rw [List.range_succ, List.map_append, List.filter_append]
  cases h : fiHas f 0 (a + k) <;> simp [h]
theorem heRow_prefix (f : Fi) (a : Int) (k : Nat) : ∀ t, k ≤ t → ∃ r, heRow f a t = heRow f a k ++ r
  | 0, h => ⟨[], by rw [show k = 0 from by omega]; simp⟩
  | t + 1, h => by
    by_cases e : k = t + 1
    · exact ⟨[], by rw [e]; simp⟩
    · obtain ⟨r, hr⟩ := heRow_prefix f a k t (by omega)
      exact ⟨r ++ (if fiHas f 0 (a + t) then [] else [a + (t : Int)]), by rw [heRow_succ, hr, List.append_assoc]⟩
def heLacks (f : Fi) (upTo : Int) : List Int := if isCount upTo then (heRow f (fiN f 0) (upTo + 1 - fiN f 0).toNat).take 40 else []
set_option maxRecDepth 100000 in
set_option maxHeartbeats 4000000 in
theorem heLacks_any {w0 w : World} {R : HProp} (p : Nat) (f : Fi) (upTo : Int) (hfit : fiFit f) (h : Own w0 (HeP p f * R) w) :
    Calls Tryd.prog 32 #[.pointer (some ⟨p, 0, none⟩), .int .i64 upTo] w fun e w' => ∃ v, e = .returned (.tuple #[v, errV (if isCount upTo then 0 else 1)]) ∧ Own w0 (IntSl v (heLacks f upTo) * (HeP p f * R)) w' := by
  cases hcnt : isCount upTo
  · have hl : heLacks f upTo = [] := by simp [heLacks, hcnt]
    have HCNT := Lib.hid hcnt; have HL := Lib.hid hl; have H := Lib.hid h; have HFIT := Lib.hid hfit
    clear hcnt hl h hfit
    go_enter Tryd.func32, Tryd.ntmps32
    go_wp2_with fail
    refine (count_any _ _).mono ?_
    rintro e w' ⟨rfl, rfl⟩
    rw [HCNT.out]
    go_wp2
    go_ret2
    exact ⟨_, rfl, by rw [HL.out]; exact H.out.sl_nil _ _⟩
  obtain ⟨q, ho⟩ := h.he_open
  have c0 : w.cell? ⟨p, 0, none⟩ = some (.pointer (some ⟨q, 0, none⟩)) := by rw [ho.he_blk.cell]; rfl
  have hu : 0 ≤ upTo ∧ upTo ≤ 1000000 := by simpa [isCount] using hcnt
  obtain ⟨a, ha⟩ : ∃ a, a = fiN f 0 := ⟨_, rfl⟩
  have ha1 : 1 ≤ a ∧ a ≤ 1000001 := by
    have h5 := hfit.1
    have : fiN f 0 ∈ f.next := by
      unfold fiN
      rw [List.getD_eq_getElem?_getD, List.getElem?_eq_getElem (by simp; omega)]
      exact List.getElem_mem _
    rw [ha]; exact hfit.2.1 _ this
  have hl : heLacks f upTo = (heRow f a (upTo + 1 - a).toNat).take 40 := by unfold heLacks; rw [hcnt, ← ha]; rfl
  have hu1 := hu.1
  have hu2 := hu.2
  have hb1 := ha1.1
  have hb2 := ha1.2
  have HCNT := Lib.hid hcnt; have HL := Lib.hid hl; have H := Lib.hid h; have HFIT := Lib.hid hfit; have HO := Lib.hid ho; have HA := Lib.hid ha
  clear hcnt hl h hfit ho ha
  go_enter Tryd.func32, Tryd.ntmps32
  go_wp2_with fail
  refine (count_any _ _).mono ?_
  rintro e w' ⟨rfl, rfl⟩
  rw [HCNT.out]
  go_wp2_with fail
  refine (fiNext_any q f HFIT.out.1 HO.out.he_fi).mono ?_
  rintro e w' ⟨v, rfl, ho1⟩
  obtain ⟨b, off, cap, hv, hc1, hc2, hcell, _⟩ := ho1.ints_at (by rw [HFIT.out.1]; omega)
  have hx0 := hcell 0 (by rw [HFIT.out.1]; omega)
  have hx0' : w'.cell? ⟨b, off, none⟩ = some (.int .i64 a) := by
    rw [show off = off + 0 from rfl, hx0, HA.out]
    unfold fiN
    rw [List.getD_eq_getElem?_getD, List.getElem?_eq_getElem (by rw [HFIT.out.1]; decide)]
    rfl
  rw [HFIT.out.1] at hv hc1
  subst hv
  have hown : Hid (Own w0 (HeO p q f * R) w') := Lib.hid (ho1.drop.perm (by unfold HeO; ac_rfl))
  clear ho1 hcell hx0
  go_wp2_with fail
  go_loopw [6, 7] (fun v i wr => ∃ k : Nat, k ≤ (upTo + 1 - a).toNat ∧ i = .int .i64 (a + (k : Int)) ∧ Hid ((heRow f a k).length ≤ 40) ∧ Hid (Own w0 (IntSl v (heRow f a k) * (HeO p q f * R)) wr)) (fun _ i _ => (upTo + 1 - intOf i).toNat)
  case atStart => exact ⟨0, Nat.zero_le _, by simp, Nat.zero_le _, Lib.hid (hown.out.sl_nil _ _)⟩
  case round =>
    obtain ⟨k, hk, rfl, H40, HP⟩ := hrel
    have hp1 := HP.out.perm (star_left_comm _ _ _)
    have c0 : wr.cell? ⟨p, 0, none⟩ = some (.pointer (some ⟨q, 0, none⟩)) := by rw [hp1.he_blk.cell]; rfl
    obtain ⟨ad, cp, hv⟩ := HP.out.int_shape
    obtain ⟨L, hL⟩ : ∃ L, L = (heRow f a k).length := ⟨_, rfl⟩
    rw [← hL] at hv
    subst hv
    have hL40 : L ≤ 40 := by rw [hL]; exact H40.out
    by_cases hgo : a + (k : Int) ≤ upTo ∧ L < 40
    · obtain ⟨hg1, hg2⟩ := hgo
      have hd : decide ((L : Int) < 40) = true := by simp; omega
      obtain ⟨mb, hfo⟩ := hp1.he_fi.fi_open
      have hhas := fiHas_any q mb f 0 (a + (k : Int)) (by decide) (by unfold I64; omega) HFIT.out.1 hfo
      have hsl := HP.out
      unfold IntSl at hsl
      rw [← hL] at hsl
      cases hh : fiHas f 0 (a + (k : Int))
      · have hsn := heRow_succ f a k
        rw [hh] at hsn
        simp only [Bool.false_eq_true, if_false] at hsn
        have HLL := Lib.hid hL
        clear hL
        have HFO := Lib.hid hfo; have HHAS := Lib.hid hhas; have HH := Lib.hid hh; have HP1 := Lib.hid hp1; have HSN := Lib.hid hsn; have HSL := Lib.hid hsl
        clear hfo hhas hh hp1 hsn hsl
        go_wp2_with fail
        refine (HHAS.out).mono ?_
        rintro e w' ⟨rfl, rfl⟩
        rw [HH.out]
        go_wp2_with (at_builtin; refine wpList_app rfl _ _ 22 rfl 3 1 8 _ info_int Tryd.underlying22 rfl (by decide) rfl (HSL.out.alloc' _) rfl (by rfl) (Rd_lit (by simp) (by unfold maxLen; omega)) (by intro u hu; simp at hu; subst hu; rfl) (by unfold maxLen; omega) (by omega) ?_; intro v' w3 hown3; have HO3 := Lib.hid hown3; clear hown3)
        refine ⟨⟨k + 1, by omega, by first | go_num | (congr 1; omega), by rw [HSN.out, List.length_append, ← HLL.out, List.length_singleton]; exact hg2, ?_⟩, by simp [intOf] <;> omega⟩
        rw [HSN.out]
        refine Lib.hid (HO3.out.perm ?_)
        unfold IntSl
        rw [HLL.out]
        simp
      · have hsn := heRow_succ f a k
        rw [hh] at hsn
        simp only [if_true, List.append_nil] at hsn
        have HLL := Lib.hid hL
        clear hL
        have HFO := Lib.hid hfo; have HHAS := Lib.hid hhas; have HH := Lib.hid hh; have HP1 := Lib.hid hp1; have HSN := Lib.hid hsn; have HSL := Lib.hid hsl
        clear hfo hhas hh hp1 hsn hsl
        go_wp2_with fail
        refine (HHAS.out).mono ?_
        rintro e w' ⟨rfl, rfl⟩
        rw [HH.out]
        go_wp2
        refine ⟨⟨k + 1, by omega, by first | go_num | (congr 1; omega), by rw [HSN.out]; exact H40, ?_⟩, by simp [intOf] <;> omega⟩
        rw [HSN.out]; exact HP
    · have hfin : (heRow f a (upTo + 1 - a).toNat).take 40 = heRow f a k := by
        rcases (by omega : ¬ a + (k : Int) ≤ upTo ∨ L = 40) with h | h
        · have : k = (upTo + 1 - a).toNat := by omega
          rw [← this, List.take_of_length_le H40.out]
        · obtain ⟨r, hr⟩ := heRow_prefix f a k _ hk
          rw [hr, List.take_append_of_le_length (by omega), List.take_of_length_le (by omega)]
      rw [← HL.out] at hfin
      have hfin2 : Hid (heLacks f upTo = heRow f a k) := Lib.hid (by rw [HL.out]; rw [HL.out] at hfin; exact hfin)
      have HLL := Lib.hid hL
      clear hfin hL
      rcases (by omega : upTo < a + (k : Int) ∨ (a + (k : Int) ≤ upTo ∧ 40 ≤ L)) with h | ⟨h1, h2⟩
      · clear hgo
        have HP1 := Lib.hid hp1
        clear hp1
        go_wp2
        go_ret2
        refine ⟨_, rfl, ?_⟩
        rw [hfin2.out]
        exact (Own.he_close (HP1.out)).perm (star_left_comm _ _ _)
      · clear hgo
        have HP1 := Lib.hid hp1
        clear hp1
        go_wp2
        go_ret2
        refine ⟨_, rfl, ?_⟩
        rw [hfin2.out]
        exact (Own.he_close (HP1.out)).perm (star_left_comm _ _ _)
end Go.Proofs.YteelldblfmhjlaaDoor
