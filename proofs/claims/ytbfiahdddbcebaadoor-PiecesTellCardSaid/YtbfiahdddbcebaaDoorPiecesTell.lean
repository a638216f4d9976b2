/- PiecesTell: any text split, any pieces joined, beside the reference. -/
import Derived.Test.YtbfiahdddbcebaaDoorPiecesTellQ
namespace Go.Proofs.YtbfiahdddbcebaaDoor
open Go.RowKit Go.Maps
set_option linter.unusedVariables false
theorem jr_zeroes : (jrCells 0 []).toArray = Tryd.zeroCells46 := by kernel_rfl
theorem jr_made (q : Nat) : JrP q 0 [] = blk q (.cells Tryd.zeroCells46 46 (0, 0)) := by unfold JrP; rw [jr_zeroes]
theorem pcs_own {w0 w : World} {v : Value} {l : List Pc} {R : HProp} (h : Own w0 (PcSl v l * R) w) (hg : ∀ e ∈ l, goodPc e) : Pcs w v l := ⟨Own.rd h, hg⟩
theorem pcs_nil (w : World) : Pcs w (.slice none 0 0) [] := ⟨⟨none, 0, rfl, Nat.le_refl _, Nat.zero_le _, fun _ => rfl, fun i u h => by simp at h⟩, fun x h => by cases h⟩
theorem split_good (t : ByteArray) (z : Nat) (ht : t.size ≤ 60) (hz1 : 1 ≤ z) (hz2 : z ≤ 12) : ∀ e ∈ splitOf t z, goodPc e := by
  intro e he
  unfold splitOf at he
  obtain ⟨k, hk, rfl⟩ := List.mem_map.1 he
  have h1 := List.mem_range.1 hk
  have h2 := splitN_le t.size z ht hz1
  have h3 := split_size t z k hz2
  refine ⟨?_, ?_, Nat.le_trans h3 (by unfold maxLen; omega)⟩
  · show I64 ((k : Nat) : Int)
    unfold I64; omega
  · show I64 ((splitN t.size z : Nat) : Int)
    unfold I64; omega
set_option maxRecDepth 100000 in
set_option maxHeartbeats 4000000 in
theorem pt_a {w : World} (hg : As.Handle w) (t : ByteArray) (ht : t.size ≤ maxLen) (size : Int) (hi : I64 size) (v : Value) (L : List Pc) (hL : Pcs w v L) (h60 : 60 < t.size) :
    Calls Tryd.prog 4 #[.string t, .int .i64 size, v] w fun e w' => e = .returned (.bool true) ∧ Below w.heap.size w w' := by
  obtain ⟨ad, cap, rfl, hlc, hcap⟩ := hL.shape
  obtain ⟨n, hn⟩ : ∃ n, n = L.length := ⟨_, rfl⟩
  rw [← hn] at hL hlc ⊢
  have HL := Lib.hid hL
  have htm : t.size ≤ 9223372036854775807 := Nat.le_trans ht (by unfold maxLen; omega)
  have HO1 : Hid (Own w emp w) := Lib.hid (Own.start w)
  clear hL
  have HG := Lib.hid hg; have HT := Lib.hid ht; have HI := Lib.hid hi; have HTM := Lib.hid htm; have HN := Lib.hid hn
  clear hg ht hi htm hn
  go_enter Tryd.func4, Tryd.ntmps4
  have t1 : decide ((60 : Int) < (t.size : Int)) = true := decide_eq_true (by omega)
  go_wp2_with fail
  refine (split_long t size _ HTM.out h60).mono ?_
  rintro e w2 ⟨rfl, rfl⟩
  have H60 := Lib.hid h60
  clear h60
  go_wp2_with fail
  refine (sameErr_any HG.out 4 4 HO1.out).mono ?_
  rintro e w3 ⟨rfl, ho⟩
  rw [show (((4 : Nat) : Int) == 4) = true from rfl]
  have HO2 := Lib.hid ho
  clear ho
  go_wp2_with fail
  refine (samePcs_any _ _ [] (pcs_nil _) (pcs_nil _)).mono ?_
  rintro e w4 ⟨rfl, nd, rfl⟩
  have HO3 : Hid (Own w emp (w3.drewN nd)) := Lib.hid (HO2.out.drewN _)

  go_wp2_with fail
  refine (joNew_any HO3.out).mono ?_
  rintro e w8 ⟨p, mb, rfl, ho⟩
  have ho8 := ho.alloc (.cells Tryd.zeroCells46 46)
  obtain ⟨qb, hqb⟩ : ∃ q, q = w8.heap.size := ⟨_, rfl⟩
  rw [← hqb] at ho8
  have HO8 : Hid (Own w (JoP p mb 0 [] * (JrP qb 0 [] * emp)) (w8.alloc (.cells Tryd.zeroCells46 46))) := Lib.hid (by rw [jr_made]; exact ho8.perm (star_left_comm _ _ _))
  clear ho ho8
  go_upto_block 0 with fail
  rw [← hqb]
  clear hqb
  refine ptLoop w emp p mb qb n cap ad L hlc hcap HG HN HL HO8 ?_
  intros
  rename_i hox
  have HX := Lib.hid hox
  clear hox
  go_wp2_with fail
  go_ret
  exact ⟨rfl, HX.out.below⟩
set_option maxRecDepth 100000 in
set_option maxHeartbeats 4000000 in
theorem pt_b {w : World} (hg : As.Handle w) (t : ByteArray) (ht : t.size ≤ maxLen) (size : Int) (hi : I64 size) (v : Value) (L : List Pc) (hL : Pcs w v L) (h60 : ¬ 60 < t.size) (hz : size < 1 ∨ 12 < size) :
    Calls Tryd.prog 4 #[.string t, .int .i64 size, v] w fun e w' => e = .returned (.bool true) ∧ Below w.heap.size w w' := by
  obtain ⟨ad, cap, rfl, hlc, hcap⟩ := hL.shape
  obtain ⟨n, hn⟩ : ∃ n, n = L.length := ⟨_, rfl⟩
  rw [← hn] at hL hlc ⊢
  have HL := Lib.hid hL
  have htm : t.size ≤ 9223372036854775807 := Nat.le_trans ht (by unfold maxLen; omega)
  have HO1 : Hid (Own w emp w) := Lib.hid (Own.start w)
  clear hL
  have HG := Lib.hid hg; have HT := Lib.hid ht; have HI := Lib.hid hi; have HTM := Lib.hid htm; have HN := Lib.hid hn
  clear hg ht hi htm hn
  go_enter Tryd.func4, Tryd.ntmps4
  have t1 : decide ((60 : Int) < (t.size : Int)) = false := decide_eq_false (by omega)
  obtain ⟨Z, hZ⟩ : ∃ Z : Bool, decide (size < 1) = Z := ⟨_, rfl⟩
  have t2 : Z = false → decide (12 < size) = true := fun h => decide_eq_true (by rw [h, decide_eq_false_iff_not] at hZ; omega)
  cases Z
  · have t3 := t2 rfl
    clear t2
    go_wp2_with fail
    refine (split_range t size _ (by omega) hz).mono ?_
    rintro e w2 ⟨rfl, rfl⟩
    have H60 := Lib.hid h60; have HZ := Lib.hid hz
    clear h60 hz
    go_wp2_with fail
    refine (sameErr_any HG.out 1 1 HO1.out).mono ?_
    rintro e w3 ⟨rfl, ho⟩
    rw [show (((1 : Nat) : Int) == 1) = true from rfl]
    have HO2 := Lib.hid ho
    clear ho
    go_wp2_with fail
    refine (samePcs_any _ _ [] (pcs_nil _) (pcs_nil _)).mono ?_
    rintro e w4 ⟨rfl, nd, rfl⟩
    have HO3 : Hid (Own w emp (w3.drewN nd)) := Lib.hid (HO2.out.drewN _)

    go_wp2_with fail
    refine (joNew_any HO3.out).mono ?_
    rintro e w8 ⟨p, mb, rfl, ho⟩
    have ho8 := ho.alloc (.cells Tryd.zeroCells46 46)
    obtain ⟨qb, hqb⟩ : ∃ q, q = w8.heap.size := ⟨_, rfl⟩
    rw [← hqb] at ho8
    have HO8 : Hid (Own w (JoP p mb 0 [] * (JrP qb 0 [] * emp)) (w8.alloc (.cells Tryd.zeroCells46 46))) := Lib.hid (by rw [jr_made]; exact ho8.perm (star_left_comm _ _ _))
    clear ho ho8
    go_upto_block 0 with fail
    rw [← hqb]
    clear hqb
    refine ptLoop w emp p mb qb n cap ad L hlc hcap HG HN HL HO8 ?_
    intros
    rename_i hox
    have HX := Lib.hid hox
    clear hox
    go_wp2_with fail
    go_ret
    exact ⟨rfl, HX.out.below⟩
  · clear t2
    go_wp2_with fail
    refine (split_range t size _ (by omega) hz).mono ?_
    rintro e w2 ⟨rfl, rfl⟩
    have H60 := Lib.hid h60; have HZ := Lib.hid hz
    clear h60 hz
    go_wp2_with fail
    refine (sameErr_any HG.out 1 1 HO1.out).mono ?_
    rintro e w3 ⟨rfl, ho⟩
    rw [show (((1 : Nat) : Int) == 1) = true from rfl]
    have HO2 := Lib.hid ho
    clear ho
    go_wp2_with fail
    refine (samePcs_any _ _ [] (pcs_nil _) (pcs_nil _)).mono ?_
    rintro e w4 ⟨rfl, nd, rfl⟩
    have HO3 : Hid (Own w emp (w3.drewN nd)) := Lib.hid (HO2.out.drewN _)

    go_wp2_with fail
    refine (joNew_any HO3.out).mono ?_
    rintro e w8 ⟨p, mb, rfl, ho⟩
    have ho8 := ho.alloc (.cells Tryd.zeroCells46 46)
    obtain ⟨qb, hqb⟩ : ∃ q, q = w8.heap.size := ⟨_, rfl⟩
    rw [← hqb] at ho8
    have HO8 : Hid (Own w (JoP p mb 0 [] * (JrP qb 0 [] * emp)) (w8.alloc (.cells Tryd.zeroCells46 46))) := Lib.hid (by rw [jr_made]; exact ho8.perm (star_left_comm _ _ _))
    clear ho ho8
    go_upto_block 0 with fail
    rw [← hqb]
    clear hqb
    refine ptLoop w emp p mb qb n cap ad L hlc hcap HG HN HL HO8 ?_
    intros
    rename_i hox
    have HX := Lib.hid hox
    clear hox
    go_wp2_with fail
    go_ret
    exact ⟨rfl, HX.out.below⟩
set_option maxRecDepth 100000 in
set_option maxHeartbeats 4000000 in
theorem pt_c {w : World} (hg : As.Handle w) (t : ByteArray) (ht : t.size ≤ maxLen) (size : Int) (hi : I64 size) (v : Value) (L : List Pc) (hL : Pcs w v L) (h60 : ¬ 60 < t.size) (hz : ¬ (size < 1 ∨ 12 < size)) :
    Calls Tryd.prog 4 #[.string t, .int .i64 size, v] w fun e w' => e = .returned (.bool true) ∧ Below w.heap.size w w' := by
  obtain ⟨ad, cap, rfl, hlc, hcap⟩ := hL.shape
  obtain ⟨n, hn⟩ : ∃ n, n = L.length := ⟨_, rfl⟩
  rw [← hn] at hL hlc ⊢
  have HL := Lib.hid hL
  have htm : t.size ≤ 9223372036854775807 := Nat.le_trans ht (by unfold maxLen; omega)
  have HO1 : Hid (Own w emp w) := Lib.hid (Own.start w)
  clear hL
  have HG := Lib.hid hg; have HT := Lib.hid ht; have HI := Lib.hid hi; have HTM := Lib.hid htm; have HN := Lib.hid hn
  clear hg ht hi htm hn
  go_enter Tryd.func4, Tryd.ntmps4
  have h60' : t.size ≤ 60 := by omega
  obtain ⟨z, rfl⟩ := Int.eq_ofNat_of_zero_le (show 0 ≤ size by omega)
  have hz1 : 1 ≤ z := by omega
  have hz12 : z ≤ 12 := by omega
  have t1 : decide ((60 : Int) < (t.size : Int)) = false := decide_eq_false (by omega)
  have t2 : decide ((z : Int) < 1) = false := decide_eq_false (by omega)
  have t3 : decide ((12 : Int) < (z : Int)) = false := decide_eq_false (by omega)
  have hgd := split_good t z h60' hz1 hz12
  obtain ⟨W, hW⟩ : ∃ W, W = splitOf t z := ⟨_, rfl⟩
  rw [← hW] at hgd
  have HGD := Lib.hid hgd; have HW := Lib.hid hW
  clear hgd hW
  go_wp2_with fail
  refine (refSplit_any HO1.out t z h60' hz1 hz12).mono ?_
  rintro e w2 ⟨v1, rfl, ho⟩
  rw [← HW.out] at ho
  have HO2 := Lib.hid ho
  clear ho
  obtain ⟨a1, b1, rfl, _, _⟩ := (pcs_own HO2.out HGD.out).shape
  go_wp2_with fail
  refine (split_ok HO2.out t z h60' hz1 hz12).mono ?_
  rintro e w3 ⟨v2, rfl, ho⟩
  rw [← HW.out] at ho
  have HO4 := Lib.hid ho
  clear ho
  obtain ⟨a2, b2, rfl, _, _⟩ := (pcs_own HO4.out HGD.out).shape
  have H60 := Lib.hid h60; have HZ := Lib.hid hz; have H60' := Lib.hid h60'; have HZ1 := Lib.hid hz1; have HZ12 := Lib.hid hz12
  clear h60 hz h60' hz1 hz12
  go_wp2_with fail
  refine (sameErr_any HG.out 0 0 HO4.out).mono ?_
  rintro e w5 ⟨rfl, ho⟩
  rw [show (((0 : Nat) : Int) == 0) = true from rfl]
  have HO5 := Lib.hid ho
  clear ho
  go_wp2_with fail
  have pA : Pcs w5 (.slice a2 W.length b2) W := pcs_own HO5.out HGD.out
  have pB : Pcs w5 (.slice a1 W.length b1) W := pcs_own (HO5.out.perm (star_left_comm _ _ _)) HGD.out
  have T := samePcs_any _ _ W pA pB
  refine T.mono ?_
  rintro e w6 ⟨rfl, nd, rfl⟩
  have HO3 : Hid (Own w emp (w5.drewN nd)) := Lib.hid (HO5.out.drewN _).drop.drop

  go_wp2_with fail
  refine (joNew_any HO3.out).mono ?_
  rintro e w8 ⟨p, mb, rfl, ho⟩
  have ho8 := ho.alloc (.cells Tryd.zeroCells46 46)
  obtain ⟨qb, hqb⟩ : ∃ q, q = w8.heap.size := ⟨_, rfl⟩
  rw [← hqb] at ho8
  have HO8 : Hid (Own w (JoP p mb 0 [] * (JrP qb 0 [] * emp)) (w8.alloc (.cells Tryd.zeroCells46 46))) := Lib.hid (by rw [jr_made]; exact ho8.perm (star_left_comm _ _ _))
  clear ho ho8
  go_upto_block 0 with fail
  rw [← hqb]
  clear hqb
  refine ptLoop w emp p mb qb n cap ad L hlc hcap HG HN HL HO8 ?_
  intros
  rename_i hox
  have HX := Lib.hid hox
  clear hox
  go_wp2_with fail
  go_ret
  exact ⟨rfl, HX.out.below⟩
set_option maxRecDepth 100000 in
set_option maxHeartbeats 4000000 in
theorem piecesTell_law (w : World) (hg : As.Handle w) (t : ByteArray) (ht : t.size ≤ maxLen) (size : Int) (hi : I64 size) (v : Value) (L : List Pc) (hL : Pcs w v L) :
    Calls Tryd.prog 4 #[.string t, .int .i64 size, v] w fun e w' => e = .returned (.bool true) ∧ Below w.heap.size w w' := by
  by_cases h60 : 60 < t.size
  · exact pt_a hg t ht size hi v L hL h60
  by_cases hz : size < 1 ∨ 12 < size
  · exact pt_b hg t ht size hi v L hL h60 hz
  exact pt_c hg t ht size hi v L hL h60 hz
end Go.Proofs.YtbfiahdddbcebaaDoor
