/- Contracts of package pieces: the Joiner's Text. -/
import Derived.Test.YtddbjcpfgjcmnaaJoin2
import Derived.Test.YtddbjcpfgjcmnaaBld
namespace Go.Proofs.Ytddbjcpfgjcmnaa
set_option linter.unusedVariables false
set_option linter.unusedSimpArgs false
open Go.RowKit Go.Maps
theorem Own.under {w0 w w' : World} {P : HProp} (h : Own w0 P w) (hb : Below w.heap.size w w') : Own w0 P w' := by
  obtain ⟨hbel, x, a, hx⟩ := h
  refine ⟨hbel.trans ⟨hb.os, hb.tape, hb.output, hb.size, fun k hk => hb.block k (Nat.lt_of_lt_of_le hk hbel.size)⟩, x, fun k o hk => ?_, hx⟩
  have h1 := a k o hk
  refine ⟨h1.1, ?_⟩
  rw [hb.block k, h1.2]
  rcases Nat.lt_or_ge k w.heap.size with h' | h'
  · exact h'
  · have := h1.2; rw [Array.getElem?_eq_none h'] at this; cases this
theorem Own.jo_look1 {w0 w : World} {p mb N : Nat} {m : List (Int × ByteArray)} {R : HProp} (h : Own w0 (JoP p mb N m * R) w) (x : Int) (hx : I64 x) : (Instr.lookup 45 (.map (some mb)) (.int .i64 x) false).run Try.prog w = .ok (((mget m x).map isv).getD (.string ⟨#[]⟩)) w := by
  have h1 := h.jo_map.map_look (int_ke int_kind) mapis_kind is_zero (x := x) hx false
  rw [mget_mvals] at h1
  simpa using h1
def joGet (m : List (Int × ByteArray)) (k : Nat) : ByteArray := (mget m (k : Int)).getD ⟨#[]⟩
def joCat (m : List (Int × ByteArray)) (k : Nat) : List UInt8 := (List.range k).flatMap fun i => (joGet m i).data.toList
theorem joCat_snoc (m : List (Int × ByteArray)) (k : Nat) : joCat m (k + 1) = joCat m k ++ (joGet m k).data.toList := by
  unfold joCat
  rw [List.range_succ, List.flatMap_append]
  simp
def joSmall (m : List (Int × ByteArray)) : Prop := ∀ p ∈ m, p.2.size ≤ 12
theorem joSmall_nil : joSmall [] := fun p h => by cases h
theorem joSmall_put {m : List (Int × ByteArray)} (h : joSmall m) (k : Int) (t : ByteArray) (ht : t.size ≤ 12) : joSmall (mput m k t) := fun p hp => by
  rcases mem_mput hp with hp | rfl
  · exact h p hp
  · exact ht
theorem mgetK_mem {K V : Type} [DecidableEq K] : ∀ {m : List (K × V)} {x : K} {v : V}, mget m x = some v → (x, v) ∈ m
  | p :: r, x, v, h => by
    unfold mget at h
    by_cases hp : p.1 = x
    · rw [if_pos hp] at h
      cases h; subst hp
      exact List.mem_cons_self
    · rw [if_neg hp] at h
      exact List.mem_cons_of_mem _ (mgetK_mem h)
theorem joGet_le {m : List (Int × ByteArray)} (h : joSmall m) (k : Nat) : (joGet m k).size ≤ 12 := by
  unfold joGet
  cases hg : mget m (k : Int) with
  | none => exact Nat.zero_le _
  | some s => exact h _ (mgetK_mem hg)
theorem joCat_le {m : List (Int × ByteArray)} (h : joSmall m) : ∀ k, (joCat m k).length ≤ 12 * k
  | 0 => Nat.le_refl _
  | k + 1 => by
    rw [joCat_snoc, List.length_append, show (joGet m k).data.toList.length = (joGet m k).size from Array.length_toList]
    have := joCat_le h k
    have := joGet_le h k
    omega
def joFull (N : Nat) (m : List (Int × ByteArray)) : Bool := decide (N ≠ 0) && (joLacks N m).isEmpty
def joText (N : Nat) (m : List (Int × ByteArray)) : ByteArray := if joFull N m = true then ⟨(joCat m N).toArray⟩ else ⟨#[]⟩
set_option maxRecDepth 100000 in
set_option maxHeartbeats 4000000 in
theorem joText_any {w0 w : World} {R : HProp} (p mb N : Nat) (hN : N ≤ 60) (m : List (Int × ByteArray)) (hm : joSmall m) (h : Own w0 (JoP p mb N m * R) w) :
    Calls Try.prog 10 #[.pointer (some ⟨p, 0, none⟩)] w fun e w' => e = .returned (.tuple #[.string (joText N m), errV (if joFull N m = true then 0 else 5)]) ∧ Own w0 (JoP p mb N m * R) w' := by
  obtain ⟨c0, c1, _⟩ := h.jo_facts
  obtain ⟨X, hTX⟩ : ∃ X, X = joText N m := ⟨_, rfl⟩
  obtain ⟨F, hTF⟩ : ∃ F, F = joFull N m := ⟨_, rfl⟩
  rw [← hTX, ← hTF]
  by_cases h0 : N = 0
  · have ef1 : F = false := by rw [hTF]; unfold joFull; simp [h0]
    have ex1 : X = ⟨#[]⟩ := by rw [hTX]; unfold joText; rw [if_neg (by simp [← hTF, ef1])]
    clear hTX hTF
    subst ex1 ef1 h0
    have H := Lib.hid h; have HM := Lib.hid hm; have C1 := Lib.hid c1
    clear h hm c1
    go_enter Try.func10, Try.ntmps10
    go_wp2
    go_ret2
    exact ⟨rfl, H.out⟩
  have t0 : ((N : Int) == 0) = false := by rw [beq_eq_false_iff_ne]; omega
  obtain ⟨L, hL⟩ : ∃ L, L = joLacks N m := ⟨_, rfl⟩
  have H := Lib.hid h; have HM := Lib.hid hm; have C1 := Lib.hid c1; have HTX := Lib.hid hTX; have HTF := Lib.hid hTF
  clear h hm c1 hTX hTF
  go_enter Try.func10, Try.ntmps10
  go_wp2_with fail
  refine (joLacks_any p mb N hN m H.out).mono ?_
  rintro e w1 ⟨v', rfl, ho⟩
  rw [← hL] at ho
  obtain ⟨ad, cap, rfl, _, _, _, _⟩ := ho.rd
  have HO := Lib.hid ho.drop
  clear ho c0
  obtain ⟨n, hn⟩ : ∃ n, n = L.length := ⟨_, rfl⟩
  rw [← hn]
  cases n with
  | succ n =>
    have ef1 : F = false := by
      rw [HTF.out]; unfold joFull; rw [← hL]
      cases L with
      | nil => simp at hn
      | cons x r => simp
    have ex1 : X = ⟨#[]⟩ := by rw [HTX.out]; unfold joText; rw [if_neg (by rw [← HTF.out, ef1]; simp)]
    clear HTX HTF
    subst ex1 ef1
    have HL := Lib.hid hL; have HN := Lib.hid hn
    clear hL hn
    go_wp2
    go_ret2
    exact ⟨rfl, HO.out⟩
  | zero =>
  have ef1 : F = true := by
    rw [HTF.out]; unfold joFull; rw [← hL, decide_eq_true h0, List.length_eq_zero_iff.1 hn.symm]; rfl
  have ex1 : X = ⟨(joCat m N).toArray⟩ := by rw [HTX.out]; unfold joText; rw [if_pos (by rw [← HTF.out, ef1])]
  clear HTX HTF
  subst ex1 ef1
  obtain ⟨b, hb_b⟩ : ∃ zz_, zz_ = (w1).heap.size := ⟨_, rfl⟩
  obtain ⟨w2, hw_w2⟩ : ∃ zz_, zz_ = (w1).alloc (.cells #[.pointer none, .slice none 0 0] 53 (0, 0)) := ⟨_, rfl⟩
  have h_HB := (HO.out).alloc (.cells #[.pointer none, .slice none 0 0] 53 (0, 0))
  rw [← hb_b, ← hw_w2] at h_HB
  have HB := Lib.hid h_HB
  clear h_HB
  have hbi : BIs b (joCat m 0) w2 := by rw [hw_w2, hb_b]; exact bis_new w1
  have hbl : Below b w1 w2 := by rw [hw_w2, hb_b]; exact (Below.refl _ w1).alloc (Nat.le_refl _) _
  have hbs : b = w1.heap.size := hb_b
  obtain ⟨c0, c1, _⟩ := HB.out.drop.jo_facts
  clear HB
  have HL := Lib.hid hL; have HN := Lib.hid hn; have HBI := Lib.hid hbi; have HBL := Lib.hid hbl; have HBS := Lib.hid hbs
  clear hL hn hbi hbl hbs
  go_upto_region 4 with fail
  rw [← hb_b, ← hw_w2]
  clear hb_b hw_w2
  go_wp2_with fail
  clear c0 c1
  go_loopw [22] (fun iv wr => ∃ k : Nat, k ≤ N ∧ iv = .int .i64 k ∧ Hid (BIs b (joCat m k) wr ∧ Below b w1 wr)) (fun iv _ => N - (intOf iv).toNat)
  case atStart => exact ⟨0, Nat.zero_le _, rfl, Lib.hid ⟨HBI.out, HBL.out⟩⟩
  case round =>
    obtain ⟨k, hk, rfl, HR⟩ := hrel
    have HO2 : Hid (Own w0 (JoP p mb N m * R) wr) := Lib.hid (HO.out.under (by rw [← HBS.out]; exact HR.out.2))
    by_cases hlt : k < N
    rotate_left
    · have hkn : k = N := by omega
      subst hkn
      go_wp2_with fail
      refine (bString_any b _ HR.out.1).mono ?_
      rintro e w3 ⟨rfl, hb3⟩
      have HO3 : Hid (Own w0 (JoP p mb k m * R) w3) := Lib.hid (HO.out.under (by rw [← HBS.out]; exact HR.out.2.trans hb3))
      clear hb3
      go_wp2
      go_ret2
      exact ⟨rfl, HO3.out⟩
    obtain ⟨c0, c1, _⟩ := HO2.out.jo_facts
    have hkI : I64 (k : Int) := by unfold I64; omega
    have hlk := HO2.out.jo_look1 k hkI
    rw [show ((mget m (k : Int)).map isv).getD (.string ⟨#[]⟩) = .string (joGet m k) by unfold joGet; cases mget m (k : Int) <;> rfl] at hlk
    have hln : (joCat m k).length + (joGet m k).size ≤ 140737488355328 := by
      have := joCat_le HM.out k; have := joGet_le HM.out k; omega
    have HKI := Lib.hid hkI; have HLN := Lib.hid hln
    clear hkI hln
    go_wp2_with fail
    refine (bWrite_any b _ (joGet m k) HR.out.1 HLN.out).mono ?_
    rintro e w3 ⟨rfl, hb3, hb4⟩
    rw [← joCat_snoc] at hb3
    have HR3 := Lib.hid (And.intro hb3 (HR.out.2.trans hb4))
    clear hb3 hb4
    go_wp2
    go_round
    case rel => exact ⟨k + 1, by omega, by go_num, HR3⟩
    case measure => simp [intOf]; omega
end Go.Proofs.Ytddbjcpfgjcmnaa
