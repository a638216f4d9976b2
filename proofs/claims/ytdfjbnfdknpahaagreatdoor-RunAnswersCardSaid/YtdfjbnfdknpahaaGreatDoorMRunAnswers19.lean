/- run's faces: the faces of the history, as words. -/
import Derived.Test.YtdfjbnfdknpahaaGreatDoorMRunAnswers18
import Derived.Test.YtdfjbnfdknpahaaGreatDoorMRunAnswers13
import Derived.Test.YtdfjbnfdknpahaaGreatDoorMRunAnswers5
import Derived.Test.YtdfjbnfdknpahaaGreatDoorProg
import Derived.Shelf.Strings.SplitCore
import Derived.Test.YtdfjbnfdknpahaaGreatDoorMRunAnswers2
import Derived.Lib.SplitLaws
import Derived.Lib.IndexBytes
import Derived.Test.YtdfjbnfdknpahaaGreatDoorMRunAnswers8
import Derived.Test.YtdfjbnfdknpahaaGreatDoorMRunAnswers4
namespace Go.Proofs.YtdfjbnfdknpahaaGreatDoor
set_option linter.unusedVariables false
set_option linter.unusedSimpArgs false
open Go.RowKit
def fifoW : List UInt8 := [102, 105, 102, 111]
def causalW : List UInt8 := [99, 97, 117, 115, 97, 108]
def totalW : List UInt8 := [116, 111, 116, 97, 108]
def fcWords (f c t : Bool) (k : Nat) : List (List UInt8) := (([(f, fifoW), (c, causalW), (t, totalW)].take k).filter (·.1)).map (·.2)
theorem fcWords_row (f c t : Bool) : rowW (fcWords f c t 3) = faB f c t := by cases f <;> cases c <;> cases t <;> rfl
theorem fcWords_len (f c t : Bool) (k : Nat) : (fcWords f c t k).length ≤ 3 := by
  unfold fcWords
  rw [List.length_map]
  refine Nat.le_trans (List.length_filter_le _ _) ?_
  rw [List.length_take]
  exact Nat.min_le_right _ _
abbrev FeO (b : Nat) (f c t : Bool) : HProp := blk b (.cells #[.bool f, .string ⟨#[102, 105, 102, 111]⟩, .bool c, .string ⟨#[99, 97, 117, 115, 97, 108]⟩, .bool t, .string ⟨#[116, 111, 116, 97, 108]⟩] 170 (0, 0))
theorem Own.fe {w0 w : World} {b : Nat} {f c t : Bool} {R : HProp} (h : Own w0 (FeO b f c t * R) w) :
    w.cell? ⟨b, 0, none⟩ = some (.bool f) ∧ w.cell? ⟨b, 1, none⟩ = some (.string ⟨#[102, 105, 102, 111]⟩) ∧ w.cell? ⟨b, 2, none⟩ = some (.bool c) ∧ w.cell? ⟨b, 3, none⟩ = some (.string ⟨#[99, 97, 117, 115, 97, 108]⟩) ∧ w.cell? ⟨b, 4, none⟩ = some (.bool t) ∧ w.cell? ⟨b, 5, none⟩ = some (.string ⟨#[116, 111, 116, 97, 108]⟩) :=
  ⟨(h.cell 0).trans rfl, (h.cell 1).trans rfl, (h.cell 2).trans rfl, (h.cell 3).trans rfl, (h.cell 4).trans rfl, (h.cell 5).trans rfl⟩
set_option maxRecDepth 100000 in
set_option maxHeartbeats 4000000 in
theorem pfaces_any {w0 w : World} {R : HProp} (p : Nat) (c : Cs) (hz : CZ c) (h : Own w0 (CsP p c * R) w) :
    Calls Tryz.prog 60 #[dkV p] w fun e w' => e = .returned (.tuple #[.string (tx (faB (facesF c.hist) (facesC c.hist) (facesT c.hist))), errV (facesErr c.hist)]) ∧ Own w0 (CsP p c * R) w' := by
  obtain ⟨F, hF⟩ : ∃ X, X = facesF c.hist := ⟨_, rfl⟩
  obtain ⟨C, hC⟩ : ∃ X, X = facesC c.hist := ⟨_, rfl⟩
  obtain ⟨T, hT⟩ : ∃ X, X = facesT c.hist := ⟨_, rfl⟩
  rw [← hF, ← hC, ← hT]
  have hE0 : errV (facesErr c.hist) = .nilIface := by rw [hz.right]; rfl
  rw [hE0]
  obtain ⟨S, hS⟩ : ∃ S, S = tx (faB F C T) := ⟨_, rfl⟩
  rw [← hS]
  have hrow : ∀ (v : Value) (w2 : World) (R' : HProp), Own w0 (StSl v (fcWords F C T 3) * R') w2 → Calls Tryz.prog 80 #[v] w2 fun e w' => e = .returned (.string S) ∧ Own w0 (StSl v (fcWords F C T 3) * R') w' := fun v w2 R' ho => by
    have h1 := prow_any v (fcWords F C T 3) (Nat.le_trans (fcWords_len ..) (by decide)) (by cases F <;> cases C <;> cases T <;> decide) ho
    rw [fcWords_row, ← hS] at h1
    exact h1
  obtain ⟨b1, hb_b1⟩ : ∃ zz_, zz_ = (w).heap.size := ⟨_, rfl⟩
  obtain ⟨w1, hw_w1⟩ : ∃ zz_, zz_ = (w).alloc (.cells #[.pointer (some ⟨p, 0, none⟩)] 38 (0, 0)) := ⟨_, rfl⟩
  have h_H1 := (h).alloc (.cells #[.pointer (some ⟨p, 0, none⟩)] 38 (0, 0))
  rw [← hb_b1, ← hw_w1] at h_H1
  have H1 := Lib.hid h_H1
  clear h_H1
  have c1 := Own.dk H1.out
  have ho1 : Own w0 (CsP p c * (DkO b1 p * R)) w1 := H1.out.perm (by ac_rfl)
  have H := Lib.hid h; have HO1 := Lib.hid ho1; have HZ := Lib.hid hz; have HF := Lib.hid hF; have HC := Lib.hid hC; have HT := Lib.hid hT; have HE0 := Lib.hid hE0; have HS := Lib.hid hS; have HROW := Lib.hid hrow
  clear h ho1 hz hF hC hT hE0 hS hrow
  go_enter Tryz.func60, Tryz.ntmps60
  go_upto_region 1 with fail
  rw [← hb_b1, ← hw_w1]
  clear hb_b1 hw_w1
  go_wp2_with fail
  refine (csHistory_any p c HZ.out.i HZ.out.h60 HO1.out).mono ?_
  rintro e w2 ⟨v2, rfl, ho⟩
  have hrd : ReadsE w0 (EvSl v2 c.hist * (CsP p c * (DkO b1 p * R))) v2 c.hist := EvSl_reads HZ.out.i.hist
  have HO2 := Lib.hid ho
  clear ho
  have HRD := Lib.hid hrd
  clear hrd
  go_wp2_with fail
  refine (facesOf_any v2 c.hist HO2.out HRD.out).mono ?_
  rintro e w3 ⟨rfl, ho⟩
  rw [HE0.out, ← HF.out, ← HC.out, ← HT.out]
  have ho3 : Own w0 (CsP p c * R) w3 := (ho.perm (show _ = DkO b1 p * (EvSl v2 c.hist * (CsP p c * R)) by ac_rfl)).drop.drop
  obtain ⟨b4, hb_b4⟩ : ∃ zz_, zz_ = (w3).heap.size := ⟨_, rfl⟩
  obtain ⟨w4, hw_w4⟩ : ∃ zz_, zz_ = (w3).alloc (.cells #[.bool F, .bool C, .bool T] 87 (0, 0)) := ⟨_, rfl⟩
  have h_H4 := (ho3).alloc (.cells #[.bool F, .bool C, .bool T] 87 (0, 0))
  rw [← hb_b4, ← hw_w4] at h_H4
  have H4 := Lib.hid h_H4
  clear h_H4
  have f0 : w4.cell? ⟨b4, 0, none⟩ = some (.bool F) := (H4.out.cell 0).trans rfl
  have f1 : w4.cell? ⟨b4, 1, none⟩ = some (.bool C) := (H4.out.cell 1).trans rfl
  have f2 : w4.cell? ⟨b4, 2, none⟩ = some (.bool T) := (H4.out.cell 2).trans rfl
  have ho4 : Own w0 (CsP p c * R) w4 := H4.out.drop
  obtain ⟨b5, hb_b5⟩ : ∃ zz_, zz_ = (w4).heap.size := ⟨_, rfl⟩
  obtain ⟨w5, hw_w5⟩ : ∃ zz_, zz_ = (w4).alloc (.cells #[.bool F, .string ⟨#[102, 105, 102, 111]⟩, .bool C, .string ⟨#[99, 97, 117, 115, 97, 108]⟩, .bool T, .string ⟨#[116, 111, 116, 97, 108]⟩] 170 (0, 0)) := ⟨_, rfl⟩
  have h_H5 := (ho4).alloc (.cells #[.bool F, .string ⟨#[102, 105, 102, 111]⟩, .bool C, .string ⟨#[99, 97, 117, 115, 97, 108]⟩, .bool T, .string ⟨#[116, 111, 116, 97, 108]⟩] 170 (0, 0))
  rw [← hb_b5, ← hw_w5] at h_H5
  have H5 := Lib.hid h_H5
  clear h_H5
  have HN0 : Hid (Own w0 (StSl (.slice none 0 0) (fcWords F C T 0) * (FeO b5 F C T * (CsP p c * R))) w5) := Lib.hid (H5.out.sl_nil _ _)
  have HO3 := Lib.hid ho3; have HO4 := Lib.hid ho4
  clear ho3 ho4
  clear ho
  go_upto_region 2 with fail
  rw [← hb_b4, ← hw_w4]
  clear hb_b4 hw_w4
  go_upto_block 0 with fail
  rw [← hb_b5, ← hw_w5]
  clear hb_b5 hw_w5
  go_wp2_with fail
  go_loopw [6, 27] (fun sv iv wr => ∃ k : Nat, k ≤ 3 ∧ iv = .int .i64 k ∧ Hid (Own w0 (StSl sv (fcWords F C T k) * (FeO b5 F C T * (CsP p c * R))) wr)) (fun _ iv _ => 3 - (intOf iv).toNat)
  case atStart => exact ⟨0, Nat.zero_le _, rfl, HN0⟩
  case round =>
    clear HN0
    obtain ⟨k, hk, rfl, HO⟩ := hrel
    obtain ⟨g0, g1, g2, g3, g4, g5⟩ := Own.fe (HO.out.perm (show _ = FeO b5 F C T * (StSl _ (fcWords F C T k) * (CsP p c * R)) by ac_rfl))
    rcases (show k = 0 ∨ k = 1 ∨ k = 2 ∨ k = 3 by omega) with rfl | rfl | rfl | rfl
    · have hO := HO.out
      obtain ⟨b6, hb_b6⟩ : ∃ zz_, zz_ = (wr).heap.size := ⟨_, rfl⟩
      obtain ⟨w6, hw_w6⟩ : ∃ zz_, zz_ = (wr).alloc (.cells #[.bool F, .string ⟨#[102, 105, 102, 111]⟩] 170 (0, 0)) := ⟨_, rfl⟩
      have h_H6 := (hO).alloc (.cells #[.bool F, .string ⟨#[102, 105, 102, 111]⟩] 170 (0, 0))
      rw [← hb_b6, ← hw_w6] at h_H6
      have H6 := Lib.hid h_H6
      clear h_H6
      have d0 : w6.cell? ⟨b6, 0, none⟩ = some (.bool F) := (H6.out.cell 0).trans rfl
      have d1 : w6.cell? ⟨b6, 1, none⟩ = some (.string ⟨#[102, 105, 102, 111]⟩) := (H6.out.cell 1).trans rfl
      have HO6 := Lib.hid H6.out.drop
      clear hO
      have hs0 : F = false → fcWords F C T 1 = fcWords F C T 0 := fun h => by subst h; first | rfl | (cases F <;> rfl) | (cases F <;> cases C <;> rfl)
      have hs1 : F = true → fcWords F C T 1 = fcWords F C T 0 ++ [fifoW] := fun h => by subst h; first | rfl | (cases F <;> rfl) | (cases F <;> cases C <;> rfl)
      have hll := fcWords_len F C T 0
      obtain ⟨pre, hpre⟩ : ∃ pre, pre = fcWords F C T 0 := ⟨_, rfl⟩
      rw [← hpre] at hs0 hs1 hll HO6
      have HS0 := Lib.hid hs0; have HS1 := Lib.hid hs1; have HPRE := Lib.hid hpre
      clear hs0 hs1 hpre
      go_upto_region 6 with fail
      rw [← hb_b6, ← hw_w6]
      clear hb_b6 hw_w6
      obtain ⟨B, hB⟩ : ∃ B, B = F := ⟨_, rfl⟩
      rw [← hB] at d0
      cases B
      · have HB := Lib.hid hB
        clear hB
        go_wp2_with fail
        go_roundw
        case rel => exact ⟨1, by omega, by go_num, by rw [HS0.out HB.out.symm]; exact HO6⟩
        case measure => simp [intOf]
      · have HB := Lib.hid hB
        clear hB
        go_wp2_with (at_builtin; refine wpList_app rfl _ _ 23 rfl 9 1 16 _ info_str Tryz.underlying23 rfl (by decide) rfl (HO6.out.alloc' _) rfl (by rfl) (Rd_lit (by simp) (by unfold maxLen; omega)) (by intro u hu; simp at hu; subst hu; rfl) (by unfold maxLen; omega) (by omega) ?_; intro v' w7 hown; have HO7 : Hid (Own w0 (StSl v' (pre ++ [fifoW]) * (FeO b5 F C T * (CsP p c * R))) w7) := Lib.hid (hown.perm (show _ = StSl v' (pre ++ [fifoW]) * (FeO b5 F C T * (CsP p c * R)) by unfold StSl; simp; rfl)); clear hown)
        go_roundw
        case rel => exact ⟨1, by omega, by go_num, by rw [HS1.out HB.out.symm]; exact HO7⟩
        case measure => simp [intOf]
    · have hO := HO.out
      obtain ⟨b6, hb_b6⟩ : ∃ zz_, zz_ = (wr).heap.size := ⟨_, rfl⟩
      obtain ⟨w6, hw_w6⟩ : ∃ zz_, zz_ = (wr).alloc (.cells #[.bool C, .string ⟨#[99, 97, 117, 115, 97, 108]⟩] 170 (0, 0)) := ⟨_, rfl⟩
      have h_H6 := (hO).alloc (.cells #[.bool C, .string ⟨#[99, 97, 117, 115, 97, 108]⟩] 170 (0, 0))
      rw [← hb_b6, ← hw_w6] at h_H6
      have H6 := Lib.hid h_H6
      clear h_H6
      have d0 : w6.cell? ⟨b6, 0, none⟩ = some (.bool C) := (H6.out.cell 0).trans rfl
      have d1 : w6.cell? ⟨b6, 1, none⟩ = some (.string ⟨#[99, 97, 117, 115, 97, 108]⟩) := (H6.out.cell 1).trans rfl
      have HO6 := Lib.hid H6.out.drop
      clear hO
      have hs0 : C = false → fcWords F C T 2 = fcWords F C T 1 := fun h => by subst h; first | rfl | (cases F <;> rfl) | (cases F <;> cases C <;> rfl)
      have hs1 : C = true → fcWords F C T 2 = fcWords F C T 1 ++ [causalW] := fun h => by subst h; first | rfl | (cases F <;> rfl) | (cases F <;> cases C <;> rfl)
      have hll := fcWords_len F C T 1
      obtain ⟨pre, hpre⟩ : ∃ pre, pre = fcWords F C T 1 := ⟨_, rfl⟩
      rw [← hpre] at hs0 hs1 hll HO6
      have HS0 := Lib.hid hs0; have HS1 := Lib.hid hs1; have HPRE := Lib.hid hpre
      clear hs0 hs1 hpre
      go_upto_region 6 with fail
      rw [← hb_b6, ← hw_w6]
      clear hb_b6 hw_w6
      obtain ⟨B, hB⟩ : ∃ B, B = C := ⟨_, rfl⟩
      rw [← hB] at d0
      cases B
      · have HB := Lib.hid hB
        clear hB
        go_wp2_with fail
        go_roundw
        case rel => exact ⟨2, by omega, by go_num, by rw [HS0.out HB.out.symm]; exact HO6⟩
        case measure => simp [intOf]
      · have HB := Lib.hid hB
        clear hB
        go_wp2_with (at_builtin; refine wpList_app rfl _ _ 23 rfl 9 1 16 _ info_str Tryz.underlying23 rfl (by decide) rfl (HO6.out.alloc' _) rfl (by rfl) (Rd_lit (by simp) (by unfold maxLen; omega)) (by intro u hu; simp at hu; subst hu; rfl) (by unfold maxLen; omega) (by omega) ?_; intro v' w7 hown; have HO7 : Hid (Own w0 (StSl v' (pre ++ [causalW]) * (FeO b5 F C T * (CsP p c * R))) w7) := Lib.hid (hown.perm (show _ = StSl v' (pre ++ [causalW]) * (FeO b5 F C T * (CsP p c * R)) by unfold StSl; simp; rfl)); clear hown)
        go_roundw
        case rel => exact ⟨2, by omega, by go_num, by rw [HS1.out HB.out.symm]; exact HO7⟩
        case measure => simp [intOf]
    · have hO := HO.out
      obtain ⟨b6, hb_b6⟩ : ∃ zz_, zz_ = (wr).heap.size := ⟨_, rfl⟩
      obtain ⟨w6, hw_w6⟩ : ∃ zz_, zz_ = (wr).alloc (.cells #[.bool T, .string ⟨#[116, 111, 116, 97, 108]⟩] 170 (0, 0)) := ⟨_, rfl⟩
      have h_H6 := (hO).alloc (.cells #[.bool T, .string ⟨#[116, 111, 116, 97, 108]⟩] 170 (0, 0))
      rw [← hb_b6, ← hw_w6] at h_H6
      have H6 := Lib.hid h_H6
      clear h_H6
      have d0 : w6.cell? ⟨b6, 0, none⟩ = some (.bool T) := (H6.out.cell 0).trans rfl
      have d1 : w6.cell? ⟨b6, 1, none⟩ = some (.string ⟨#[116, 111, 116, 97, 108]⟩) := (H6.out.cell 1).trans rfl
      have HO6 := Lib.hid H6.out.drop
      clear hO
      have hs0 : T = false → fcWords F C T 3 = fcWords F C T 2 := fun h => by subst h; first | rfl | (cases F <;> rfl) | (cases F <;> cases C <;> rfl)
      have hs1 : T = true → fcWords F C T 3 = fcWords F C T 2 ++ [totalW] := fun h => by subst h; first | rfl | (cases F <;> rfl) | (cases F <;> cases C <;> rfl)
      have hll := fcWords_len F C T 2
      obtain ⟨pre, hpre⟩ : ∃ pre, pre = fcWords F C T 2 := ⟨_, rfl⟩
      rw [← hpre] at hs0 hs1 hll HO6
      have HS0 := Lib.hid hs0; have HS1 := Lib.hid hs1; have HPRE := Lib.hid hpre
      clear hs0 hs1 hpre
      go_upto_region 6 with fail
      rw [← hb_b6, ← hw_w6]
      clear hb_b6 hw_w6
      obtain ⟨B, hB⟩ : ∃ B, B = T := ⟨_, rfl⟩
      rw [← hB] at d0
      cases B
      · have HB := Lib.hid hB
        clear hB
        go_wp2_with fail
        go_roundw
        case rel => exact ⟨3, by omega, by go_num, by rw [HS0.out HB.out.symm]; exact HO6⟩
        case measure => simp [intOf]
      · have HB := Lib.hid hB
        clear hB
        go_wp2_with (at_builtin; refine wpList_app rfl _ _ 23 rfl 9 1 16 _ info_str Tryz.underlying23 rfl (by decide) rfl (HO6.out.alloc' _) rfl (by rfl) (Rd_lit (by simp) (by unfold maxLen; omega)) (by intro u hu; simp at hu; subst hu; rfl) (by unfold maxLen; omega) (by omega) ?_; intro v' w7 hown; have HO7 : Hid (Own w0 (StSl v' (pre ++ [totalW]) * (FeO b5 F C T * (CsP p c * R))) w7) := Lib.hid (hown.perm (show _ = StSl v' (pre ++ [totalW]) * (FeO b5 F C T * (CsP p c * R)) by unfold StSl; simp; rfl)); clear hown)
        go_roundw
        case rel => exact ⟨3, by omega, by go_num, by rw [HS1.out HB.out.symm]; exact HO7⟩
        case measure => simp [intOf]
    · have hrr := HROW.out _ _ _ HO.out
      have HRR := Lib.hid hrr
      clear hrr
      go_wp2_with fail
      refine HRR.out.mono ?_
      rintro e w8 ⟨rfl, ho⟩
      have HO8 := Lib.hid ho
      clear ho
      go_wp2_with fail
      go_ret2
      exact ⟨rfl, HO8.out.drop.drop⟩
end Go.Proofs.YtdfjbnfdknpahaaGreatDoor
/- run's wants: how many numbers a word wants, a map by words. -/
namespace Go.Proofs.YtdfjbnfdknpahaaGreatDoor
set_option linter.unusedVariables false
set_option linter.unusedSimpArgs false
open Go.RowKit Go.Maps
def stK (l : List UInt8) : Value := .string (tx l)
theorem tx_inj {a b : List UInt8} (h : tx a = tx b) : a = b := by
  have := congrArg (fun x : ByteArray => x.data.toList) h
  simpa [tx_list] using this
def stOk (l : List UInt8) : Prop := l.length ≤ 90000
theorem st_ke {P : Program} {k : TypeId} (hk : P.underlying k = some .string) : KE P k stK stOk :=
  ⟨string_keyed hk, fun x hx => ⟨.string (tx x).data.toList, by unfold stK; rw [keyOf_string hk]; simp [mapKey, hk]; rw [tx_size]; unfold stOk at hx; unfold maxLen; omega⟩, fun _ _ h => by injection h with h; exact tx_inj h⟩
def wantsM : List (List UInt8 × Value) := [(sayW, .int .i64 2), (giveW, .int .i64 1), (dropW, .int .i64 1), (twiceW, .int .i64 1), (wayW, .int .i64 0), (heardW, .int .i64 1), (facesW, .int .i64 0), (clockW, .int .i64 1)]
theorem wantsM_get (w : List UInt8) : mget wantsM w = (wantsB w).map fun n : Nat => Value.int .i64 n := by
  unfold wantsM wantsB
  simp only [mget, eq_comm (b := w)]
  repeat' split
  all_goals first | rfl | contradiction
theorem mapsi_kind : Tryz.prog.underlying 128 = some (.map 9 3) := by kernel_rfl
theorem mapsi_made : ∀ w, (Instr.makeMap 128 none).run Tryz.prog w = .ok (.map (some w.heap.size)) (w.alloc (.map #[] 0)) := fun _ => by kernel_rfl
theorem int_zero' : ∀ w, (zeroValue 3).run Tryz.prog w = .ok (.int .i64 0) w := fun _ => by kernel_rfl
section
variable {K : Type} [DecidableEq K] {P : Program} {k : TypeId} {enc : K → Value} {ok : K → Prop}
theorem wpList_ins (E : KE P k enc ok) {t e : TypeId} (ht : P.underlying t = some (.map k e)) {ops : Array Oper} {rest : List Oper} {o : Oper} {a : Act} {Q : Exit → Act → World → Prop}
    {w0 w : World} {b : Nat} {m : List (K × Value)} {R : HProp} (hown : Own w0 (Mp enc ok b m * R) w) {x : K} (hx : ok x)
    (hg : o.guard = none) (mo xo vo : Operand) (hop : o.op = Op.insert t mo xo vo) (hm : a.eval mo = .map (some b)) (hxo : a.eval xo = enc x) {v : Value} (hv : a.eval vo = v)
    (hK : ∀ w', Own w0 (Mp enc ok b (mput m x v) * R) w' → wpList P ops Q rest (a.put o.dst undef) w') : wpList P ops Q (o :: rest) a w := by
  refine wpList_plain hg fun K' hK' => ?_
  obtain ⟨w', hrun, ho⟩ := hown.map_put E ht hx v
  unfold Oper.wp
  simp [execOp, hop, hm, hxo, hv, hrun, Result.andThen]
  exact hK' _ _ (hK w' ho)
end
theorem wantsM_made : mput (mput (mput (mput (mput (mput (mput (mput ([] : List (List UInt8 × Value)) sayW (.int .i64 2)) giveW (.int .i64 1)) dropW (.int .i64 1)) twiceW (.int .i64 1)) wayW (.int .i64 0)) heardW (.int .i64 1)) facesW (.int .i64 0)) clockW (.int .i64 1) = wantsM := by rfl
set_option maxRecDepth 100000 in
set_option maxHeartbeats 4000000 in
theorem wants_any {w0 w : World} {R : HProp} (h : Own w0 R w) :
    Calls Tryz.prog 50 #[] w fun e w' => ∃ b, e = .returned (.map (some b)) ∧ Own w0 (Mp stK stOk b wantsM * R) w' := by
  have hmade := mapsi_made
  have h1 : Own w0 (Mp stK stOk w.heap.size [] * R) (w.alloc (.map #[] 0)) := Own.map_new h
  obtain ⟨b, hb⟩ : ∃ b, w.heap.size = b := ⟨_, rfl⟩
  rw [hb] at h1
  have HO := Lib.hid h1
  clear h1
  have H := Lib.hid h
  clear h
  go_enter Tryz.func50, Tryz.ntmps50
  go_upto_region 1 with fail
  go_wp2_with (refine wpList_ins (st_ke Tryz.underlying9) mapsi_kind HO.out (by unfold stOk; decide) rfl _ _ _ rfl (by rw [← hb]; rfl) rfl rfl ?_; intro w1 ho1; have HO := Lib.hid ho1; clear ho1)
  go_ret
  exact ⟨b, rfl, by rw [← wantsM_made]; exact HO.out⟩
end Go.Proofs.YtdfjbnfdknpahaaGreatDoor
/- strings.Split, strings.Join, strconv.Itoa: that the loaded program bears the texts that the library's contracts speak of. -/
namespace Go.Proofs.YtdfjbnfdknpahaaGreatDoor
set_option linter.unusedVariables false
set_option linter.unusedSimpArgs false
open Go.RowKit Go.Proofs
def splRen : Go.Shelf.Ren := ⟨fun | 138 => 93 | 143 => 94 | 195 => 112 | 197 => 113 | 217 => 47 | 218 => 114 | 219 => 115 | 221 => 71 | 224 => 134 | 225 => 133 | 260 => 132 | 266 => 70 | 267 => 135 | 268 => 92 | 314 => 154 | n => n, fun | 0 => 0 | 3 => 3 | 4 => 4 | 5 => 5 | 9 => 9 | 21 => 21 | 31 => 23 | 46 => 220 | 51 => 242 | 105 => 207 | 119 => 238 | 138 => 240 | 139 => 241 | 146 => 243 | n => n, fun | 1 => 2 | 3 => 3 | 4 => 4 | n => n⟩
theorem splL : Lays.n221 Tryz.prog splRen where
  mixed := by kernel_rfl
  f138 := Tryz.func93.trans (congrArg some (by kernel_rfl))
  f143 := Tryz.func94.trans (congrArg some (by kernel_rfl))
  f195 := Tryz.func112.trans (congrArg some (by kernel_rfl))
  f197 := Tryz.func113.trans (congrArg some (by kernel_rfl))
  f217 := Tryz.func47.trans (congrArg some (by kernel_rfl))
  f218 := Tryz.func114.trans (congrArg some (by kernel_rfl))
  f219 := Tryz.func115.trans (congrArg some (by kernel_rfl))
  f221 := Tryz.func71.trans (congrArg some (by kernel_rfl))
  f224 := Tryz.func134.trans (congrArg some (by kernel_rfl))
  f225 := Tryz.func133.trans (congrArg some (by kernel_rfl))
  f260 := Tryz.func132.trans (congrArg some (by kernel_rfl))
  f266 := Tryz.func70.trans (congrArg some (by kernel_rfl))
  f267 := Tryz.func135.trans (congrArg some (by kernel_rfl))
  f268 := Tryz.func92.trans (congrArg some (by kernel_rfl))
  f314 := Tryz.func154.trans (congrArg some (by kernel_rfl))
  t0 := Tryz.underlying0
  a0 := Tryz.isAgg0
  z0 := Tryz.sizeOf0
  v0 := Tryz.zeroValue0
  t3 := Tryz.underlying3
  a3 := Tryz.isAgg3
  z3 := Tryz.sizeOf3
  v3 := Tryz.zeroValue3
  t4 := Tryz.underlying4
  a4 := Tryz.isAgg4
  z4 := Tryz.sizeOf4
  v4 := Tryz.zeroValue4
  t5 := Tryz.underlying5
  a5 := Tryz.isAgg5
  z5 := Tryz.sizeOf5
  v5 := Tryz.zeroValue5
  t9 := Tryz.underlying9
  a9 := Tryz.isAgg9
  z9 := Tryz.sizeOf9
  v9 := Tryz.zeroValue9
  t21 := Tryz.underlying21
  a21 := Tryz.isAgg21
  z21 := Tryz.sizeOf21
  v21 := Tryz.zeroValue21
  t31 := Tryz.underlying23
  a31 := Tryz.isAgg23
  z31 := Tryz.sizeOf23
  v31 := Tryz.zeroValue23
  t46 := Tryz.underlying220
  a46 := Tryz.isAgg220
  z46 := Tryz.sizeOf220
  v46 := Tryz.zeroValue220
  t51 := Tryz.underlying242
  a51 := Tryz.isAgg242
  z51 := Tryz.sizeOf242
  v51 := Tryz.zeroValue242
  t105 := Tryz.underlying207
  a105 := Tryz.isAgg207
  z105 := Tryz.sizeOf207
  v105 := Tryz.zeroValue207
  t119 := Tryz.underlying238
  a119 := Tryz.isAgg238
  z119 := Tryz.sizeOf238
  t138 := Tryz.underlying240
  a138 := Tryz.isAgg240
  z138 := Tryz.sizeOf240
  v138 := Tryz.zeroValue240
  t139 := Tryz.underlying241
  a139 := Tryz.isAgg241
  z139 := Tryz.sizeOf241
  v139 := Tryz.zeroValue241
  t146 := Tryz.underlying243
  a146 := Tryz.isAgg243
  z146 := Tryz.sizeOf243
  v146 := Tryz.zeroValue243
  g1 := by kernel_rfl
  g3 := by kernel_rfl
  g4 := by kernel_rfl
end Go.Proofs.YtdfjbnfdknpahaaGreatDoor
/- strings.IndexByte. -/
namespace Go.Proofs.YtdfjbnfdknpahaaGreatDoor
set_option linter.unusedVariables false
set_option linter.unusedSimpArgs false
open Go.RowKit
set_option maxRecDepth 100000 in
set_option maxHeartbeats 4000000 in
theorem ixbL_any {w : World} (s : ByteArray) (c : UInt8) :
    Calls Tryz.prog 47 #[.string s, .int .u8 ((c.toNat : Nat) : Int)] w fun e w' => e = .returned (.int .i64 (Lib.indexByte s.data.toList c)) ∧ w = w' := by
  have hc : (((c.toNat : Nat) : Int)).toNat.toUInt8 = c := by simp
  go_enter Tryz.func47, Tryz.ntmps47
  go_wp2
  rw [run_callFunc_extern Tryz.func70 (by kernel_rfl) (by kernel_rfl) (by kernel_rfl) (e := Extern.BytealgIndexByte.indexByte) (by kernel_rfl), Lib.run_indexByteString]
  simp only [Result.andThen]
  rw [Oper.upon_value, hc]
  go_wp2
  go_ret
  exact ⟨rfl, rfl⟩
set_option maxRecDepth 100000 in
set_option maxHeartbeats 4000000 in
theorem ixb_any {w : World} (s : ByteArray) (c : UInt8) :
    Calls Tryz.prog 35 #[.string s, .int .u8 ((c.toNat : Nat) : Int)] w fun e w' => e = .returned (.int .i64 (Lib.indexByte s.data.toList c)) ∧ w = w' := by
  go_enter Tryz.func35, Tryz.ntmps35
  go_wp2_with fail
  refine (ixbL_any s c).mono ?_
  rintro e w2 ⟨rfl, rfl⟩
  go_wp2_with fail
  go_ret
  exact ⟨rfl, rfl⟩
set_option maxRecDepth 100000 in
set_option maxHeartbeats 4000000 in
theorem cnt32_any {w : World} (s : ByteArray) :
    Calls Tryz.prog 93 #[.string s, .string ⟨#[32]⟩] w fun e w' => e = .returned (.int .i64 ((s.data.toList.count 32 : Nat) : Int)) ∧ w = w' := by
  go_enter Tryz.func93, Tryz.ntmps93
  go_wp2
  rw [run_callFunc_extern Tryz.func114 (by kernel_rfl) (by kernel_rfl) (by kernel_rfl) (e := Extern.BytealgCount.count) (by kernel_rfl), Lib.run_countString]
  simp only [Result.andThen]
  rw [Oper.upon_value]
  go_wp2
  go_ret
  exact ⟨rfl, rfl⟩
set_option maxRecDepth 100000 in
set_option maxHeartbeats 4000000 in
theorem ixL32_any {w : World} (s : ByteArray) :
    Calls Tryz.prog 115 #[.string s, .string ⟨#[32]⟩] w fun e w' => e = .returned (.int .i64 (Lib.indexByte s.data.toList 32)) ∧ w = w' := by
  have hix : Calls Tryz.prog 47 #[.string s, .int .u8 32] w fun e w' => e = .returned (.int .i64 (Lib.indexByte s.data.toList 32)) ∧ w = w' := ixbL_any s 32
  have HIX := Lib.hid hix
  clear hix
  obtain ⟨Z, hZ⟩ : ∃ Z, (([32] : List UInt8) == s.toList) = Z := ⟨_, rfl⟩
  cases Z
  · go_enter Tryz.func115, Tryz.ntmps115
    go_wp2_with fail
    refine HIX.out.mono ?_
    rintro e w2 ⟨rfl, rfl⟩
    go_wp2_with fail
    go_ret
    exact ⟨rfl, rfl⟩
  · have hs : s.data.toList = [32] := by
      have h1 : ([32] : List UInt8) = s.toList := by simpa using hZ
      rw [ByteArray.toList_eq] at h1
      exact h1.symm
    have hi : Lib.indexByte s.data.toList 32 = 0 := by rw [hs]; rfl
    rw [hi]
    have HS := Lib.hid hs; have HI := Lib.hid hi
    clear hs hi
    go_enter Tryz.func115, Tryz.ntmps115
    go_wp2_with fail
    go_ret
    exact ⟨rfl, rfl⟩
set_option maxRecDepth 100000 in
set_option maxHeartbeats 4000000 in
theorem ix32_any {w : World} (s : ByteArray) :
    Calls Tryz.prog 94 #[.string s, .string ⟨#[32]⟩] w fun e w' => e = .returned (.int .i64 (Lib.indexByte s.data.toList 32)) ∧ w = w' := by
  go_enter Tryz.func94, Tryz.ntmps94
  go_wp2_with fail
  refine (ixL32_any s).mono ?_
  rintro e w2 ⟨rfl, rfl⟩
  go_wp2_with fail
  go_ret
  exact ⟨rfl, rfl⟩
end Go.Proofs.YtdfjbnfdknpahaaGreatDoor
/- strings.Split at a byte, plainly. -/
namespace Go.Proofs.YtdfjbnfdknpahaaGreatDoor
set_option linter.unusedVariables false
set_option linter.unusedSimpArgs false
open Go.RowKit
theorem cutS_ne (c : UInt8) : ∀ s : List UInt8, cutS c s ≠ []
  | [] => by simp [cutS]
  | b :: r => by
    unfold cutS
    split
    · simp
    · split <;> simp
theorem cutS_len (c : UInt8) : ∀ s : List UInt8, (cutS c s).length = s.count c + 1
  | [] => rfl
  | b :: r => by
    have ih := cutS_len c r
    unfold cutS
    by_cases h : b = c
    · rw [if_pos h, List.length_cons, ih, h, List.count_cons_self]
    · rw [if_neg h, List.count_cons_of_ne h]
      have hne := cutS_ne c r
      split
      · rename_i h2; exact absurd h2 hne
      · rename_i x y h2
        rw [h2] at ih
        simpa using ih
theorem ixb_cases (c : UInt8) : ∀ s : List UInt8, (Lib.indexByte s c = -1 ∧ c ∉ s) ∨ ∃ m : Nat, Lib.indexByte s c = (m : Int) ∧ m < s.length ∧ c ∉ s.take m ∧ s[m]? = some c
  | [] => .inl ⟨rfl, by simp⟩
  | b :: r => by
    unfold Lib.indexByte
    by_cases h : b = c
    · right
      refine ⟨0, ?_, by simp, by simp, by simp [h]⟩
      rw [if_pos (by simp [h])]; rfl
    · rw [if_neg (by simpa using h)]
      rcases ixb_cases c r with ⟨h1, h2⟩ | ⟨m, h1, h2, h3, h4⟩
      · left
        rw [h1]
        refine ⟨by simp, ?_⟩
        intro hc
        rcases List.mem_cons.1 hc with h5 | h5
        · exact h h5.symm
        · exact h2 h5
      · right
        refine ⟨m + 1, ?_, by simpa using h2, ?_, by simpa using h4⟩
        · rw [h1, if_neg (by first | (simp; done) | (simp; omega))]
          omega
        · rw [List.take_succ_cons]
          intro hc
          rcases List.mem_cons.1 hc with h5 | h5
          · exact h h5.symm
          · exact h3 h5
/-- One piece cut off. -/
theorem cutS_ix {c : UInt8} {s : List UInt8} {m : Nat} (h : m < s.length) (hn : c ∉ s.take m) (hc : s[m]? = some c) : cutS c s = s.take m :: cutS c (s.drop (m + 1)) ∧ s.count c = (s.drop (m + 1)).count c + 1 := by
  have hg : s[m] = c := by
    rw [List.getElem?_eq_getElem h] at hc
    injection hc
  have hs : s = s.take m ++ c :: s.drop (m + 1) := by
    conv => lhs; rw [← List.take_append_drop m s]
    rw [List.drop_eq_getElem_cons h, hg]
  refine ⟨(congrArg (cutS c) hs).trans (cutS_seg _ _ hn), ?_⟩
  have h1 := congrArg (List.count c) hs
  rw [List.count_append, List.count_cons_self, List.count_eq_zero.2 hn] at h1
  omega
end Go.Proofs.YtdfjbnfdknpahaaGreatDoor
/- strings.Split at a blank, over the library's contract of genSplit. -/
namespace Go.Proofs.YtdfjbnfdknpahaaGreatDoor
set_option linter.unusedVariables false
set_option linter.unusedSimpArgs false
open Go.RowKit
theorem indexB_tx (s : List UInt8) : Lib.indexB (tx s) ⟨#[32]⟩ = Lib.indexByte s 32 := by
  show Lib.index (tx s).data.toList [32] = _
  rw [tx_list, Lib.index_one]
theorem countB_tx (s : List UInt8) : Lib.countB (tx s) ⟨#[32]⟩ = s.count 32 := by
  show Lib.count (tx s).data.toList [32] = _
  rw [tx_list, Lib.count_one]
theorem splitB_cut : ∀ (k : Nat) (s : List UInt8), s.count 32 = k → Lib.splitB ⟨#[32]⟩ 0 k (tx s) = (cutS 32 s).map tx
  | 0, s, h => by
    rw [Lib.splitB_zero, cutS_last s (List.count_eq_zero.1 h)]; rfl
  | k + 1, s, h => by
    rcases ixb_cases 32 s with ⟨_, h2⟩ | ⟨m, h1, h2, h3, h4⟩
    · rw [List.count_eq_zero.2 h2] at h; cases h
    · obtain ⟨e1, e2⟩ := cutS_ix h2 h3 h4
      rw [Lib.splitB_hit _ _ _ _ m (by rw [indexB_tx]; exact h1), e1, List.map_cons, tx_extract, tx_extract]
      have e3 : (⟨#[32]⟩ : ByteArray).size = 1 := rfl
      rw [e3, tx_size, ← splitB_cut k (s.drop (m + 1)) (by omega)]
      rw [show (s.drop (m + 1)).take (s.length - (m + 1)) = s.drop (m + 1) from List.take_of_length_le (by rw [List.length_drop]; omega)]
      simp
theorem Own.strs_new {w0 w : World} {R : HProp} (ls : List (List UInt8)) (hl : ls.length ≤ maxLen) (h : Own w0 R w) :
    Own w0 (StSl (.slice (some ⟨w.heap.size, 0, none⟩) ls.length ls.length) ls * R) (w.alloc (.cells ((ls.map fun l => Value.string (tx l)).toArray) 9)) := by
  refine Own.sl_mk (Nat.le_refl _) hl (by simp) (by simp) (fun i _ => by simp) (h.alloc _)
set_option maxRecDepth 100000 in
set_option maxHeartbeats 4000000 in
theorem gsplit_any {w0 w : World} {R : HProp} (s : List UInt8) (hs : s.length ≤ 90000) (h : Own w0 R w) :
    Calls Tryz.prog 71 #[.string (tx s), .string ⟨#[32]⟩, .int .i64 0, .int .i64 (-1)] w fun e w' => ∃ v', e = .returned v' ∧ Own w0 (StSl v' (cutS 32 s) * R) w' := by
  have hsz := tx_size s
  have hcl := cutS_len 32 s
  have hcn := List.count_le_length (a := (32 : UInt8)) (l := s)
  have c := Any.strings_genSplit_core splL (by kernel_rfl) (tx s) ⟨#[32]⟩ 0 (-1) (s.count 32 + 1) w (by omega) (by decide) (by decide)
    (fun x cs hx => ((ix32_any (w := w.alloc (.cells cs 9)) x).mono (by
      rintro e w' ⟨rfl, rfl⟩
      refine ⟨?_, rfl⟩
      congr 2
      show _ = Lib.index x.data.toList [32]
      rw [Lib.index_one])))
    ((cnt32_any (w := w) (tx s)).mono (by
      rintro e w' ⟨rfl, rfl⟩
      refine ⟨?_, rfl⟩
      rw [countB_tx, tx_list]))
    (by decide) (by decide) (by rw [countB_tx, if_pos (by decide)]; omega)
  rw [Nat.add_sub_cancel, splitB_cut _ s rfl] at c
  refine Calls.mono c ?_
  rintro e w' ⟨rfl, rfl⟩
  have h2 := Own.strs_new (cutS 32 s) (by unfold maxLen; omega) h
  have e1 : Lib.cellsOf ((cutS 32 s).map tx) (s.count 32 + 1) = ((cutS 32 s).map fun l => Value.string (tx l)).toArray := by
    unfold Lib.cellsOf
    rw [List.length_map, hcl, Nat.sub_self]
    simp [Function.comp_def]
  refine ⟨_, rfl, ?_⟩
  rw [e1, List.length_map]
  rw [← hcl] at *
  exact h2
set_option maxRecDepth 100000 in
set_option maxHeartbeats 4000000 in
theorem split_any {w0 w : World} {R : HProp} (s : List UInt8) (hs : s.length ≤ 90000) (h : Own w0 R w) :
    Calls Tryz.prog 49 #[.string (tx s), .string ⟨#[32]⟩] w fun e w' => ∃ v', e = .returned v' ∧ Own w0 (StSl v' (cutS 32 s) * R) w' := by
  obtain ⟨S, hS⟩ : ∃ S, S = tx s := ⟨_, rfl⟩
  have hc := gsplit_any s hs h
  rw [← hS] at hc ⊢
  obtain ⟨P, hP⟩ : ∃ P, P = (fun (e : Ending) (w' : World) => ∃ v', e = .returned v' ∧ Own w0 (StSl v' (cutS 32 s) * R) w') := ⟨_, rfl⟩
  rw [← hP] at hc
  have H := Lib.hid h; have HP := Lib.hid hP; have HS := Lib.hid hS; have HC := Lib.hid hc
  clear h hP hS hc
  go_enter Tryz.func49, Tryz.ntmps49
  go_wp2_with fail
  refine HC.out.mono ?_
  intro e w2 hp
  rw [HP.out] at hp
  obtain ⟨v', rfl, hO⟩ := hp
  go_wp2_with fail
  go_ret
  exact ⟨_, rfl, hO⟩
end Go.Proofs.YtdfjbnfdknpahaaGreatDoor
/- Contracts of package cast, continued: Say. -/
namespace Go.Proofs.YtdfjbnfdknpahaaGreatDoor
set_option linter.unusedVariables false
set_option linter.unusedSimpArgs false
open Go.RowKit Go.Maps
theorem csPk_succ (n : Nat) (who word : Int) : csPk (n + 1) who word = csPk n who word ++ (if (n : Int) ≠ who then [(who, (n : Int), word)] else []) := by
  unfold csPk
  rw [List.range_succ, List.filter_append, List.map_append]
  congr 1
  by_cases h : (n : Int) ≠ who
  · rw [if_pos h]; simp [h]
  · rw [if_neg h]; simp at h; simp [h]
theorem csPk_le (n : Nat) (who word : Int) : ∀ k, k ≤ n → (csPk k who word).length ≤ (csPk n who word).length := by
  induction n with
  | zero => intro k hk; rw [show k = 0 by omega]; exact Nat.le_refl _
  | succ n ih =>
    intro k hk
    by_cases h : k = n + 1
    · rw [h]; exact Nat.le_refl _
    · refine Nat.le_trans (ih k (by omega)) ?_
      rw [csPk_succ, List.length_append]
      exact Nat.le_add_right _ _
/-- The net while packets of a word are sent. -/
def csNet (c : Cs) (k : Nat) (who word : Int) : Nt := ⟨c.net.all ++ csPk k who word, c.net.cut⟩
theorem csNet_I {c : Cs} (hI : CsI c) {who word : Int} (he : csSayErr c who word = 0) {k : Nat} (hk : k ≤ c.mem.length) : NtI (csNet c k who word) := by
  have h1 := (hI.say who word).net
  unfold csSay at h1
  rw [if_pos he] at h1
  obtain ⟨b1, _, b3, b4, _⟩ := csSayErr0 he
  have hle := csPk_le c.mem.length who word k hk
  refine ⟨?_, fun p hp => ?_, hI.net.nd, hI.net.mem⟩
  · have := h1.len
    simp only [csNet, List.length_append] at this ⊢
    omega
  · rcases List.mem_append.1 hp with hp | hp
    · exact hI.net.ok p hp
    · obtain ⟨d1, d2, d3, d4, d5⟩ := csPk_mem hp
      have := hI.n5
      have hw := (csSayErr0 he).2.1
      refine pkErr_ok ?_ ?_ (by rw [d2]; exact hw) (by rw [d1]; exact fun e => d5 e.symm)
      · rw [d1]; simp [isMember]; omega
      · simp [isMember]; omega
theorem csNet_send {c : Cs} (hI : CsI c) {who word : Int} (he : csSayErr c who word = 0) {k : Nat} (hk : k < c.mem.length) (hne : (k : Int) ≠ who) :
    ntErr (csNet c k who word) (who, (k : Int), word) = 0 ∧ ntSend (csNet c k who word) (who, (k : Int), word) = csNet c (k + 1) who word := by
  have h1 := csNet_I hI he (k := k + 1) (by omega)
  have e : (csNet c (k + 1) who word).all = (csNet c k who word).all ++ [(who, (k : Int), word)] := by
    unfold csNet
    rw [csPk_succ, if_pos hne, List.append_assoc]
  have h2 := h1.len
  rw [e, List.length_append] at h2
  simp only [List.length_singleton] at h2
  have h0 : ntErr (csNet c k who word) (who, (k : Int), word) = 0 := by
    unfold ntErr
    have := h1.ok (who, (k : Int), word) (by rw [e]; simp)
    rw [if_neg (by rw [this]; simp), if_neg (by omega)]
  refine ⟨h0, ?_⟩
  unfold ntSend
  rw [if_pos h0, ← e]
  rfl
theorem csNet_skip {c : Cs} {who word : Int} {k : Nat} (h : (k : Int) = who) : csNet c (k + 1) who word = csNet c k who word := by
  unfold csNet
  rw [csPk_succ, if_neg (by rw [h]; simp), List.append_nil]
section
variable {w0 w : World} {p rb off cap nb sb : Nat} {hv : Value} {rs : List CmR} {ss : List SRow} {c : Cs} {R : HProp}
theorem csIs_some (he : csIs rs ss c) (x : Int) : (mget ss x).isSome = (mget c.said x).isSome := by
  rw [← he.2, mget_mvals]; cases mget ss x <;> rfl
theorem csIs_get (he : csIs rs ss c) (x : Int) : ((mget ss x).getD nilSdR).2 = csSd c x := by
  unfold csSd
  rw [← he.2, mget_mvals]; cases mget ss x <;> rfl
theorem Own.cs_look (h : Own w0 (CsO p rb off cap nb sb hv rs ss c * R) w) (x : Int) (hx : I64 x) (cm : Bool) :
    (Instr.lookup 93 (.map (some sb)) (.int .i64 x) cm).run Tryz.prog w = .ok (if cm then .tuple #[sdV ((mget ss x).getD nilSdR), .bool (mget ss x).isSome] else sdV ((mget ss x).getD nilSdR)) w := by
  have h1 := (h.cs_map.perm (show _ = Mp sK I64 sb (mvals sdV ss) * _ by unfold MpS; rw [star_assoc])).map_look (int_ke int_kind) mapsd_kind sd_zero hx cm
  rw [mget_val sdV ss x nilSdR, mget_mvals, Option.isSome_map] at h1
  exact h1
theorem Own.cs_len (h : Own w0 (CsO p rb off cap nb sb hv rs ss c * R) w) (ty : TypeId) : (Builtin.len_ #[93] ty #[.map (some sb)]).run Tryz.prog w = .ok (.int .i64 ss.length) w := by
  have h1 := (h.cs_map.perm (show _ = Mp sK I64 sb (mvals sdV ss) * _ by unfold MpS; rw [star_assoc])).map_len mapsd_kind ty
  rw [mvals_len] at h1
  exact h1
/-- One member out of its group. -/
def CsX (p rb off cap nb sb : Nat) (hv : Value) (rs : List CmR) (ss : List SRow) (c : Cs) (k : Nat) : HProp :=
  SlAt 97 1 rb off rs.length cap (rs.map cmV) * (starL cmP (rs.eraseIdx k) * (csHd p nb sb (.slice (some ⟨rb, off, none⟩) rs.length cap) hv * (NtP nb c.net * (MpS sK I64 sdRow sdV sb ss * EvSl hv c.hist))))
theorem Own.cs_take {k : Nat} (hk : k < rs.length) (h : Own w0 (CsO p rb off cap nb sb hv rs ss c * R) w) : Own w0 (CwP rs[k].1 rs[k].2 * (CsX p rb off cap nb sb hv rs ss c k * R)) w :=
  (h.cs_tab.tab_take hk).perm (by unfold CsX cmP; ac_rfl)
theorem cs_mem_set {k : Nat} (hk : k < rs.length) (m : Ca) : (rs.set k (rs[k].1, m)).map cmV = rs.map cmV := by
  rw [List.map_set]
  have : cmV (rs[k].1, m) = (rs.map cmV)[k]'(by simpa using hk) := by simp [cmV]
  rw [this, List.set_getElem_self]
end
/-- The store of a word in the group's map. -/
theorem Own.cs_mapput {w0 w : World} {sb : Nat} {ss : List SRow} {x : Int} {r : SdR} {Q : HProp} (hno : mget ss x = none) (h : Own w0 (Mp sK I64 sb (mput (mvals sdV ss) x (sdV r)) * (starL (fun p : Int × SdR => sdRow p.2) ss * (sdRow r * Q))) w) : Own w0 (MpS sK I64 sdRow sdV sb (mput ss x r) * Q) w := by
  refine h.perm ?_
  unfold MpS
  have hm : mput ss x r = ss ++ [(x, r)] := mput_new (mget_none.1 hno)
  rw [mput_mvals, hm, starL_snoc]
  ac_rfl
set_option maxRecDepth 100000 in
set_option maxHeartbeats 4000000 in
theorem csSay_no {w0 w : World} {R : HProp} (p : Nat) (c : Cs) (who word : Int) (hI : CsI c) (hE : csSayErr c who word = 1 ∨ csSayErr c who word = 7) (h : Own w0 (CsP p c * R) w) :
    Calls Tryz.prog 52 #[.pointer (some ⟨p, 0, none⟩), .int .i64 who, .int .i64 word] w fun e w' => e = .returned (errV (csSayErr c who word)) ∧ Own w0 (CsP p c * R) w' := by
  obtain ⟨rb, off, cap, nb, sb, hv, rs, ss, he, ho⟩ := h.cs_open
  obtain ⟨c0, c1, c2, c3, _, _, hc1, hc2⟩ := ho.cs_facts
  have hn2 := hI.n2
  have hn5 := hI.n5
  rw [← csIs_len he] at hn2 hn5
  obtain ⟨N, hN⟩ : ∃ N, N = rs.length := ⟨_, rfl⟩
  rw [← hN] at c0 hn2 hn5 hc1
  have hNm : c.mem.length = N := by rw [← csIs_len he, hN]
  obtain ⟨E, hE'⟩ : ∃ E, E = csSayErr c who word := ⟨_, rfl⟩
  rw [← hE'] at hE ⊢
  unfold csSayErr at hE'
  rw [hNm] at hE'
  by_cases hw0 : who < 0
  · have hE1 : E = 1 := by rw [hE', if_pos (by unfold inR; simp; omega)]
    have t1 : decide (who < 0) = true := decide_eq_true hw0
    subst hE1
    clear hE'
    have H := Lib.hid h; have HI := Lib.hid hI; have HE := Lib.hid hE; have HO := Lib.hid ho; have HE := Lib.hid he; have HN := Lib.hid hN; have HNM := Lib.hid hNm; have HW0 := Lib.hid hw0
    clear h hI hE ho he hN hNm hw0
    go_enter Tryz.func52, Tryz.ntmps52
    go_wp2
    go_ret
    exact ⟨rfl, H.out⟩
  have t1 : decide (who < 0) = false := decide_eq_false hw0
  by_cases hwn : (N : Int) ≤ who
  · have hE1 : E = 1 := by rw [hE', if_pos (by unfold inR; simp; omega)]
    have t2 : decide ((N : Int) ≤ who) = true := decide_eq_true hwn
    subst hE1
    clear hE'
    have H := Lib.hid h; have HI := Lib.hid hI; have HE := Lib.hid hE; have HO := Lib.hid ho; have HE := Lib.hid he; have HN := Lib.hid hN; have HNM := Lib.hid hNm; have HW0 := Lib.hid hw0; have HWN := Lib.hid hwn
    clear h hI hE ho he hN hNm hw0 hwn
    go_enter Tryz.func52, Tryz.ntmps52
    go_wp2
    go_ret
    exact ⟨rfl, H.out⟩
  have t2 : decide ((N : Int) ≤ who) = false := decide_eq_false hwn
  rw [if_neg (by unfold inR; simp; omega)] at hE'
  cases hwd : isWord word
  · rw [if_pos hwd] at hE'
    subst hE'
    have H := Lib.hid h; have HI := Lib.hid hI; have HE := Lib.hid hE; have HO := Lib.hid ho; have HE := Lib.hid he; have HN := Lib.hid hN; have HNM := Lib.hid hNm; have HW0 := Lib.hid hw0; have HWN := Lib.hid hwn; have HWD := Lib.hid hwd
    clear h hI hE ho he hN hNm hw0 hwn hwd
    go_enter Tryz.func52, Tryz.ntmps52
    go_wp2_with fail
    refine (word_any _ _).mono ?_
    rintro e w' ⟨rfl, rfl⟩
    rw [HWD.out]
    go_wp2
    go_ret
    exact ⟨rfl, H.out⟩
  rw [if_neg (by rw [hwd]; simp)] at hE'
  cases hsm : (mget c.said word).isSome
  · rw [hsm, if_neg (by simp)] at hE'
    exfalso
    split at hE' <;> omega
  rw [hsm, if_pos rfl] at hE'
  have hlk := ho.cs_look word (isWord_I64 hwd) true
  rw [csIs_some he, hsm, if_pos rfl] at hlk
  obtain ⟨r, hr⟩ : ∃ r, r = (mget ss word).getD nilSdR := ⟨_, rfl⟩
  rw [← hr] at hlk
  unfold sdV at hlk
  obtain ⟨rv, rsd⟩ := r
  dsimp only at hlk
  have hrow : Own w0 (sdRow ((mget ss word).getD nilSdR) * _) w := (ho.cs_map.ms_take nilSdR sdRow_nil word)
  rw [← hr] at hrow
  obtain ⟨ad, cp, hrv⟩ := Own.int_shape hrow
  dsimp only at hrv
  rw [hrv] at hlk
  subst hE'
  clear hrow hr
  have H := Lib.hid h; have HI := Lib.hid hI; have HE := Lib.hid hE; have HO := Lib.hid ho; have HE := Lib.hid he; have HN := Lib.hid hN; have HNM := Lib.hid hNm; have HW0 := Lib.hid hw0; have HWN := Lib.hid hwn; have HWD := Lib.hid hwd; have HSM := Lib.hid hsm
  clear h hI hE ho he hN hNm hw0 hwn hwd hsm
  go_enter Tryz.func52, Tryz.ntmps52
  go_wp2_with fail
  refine (word_any _ _).mono ?_
  rintro e w' ⟨rfl, rfl⟩
  rw [HWD.out]
  go_wp2
  go_ret
  exact ⟨rfl, H.out.alloc' _⟩
end Go.Proofs.YtdfjbnfdknpahaaGreatDoor
/- What plain.Told makes of an error: its number. -/
namespace Go.Proofs.YtdfjbnfdknpahaaGreatDoor
open Go.RowKit
set_option linter.unusedVariables false
end Go.Proofs.YtdfjbnfdknpahaaGreatDoor
/- errors.As at api.Errno, into a box of the call's own. -/
namespace Go.Proofs.YtdfjbnfdknpahaaGreatDoor
set_option linter.unusedVariables false
set_option linter.unusedSimpArgs false
open Go.RowKit
set_option maxRecDepth 100000 in
set_option maxHeartbeats 4000000 in
theorem as_nil (v : Value) (w : World) :
    Calls Tryz.prog 38 #[.nilIface, v] w fun e w' => e = .returned (.bool false) ∧ w = w' := by
  go_enter Tryz.func38, Tryz.ntmps38
  go_wp2
  go_ret
  exact ⟨rfl, rfl⟩
abbrev ErO (b : Nat) (x : Int) : HProp := blk b (.cells #[.int .i64 x] 90 (0, 0))
set_option maxRecDepth 100000 in
set_option maxHeartbeats 4000000 in
theorem as_own {w0 w : World} {R : HProp} (hg : As.Handle w0) (n : Nat) (hn : n ≠ 0) (b : Nat) (x : Int) (h : Own w0 (ErO b x * R) w) :
    Calls Tryz.prog 38 #[.iface 90 (.int .i64 (n : Int)), .iface 107 (.pointer (some ⟨b, 0, none⟩))] w fun e w' => e = .returned (.bool true) ∧ Own w0 (ErO b (n : Int) * R) w' := by
  have hlt : (⟨1, 0, none⟩ : Addr).block < w0.heap.size := World.block_lt_of_cell? _ _ hg
  have hw : As.Handle w := by unfold As.Handle; rw [h.below.cell (p := ⟨1, 0, none⟩) hlt]; exact hg
  refine (As.as_hit (n : Int) ⟨b, 0, none⟩ (.int .i64 x) w hw ((h.cell 0).trans rfl) (h.free 0 none)).mono ?_
  rintro e w' ⟨rfl, rfl⟩
  refine ⟨rfl, ?_⟩
  have h1 : ∀ o1 o2 o3 o4, Own w0 (ErO b x * R) ((((w.alloc o1).alloc o2).alloc o3).alloc o4) := fun o1 o2 o3 o4 => (((h.alloc' o1).alloc' o2).alloc' o3).alloc' o4
  exact (h1 _ _ _ _).setCell (i := 0) (v := .int .i64 (n : Int))
end Go.Proofs.YtdfjbnfdknpahaaGreatDoor
