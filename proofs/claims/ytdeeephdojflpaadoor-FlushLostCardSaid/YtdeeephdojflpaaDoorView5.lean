/- Contracts of package view: Both. -/
import Derived.Test.YtdeeephdojflpaaDoorView4
namespace Go.Proofs.YtdeeephdojflpaaDoor
set_option linter.unusedVariables false
set_option linter.unusedSimpArgs false
open Go.RowKit
def vbothErr (na : Int) (A : List Int) (nb : Int) (B : List Int) : Nat := if viewErr na A ≠ 0 then viewErr na A else viewErr nb B
def vbothHas (na : Int) (A : List Int) (nb : Int) (B : List Int) : List Int := if vbothErr na A nb B = 0 then keepB B A else []
set_option maxRecDepth 100000 in
set_option maxHeartbeats 4000000 in
theorem viewBoth_any {w0 w : World} {R : HProp} (na nb : Int) (va vb : Value) (A B : List Int) (hA : Reads w0 R va A) (hB : Reads w0 R vb B) (h : Own w0 R w) :
    Calls Tryd.prog 42 #[.agg #[.int .i64 na, va], .agg #[.int .i64 nb, vb]] w fun e w' => ∃ v', e = .returned (.tuple #[v', errV (vbothErr na A nb B)]) ∧ Own w0 (IntSl v' (vbothHas na A nb B) * R) w' := by
  obtain ⟨ad, acap, hva, hac, hac2⟩ := (hA _ h).shape
  subst hva
  obtain ⟨bd, bcap, hvb, hbc, hbc2⟩ := (hB _ h).shape
  subst hvb
  obtain ⟨b1, hb1⟩ : ∃ c, c = w.heap.size := ⟨_, rfl⟩
  have h1 := h.alloc (.cells #[.int .i64 na, .slice ad A.length acap] 68)
  rw [← hb1] at h1
  have h2 := h1.alloc (.cells #[.int .i64 nb, .slice bd B.length bcap] 68)
  obtain ⟨b2, hb2⟩ : ∃ c, c = (w.alloc (.cells #[.int .i64 na, .slice ad A.length acap] 68)).heap.size := ⟨_, rfl⟩
  rw [← hb2] at h2
  obtain ⟨w1, hw1⟩ : ∃ w1, w1 = (w.alloc (.cells #[.int .i64 na, .slice ad A.length acap] 68)).alloc (.cells #[.int .i64 nb, .slice bd B.length bcap] 68) := ⟨_, rfl⟩
  rw [← hw1] at h2
  have hb2' : w.heap.size + 1 = b2 := by rw [hb2]; simp
  have HO : Hid (Own w0 (VwO b2 nb (.slice bd B.length bcap) * (VwO b1 na (.slice ad A.length acap) * R)) w1) := Lib.hid h2
  obtain ⟨c0, c1, _⟩ := (HO.out.perm (star_left_comm _ _ _)).vw
  have HAM : Hid (Reads w0 (VwO b2 nb (.slice bd B.length bcap) * (VwO b1 na (.slice ad A.length acap) * R)) (.slice ad A.length acap) A) := Lib.hid hA.more.more
  have HBM : Hid (Reads w0 (VwO b2 nb (.slice bd B.length bcap) * (VwO b1 na (.slice ad A.length acap) * R)) (.slice bd B.length bcap) B) := Lib.hid hB.more.more
  have H := Lib.hid h; have HA := Lib.hid hA; have HB := Lib.hid hB; have HB2 := Lib.hid hb2
  clear h hA hB hb2
  clear h1 h2
  by_cases he : viewErr na A = 0
  rotate_left
  · have hee := errV_pos he
    have hE : vbothErr na A nb B = viewErr na A := by unfold vbothErr; rw [if_pos he]
    have hH : vbothHas na A nb B = [] := by unfold vbothHas; rw [if_neg (by rw [hE]; exact he)]
    have HE_ := Lib.hid hE
    clear hE
    have HEE := Lib.hid hee; have HH := Lib.hid hH; have HE := Lib.hid he
    clear hee hH he
    go_enter Tryd.func42, Tryd.ntmps42
    go_upto_region 1 with fail
    rw [← hb1, ← hw1]
    clear hb1 hw1 hb2'
    go_wp2_with fail
    refine (viewCheck_any na _ A HO.out HAM.out).mono ?_
    rintro e w2 ⟨rfl, ho⟩
    rw [HEE.out]
    have HO2 := Lib.hid ho
    clear ho
    go_wp2
    go_ret2
    exact ⟨.slice none 0 0, by rw [HE_.out, HEE.out]; rfl, by rw [HH.out]; exact HO2.out.drop.drop.sl_nil _ _⟩
  have hee : errV (viewErr na A) = .nilIface := by rw [he]; rfl
  have hA5 := (memErr_len (viewErr0 he).2).2
  have hE : vbothErr na A nb B = viewErr nb B := by unfold vbothErr; rw [if_neg (by rw [he]; simp)]
  by_cases he2 : viewErr nb B = 0
  · have hee2 : errV (viewErr nb B) = .nilIface := by rw [he2]; rfl
    have hH : vbothHas na A nb B = keepB B A := by unfold vbothHas; rw [if_pos (by rw [hE]; exact he2)]
    have HE_ := Lib.hid hE
    clear hE
    have HEE := Lib.hid hee; have HH := Lib.hid hH; have HE := Lib.hid he; have HE2 := Lib.hid he2; have HEE2 := Lib.hid hee2
    clear hee hH he he2 hee2
    go_enter Tryd.func42, Tryd.ntmps42
    go_upto_region 1 with fail
    rw [← hb1, ← hw1]
    clear hb1 hw1 hb2'
    go_wp2_with fail
    refine (viewCheck_any na _ A HO.out HAM.out).mono ?_
    rintro e w2 ⟨rfl, ho⟩
    rw [HEE.out]
    have HO2 := Lib.hid ho
    obtain ⟨d0, d1, _⟩ := ho.vw
    clear ho
    go_wp2_with fail
    refine (viewCheck_any nb _ B HO2.out HBM.out).mono ?_
    rintro e w3 ⟨rfl, ho⟩
    rw [HEE2.out]
    have HO3 := Lib.hid ho
    obtain ⟨f0, f1, _⟩ := ho.vw
    obtain ⟨g0, g1, _⟩ := (ho.perm (star_left_comm _ _ _)).vw
    clear ho
    go_wp2_with fail
    refine (shared_any _ _ A B HAM.out HBM.out (by omega) HO3.out).mono ?_
    rintro e w4 ⟨v4, rfl, ho⟩
    have HO4 := Lib.hid (ho.perm (show _ = VwO b2 nb (.slice bd B.length bcap) * (VwO b1 na (.slice ad A.length acap) * (IntSl v4 (keepB B A) * R)) by ac_rfl))
    clear ho
    go_wp2
    go_ret2
    exact ⟨v4, by rw [HE_.out, HEE2.out]; rfl, by rw [HH.out]; exact HO4.out.drop.drop⟩
  · have hee2 := errV_pos he2
    have hH : vbothHas na A nb B = [] := by unfold vbothHas; rw [if_neg (by rw [hE]; exact he2)]
    have HE_ := Lib.hid hE
    clear hE
    have HEE := Lib.hid hee; have HH := Lib.hid hH; have HE := Lib.hid he; have HE2 := Lib.hid he2; have HEE2 := Lib.hid hee2
    clear hee hH he he2 hee2
    go_enter Tryd.func42, Tryd.ntmps42
    go_upto_region 1 with fail
    rw [← hb1, ← hw1]
    clear hb1 hw1 hb2'
    go_wp2_with fail
    refine (viewCheck_any na _ A HO.out HAM.out).mono ?_
    rintro e w2 ⟨rfl, ho⟩
    rw [HEE.out]
    have HO2 := Lib.hid ho
    obtain ⟨d0, d1, _⟩ := ho.vw
    clear ho
    go_wp2_with fail
    refine (viewCheck_any nb _ B HO2.out HBM.out).mono ?_
    rintro e w3 ⟨rfl, ho⟩
    rw [HEE2.out]
    have HO3 := Lib.hid ho
    clear ho
    go_wp2
    go_ret2
    exact ⟨.slice none 0 0, by rw [HE_.out, HEE2.out]; rfl, by rw [HH.out]; exact HO3.out.drop.drop.sl_nil _ _⟩
end Go.Proofs.YtdeeephdojflpaaDoor
