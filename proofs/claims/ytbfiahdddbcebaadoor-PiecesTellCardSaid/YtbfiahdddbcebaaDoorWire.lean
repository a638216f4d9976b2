/- Contracts of package wire: sum, check, Pack. -/
import Derived.Test.YtbfiahdddbcebaaDoorWireP
import Derived.Test.YtbfiahdddbcebaaDoorStar
import Derived.Test.YtbfiahdddbcebaaDoorHeld
import Derived.Deep.DeepCutAuto
import Derived.Deep.CutBlock
namespace Go.Proofs.YtbfiahdddbcebaaDoor
set_option linter.unusedVariables false
set_option linter.unusedSimpArgs false
open Go.RowKit
def u8V (b : UInt8) : Value := .int .u8 (b.toNat : Int)
def BySl (v : Value) (l : List UInt8) : HProp := Sl 5 1 v l.length (l.map u8V)
def ByRd (w : World) (v : Value) (l : List UInt8) : Prop := Rd w v l.length (l.map u8V)
theorem info_byte : (Tryd.prog.info? 5).map (fun i => (i.zero, i.size, i.bytes)) = some (some (.int .u8 0), 1, 1) := by kernel_rfl
theorem by_one (l : List UInt8) : ∀ u ∈ l.map u8V, u.oneCell' = true := by
  intro u hu
  obtain ⟨x, _, rfl⟩ := List.mem_map.1 hu
  rfl
theorem ByRd.at {w : World} {ad : Option Addr} {n cap : Nat} {l : List UInt8} (h : ByRd w (.slice ad n cap) l) (k : Nat) (hk : k < l.length) : ∃ a : Addr, ad = some a ∧ w.cell? (a.add k) = some (.int .u8 ((l[k]).toNat : Int)) := by
  obtain ⟨ad', cap', e, _, _, _, hc⟩ := h
  cases e
  exact hc k _ (by simp [hk, u8V])
theorem ByRd.shape {w : World} {v : Value} {l : List UInt8} (h : ByRd w v l) : ∃ ad cap, v = .slice ad l.length cap ∧ l.length ≤ cap ∧ cap ≤ 9223372036854775807 := by
  obtain ⟨ad', cap', e, h1, h2, _, hc⟩ := h
  exact ⟨_, _, e, h1, by simpa [maxLen] using h2⟩
theorem Own.by_shape {w0 w : World} {v : Value} {l : List UInt8} {R : HProp} (h : Own w0 (BySl v l * R) w) : ∃ ad cap, v = .slice ad l.length cap ∧ l.length ≤ cap ∧ cap ≤ 9223372036854775807 := ByRd.shape (Own.rd h)
set_option maxRecDepth 100000 in
set_option maxHeartbeats 4000000 in
theorem wsum_any {w : World} (v : Value) (l : List UInt8) (hl : ByRd w v l) :
    Calls Tryd.prog 28 #[v] w fun e w' => e = .returned (.int .u8 ((sumB l).toNat : Int)) ∧ w = w' := by
  obtain ⟨ad, cap, rfl, hlc, hcap⟩ := hl.shape
  have HL := Lib.hid hl
  clear hl
  go_enter Tryd.func28, Tryd.ntmps28
  go_wp2_with fail
  go_loop [8, 3] (fun iv nv => ∃ k : Nat, k ≤ l.length ∧ iv = .int .i64 k ∧ nv = .int .u8 ((sumB (l.take k)).toNat : Int)) (fun iv _ => l.length - (intOf iv).toNat)
  case atStart => exact ⟨0, Nat.zero_le _, rfl, rfl⟩
  case round =>
    obtain ⟨k, hk, rfl, rfl⟩ := hrel
    by_cases hlt : k < l.length
    · obtain ⟨a, rfl, hc⟩ := HL.out.at k hlt
      have hs := sumB_next hlt
      have hs2 : (sumB (l.take (k + 1))).toNat = ((sumB (l.take k)).toNat + (l[k]).toNat) % 256 := by rw [hs, UInt8.toNat_add]
      obtain ⟨A, hA⟩ : ∃ A, A = (sumB (l.take k)).toNat := ⟨_, rfl⟩
      obtain ⟨X, hX⟩ : ∃ X, X = (l[k]).toNat := ⟨_, rfl⟩
      have hA2 : A < 256 := by rw [hA]; exact UInt8.toNat_lt _
      have hX2 : X < 256 := by rw [hX]; exact UInt8.toNat_lt _
      rw [← hA, ← hX] at hs2
      rw [← hX] at hc
      rw [← hA]
      have HS := Lib.hid hs; have HS2 := Lib.hid hs2; have HA := Lib.hid hA; have HX := Lib.hid hX
      clear hs hs2 hA hX
      go_wp2
      go_round
      case rel => exact ⟨k + 1, by omega, by go_num, by rw [HS2.out]; trivial⟩
      case measure => simp [intOf]; omega
    · have hkn : k = l.length := by omega
      subst hkn
      rw [List.take_length]
      go_wp2
      go_ret
      exact ⟨rfl, rfl⟩
set_option maxRecDepth 100000 in
set_option maxHeartbeats 4000000 in
theorem wcheck_any {w0 w : World} {R : HProp} (who word : Int) (v : Value) (l : List Int) (h : Own w0 R w) (hl : Reads w0 R v l) :
    Calls Tryd.prog 27 #[.agg #[.int .i64 who, .int .i64 word, v]] w fun e w' => e = .returned (errV (saidErr who word l)) ∧ Own w0 R w' := by
  obtain ⟨ad, cap, rfl, hlc, hcap⟩ := (hl _ h).shape
  obtain ⟨b1, hb_b1⟩ : ∃ zz_, zz_ = (w).heap.size := ⟨_, rfl⟩
  obtain ⟨w1, hw_w1⟩ : ∃ zz_, zz_ = (w).alloc (.cells #[.int .i64 who, .int .i64 word, .slice ad l.length cap] 24 (0, 0)) := ⟨_, rfl⟩
  have h_HO1 := (h).alloc (.cells #[.int .i64 who, .int .i64 word, .slice ad l.length cap] 24 (0, 0))
  rw [← hb_b1, ← hw_w1] at h_HO1
  have HO1 := Lib.hid h_HO1
  clear h_HO1
  have c0 : w1.cell? ⟨b1, 0, none⟩ = some (.int .i64 who) := (HO1.out.cell 0).trans rfl
  have c1 : w1.cell? ⟨b1, 1, none⟩ = some (.int .i64 word) := (HO1.out.cell 1).trans rfl
  have c2 : w1.cell? ⟨b1, 2, none⟩ = some (.slice ad l.length cap) := (HO1.out.cell 2).trans rfl
  have HRD := Lib.hid (hl _ HO1.out.drop)
  obtain ⟨E, hE⟩ : ∃ E, E = saidErr who word l := ⟨_, rfl⟩
  rw [← hE]
  unfold saidErr at hE
  clear h hl
  cases h1 : isMember who
  · rw [if_pos h1] at hE
    subst hE
    have H1 := Lib.hid h1
    clear h1
    go_enter Tryd.func27, Tryd.ntmps27
    go_upto_region 1 with fail
    rw [← hb_b1, ← hw_w1]
    clear hb_b1 hw_w1
    go_wp2_with fail
    refine (member_any _ _).mono ?_
    rintro e w' ⟨rfl, rfl⟩
    rw [H1.out]
    go_wp2
    go_ret
    exact ⟨rfl, HO1.out.drop⟩
  rw [if_neg (by rw [h1]; simp)] at hE
  cases h2 : isWord word
  · rw [if_pos h2] at hE
    subst hE
    have H1 := Lib.hid h1; have H2 := Lib.hid h2
    clear h1 h2
    go_enter Tryd.func27, Tryd.ntmps27
    go_upto_region 1 with fail
    rw [← hb_b1, ← hw_w1]
    clear hb_b1 hw_w1
    go_wp2_with fail
    refine (member_any _ _).mono ?_
    rintro e w' ⟨rfl, rfl⟩
    rw [H1.out]
    go_wp2_with fail
    refine (word_any _ _).mono ?_
    rintro e w' ⟨rfl, rfl⟩
    rw [H2.out]
    go_wp2
    go_ret
    exact ⟨rfl, HO1.out.drop⟩
  rw [if_neg (by rw [h2]; simp)] at hE
  subst hE
  have H1 := Lib.hid h1; have H2 := Lib.hid h2
  clear h1 h2
  go_enter Tryd.func27, Tryd.ntmps27
  go_upto_region 1 with fail
  rw [← hb_b1, ← hw_w1]
  clear hb_b1 hw_w1
  go_wp2_with fail
  refine (member_any _ _).mono ?_
  rintro e w' ⟨rfl, rfl⟩
  rw [H1.out]
  go_wp2_with fail
  refine (word_any _ _).mono ?_
  rintro e w' ⟨rfl, rfl⟩
  rw [H2.out]
  go_wp2_with fail
  refine (vcheck_any _ l _ HRD.out).mono ?_
  rintro e w' ⟨rfl, rfl⟩
  go_wp2
  go_ret
  exact ⟨rfl, HO1.out.drop⟩
end Go.Proofs.YtbfiahdddbcebaaDoor
