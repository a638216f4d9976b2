/- Contracts of the reference's Joiner: Lacks, Text; two slices of pieces that are alike. -/
import Derived.Test.YtbfiahdddbcebaaDoorJoinR
import Derived.Test.YtbfiahdddbcebaaDoorPcs
namespace Go.Proofs.YtbfiahdddbcebaaDoor
open Go.RowKit Go.Maps
set_option linter.unusedVariables false
set_option maxRecDepth 100000 in
set_option maxHeartbeats 4000000 in
theorem jrLacks_any {w0 w : World} {R : HProp} (q N : Nat) (hN : N ≤ 60) (m : List (Int × ByteArray)) (h : Own w0 (JrP q N m * R) w) :
    Calls Tryd.prog 17 #[.pointer (some ⟨q, 0, none⟩)] w fun e w' => ∃ v', e = .returned v' ∧ Own w0 (IntSl v' (joLacks N m) * (JrP q N m * R)) w' := by
  have H := Lib.hid h
  clear h
  go_enter Tryd.func17, Tryd.ntmps17
  go_wp2_with fail
  go_loopw [4, 3] (fun iv ov wr => ∃ k : Nat, k ≤ N ∧ iv = .int .i64 k ∧ Hid (Own w0 (IntSl ov (joLacks k m) * (JrP q N m * R)) wr)) (fun iv _ _ => N - (intOf iv).toNat)
  case atStart => exact ⟨0, Nat.zero_le _, rfl, Lib.hid (H.out.sl_nil 3 1)⟩
  case round =>
    obtain ⟨k, hk, rfl, HO⟩ := hrel
    obtain ⟨c0, cB, _, _⟩ := HO.out.drop.jr_facts
    by_cases hlt : k < N
    rotate_left
    · have hkn : k = N := by omega
      rw [hkn] at HO
      clear cB
      have HKN := Lib.hid hkn
      clear hkn
      go_wp2
      go_ret
      exact ⟨_, rfl, HO.out⟩
    have d1 := cB k (by omega)
    have hk0 : (0 : Int) ≤ (k : Int) := by omega
    have hk60 : (k : Int) < 60 := by omega
    have hnx : joLacks (k + 1) m = joLacks k m ++ (if (mget m (k : Int)).isSome = true then [] else [(k : Int)]) := by
      unfold joLacks
      rw [memJ_snoc, List.filter_append]
      cases hg : mget m (k : Int) <;> simp [hg]
    have hol : (joLacks k m).length ≤ k := by unfold joLacks; exact Nat.le_trans (List.length_filter_le _ _) (by rw [memJ_len]; exact Nat.le_refl _)
    obtain ⟨D, hD⟩ : ∃ D, D = (mget m (k : Int)).isSome := ⟨_, rfl⟩
    rw [← hD] at hnx d1
    obtain ⟨L, hL⟩ : ∃ L, L = joLacks k m := ⟨_, rfl⟩
    rw [← hL] at HO hnx hol
    clear cB
    have HL := Lib.hid hL
    clear hL
    cases D
    · rw [if_neg (by simp)] at hnx
      have HOW : Hid (Own w0 (Sl 3 1 u3 L.length (L.map (Value.int .i64)) * (JrP q N m * R)) wr) := HO
      have HNX := Lib.hid hnx; have HD := Lib.hid hD
      clear hnx hD
      go_wp2_with (at_builtin; refine wpList_app rfl _ _ 22 rfl 3 1 8 _ info_int Tryd.underlying22 rfl (by decide) rfl (HOW.out.alloc' _) (by rfl) (by rfl) (Rd_lit (by simp) (by unfold maxLen; omega)) (by intro u hu; simp at hu; subst hu; rfl) (by unfold maxLen; omega) (by omega) ?_; intro v' w5 ho5; have HO5 := Lib.hid ho5; clear ho5)
      go_round
      case rel => exact ⟨k + 1, by omega, by go_num, Lib.hid (by rw [HNX.out]; unfold IntSl; rw [List.length_append, List.map_append]; exact HO5.out)⟩
      case measure => simp [intOf]; omega
    · rw [if_pos rfl, List.append_nil] at hnx
      have HNX := Lib.hid hnx; have HD := Lib.hid hD
      clear hnx hD
      go_wp2
      go_round
      case rel => exact ⟨k + 1, by omega, by go_num, Lib.hid (by rw [HNX.out]; exact HO.out)⟩
      case measure => simp [intOf]; omega
theorem cat_snoc (m : List (Int × ByteArray)) (k : Nat) : (⟨(joCat m (k + 1)).toArray⟩ : ByteArray) = ⟨(joCat m k).toArray⟩ ++ joGet m k := by
  apply ByteArray.ext
  rw [joCat_snoc, ByteArray.data_append]
  apply Array.ext'
  simp
set_option maxRecDepth 100000 in
set_option maxHeartbeats 4000000 in
theorem jrText_any {w0 w : World} {R : HProp} (q N : Nat) (hN : N ≤ 60) (m : List (Int × ByteArray)) (hm : joSmall m) (h : Own w0 (JrP q N m * R) w) :
    Calls Tryd.prog 18 #[.pointer (some ⟨q, 0, none⟩)] w fun e w' => e = .returned (.string ⟨(joCat m N).toArray⟩) ∧ Own w0 (JrP q N m * R) w' := by
  obtain ⟨c0, _, cT, _⟩ := h.jr_facts
  have H := Lib.hid h; have CT := Lib.hid cT; have HM := Lib.hid hm
  clear h cT hm
  go_enter Tryd.func18, Tryd.ntmps18
  go_wp2_with fail
  go_loop [4, 3] (fun iv sv => ∃ k : Nat, k ≤ N ∧ iv = .int .i64 k ∧ sv = .string ⟨(joCat m k).toArray⟩) (fun iv _ => N - (intOf iv).toNat)
  case atStart => exact ⟨0, Nat.zero_le _, rfl, rfl⟩
  case round =>
    obtain ⟨k, hk, rfl, rfl⟩ := hrel
    by_cases hlt : k < N
    rotate_left
    · have hkn : k = N := by omega
      subst hkn
      go_wp2
      go_ret
      exact ⟨rfl, H.out⟩
    have d2 := CT.out k (by omega)
    have hk0 : (0 : Int) ≤ (k : Int) := by omega
    have hk60 : (k : Int) < 60 := by omega
    have hnx := cat_snoc m k
    have hl1 := joCat_le HM.out k
    have hl2 := joGet_le HM.out k
    obtain ⟨T, hT⟩ : ∃ T : ByteArray, T = ⟨(joCat m k).toArray⟩ := ⟨_, rfl⟩
    obtain ⟨s, hs⟩ : ∃ s, s = joGet m k := ⟨_, rfl⟩
    have hTs : T.size = (joCat m k).length := by rw [hT]; rfl
    rw [← hs] at d2 hnx hl2
    rw [← hT] at hnx ⊢
    have hadd : ∀ (w : World), (Op.stringOp .add T s).run Tryd.prog w = .ok (.string (T ++ s)) w := fun w => run_string_add_sum _ _ _ (by omega)
    have HNX := Lib.hid hnx; have HL1 := Lib.hid hl1; have HL2 := Lib.hid hl2; have HT := Lib.hid hT; have HS := Lib.hid hs; have HTS := Lib.hid hTs
    clear hnx hl1 hl2 hT hs hTs
    go_wp2_with fail
    go_round
    case rel => exact ⟨k + 1, by omega, by go_num, by rw [HNX.out]⟩
    case measure => simp [intOf]; omega
theorem pcs_at {w : World} {ad : Option Addr} {n cap : Nat} {l : List Pc} (h : Pcs w (.slice ad n cap) l) (k : Nat) (hk : k < l.length) :
    ∃ (a : Addr) (eb eo : Nat) (es : Option Nat), ad = some a ∧ a.add (k * 3) = ⟨eb, eo, es⟩ ∧ w.cell? ⟨eb, eo, es⟩ = some (.int .i64 l[k].at') ∧ w.cell? ⟨eb, eo + 1, none⟩ = some (.int .i64 l[k].of) ∧ w.cell? ⟨eb, eo + 2, none⟩ = some (.string l[k].text) := by
  have hr : ReadsP w emp (.slice ad n cap) l := h.reads
  obtain ⟨a, eb, eo, es, h1, h2, h3, _⟩ := hr.at (Own.start w) k hk
  rw [pcAt_get hk] at h3
  exact ⟨a, eb, eo, es, h1, h2, h3 w (Own.start w)⟩
set_option maxRecDepth 100000 in
set_option maxHeartbeats 4000000 in
theorem samePcs_any {w : World} (va vb : Value) (l : List Pc) (ha : Pcs w va l) (hb : Pcs w vb l) :
    Calls Tryd.prog 13 #[va, vb] w fun e w' => e = .returned (.bool true) ∧ ∃ n, w' = w.drewN n := by
  obtain ⟨ad, cap, rfl, hac, hacap⟩ := ha.shape
  obtain ⟨bd, bcap, rfl, hbc, hbcap⟩ := hb.shape
  obtain ⟨n, hn⟩ : ∃ n, n = l.length := ⟨_, rfl⟩
  rw [← hn] at ha hb hac hbc ⊢
  have hl' : ((n : Int) != (n : Int)) = false := by rw [bne_eq_false_iff_eq]
  have HA := Lib.hid ha; have HB := Lib.hid hb; have HN := Lib.hid hn
  clear ha hb hn
  go_enter Tryd.func13, Tryd.ntmps13
  go_wp2_with fail
  go_loopw [5] (fun iv wr => ∃ k : Nat, k ≤ n ∧ iv = .int .i64 k ∧ Hid (∃ j, wr = w.drewN j)) (fun iv _ => n - (intOf iv).toNat)
  case atStart => exact ⟨0, Nat.zero_le _, rfl, Lib.hid ⟨0, rfl⟩⟩
  case round =>
    obtain ⟨k, hk, rfl, hp⟩ := hrel
    obtain ⟨j, rfl⟩ := hp.out
    by_cases hlt : k < n
    rotate_left
    · have hkn : k = n := by omega
      subst hkn
      go_wp2
      go_ret
      exact ⟨rfl, _, rfl⟩
    obtain ⟨a, eb, eo, es, rfl, e1, c0, c1, c2⟩ := pcs_at HA.out k (by rw [← HN.out]; exact hlt)
    obtain ⟨a', eb', eo', es', rfl, e1', c0', c1', c2'⟩ := pcs_at HB.out k (by rw [← HN.out]; exact hlt)
    go_wp2_with fail
    go_quiet (fail)
    go_wp2
    go_roundw
    case rel => exact ⟨k + 1, by omega, by go_num, Lib.hid ⟨_, rfl⟩⟩
    case measure => simp [intOf]; omega
end Go.Proofs.YtbfiahdddbcebaaDoor
