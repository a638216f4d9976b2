/- Contract of the reference's Split. -/
import Derived.Test.YtbfiahdddbcebaaDoorJoinR2
import Derived.Test.YtbfiahdddbcebaaDoorPiecesBackP
namespace Go.Proofs.YtbfiahdddbcebaaDoor
open Go.RowKit Go.Maps
set_option linter.unusedVariables false
def strLen : Value → Nat
  | .string s => s.size
  | _ => 0
def StrSl (v : Value) (l : List ByteArray) : HProp := Sl 9 1 v l.length (l.map Value.string)
theorem info_str : (Tryd.prog.info? 9).map (fun i => (i.zero, i.size, i.bytes)) = some (some (.string ⟨#[]⟩), 1, 16) := by kernel_rfl
def txts (t : ByteArray) (z k : Nat) : List ByteArray := (List.range k).map fun i => (splitAt t z i).text
theorem txts_len (t : ByteArray) (z k : Nat) : (txts t z k).length = k := by simp [txts]
theorem txts_snoc (t : ByteArray) (z k : Nat) : txts t z (k + 1) = txts t z k ++ [(splitAt t z k).text] := by simp [txts, List.range_succ]
theorem txts_get (t : ByteArray) (z k i : Nat) (h : i < k) : (txts t z k)[i]? = some (splitAt t z i).text := by simp [txts, h]
theorem ba_eq {a b : ByteArray} (h : a.data.toList = b.data.toList) : a = b := ByteArray.ext (Array.ext' h)
theorem ba_len (a : ByteArray) : a.data.toList.length = a.size := Array.length_toList
theorem ba_cut (s : ByteArray) (a b : Nat) : (s.extract a b).data.toList = (s.data.toList.drop a).take (b - a) := by
  simp only [ByteArray.data_extract, Array.toList_extract, List.extract_eq_take_drop]
/-- The rest of the text behind k pieces. -/
def RestIs (t : ByteArray) (z k : Nat) (S : ByteArray) : Prop := S.data.toList = t.data.toList.drop (k * z)
theorem rest_start (t : ByteArray) (z : Nat) : RestIs t z 0 t := by unfold RestIs; simp
section
variable {t S : ByteArray} {z k : Nat}
theorem RestIs.size (h : RestIs t z k S) : S.size = t.size - k * z := by
  rw [← ba_len, h, List.length_drop, ba_len]
theorem RestIs.head (h : RestIs t z k S) : S.extract 0 z = (splitAt t z k).text := by
  apply ba_eq
  rw [ba_cut, h, piece_list]
  simp
theorem RestIs.next (h : RestIs t z k S) : RestIs t z (k + 1) (S.extract z S.size) := by
  unfold RestIs
  rw [ba_cut, h, List.take_of_length_le (by rw [List.length_drop, List.length_drop, ba_len, h.size]; omega), List.drop_drop, Nat.add_mul, Nat.one_mul]
theorem RestIs.last (h : RestIs t z k S) (hS : S.size ≤ z) : S = (splitAt t z k).text := by
  apply ba_eq
  rw [piece_list, h, List.take_of_length_le (by rw [List.length_drop, ba_len, ← h.size]; exact hS)]
theorem RestIs.more (h : RestIs t z k S) (hz : 1 ≤ z) (hS : z < S.size) : k + 1 < splitN t.size z := by
  rw [h.size] at hS
  have h1 : k + 2 ≤ (t.size + z - 1) / z := by
    rw [Nat.le_div_iff_mul_le (by omega), Nat.add_mul]
    omega
  unfold splitN
  omega
theorem RestIs.done (h : RestIs t z k S) (hz : 1 ≤ z) (hk : k < splitN t.size z) (hS : S.size ≤ z) : k + 1 = splitN t.size z := by
  rw [h.size] at hS
  have h1 : (t.size + z - 1) / z < k + 2 := by
    rw [Nat.div_lt_iff_lt_mul (by omega), Nat.add_mul]
    omega
  unfold splitN at hk ⊢
  omega
end
theorem str_at {w0 w : World} {v : Value} {t : ByteArray} {z n : Nat} {R : HProp} (hn : 1 ≤ n) (h : Own w0 (StrSl v (txts t z n) * R) w) : ∃ b off cap, v = .slice (some ⟨b, off, none⟩) n cap ∧ n ≤ cap ∧ cap ≤ maxLen := by
  obtain ⟨b, off, cap, h1, h2, h3, _⟩ := Own.sl_at h (by rw [List.length_map, txts_len]; omega)
  rw [txts_len] at h1 h2
  exact ⟨b, off, cap, h1, h2, h3⟩
theorem str_get {w0 w : World} {b off n' cap : Nat} {t : ByteArray} {z n : Nat} {R : HProp} (h : Own w0 (StrSl (.slice (some ⟨b, off, none⟩) n' cap) (txts t z n) * R) w) (k : Nat) (hk : k < n) : w.cell? ⟨b, off + k, none⟩ = some (.string (splitAt t z k).text) := by
  obtain ⟨b', off', cap', h1, h2, h3, h4, _⟩ := Own.sl_at h (by rw [List.length_map, txts_len]; omega)
  injection h1 with h1
  injection h1 with h1
  injection h1 with h1 h5
  subst h1 h5
  exact h4 k _ (by rw [List.getElem?_map, txts_get t z n k hk]; rfl)
set_option maxRecDepth 100000 in
set_option maxHeartbeats 4000000 in
theorem refSplit_any {w0 w : World} {R : HProp} (h : Own w0 R w) (t : ByteArray) (z : Nat) (ht : t.size ≤ 60) (hz1 : 1 ≤ z) (hz2 : z ≤ 12) :
    Calls Tryd.prog 11 #[.string t, .int .i64 z] w fun e w' => ∃ v', e = .returned v' ∧ Own w0 (PcSl v' (splitOf t z) * R) w' := by
  obtain ⟨n, hn⟩ : ∃ n, n = splitN t.size z := ⟨_, rfl⟩
  have hn1 : 1 ≤ n := by rw [hn]; unfold splitN; omega
  have hn60 : n ≤ 60 := by rw [hn]; exact splitN_le _ _ ht hz1
  have H := Lib.hid h; have HN := Lib.hid hn
  clear h hn
  go_enter Tryd.func11, Tryd.ntmps11
  go_wp2_with fail
  go_loopw [0, 5] (fun sv lv wr => ∃ (k : Nat) (S : ByteArray), k < n ∧ sv = .string S ∧ Hid (RestIs t z k S) ∧ Hid (Own w0 (StrSl lv (txts t z k) * R) wr)) (fun sv _ _ => strLen sv)
  case atStart => exact ⟨0, t, hn1, rfl, Lib.hid (rest_start t z), Lib.hid (H.out.sl_nil 9 1)⟩
  case round =>
    obtain ⟨k, S, hk, rfl, HS, HO⟩ := hrel
    have hsz : S.size ≤ 60 := by rw [HS.out.size]; omega
    by_cases hlt : z < S.size
    · have hmore := HS.out.more hz1 hlt
      rw [← HN.out] at hmore
      have hA := HS.out.head
      have hB := HS.out.next
      have hBs : (S.extract z S.size).size = S.size - z := by rw [ByteArray.size_extract]; omega
      have HOW : Hid (Own w0 (Sl 9 1 u5 (txts t z k).length ((txts t z k).map Value.string) * R) wr) := HO
      have htl : (txts t z k).length = k := txts_len t z k
      have HA := Lib.hid hA; have HB := Lib.hid hB; have HBS := Lib.hid hBs; have HMORE := Lib.hid hmore
      clear hA hB hBs hmore
      go_wp2_with (at_builtin; refine wpList_app rfl _ _ 70 rfl 9 1 16 _ info_str Tryd.underlying70 rfl (by decide) rfl (HOW.out.alloc' _) (by rfl) (by rfl) (Rd_lit (by simp) (by unfold maxLen; omega)) (by intro u hu; simp at hu; subst hu; rfl) (by unfold maxLen; omega) (by omega) ?_; intro v' w5 ho5; have HO5 := Lib.hid ho5; clear ho5)
      go_round
      case rel => exact ⟨k + 1, _, HMORE.out, rfl, HB, Lib.hid (by rw [txts_snoc, ← HA.out]; unfold StrSl; rw [List.length_append, List.map_append]; exact HO5.out)⟩
      case measure => simp only [strLen]; rw [HBS.out]; omega
    have hSz : S.size ≤ z := by omega
    have hdone := HS.out.done hz1 (by rw [← HN.out]; exact hk) hSz
    rw [← HN.out] at hdone
    have hlast := HS.out.last hSz
    have HOW : Hid (Own w0 (Sl 9 1 u5 (txts t z k).length ((txts t z k).map Value.string) * R) wr) := HO
    have htl : (txts t z k).length = k := txts_len t z k
    have HDONE := Lib.hid hdone; have HLAST := Lib.hid hlast
    clear hdone hlast
    go_wp2_with (at_builtin; refine wpList_app rfl _ _ 70 rfl 9 1 16 _ info_str Tryd.underlying70 rfl (by decide) rfl (HOW.out.alloc' _) (by rfl) (by rfl) (Rd_lit (by simp) (by unfold maxLen; omega)) (by intro u hu; simp at hu; subst hu; rfl) (by unfold maxLen; omega) (by omega) ?_; intro v' w5 ho5; have HO5 := Lib.hid ho5; clear ho5)
    have HL : Hid (Own w0 (StrSl v' (txts t z n) * R) w5) := Lib.hid (by rw [← HDONE.out, txts_snoc, ← HLAST.out]; unfold StrSl; rw [List.length_append, List.map_append]; exact HO5.out)
    clear HO5 HO HOW
    obtain ⟨lb, lo, lcap, rfl, hlc1, hlc2⟩ := str_at hn1 HL.out
    clear htl hsz hlt hSz
    go_wp2_with fail
    go_loopw [7, 6] (fun iv ov wr => ∃ i : Nat, i ≤ n ∧ iv = .int .i64 i ∧ Hid (Own w0 (PcSl ov ((List.range i).map (splitAt t z)) * (StrSl (.slice (some ⟨lb, lo, none⟩) n lcap) (txts t z n) * R)) wr)) (fun iv _ _ => n - (intOf iv).toNat)
    case atStart => exact ⟨0, Nat.zero_le _, rfl, Lib.hid (HL.out.sl_nil _ _)⟩
    case round =>
      obtain ⟨i, hi, rfl, HP⟩ := hrel
      by_cases hin : i < n
      rotate_left
      · have hie : i = n := by omega
        have HF : Hid (∃ W, W = splitOf t z ∧ Own w0 (PcSl u6 W * R) wr) := Lib.hid ⟨_, rfl, by
          have h1 := (HP.out.perm (star_left_comm _ _ _)).drop
          unfold splitOf
          rw [← HN.out, ← hie]; exact h1⟩
        go_wp2
        go_ret
        obtain ⟨W, hW, ho⟩ := HF.out
        exact ⟨_, rfl, by rw [← hW]; exact ho⟩
      have c1 := str_get (HP.out.perm (star_left_comm _ _ _)) i hin
      have hil : ((List.range i).map (splitAt t z)).length = i := by simp
      obtain ⟨T, hT⟩ : ∃ T, T = (splitAt t z i).text := ⟨_, rfl⟩
      rw [← hT] at c1
      obtain ⟨L, hL⟩ : ∃ L, L = (List.range i).map (splitAt t z) := ⟨_, rfl⟩
      rw [← hL] at HP hil
      have HPW : Hid (Own w0 (Sl 50 3 u6 L.length (L.flatMap pcCells) * (StrSl (.slice (some ⟨lb, lo, none⟩) n lcap) (txts t z n) * R)) wr) := HP
      have HT := Lib.hid hT; have HL := Lib.hid hL
      clear hT hL
      go_wp2_with (at_builtin; refine wpList_app rfl _ _ 35 rfl 50 3 32 _ info_pc Tryd.underlying35 rfl (by decide) rfl (HPW.out.alloc' _) rfl (by rfl) (Rd_lit rfl (by unfold maxLen; omega)) (by intro u hu; simp at hu; rcases hu with rfl | rfl | rfl <;> rfl) (by unfold maxLen; omega) (by omega) ?_; intro v5 w6 hown'; have HO6 := Lib.hid (pc_snoc (p := splitAt t z i) (by simp only [pcCells, splitAt, ← HN.out]; rw [HT.out]; rfl) hown'); clear hown')
      go_round
      case rel => exact ⟨i + 1, by omega, by go_num, Lib.hid (by rw [split_succ, ← HL.out]; exact HO6.out)⟩
      case measure => simp [intOf]; omega
end Go.Proofs.YtbfiahdddbcebaaDoor
