/- Contracts of package history, continued: Pasts. -/
import Derived.Test.YtddbjcpfgjcmnaaHist5
namespace Go.Proofs.Ytddbjcpfgjcmnaa
set_option linter.unusedVariables false
set_option linter.unusedSimpArgs false
open Go.RowKit
theorem bools_info : (Try.prog.info? 59).map (fun i => (i.zero, i.size, i.bytes)) = some (some (.slice none 0 0), 1, 24) := by kernel_rfl
theorem Own.bt_nils {w0 w : World} {b n : Nat} {R : HProp} (h : Own w0 (SlAt 59 1 b 0 n n (List.replicate n (.slice none 0 0)) * R) w) : Own w0 (BTab b n (List.replicate n (.slice none 0 0, [])) * R) w := by
  refine h.perm ?_
  unfold BTab TabO
  rw [starL_nils BRow (.slice none 0 0, []) (by unfold BRow BoolSl; exact Sl_nil _ _), List.length_replicate, List.map_replicate, star_emp]
theorem Own.bt_fill {w0 w : World} {rb n k b m : Nat} {rs : List (Value × List Bool)} {R : HProp} (h : Own w0 (SlAt 4 1 b 0 m m (List.replicate m (.bool false)) * (BTab rb n rs * R)) w) (hk : rs[k]? = some (.slice none 0 0, [])) :
    Own w0 (BTab rb n (rs.set k (.slice (some ⟨b, 0, none⟩) m m, List.replicate m false)) * R) (w.setCell ⟨rb, k, none⟩ (.slice (some ⟨b, 0, none⟩) m m)) := by
  obtain ⟨hlt, he⟩ := List.getElem?_eq_some_iff.1 hk
  have h1 := (h.perm (star_left_comm _ _ _)).tab_take hlt
  rw [he] at h1
  have h2 : Own w0 (BRow (.slice (some ⟨b, 0, none⟩) m m, List.replicate m false) * (SlAt 59 1 rb 0 rs.length n (rs.map (·.1)) * (starL BRow (rs.eraseIdx k) * R))) w := by
    have h3 : Own w0 (SlAt 4 1 b 0 m m (List.replicate m (.bool false)) * (SlAt 59 1 rb 0 rs.length n (rs.map (·.1)) * (starL BRow (rs.eraseIdx k) * R))) w := by
      refine h1.drop.perm ?_
      ac_rfl
    have h4 := h3.sl_of_at
    refine h4.perm ?_
    congr 1
    unfold BRow BoolSl
    simp
  have h5 := Own.tab_put hlt h2
  rw [Nat.zero_add] at h5
  exact h5
theorem pRows_next (hs : List Ev) (k n : Nat) (hk : k < n) : pRows hs k n (pastRow hs (pastsR hs k) k k) = pastsR hs (k + 1) ++ List.replicate (n - (k + 1)) [] := by
  unfold pRows
  simp only [pastsR, List.append_assoc, List.singleton_append]
  congr 3
theorem pRows_start (hs : List Ev) (k n : Nat) (r : List Bool) (hk : k < n) : (pastsR hs k ++ List.replicate (n - k) []).set k r = pRows hs k n r := by
  unfold pRows
  rw [List.set_append_right _ _ (by rw [pastsR_len]; omega), pastsR_len, Nat.sub_self]
  obtain ⟨m, hm⟩ : ∃ m, n - k = m + 1 := ⟨n - k - 1, by omega⟩
  rw [hm]
  simp [List.replicate_succ]
set_option maxRecDepth 100000 in
set_option maxHeartbeats 4000000 in
theorem hPasts_any {w0 w : World} {R : HProp} (v : Value) (hs : List Ev) (h : Own w0 R w) (hv : ReadsE w0 R v hs) (hlen : hs.length ≤ 60) :
    Calls Try.prog 18 #[v] w fun e w' => ∃ b rs, e = .returned (.slice (some ⟨b, 0, none⟩) hs.length hs.length) ∧ rs.map (·.2) = pastsR hs hs.length ∧ Own w0 (BTab b hs.length rs * R) w' := by
  obtain ⟨had, hcap, rfl, hc1, hc2⟩ := (hv _ h).shape
  obtain ⟨n, hn⟩ : ∃ n, n = hs.length := ⟨_, rfl⟩
  rw [← hn] at hc1 hlen hv ⊢
  have H := Lib.hid h; have HV := Lib.hid hv; have HN := Lib.hid hn
  clear h hv hn
  go_enter Try.func18, Try.ntmps18
  go_wp2_with (at_make; refine wpList_mk rfl _ _ 60 rfl 59 24 (.slice none 0 0) Try.underlying60 bools_info rfl n rfl rfl (by omega) (by decide) H.out ?_; intro rb w1 ho; have H1 := Lib.hid ho.bt_nils; clear ho)
  go_loopw [15] (fun iv wr => ∃ (k : Nat) (rs : List (Value × List Bool)), k ≤ n ∧ iv = .int .i64 k ∧ Hid (rs.map (·.2) = pastsR hs k ++ List.replicate (n - k) []) ∧ Hid (∀ i, k ≤ i → i < n → rs[i]? = some (.slice none 0 0, [])) ∧ Hid (Own w0 (BTab rb n rs * R) wr)) (fun iv _ => n - (intOf iv).toNat)
  case atStart => exact ⟨0, _, Nat.zero_le _, rfl, Lib.hid (by simp [pastsR]), Lib.hid (fun i _ hi => by simp [hi]), H1⟩
  case round =>
    clear H1
    obtain ⟨k, rs, hk, rfl, HM, HZ, HO⟩ := hrel
    by_cases hlt : k < n
    rotate_left
    · have hkn : k = n := by omega
      have hm := HM.out
      rw [hkn, Nat.sub_self, List.replicate_zero, List.append_nil] at hm
      have HM := Lib.hid hm
      clear hm
      go_wp2
      go_ret
      exact ⟨rb, rs, rfl, by rw [HM.out, HN.out], HO.out⟩
    obtain ⟨aa, pb, po, ps, rfl, hea, hcs, _⟩ := HV.out.more.at HO.out k (by rw [← HN.out]; exact hlt)
    obtain ⟨x, hx⟩ : ∃ x, x = evAt hs k := ⟨_, rfl⟩
    rw [← hx] at hcs
    obtain ⟨c0, c1, c2⟩ := hcs _ HO.out
    obtain ⟨x1, x2, x3⟩ := x
    simp only at c0 c1 c2
    obtain ⟨eb, hb_eb⟩ : ∃ zz_, zz_ = (wr).heap.size := ⟨_, rfl⟩
    obtain ⟨w1, hw_w1⟩ : ∃ zz_, zz_ = (wr).alloc (.cells #[.int .i64 x1, .int .i64 x2, .int .i64 x3] 40 (0, 0)) := ⟨_, rfl⟩
    have h_HO1 := (HO.out).alloc (.cells #[.int .i64 x1, .int .i64 x2, .int .i64 x3] 40 (0, 0))
    rw [← hb_eb, ← hw_w1] at h_HO1
    have HO1 := Lib.hid h_HO1
    clear h_HO1
    have hz_ := HZ.out k (Nat.le_refl _) hlt
    have k0 : (0 : Int) ≤ (k : Int) := by omega
    have k1 : (k : Int) < (n : Int) := by omega
    have HCS := Lib.hid hcs; have HX := Lib.hid hx; have HZ_ := Lib.hid hz_
    clear hcs hx hz_
    go_upto_region 5 with fail
    rw [← hb_eb, ← hw_w1]
    clear hb_eb hw_w1
    clear c0 c1 c2
    go_upto_region 6 with (at_make; refine wpList_mk rfl _ _ 59 rfl 4 1 (.bool false) Try.underlying59 bool_info rfl n rfl rfl (by omega) (by decide) HO1.out ?_; intro b2 w2 ho; have ho2 := ho.perm (show _ = SlAt 4 1 b2 0 n n (List.replicate n (.bool false)) * (BTab rb n rs * (EvO eb (x1, x2, x3) * R)) by unfold EvO; ac_rfl); have c1 := (ho2.perm (star_left_comm _ _ _)).bt_cell HZ_.out; have f1 := (ho2.perm (star_left_comm _ _ _)).bt_free; have HF := Lib.hid (ho2.bt_fill HZ_.out); clear ho ho2)
    obtain ⟨w3, hw3⟩ : ∃ w3, w3 = w2.setCell ⟨rb, k, none⟩ (.slice (some ⟨b2, 0, none⟩) n n) := ⟨_, rfl⟩
    rw [← hw3] at HF ⊢
    clear c1 f1 hw3
    have hm2 : (rs.set k (.slice (some ⟨b2, 0, none⟩) n n, List.replicate n false)).map (·.2) = pRows hs k n (List.replicate n false) := by
      rw [map_put HM.out, pRows_start hs k n _ hlt]
    have HZ2 : Hid (∀ i, k + 1 ≤ i → i < n → (rs.set k (.slice (some ⟨b2, 0, none⟩) n n, List.replicate n false))[i]? = some (.slice none 0 0, [])) := Lib.hid (fun i h1 h2 => by rw [List.getElem?_set, if_neg (by omega)]; exact HZ.out i (by omega) h2)
    have HM2 := Lib.hid hm2
    clear hm2
    clear HM HZ HZ_
    go_upto_block 2 with fail
    refine paMid w0 R rb n k eb hcap (some aa) hs (x1, x2, x3) _ hlt hlen hc1 hc2 (Lib.hid HN.out.symm) HX HV HM2 HF ?_
    intros
    rename_i hcut
    obtain ⟨rs', y, hy, hm3, ho3⟩ := hcut
    have HZ3 : Hid (∀ i, k + 1 ≤ i → i < n → rs'[i]? = some (.slice none 0 0, [])) := Lib.hid (fun i h1 h2 => by rw [hy, List.getElem?_set, if_neg (by omega)]; exact HZ2.out i h1 h2)
    rw [pRows_next hs k n hlt] at hm3
    have HO3 := Lib.hid (ho3.perm (star_left_comm _ _ _)).drop
    clear ho3 hy
    have HM3 := Lib.hid hm3
    clear hm3
    go_wp2
    go_roundw
    case rel => exact ⟨k + 1, rs', by omega, by go_num, HM3, HZ3, HO3⟩
    case measure => simp [intOf]; omega
end Go.Proofs.Ytddbjcpfgjcmnaa
