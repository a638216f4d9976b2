/- Contracts of package view: Shared, most. -/
import Derived.Test.YtpgonkecicmanaaDoorMFlushPlays5
namespace Go.Proofs.YtpgonkecicmanaaDoor
set_option linter.unusedVariables false
set_option linter.unusedSimpArgs false
open Go.RowKit
theorem keepB_le (B l : List Int) : (keepB B l).length ≤ l.length := List.length_filter_le _ _
set_option maxRecDepth 100000 in
set_option maxHeartbeats 4000000 in
theorem shared_any {w0 w : World} {R : HProp} (va vb : Value) (A B : List Int) (hA : Reads w0 R va A) (hB : Reads w0 R vb B) (hlen : A.length ≤ 100000) (h : Own w0 R w) :
    Calls Tryd.prog 88 #[va, vb] w fun e w' => ∃ v', e = .returned v' ∧ Own w0 (IntSl v' (keepB B A) * R) w' := by
  obtain ⟨bd, bcap, hvb, _, _⟩ := (hB _ h).shape
  subst hvb
  have hAI := (hA _ h).2
  have ho := h.alloc (.cells #[.slice bd B.length bcap] 38)
  obtain ⟨c, hc⟩ : ∃ c, c = w.heap.size := ⟨_, rfl⟩
  obtain ⟨w1, hw1⟩ : ∃ w1, w1 = w.alloc (.cells #[.slice bd B.length bcap] 38) := ⟨_, rfl⟩
  rw [← hc, ← hw1] at ho
  have HO := Lib.hid ho
  have HA1 := Lib.hid (hA.more _ ho)
  have HBB : Hid (∀ w', Own w0 (blk c (.cells #[.slice bd B.length bcap] 38 (0, 0)) * R) w' → w'.cell? ⟨c, 0, none⟩ = some (.slice bd B.length bcap) ∧ Ints w' (.slice bd B.length bcap) B) := Lib.hid (fun w' h' => ⟨by rw [h'.cell]; rfl, hB.more _ h'⟩)
  have H := Lib.hid h; have HA := Lib.hid hA; have HB := Lib.hid hB; have HAI := Lib.hid hAI
  clear h hA hB hAI
  clear ho
  go_enter Tryd.func88, Tryd.ntmps88
  go_upto_region 1 with fail
  rw [← hc, ← hw1]
  clear hc hw1
  go_wp2_with fail
  refine (cloneInts_any HO.out va A HA1.out hlen).mono ?_
  rintro e w2 ⟨v1, rfl, ho⟩
  have HO2 := Lib.hid ho
  clear ho
  go_wp2_with fail
  refine (del_any c v1 _ A B HAI.out HBB HO2.out).mono ?_
  rintro e w3 ⟨v2, rfl, ho⟩
  have HO3 := Lib.hid ho
  clear ho
  go_wp2
  go_ret
  exact ⟨v2, rfl, (HO3.out.perm (star_left_comm _ _ _)).drop⟩
def mostB (A B : List Int) : Bool := decide ((A.length : Int) < 2 * ((keepB B A).length : Int))
set_option maxRecDepth 100000 in
set_option maxHeartbeats 4000000 in
theorem most_any {w0 w : World} {R : HProp} (va vb : Value) (A B : List Int) (hA : Reads w0 R va A) (hB : Reads w0 R vb B) (hlen : A.length ≤ 100000) (h : Own w0 R w) :
    Calls Tryd.prog 117 #[va, vb] w fun e w' => e = .returned (.bool (mostB A B)) ∧ Own w0 R w' := by
  obtain ⟨ad, acap, hva, hac, hac2⟩ := (hA _ h).shape
  subst hva
  have hk := keepB_le B A
  obtain ⟨K, hK⟩ : ∃ K, K = (keepB B A).length := ⟨_, rfl⟩
  rw [← hK] at hk
  have hm : decide ((A.length : Int) < 2 * (K : Int)) = mostB A B := by unfold mostB; rw [hK]
  have H := Lib.hid h; have HA := Lib.hid hA; have HB := Lib.hid hB; have HK := Lib.hid hK
  clear h hA hB hK
  have HMB := Lib.hid hm
  clear hm
  go_enter Tryd.func117, Tryd.ntmps117
  go_wp2_with fail
  refine (shared_any _ vb A B HA.out HB.out hlen H.out).mono ?_
  rintro e w2 ⟨v1, rfl, ho⟩
  obtain ⟨ad1, cap1, hs1, _⟩ := Own.rd ho
  rw [← HK.out] at hs1
  subst hs1
  have HO2 := Lib.hid ho
  clear ho
  go_wp2
  go_ret
  exact ⟨by rw [← HMB.out]; rfl, HO2.out.drop⟩
end Go.Proofs.YtpgonkecicmanaaDoor
/- Contracts of package view: Next. -/
namespace Go.Proofs.YtpgonkecicmanaaDoor
set_option linter.unusedVariables false
set_option linter.unusedSimpArgs false
open Go.RowKit
def nextErr (n : Int) (A B : List Int) : Nat := if viewErr n A ≠ 0 then viewErr n A else if n = 1000000 then 4 else if memErr B ≠ 0 then memErr B else if mostB A B = false then 8 else 0
def nextN (n : Int) (A B : List Int) : Int := if nextErr n A B = 0 then n + 1 else 0
def nextHas (n : Int) (A B : List Int) : List Int := if nextErr n A B = 0 then B else []
theorem memGo_len : ∀ (l : List Int) (last : Int), -1 ≤ last → memGo last l = 0 → (l.length : Int) + last ≤ 4 ∨ l = []
  | [], last, h, _ => .inr rfl
  | m :: r, last, h, he => by
    unfold memGo at he
    split at he
    · cases he
    rename_i h1
    split at he
    · cases he
    rename_i h2
    have hm : 0 ≤ m ∧ m < 5 := by simpa [isMember] using h1
    left
    rcases memGo_len r m (by omega) he with h3 | h3
    · simp only [List.length_cons]; omega
    · subst h3; simp; omega
theorem memErr_len {l : List Int} (h : memErr l = 0) : 1 ≤ l.length ∧ l.length ≤ 5 := by
  unfold memErr at h
  split at h
  · cases h
  rename_i h0
  have hp : 0 < l.length := by cases l with | nil => exact absurd rfl h0 | cons a r => simp
  rcases memGo_len l (-1) (by omega) h with h1 | h1
  · omega
  · exact absurd h1 h0
theorem viewErr0 {n : Int} {A : List Int} (h : viewErr n A = 0) : (0 ≤ n ∧ n ≤ 1000000) ∧ memErr A = 0 := by
  unfold viewErr at h
  split at h
  · cases h
  rename_i h1
  exact ⟨by simpa [isCount] using h1, h⟩
theorem errV_pos {E : Nat} (h : E ≠ 0) : errV E = .iface 125 (.int .i64 (E : Int)) := by
  cases E with
  | zero => exact absurd rfl h
  | succ k => rfl
def VwO (b : Nat) (n : Int) (v : Value) : HProp := blk b (.cells #[.int .i64 n, v] 87 (0, 0))
theorem Own.vw {w0 w : World} {b : Nat} {n : Int} {v : Value} {R : HProp} (h : Own w0 (VwO b n v * R) w) : w.cell? ⟨b, 0, none⟩ = some (.int .i64 n) ∧ w.cell? ⟨b, 1, none⟩ = some v ∧ ∀ i s, w.frozen? ⟨b, i, s⟩ = false :=
  ⟨by rw [Own.cell h]; rfl, by rw [Own.cell h]; rfl, fun i s => Own.free h i s⟩
theorem Own.vw_put {w0 w : World} {b : Nat} {n : Int} {v : Value} {R : HProp} (n' : Int) (v' : Value) (h : Own w0 (VwO b n v * R) w) : Own w0 (VwO b n' v' * R) ((w.setCell ⟨b, 0, none⟩ (.int .i64 n')).setCell ⟨b, 1, none⟩ v') :=
  (Own.setCell (i := 1) (v := v') (Own.setCell (i := 0) (v := .int .i64 n') h)).perm rfl
set_option maxRecDepth 100000 in
set_option maxHeartbeats 4000000 in
theorem viewNext_no1 {w0 w : World} {R : HProp} (n : Int) (va vb : Value) (A B : List Int) (hA : Reads w0 R va A) (hB : Reads w0 R vb B) (h : Own w0 R w) (he : viewErr n A ≠ 0) :
    Calls Tryd.prog 87 #[.agg #[.int .i64 n, va], vb] w fun e w' => e = .returned (.tuple #[.agg #[.int .i64 0, .slice none 0 0], errV (viewErr n A)]) ∧ Own w0 R w' := by
  obtain ⟨ad, acap, hva, hac, hac2⟩ := (hA _ h).shape
  subst hva
  obtain ⟨b1, hb1⟩ : ∃ c, c = w.heap.size := ⟨_, rfl⟩
  have h1 := h.alloc (.cells #[.int .i64 n, .slice ad A.length acap] 87)
  rw [← hb1] at h1
  have h2 := h1.alloc (.cells #[.int .i64 0, .slice none 0 0] 87)
  obtain ⟨b2, hb2⟩ : ∃ c, c = (w.alloc (.cells #[.int .i64 n, .slice ad A.length acap] 87)).heap.size := ⟨_, rfl⟩
  rw [← hb2] at h2
  obtain ⟨w1, hw1⟩ : ∃ w1, w1 = (w.alloc (.cells #[.int .i64 n, .slice ad A.length acap] 87)).alloc (.cells #[.int .i64 0, .slice none 0 0] 87) := ⟨_, rfl⟩
  rw [← hw1] at h2
  have hb2' : w.heap.size + 1 = b2 := by rw [hb2]; simp
  have HO : Hid (Own w0 (VwO b2 0 (.slice none 0 0) * (VwO b1 n (.slice ad A.length acap) * R)) w1) := Lib.hid h2
  obtain ⟨c0, c1, _⟩ := (HO.out.perm (star_left_comm _ _ _)).vw
  have hee := errV_pos he
  have HAM : Hid (Reads w0 (VwO b2 0 (.slice none 0 0) * (VwO b1 n (.slice ad A.length acap) * R)) (.slice ad A.length acap) A) := Lib.hid hA.more.more
  have H := Lib.hid h; have HA := Lib.hid hA; have HB := Lib.hid hB; have HB2 := Lib.hid hb2; have HE := Lib.hid he
  clear h hA hB hb2 he
  clear h1 h2
  go_enter Tryd.func87, Tryd.ntmps87
  go_upto_region 1 with fail
  rw [← hb1, ← hw1]
  clear hb1 hw1 hb2'
  go_wp2_with fail
  refine (viewCheck_any n _ A HO.out HAM.out).mono ?_
  rintro e w2 ⟨rfl, ho⟩
  rw [hee]
  have HO2 := Lib.hid ho
  obtain ⟨d0, d1, d2⟩ := ho.vw
  have d20 := d2 0 none
  have d21 := d2 1 none
  have HEE := Lib.hid hee
  clear ho hee d2
  have hput := HO2.out.vw_put 0 (.slice none 0 0)
  obtain ⟨p0, p1, _⟩ := hput.vw
  have HO3 := Lib.hid hput.drop.drop
  clear hput
  go_wp2_with fail
  exact bodyPost_ret (v := .tuple #[.agg #[.int .i64 0, .slice none 0 0], errV (viewErr n A)]) (by simp [results, Tryd.results87, go_sem, p0, p1]; exact HEE.out.symm) rfl ⟨rfl, HO3.out⟩
def NextPost (w0 : World) (R : HProp) (n : Int) (A B : List Int) (e : Ending) (w' : World) : Prop :=
  ∃ v', e = .returned (.tuple #[.agg #[.int .i64 (nextN n A B), v'], errV (nextErr n A B)]) ∧ Own w0 (IntSl v' (nextHas n A B) * R) w'
theorem NextPost.no {w0 w' : World} {R : HProp} {n : Int} {A B : List Int} {E : Nat} {x : Value} (h : nextErr n A B = E) (hE : E ≠ 0) (hx : x = errV E) (ho : Own w0 R w') : NextPost w0 R n A B (.returned (.tuple #[.agg #[.int .i64 0, .slice none 0 0], x])) w' := by
  subst h; subst hx
  exact ⟨.slice none 0 0, by unfold nextN; rw [if_neg hE], by unfold nextHas; rw [if_neg hE]; exact ho.sl_nil _ _⟩
set_option maxRecDepth 100000 in
set_option maxHeartbeats 4000000 in
theorem viewNext_rest {w0 w : World} {R : HProp} (n : Int) (va vb : Value) (A B : List Int) (hA : Reads w0 R va A) (hB : Reads w0 R vb B) (h : Own w0 R w) (he : viewErr n A = 0) :
    Calls Tryd.prog 87 #[.agg #[.int .i64 n, va], vb] w fun e w' => NextPost w0 R n A B e w' := by
  obtain ⟨ad, acap, hva, hac, hac2⟩ := (hA _ h).shape
  subst hva
  obtain ⟨b1, hb1⟩ : ∃ c, c = w.heap.size := ⟨_, rfl⟩
  have h1 := h.alloc (.cells #[.int .i64 n, .slice ad A.length acap] 87)
  rw [← hb1] at h1
  have h2 := h1.alloc (.cells #[.int .i64 0, .slice none 0 0] 87)
  obtain ⟨b2, hb2⟩ : ∃ c, c = (w.alloc (.cells #[.int .i64 n, .slice ad A.length acap] 87)).heap.size := ⟨_, rfl⟩
  rw [← hb2] at h2
  obtain ⟨w1, hw1⟩ : ∃ w1, w1 = (w.alloc (.cells #[.int .i64 n, .slice ad A.length acap] 87)).alloc (.cells #[.int .i64 0, .slice none 0 0] 87) := ⟨_, rfl⟩
  rw [← hw1] at h2
  have hb2' : w.heap.size + 1 = b2 := by rw [hb2]; simp
  have HO : Hid (Own w0 (VwO b2 0 (.slice none 0 0) * (VwO b1 n (.slice ad A.length acap) * R)) w1) := Lib.hid h2
  obtain ⟨c0, c1, _⟩ := (HO.out.perm (star_left_comm _ _ _)).vw
  have HAM : Hid (Reads w0 (VwO b2 0 (.slice none 0 0) * (VwO b1 n (.slice ad A.length acap) * R)) (.slice ad A.length acap) A) := Lib.hid hA.more.more
  have HBM : Hid (Reads w0 (VwO b2 0 (.slice none 0 0) * (VwO b1 n (.slice ad A.length acap) * R)) vb B) := Lib.hid hB.more.more
  obtain ⟨hnb, hmA⟩ := viewErr0 he
  have hA5 := (memErr_len hmA).2
  have hn1 := hnb.1
  have hn2 := hnb.2
  have hne : nextErr n A B = if n = 1000000 then 4 else if memErr B ≠ 0 then memErr B else if mostB A B = false then 8 else 0 := by unfold nextErr; rw [he]; rfl
  have H := Lib.hid h; have HA := Lib.hid hA; have HB := Lib.hid hB; have HB2 := Lib.hid hb2; have HE := Lib.hid he; have HMA := Lib.hid hmA; have HNE := Lib.hid hne
  clear h hA hB hb2 he hmA hne
  clear h1 h2 hnb
  go_enter Tryd.func87, Tryd.ntmps87
  go_upto_region 1 with fail
  rw [← hb1, ← hw1]
  clear hb1 hw1 hb2'
  go_wp2_with fail
  refine (viewCheck_any n _ A HO.out HAM.out).mono ?_
  rintro e w2 ⟨rfl, ho⟩
  rw [HE.out]
  have HO2 := Lib.hid ho
  obtain ⟨d0, d1, d2⟩ := ho.vw
  have d20 := d2 0 none
  have d21 := d2 1 none
  obtain ⟨f0, f1, _⟩ := (ho.perm (star_left_comm _ _ _)).vw
  clear ho d2 c0 c1
  rw [errV0]
  by_cases hM : n = 1000000
  · have hE : nextErr n A B = 4 := by rw [HNE.out, if_pos hM]
    have t1 : (n == 1000000) = true := by rw [beq_iff_eq]; exact hM
    have hput := HO2.out.vw_put 0 (.slice none 0 0)
    obtain ⟨p0, p1, _⟩ := hput.vw
    have HO3 := Lib.hid hput.drop.drop
    have HE_ := Lib.hid hE
    clear hE
    have HM := Lib.hid hM
    clear hM
    clear hput
    go_wp2_with fail
    exact bodyPost_ret (v := .tuple #[.agg #[.int .i64 0, .slice none 0 0], errV 4]) (by simp [results, Tryd.results87, go_sem, p0, p1]; rfl) rfl (NextPost.no HE_.out (by simp) rfl HO3.out)
  have t1 : (n == 1000000) = false := by rw [beq_eq_false_iff_ne]; exact hM
  by_cases hmB : memErr B = 0
  rotate_left
  · have hE : nextErr n A B = memErr B := by rw [HNE.out, if_neg hM, if_pos hmB]
    have hee := errV_pos hmB
    have hput := HO2.out.vw_put 0 (.slice none 0 0)
    obtain ⟨p0, p1, _⟩ := hput.vw
    have HO3 := Lib.hid hput.drop.drop
    have HE_ := Lib.hid hE
    clear hE
    have HM := Lib.hid hM; have HEE := Lib.hid hee; have HMB := Lib.hid hmB
    clear hM hee hmB
    clear hput
    go_wp2_with fail
    refine (members_any vb B _ (HBM.out _ HO2.out)).mono ?_
    rintro e w' ⟨rfl, rfl⟩
    rw [HEE.out]
    go_wp2_with fail
    exact bodyPost_ret (v := .tuple #[.agg #[.int .i64 0, .slice none 0 0], errV (memErr B)]) (by simp [results, Tryd.results87, go_sem, p0, p1]; exact HEE.out.symm) rfl (NextPost.no HE_.out HMB.out rfl HO3.out)
  have hB5 := (memErr_len hmB).2
  have hee : errV (memErr B) = .nilIface := by rw [hmB]; rfl
  cases hmo : mostB A B
  · have hE : nextErr n A B = 8 := by rw [HNE.out, if_neg hM, if_neg (by rw [hmB]; simp), if_pos hmo]
    have HE_ := Lib.hid hE
    clear hE
    have HM := Lib.hid hM; have HEE := Lib.hid hee; have HMB := Lib.hid hmB; have HMO := Lib.hid hmo
    clear hM hee hmB hmo
    go_wp2_with fail
    refine (members_any vb B _ (HBM.out _ HO2.out)).mono ?_
    rintro e w' ⟨rfl, rfl⟩
    rw [HEE.out]
    go_wp2_with fail
    refine (most_any _ vb A B HAM.out HBM.out (by omega) HO2.out).mono ?_
    rintro e w3 ⟨rfl, ho⟩
    rw [HMO.out]
    obtain ⟨_, _, g2⟩ := ho.vw
    have g20 := g2 0 none
    have g21 := g2 1 none
    have q0 := ho.vw.1
    have q1 := ho.vw.2.1
    have hput := ho.vw_put 0 (.slice none 0 0)
    obtain ⟨p0, p1, _⟩ := hput.vw
    have HO3 := Lib.hid hput.drop.drop
    clear hput ho g2
    go_wp2_with fail
    exact bodyPost_ret (v := .tuple #[.agg #[.int .i64 0, .slice none 0 0], errV 8]) (by simp [results, Tryd.results87, go_sem, p0, p1]; rfl) rfl (NextPost.no HE_.out (by simp) rfl HO3.out)
  · have hE : nextErr n A B = 0 := by rw [HNE.out, if_neg hM, if_neg (by rw [hmB]; simp), if_neg (by rw [hmo]; simp)]
    have HE_ := Lib.hid hE
    clear hE
    have HM := Lib.hid hM; have HEE := Lib.hid hee; have HMB := Lib.hid hmB; have HMO := Lib.hid hmo
    clear hM hee hmB hmo
    go_wp2_with fail
    refine (members_any vb B _ (HBM.out _ HO2.out)).mono ?_
    rintro e w' ⟨rfl, rfl⟩
    rw [HEE.out]
    go_wp2_with fail
    refine (most_any _ vb A B HAM.out HBM.out (by omega) HO2.out).mono ?_
    rintro e w3 ⟨rfl, ho⟩
    rw [HMO.out]
    have HO3 := Lib.hid ho
    obtain ⟨q0, q1, g2⟩ := ho.vw
    obtain ⟨r0, r1, _⟩ := (ho.perm (star_left_comm _ _ _)).vw
    have g20 := g2 0 none
    have g21 := g2 1 none
    clear ho g2
    go_wp2_with fail
    refine wp_region_planH 6 [] [(true, 0), (true, 1), (true, 2), (true, 3), (false, 4), (true, 5)] [6, 7] (fun wS => wS.cell? ⟨b1, 0, none⟩ = some (.int .i64 n)) (by kernel_rfl) (by kernel_rfl) (r0) ?_
    simp only [pickH, pick, List.getElem?_cons_succ, List.getElem?_cons_zero, Option.toList, Option.map_some, List.cons_append, List.nil_append]
    repeat (refine wpPure_step ?_ rfl ?_ ?_; rotate_left; (focus (intro _; first | with_reducible rfl | (go_simp; done) | (go_simp; with_reducible rfl) | rfl)); go_simp)
    refine wpPure_nil ?_
    repeat (refine wpMix_read ?_ rfl ?_ ?_; rotate_left; (focus (intro _ hS; obtain s1 := hS; first | with_reducible rfl | (go_simp; done) | (go_simp; with_reducible rfl) | rfl)); go_simp)
    refine wpMix_write (fun K hK => ?_)
    go_simp
    refine (cloneInts_any HO3.out.drew vb B (HBM.out _ HO3.out.drew) (by omega)).mono ?_
    rintro e w4 ⟨v4, rfl, ho⟩
    obtain ⟨x1, x2, x3⟩ := (ho.perm (star_left_comm _ _ _)).vw
    obtain ⟨y1, _, _⟩ := (ho.perm (show _ = VwO b1 n (.slice ad A.length acap) * (IntSl v4 B * (VwO b2 0 (.slice none 0 0) * R)) by ac_rfl)).vw
    have x30 := x3 0 none
    have x31 := x3 1 none
    obtain ⟨ad4, cap4, hv4, _⟩ := Own.rd ho
    subst hv4
    have HO4 := Lib.hid ho
    have hput := (ho.perm (star_left_comm _ _ _)).vw_put (n + 1) (.slice ad4 B.length cap4)
    obtain ⟨p0, p1, _⟩ := hput.vw
    have HPUT := Lib.hid hput.drop
    clear ho hput x3
    refine hK _ _ ⟨y1, ?_⟩
    clear hK K
    go_simp
    repeat (refine wpMix_read ?_ rfl ?_ ?_; rotate_left; (focus (intro _ hS; obtain s1 := hS; first | with_reducible rfl | (go_simp; done) | (go_simp; with_reducible rfl) | rfl)); go_simp)
    refine wpMix_nil ?_
    go_wp2_with fail
    refine NoPanic.normal ?_
    go_wp2_with fail
    have hfin := (HPUT.out.perm (show _ = VwO b1 n (.slice ad A.length acap) * (IntSl (.slice ad4 B.length cap4) B * R) by ac_rfl)).drop
    exact bodyPost_ret (v := .tuple #[.agg #[.int .i64 (n + 1), .slice ad4 B.length cap4], .nilIface]) (by simp [results, Tryd.results87, go_sem, p0, p1]) rfl ⟨_, by unfold nextN; rw [if_pos HE_.out, HE_.out]; rfl, by unfold nextHas; rw [if_pos HE_.out]; exact hfin⟩
theorem viewNext_any {w0 w : World} {R : HProp} (n : Int) (va vb : Value) (A B : List Int) (hA : Reads w0 R va A) (hB : Reads w0 R vb B) (h : Own w0 R w) :
    Calls Tryd.prog 87 #[.agg #[.int .i64 n, va], vb] w fun e w' => NextPost w0 R n A B e w' := by
  by_cases he : viewErr n A = 0
  · exact viewNext_rest n va vb A B hA hB h he
  · refine (viewNext_no1 n va vb A B hA hB h he).mono ?_
    rintro e w' ⟨rfl, ho⟩
    have hE : nextErr n A B = viewErr n A := by unfold nextErr; rw [if_pos he]
    exact NextPost.no hE he rfl ho
end Go.Proofs.YtpgonkecicmanaaDoor
/- Contracts of package view: Both. -/
namespace Go.Proofs.YtpgonkecicmanaaDoor
set_option linter.unusedVariables false
set_option linter.unusedSimpArgs false
open Go.RowKit
def vbothErr (na : Int) (A : List Int) (nb : Int) (B : List Int) : Nat := if viewErr na A ≠ 0 then viewErr na A else viewErr nb B
def vbothHas (na : Int) (A : List Int) (nb : Int) (B : List Int) : List Int := if vbothErr na A nb B = 0 then keepB B A else []
end Go.Proofs.YtpgonkecicmanaaDoor
/- Contracts of package flush, continued: New, Say, Give, View, Heard. -/
namespace Go.Proofs.YtpgonkecicmanaaDoor
set_option linter.unusedVariables false
set_option linter.unusedSimpArgs false
open Go.RowKit Go.Maps
def upTo (n : Nat) : List Int := (List.range n).map fun i : Nat => (i : Int)
theorem upTo_len (n : Nat) : (upTo n).length = n := by simp [upTo]
theorem upTo_snoc (n : Nat) : upTo (n + 1) = upTo n ++ [(n : Int)] := by simp [upTo, List.range_succ]
def flNew (n : Nat) : Fl := ⟨0, upTo n, [], [], []⟩
set_option maxRecDepth 100000 in
set_option maxHeartbeats 4000000 in
theorem flNew_no {w : World} (n : Int) (hn : isGroup n = false) :
    Calls Tryd.prog 31 #[.int .i64 n] w fun e w' => e = .returned (.tuple #[.pointer none, errV 1]) ∧ w = w' := by
  have HN := Lib.hid hn
  clear hn
  go_enter Tryd.func31, Tryd.ntmps31
  go_wp2_with fail
  refine (group_any _ _).mono ?_
  rintro e w' ⟨rfl, rfl⟩
  rw [HN.out]
  go_wp2
  go_ret2
  exact ⟨rfl, rfl⟩
set_option maxRecDepth 100000 in
set_option maxHeartbeats 4000000 in
theorem flNew_yes {w0 w : World} {R : HProp} (n : Nat) (hn : isGroup n = true) (h : Own w0 R w) :
    Calls Tryd.prog 31 #[.int .i64 n] w fun e w' => ∃ p, e = .returned (.tuple #[.pointer (some ⟨p, 0, none⟩), errV 0]) ∧ Own w0 (FlP p (flNew n) * R) w' := by
  have hn5 : n ≤ 5 := by simp [isGroup] at hn; omega
  have hmm := mapfl_made
  have hmi := mapint_made
  have HN := Lib.hid hn; have H := Lib.hid h
  clear hn h
  go_enter Tryd.func31, Tryd.ntmps31
  go_wp2_with fail
  refine (group_any _ _).mono ?_
  rintro e w' ⟨rfl, rfl⟩
  rw [HN.out]
  have h1 := (H.out.map_new (enc := fun n : Int => Value.int .i64 n) (ok := I64))
  obtain ⟨mb1, hb1⟩ : ∃ b, b = w.heap.size := ⟨_, rfl⟩
  rw [← hb1] at h1
  have h2 := h1.ms_new (enc := plV) (ok := plOk) (f := rowP) (val := Prod.fst)
  obtain ⟨w1, hw1⟩ : ∃ x, x = w.alloc (.map #[] 0) := ⟨_, rfl⟩
  rw [← hw1] at h2
  obtain ⟨mb2, hb2⟩ : ∃ b, b = w1.heap.size := ⟨_, rfl⟩
  obtain ⟨w2, hw2⟩ : ∃ x, x = w1.alloc (.map #[] 0) := ⟨_, rfl⟩
  rw [← hb2, ← hw2] at h2
  have h3 := h2.alloc (.cells #[.int .i64 0, .slice none 0 0, .map (some mb1), .slice none 0 0, .map (some mb2)] 160 (0, 0))
  obtain ⟨p, hp⟩ : ∃ b, b = w2.heap.size := ⟨_, rfl⟩
  obtain ⟨w3, hw3⟩ : ∃ x, x = w2.alloc (.cells #[.int .i64 0, .slice none 0 0, .map (some mb1), .slice none 0 0, .map (some mb2)] 160 (0, 0)) := ⟨_, rfl⟩
  rw [← hp, ← hw3] at h3
  have HO3 : Hid (Own w0 (IntSl (.slice none 0 0) (upTo 0) * (flBlk p mb1 mb2 0 (.slice none 0 0) (.slice none 0 0) * (IMp mb1 (setM []) * (MpS plV plOk rowP Prod.fst mb2 [] * R)))) w3) := Lib.hid ((h3.perm (show _ = flBlk p mb1 mb2 0 (.slice none 0 0) (.slice none 0 0) * (IMp mb1 (setM []) * (MpS plV plOk rowP Prod.fst mb2 [] * R)) by unfold setM flBlk IMp; rw [List.map_nil]; ac_rfl)).sl_nil 3 1)
  have hb2' : mb1 + 1 = mb2 := by rw [hb2, hw1, hb1]; simp
  have hp' : mb2 + 1 = p := by rw [hp, hw2, hb2]; simp
  have HB2' := Lib.hid hb2'; have HP' := Lib.hid hp'
  clear hb2' hp'
  have HB1 := Lib.hid hb1; have HB2 := Lib.hid hb2; have HPP := Lib.hid hp; have HW1 := Lib.hid hw1; have HW2 := Lib.hid hw2; have HW3 := Lib.hid hw3
  clear h1 h2 h3 hb1 hb2 hp hw1 hw2 hw3
  go_upto_block 0 with fail
  rw [← HB1.out, HB2'.out, HP'.out, ← HW1.out, ← HW2.out, ← HW3.out]
  go_wp2_with fail
  go_loopw [15] (fun iv wr => ∃ k : Nat, k ≤ n ∧ iv = .int .i64 k ∧ Hid (∃ hv, Own w0 (IntSl hv (upTo k) * (flBlk p mb1 mb2 0 hv (.slice none 0 0) * (IMp mb1 (setM []) * (MpS plV plOk rowP Prod.fst mb2 [] * R)))) wr)) (fun iv _ => n - (intOf iv).toNat)
  case atStart => exact ⟨0, Nat.zero_le _, rfl, Lib.hid ⟨_, HO3.out⟩⟩
  case round =>
    obtain ⟨k, hk, rfl, HOK⟩ := hrel
    obtain ⟨hv, ho⟩ := HOK.out
    obtain ⟨ad, cp, hs⟩ := ho.int_shape
    rw [upTo_len] at hs
    subst hs
    clear HOK
    by_cases hlt : k < n
    rotate_left
    · have hkn : k = n := by omega
      subst hkn
      have HO := Lib.hid ho
      clear ho
      go_wp2
      go_ret2
      refine ⟨p, rfl, ?_⟩
      refine Own.fl_close (mb1 := mb1) (mb2 := mb2) (hv := .slice ad k cp) (sv := .slice none 0 0) (m := []) rfl ?_
      exact (HO.out.second.sl_nil 3 1).perm (by unfold FlO flNew IntSl flBlk; simp only [List.map_nil, List.length_nil, upTo_len, List.length_map]; ac_rfl)
    · have c1 : wr.cell? ⟨p, 1, none⟩ = some (.slice ad k cp) := (ho.second.cell 1).trans rfl
      have hown : Own w0 (Sl 3 1 (.slice ad k cp) k ((upTo k).map (Value.int .i64)) * (flBlk p mb1 mb2 0 (.slice ad k cp) (.slice none 0 0) * (IMp mb1 (setM []) * (MpS plV plOk rowP Prod.fst mb2 [] * R)))) wr := ho.perm (by unfold IntSl; rw [upTo_len])
      have HO := Lib.hid ho; have HOWN := Lib.hid hown
      clear ho hown
      go_wp2_with (at_builtin; refine wpList_app rfl _ _ 38 rfl 3 1 8 _ int_info Tryd.underlying38 rfl (by decide) rfl (HOWN.out.alloc' _) (by rfl) (by rfl) (Rd_lit (by simp) (by unfold maxLen; omega)) (by intro u hu; simp at hu; subst hu; rfl) (by unfold maxLen; omega) (by omega) ?_; intro v' w5 ho5; obtain ⟨ad5, cp5, hv5, _⟩ := Own.rd ho5; subst hv5; have g1 : w5.cell? ⟨p, 1, none⟩ = some (.slice ad k cp) := (ho5.second.cell 1).trans rfl; have g2 := ho5.second.free 1 none; have HS := Lib.hid (ho5.second.setCell (i := 1) (v := .slice ad5 (k + 1) cp5)); clear ho5)
      go_round
      case rel =>
        refine ⟨k + 1, by omega, by go_num, Lib.hid ⟨.slice ad5 (k + 1) cp5, ?_⟩⟩
        refine HS.out.second.perm ?_
        unfold IntSl flBlk
        rw [upTo_len, upTo_snoc, List.map_append]
        rfl
      case measure => simp [intOf]; omega
def flSayErr (s : Fl) (who word : Int) : Nat := if flChk s who word ≠ 0 then flChk s who word else if word ∈ s.all then 7 else 0
def flSay (s : Fl) (who word : Int) : Fl := if flSayErr s who word = 0 then flHear { s with all := setPut s.all word, said := s.said ++ [word] } who word else s
def flGiveErr (s : Fl) (who word : Int) : Nat := if flChk s who word ≠ 0 then flChk s who word else if decide (word ∈ s.said) = false then 5 else if flHas s who word = true then 7 else 0
def flGive (s : Fl) (who word : Int) : Fl := if flGiveErr s who word = 0 then flHear s who word else s
theorem flChk0 {s : Fl} {who word : Int} (h : flChk s who word = 0) : isMember who = true ∧ isWord word = true ∧ who ∈ s.has := by
  unfold flChk at h
  cases h1 : isMember who
  · rw [if_pos h1] at h; cases h
  rw [if_neg (by rw [h1]; simp)] at h
  cases h2 : isWord word
  · rw [if_pos h2] at h; cases h
  rw [if_neg (by rw [h2]; simp)] at h
  by_cases h3 : who ∈ s.has
  · exact ⟨rfl, rfl, h3⟩
  · rw [if_pos (by simp [h3])] at h; cases h
theorem member_I64 {x : Int} (h : isMember x = true) : I64 x := by simp [isMember] at h; unfold I64; omega
theorem flOk_said {s : Fl} (h : flOk s) (word : Int) (hw : I64 word) (a : List Int) (hl : s.said.length ≤ 900) : flOk { s with all := a, said := s.said ++ [word] } := by
  refine ⟨h.1, h.2.1, ⟨by simp; omega, fun x hx => ?_⟩, h.2.2.2⟩
  rcases List.mem_append.1 hx with hx | hx
  · exact h.2.2.1.2 x hx
  · simp at hx; rw [hx]; exact hw
theorem flSaid_put {w0 w : World} {R : HProp} {p mb1 mb2 : Nat} {s S2 : Fl} {word : Int} {hv : Value} {ad sa : Option Addr} {cp sc L : Nat} {m : List FRow} (hS2 : S2 = { s with all := setPut s.all word, said := s.said ++ [word] }) (hm : mvals Prod.snd m = s.heard) (hL : L = s.said.length)
    (h : Own w0 (Sl 3 1 (.slice ad (L + 1) cp) (L + 1) (s.said.map (Value.int .i64) ++ [.int .i64 word]) * (flBlk p mb1 mb2 s.n hv (.slice sa L sc) * (IntSl hv s.has * (IMp mb1 (setM (setPut s.all word)) * (MpS plV plOk rowP Prod.fst mb2 m * R))))) w) : Own w0 (FlP p S2 * R) (w.setCell ⟨p, 3, none⟩ (.slice ad (L + 1) cp)) := by
  have h6 := h.second.setCell (i := 3) (v := .slice ad (L + 1) cp)
  refine Own.fl_close (mb1 := mb1) (mb2 := mb2) (hv := hv) (sv := .slice ad (L + 1) cp) (m := m) (by rw [hS2]; exact hm) (h6.perm ?_)
  rw [hS2]
  unfold FlO IntSl
  rw [List.length_append, List.map_append, ← hL]
  simp only [List.length_singleton, List.map_cons, List.map_nil]
  show (blk p (.cells #[.int .i64 s.n, hv, .map (some mb1), .slice ad (L + 1) cp, .map (some mb2)] 160 (0, 0)) * _ : HProp) = _
  ac_rfl
set_option maxRecDepth 100000 in
set_option maxHeartbeats 4000000 in
theorem flSay_any {w0 w : World} {R : HProp} (p : Nat) (s : Fl) (who word : Int) (hok : flOk s) (hs900 : s.said.length ≤ 900) (h : Own w0 (FlP p s * R) w) :
    Calls Tryd.prog 34 #[.pointer (some ⟨p, 0, none⟩), .int .i64 who, .int .i64 word] w fun e w' => e = .returned (errV (flSayErr s who word)) ∧ Own w0 (FlP p (flSay s who word) * R) w' := by
  obtain ⟨E, hE⟩ : ∃ E, E = flSayErr s who word := ⟨_, rfl⟩
  obtain ⟨S, hS⟩ : ∃ S, S = flSay s who word := ⟨_, rfl⟩
  rw [← hE, ← hS]
  unfold flSay at hS
  rw [← hE] at hS
  unfold flSayErr at hE
  by_cases hc : flChk s who word = 0
  rotate_left
  · rw [if_pos hc] at hE
    rw [if_neg (by rw [hE]; exact hc)] at hS
    subst hS
    obtain ⟨mm, hmm⟩ := errV_some hc
    rw [hE]
    rw [hmm]
    have HE := Lib.hid hE; have HC := Lib.hid hc; have HMM := Lib.hid hmm; have H := Lib.hid h
    clear hE hc hmm h
    go_enter Tryd.func34, Tryd.ntmps34
    go_wp2_with fail
    refine (flCheck_any p S who word hok H.out).mono ?_
    rintro e w' ⟨rfl, rfl⟩
    rw [HMM.out]
    go_wp2
    go_ret
    exact ⟨rfl, H.out⟩
  rw [if_neg (by rw [hc]; simp)] at hE
  obtain ⟨hm, hw, _⟩ := flChk0 hc
  have hwI := isWord_I64 hw
  have hmI := member_I64 hm
  obtain ⟨mb1, mb2, ha, hcp, sa, sc, m, hm', ho⟩ := h.fl_open
  obtain ⟨c0, c1, c2, c3, c4, cf⟩ := ho.fl_facts
  have hlk := ho.fl_look word hwI
  by_cases hin : word ∈ s.all
  · rw [if_pos hin] at hE
    subst hE
    rw [if_neg (by simp)] at hS
    subst hS
    rw [decide_eq_true hin] at hlk
    have HC := Lib.hid hc; have HM := Lib.hid hm; have HW := Lib.hid hw; have HWI := Lib.hid hwI; have HMI := Lib.hid hmI; have HM' := Lib.hid hm'; have HO := Lib.hid ho; have CF := Lib.hid cf; have HIN := Lib.hid hin; have H := Lib.hid h
    clear hc hm hw hwI hmI hm' ho cf hin h
    clear c0 c1 c3 c4
    go_enter Tryd.func34, Tryd.ntmps34
    go_wp2_with fail
    refine (flCheck_any p S who word hok H.out).mono ?_
    rintro e w' ⟨rfl, rfl⟩
    rw [HC.out, errV0]
    go_wp2
    go_ret
    exact ⟨rfl, H.out⟩
  rw [if_neg hin] at hE
  subst hE
  rw [if_pos rfl] at hS
  rw [decide_eq_false hin] at hlk
  obtain ⟨S2, hS2⟩ : ∃ S2 : Fl, S2 = { s with all := setPut s.all word, said := s.said ++ [word] } := ⟨_, rfl⟩
  rw [← hS2] at hS
  have hok2 : flOk S2 := by rw [hS2]; exact flOk_said hok word hwI _ hs900
  have hlen : s.said.length ≤ 1000 := by omega
  obtain ⟨L, hL⟩ : ∃ L, L = s.said.length := ⟨_, rfl⟩
  rw [← hL] at hlen c3 ho
  have HC := Lib.hid hc; have HM := Lib.hid hm; have HW := Lib.hid hw; have HWI := Lib.hid hwI; have HMI := Lib.hid hmI; have HM' := Lib.hid hm'; have HO := Lib.hid ho; have HIN := Lib.hid hin; have H := Lib.hid h; have HS := Lib.hid hS; have HS2 := Lib.hid hS2; have HL := Lib.hid hL; have HOK2 := Lib.hid hok2
  clear hc hm hw hwI hmI hm' ho hin h hS hS2 hL hok2
  clear c0 c1 c4
  go_enter Tryd.func34, Tryd.ntmps34
  go_wp2_with fail
  refine (flCheck_any p s who word hok H.out).mono ?_
  rintro e w' ⟨rfl, rfl⟩
  rw [HC.out, errV0]
  clear hok
  go_upto_region 7 with (at_mapUpdate; refine wpList_put (v := .bool true) (x := word) (int_ke int_kind) mapint_kind HO.out.fl_all HWI.out rfl _ _ _ rfl rfl rfl rfl ?_; intro w1 ho1; rw [mput_setPut] at ho1; have HO1 : Hid (Own w0 (IntSl (.slice sa L sc) s.said * (flBlk p mb1 mb2 s.n (.slice ha s.has.length hcp) (.slice sa L sc) * (IntSl (.slice ha s.has.length hcp) s.has * (IMp mb1 (setM (setPut s.all word)) * (MpS plV plOk rowP Prod.fst mb2 m * R))))) w1) := Lib.hid (ho1.perm (by unfold IMp; ac_rfl)); clear ho1 c2 c3 hlk cf; have c3 := (HO1.out.second.cell 3).trans rfl)
  go_wp2_with (at_builtin; refine wpList_app rfl _ _ 38 rfl 3 1 8 _ int_info Tryd.underlying38 rfl (by decide) rfl ((HO1.out.perm (show _ = Sl 3 1 (.slice sa L sc) L (s.said.map (Value.int .i64)) * _ by unfold IntSl; rw [← HL.out])).alloc' _) (by rfl) (by rfl) (Rd_lit (by simp) (by unfold maxLen; omega)) (by intro u hu; simp at hu; subst hu; rfl) (by unfold maxLen; omega) (by omega) ?_; intro v' w5 ho5; obtain ⟨ad5, cp5, hv5, _⟩ := Own.rd ho5; subst hv5; have g1 : w5.cell? ⟨p, 3, none⟩ = some (.slice sa L sc) := (ho5.second.cell 3).trans rfl; have g2 := ho5.second.free 3 none; have HS5 := Lib.hid (flSaid_put HS2.out HM'.out HL.out ho5); clear ho5 c3)
  refine (flHear_any p S2 who word HMI.out HWI.out HOK2.out HS5.out).mono ?_
  rintro e w' ⟨rfl, ho⟩
  rw [← HS.out] at ho
  have HF := Lib.hid ho
  clear ho
  go_wp2
  go_ret
  exact ⟨rfl, HF.out⟩
set_option maxRecDepth 100000 in
set_option maxHeartbeats 4000000 in
theorem flGive_any {w0 w : World} {R : HProp} (p : Nat) (s : Fl) (who word : Int) (hok : flOk s) (h : Own w0 (FlP p s * R) w) :
    Calls Tryd.prog 36 #[.pointer (some ⟨p, 0, none⟩), .int .i64 who, .int .i64 word] w fun e w' => e = .returned (errV (flGiveErr s who word)) ∧ Own w0 (FlP p (flGive s who word) * R) w' := by
  obtain ⟨E, hE⟩ : ∃ E, E = flGiveErr s who word := ⟨_, rfl⟩
  obtain ⟨S, hS⟩ : ∃ S, S = flGive s who word := ⟨_, rfl⟩
  rw [← hE, ← hS]
  unfold flGive at hS
  rw [← hE] at hS
  unfold flGiveErr at hE
  by_cases hc : flChk s who word = 0
  rotate_left
  · rw [if_pos hc] at hE
    rw [if_neg (by rw [hE]; exact hc)] at hS
    subst hS
    obtain ⟨mm, hmm⟩ := errV_some hc
    rw [hE]
    rw [hmm]
    have HE := Lib.hid hE; have HC := Lib.hid hc; have HMM := Lib.hid hmm; have H := Lib.hid h
    clear hE hc hmm h
    go_enter Tryd.func36, Tryd.ntmps36
    go_wp2_with fail
    refine (flCheck_any p S who word hok H.out).mono ?_
    rintro e w' ⟨rfl, rfl⟩
    rw [HMM.out]
    go_wp2
    go_ret
    exact ⟨rfl, H.out⟩
  rw [if_neg (by rw [hc]; simp)] at hE
  obtain ⟨hm, hw, _⟩ := flChk0 hc
  have hwI := isWord_I64 hw
  have hmI := member_I64 hm
  obtain ⟨mb1, mb2, ha, hcp, sa, sc, m, hm', ho⟩ := h.fl_open
  obtain ⟨c0, c1, c2, c3, c4, cf⟩ := ho.fl_facts
  have hrd : Ints w (.slice sa s.said.length sc) s.said := IntSl_reads hok.2.2.1.2 _ ho.fl_said
  obtain ⟨D, hD⟩ : ∃ D, D = decide (word ∈ s.said) := ⟨_, rfl⟩
  obtain ⟨D2, hD2⟩ : ∃ D, D = flHas s who word := ⟨_, rfl⟩
  rw [← hD, ← hD2] at hE
  clear c0 c1 c2 c4
  cases D
  · rw [if_pos rfl] at hE
    subst hE
    rw [if_neg (by simp)] at hS
    subst hS
    have HC := Lib.hid hc; have HM := Lib.hid hm; have HW := Lib.hid hw; have HWI := Lib.hid hwI; have HMI := Lib.hid hmI; have HM' := Lib.hid hm'; have HO := Lib.hid ho; have CF := Lib.hid cf; have H := Lib.hid h; have HRD := Lib.hid hrd; have HD := Lib.hid hD; have HD2 := Lib.hid hD2
    clear hc hm hw hwI hmI hm' ho cf h hrd hD hD2
    go_enter Tryd.func36, Tryd.ntmps36
    go_wp2_with fail
    refine (flCheck_any p S who word hok H.out).mono ?_
    rintro e w' ⟨rfl, rfl⟩
    rw [HC.out, errV0]
    go_wp2_with fail
    refine (containsInt_any _ _ _ _ HRD.out).mono ?_
    rintro e w' ⟨rfl, rfl⟩
    rw [← HD.out]
    go_wp2
    go_ret
    exact ⟨rfl, H.out⟩
  rw [if_neg (by simp)] at hE
  cases D2
  · rw [if_neg (by simp)] at hE
    subst hE
    rw [if_pos rfl] at hS
    have HC := Lib.hid hc; have HM := Lib.hid hm; have HW := Lib.hid hw; have HWI := Lib.hid hwI; have HMI := Lib.hid hmI; have HM' := Lib.hid hm'; have HO := Lib.hid ho; have CF := Lib.hid cf; have H := Lib.hid h; have HRD := Lib.hid hrd; have HD := Lib.hid hD; have HD2 := Lib.hid hD2; have HS := Lib.hid hS
    clear hc hm hw hwI hmI hm' ho cf h hrd hD hD2 hS
    go_enter Tryd.func36, Tryd.ntmps36
    go_wp2_with fail
    refine (flCheck_any p s who word hok H.out).mono ?_
    rintro e w' ⟨rfl, rfl⟩
    rw [HC.out, errV0]
    go_wp2_with fail
    refine (containsInt_any _ _ _ _ HRD.out).mono ?_
    rintro e w' ⟨rfl, rfl⟩
    rw [← HD.out]
    go_wp2_with fail
    refine (flHas_any p s who word HMI.out hok H.out).mono ?_
    rintro e w2 ⟨rfl, ho2⟩
    rw [← HD2.out]
    have HO2 := Lib.hid ho2
    clear ho2 c3
    go_wp2_with fail
    refine (flHear_any p s who word HMI.out HWI.out hok HO2.out).mono ?_
    rintro e w3 ⟨rfl, ho3⟩
    rw [← HS.out] at ho3
    have HO3 := Lib.hid ho3
    clear ho3
    go_wp2
    go_ret
    exact ⟨rfl, HO3.out⟩
  · rw [if_pos rfl] at hE
    subst hE
    rw [if_neg (by simp)] at hS
    subst hS
    have HC := Lib.hid hc; have HM := Lib.hid hm; have HW := Lib.hid hw; have HWI := Lib.hid hwI; have HMI := Lib.hid hmI; have HM' := Lib.hid hm'; have HO := Lib.hid ho; have CF := Lib.hid cf; have H := Lib.hid h; have HRD := Lib.hid hrd; have HD := Lib.hid hD; have HD2 := Lib.hid hD2
    clear hc hm hw hwI hmI hm' ho cf h hrd hD hD2
    go_enter Tryd.func36, Tryd.ntmps36
    go_wp2_with fail
    refine (flCheck_any p S who word hok H.out).mono ?_
    rintro e w' ⟨rfl, rfl⟩
    rw [HC.out, errV0]
    go_wp2_with fail
    refine (containsInt_any _ _ _ _ HRD.out).mono ?_
    rintro e w' ⟨rfl, rfl⟩
    rw [← HD.out]
    go_wp2_with fail
    refine (flHas_any p S who word HMI.out hok H.out).mono ?_
    rintro e w2 ⟨rfl, ho2⟩
    rw [← HD2.out]
    have HO2 := Lib.hid ho2
    clear ho2 c3
    go_wp2
    go_ret
    exact ⟨rfl, HO2.out⟩
set_option maxRecDepth 100000 in
set_option maxHeartbeats 4000000 in
theorem flView_any {w0 w : World} {R : HProp} (p : Nat) (s : Fl) (hok : flOk s) (h : Own w0 (FlP p s * R) w) :
    Calls Tryd.prog 41 #[.pointer (some ⟨p, 0, none⟩)] w fun e w' => ∃ v', e = .returned (.agg #[.int .i64 s.n, v']) ∧ Own w0 (IntSl v' s.has * (FlP p s * R)) w' := by
  obtain ⟨b1, hb_b1⟩ : ∃ zz_, zz_ = (w).heap.size := ⟨_, rfl⟩
  obtain ⟨w1, hw_w1⟩ : ∃ zz_, zz_ = (w).alloc (.cells #[.int .i64 0, .slice none 0 0] 87 (0, 0)) := ⟨_, rfl⟩
  have h_HO1 := (h).alloc (.cells #[.int .i64 0, .slice none 0 0] 87 (0, 0))
  rw [← hb_b1, ← hw_w1] at h_HO1
  have HO1 := Lib.hid h_HO1
  clear h_HO1
  obtain ⟨mb1, mb2, ha, hcp, sa, sc, m, hm', ho⟩ := HO1.out.second.fl_open
  obtain ⟨c0, c1, c2, c3, c4, cf⟩ := ho.drew.fl_facts
  have HRD : Hid (Ints w1.drew (.slice ha s.has.length hcp) s.has) := Lib.hid (IntSl_reads hok.2.1.2 _ ho.drew.fl_has)
  have h5 : s.has.length ≤ 5 := hok.2.1.1
  clear c2 c3 c4 cf h
  have HO := Lib.hid ho; have HM' := Lib.hid hm'; have H5 := Lib.hid h5
  clear ho hm' h5
  go_enter Tryd.func41, Tryd.ntmps41
  go_upto_region 1 with fail
  rw [← hb_b1, ← hw_w1]
  clear hb_b1 hw_w1
  refine wp_region_planH 11 [] [(true, 0), (true, 1), (true, 2), (true, 3), (true, 4), (true, 5), (true, 6), (true, 7), (true, 8), (true, 9), (false, 10)] [11, 12] (fun wS => wS.cell? ⟨p, 0, none⟩ = some (.int .i64 s.n) ∧ wS.cell? ⟨p, 1, none⟩ = some (.slice ha s.has.length hcp)) (by kernel_rfl) (by kernel_rfl) (⟨c0, c1⟩) ?_
  simp only [pickH, pick, List.getElem?_cons_succ, List.getElem?_cons_zero, Option.toList, Option.map_some, List.cons_append, List.nil_append]
  repeat (refine wpPure_step ?_ rfl ?_ ?_; rotate_left; (focus (intro _; first | with_reducible rfl | (go_simp; done) | (go_simp; with_reducible rfl) | rfl)); go_simp)
  refine wpPure_nil ?_
  repeat (refine wpMix_read ?_ rfl ?_ ?_; rotate_left; (focus (intro _ hS; obtain ⟨s1, s2⟩ := hS; first | with_reducible rfl | (go_simp; done) | (go_simp; with_reducible rfl) | rfl)); go_simp)
  refine wpMix_write (fun K hK => ?_)
  go_simp
  refine (cloneInts_any HO.out.drew _ s.has HRD.out (by have := H5.out; omega)).mono ?_
  rintro e w4 ⟨v4, rfl, ho4⟩
  obtain ⟨ad4, cap4, hv4⟩ := ho4.int_shape
  subst hv4
  have HO4 : Hid (Own w0 (VwO b1 0 (.slice none 0 0) * (IntSl (.slice ad4 s.has.length cap4) s.has * (FlP p s * R))) w4) := Lib.hid ((Own.fl_close HM'.out ho4.second).perm (show _ = VwO b1 0 (.slice none 0 0) * (IntSl (.slice ad4 s.has.length cap4) s.has * (FlP p s * R)) by unfold VwO; ac_rfl))
  have HPUT := Lib.hid (HO4.out.vw_put s.n (.slice ad4 s.has.length cap4))
  obtain ⟨x0, x1, xf⟩ := HO4.out.vw
  obtain ⟨p0, p1, _⟩ := HPUT.out.vw
  have xf0 := xf 0 none
  have xf1 := xf 1 none
  have k01 : w4.cell? ⟨p, 0, none⟩ = some (.int .i64 s.n) ∧ w4.cell? ⟨p, 1, none⟩ = some (.slice ha s.has.length hcp) := ⟨ho4.second.fl_facts.1, ho4.second.fl_facts.2.1⟩
  clear ho4 xf
  refine hK _ _ ⟨k01, ?_⟩
  clear hK K
  go_simp
  repeat (refine wpMix_read ?_ rfl ?_ ?_; rotate_left; (focus (intro _ hS; obtain ⟨s1, s2⟩ := hS; first | with_reducible rfl | (go_simp; done) | (go_simp; with_reducible rfl) | rfl)); go_simp)
  refine wpMix_nil ?_
  go_wp2_with fail
  refine NoPanic.normal ?_
  go_wp2_with fail
  exact bodyPost_ret (v := .agg #[.int .i64 s.n, .slice ad4 s.has.length cap4]) (by simp [results, Tryd.results41, go_sem, p0, p1]) rfl ⟨_, rfl, HPUT.out.drop⟩
def flHeardErr (s : Fl) (who n : Int) : Nat := if isMember who = false then 1 else if n < 0 then 1 else if s.n < n then 1 else 0
def flHeard (s : Fl) (who n : Int) : List Int := if flHeardErr s who n = 0 then flRow s (n, who) else []
set_option maxRecDepth 100000 in
set_option maxHeartbeats 4000000 in
theorem flHeard_any {w0 w : World} {R : HProp} (p : Nat) (s : Fl) (who n : Int) (hok : flOk s) (hn : I64 n) (h : Own w0 (FlP p s * R) w) :
    Calls Tryd.prog 40 #[.pointer (some ⟨p, 0, none⟩), .int .i64 who, .int .i64 n] w fun e w' => ∃ v', e = .returned (.tuple #[v', errV (flHeardErr s who n)]) ∧ Own w0 (IntSl v' (flHeard s who n) * (FlP p s * R)) w' := by
  obtain ⟨E, hE⟩ : ∃ E, E = flHeardErr s who n := ⟨_, rfl⟩
  obtain ⟨L, hL⟩ : ∃ S, S = flHeard s who n := ⟨_, rfl⟩
  rw [← hE, ← hL]
  unfold flHeard at hL
  rw [← hE] at hL
  unfold flHeardErr at hE
  obtain ⟨mb1, mb2, ha, hcp, sa, sc, m, hm', ho⟩ := h.fl_open
  obtain ⟨c0, c1, c2, c3, c4, cf⟩ := ho.fl_facts
  clear c1 c2 c3 cf
  cases h1 : isMember who
  · rw [if_pos h1] at hE
    subst hE
    rw [if_neg (by simp)] at hL
    subst hL
    have H1 := Lib.hid h1; have H := Lib.hid h; have HO := Lib.hid ho; have HM' := Lib.hid hm'
    clear h1 h ho hm'
    go_enter Tryd.func40, Tryd.ntmps40
    go_wp2_with fail
    refine (member_any _ _).mono ?_
    rintro e w' ⟨rfl, rfl⟩
    rw [H1.out]
    go_wp2
    go_ret2
    exact ⟨_, rfl, H.out.sl_nil _ _⟩
  rw [if_neg (by rw [h1]; simp)] at hE
  have hwI := member_I64 h1
  by_cases h2 : n < 0
  · rw [if_pos h2] at hE
    subst hE
    rw [if_neg (by simp)] at hL
    subst hL
    have H1 := Lib.hid h1; have H := Lib.hid h; have HO := Lib.hid ho; have HM' := Lib.hid hm'
    clear h1 h ho hm'
    go_enter Tryd.func40, Tryd.ntmps40
    go_wp2_with fail
    refine (member_any _ _).mono ?_
    rintro e w' ⟨rfl, rfl⟩
    rw [H1.out]
    go_wp2
    go_ret2
    exact ⟨_, rfl, H.out.sl_nil _ _⟩
  rw [if_neg h2] at hE
  have t2 : decide (n < 0) = false := by simp; omega
  obtain ⟨y, hy⟩ : ∃ y, y = s.n := ⟨_, rfl⟩
  rw [← hy] at hE c0
  by_cases h3 : y < n
  · rw [if_pos h3] at hE
    subst hE
    rw [if_neg (by simp)] at hL
    subst hL
    have t3 : decide (y < n) = true := by simp; omega
    have H1 := Lib.hid h1; have H := Lib.hid h; have HO := Lib.hid ho; have HM' := Lib.hid hm'; have H2 := Lib.hid h2; have H3 := Lib.hid h3; have HY := Lib.hid hy
    clear h1 h ho hm' h2 h3 hy
    go_enter Tryd.func40, Tryd.ntmps40
    go_wp2_with fail
    refine (member_any _ _).mono ?_
    rintro e w' ⟨rfl, rfl⟩
    rw [H1.out]
    go_wp2
    go_ret2
    exact ⟨_, rfl, H.out.sl_nil _ _⟩
  rw [if_neg h3] at hE
  subst hE
  rw [if_pos rfl] at hL
  have t3 : decide (y < n) = false := by simp; omega
  have hlk := ho.fl_row (n, who) ⟨hn, hwI⟩
  have hrd := ho.fl_rd hm' (n, who) (hok.2.2.2 _).2
  have hlen := (hok.2.2.2 (n, who)).1
  obtain ⟨V, hV⟩ : ∃ V, V = ((mget m (n, who)).getD nilRow).1 := ⟨_, rfl⟩
  rw [← hV] at hlk hrd
  rw [← hL] at hrd hlen
  simp only at hlk
  obtain ⟨ad, cap, hs, _, _⟩ := hrd.shape
  subst hs
  have H1 := Lib.hid h1; have H := Lib.hid h; have HO := Lib.hid ho; have HM' := Lib.hid hm'; have H2 := Lib.hid h2; have H3 := Lib.hid h3; have HY := Lib.hid hy; have HV := Lib.hid hV; have HRD := Lib.hid hrd; have HLEN := Lib.hid hlen; have HL := Lib.hid hL
  clear h1 h ho hm' h2 h3 hy hV hrd hlen hL
  go_enter Tryd.func40, Tryd.ntmps40
  go_wp2_with fail
  refine (member_any _ _).mono ?_
  rintro e w' ⟨rfl, rfl⟩
  rw [H1.out]
  go_wp2_with fail
  refine (cloneInts_any H.out _ L HRD.out (by have := HLEN.out; omega)).mono ?_
  rintro e w4 ⟨v4, rfl, ho4⟩
  have HO4 := Lib.hid ho4
  clear ho4 c0 c4 hlk
  go_wp2
  go_ret2
  exact ⟨_, rfl, HO4.out⟩
end Go.Proofs.YtpgonkecicmanaaDoor
