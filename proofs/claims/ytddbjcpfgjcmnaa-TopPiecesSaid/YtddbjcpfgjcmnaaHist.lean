/- Contracts of package history: what is wrong with an event, with a history. -/
import Derived.Test.YtddbjcpfgjcmnaaArgs2
import Derived.Test.YtddbjcpfgjcmnaaPlan
import Derived.Test.YtddbjcpfgjcmnaaVec2
import Derived.Deep.DeepCutAuto
import Derived.Deep.CutBlock
namespace Go.Proofs.Ytddbjcpfgjcmnaa
set_option linter.unusedVariables false
set_option linter.unusedSimpArgs false
open Go.RowKit
def evV (x : Ev) : Value := .agg #[.int .i64 x.1, .int .i64 x.2.1, .int .i64 x.2.2]
def EvO (b : Nat) (x : Ev) : HProp := blk b (.cells #[.int .i64 x.1, .int .i64 x.2.1, .int .i64 x.2.2] 40 (0, 0))
theorem Own.ev {w0 w : World} {b : Nat} {x : Ev} {R : HProp} (h : Own w0 (EvO b x * R) w) : w.cell? ⟨b, 0, none⟩ = some (.int .i64 x.1) ∧ w.cell? ⟨b, 1, none⟩ = some (.int .i64 x.2.1) ∧ w.cell? ⟨b, 2, none⟩ = some (.int .i64 x.2.2) :=
  ⟨(Own.cell h 0).trans rfl, (Own.cell h 1).trans rfl, (Own.cell h 2).trans rfl⟩
def ReadsE (w0 : World) (R : HProp) (v : Value) (l : List Ev) : Prop := ∀ w, Own w0 R w → Evs w v l
theorem Evs.later {w0 w : World} {P : HProp} {v : Value} {l : List Ev} (h : Evs w0 v l) (ho : Own w0 P w) : Evs w v l := ⟨h.1.later ho, h.2⟩
theorem Evs.reads {w0 : World} {R : HProp} {v : Value} {l : List Ev} (h : Evs w0 v l) : ReadsE w0 R v l := fun _ ho => h.later ho
theorem ReadsE.more {w0 : World} {P R : HProp} {v : Value} {l : List Ev} (h : ReadsE w0 R v l) : ReadsE w0 (P * R) v l := fun _ ho => h _ ho.drop
theorem Evs.shape {w : World} {v : Value} {l : List Ev} (h : Evs w v l) : ∃ ad cap, v = .slice ad l.length cap ∧ l.length ≤ cap ∧ cap ≤ 9223372036854775807 := by
  obtain ⟨ad, cap, rfl, h1, h2, _⟩ := h.1
  exact ⟨ad, cap, rfl, h1, h2⟩
theorem ev_get (l : List Ev) (k j : Nat) (hk : k < l.length) (hj : j < 3) : (l.flatMap evCells)[k * 3 + j]? = (evCells l[k])[j]? := cells_get evCells 3 (fun _ => rfl) l k j hk hj
theorem ReadsE.at {w0 : World} {R : HProp} {ad : Option Addr} {n cap : Nat} {l : List Ev} (h : ReadsE w0 R (.slice ad n cap) l) {w : World} (ho : Own w0 R w) (k : Nat) (hk : k < l.length) :
    ∃ (a : Addr) (eb eo : Nat) (es : Option Nat), ad = some a ∧ a.add (k * 3) = ⟨eb, eo, es⟩ ∧ (∀ w, Own w0 R w → w.cell? ⟨eb, eo, es⟩ = some (.int .i64 (evAt l k).1) ∧ w.cell? ⟨eb, eo + 1, none⟩ = some (.int .i64 (evAt l k).2.1) ∧ w.cell? ⟨eb, eo + 2, none⟩ = some (.int .i64 (evAt l k).2.2)) ∧ goodEv (evAt l k) := by
  have hev : evAt l k = l[k] := by unfold evAt; rw [List.getD_eq_getElem?_getD, List.getElem?_eq_getElem hk]; rfl
  rw [hev]
  have key : ∀ w, Own w0 R w → ∃ a : Addr, ad = some a ∧ w.cell? (a.add (k * 3)) = some (.int .i64 l[k].1) ∧ w.cell? (a.add (k * 3 + 1)) = some (.int .i64 l[k].2.1) ∧ w.cell? (a.add (k * 3 + 2)) = some (.int .i64 l[k].2.2) := by
    intro w ho
    obtain ⟨ad', cap', e, h1, h2, _, hc⟩ := (h w ho).1
    cases e
    obtain ⟨a, ha, c0⟩ := hc (k * 3) _ (ev_get l k 0 hk (by omega))
    obtain ⟨a', ha', c1⟩ := hc (k * 3 + 1) _ (ev_get l k 1 hk (by omega))
    obtain ⟨a'', ha'', c2⟩ := hc (k * 3 + 2) _ (ev_get l k 2 hk (by omega))
    rw [ha] at ha' ha''; cases ha'; cases ha''
    exact ⟨a, ha, c0, c1, c2⟩
  have hadd : ∀ (a : Addr) j, 0 < j → a.add (k * 3 + j) = ⟨(a.add (k * 3)).block, (a.add (k * 3)).off + j, none⟩ := by
    intro a j hj
    unfold Addr.add
    rw [if_neg (by omega)]
    split
    · rename_i h0; simp [h0]
    · simp [Nat.add_assoc]
  obtain ⟨a, ha, _⟩ := key w ho
  refine ⟨a, (a.add (k * 3)).block, (a.add (k * 3)).off, (a.add (k * 3)).spot, ha, rfl, fun w ho => ?_, (h w ho).2 _ (List.getElem_mem hk)⟩
  obtain ⟨a', ha', c0, c1, c2⟩ := key w ho
  rw [ha] at ha'; cases ha'
  rw [hadd a 1 (by omega)] at c1
  rw [hadd a 2 (by omega)] at c2
  exact ⟨c0, c1, c2⟩
theorem Evs.front {w : World} {ad : Option Addr} {n cap k : Nat} {l : List Ev} (h : Evs w (.slice ad n cap) l) (hk : k ≤ n) : Evs w (.slice ad k cap) (l.take k) := by
  obtain ⟨⟨ad', cap', e, h1, h2, h3, hc⟩, hg⟩ := h
  cases e
  have hl : (l.take k).length = k := by simp; omega
  refine ⟨⟨ad, cap, by rw [hl], by omega, h2, h3, fun i u hu => hc i u ?_⟩, fun x hx => hg x (List.mem_of_mem_take hx)⟩
  have hi : i < (l.take k).length * 3 := by
    have := (List.getElem?_eq_some_iff.1 hu).1
    rwa [cells_len evCells 3 (fun _ => rfl)] at this
  rw [← List.take_append_drop k l, List.flatMap_append, List.getElem?_append_left (by rw [cells_len evCells 3 (fun _ => rfl)]; exact hi)]
  exact hu
theorem ReadsE.front {w0 : World} {R : HProp} {ad : Option Addr} {n cap k : Nat} {l : List Ev} (h : ReadsE w0 R (.slice ad n cap) l) (hk : k ≤ n) : ReadsE w0 R (.slice ad k cap) (l.take k) := fun _ ho => (h _ ho).front hk
def saidF (c : Nat) : Value := .func (.func 32) #[] #[.pointer (some ⟨c, 0, none⟩)]
set_option maxRecDepth 100000 in
set_option maxHeartbeats 4000000 in
theorem said1_any {w0 w : World} {R : HProp} (c : Nat) (word : Int) (x : Ev) (h : Own w0 R w) (hc : ∀ w', Own w0 R w' → w'.cell? ⟨c, 0, none⟩ = some (.int .i64 word)) :
    Calls Try.prog 32 #[evV x, .pointer (some ⟨c, 0, none⟩)] w fun e w' => e = .returned (.bool (saysB word x)) ∧ Own w0 R w' := by
  obtain ⟨a, b, d⟩ := x
  unfold evV
  obtain ⟨b1, hb_b1⟩ : ∃ zz_, zz_ = (w).heap.size := ⟨_, rfl⟩
  obtain ⟨w1, hw_w1⟩ : ∃ zz_, zz_ = (w).alloc (.cells #[.int .i64 a, .int .i64 b, .int .i64 d] 40 (0, 0)) := ⟨_, rfl⟩
  have h_HO := (h).alloc (.cells #[.int .i64 a, .int .i64 b, .int .i64 d] 40 (0, 0))
  rw [← hb_b1, ← hw_w1] at h_HO
  have HO := Lib.hid h_HO
  clear h_HO
  obtain ⟨c0, c1, c2⟩ := (show Own w0 (EvO b1 (a, b, d) * R) w1 from HO.out).ev
  have c3 := hc _ HO.out.drop
  simp only at c0 c1 c2
  have H := Lib.hid h; have HC := Lib.hid hc
  clear h hc
  by_cases h1 : b = 2
  · subst h1
    have h2 : saysB word (a, 2, d) = (d == word) := by unfold saysB; simp [Bool.beq_eq_decide_eq]
    have H2 := Lib.hid h2
    clear h2
    go_enter Try.func32, Try.ntmps32
    go_upto_region 1 with fail
    rw [← hb_b1, ← hw_w1]
    clear hb_b1 hw_w1
    go_wp2
    go_ret
    exact ⟨by rw [H2.out]; rfl, HO.out.drop⟩
  · have h2 : saysB word (a, b, d) = false := by unfold saysB; simp [h1]
    have h3 : (b == 2) = false := by simpa using h1
    have H2 := Lib.hid h2; have H1 := Lib.hid h1
    clear h2 h1
    go_enter Try.func32, Try.ntmps32
    go_upto_region 1 with fail
    rw [← hb_b1, ← hw_w1]
    clear hb_b1 hw_w1
    go_wp2
    go_ret
    exact ⟨by rw [H2.out]; rfl, HO.out.drop⟩
set_option maxRecDepth 100000 in
set_option maxHeartbeats 4000000 in
theorem saidIndex_any {w0 w : World} {R : HProp} (c : Nat) (word : Int) (v : Value) (l : List Ev) (h : Own w0 R w) (hc : ∀ w', Own w0 R w' → w'.cell? ⟨c, 0, none⟩ = some (.int .i64 word)) (hl : ReadsE w0 R v l) :
    Calls Try.prog 31 #[v, saidF c] w fun e w' => e = .returned (.int .i64 (saidAt l word)) ∧ Own w0 R w' := by
  obtain ⟨ad, cap, rfl, hlc, hcap⟩ := (hl _ h).shape
  unfold saidF
  have H := Lib.hid h; have HL := Lib.hid hl; have HC := Lib.hid hc
  clear h hl hc
  go_enter Try.func31, Try.ntmps31
  go_wp2_with fail
  go_loopw [8] (fun i wr => ∃ k : Nat, k ≤ l.length ∧ i = .int .i64 k ∧ Hid (Own w0 R wr) ∧ Hid (∀ j (_ : j < k) (h : j < l.length), saysB word l[j] = false)) (fun i _ => l.length - (intOf i).toNat)
  case atStart => exact ⟨0, Nat.zero_le _, rfl, H, Lib.hid (fun j h => by omega)⟩
  case round =>
    obtain ⟨k, hk, rfl, HO, hp⟩ := hrel
    by_cases hlt : k < l.length
    rotate_left
    · have hm : saidAt l word = -1 := whereI_miss _ l (fun j h => hp.out j (by omega) h)
      have HM := Lib.hid hm
      clear hm
      go_wp2
      go_ret
      exact ⟨by rw [HM.out]; rfl, HO.out⟩
    obtain ⟨aa, eb, eo, es, rfl, hea, hcs, hgd⟩ := HL.out.at HO.out k hlt
    obtain ⟨x, hx⟩ : ∃ x, x = evAt l k := ⟨_, rfl⟩
    rw [← hx] at hcs
    have hxk : x = l[k] := by rw [hx]; unfold evAt; rw [List.getD_eq_getElem?_getD, List.getElem?_eq_getElem hlt]; rfl
    obtain ⟨c0, c1, c2⟩ := hcs _ HO.out
    have HCS := Lib.hid hcs; have HX := Lib.hid hx; have HGD := Lib.hid hgd
    clear hcs hx hgd
    cases hs : saysB word x
    · have hn : ∀ j (_ : j < k + 1) (h : j < l.length), saysB word l[j] = false := fun j h1 h2 => by
        by_cases e : j = k
        · subst e; rw [← hxk]; exact hs
        · exact hp.out j (by omega) h2
      have HN := Lib.hid hn; have HXK := Lib.hid hxk
      clear hn hxk
      go_wp2_with fail
      refine (said1_any c word x HO.out HC.out).mono ?_
      rintro e w' ⟨rfl, ho⟩
      rw [hs]
      have HO2 := Lib.hid ho
      clear ho c0 c1 c2
      go_wp2
      go_round
      case rel => exact ⟨k + 1, by omega, by go_num, HO2, HN⟩
      case measure => simp [intOf]; omega
    · have hm : saidAt l word = k := whereI_hit _ l k hlt (fun j h => hp.out j h (by omega)) (by rw [← hxk]; exact hs)
      have HM := Lib.hid hm; have HXK := Lib.hid hxk
      clear hm hxk
      go_wp2_with fail
      refine (said1_any c word x HO.out HC.out).mono ?_
      rintro e w' ⟨rfl, ho⟩
      rw [hs]
      have HO2 := Lib.hid ho
      clear ho c0 c1 c2
      go_wp2
      go_ret
      exact ⟨by rw [HM.out]; rfl, HO2.out⟩
set_option maxRecDepth 100000 in
set_option maxHeartbeats 4000000 in
theorem said_any {w0 w : World} {R : HProp} (word : Int) (v : Value) (l : List Ev) (h : Own w0 R w) (hl : ReadsE w0 R v l) :
    Calls Try.prog 27 #[v, .int .i64 word] w fun e w' => e = .returned (.int .i64 (saidAt l word)) ∧ Own w0 R w' := by
  obtain ⟨b1, hb_b1⟩ : ∃ zz_, zz_ = (w).heap.size := ⟨_, rfl⟩
  obtain ⟨w1, hw_w1⟩ : ∃ zz_, zz_ = (w).alloc (.cells #[.int .i64 word] 3 (0, 0)) := ⟨_, rfl⟩
  have h_HO := (h).alloc (.cells #[.int .i64 word] 3 (0, 0))
  rw [← hb_b1, ← hw_w1] at h_HO
  have HO := Lib.hid h_HO
  clear h_HO
  have hc : ∀ w', Own w0 (blk b1 (.cells #[.int .i64 word] 3 (0, 0)) * R) w' → w'.cell? ⟨b1, 0, none⟩ = some (.int .i64 word) := fun w' ho => (Own.cell ho 0).trans rfl
  have H := Lib.hid h; have HL := Lib.hid hl; have HC := Lib.hid hc
  clear h hl hc
  go_enter Try.func27, Try.ntmps27
  go_upto_region 1 with fail
  rw [← hb_b1, ← hw_w1]
  clear hb_b1 hw_w1
  go_wp2_with fail
  refine (saidIndex_any b1 word v l HO.out HC.out HL.out.more).mono ?_
  rintro e w' ⟨rfl, ho⟩
  have HO2 := Lib.hid ho.drop
  clear ho
  go_wp2
  go_ret
  exact ⟨rfl, HO2.out⟩
set_option maxRecDepth 100000 in
set_option maxHeartbeats 4000000 in
theorem right_any {w0 w : World} {R : HProp} (x : Ev) (h : Own w0 R w) :
    Calls Try.prog 26 #[evV x] w fun e w' => e = .returned (.bool (rightB x)) ∧ Own w0 R w' := by
  obtain ⟨a, b, d⟩ := x
  unfold evV
  obtain ⟨b1, hb_b1⟩ : ∃ zz_, zz_ = (w).heap.size := ⟨_, rfl⟩
  obtain ⟨w1, hw_w1⟩ : ∃ zz_, zz_ = (w).alloc (.cells #[.int .i64 a, .int .i64 b, .int .i64 d] 40 (0, 0)) := ⟨_, rfl⟩
  have h_HO := (h).alloc (.cells #[.int .i64 a, .int .i64 b, .int .i64 d] 40 (0, 0))
  rw [← hb_b1, ← hw_w1] at h_HO
  have HO := Lib.hid h_HO
  clear h_HO
  obtain ⟨c0, c1, c2⟩ := (show Own w0 (EvO b1 (a, b, d) * R) w1 from HO.out).ev
  simp only at c0 c1 c2
  have H := Lib.hid h
  clear h
  cases hm : isMember a
  · have hr : rightB (a, b, d) = false := by unfold rightB; simp [hm]
    have HR := Lib.hid hr
    clear hr
    go_enter Try.func26, Try.ntmps26
    go_upto_region 1 with fail
    rw [← hb_b1, ← hw_w1]
    clear hb_b1 hw_w1
    go_wp2_with fail
    refine (member_any a _).mono ?_
    rintro e w' ⟨rfl, rfl⟩
    rw [hm]
    go_wp2
    go_ret
    exact ⟨by rw [HR.out]; rfl, HO.out.drop⟩
  by_cases h1 : b = 1
  · subst h1
    have hr : rightB (a, 1, d) = (d == 0) := by unfold rightB; simp [hm, Bool.beq_eq_decide_eq]
    have HR := Lib.hid hr
    clear hr
    go_enter Try.func26, Try.ntmps26
    go_upto_region 1 with fail
    rw [← hb_b1, ← hw_w1]
    clear hb_b1 hw_w1
    go_wp2_with fail
    refine (member_any a _).mono ?_
    rintro e w' ⟨rfl, rfl⟩
    rw [hm]
    go_wp2
    go_ret
    exact ⟨by rw [HR.out]; rfl, HO.out.drop⟩
  have t1 : (b == 1) = false := by simpa using h1
  by_cases h2 : b = 2
  · subst h2
    have hr : rightB (a, 2, d) = isWord d := by unfold rightB; simp [hm]
    have HR := Lib.hid hr
    clear hr
    go_enter Try.func26, Try.ntmps26
    go_upto_region 1 with fail
    rw [← hb_b1, ← hw_w1]
    clear hb_b1 hw_w1
    go_wp2_with fail
    refine (member_any a _).mono ?_
    rintro e w' ⟨rfl, rfl⟩
    rw [hm]
    go_wp2_with fail
    refine (word_any d _).mono ?_
    rintro e w' ⟨rfl, rfl⟩
    go_wp2
    go_ret
    exact ⟨by rw [HR.out]; rfl, HO.out.drop⟩
  have t2 : (b == 2) = false := by simpa using h2
  by_cases h3 : b = 3
  · subst h3
    have hr : rightB (a, 3, d) = isWord d := by unfold rightB; simp [hm]
    have HR := Lib.hid hr
    clear hr
    go_enter Try.func26, Try.ntmps26
    go_upto_region 1 with fail
    rw [← hb_b1, ← hw_w1]
    clear hb_b1 hw_w1
    go_wp2_with fail
    refine (member_any a _).mono ?_
    rintro e w' ⟨rfl, rfl⟩
    rw [hm]
    go_wp2_with fail
    refine (word_any d _).mono ?_
    rintro e w' ⟨rfl, rfl⟩
    go_wp2
    go_ret
    exact ⟨by rw [HR.out]; rfl, HO.out.drop⟩
  have t3 : (b == 3) = false := by simpa using h3
  have hr : rightB (a, b, d) = false := by unfold rightB; simp [h1, h2, h3]
  have HR := Lib.hid hr; have H1 := Lib.hid h1; have H2 := Lib.hid h2; have H3 := Lib.hid h3
  clear hr h1 h2 h3
  go_enter Try.func26, Try.ntmps26
  go_upto_region 1 with fail
  rw [← hb_b1, ← hw_w1]
  clear hb_b1 hw_w1
  go_wp2_with fail
  refine (member_any a _).mono ?_
  rintro e w' ⟨rfl, rfl⟩
  rw [hm]
  go_wp2
  go_ret
  exact ⟨by rw [HR.out]; rfl, HO.out.drop⟩
end Go.Proofs.Ytddbjcpfgjcmnaa
