/- Contracts of package history: what is wrong with an event, with a history. -/
import Derived.Test.YtdfjbnfdknpahaaGreatDoorMRunAnswers1
import Derived.Deep.DeepCutAuto
import Derived.Deep.CutBlock
import Derived.Lib.Itoa
import Derived.Lib.ItoaNum
import Derived.Lib.ItoaWalk
import Derived.Lib.Bytealg
import Derived.Lib.Strings
import Derived.Lib.Walk
namespace Go.Proofs.YtdfjbnfdknpahaaGreatDoor
set_option linter.unusedVariables false
set_option linter.unusedSimpArgs false
open Go.RowKit
def evV (x : Ev) : Value := .agg #[.int .i64 x.1, .int .i64 x.2.1, .int .i64 x.2.2]
def EvO (b : Nat) (x : Ev) : HProp := blk b (.cells #[.int .i64 x.1, .int .i64 x.2.1, .int .i64 x.2.2] 112 (0, 0))
theorem Own.ev {w0 w : World} {b : Nat} {x : Ev} {R : HProp} (h : Own w0 (EvO b x * R) w) : w.cell? ⟨b, 0, none⟩ = some (.int .i64 x.1) ∧ w.cell? ⟨b, 1, none⟩ = some (.int .i64 x.2.1) ∧ w.cell? ⟨b, 2, none⟩ = some (.int .i64 x.2.2) :=
  ⟨(Own.cell h 0).trans rfl, (Own.cell h 1).trans rfl, (Own.cell h 2).trans rfl⟩
def ReadsE (w0 : World) (R : HProp) (v : Value) (l : List Ev) : Prop := ∀ w, Own w0 R w → Evs w v l
theorem Evs.later {w0 w : World} {P : HProp} {v : Value} {l : List Ev} (h : Evs w0 v l) (ho : Own w0 P w) : Evs w v l := ⟨h.1.later ho, h.2⟩
theorem Evs.reads {w0 : World} {R : HProp} {v : Value} {l : List Ev} (h : Evs w0 v l) : ReadsE w0 R v l := fun _ ho => h.later ho
theorem ReadsE.more {w0 : World} {P R : HProp} {v : Value} {l : List Ev} (h : ReadsE w0 R v l) : ReadsE w0 (P * R) v l := fun _ ho => h _ ho.drop
theorem Evs.shape {w : World} {v : Value} {l : List Ev} (h : Evs w v l) : ∃ ad cap, v = .slice ad l.length cap ∧ l.length ≤ cap ∧ cap ≤ 9223372036854775807 := by
  obtain ⟨ad, cap, rfl, h1, h2, _⟩ := h.1
  exact ⟨ad, cap, rfl, h1, h2⟩
theorem ev_get (l : List Ev) (k j : Nat) (hk : k < l.length) (hj : j < 3) : (l.flatMap evCells)[k * 3 + j]? = (evCells l[k])[j]? := cells_get evCells 3 (fun _ => rfl) l k j hk hj
theorem ReadsE.at {w0 : World} {R : HProp} {ad : Option Addr} {n cap : Nat} {l : List Ev} (h : ReadsE w0 R (.slice ad n cap) l) {w : World} (ho : Own w0 R w) (k : Nat) (hk : k < l.length) :
    ∃ (a : Addr) (eb eo : Nat) (es : Option Nat), ad = some a ∧ a.add (k * 3) = ⟨eb, eo, es⟩ ∧ (∀ w, Own w0 R w → w.cell? ⟨eb, eo, es⟩ = some (.int .i64 (evAt l k).1) ∧ w.cell? ⟨eb, eo + 1, none⟩ = some (.int .i64 (evAt l k).2.1) ∧ w.cell? ⟨eb, eo + 2, none⟩ = some (.int .i64 (evAt l k).2.2)) ∧ goodEv (evAt l k) := by
  have hev : evAt l k = l[k] := by unfold evAt; rw [List.getD_eq_getElem?_getD, List.getElem?_eq_getElem hk]; rfl
  rw [hev]
  have key : ∀ w, Own w0 R w → ∃ a : Addr, ad = some a ∧ w.cell? (a.add (k * 3)) = some (.int .i64 l[k].1) ∧ w.cell? (a.add (k * 3 + 1)) = some (.int .i64 l[k].2.1) ∧ w.cell? (a.add (k * 3 + 2)) = some (.int .i64 l[k].2.2) := by
    intro w ho
    obtain ⟨ad', cap', e, h1, h2, _, hc⟩ := (h w ho).1
    cases e
    obtain ⟨a, ha, c0⟩ := hc (k * 3) _ (ev_get l k 0 hk (by omega))
    obtain ⟨a', ha', c1⟩ := hc (k * 3 + 1) _ (ev_get l k 1 hk (by omega))
    obtain ⟨a'', ha'', c2⟩ := hc (k * 3 + 2) _ (ev_get l k 2 hk (by omega))
    rw [ha] at ha' ha''; cases ha'; cases ha''
    exact ⟨a, ha, c0, c1, c2⟩
  have hadd : ∀ (a : Addr) j, 0 < j → a.add (k * 3 + j) = ⟨(a.add (k * 3)).block, (a.add (k * 3)).off + j, none⟩ := by
    intro a j hj
    unfold Addr.add
    rw [if_neg (by omega)]
    split
    · rename_i h0; simp [h0]
    · simp [Nat.add_assoc]
  obtain ⟨a, ha, _⟩ := key w ho
  refine ⟨a, (a.add (k * 3)).block, (a.add (k * 3)).off, (a.add (k * 3)).spot, ha, rfl, fun w ho => ?_, (h w ho).2 _ (List.getElem_mem hk)⟩
  obtain ⟨a', ha', c0, c1, c2⟩ := key w ho
  rw [ha] at ha'; cases ha'
  rw [hadd a 1 (by omega)] at c1
  rw [hadd a 2 (by omega)] at c2
  exact ⟨c0, c1, c2⟩
theorem Evs.front {w : World} {ad : Option Addr} {n cap k : Nat} {l : List Ev} (h : Evs w (.slice ad n cap) l) (hk : k ≤ n) : Evs w (.slice ad k cap) (l.take k) := by
  obtain ⟨⟨ad', cap', e, h1, h2, h3, hc⟩, hg⟩ := h
  cases e
  have hl : (l.take k).length = k := by simp; omega
  refine ⟨⟨ad, cap, by rw [hl], by omega, h2, h3, fun i u hu => hc i u ?_⟩, fun x hx => hg x (List.mem_of_mem_take hx)⟩
  have hi : i < (l.take k).length * 3 := by
    have := (List.getElem?_eq_some_iff.1 hu).1
    rwa [cells_len evCells 3 (fun _ => rfl)] at this
  rw [← List.take_append_drop k l, List.flatMap_append, List.getElem?_append_left (by rw [cells_len evCells 3 (fun _ => rfl)]; exact hi)]
  exact hu
theorem ReadsE.front {w0 : World} {R : HProp} {ad : Option Addr} {n cap k : Nat} {l : List Ev} (h : ReadsE w0 R (.slice ad n cap) l) (hk : k ≤ n) : ReadsE w0 R (.slice ad k cap) (l.take k) := fun _ ho => (h _ ho).front hk
def saidF (c : Nat) : Value := .func (.func 153) #[] #[.pointer (some ⟨c, 0, none⟩)]
set_option maxRecDepth 100000 in
set_option maxHeartbeats 4000000 in
theorem said1_any {w0 w : World} {R : HProp} (c : Nat) (word : Int) (x : Ev) (h : Own w0 R w) (hc : ∀ w', Own w0 R w' → w'.cell? ⟨c, 0, none⟩ = some (.int .i64 word)) :
    Calls Tryz.prog 153 #[evV x, .pointer (some ⟨c, 0, none⟩)] w fun e w' => e = .returned (.bool (saysB word x)) ∧ Own w0 R w' := by
  obtain ⟨a, b, d⟩ := x
  unfold evV
  obtain ⟨b1, hb_b1⟩ : ∃ zz_, zz_ = (w).heap.size := ⟨_, rfl⟩
  obtain ⟨w1, hw_w1⟩ : ∃ zz_, zz_ = (w).alloc (.cells #[.int .i64 a, .int .i64 b, .int .i64 d] 112 (0, 0)) := ⟨_, rfl⟩
  have h_HO := (h).alloc (.cells #[.int .i64 a, .int .i64 b, .int .i64 d] 112 (0, 0))
  rw [← hb_b1, ← hw_w1] at h_HO
  have HO := Lib.hid h_HO
  clear h_HO
  obtain ⟨c0, c1, c2⟩ := (show Own w0 (EvO b1 (a, b, d) * R) w1 from HO.out).ev
  have c3 := hc _ HO.out.drop
  simp only at c0 c1 c2
  have H := Lib.hid h; have HC := Lib.hid hc
  clear h hc
  by_cases h1 : b = 2
  · subst h1
    have h2 : saysB word (a, 2, d) = (d == word) := by unfold saysB; simp [Bool.beq_eq_decide_eq]
    have H2 := Lib.hid h2
    clear h2
    go_enter Tryz.func153, Tryz.ntmps153
    go_upto_region 1 with fail
    rw [← hb_b1, ← hw_w1]
    clear hb_b1 hw_w1
    go_wp2
    go_ret
    exact ⟨by rw [H2.out]; rfl, HO.out.drop⟩
  · have h2 : saysB word (a, b, d) = false := by unfold saysB; simp [h1]
    have h3 : (b == 2) = false := by simpa using h1
    have H2 := Lib.hid h2; have H1 := Lib.hid h1
    clear h2 h1
    go_enter Tryz.func153, Tryz.ntmps153
    go_upto_region 1 with fail
    rw [← hb_b1, ← hw_w1]
    clear hb_b1 hw_w1
    go_wp2
    go_ret
    exact ⟨by rw [H2.out]; rfl, HO.out.drop⟩
set_option maxRecDepth 100000 in
set_option maxHeartbeats 4000000 in
theorem saidIndex_any {w0 w : World} {R : HProp} (c : Nat) (word : Int) (v : Value) (l : List Ev) (h : Own w0 R w) (hc : ∀ w', Own w0 R w' → w'.cell? ⟨c, 0, none⟩ = some (.int .i64 word)) (hl : ReadsE w0 R v l) :
    Calls Tryz.prog 152 #[v, saidF c] w fun e w' => e = .returned (.int .i64 (saidAt l word)) ∧ Own w0 R w' := by
  obtain ⟨ad, cap, rfl, hlc, hcap⟩ := (hl _ h).shape
  unfold saidF
  have H := Lib.hid h; have HL := Lib.hid hl; have HC := Lib.hid hc
  clear h hl hc
  go_enter Tryz.func152, Tryz.ntmps152
  go_wp2_with fail
  go_loopw [8] (fun i wr => ∃ k : Nat, k ≤ l.length ∧ i = .int .i64 k ∧ Hid (Own w0 R wr) ∧ Hid (∀ j (_ : j < k) (h : j < l.length), saysB word l[j] = false)) (fun i _ => l.length - (intOf i).toNat)
  case atStart => exact ⟨0, Nat.zero_le _, rfl, H, Lib.hid (fun j h => by omega)⟩
  case round =>
    obtain ⟨k, hk, rfl, HO, hp⟩ := hrel
    by_cases hlt : k < l.length
    rotate_left
    · have hm : saidAt l word = -1 := whereI_miss _ l (fun j h => hp.out j (by omega) h)
      have HM := Lib.hid hm
      clear hm
      go_wp2
      go_ret
      exact ⟨by rw [HM.out]; rfl, HO.out⟩
    obtain ⟨aa, eb, eo, es, rfl, hea, hcs, hgd⟩ := HL.out.at HO.out k hlt
    obtain ⟨x, hx⟩ : ∃ x, x = evAt l k := ⟨_, rfl⟩
    rw [← hx] at hcs
    have hxk : x = l[k] := by rw [hx]; unfold evAt; rw [List.getD_eq_getElem?_getD, List.getElem?_eq_getElem hlt]; rfl
    obtain ⟨c0, c1, c2⟩ := hcs _ HO.out
    have HCS := Lib.hid hcs; have HX := Lib.hid hx; have HGD := Lib.hid hgd
    clear hcs hx hgd
    cases hs : saysB word x
    · have hn : ∀ j (_ : j < k + 1) (h : j < l.length), saysB word l[j] = false := fun j h1 h2 => by
        by_cases e : j = k
        · subst e; rw [← hxk]; exact hs
        · exact hp.out j (by omega) h2
      have HN := Lib.hid hn; have HXK := Lib.hid hxk
      clear hn hxk
      go_wp2_with fail
      refine (said1_any c word x HO.out HC.out).mono ?_
      rintro e w' ⟨rfl, ho⟩
      rw [hs]
      have HO2 := Lib.hid ho
      clear ho c0 c1 c2
      go_wp2
      go_round
      case rel => exact ⟨k + 1, by omega, by go_num, HO2, HN⟩
      case measure => simp [intOf]; omega
    · have hm : saidAt l word = k := whereI_hit _ l k hlt (fun j h => hp.out j h (by omega)) (by rw [← hxk]; exact hs)
      have HM := Lib.hid hm; have HXK := Lib.hid hxk
      clear hm hxk
      go_wp2_with fail
      refine (said1_any c word x HO.out HC.out).mono ?_
      rintro e w' ⟨rfl, ho⟩
      rw [hs]
      have HO2 := Lib.hid ho
      clear ho c0 c1 c2
      go_wp2
      go_ret
      exact ⟨by rw [HM.out]; rfl, HO2.out⟩
set_option maxRecDepth 100000 in
set_option maxHeartbeats 4000000 in
theorem said_any {w0 w : World} {R : HProp} (word : Int) (v : Value) (l : List Ev) (h : Own w0 R w) (hl : ReadsE w0 R v l) :
    Calls Tryz.prog 131 #[v, .int .i64 word] w fun e w' => e = .returned (.int .i64 (saidAt l word)) ∧ Own w0 R w' := by
  obtain ⟨b1, hb_b1⟩ : ∃ zz_, zz_ = (w).heap.size := ⟨_, rfl⟩
  obtain ⟨w1, hw_w1⟩ : ∃ zz_, zz_ = (w).alloc (.cells #[.int .i64 word] 3 (0, 0)) := ⟨_, rfl⟩
  have h_HO := (h).alloc (.cells #[.int .i64 word] 3 (0, 0))
  rw [← hb_b1, ← hw_w1] at h_HO
  have HO := Lib.hid h_HO
  clear h_HO
  have hc : ∀ w', Own w0 (blk b1 (.cells #[.int .i64 word] 3 (0, 0)) * R) w' → w'.cell? ⟨b1, 0, none⟩ = some (.int .i64 word) := fun w' ho => (Own.cell ho 0).trans rfl
  have H := Lib.hid h; have HL := Lib.hid hl; have HC := Lib.hid hc
  clear h hl hc
  go_enter Tryz.func131, Tryz.ntmps131
  go_upto_region 1 with fail
  rw [← hb_b1, ← hw_w1]
  clear hb_b1 hw_w1
  go_wp2_with fail
  refine (saidIndex_any b1 word v l HO.out HC.out HL.out.more).mono ?_
  rintro e w' ⟨rfl, ho⟩
  have HO2 := Lib.hid ho.drop
  clear ho
  go_wp2
  go_ret
  exact ⟨rfl, HO2.out⟩
set_option maxRecDepth 100000 in
set_option maxHeartbeats 4000000 in
theorem right_any {w0 w : World} {R : HProp} (x : Ev) (h : Own w0 R w) :
    Calls Tryz.prog 149 #[evV x] w fun e w' => e = .returned (.bool (rightB x)) ∧ Own w0 R w' := by
  obtain ⟨a, b, d⟩ := x
  unfold evV
  obtain ⟨b1, hb_b1⟩ : ∃ zz_, zz_ = (w).heap.size := ⟨_, rfl⟩
  obtain ⟨w1, hw_w1⟩ : ∃ zz_, zz_ = (w).alloc (.cells #[.int .i64 a, .int .i64 b, .int .i64 d] 112 (0, 0)) := ⟨_, rfl⟩
  have h_HO := (h).alloc (.cells #[.int .i64 a, .int .i64 b, .int .i64 d] 112 (0, 0))
  rw [← hb_b1, ← hw_w1] at h_HO
  have HO := Lib.hid h_HO
  clear h_HO
  obtain ⟨c0, c1, c2⟩ := (show Own w0 (EvO b1 (a, b, d) * R) w1 from HO.out).ev
  simp only at c0 c1 c2
  have H := Lib.hid h
  clear h
  cases hm : isMember a
  · have hr : rightB (a, b, d) = false := by unfold rightB; simp [hm]
    have HR := Lib.hid hr
    clear hr
    go_enter Tryz.func149, Tryz.ntmps149
    go_upto_region 1 with fail
    rw [← hb_b1, ← hw_w1]
    clear hb_b1 hw_w1
    go_wp2_with fail
    refine (member_any a _).mono ?_
    rintro e w' ⟨rfl, rfl⟩
    rw [hm]
    go_wp2
    go_ret
    exact ⟨by rw [HR.out]; rfl, HO.out.drop⟩
  by_cases h1 : b = 1
  · subst h1
    have hr : rightB (a, 1, d) = (d == 0) := by unfold rightB; simp [hm, Bool.beq_eq_decide_eq]
    have HR := Lib.hid hr
    clear hr
    go_enter Tryz.func149, Tryz.ntmps149
    go_upto_region 1 with fail
    rw [← hb_b1, ← hw_w1]
    clear hb_b1 hw_w1
    go_wp2_with fail
    refine (member_any a _).mono ?_
    rintro e w' ⟨rfl, rfl⟩
    rw [hm]
    go_wp2
    go_ret
    exact ⟨by rw [HR.out]; rfl, HO.out.drop⟩
  have t1 : (b == 1) = false := by simpa using h1
  by_cases h2 : b = 2
  · subst h2
    have hr : rightB (a, 2, d) = isWord d := by unfold rightB; simp [hm]
    have HR := Lib.hid hr
    clear hr
    go_enter Tryz.func149, Tryz.ntmps149
    go_upto_region 1 with fail
    rw [← hb_b1, ← hw_w1]
    clear hb_b1 hw_w1
    go_wp2_with fail
    refine (member_any a _).mono ?_
    rintro e w' ⟨rfl, rfl⟩
    rw [hm]
    go_wp2_with fail
    refine (word_any d _).mono ?_
    rintro e w' ⟨rfl, rfl⟩
    go_wp2
    go_ret
    exact ⟨by rw [HR.out]; rfl, HO.out.drop⟩
  have t2 : (b == 2) = false := by simpa using h2
  by_cases h3 : b = 3
  · subst h3
    have hr : rightB (a, 3, d) = isWord d := by unfold rightB; simp [hm]
    have HR := Lib.hid hr
    clear hr
    go_enter Tryz.func149, Tryz.ntmps149
    go_upto_region 1 with fail
    rw [← hb_b1, ← hw_w1]
    clear hb_b1 hw_w1
    go_wp2_with fail
    refine (member_any a _).mono ?_
    rintro e w' ⟨rfl, rfl⟩
    rw [hm]
    go_wp2_with fail
    refine (word_any d _).mono ?_
    rintro e w' ⟨rfl, rfl⟩
    go_wp2
    go_ret
    exact ⟨by rw [HR.out]; rfl, HO.out.drop⟩
  have t3 : (b == 3) = false := by simpa using h3
  have hr : rightB (a, b, d) = false := by unfold rightB; simp [h1, h2, h3]
  have HR := Lib.hid hr; have H1 := Lib.hid h1; have H2 := Lib.hid h2; have H3 := Lib.hid h3
  clear hr h1 h2 h3
  go_enter Tryz.func149, Tryz.ntmps149
  go_upto_region 1 with fail
  rw [← hb_b1, ← hw_w1]
  clear hb_b1 hw_w1
  go_wp2_with fail
  refine (member_any a _).mono ?_
  rintro e w' ⟨rfl, rfl⟩
  rw [hm]
  go_wp2
  go_ret
  exact ⟨by rw [HR.out]; rfl, HO.out.drop⟩
end Go.Proofs.YtdfjbnfdknpahaaGreatDoor
/- Texts as lists of bytes; the reference's Digits, name, row, done, told. -/
namespace Go.Proofs.YtdfjbnfdknpahaaGreatDoor
set_option linter.unusedVariables false
set_option linter.unusedSimpArgs false
open Go.RowKit
def tx (l : List UInt8) : ByteArray := ⟨l.toArray⟩
theorem tx_size (l : List UInt8) : (tx l).size = l.length := by simp [tx, ByteArray.size]
theorem tx_list (l : List UInt8) : (tx l).data.toList = l := by simp [tx]
theorem tx_of (s : ByteArray) : tx s.data.toList = s := by cases s; simp [tx]
theorem tx_add (a b : List UInt8) : tx a ++ tx b = tx (a ++ b) := by
  unfold tx
  cases h : (⟨a.toArray⟩ ++ ⟨b.toArray⟩ : ByteArray) with
  | mk d =>
    have := congrArg ByteArray.data h
    rw [ByteArray.data_append] at this
    simp at this
    simp [← this]
def tenS : List UInt8 := [48, 49, 50, 51, 52, 53, 54, 55, 56, 57]
theorem ten_at (k : Nat) (h : k < 10) : (tx tenS).extract k (k + 1) = tx (Lib.decDigits k) := by
  rw [Lib.decDigits, dif_pos h]
  have : k = 0 ∨ k = 1 ∨ k = 2 ∨ k = 3 ∨ k = 4 ∨ k = 5 ∨ k = 6 ∨ k = 7 ∨ k = 8 ∨ k = 9 := by omega
  rcases this with rfl | rfl | rfl | rfl | rfl | rfl | rfl | rfl | rfl | rfl <;> decide
theorem dec_len : ∀ n : Nat, 1 ≤ (Lib.decDigits n).length ∧ (Lib.decDigits n).length ≤ n + 1 := by
  intro n
  induction n using Nat.strongRecOn with
  | ind n ih =>
    rw [Lib.decDigits]
    split
    · simp
    · have := ih (n / 10) (by omega)
      rw [List.length_append]
      simp only [List.length_cons, List.length_nil]
      omega
theorem digits_any : ∀ (n : Nat), n ≤ 1000000000 → ∀ (w : World), Calls Tryz.prog 10 #[.int .i64 (n : Int)] w fun e w' => e = .returned (.string (tx (Lib.decDigits n))) ∧ w = w' := by
  intro n
  induction n using Nat.strongRecOn with
  | ind n ih =>
    intro hn w
    have hds : ∀ (k : Nat), k < 10 → ∀ w, (Instr.slice 9 (.string (tx tenS)) (some (.int .i64 (k : Int))) (some (.int .i64 ((k : Int) + 1))) none).run Tryz.prog w = .ok (.string (tx (Lib.decDigits k))) w := fun k hk w => by
      rw [run_slice_string w 9 (tx tenS) .i64 .i64 _ _ Tryz.underlying9 (by omega) (by omega) (by rw [tx_size]; show (k : Int) + 1 ≤ (10 : Nat); omega), show ((k : Int)).toNat = k by omega, show ((k : Int) + 1).toNat = k + 1 by omega, ten_at k hk]
    by_cases h : n < 10
    · have h1 : (n : Int) < 10 := by omega
      have hsl := hds n h
      obtain ⟨T, hT⟩ : ∃ T, T = tx (Lib.decDigits n) := ⟨_, rfl⟩
      rw [← hT] at hsl ⊢
      clear hds
      have HT := Lib.hid hT; have IH := Lib.hid ih
      clear hT ih
      go_enter Tryz.func10, Tryz.ntmps10
      go_name_bytes_deep 10 DG hDG
      have eDG : DG = tx tenS := by rw [← hDG]; decide +kernel
      subst eDG
      clear hDG
      go_wp2_with fail
      go_ret
      exact ⟨rfl, rfl⟩
    · have h1 : ¬ (n : Int) < 10 := by omega
      have hc := ih (n / 10) (by omega) (by omega)
      have hsl := hds (n % 10) (by omega)
      have hdg : Lib.decDigits n = Lib.decDigits (n / 10) ++ Lib.decDigits (n % 10) := by
        rw [Lib.decDigits, dif_neg h]
        congr 1
        rw [Lib.decDigits, dif_pos (by omega)]
      rw [hdg, ← tx_add]
      have hl1 : (tx (Lib.decDigits (n / 10))).size ≤ 1000000000 := by
        rw [tx_size]
        have := (dec_len (n / 10)).2
        omega
      have hl2 : (tx (Lib.decDigits (n % 10))).size ≤ 1000 := by
        rw [tx_size, Lib.decDigits, dif_pos (by omega)]; simp
      obtain ⟨A, hA⟩ : ∃ A, A = tx (Lib.decDigits (n / 10)) := ⟨_, rfl⟩
      obtain ⟨B, hB⟩ : ∃ B, B = tx (Lib.decDigits (n % 10)) := ⟨_, rfl⟩
      rw [← hA] at hc hl1 ⊢
      rw [← hB] at hsl hl2 ⊢
      have had : ∀ (w : World), (Op.stringOp .add A B).run Tryz.prog w = .ok (.string (A ++ B)) w := fun w => run_string_add_sum _ _ _ (by omega)
      have hr : ((n : Int)) % 10 = ((n % 10 : Nat) : Int) := by omega
      have hq : ((n : Int)) / 10 = ((n / 10 : Nat) : Int) := by omega
      have HC := Lib.hid hc
      clear hds ih hc hdg
      have HA := Lib.hid hA; have HB := Lib.hid hB
      clear hA hB
      obtain ⟨r, hrr⟩ : ∃ r, r = n % 10 := ⟨_, rfl⟩
      obtain ⟨q, hqq⟩ : ∃ q, q = n / 10 := ⟨_, rfl⟩
      rw [← hrr] at hr hsl
      rw [← hqq] at hq HC
      have hr10 : r < 10 := by omega
      have HRR := Lib.hid hrr; have HQQ := Lib.hid hqq
      clear hrr hqq
      go_enter Tryz.func10, Tryz.ntmps10
      go_name_bytes_deep 10 DG hDG
      have eDG : DG = tx tenS := by rw [← hDG]; decide +kernel
      subst eDG
      clear hDG
      go_wp2_with fail
      refine (HC.out _).mono ?_
      rintro e w2 ⟨rfl, rfl⟩
      go_wp2_with fail
      go_ret
      exact ⟨rfl, rfl⟩
def nmB (e : Nat) : List UInt8 := match e with
  | 0 => [79, 75]
  | 1 => [69, 114, 114, 82, 97, 110, 103, 101]
  | 2 => [69, 114, 114, 83, 121, 110, 116, 97, 120]
  | 3 => [69, 114, 114, 83, 104, 97, 112, 101]
  | 4 => [69, 114, 114, 70, 117, 108, 108]
  | 5 => [69, 114, 114, 78, 111, 110, 101]
  | 6 => [69, 114, 114, 83, 116, 97, 116, 101]
  | 7 => [69, 114, 114, 67, 108, 97, 115, 104]
  | _ => [69, 114, 114, 79, 117, 116]
def rowC (l : List Int) : List UInt8 := match l with
  | [] => []
  | x :: r => Lib.decDigits x.toNat ++ r.flatMap fun y => 32 :: Lib.decDigits y.toNat
def rowT (l : List Int) : List UInt8 := if l = [] then [45] else rowC l
theorem rowC_snoc (l : List Int) (x : Int) : rowC (l ++ [x]) = (if l = [] then [] else rowC l ++ [32]) ++ Lib.decDigits x.toNat := by
  cases l with
  | nil => simp [rowC]
  | cons y r => simp [rowC]
theorem rowC_len : ∀ (l : List Int), (∀ x ∈ l, 0 ≤ x ∧ x ≤ 10000000) → (rowC l).length ≤ l.length * 10000002
  | [], _ => by simp [rowC]
  | x :: r, h => by
    have h1 := (dec_len x.toNat).2
    have h0 := h x (List.mem_cons_self ..)
    have key : ∀ (q : List Int), (∀ x ∈ q, 0 ≤ x ∧ x ≤ 10000000) → (q.flatMap fun y => 32 :: Lib.decDigits y.toNat).length ≤ q.length * 10000002 := by
      intro q
      induction q with
      | nil => intro _; simp
      | cons y q ih =>
        intro hq
        have h2 := (dec_len y.toNat).2
        have h3 := hq y (List.mem_cons_self ..)
        have h4 := ih (fun z hz => hq z (List.mem_cons_of_mem _ hz))
        rw [List.flatMap_cons, List.length_append, List.length_cons, List.length_cons, Nat.succ_mul]
        omega
    have := key r (fun z hz => h z (List.mem_cons_of_mem _ hz))
    unfold rowC
    rw [List.length_append, List.length_cons, Nat.succ_mul]
    omega
theorem rowC_ne {l : List Int} (h : l ≠ []) : rowC l ≠ [] := by
  cases l with
  | nil => exact absurd rfl h
  | cons x r =>
    have := (dec_len x.toNat).1
    unfold rowC
    intro hc
    have h2 := congrArg List.length hc
    rw [List.length_append, List.length_nil] at h2
    omega
set_option maxRecDepth 100000 in
set_option maxHeartbeats 4000000 in
theorem rname_any {w0 w : World} {R : HProp} (k : Int) (hk : 0 ≤ k ∧ k ≤ 8) (h : Own w0 R w) :
    Calls Tryz.prog 22 #[.int .i64 k] w fun e w' => e = .returned (.string (tx (nmB k.toNat))) ∧ Own w0 R w' := by
  obtain ⟨b1, hb_b1⟩ : ∃ zz_, zz_ = (w).heap.size := ⟨_, rfl⟩
  obtain ⟨w1, hw_w1⟩ : ∃ zz_, zz_ = (w).alloc (.cells #[.string ⟨#[79, 75]⟩, .string ⟨#[69, 114, 114, 82, 97, 110, 103, 101]⟩, .string ⟨#[69, 114, 114, 83, 121, 110, 116, 97, 120]⟩, .string ⟨#[69, 114, 114, 83, 104, 97, 112, 101]⟩, .string ⟨#[69, 114, 114, 70, 117, 108, 108]⟩, .string ⟨#[69, 114, 114, 78, 111, 110, 101]⟩, .string ⟨#[69, 114, 114, 83, 116, 97, 116, 101]⟩, .string ⟨#[69, 114, 114, 67, 108, 97, 115, 104]⟩, .string ⟨#[69, 114, 114, 79, 117, 116]⟩] 9 (0, 0)) := ⟨_, rfl⟩
  have h_HO1 := (h).alloc (.cells #[.string ⟨#[79, 75]⟩, .string ⟨#[69, 114, 114, 82, 97, 110, 103, 101]⟩, .string ⟨#[69, 114, 114, 83, 121, 110, 116, 97, 120]⟩, .string ⟨#[69, 114, 114, 83, 104, 97, 112, 101]⟩, .string ⟨#[69, 114, 114, 70, 117, 108, 108]⟩, .string ⟨#[69, 114, 114, 78, 111, 110, 101]⟩, .string ⟨#[69, 114, 114, 83, 116, 97, 116, 101]⟩, .string ⟨#[69, 114, 114, 67, 108, 97, 115, 104]⟩, .string ⟨#[69, 114, 114, 79, 117, 116]⟩] 9 (0, 0))
  rw [← hb_b1, ← hw_w1] at h_HO1
  have HO1 := Lib.hid h_HO1
  clear h_HO1
  have hcs : k = 0 ∨ k = 1 ∨ k = 2 ∨ k = 3 ∨ k = 4 ∨ k = 5 ∨ k = 6 ∨ k = 7 ∨ k = 8 := by omega
  have c0 : w1.cell? ⟨b1, 0, none⟩ = some (.string (tx (nmB 0))) := (HO1.out.cell 0).trans rfl
  have c1 : w1.cell? ⟨b1, 1, none⟩ = some (.string (tx (nmB 1))) := (HO1.out.cell 1).trans rfl
  have c2 : w1.cell? ⟨b1, 2, none⟩ = some (.string (tx (nmB 2))) := (HO1.out.cell 2).trans rfl
  have c3 : w1.cell? ⟨b1, 3, none⟩ = some (.string (tx (nmB 3))) := (HO1.out.cell 3).trans rfl
  have c4 : w1.cell? ⟨b1, 4, none⟩ = some (.string (tx (nmB 4))) := (HO1.out.cell 4).trans rfl
  have c5 : w1.cell? ⟨b1, 5, none⟩ = some (.string (tx (nmB 5))) := (HO1.out.cell 5).trans rfl
  have c6 : w1.cell? ⟨b1, 6, none⟩ = some (.string (tx (nmB 6))) := (HO1.out.cell 6).trans rfl
  have c7 : w1.cell? ⟨b1, 7, none⟩ = some (.string (tx (nmB 7))) := (HO1.out.cell 7).trans rfl
  have c8 : w1.cell? ⟨b1, 8, none⟩ = some (.string (tx (nmB 8))) := (HO1.out.cell 8).trans rfl
  have H := Lib.hid h; have HK := Lib.hid hk; have HCS := Lib.hid hcs
  clear h hk hcs
  go_enter Tryz.func22, Tryz.ntmps22
  go_upto_region 2 with fail
  rw [← hb_b1, ← hw_w1]
  clear hb_b1 hw_w1
  rcases HCS.out with rfl | rfl | rfl | rfl | rfl | rfl | rfl | rfl | rfl
  all_goals
    go_wp2_with fail
    go_ret
    exact ⟨rfl, HO1.out.drop⟩
set_option maxRecDepth 100000 in
set_option maxHeartbeats 4000000 in
theorem rrow_any {w : World} (v : Value) (l : List Int) (hl : Ints w v l) (hb : ∀ x ∈ l, 0 ≤ x ∧ x ≤ 10000000) (hn : l.length ≤ 100) :
    Calls Tryz.prog 25 #[v] w fun e w' => e = .returned (.string (tx (rowT l))) ∧ w = w' := by
  obtain ⟨ad, cap, rfl, hc1, hc2⟩ := hl.shape
  obtain ⟨n, hnn⟩ : ∃ n, n = l.length := ⟨_, rfl⟩
  rw [← hnn] at hl hc1 hn ⊢
  have HL := Lib.hid hl; have HB := Lib.hid hb; have HNN := Lib.hid hnn
  clear hl hb hnn
  go_enter Tryz.func25, Tryz.ntmps25
  go_wp2_with fail
  go_loop [3, 4] (fun sv iv => ∃ k : Nat, k ≤ n ∧ iv = .int .i64 k ∧ sv = .string (tx (rowC (l.take k)))) (fun _ iv => n - (intOf iv).toNat)
  case atStart => exact ⟨0, Nat.zero_le _, rfl, rfl⟩
  case round =>
    obtain ⟨k, hk, rfl, rfl⟩ := hrel
    by_cases hlt : k < n
    rotate_left
    · have hkn : k = n := by omega
      subst hkn
      have hfull : l.take k = l := by rw [HNN.out, List.take_length]
      rw [hfull]
      by_cases hl0 : l = []
      · subst hl0
        rw [show tx (rowC []) = ⟨#[]⟩ from rfl]
        go_wp2_with fail
        go_ret
        exact ⟨rfl, rfl⟩
      · have hne := rowC_ne hl0
        have hq0 : (tx (rowC l)).toList ≠ [] := by
          rw [ByteArray.toList_eq]
          show (tx (rowC l)).data.toList ≠ []
          rw [tx_list]
          exact hne
        have hrt : rowT l = rowC l := by unfold rowT; rw [if_neg hl0]
        obtain ⟨T, hT⟩ : ∃ T, T = tx (rowC l) := ⟨_, rfl⟩
        have hrt2 : T = tx (rowT l) := by rw [hrt]; exact hT
        rw [← hT] at hq0 ⊢
        have hq1 : (T.toList == ByteArray.toList ⟨#[]⟩) = false := by
          rw [beq_eq_false_iff_ne, ByteArray.toList_eq ⟨#[]⟩]
          exact hq0
        have hq2 : (T.toList == []) = false := by rw [beq_eq_false_iff_ne]; exact hq0
        have hq3 : T.toList.isEmpty = false := by rw [List.isEmpty_eq_false_iff]; exact hq0
        have HT := Lib.hid hT; have HNE := Lib.hid hne; have HL0 := Lib.hid hl0; have HRT := Lib.hid hrt; have HFULL := Lib.hid hfull; have HRT2 := Lib.hid hrt2
        clear hT hne hl0 hrt hfull hrt2
        go_wp2_with fail
        go_ret
        exact ⟨congrArg (fun t => Ending.returned (Value.string t)) HRT2.out, rfl⟩
    have hkl : k < l.length := by rw [← HNN.out]; exact hlt
    obtain ⟨a, rfl, hca⟩ := HL.out.at k hkl
    have hbk := HB.out _ (List.getElem_mem hkl)
    have hsn := rowC_snoc (l.take k) l[k]
    rw [← List.take_succ_eq_append_getElem hkl] at hsn
    have hlen := rowC_len (l.take k) (fun x hx => HB.out x (List.mem_of_mem_take hx))
    have htl : (l.take k).length = k := by rw [List.length_take]; omega
    rw [htl] at hlen
    obtain ⟨m, hm⟩ : ∃ m : Nat, l[k] = (m : Int) := ⟨l[k].toNat, by omega⟩
    have hm2 : m ≤ 10000000 := by omega
    rw [hm] at hca hsn
    rw [Int.toNat_natCast] at hsn
    have hdl := (dec_len m).2
    have hA : (tx (rowC (l.take k))).size ≤ 1000000300 := by rw [tx_size]; omega
    have hB : (tx (Lib.decDigits m)).size ≤ 10000001 := by rw [tx_size]; omega
    have hd := digits_any m (by omega) w
    by_cases hk0 : k = 0
    · subst hk0
      rw [show l.take 0 = [] from rfl] at hsn ⊢
      rw [if_pos rfl, List.nil_append] at hsn
      rw [← hsn] at hd hB
      obtain ⟨T, hT⟩ : ∃ T, T = tx (rowC (l.take (0 + 1))) := ⟨_, rfl⟩
      rw [← hT] at hd hB
      have he : (⟨#[]⟩ : ByteArray) ++ T = T := by
        apply ByteArray.ext
        simp
      obtain ⟨E, hE⟩ : ∃ E : ByteArray, E = tx (rowC []) := ⟨_, rfl⟩
      have had : ∀ (w : World), (Op.stringOp .add E T).run Tryz.prog w = .ok (.string T) w := fun w => by
        have := run_string_add_sum (P := Tryz.prog) (w := w) E T (by rw [hE]; show (0 : Nat) + _ ≤ _; omega)
        rw [this, hE]
        exact congrArg (fun s => Result.ok (Value.string s) w) he
      rw [← hE]
      clear hE
      have haa : a.add 0 = a := by cases a; rfl
      rw [haa] at hca
      clear haa
      have HD := Lib.hid hd; have HSN := Lib.hid hsn; have HT := Lib.hid hT; have HLEN := Lib.hid hlen; have HTL := Lib.hid htl; have HM := Lib.hid hm; have HBK := Lib.hid hbk; have HA := Lib.hid hA; have HDL := Lib.hid hdl; have HE := Lib.hid he
      clear hd hsn hT hlen htl hm hbk hA hdl he
      go_wp2_with fail
      refine HD.out.mono ?_
      rintro e w2 ⟨rfl, rfl⟩
      go_wp2_with fail
      go_round
      case rel => exact ⟨0 + 1, by omega, by go_num, by rw [HT.out]⟩
      case measure => simp [intOf]; omega
    · have hne : l.take k ≠ [] := by
        intro hc
        rw [hc] at htl
        simp at htl
        omega
      rw [if_neg hne] at hsn
      have k0 : (0 : Int) < (k : Int) := by omega
      have hx : tx (rowC (l.take (k + 1))) = (tx (rowC (l.take k)) ++ tx [32]) ++ tx (Lib.decDigits m) := by rw [hsn, tx_add, tx_add]
      obtain ⟨A, hAe⟩ : ∃ A, A = tx (rowC (l.take k)) := ⟨_, rfl⟩
      obtain ⟨B, hBe⟩ : ∃ B, B = tx (Lib.decDigits m) := ⟨_, rfl⟩
      obtain ⟨C, hCe⟩ : ∃ C, C = tx (rowC (l.take (k + 1))) := ⟨_, rfl⟩
      rw [← hAe] at hA hx ⊢
      rw [← hBe] at hB hx hd
      rw [← hCe] at hx
      have had1 : ∀ (w : World), (Op.stringOp .add A ⟨#[32]⟩).run Tryz.prog w = .ok (.string (A ++ tx [32])) w := fun w => run_string_add_sum _ _ _ (by show _ + (1 : Nat) ≤ _; omega)
      have had2 : ∀ (w : World), (Op.stringOp .add (A ++ tx [32]) B).run Tryz.prog w = .ok (.string C) w := fun w => by
        rw [hx]
        refine run_string_add_sum _ _ _ ?_
        rw [ByteArray.size_append, tx_size]
        simp only [List.length_singleton]
        omega
      obtain ⟨D, hDe⟩ : ∃ D, D = A ++ tx [32] := ⟨_, rfl⟩
      rw [← hDe] at had1 had2
      have HD := Lib.hid hd; have HSN := Lib.hid hsn; have HLEN := Lib.hid hlen; have HTL := Lib.hid htl; have HM := Lib.hid hm; have HBK := Lib.hid hbk; have HA := Lib.hid hA; have HB := Lib.hid hB; have HDL := Lib.hid hdl; have HX := Lib.hid hx; have HAE := Lib.hid hAe; have HBE := Lib.hid hBe; have HCE := Lib.hid hCe; have HDE := Lib.hid hDe; have HNE := Lib.hid hne
      clear hd hsn hlen htl hm hbk hA hB hdl hx hAe hBe hCe hDe hne
      go_wp2_with fail
      refine HD.out.mono ?_
      rintro e w2 ⟨rfl, rfl⟩
      go_wp2_with fail
      go_round
      case rel => exact ⟨k + 1, by omega, by go_num, by rw [HCE.out]⟩
      case measure => simp [intOf]; omega
end Go.Proofs.YtdfjbnfdknpahaaGreatDoor
/- The reference's Cut: a text at each byte c. -/
namespace Go.Proofs.YtdfjbnfdknpahaaGreatDoor
set_option linter.unusedVariables false
set_option linter.unusedSimpArgs false
open Go.RowKit
def StSl (v : Value) (ls : List (List UInt8)) : HProp := Sl 9 1 v ls.length (ls.map fun l => .string (tx l))
def cutS (c : UInt8) : List UInt8 → List (List UInt8)
  | [] => [[]]
  | b :: r => if b = c then [] :: cutS c r else match cutS c r with
    | [] => [[b]]
    | x :: y => (b :: x) :: y
theorem cutS_seg {c : UInt8} : ∀ (seg r : List UInt8), c ∉ seg → cutS c (seg ++ c :: r) = seg :: cutS c r
  | [], r, _ => by rw [List.nil_append, cutS, if_pos rfl]
  | b :: q, r, h => by
    have hb : b ≠ c := fun e => h (by rw [e]; exact List.mem_cons_self ..)
    have hq : c ∉ q := fun e => h (List.mem_cons_of_mem _ e)
    rw [List.cons_append, cutS, if_neg hb, cutS_seg q r hq]
theorem cutS_last {c : UInt8} : ∀ (seg : List UInt8), c ∉ seg → cutS c seg = [seg]
  | [], _ => rfl
  | b :: q, h => by
    have hb : b ≠ c := fun e => h (by rw [e]; exact List.mem_cons_self ..)
    have hq : c ∉ q := fun e => h (List.mem_cons_of_mem _ e)
    rw [cutS, if_neg hb, cutS_last q hq]
theorem tx_extract (s : List UInt8) (a b : Nat) : (tx s).extract a b = tx ((s.drop a).take (b - a)) := by
  apply ByteArray.ext
  rw [ByteArray.data_extract]
  unfold tx
  simp [List.extract]
theorem info_str : (Tryz.prog.info? 9).map (fun i => (i.zero, i.size, i.bytes)) = some (some (.string ⟨#[]⟩), 1, 16) := by kernel_rfl
theorem tx_get (s : List UInt8) (i : Nat) (h : i < s.length) (h2 : i < (tx s).size) : (tx s)[i] = s[i] := by
  show (s.toArray)[i]'(by simpa using h) = s[i]
  first | done | rfl | simp
set_option maxRecDepth 100000 in
set_option maxHeartbeats 4000000 in
theorem cutS_any {w0 w : World} {R : HProp} (s : List UInt8) (c : UInt8) (hs : s.length ≤ 100000) (h : Own w0 R w) :
    Calls Tryz.prog 7 #[.string (tx s), .int .u8 (c.toNat : Int)] w fun e w' => ∃ v', e = .returned v' ∧ Own w0 (StSl v' (cutS c s) * R) w' := by
  have HN0 : Hid (Own w0 (StSl (.slice none 0 0) [] * R) w) := Lib.hid (h.sl_nil _ _)
  obtain ⟨n, hn⟩ : ∃ n, n = s.length := ⟨_, rfl⟩
  rw [← hn] at hs
  have hlen : ∀ (ty : TypeId) (w : World), (Builtin.len_ #[9] ty #[.string (tx s)]).run Tryz.prog w = .ok (.int .i64 (n : Int)) w := fun ty w => by
    rw [run_len_string w _ _ _ Tryz.underlying9, tx_size, ← hn]; rfl
  have hix : ∀ (i : Nat) (hi : i < s.length) (w : World), (Instr.index 9 (.string (tx s)) (.int .i64 (i : Int))).run Tryz.prog w = .ok (.int .u8 ((s[i].toNat : Nat) : Int)) w := fun i hi w => by
    rw [run_index_string w _ _ _ _ Tryz.underlying9, dif_pos (by rw [tx_size]; omega)]
    have h3 : (i : Int).toNat = i := by omega
    simp only [h3]
    rw [tx_get s i hi]
    first | done | rfl
  have hsl : ∀ (a b : Nat), a ≤ b → b ≤ s.length → ∀ (w : World), (Instr.slice 9 (.string (tx s)) (some (.int .i64 (a : Int))) (some (.int .i64 (b : Int))) none).run Tryz.prog w = .ok (.string (tx ((s.drop a).take (b - a)))) w := fun a b h1 h2 w => by
    rw [run_slice_string w 9 (tx s) .i64 .i64 _ _ Tryz.underlying9 (by omega) (by omega) (by rw [tx_size]; omega), show ((a : Int)).toNat = a by omega, show ((b : Int)).toNat = b by omega, tx_extract]
  have hsl2 : ∀ (a : Nat), a ≤ s.length → ∀ (w : World), (Instr.slice 9 (.string (tx s)) (some (.int .i64 (a : Int))) none none).run Tryz.prog w = .ok (.string (tx (s.drop a))) w := fun a h1 w => by
    rw [run_slice_string_l w 9 (tx s) Tryz.underlying9 .i64 _ (by omega) (by rw [tx_size]; omega), show ((a : Int)).toNat = a by omega, tx_extract, tx_size, List.take_of_length_le (by simp)]
  have HS1 := Lib.hid hsl
  have HS2 := Lib.hid hsl2
  have HIX := Lib.hid hix
  obtain ⟨S, hS⟩ : ∃ S, S = tx s := ⟨_, rfl⟩
  rw [← hS] at HS1 HS2 HIX hlen
  rw [← hS]
  clear hsl hsl2 hix
  have H := Lib.hid h; have HN := Lib.hid hn; have HS := Lib.hid hS
  clear h hn hS
  go_enter Tryz.func7, Tryz.ntmps7
  go_wp2_with fail
  go_loopw [5, 6, 7] (fun ov fv iv wr => ∃ (i f : Nat) (out : List (List UInt8)), f ≤ i ∧ i ≤ n ∧ fv = .int .i64 f ∧ iv = .int .i64 i ∧ Hid (cutS c s = out ++ cutS c (s.drop f)) ∧ Hid (c ∉ (s.drop f).take (i - f)) ∧ out.length ≤ f ∧ Hid (Own w0 (StSl ov out * R) wr)) (fun _ _ iv _ => n - (intOf iv).toNat)
  case atStart => exact ⟨0, 0, [], Nat.le_refl _, Nat.zero_le _, rfl, rfl, Lib.hid rfl, Lib.hid (by simp), Nat.le_refl _, HN0⟩
  case round =>
    clear HN0
    obtain ⟨i, f, out, hfi, hin, rfl, rfl, HC, HM, hol, HO⟩ := hrel
    by_cases hlt : i < n
    · have hil : i < s.length := by rw [← HN.out]; exact hlt
      have hx := HIX.out i hil
      obtain ⟨b, hb⟩ : ∃ b, b = s[i] := ⟨_, rfl⟩
      rw [← hb] at hx
      have hdrop : s.drop f = (s.drop f).take (i - f) ++ b :: s.drop (i + 1) := by
        conv => lhs; rw [← List.take_append_drop (i - f) (s.drop f)]
        rw [List.drop_drop, show f + (i - f) = i by omega, hb, List.drop_eq_getElem_cons hil]
      by_cases hbc : b = c
      · have t1 : (((b.toNat : Nat) : Int) == ((c.toNat : Nat) : Int)) = true := by rw [hbc]; simp
        have hd2 : s.drop f = (s.drop f).take (i - f) ++ c :: s.drop (i + 1) := by rw [← hbc]; exact hdrop
        have e1 : cutS c (s.drop f) = (s.drop f).take (i - f) :: cutS c (s.drop (i + 1)) := (congrArg (cutS c) hd2).trans (cutS_seg _ _ HM.out)
        have hml := HS1.out f i hfi (by omega)
        have hol2 : out.length + 1 ≤ 100001 := by omega
        obtain ⟨sg, hsg⟩ : ∃ sg, sg = (s.drop f).take (i - f) := ⟨_, rfl⟩
        rw [← hsg] at hml e1
        have hc2 : cutS c s = (out ++ [sg]) ++ cutS c (s.drop (i + 1)) := by rw [HC.out, e1]; simp
        have HC2 := Lib.hid hc2; have HDROP := Lib.hid hdrop; have HB := Lib.hid hb; have HBC := Lib.hid hbc; have HD2 := Lib.hid hd2; have E1 := Lib.hid e1; have HSG := Lib.hid hsg
        clear hc2 hdrop hb hbc hd2 e1 hsg
        go_wp2_with (at_builtin; refine wpList_app rfl _ _ 23 rfl 9 1 16 _ info_str Tryz.underlying23 rfl (by decide) rfl (HO.out.alloc' _) rfl (by rfl) (Rd_lit (by simp) (by unfold maxLen; omega)) (by intro u hu; simp at hu; subst hu; rfl) (by unfold maxLen; omega) (by omega) ?_; intro v' w4 hown; have HO4 : Hid (Own w0 (StSl v' (out ++ [sg]) * R) w4) := Lib.hid (hown.perm (show _ = StSl v' (out ++ [sg]) * R by unfold StSl; simp)); clear hown)
        go_roundw
        case rel => exact ⟨i + 1, i + 1, out ++ [sg], by omega, by omega, by go_num, by go_num, HC2, Lib.hid (by simp), by simp; omega, HO4⟩
        case measure => simp [intOf]; omega
      · have t1 : (((b.toNat : Nat) : Int) == ((c.toNat : Nat) : Int)) = false := by
          rw [beq_eq_false_iff_ne]
          intro hc
          exact hbc (UInt8.toNat_inj.1 (by omega))
        have hm2 : c ∉ (s.drop f).take (i + 1 - f) := by
          rw [show i + 1 - f = (i - f) + 1 by omega, hdrop]
          have hll : ((s.drop f).take (i - f)).length = i - f := by rw [List.length_take, List.length_drop]; omega
          intro hc
          have h4 : ((s.drop f).take (i - f) ++ b :: s.drop (i + 1)).take (i - f + 1) = (s.drop f).take (i - f) ++ [b] := by
            rw [List.take_append, hll, List.take_of_length_le (by omega), show i - f + 1 - (i - f) = 1 by omega]
            rfl
          rw [h4] at hc
          rcases List.mem_append.1 hc with h5 | h5
          · exact HM.out h5
          · exact hbc (List.mem_singleton.1 h5).symm
        have HM2 := Lib.hid hm2; have HDROP := Lib.hid hdrop; have HB := Lib.hid hb; have HBC := Lib.hid hbc
        clear hm2 hdrop hb hbc
        go_wp2_with fail
        go_roundw
        case rel => exact ⟨i + 1, f, out, by omega, by omega, rfl, by go_num, HC, HM2, hol, HO⟩
        case measure => simp [intOf]; omega
    have hin2 : i = n := by omega
    subst hin2
    have hcl : c ∉ s.drop f := by
      have h1 := HM.out
      rw [List.take_of_length_le (by rw [List.length_drop]; have := HN.out; omega)] at h1
      exact h1
    have hce : cutS c s = out ++ [s.drop f] := by rw [HC.out, cutS_last _ hcl]
    have hml := HS2.out f (by have := HN.out; omega)
    have hol2 : out.length + 1 ≤ 100001 := by omega
    obtain ⟨sg, hsg⟩ : ∃ sg, sg = s.drop f := ⟨_, rfl⟩
    rw [← hsg] at hml hce
    have HCL := Lib.hid hcl; have HCE := Lib.hid hce; have HSG := Lib.hid hsg
    clear hcl hce hsg
    go_wp2_with (at_builtin; refine wpList_app rfl _ _ 23 rfl 9 1 16 _ info_str Tryz.underlying23 rfl (by decide) rfl (HO.out.alloc' _) rfl (by rfl) (Rd_lit (by simp) (by unfold maxLen; omega)) (by intro u hu; simp at hu; subst hu; rfl) (by unfold maxLen; omega) (by omega) ?_; intro v' w4 hown; have HO4 : Hid (Own w0 (StSl v' (out ++ [sg]) * R) w4) := Lib.hid (hown.perm (show _ = StSl v' (out ++ [sg]) * R by unfold StSl; simp)); clear hown)
    go_ret
    exact ⟨_, rfl, by rw [HCE.out]; exact HO4.out⟩
end Go.Proofs.YtdfjbnfdknpahaaGreatDoor
