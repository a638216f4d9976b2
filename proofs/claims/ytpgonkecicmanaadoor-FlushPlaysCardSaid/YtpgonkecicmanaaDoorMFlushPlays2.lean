/- Contracts of package vector, of what it calls in package slices, and of the lists' comparisons. -/
import Derived.Test.YtpgonkecicmanaaDoorMFlushPlays0
import Derived.Test.YtpgonkecicmanaaDoorProg
import Derived.BigQuiet
import Derived.Deep.QuietTactic
import Derived.Deep.RegionLaw
import Derived.Deep.RegionHeld3
import Derived.Test.YtpgonkecicmanaaDoorMFlushPlays1
namespace Go.Proofs.YtpgonkecicmanaaDoor
set_option linter.unusedVariables false
set_option linter.unusedSimpArgs false
open Go.RowKit
theorem ret_bool {a b : Bool} (h : a = b) : Ending.returned (.bool a) = .returned (.bool b) := by rw [h]
theorem ret_int {a b : Int} (h : a = b) : Ending.returned (.int .i64 a) = .returned (.int .i64 b) := by rw [h]
/-- An error: nil, or a number of api. -/
def errV : Nat → Value
  | 0 => .nilIface
  | n + 1 => .iface 125 (.int .i64 (n + 1))
theorem errV0 : errV 0 = .nilIface := rfl
theorem Ints.at {w : World} {ad : Option Addr} {n cap : Nat} {l : List Int} (h : Ints w (.slice ad n cap) l) (k : Nat) (hk : k < l.length) : ∃ a : Addr, ad = some a ∧ w.cell? (a.add k) = some (.int .i64 l[k]) := by
  obtain ⟨⟨ad', cap', e, _, _, _, hc⟩, _⟩ := h
  cases e
  exact hc k _ (by simp [hk])
theorem Ints.len {w : World} {ad : Option Addr} {n cap : Nat} {l : List Int} (h : Ints w (.slice ad n cap) l) : n = l.length := by
  obtain ⟨⟨ad', cap', e, _, _, _, hc⟩, _⟩ := h
  cases e; rfl
theorem Ints.shape {w : World} {v : Value} {l : List Int} (h : Ints w v l) : ∃ ad cap, v = .slice ad l.length cap ∧ l.length ≤ cap ∧ cap ≤ 9223372036854775807 := by
  obtain ⟨⟨ad', cap', e, h1, h2, _, hc⟩, _⟩ := h
  exact ⟨_, _, e, h1, by simpa [maxLen] using h2⟩
def isMember (n : Int) : Bool := decide (0 ≤ n) && decide (n < 5)
def isWord (n : Int) : Bool := decide (1 ≤ n) && decide (n ≤ 30)
def isCount (n : Int) : Bool := decide (0 ≤ n) && decide (n ≤ 1000000)
set_option maxHeartbeats 400000 in
theorem member_any (a : Int) (w : World) :
    Calls Tryd.prog 90 #[.int .i64 a] w fun e w' => e = .returned (.bool (isMember a)) ∧ w = w' := by
  go_enter Tryd.func90, Tryd.ntmps90
  go_wp2
  all_goals (go_ret; exact ⟨ret_bool (by unfold isMember; simp; try omega), rfl⟩)
set_option maxHeartbeats 400000 in
theorem word_any (a : Int) (w : World) :
    Calls Tryd.prog 64 #[.int .i64 a] w fun e w' => e = .returned (.bool (isWord a)) ∧ w = w' := by
  go_enter Tryd.func64, Tryd.ntmps64
  go_wp2
  all_goals (go_ret; exact ⟨ret_bool (by unfold isWord; simp; try omega), rfl⟩)
set_option maxHeartbeats 400000 in
theorem count_any (a : Int) (w : World) :
    Calls Tryd.prog 140 #[.int .i64 a] w fun e w' => e = .returned (.bool (isCount a)) ∧ w = w' := by
  go_enter Tryd.func140, Tryd.ntmps140
  go_wp2
  all_goals (go_ret; exact ⟨ret_bool (by unfold isCount; simp; try omega), rfl⟩)
def isGroup (n : Int) : Bool := decide (2 ≤ n) && decide (n ≤ 5)
set_option maxHeartbeats 400000 in
theorem group_any (a : Int) (w : World) :
    Calls Tryd.prog 62 #[.int .i64 a] w fun e w' => e = .returned (.bool (isGroup a)) ∧ w = w' := by
  go_enter Tryd.func62, Tryd.ntmps62
  go_wp2
  all_goals (go_ret; exact ⟨ret_bool (by unfold isGroup; simp; try omega), rfl⟩)
/-- Where the first one is for which p holds; -1: nowhere. -/
def whereIs (p : Int → Bool) : List Int → Int
  | [] => -1
  | x :: r => if p x then 0 else if whereIs p r < 0 then -1 else whereIs p r + 1
theorem whereIs_hit (p : Int → Bool) : ∀ (l : List Int) (k : Nat) (hk : k < l.length), (∀ j (h : j < k), p (l[j]'(by omega)) = false) → p l[k] = true → whereIs p l = k
  | [], k, hk, _, _ => by simp at hk
  | x :: r, 0, _, _, h => by simp at h; simp [whereIs, h]
  | x :: r, k + 1, hk, hj, h => by
    have h0 := hj 0 (by omega)
    simp at h0
    have ih := whereIs_hit p r k (by simpa using hk) (fun j hj' => by have := hj (j + 1) (by omega); simpa using this) (by simpa using h)
    simp [whereIs, h0, ih]; omega
theorem whereIs_miss (p : Int → Bool) : ∀ (l : List Int), (∀ j (h : j < l.length), p l[j] = false) → whereIs p l = -1
  | [], _ => rfl
  | x :: r, h => by
    have h0 := h 0 (by simp)
    simp at h0
    have ih := whereIs_miss p r (fun j hj => by have := h (j + 1) (by simpa using hj); simpa using this)
    simp [whereIs, h0, ih]
theorem whereIs_neg (p : Int → Bool) : ∀ (l : List Int), whereIs p l < 0 ↔ l.any p = false
  | [] => by simp [whereIs]
  | x :: r => by
    have ih := whereIs_neg p r
    unfold whereIs
    by_cases h : p x
    · simp [h]
    · simp only [h, List.any_cons, Bool.false_or, Bool.false_eq_true, if_false]
      split
      · rename_i h2; simp [ih.1 h2]
      · rename_i h2; constructor
        · intro h3; omega
        · intro h3; exact absurd (ih.2 h3) h2
theorem info_int : (Tryd.prog.info? 3).map (fun i => (i.zero, i.size, i.bytes)) = some (some (.int .i64 0), 1, 8) := by kernel_rfl
/-- An owned slice of ints. -/
def IntSl (v : Value) (l : List Int) : HProp := Sl 3 1 v l.length (l.map (Value.int .i64))
def vecErr (l : List Int) : Nat := if l.length ≠ 5 then 3 else if (l.any fun n => !isCount n) then 1 else 0
theorem vecErr0 {l : List Int} (h : vecErr l = 0) : l.length = 5 ∧ ∀ x ∈ l, 0 ≤ x ∧ x ≤ 1000000 := by
  unfold vecErr at h
  split at h
  · cases h
  · rename_i h1
    split at h
    · cases h
    · rename_i h2
      refine ⟨by omega, fun x hx => ?_⟩
      simp only [List.any_eq_true, not_exists, not_and, Bool.not_eq_true', Bool.not_eq_false] at h2
      have := h2 x hx
      simp only [isCount, Bool.and_eq_true, decide_eq_true_eq] at this
      exact this
set_option maxHeartbeats 1000000 in
theorem cloneInts_any {w0 w : World} {R : HProp} (h : Own w0 R w) (v : Value) (l : List Int) (hl : Ints w v l) (hb : l.length ≤ 100000) :
    Calls Tryd.prog 73 #[v] w fun e w' => ∃ v', e = .returned v' ∧ Own w0 (IntSl v' l * R) w' := by
  obtain ⟨⟨ad, cap, rfl, hlc, hcap, hn, hc⟩, hi⟩ := id hl
  cases ad with
  | none =>
    have h0 := hn rfl
    subst h0
    have hl0 : l = [] := List.eq_nil_of_length_eq_zero (by omega)
    subst hl0
    clear hn hc hi hl hlc hcap hb
    have hnil := fun (w : World) => Lib.run_eql_slice_nil (P := Tryd.prog) w 38 3 none 0 0 0 0 Tryd.underlying38
    go_enter Tryd.func73, Tryd.ntmps73
    go_wp2
    go_ret
    exact ⟨_, rfl, h.sl_nil _ _⟩
  | some a =>
    have hnil := fun (w : World) => Lib.run_eql_slice_nil (P := Tryd.prog) w 38 3 (some a) l.length cap 0 0 Tryd.underlying38
    have H := Lib.hid h
    have HL := Lib.hid hl
    have hsl : ∀ cs, Own w0 (Sl 3 1 (.slice (some ⟨w.heap.size, 0, none⟩) 0 0) 0 [] * R) (w.alloc (.cells #[] cs)) ∨ cs ≠ 3 := fun cs => by
      by_cases hcs : cs = 3
      · subst hcs; exact .inl (Own.sl_mk (cs := #[]) (Nat.le_refl _) (Nat.zero_le _) rfl (Nat.le_refl _) (fun i hi => by simp at hi) (H.out.alloc _))
      · exact .inr hcs
    have HS := Lib.hid ((hsl 3).resolve_right (by simp))
    clear hn hc hi hl h hsl
    go_enter Tryd.func73, Tryd.ntmps73
    go_wp2_with (at_builtin; refine wpList_app rfl _ _ 38 rfl 3 1 8 _ info_int Tryd.underlying38 rfl (by decide) rfl HS.out rfl (by simp) (HL.out.alloc _).1 (int_one _) (by unfold maxLen; omega) (by omega) ?_; intro v' w1 hown')
    go_ret
    exact ⟨_, rfl, by unfold IntSl; simpa using hown'⟩
theorem IntSl_reads {w0 : World} {R : HProp} {v : Value} {l : List Int} (hi : ∀ x ∈ l, I64 x) : Reads w0 (IntSl v l * R) v l := fun _ ho => ⟨Own.rd ho, hi⟩
/-- An owned list of ints: its row, its cells, a store. -/
theorem Own.ints_at {w0 w : World} {v : Value} {l : List Int} {R : HProp} (h : Own w0 (IntSl v l * R) w) (hl : 0 < l.length) :
    ∃ b off cap, v = .slice (some ⟨b, off, none⟩) l.length cap ∧ l.length ≤ cap ∧ cap ≤ maxLen ∧ (∀ i (h : i < l.length), w.cell? ⟨b, off + i, none⟩ = some (.int .i64 l[i])) ∧ (∀ i s, w.frozen? ⟨b, i, s⟩ = false) ∧ w0.heap.size ≤ b ∧ b < w.heap.size ∧
      ∀ i x, i < l.length → Own w0 (IntSl v (l.set i x) * R) (w.setCell ⟨b, off + i, none⟩ (.int .i64 x)) := by
  obtain ⟨b, off, cap, h1, h2, h3, h4, h5, h6, h7, h8⟩ := Own.sl_at h (by simpa using hl)
  refine ⟨b, off, cap, h1, h2, h3, fun i hi => h4 i _ (by simp [hi]), h5, h6, h7, fun i x hi => ?_⟩
  have := h8 i (.int .i64 x) (by simpa using hi)
  unfold IntSl
  rw [List.length_set, List.map_set]; exact this
def zipMax : List Int → List Int → List Int
  | a :: r, b :: s => max a b :: zipMax r s
  | _, _ => []
theorem zipMax_len : ∀ (a b : List Int), a.length = b.length → (zipMax a b).length = a.length
  | [], [], _ => rfl
  | a :: r, b :: s, h => by simp [zipMax, zipMax_len r s (by simpa using h)]
theorem zipMax_get : ∀ (a b : List Int) (i : Nat) (h1 : i < a.length) (h2 : i < b.length) (h3 : i < (zipMax a b).length), (zipMax a b)[i] = max a[i] b[i]
  | a :: r, b :: s, 0, _, _, _ => rfl
  | a :: r, b :: s, i + 1, h1, h2, h3 => by simp only [zipMax, List.getElem_cons_succ]; exact zipMax_get r s i _ _ _
set_option maxHeartbeats 2000000 in
theorem joined_any {w0 w : World} {R : HProp} (h : Own w0 R w) (va vb : Value) (a b : List Int) (ha : Ints w va a) (hb : Reads w0 R vb b) (hlen : a.length = b.length) (hsm : a.length ≤ 100000) :
    Calls Tryd.prog 120 #[va, vb] w fun e w' => ∃ v', e = .returned v' ∧ Own w0 (IntSl v' (zipMax a b) * R) w' := by
  have HH := Lib.hid h; have HA := Lib.hid ha; have HB := Lib.hid hb
  obtain ⟨bd, bcap, rfl, hbc, hbcap⟩ := (hb w h).shape
  clear h ha hb
  have hln := zipMax_len a b hlen
  have Hln := Lib.hid hln; have Hlen := Lib.hid hlen
  have hle1 : b.length ≤ a.length := by omega
  have hle2 : a.length ≤ b.length := by omega
  clear hln hlen
  go_enter Tryd.func120, Tryd.ntmps120
  go_wp2_with fail
  refine (cloneInts_any HH.out _ _ HA.out hsm).mono ?_
  rintro e w1 ⟨vo, rfl, ho⟩
  have HO := Lib.hid ho
  clear ho
  go_wp2_with fail
  go_loopw [12] (fun i wr => ∃ k : Nat, ∃ cur : List Int, k ≤ b.length ∧ i = .int .i64 k ∧ Hid (cur.length = a.length ∧ (∀ j (h : j < cur.length) (h' : j < a.length) (h'' : j < b.length), cur[j] = if j < k then max a[j] b[j] else a[j]) ∧ Own w0 (IntSl vo cur * R) wr)) (fun i _ => b.length - (intOf i).toNat)
  case atStart => exact ⟨0, a, Nat.zero_le _, rfl, rfl, fun j h h' h'' => by simp, HO.out⟩
  case round =>
    obtain ⟨k, cur, hk, rfl, hp⟩ := hrel
    by_cases hlt : k < b.length
    · obtain ⟨hcl, hcur, ho⟩ := hp.out
      obtain ⟨ab, rfl, hcb⟩ := (HB.out _ ho.drop).at k hlt
      have hkc : k < cur.length := by omega
      obtain ⟨ob, off, ocap, hov, ho1, ho2, hoc, hof, ho3, ho4, hos⟩ := ho.ints_at (by omega)
      have hck := hoc k hkc
      have hfk := hof (off + k) none
      have Hov := Lib.hid hov; have Hp := Lib.hid hp; have Hos := Lib.hid hos; have Hcur := Lib.hid hcur; have Hcl := Lib.hid hcl
      clear hp hoc hof hos hcur ho hcl
      subst hov
      go_wp2
      go_roundw
      case rel =>
        refine ⟨k + 1, _, by omega, by go_num, ⟨?_, fun j h h' h'' => ?_, Hos.out k _ hkc⟩⟩
        · rw [List.length_set]; exact Hcl.out
        · have hck' := Hcur.out k hkc (by omega) hlt
          rw [if_neg (by omega)] at hck'
          by_cases hkj : k = j
          · subst hkj
            rw [List.getElem_set_self, if_pos (show k < k + 1 by omega), hck', Int.max_def]
            split <;> split <;> omega
          · rw [List.getElem_set_ne hkj, Hcur.out j (by simpa using h) h' h'']
            by_cases hj : j < k
            · rw [if_pos hj, if_pos (by omega)]
            · rw [if_neg hj, if_neg (by omega)]
      case measure => simp [intOf]; omega
    · obtain ⟨hcl, hcur, ho⟩ := hp.out
      have hkb : k = b.length := by omega
      have e : cur = zipMax a b := by
        have h1 := Hln.out; have h2 := Hlen.out
        refine List.ext_getElem (by omega) fun j hj1 hj2 => ?_
        rw [hcur j hj1 (by omega) (by omega), if_pos (by omega), zipMax_get a b j (by omega) (by omega)]
      have HF := Lib.hid (e ▸ ho)
      clear hp hcl hcur ho hkb e
      go_wp2
      go_ret
      exact ⟨_, rfl, HF.out⟩
/-- Is no number of a above b's? -/
def leq : List Int → List Int → Bool
  | a :: r, b :: s => decide (a ≤ b) && leq r s
  | _, _ => true
theorem leq_iff : ∀ (a b : List Int), a.length = b.length → (leq a b = true ↔ ∀ i (h : i < a.length) (h' : i < b.length), a[i] ≤ b[i])
  | [], [], _ => by simp [leq]
  | a :: r, b :: s, h => by
    have ih := leq_iff r s (by simpa using h)
    simp only [leq, Bool.and_eq_true, decide_eq_true_eq, ih]
    constructor
    · rintro ⟨h1, h2⟩ i hi hi'
      cases i with
      | zero => exact h1
      | succ i => exact h2 i (by simpa using hi) (by simpa using hi')
    · intro h1
      exact ⟨h1 0 (by simp) (by simp), fun i hi hi' => by have := h1 (i + 1) (by simpa using hi) (by simpa using hi'); simpa using this⟩
/-- A number that is no 0 is an error. -/
theorem errV_some {n : Nat} (h : n ≠ 0) : ∃ m : Int, errV n = .iface 125 (.int .i64 m) := by
  cases n with
  | zero => exact absurd rfl h
  | succ n => exact ⟨_, rfl⟩
def bothErr (a b : List Int) : Nat := if vecErr a = 0 then vecErr b else vecErr a
theorem bothErr0 {a b : List Int} (h : bothErr a b = 0) : vecErr a = 0 ∧ vecErr b = 0 := by
  unfold bothErr at h
  split at h
  · rename_i h1; exact ⟨h1, h⟩
  · rename_i h1; exact absurd h h1
end Go.Proofs.YtpgonkecicmanaaDoor
/- Contracts of package vector, the second part; the comparison of lists. -/
namespace Go.Proofs.YtpgonkecicmanaaDoor
set_option linter.unusedVariables false
set_option linter.unusedSimpArgs false
open Go.RowKit
def joinOf (a b : List Int) : List Int := if bothErr a b = 0 then zipMax a b else []
set_option maxHeartbeats 1000000 in
theorem sameInts_any (va vb : Value) (a b : List Int) (w : World) (ha : Ints w va a) (hb : Ints w vb b) :
    Calls Tryd.prog 17 #[va, vb] w fun e w' => e = .returned (.bool (a == b)) ∧ ∃ n, w' = w.drewN n := by
  obtain ⟨ad, cap, rfl, hac, hacap⟩ := ha.shape
  obtain ⟨bd, bcap, rfl, hbc, hbcap⟩ := hb.shape
  have HA := Lib.hid ha; have HB := Lib.hid hb
  clear ha hb
  by_cases hlen : a.length = b.length
  · have hl' : ((a.length : Int) != (b.length : Int)) = false := by rw [bne_eq_false_iff_eq]; omega
    have h1 : a.length ≤ b.length := by omega
    have h2 : b.length ≤ a.length := by omega
    have HL := Lib.hid hlen
    clear hlen
    go_enter Tryd.func17, Tryd.ntmps17
    go_wp2_with fail
    go_loopw [5] (fun i wr => ∃ k : Nat, k ≤ a.length ∧ i = .int .i64 k ∧ Hid ((∀ j (h : j < k) (h' : j < a.length) (h'' : j < b.length), a[j] = b[j]) ∧ ∃ n, wr = w.drewN n)) (fun i _ => a.length - (intOf i).toNat)
    case atStart => exact ⟨0, Nat.zero_le _, rfl, fun j h => by omega, 0, rfl⟩
    case round =>
      obtain ⟨k, hk, rfl, hp⟩ := hrel
      obtain ⟨n, rfl⟩ := hp.out.2
      by_cases hlt : k < a.length
      · have hlt' : k < b.length := by omega
        obtain ⟨aa, rfl, hca⟩ := HA.out.at k hlt
        obtain ⟨ab, rfl, hcb⟩ := HB.out.at k hlt'
        by_cases hle : a[k] = b[k]
        · have hb' : (a[k] != b[k]) = false := by rw [bne_eq_false_iff_eq]; exact hle
          have Hle := Lib.hid hle
          clear hle
          go_wp2_with fail
          go_quiet (fail)
          go_wp2
          go_roundw
          case rel =>
            refine ⟨k + 1, by omega, by go_num, ⟨fun j h h' h'' => ?_, _, rfl⟩⟩
            by_cases hj : j < k
            · exact hp.out.1 j hj h' h''
            · have : j = k := by omega
              subst this; exact Hle.out
          case measure => simp [intOf]; omega
        · have hb' : (a[k] != b[k]) = true := by rw [bne_iff_ne]; exact hle
          have Hle := Lib.hid hle
          clear hle
          go_wp2_with fail
          go_quiet (fail)
          go_wp2
          go_ret
          exact ⟨ret_bool (by rw [eq_comm, beq_eq_false_iff_ne]; intro e; subst e; exact Hle.out rfl), _, World.drewN_drewN _ _ _⟩
      · go_wp2
        go_ret
        exact ⟨ret_bool (by rw [eq_comm, beq_iff_eq]; exact List.ext_getElem HL.out fun j h h' => hp.out.1 j (by omega) h h'), _, rfl⟩
  · have hl' : ((a.length : Int) != (b.length : Int)) = true := by rw [bne_iff_ne]; omega
    have HL := Lib.hid hlen
    clear hlen
    go_enter Tryd.func17, Tryd.ntmps17
    go_wp2
    go_ret
    exact ⟨ret_bool (by rw [eq_comm, beq_eq_false_iff_ne]; intro e; exact HL.out (by rw [e])), 0, rfl⟩
/-- One number of a list is another. -/
def stepErr (v : List Int) (who : Int) : Nat := if vecErr v ≠ 0 then vecErr v else if isMember who = false then 1 else if v.getD who.toNat 0 = 1000000 then 4 else 0
def stepOf (v : List Int) (who : Int) : List Int := if stepErr v who = 0 then v.set who.toNat (v.getD who.toNat 0 + 1) else []
/-- A list that was written out. -/
theorem Ints_lit {w : World} {b n : Nat} {t : TypeId} {cs : Array Value} {l : List Int} (hb : b = w.heap.size) (hcs : cs.toList = l.map (Value.int .i64)) (hn : n = l.length) (hI : ∀ x ∈ l, I64 x) (hm : l.length ≤ 100000) :
    Ints (w.alloc (.cells cs t)) (.slice (some ⟨b, 0, none⟩) n n) l := by
  subst hb; subst hn
  refine ⟨?_, hI⟩
  have := Rd_alloc (w := w) (t := t) (cs := cs) (n := l.length) (by unfold maxLen; omega)
  rw [hcs] at this; exact this
theorem bothErr_swap {a b : List Int} (h : bothErr a b = 0) : bothErr b a = 0 := by
  have := bothErr0 h; simp [bothErr, this.1, this.2]
theorem bothErr_self {a b : List Int} (h : bothErr a b = 0) : bothErr a a = 0 := by
  have := bothErr0 h; simp [bothErr, this.1]
theorem leq_refl : ∀ a : List Int, leq a a = true
  | [] => rfl
  | x :: r => by simp [leq, leq_refl r]
theorem leq_antisymm {a b : List Int} (hl : a.length = b.length) (h1 : leq a b = true) (h2 : leq b a = true) : a = b :=
  List.ext_getElem hl fun i h h' => Int.le_antisymm ((leq_iff a b hl).1 h1 i h h') ((leq_iff b a hl.symm).1 h2 i h' h)
theorem Below_drewN {B : Nat} {a w : World} (h : Below B a w) (n : Nat) : Below B a (w.drewN n) := ⟨h.os, h.tape, h.output, h.size, h.block⟩
theorem Own.drewN {w0 w : World} {P : HProp} (h : Own w0 P w) (n : Nat) : Own w0 P (w.drewN n) := h.same rfl rfl rfl rfl
theorem Own.int_shape {w0 w : World} {v : Value} {l : List Int} {R : HProp} (h : Own w0 (IntSl v l * R) w) : ∃ ad cap, v = .slice ad l.length cap := by
  obtain ⟨ad, cap, h1, _⟩ := Own.rd h
  exact ⟨ad, cap, h1⟩
end Go.Proofs.YtpgonkecicmanaaDoor
/- Contracts of package stable. -/
namespace Go.Proofs.YtpgonkecicmanaaDoor
set_option linter.unusedVariables false
set_option linter.unusedSimpArgs false
open Go.RowKit
/-- One of so many members? -/
def inR (who : Int) (n : Nat) : Bool := decide (0 ≤ who) && decide (who < n)
theorem info_ints : (Tryd.prog.info? 38).map (fun i => (i.zero, i.size, i.bytes)) = some (some (.slice none 0 0), 1, 24) := by kernel_rfl
def rowP (r : Value × List Int) : HProp := IntSl r.1 r.2
def rowsOk (rows : List (List Int)) : Prop := ∀ r ∈ rows, vecErr r = 0
theorem vecErr_I64 {r : List Int} (h : vecErr r = 0) : ∀ x ∈ r, I64 x := fun x hx => by have := (vecErr0 h).2 x hx; unfold I64; omega
def toldErr (n : Nat) (who : Int) (v : List Int) : Nat := if inR who n = false then 1 else vecErr v
def toldRows (rows : List (List Int)) (who : Int) (v : List Int) : List (List Int) := if toldErr rows.length who v = 0 then rows.set who.toNat (zipMax (rows.getD who.toNat []) v) else rows
/-- The row of a member. -/
def rowOf (rows : List (List Int)) (who : Int) : List Int := if inR who rows.length then rows.getD who.toNat [] else []
def inErr (who : Int) (n : Nat) : Nat := if inR who n then 0 else 1
end Go.Proofs.YtpgonkecicmanaaDoor
/- A map's entry open for a store: m[k] = append(m[k], ..); and maps whose values own what they point to. -/
namespace Go.Proofs.YtpgonkecicmanaaDoor
set_option linter.unusedVariables false
set_option linter.unusedSimpArgs false
open Go.RowKit Go.Maps
set_option linter.unusedSectionVars false
section
variable {K : Type} [DecidableEq K] {P : Program} {k : TypeId} {enc : K → Value} {ok : K → Prop}
/-- The map m in whose block the entry at x stands open: a store at the stamp s fills it. -/
def MpE (enc : K → Value) (ok : K → Prop) (b : Nat) (m : List (K × Value)) (x : K) (s : Value) : HProp := fun h =>
  ∃ (es : Array MapEntry) (clock j : Nat) (e : MapEntry), (es[j]? = some e ∧ s = .int .i64 e.born ∧ Born es.toList clock ∧ (∀ v, MapIs enc ok (es.modify j (fun e' => { e' with val := v })).toList (mput m x v))) ∧ h = hone b (.map es clock)
theorem Own.mpe_at {w0 w : World} {b : Nat} {m : List (K × Value)} {x : K} {s : Value} {R : HProp} (h : Own w0 (MpE enc ok b m x s * R) w) :
    ∃ (es : Array MapEntry) (clock j : Nat) (e : MapEntry), es[j]? = some e ∧ s = .int .i64 e.born ∧ Born es.toList clock ∧ (∀ v, MapIs enc ok (es.modify j (fun e' => { e' with val := v })).toList (mput m x v)) ∧ Own w0 (blk b (.map es clock) * R) w := by
  have h2 : Own w0 (hex (fun x' : Array MapEntry × Nat × Nat × MapEntry => fun h => (x'.1[x'.2.2.1]? = some x'.2.2.2 ∧ s = .int .i64 x'.2.2.2.born ∧ Born x'.1.toList x'.2.1 ∧ (∀ v, MapIs enc ok (x'.1.modify x'.2.2.1 (fun e' => { e' with val := v })).toList (mput m x v))) ∧ h = hone b (.map x'.1 x'.2.1)) * R) w :=
    h.cons (fun hp ⟨es, clock, j, e, hx⟩ => ⟨(es, clock, j, e), hx⟩)
  obtain ⟨⟨es, clock, j, e⟩, h3⟩ := h2.ex
  have h4 : Own w0 (pur (es[j]? = some e ∧ s = .int .i64 e.born ∧ Born es.toList clock ∧ (∀ v, MapIs enc ok (es.modify j (fun e' => { e' with val := v })).toList (mput m x v))) * (blk b (.map es clock) * R)) w := h3.mono fun hp hh => by
    obtain ⟨p, q, d, rfl, ⟨h1, h2⟩, hq⟩ := hh
    exact pur_star.2 ⟨h1, p, q, d, rfl, h2, hq⟩
  obtain ⟨⟨a1, a2, a3, a4⟩, h5⟩ := h4.pur_out
  exact ⟨es, clock, j, e, a1, a2, a3, a4, h5⟩
theorem Own.map_raw (E : KE P k enc ok) {t e : TypeId} (ht : P.underlying t = some (.map k e)) {z : Value} (hz : ∀ w, (zeroValue e).run P w = .ok z w) {w0 w : World} {b : Nat} {m : List (K × Value)} {R : HProp}
    (h : Own w0 (Mp enc ok b m * R) w) {x : K} (hx : ok x) : ∃ (w1 : World) (s : Value) (es : Array MapEntry) (clock j : Nat) (e : MapEntry), (Instr.mapEntry t (.map (some b)) (enc x)).run P w = .ok (.tuple #[(mget m x).getD z, s]) w1 ∧ (es[j]? = some e ∧ s = .int .i64 e.born ∧ Born es.toList clock ∧ (∀ v, MapIs enc ok (es.modify j (fun e' => { e' with val := v })).toList (mput m x v))) ∧ e.val = (mget m x).getD z ∧ Own w0 (blk b (.map es clock) * R) w1 := by
  obtain ⟨es, clock, hm, hbn, ho⟩ := h.map_at
  have hb := ho.blk_at.1
  obtain ⟨l, hl⟩ := E.has x hx
  have hkeep : ∀ v, ∀ p ∈ mput m x v, ok p.1 := fun v p hp => by
    rcases mem_mput hp with hp | rfl
    · exact hm.2.2 p hp
    · exact hx
  rcases hm.find E w hx with ⟨h1, h2, h3⟩ | ⟨j, en, h1, h2, h3, h4⟩
  · have hg : mget m x = none := mget_none.2 h3
    obtain ⟨es1, he1⟩ : ∃ e1, e1 = es.push ⟨enc x, z, clock⟩ := ⟨_, rfl⟩
    obtain ⟨w1, hw1⟩ : ∃ w1, w1 = setO w b (.map es1 (clock + 1)) := ⟨_, rfl⟩
    have ho1 := ho.map_obj (.map es1 (clock + 1))
    rw [← hw1] at ho1
    refine ⟨w1, .int .i64 clock, es1, clock + 1, es.size, ⟨enc x, z, clock⟩, ?_, ⟨by rw [he1]; simp, rfl, by rw [he1]; exact born_push hbn, fun v => ?_⟩, by rw [hg]; rfl, ho1⟩
    · rw [hw1, he1]
      simp [Instr.mapEntry, run_underlying ht, MapKept.run_getObj_map hb, E.keyed.check w _ hl, h1, hz, hg, MapKept.run_setObj_map _ hb, Result.andThen, goInt, setO]
    · have hme : (es1.modify es.size (fun e' => { e' with val := v })).toList = es.toList ++ [⟨enc x, v, clock⟩] := by
        rw [he1, Array.toList_modify, Array.toList_push]
        exact modify_last _
      refine ⟨?_, mput_nodup hm.2.1, hkeep v⟩
      rw [hme, mput_new h3, List.map_append, List.map_append, hm.1]; rfl
  · have hj : es[j]? = some en := by simpa using h2
    have hg : mget m x = some en.val := mget_at hm.2.1 h4
    obtain ⟨es1, he1⟩ : ∃ e1, e1 = es.modify j (fun e' => { e' with key := enc x }) := ⟨_, rfl⟩
    obtain ⟨w1, hw1⟩ : ∃ w1, w1 = setO w b (.map es1 clock) := ⟨_, rfl⟩
    have ho1 := ho.map_obj (.map es1 clock)
    rw [← hw1] at ho1
    have hbn1 : Born es1.toList clock := by rw [he1, Array.toList_modify]; exact born_modify hbn j _ (fun _ => rfl)
    have hj1 : es1[j]? = some { en with key := enc x } := by rw [he1, Array.getElem?_modify, if_pos rfl, hj]; rfl
    refine ⟨w1, .int .i64 en.born, es1, clock, j, { en with key := enc x }, ?_, ⟨hj1, rfl, hbn1, fun v => ⟨?_, mput_nodup hm.2.1, hkeep v⟩⟩, by rw [hg]; rfl, ho1⟩
    · rw [hw1, he1]
      simp [Instr.mapEntry, run_underlying ht, MapKept.run_getObj_map hb, E.keyed.check w _ hl, h1, hj, h3, E.keyed.stays w hl, hg, MapKept.run_setObj_map _ hb, Result.andThen, goInt, setO]
    · have hml : (es1.modify j (fun e' => { e' with val := v })).toList = es.toList.modify j (fun e' => { e' with key := enc x, val := v }) := by
        rw [he1, Array.toList_modify, Array.toList_modify]
        apply List.ext_getElem?
        intro i
        simp only [List.getElem?_modify]
        cases es.toList[i]? with
        | none => simp
        | some y => by_cases h : j = i <;> simp [h]
      rw [hml, mput_at hm.2.1 h4, Go.ChangeMaps.modify_eq_set _ _ _ _ h2, List.map_set, List.map_set, hm.1]
theorem Own.map_open (E : KE P k enc ok) {t e : TypeId} (ht : P.underlying t = some (.map k e)) {z : Value} (hz : ∀ w, (zeroValue e).run P w = .ok z w) {w0 w : World} {b : Nat} {m : List (K × Value)} {R : HProp}
    (h : Own w0 (Mp enc ok b m * R) w) {x : K} (hx : ok x) : ∃ w1 s, (Instr.mapEntry t (.map (some b)) (enc x)).run P w = .ok (.tuple #[(mget m x).getD z, s]) w1 ∧ Own w0 (MpE enc ok b m x s * R) w1 := by
  obtain ⟨w1, s, es, clock, j, e, h1, h2, _, ho⟩ := h.map_raw E ht hz hx
  exact ⟨w1, s, h1, ho.cons fun _ hh => ⟨es, clock, j, e, h2, hh⟩⟩
theorem modify_self {es : Array MapEntry} {j : Nat} {e : MapEntry} (h : es[j]? = some e) : es.modify j (fun e' => { e' with val := e.val }) = es := by
  apply Array.ext_getElem?
  intro i
  rw [Array.getElem?_modify]
  by_cases hi : j = i
  · subst hi; rw [if_pos rfl, h]; rfl
  · rw [if_neg hi]
/-- As map_open; and a look-up there gives what it gave. -/
theorem Own.map_open2 (E : KE P k enc ok) {t e : TypeId} (ht : P.underlying t = some (.map k e)) {z : Value} (hz : ∀ w, (zeroValue e).run P w = .ok z w) {w0 w : World} {b : Nat} {m : List (K × Value)} {R : HProp}
    (h : Own w0 (Mp enc ok b m * R) w) {x : K} (hx : ok x) : ∃ w1 s, (Instr.mapEntry t (.map (some b)) (enc x)).run P w = .ok (.tuple #[(mget m x).getD z, s]) w1 ∧ Own w0 (MpE enc ok b m x s * R) w1 ∧ Own w0 (Mp enc ok b (mput m x ((mget m x).getD z)) * R) w1 := by
  obtain ⟨w1, s, es, clock, j, e, h1, h2, h3, ho⟩ := h.map_raw E ht hz hx
  refine ⟨w1, s, h1, ho.cons fun _ hh => ⟨es, clock, j, e, h2, hh⟩, ?_⟩
  have h4 := h2.2.2.2 e.val
  rw [modify_self h2.1, h3] at h4
  exact Own.map_mk h4 h2.2.2.1 ho
theorem Own.map_fill {t : TypeId} {w0 w : World} {b : Nat} {m : List (K × Value)} {x : K} {s : Value} {R : HProp} (h : Own w0 (MpE enc ok b m x s * R) w) (v : Value) :
    ∃ w2, (Instr.entryStore t (.map (some b)) s v).run P w = .ok () w2 ∧ Own w0 (Mp enc ok b (mput m x v) * R) w2 := by
  obtain ⟨es, clock, j, en, hj, rfl, hbn, hv, ho⟩ := h.mpe_at
  have hb := ho.blk_at.1
  have hf : es.findIdx? (fun y => ((y.born : Nat) : Int) == ((en.born : Nat) : Int)) = some j := hbn.find hj
  have ha : ∀ c : Int, Sem.run P (asIntOf (.int .i64 c)) w = .ok (.i64, c) w := fun _ => rfl
  have ho2 := ho.map_obj (.map (es.modify j (fun e' => { e' with val := v })) clock)
  refine ⟨setO w b (.map (es.modify j (fun e' => { e' with val := v })) clock), ?_, Own.map_mk (hv v) (by rw [Array.toList_modify]; exact born_modify hbn j _ (fun _ => rfl)) ho2⟩
  simp [Instr.entryStore, MapKept.run_getObj_map hb, MapKept.run_setObj_map _ hb, Result.andThen, asInt, ha, hf, setO]
theorem step_open (E : KE P k enc ok) {t e : TypeId} (ht : P.underlying t = some (.map k e)) {z : Value} (hz : ∀ w, (zeroValue e).run P w = .ok z w) {ops : Array Oper} {o : Oper} {a : Act} {K' : Act → World → Prop} {Q : Exit → Act → World → Prop} {E' : Prop}
    {w0 w : World} {b : Nat} {m : List (K × Value)} {R : HProp} (hown : Own w0 (Mp enc ok b m * R) w) {x : K} (hx : ok x)
    (hg : o.guard = none) (mo xo : Operand) (hop : o.op = Op.mapEntry t mo xo) (hm : a.eval mo = .map (some b)) (hxo : a.eval xo = enc x)
    (hK : ∀ w' s, Own w0 (MpE enc ok b m x s * R) w' → K' (a.put o.dst (.tuple #[(mget m x).getD z, s])) w') : if Region.wanted o (yielded ops a.tmps) = true then Oper.wp P o a w K' Q else E' := by
  have hw : Region.wanted o (yielded ops a.tmps) = true := by simp [Region.wanted, hg]
  rw [if_pos hw]
  obtain ⟨w', s, hrun, ho⟩ := hown.map_open E ht hz hx
  unfold Oper.wp
  simp [execOp, hop, hm, hxo, hrun, Result.andThen]
  exact hK w' s ho
theorem step_open2 (E : KE P k enc ok) {t e : TypeId} (ht : P.underlying t = some (.map k e)) {z : Value} (hz : ∀ w, (zeroValue e).run P w = .ok z w) {ops : Array Oper} {o : Oper} {a : Act} {K' : Act → World → Prop} {Q : Exit → Act → World → Prop} {E' : Prop}
    {w0 w : World} {b : Nat} {m : List (K × Value)} {R : HProp} (hown : Own w0 (Mp enc ok b m * R) w) {x : K} (hx : ok x)
    (hg : o.guard = none) (mo xo : Operand) (hop : o.op = Op.mapEntry t mo xo) (hm : a.eval mo = .map (some b)) (hxo : a.eval xo = enc x)
    (hK : ∀ w' s, Own w0 (MpE enc ok b m x s * R) w' → Own w0 (Mp enc ok b (mput m x ((mget m x).getD z)) * R) w' → K' (a.put o.dst (.tuple #[(mget m x).getD z, s])) w') : if Region.wanted o (yielded ops a.tmps) = true then Oper.wp P o a w K' Q else E' := by
  have hw : Region.wanted o (yielded ops a.tmps) = true := by simp [Region.wanted, hg]
  rw [if_pos hw]
  obtain ⟨w', s, hrun, ho, ho2⟩ := hown.map_open2 E ht hz hx
  unfold Oper.wp
  simp [execOp, hop, hm, hxo, hrun, Result.andThen]
  exact hK w' s ho ho2
theorem wpList_fill {t : TypeId} {ops : Array Oper} {rest : List Oper} {o : Oper} {a : Act} {Q : Exit → Act → World → Prop}
    {w0 w : World} {b : Nat} {m : List (K × Value)} {x : K} {s : Value} {R : HProp} (hown : Own w0 (MpE enc ok b m x s * R) w)
    (hg : o.guard = none) (mo so vo : Operand) (hop : o.op = Op.entryStore t mo so vo) (hm : a.eval mo = .map (some b)) (hso : a.eval so = s) {v : Value} (hv : a.eval vo = v)
    (hK : ∀ w', Own w0 (Mp enc ok b (mput m x v) * R) w' → wpList P ops Q rest (a.put o.dst undef) w') : wpList P ops Q (o :: rest) a w := by
  refine wpList_plain hg fun K' hK' => ?_
  obtain ⟨w', hrun, ho⟩ := hown.map_fill (P := P) (t := t) v
  unfold Oper.wp
  simp [execOp, hop, hm, hso, hv, hrun, Result.andThen]
  exact hK' _ _ (hK w' ho)
theorem step_fill {t : TypeId} {ops : Array Oper} {o : Oper} {a : Act} {K' : Act → World → Prop} {Q : Exit → Act → World → Prop} {E' : Prop}
    {w0 w : World} {b : Nat} {m : List (K × Value)} {x : K} {s : Value} {R : HProp} (hown : Own w0 (MpE enc ok b m x s * R) w)
    (hg : o.guard = none) (mo so vo : Operand) (hop : o.op = Op.entryStore t mo so vo) (hm : a.eval mo = .map (some b)) (hso : a.eval so = s) {v : Value} (hv : a.eval vo = v)
    (hK : ∀ w', Own w0 (Mp enc ok b (mput m x v) * R) w' → K' (a.put o.dst undef) w') : if Region.wanted o (yielded ops a.tmps) = true then Oper.wp P o a w K' Q else E' := by
  have hw : Region.wanted o (yielded ops a.tmps) = true := by simp [Region.wanted, hg]
  rw [if_pos hw]
  obtain ⟨w', hrun, ho⟩ := hown.map_fill (P := P) (t := t) v
  unfold Oper.wp
  simp [execOp, hop, hm, hso, hv, hrun, Result.andThen]
  exact hK w' ho
/-! ### Maps whose values own -/
variable {α : Type}
def MpS (enc : K → Value) (ok : K → Prop) (f : α → HProp) (val : α → Value) (b : Nat) (m : List (K × α)) : HProp := Mp enc ok b (mvals val m) * starL (fun p : K × α => f p.2) m
theorem starL_mput (f : α → HProp) (m : List (K × α)) (x : K) (a : α) : starL (fun p : K × α => f p.2) (mput m x a) = f a * starL (fun p : K × α => f p.2) (mdel m x) := by
  induction m with
  | nil => simp [mput, mdel, starL]
  | cons p r ih =>
    unfold mput mdel
    by_cases h : p.1 = x
    · rw [if_pos h, if_pos h]; rfl
    · rw [if_neg h, if_neg h]; simp only [starL]; rw [ih]; ac_rfl
theorem starL_mget (f : α → HProp) (m : List (K × α)) (x : K) (n : α) (hn : f n = emp) : starL (fun p : K × α => f p.2) m = f ((mget m x).getD n) * starL (fun p : K × α => f p.2) (mdel m x) := by
  induction m with
  | nil => simp [mget, mdel, starL, hn, emp_star]
  | cons p r ih =>
    unfold mget mdel
    by_cases h : p.1 = x
    · rw [if_pos h, if_pos h]; rfl
    · rw [if_neg h, if_neg h]; simp only [starL]; rw [ih]; ac_rfl
theorem Own.ms_take {f : α → HProp} {val : α → Value} {w0 w : World} {b : Nat} {m : List (K × α)} {R : HProp} (n : α) (hn : f n = emp) (x : K) (h : Own w0 (MpS enc ok f val b m * R) w) :
    Own w0 (f ((mget m x).getD n) * (Mp enc ok b (mvals val m) * (starL (fun p : K × α => f p.2) (mdel m x) * R))) w := by
  refine h.perm ?_
  unfold MpS
  rw [starL_mget f m x n hn]
  ac_rfl
theorem Own.ms_give {f : α → HProp} {val : α → Value} {w0 w : World} {b : Nat} {m : List (K × α)} {R : HProp} (n : α) (hn : f n = emp) (x : K)
    (h : Own w0 (f ((mget m x).getD n) * (Mp enc ok b (mvals val m) * (starL (fun p : K × α => f p.2) (mdel m x) * R))) w) : Own w0 (MpS enc ok f val b m * R) w := by
  refine h.perm ?_
  unfold MpS
  rw [starL_mget f m x n hn]
  ac_rfl
theorem Own.ms_put {f : α → HProp} {val : α → Value} {w0 w : World} {b : Nat} {m : List (K × α)} {R : HProp} {a : α} (x : K) (h : Own w0 (f a * (Mp enc ok b (mput (mvals val m) x (val a)) * (starL (fun p : K × α => f p.2) (mdel m x) * R))) w) :
    Own w0 (MpS enc ok f val b (mput m x a) * R) w := by
  refine h.perm ?_
  unfold MpS
  rw [starL_mput, mput_mvals]
  ac_rfl
theorem mget_val (val : α → Value) (m : List (K × α)) (x : K) (n : α) : (mget (mvals val m) x).getD (val n) = val ((mget m x).getD n) := by
  rw [mget_mvals]; cases mget m x <;> rfl
theorem Own.ms_new {f : α → HProp} {val : α → Value} {w0 w : World} {R : HProp} (h : Own w0 R w) : Own w0 (MpS enc ok f val w.heap.size ([] : List (K × α)) * R) (w.alloc (.map #[] 0)) :=
  (h.map_new (enc := enc) (ok := ok)).perm (by unfold MpS; rw [mvals_nil]; simp only [starL]; rw [star_emp])
end
/-- Rows of ints as a map's values. -/
def nilRow : Value × List Int := (.slice none 0 0, [])
theorem rowP_nil : rowP nilRow = emp := Sl_nil _ _
theorem ints_zero : ∀ w, (zeroValue 38).run Tryd.prog w = .ok (.slice none 0 0) w := fun _ => by kernel_rfl
end Go.Proofs.YtpgonkecicmanaaDoor
