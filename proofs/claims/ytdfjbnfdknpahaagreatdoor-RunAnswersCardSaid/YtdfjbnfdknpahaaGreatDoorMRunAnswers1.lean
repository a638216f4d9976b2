/- Contracts of package vector, of what it calls in package slices, and of the lists' comparisons. -/
import Derived.Test.YtdfjbnfdknpahaaGreatDoorMRunAnswers0
import Derived.Test.YtdfjbnfdknpahaaGreatDoorProg
import Derived.BigQuiet
import Derived.Deep.QuietTactic
import Derived.ChangeArms
import Derived.Deep.Fields
import Derived.Deep.RegionHeld3
namespace Go.Proofs.YtdfjbnfdknpahaaGreatDoor
set_option linter.unusedVariables false
set_option linter.unusedSimpArgs false
open Go.RowKit
theorem ret_bool {a b : Bool} (h : a = b) : Ending.returned (.bool a) = .returned (.bool b) := by rw [h]
theorem ret_int {a b : Int} (h : a = b) : Ending.returned (.int .i64 a) = .returned (.int .i64 b) := by rw [h]
/-- An error: nil, or a number of api. -/
def errV : Nat → Value
  | 0 => .nilIface
  | n + 1 => .iface 90 (.int .i64 (n + 1))
theorem errV0 : errV 0 = .nilIface := rfl
theorem Ints.at {w : World} {ad : Option Addr} {n cap : Nat} {l : List Int} (h : Ints w (.slice ad n cap) l) (k : Nat) (hk : k < l.length) : ∃ a : Addr, ad = some a ∧ w.cell? (a.add k) = some (.int .i64 l[k]) := by
  obtain ⟨⟨ad', cap', e, _, _, _, hc⟩, _⟩ := h
  cases e
  exact hc k _ (by simp [hk])
theorem Ints.len {w : World} {ad : Option Addr} {n cap : Nat} {l : List Int} (h : Ints w (.slice ad n cap) l) : n = l.length := by
  obtain ⟨⟨ad', cap', e, _, _, _, hc⟩, _⟩ := h
  cases e; rfl
theorem Ints.shape {w : World} {v : Value} {l : List Int} (h : Ints w v l) : ∃ ad cap, v = .slice ad l.length cap ∧ l.length ≤ cap ∧ cap ≤ 9223372036854775807 := by
  obtain ⟨⟨ad', cap', e, h1, h2, _, hc⟩, _⟩ := h
  exact ⟨_, _, e, h1, by simpa [maxLen] using h2⟩
def isMember (n : Int) : Bool := decide (0 ≤ n) && decide (n < 5)
def isWord (n : Int) : Bool := decide (1 ≤ n) && decide (n ≤ 30)
def isCount (n : Int) : Bool := decide (0 ≤ n) && decide (n ≤ 1000000)
set_option maxHeartbeats 400000 in
theorem member_any (a : Int) (w : World) :
    Calls Tryz.prog 46 #[.int .i64 a] w fun e w' => e = .returned (.bool (isMember a)) ∧ w = w' := by
  go_enter Tryz.func46, Tryz.ntmps46
  go_wp2
  all_goals (go_ret; exact ⟨ret_bool (by unfold isMember; simp; try omega), rfl⟩)
set_option maxHeartbeats 400000 in
theorem word_any (a : Int) (w : World) :
    Calls Tryz.prog 73 #[.int .i64 a] w fun e w' => e = .returned (.bool (isWord a)) ∧ w = w' := by
  go_enter Tryz.func73, Tryz.ntmps73
  go_wp2
  all_goals (go_ret; exact ⟨ret_bool (by unfold isWord; simp; try omega), rfl⟩)
set_option maxHeartbeats 400000 in
theorem count_any (a : Int) (w : World) :
    Calls Tryz.prog 143 #[.int .i64 a] w fun e w' => e = .returned (.bool (isCount a)) ∧ w = w' := by
  go_enter Tryz.func143, Tryz.ntmps143
  go_wp2
  all_goals (go_ret; exact ⟨ret_bool (by unfold isCount; simp; try omega), rfl⟩)
set_option maxHeartbeats 400000 in
theorem check1_any (a : Int) (w : World) :
    Calls Tryz.prog 142 #[.int .i64 a] w fun e w' => e = .returned (.bool (!isCount a)) ∧ w = w' := by
  go_enter Tryz.func142, Tryz.ntmps142
  go_wp2_with (go_at_call 143; refine (count_any _ _).mono ?_; rintro e w' ⟨rfl, rfl⟩)
  go_ret; exact ⟨rfl, rfl⟩
/-- Where the first one is for which p holds; -1: nowhere. -/
def whereIs (p : Int → Bool) : List Int → Int
  | [] => -1
  | x :: r => if p x then 0 else if whereIs p r < 0 then -1 else whereIs p r + 1
theorem whereIs_hit (p : Int → Bool) : ∀ (l : List Int) (k : Nat) (hk : k < l.length), (∀ j (h : j < k), p (l[j]'(by omega)) = false) → p l[k] = true → whereIs p l = k
  | [], k, hk, _, _ => by simp at hk
  | x :: r, 0, _, _, h => by simp at h; simp [whereIs, h]
  | x :: r, k + 1, hk, hj, h => by
    have h0 := hj 0 (by omega)
    simp at h0
    have ih := whereIs_hit p r k (by simpa using hk) (fun j hj' => by have := hj (j + 1) (by omega); simpa using this) (by simpa using h)
    simp [whereIs, h0, ih]; omega
theorem whereIs_miss (p : Int → Bool) : ∀ (l : List Int), (∀ j (h : j < l.length), p l[j] = false) → whereIs p l = -1
  | [], _ => rfl
  | x :: r, h => by
    have h0 := h 0 (by simp)
    simp at h0
    have ih := whereIs_miss p r (fun j hj => by have := h (j + 1) (by simpa using hj); simpa using this)
    simp [whereIs, h0, ih]
theorem whereIs_neg (p : Int → Bool) : ∀ (l : List Int), whereIs p l < 0 ↔ l.any p = false
  | [] => by simp [whereIs]
  | x :: r => by
    have ih := whereIs_neg p r
    unfold whereIs
    by_cases h : p x
    · simp [h]
    · simp only [h, List.any_cons, Bool.false_or, Bool.false_eq_true, if_false]
      split
      · rename_i h2; simp [ih.1 h2]
      · rename_i h2; constructor
        · intro h3; omega
        · intro h3; exact absurd (ih.2 h3) h2
set_option maxHeartbeats 1000000 in
theorem indexCount_any (v : Value) (l : List Int) (w : World) (hl : Ints w v l) :
    Calls Tryz.prog 151 #[v, .func (.func 142) #[] #[]] w fun e w' => e = .returned (.int .i64 (whereIs (fun n => !isCount n) l)) ∧ w = w' := by
  obtain ⟨ad, cap, rfl, hlc, hcap⟩ := hl.shape
  have HL := Lib.hid hl
  clear hl
  go_enter Tryz.func151, Tryz.ntmps151
  go_wp2
  go_loop [8] (fun i => ∃ k : Nat, k ≤ l.length ∧ i = .int .i64 k ∧ Hid (∀ j (h : j < k) (h' : j < l.length), (!isCount l[j]) = false)) (fun i => l.length - (intOf i).toNat)
  case atStart => exact ⟨0, Nat.zero_le _, rfl, fun j h => by omega⟩
  case round =>
    obtain ⟨k, hk, rfl, hp⟩ := hrel
    by_cases hlt : k < l.length
    · obtain ⟨a, rfl, hc⟩ := HL.out.at k hlt
      cases hb : (!isCount l[k])
      · go_wp2_with (go_at_call 142; refine (check1_any _ _).mono ?_; rintro e w' ⟨rfl, rfl⟩)
        go_round
        case rel => exact ⟨k + 1, by omega, by go_num, fun j h h' => by
          by_cases hj : j < k
          · exact hp.out j hj h'
          · have : j = k := by omega
            subst this; exact hb⟩
        case measure => simp [intOf]; omega
      · go_wp2_with (go_at_call 142; refine (check1_any _ _).mono ?_; rintro e w' ⟨rfl, rfl⟩)
        go_ret
        exact ⟨ret_int (whereIs_hit _ l k hlt (fun j h => hp.out j h (by omega)) hb).symm, rfl⟩
    · go_wp2
      go_ret
      exact ⟨ret_int (whereIs_miss _ l (fun j h => hp.out j (by omega) h)).symm, rfl⟩
set_option maxHeartbeats 400000 in
theorem containsCount_any (v : Value) (l : List Int) (w : World) (hl : Ints w v l) :
    Calls Tryz.prog 141 #[v, .func (.func 142) #[] #[]] w fun e w' => e = .returned (.bool (l.any fun n => !isCount n)) ∧ w = w' := by
  have hw := whereIs_neg (fun n => !isCount n) l
  have HL := Lib.hid hl
  have HW := Lib.hid hw
  clear hl hw
  go_enter Tryz.func141, Tryz.ntmps141
  go_wp2_with (go_at_call 151; refine (indexCount_any _ _ _ HL.out).mono ?_; rintro e w' ⟨rfl, rfl⟩)
  go_ret
  refine ⟨ret_bool ?_, rfl⟩
  have := HW.out
  cases h : (l.any fun n => !isCount n)
  · have := this.2 h; simp; omega
  · simp; rw [h] at this; simp at this; omega
theorem info_int : (Tryz.prog.info? 3).map (fun i => (i.zero, i.size, i.bytes)) = some (some (.int .i64 0), 1, 8) := by kernel_rfl
/-- An owned slice of ints. -/
def IntSl (v : Value) (l : List Int) : HProp := Sl 3 1 v l.length (l.map (Value.int .i64))
def vecErr (l : List Int) : Nat := if l.length ≠ 5 then 3 else if (l.any fun n => !isCount n) then 1 else 0
theorem vecErr0 {l : List Int} (h : vecErr l = 0) : l.length = 5 ∧ ∀ x ∈ l, 0 ≤ x ∧ x ≤ 1000000 := by
  unfold vecErr at h
  split at h
  · cases h
  · rename_i h1
    split at h
    · cases h
    · rename_i h2
      refine ⟨by omega, fun x hx => ?_⟩
      simp only [List.any_eq_true, not_exists, not_and, Bool.not_eq_true', Bool.not_eq_false] at h2
      have := h2 x hx
      simp only [isCount, Bool.and_eq_true, decide_eq_true_eq] at this
      exact this
set_option maxHeartbeats 400000 in
theorem vcheck_any (v : Value) (l : List Int) (w : World) (hl : Ints w v l) :
    Calls Tryz.prog 118 #[v] w fun e w' => e = .returned (errV (vecErr l)) ∧ w = w' := by
  obtain ⟨ad, cap, rfl, hlc, hcap⟩ := hl.shape
  have HL := Lib.hid hl
  clear hl
  by_cases h5 : l.length = 5
  · have h5' : ((l.length : Int) != 5) = false := by rw [bne_eq_false_iff_eq]; omega
    cases hb : (l.any fun n => !isCount n)
    · have hv : vecErr l = 0 := by simp [vecErr, h5, hb]
      have HV := Lib.hid hv; have HB := Lib.hid hb; have H5 := Lib.hid h5
      clear hv hb h5
      go_enter Tryz.func118, Tryz.ntmps118
      go_wp2_with (go_at_call 141; refine (containsCount_any _ l _ HL.out).mono ?_; rintro e w' ⟨rfl, rfl⟩; rw [HB.out])
      go_ret
      exact ⟨by rw [HV.out]; rfl, rfl⟩
    · have hv : vecErr l = 1 := by simp [vecErr, h5, hb]
      have HV := Lib.hid hv; have HB := Lib.hid hb; have H5 := Lib.hid h5
      clear hv hb h5
      go_enter Tryz.func118, Tryz.ntmps118
      go_wp2_with (go_at_call 141; refine (containsCount_any _ l _ HL.out).mono ?_; rintro e w' ⟨rfl, rfl⟩; rw [HB.out])
      go_ret
      exact ⟨by rw [HV.out]; rfl, rfl⟩
  · have h5' : ((l.length : Int) != 5) = true := by rw [bne_iff_ne]; omega
    have hv : vecErr l = 3 := by simp [vecErr, h5]
    have HV := Lib.hid hv; have H5 := Lib.hid h5
    clear hv h5
    go_enter Tryz.func118, Tryz.ntmps118
    go_wp2
    go_ret
    exact ⟨by rw [HV.out]; rfl, rfl⟩
set_option maxHeartbeats 1000000 in
theorem cloneInts_any {w0 w : World} {R : HProp} (h : Own w0 R w) (v : Value) (l : List Int) (hl : Ints w v l) (hb : l.length ≤ 100000) :
    Calls Tryz.prog 97 #[v] w fun e w' => ∃ v', e = .returned v' ∧ Own w0 (IntSl v' l * R) w' := by
  obtain ⟨⟨ad, cap, rfl, hlc, hcap, hn, hc⟩, hi⟩ := id hl
  cases ad with
  | none =>
    have h0 := hn rfl
    subst h0
    have hl0 : l = [] := List.eq_nil_of_length_eq_zero (by omega)
    subst hl0
    clear hn hc hi hl hlc hcap hb
    have hnil := fun (w : World) => Lib.run_eql_slice_nil (P := Tryz.prog) w 57 3 none 0 0 0 0 Tryz.underlying57
    go_enter Tryz.func97, Tryz.ntmps97
    go_wp2
    go_ret
    exact ⟨_, rfl, h.sl_nil _ _⟩
  | some a =>
    have hnil := fun (w : World) => Lib.run_eql_slice_nil (P := Tryz.prog) w 57 3 (some a) l.length cap 0 0 Tryz.underlying57
    have H := Lib.hid h
    have HL := Lib.hid hl
    have hsl : ∀ cs, Own w0 (Sl 3 1 (.slice (some ⟨w.heap.size, 0, none⟩) 0 0) 0 [] * R) (w.alloc (.cells #[] cs)) ∨ cs ≠ 3 := fun cs => by
      by_cases hcs : cs = 3
      · subst hcs; exact .inl (Own.sl_mk (cs := #[]) (Nat.le_refl _) (Nat.zero_le _) rfl (Nat.le_refl _) (fun i hi => by simp at hi) (H.out.alloc _))
      · exact .inr hcs
    have HS := Lib.hid ((hsl 3).resolve_right (by simp))
    clear hn hc hi hl h hsl
    go_enter Tryz.func97, Tryz.ntmps97
    go_wp2_with (at_builtin; refine wpList_app rfl _ _ 57 rfl 3 1 8 _ info_int Tryz.underlying57 rfl (by decide) rfl HS.out rfl (by simp) (HL.out.alloc _).1 (int_one _) (by unfold maxLen; omega) (by omega) ?_; intro v' w1 hown')
    go_ret
    exact ⟨_, rfl, by unfold IntSl; simpa using hown'⟩
theorem IntSl_reads {w0 : World} {R : HProp} {v : Value} {l : List Int} (hi : ∀ x ∈ l, I64 x) : Reads w0 (IntSl v l * R) v l := fun _ ho => ⟨Own.rd ho, hi⟩
/-- An owned list of ints: its row, its cells, a store. -/
theorem Own.ints_at {w0 w : World} {v : Value} {l : List Int} {R : HProp} (h : Own w0 (IntSl v l * R) w) (hl : 0 < l.length) :
    ∃ b off cap, v = .slice (some ⟨b, off, none⟩) l.length cap ∧ l.length ≤ cap ∧ cap ≤ maxLen ∧ (∀ i (h : i < l.length), w.cell? ⟨b, off + i, none⟩ = some (.int .i64 l[i])) ∧ (∀ i s, w.frozen? ⟨b, i, s⟩ = false) ∧ w0.heap.size ≤ b ∧ b < w.heap.size ∧
      ∀ i x, i < l.length → Own w0 (IntSl v (l.set i x) * R) (w.setCell ⟨b, off + i, none⟩ (.int .i64 x)) := by
  obtain ⟨b, off, cap, h1, h2, h3, h4, h5, h6, h7, h8⟩ := Own.sl_at h (by simpa using hl)
  refine ⟨b, off, cap, h1, h2, h3, fun i hi => h4 i _ (by simp [hi]), h5, h6, h7, fun i x hi => ?_⟩
  have := h8 i (.int .i64 x) (by simpa using hi)
  unfold IntSl
  rw [List.length_set, List.map_set]; exact this
def zipMax : List Int → List Int → List Int
  | a :: r, b :: s => max a b :: zipMax r s
  | _, _ => []
theorem zipMax_len : ∀ (a b : List Int), a.length = b.length → (zipMax a b).length = a.length
  | [], [], _ => rfl
  | a :: r, b :: s, h => by simp [zipMax, zipMax_len r s (by simpa using h)]
theorem zipMax_get : ∀ (a b : List Int) (i : Nat) (h1 : i < a.length) (h2 : i < b.length) (h3 : i < (zipMax a b).length), (zipMax a b)[i] = max a[i] b[i]
  | a :: r, b :: s, 0, _, _, _ => rfl
  | a :: r, b :: s, i + 1, h1, h2, h3 => by simp only [zipMax, List.getElem_cons_succ]; exact zipMax_get r s i _ _ _
set_option maxHeartbeats 2000000 in
theorem joined_any {w0 w : World} {R : HProp} (h : Own w0 R w) (va vb : Value) (a b : List Int) (ha : Ints w va a) (hb : Reads w0 R vb b) (hlen : a.length = b.length) (hsm : a.length ≤ 100000) :
    Calls Tryz.prog 130 #[va, vb] w fun e w' => ∃ v', e = .returned v' ∧ Own w0 (IntSl v' (zipMax a b) * R) w' := by
  have HH := Lib.hid h; have HA := Lib.hid ha; have HB := Lib.hid hb
  obtain ⟨bd, bcap, rfl, hbc, hbcap⟩ := (hb w h).shape
  clear h ha hb
  have hln := zipMax_len a b hlen
  have Hln := Lib.hid hln; have Hlen := Lib.hid hlen
  have hle1 : b.length ≤ a.length := by omega
  have hle2 : a.length ≤ b.length := by omega
  clear hln hlen
  go_enter Tryz.func130, Tryz.ntmps130
  go_wp2_with fail
  refine (cloneInts_any HH.out _ _ HA.out hsm).mono ?_
  rintro e w1 ⟨vo, rfl, ho⟩
  have HO := Lib.hid ho
  clear ho
  go_wp2_with fail
  go_loopw [12] (fun i wr => ∃ k : Nat, ∃ cur : List Int, k ≤ b.length ∧ i = .int .i64 k ∧ Hid (cur.length = a.length ∧ (∀ j (h : j < cur.length) (h' : j < a.length) (h'' : j < b.length), cur[j] = if j < k then max a[j] b[j] else a[j]) ∧ Own w0 (IntSl vo cur * R) wr)) (fun i _ => b.length - (intOf i).toNat)
  case atStart => exact ⟨0, a, Nat.zero_le _, rfl, rfl, fun j h h' h'' => by simp, HO.out⟩
  case round =>
    obtain ⟨k, cur, hk, rfl, hp⟩ := hrel
    by_cases hlt : k < b.length
    · obtain ⟨hcl, hcur, ho⟩ := hp.out
      obtain ⟨ab, rfl, hcb⟩ := (HB.out _ ho.drop).at k hlt
      have hkc : k < cur.length := by omega
      obtain ⟨ob, off, ocap, hov, ho1, ho2, hoc, hof, ho3, ho4, hos⟩ := ho.ints_at (by omega)
      have hck := hoc k hkc
      have hfk := hof (off + k) none
      have Hov := Lib.hid hov; have Hp := Lib.hid hp; have Hos := Lib.hid hos; have Hcur := Lib.hid hcur; have Hcl := Lib.hid hcl
      clear hp hoc hof hos hcur ho hcl
      subst hov
      go_wp2
      go_roundw
      case rel =>
        refine ⟨k + 1, _, by omega, by go_num, ⟨?_, fun j h h' h'' => ?_, Hos.out k _ hkc⟩⟩
        · rw [List.length_set]; exact Hcl.out
        · have hck' := Hcur.out k hkc (by omega) hlt
          rw [if_neg (by omega)] at hck'
          by_cases hkj : k = j
          · subst hkj
            rw [List.getElem_set_self, if_pos (show k < k + 1 by omega), hck', Int.max_def]
            first | done | (split <;> split <;> omega)
          · rw [List.getElem_set_ne hkj, Hcur.out j (by simpa using h) h' h'']
            by_cases hj : j < k
            · rw [if_pos hj, if_pos (by omega)]
            · rw [if_neg hj, if_neg (by omega)]
      case measure => simp [intOf]; omega
    · obtain ⟨hcl, hcur, ho⟩ := hp.out
      have hkb : k = b.length := by omega
      have e : cur = zipMax a b := by
        have h1 := Hln.out; have h2 := Hlen.out
        refine List.ext_getElem (by omega) fun j hj1 hj2 => ?_
        rw [hcur j hj1 (by omega) (by omega), if_pos (by omega), zipMax_get a b j (by omega) (by omega)]
      have HF := Lib.hid (e ▸ ho)
      clear hp hcl hcur ho hkb e
      go_wp2
      go_ret
      exact ⟨_, rfl, HF.out⟩
/-- Is no number of a above b's? -/
def leq : List Int → List Int → Bool
  | a :: r, b :: s => decide (a ≤ b) && leq r s
  | _, _ => true
theorem leq_iff : ∀ (a b : List Int), a.length = b.length → (leq a b = true ↔ ∀ i (h : i < a.length) (h' : i < b.length), a[i] ≤ b[i])
  | [], [], _ => by simp [leq]
  | a :: r, b :: s, h => by
    have ih := leq_iff r s (by simpa using h)
    simp only [leq, Bool.and_eq_true, decide_eq_true_eq, ih]
    constructor
    · rintro ⟨h1, h2⟩ i hi hi'
      cases i with
      | zero => exact h1
      | succ i => exact h2 i (by simpa using hi) (by simpa using hi')
    · intro h1
      exact ⟨h1 0 (by simp) (by simp), fun i hi hi' => by have := h1 (i + 1) (by simpa using hi) (by simpa using hi'); simpa using this⟩
/-- A number that is no 0 is an error. -/
theorem errV_some {n : Nat} (h : n ≠ 0) : ∃ m : Int, errV n = .iface 90 (.int .i64 m) := by
  cases n with
  | zero => exact absurd rfl h
  | succ n => exact ⟨_, rfl⟩
def bothErr (a b : List Int) : Nat := if vecErr a = 0 then vecErr b else vecErr a
end Go.Proofs.YtdfjbnfdknpahaaGreatDoor
/- Histories, plainly: what is right, who is ahead of whom, which cuts could have been. -/
namespace Go.Proofs.YtdfjbnfdknpahaaGreatDoor
set_option linter.unusedVariables false
set_option linter.unusedSimpArgs false
open Go.RowKit
abbrev Ev := Int × Int × Int
def whereI {α : Type} (p : α → Bool) : List α → Int
  | [] => -1
  | x :: r => if p x then 0 else if whereI p r < 0 then -1 else whereI p r + 1
theorem whereI_hit {α : Type} (p : α → Bool) : ∀ (l : List α) (k : Nat) (hk : k < l.length), (∀ j (h : j < k), p (l[j]'(by omega)) = false) → p l[k] = true → whereI p l = k
  | x :: r, 0, hk, _, h => by unfold whereI; rw [if_pos (by simpa using h)]; rfl
  | x :: r, k + 1, hk, h1, h2 => by
    have ih := whereI_hit p r k (by simpa using hk) (fun j h => by have := h1 (j + 1) (by omega); simpa using this) (by simpa using h2)
    unfold whereI
    rw [if_neg (by have := h1 0 (by omega); simpa using this), ih, if_neg (by omega)]
    omega
theorem whereI_miss {α : Type} (p : α → Bool) : ∀ (l : List α), (∀ j (h : j < l.length), p l[j] = false) → whereI p l = -1
  | [], _ => rfl
  | x :: r, h => by
    have ih := whereI_miss p r (fun j hj => by have := h (j + 1) (by simpa using hj); simpa using this)
    unfold whereI
    rw [if_neg (by have := h 0 (by simp); simpa using this), ih, if_pos (by omega)]
theorem whereI_cases {α : Type} (p : α → Bool) (l : List α) : (whereI p l = -1 ∧ ∀ x ∈ l, p x = false) ∨ ∃ (k : Nat) (hk : k < l.length), whereI p l = k ∧ p l[k] = true ∧ ∀ j (h : j < k), p (l[j]'(by omega)) = false := by
  induction l with
  | nil => exact .inl ⟨rfl, fun x h => by cases h⟩
  | cons x r ih =>
    by_cases hx : p x = true
    · exact .inr ⟨0, by simp, by unfold whereI; rw [if_pos hx]; rfl, by simpa using hx, fun j h => by omega⟩
    rcases ih with ⟨h1, h2⟩ | ⟨k, hk, h1, h2, h3⟩
    · refine .inl ⟨by unfold whereI; rw [if_neg hx, if_pos (by omega)], fun y hy => ?_⟩
      rcases List.mem_cons.1 hy with rfl | hy
      · simpa using hx
      · exact h2 y hy
    · refine .inr ⟨k + 1, by simpa using hk, by unfold whereI; rw [if_neg hx, if_neg (by omega)]; omega, by simpa using h2, fun j h => ?_⟩
      cases j with
      | zero => simpa using hx
      | succ j => simpa using h3 j (by omega)
theorem whereI_any {α : Type} (p : α → Bool) (l : List α) : (0 ≤ whereI p l) ↔ l.any p = true := by
  rcases whereI_cases p l with ⟨h1, h2⟩ | ⟨k, hk, h1, h2, _⟩
  · rw [h1]
    constructor
    · intro h; omega
    · intro h
      obtain ⟨x, hx, hp⟩ := List.any_eq_true.1 h
      rw [h2 x hx] at hp; cases hp
  · rw [h1]
    exact ⟨fun _ => List.any_eq_true.2 ⟨_, List.getElem_mem hk, h2⟩, fun _ => by omega⟩
def rightB (e : Ev) : Bool := isMember e.1 && (if e.2.1 = 1 then decide (e.2.2 = 0) else (decide (e.2.1 = 2) || decide (e.2.1 = 3)) && isWord e.2.2)
def saysB (wd : Int) (e : Ev) : Bool := decide (e.2.1 = 2) && decide (e.2.2 = wd)
def saidAt (h : List Ev) (wd : Int) : Int := whereI (saysB wd) h
def evAt (h : List Ev) (i : Nat) : Ev := h.getD i (0, 0, 0)
def evErr (ahead : List Ev) (e : Ev) : Nat :=
  if rightB e = false then 1
  else if (e.2.1 = 2 ∧ 0 ≤ saidAt ahead e.2.2) ∨ (e.2.1 = 3 ∧ e ∈ ahead) then 7
  else if e.2.1 = 3 ∧ saidAt ahead e.2.2 < 0 then 5
  else if e.2.1 = 3 ∧ (evAt ahead (saidAt ahead e.2.2).toNat).1 = e.1 then 3 else 0
def histGo (ahead : List Ev) : List Ev → Nat × Nat
  | [] => (0, 0)
  | e :: r => if evErr ahead e ≠ 0 then (ahead.length, evErr ahead e) else histGo (ahead ++ [e]) r
def histR (h : List Ev) : Nat × Nat := if 60 < h.length then (0, 4) else histGo [] h
/-- A history that is right. -/
def RightH (h : List Ev) : Prop := h.length ≤ 60 ∧ ∀ k (hk : k < h.length), evErr (h.take k) h[k] = 0
theorem histGo_ok : ∀ (r ahead : List Ev), (histGo ahead r).2 = 0 ↔ ∀ k (hk : k < r.length), evErr (ahead ++ r.take k) r[k] = 0
  | [], ahead => by simp [histGo]
  | e :: r, ahead => by
    unfold histGo
    by_cases he : evErr ahead e = 0
    · rw [if_neg (by simpa using he), histGo_ok r]
      constructor
      · intro h k hk
        cases k with
        | zero => simpa using he
        | succ k => have := h k (by simpa using hk); simpa using this
      · intro h k hk
        have := h (k + 1) (by simpa using hk); simpa using this
    · rw [if_pos he]
      constructor
      · intro h; exact absurd h he
      · intro h; exact absurd (by have := h 0 (by simp); simpa only [List.take_zero, List.append_nil, List.getElem_cons_zero] using this) he
theorem histR_ok (h : List Ev) : (histR h).2 = 0 ↔ RightH h := by
  unfold histR RightH
  by_cases hl : 60 < h.length
  · rw [if_pos hl]; simp; omega
  · rw [if_neg hl, histGo_ok]
    simp; intro _; omega
/-- Is an event straight ahead of another one behind it? -/
def directB (a e : Ev) : Bool := decide (a.1 = e.1) || (decide (e.2.1 = 3) && (decide (a.2.1 = 2) && decide (a.2.2 = e.2.2)))
def orRow (r s : List Bool) : List Bool := List.zipWith (fun a b => a || b) r s
/-- Row k, behind i rounds. -/
def pastRow (h : List Ev) (rows : List (List Bool)) (k : Nat) : Nat → List Bool
  | 0 => List.replicate h.length false
  | i + 1 => if directB (evAt h i) (evAt h k) then orRow ((pastRow h rows k i).set i true) (rows.getD i []) else pastRow h rows k i
def pastsR (h : List Ev) : Nat → List (List Bool)
  | 0 => []
  | k + 1 => pastsR h k ++ [pastRow h (pastsR h k) k k]
theorem pastsR_len (h : List Ev) : ∀ n, (pastsR h n).length = n
  | 0 => rfl
  | n + 1 => by simp [pastsR, pastsR_len h n]
theorem orRow_len {r s : List Bool} (h : r.length = s.length) : (orRow r s).length = r.length := by simp [orRow, h]
theorem pastRow_len (h : List Ev) (rows : List (List Bool)) (k : Nat) (hr : ∀ r ∈ rows, r.length = h.length) : ∀ i, i ≤ rows.length → (pastRow h rows k i).length = h.length
  | 0, _ => by simp [pastRow]
  | i + 1, hi => by
    have ih := pastRow_len h rows k hr i (by omega)
    have hg : (rows.getD i []).length = h.length := by
      rw [List.getD_eq_getElem?_getD, List.getElem?_eq_getElem (by omega), Option.getD_some]
      exact hr _ (List.getElem_mem _)
    unfold pastRow
    split
    · rw [orRow_len (by rw [List.length_set, ih, hg]), List.length_set, ih]
    · exact ih
theorem pastsR_row (h : List Ev) : ∀ n, ∀ r ∈ pastsR h n, r.length = h.length
  | 0, r, hr => by cases hr
  | n + 1, r, hr => by
    simp only [pastsR, List.mem_append, List.mem_singleton] at hr
    rcases hr with hr | rfl
    · exact pastsR_row h n r hr
    · exact pastRow_len h _ n (pastsR_row h n) n (by rw [pastsR_len]; omega)
theorem pastsR_get (h : List Ev) : ∀ n k, k < n → (pastsR h n).getD k [] = pastRow h (pastsR h k) k k
  | n + 1, k, hk => by
    simp only [pastsR]
    rw [List.getD_eq_getElem?_getD]
    by_cases hkn : k < n
    · rw [List.getElem?_append_left (by rw [pastsR_len]; exact hkn), ← List.getD_eq_getElem?_getD]
      exact pastsR_get h n k hkn
    · have : k = n := by omega
      subst this
      rw [List.getElem?_append_right (by rw [pastsR_len]; omega), pastsR_len]
      simp
/-- Is event j ahead of event k? -/
def bef (h : List Ev) (k j : Nat) : Bool := ((pastsR h h.length).getD k []).getD j false
theorem getD_orRow {r s : List Bool} (h : r.length = s.length) (j : Nat) : (orRow r s).getD j false = (r.getD j false || s.getD j false) := by
  simp only [orRow, List.getD_eq_getElem?_getD, List.getElem?_zipWith]
  by_cases hj : j < r.length
  · rw [List.getElem?_eq_getElem hj, List.getElem?_eq_getElem (by omega)]; rfl
  · rw [List.getElem?_eq_none (by omega), List.getElem?_eq_none (by omega)]; rfl
theorem pastRow_get (h : List Ev) (rows : List (List Bool)) (k : Nat) (hr : ∀ r ∈ rows, r.length = h.length) (j : Nat) : ∀ i, i ≤ rows.length → i ≤ h.length →
    ((pastRow h rows k i).getD j false = true ↔ ∃ m, m < i ∧ directB (evAt h m) (evAt h k) = true ∧ (m = j ∨ (rows.getD m []).getD j false = true))
  | 0, _, _ => by
    simp only [pastRow, List.getD_eq_getElem?_getD, List.getElem?_replicate]
    constructor
    · intro hh; split at hh <;> simp at hh
    · rintro ⟨m, hm, _⟩; omega
  | i + 1, hi, hi2 => by
    have ih := pastRow_get h rows k hr j i (by omega) (by omega)
    have hl := pastRow_len h rows k hr i (by omega)
    have hg : (rows.getD i []).length = h.length := by
      rw [List.getD_eq_getElem?_getD, List.getElem?_eq_getElem (by omega), Option.getD_some]
      exact hr _ (List.getElem_mem _)
    unfold pastRow
    by_cases hd : directB (evAt h i) (evAt h k) = true
    · rw [if_pos hd, getD_orRow (by rw [List.length_set, hl, hg]), Bool.or_eq_true]
      have hs : ((pastRow h rows k i).set i true).getD j false = true ↔ (i = j ∨ (pastRow h rows k i).getD j false = true) := by
        simp only [List.getD_eq_getElem?_getD, List.getElem?_set]
        by_cases hij : i = j
        · subst hij; rw [if_pos rfl, if_pos (by omega)]; simp
        · rw [if_neg hij]; simp [hij]
      rw [hs, ih]
      constructor
      · rintro ((h1 | ⟨m, h1, h2, h3⟩) | h1)
        · exact ⟨i, by omega, hd, .inl h1⟩
        · exact ⟨m, by omega, h2, h3⟩
        · exact ⟨i, by omega, hd, .inr h1⟩
      · rintro ⟨m, h1, h2, h3⟩
        by_cases hm : m = i
        · subst hm
          rcases h3 with h3 | h3
          · exact .inl (.inl h3)
          · exact .inr h3
        · exact .inl (.inr ⟨m, by omega, h2, h3⟩)
    · rw [if_neg hd, ih]
      constructor
      · rintro ⟨m, h1, h2, h3⟩; exact ⟨m, by omega, h2, h3⟩
      · rintro ⟨m, h1, h2, h3⟩
        by_cases hm : m = i
        · subst hm; exact absurd h2 hd
        · exact ⟨m, by omega, h2, h3⟩
theorem bef_iff (h : List Ev) (k j : Nat) (hk : k < h.length) : bef h k j = true ↔ ∃ m, m < k ∧ directB (evAt h m) (evAt h k) = true ∧ (m = j ∨ bef h m j = true) := by
  unfold bef
  rw [pastsR_get h _ k hk, pastRow_get h _ k (pastsR_row h k) j k (by rw [pastsR_len]; omega) (by omega)]
  constructor
  · rintro ⟨m, h1, h2, h3⟩
    refine ⟨m, h1, h2, ?_⟩
    rw [pastsR_get h k m h1] at h3
    rw [pastsR_get h _ m (by omega)]
    exact h3
  · rintro ⟨m, h1, h2, h3⟩
    refine ⟨m, h1, h2, ?_⟩
    rw [pastsR_get h k m h1]
    rw [pastsR_get h _ m (by omega)] at h3
    exact h3
theorem bef_none (h : List Ev) (k j : Nat) (hk : h.length ≤ k) : bef h k j = false := by
  unfold bef
  rw [show (pastsR h h.length).getD k [] = [] from by rw [List.getD_eq_getElem?_getD, List.getElem?_eq_none (by rw [pastsR_len]; exact hk)]; rfl]
  rfl
theorem bef_lt (h : List Ev) : ∀ k j, bef h k j = true → j < k := by
  intro k
  induction k using Nat.strongRecOn with
  | _ k ih =>
    intro j hb
    by_cases hk : k < h.length
    · obtain ⟨m, h1, _, h3⟩ := (bef_iff h k j hk).1 hb
      rcases h3 with rfl | h3
      · exact h1
      · have := ih m h1 j h3; omega
    · rw [bef_none h k j (by omega)] at hb; cases hb
theorem bef_trans (h : List Ev) : ∀ k i j, bef h k i = true → bef h i j = true → bef h k j = true := by
  intro k
  induction k using Nat.strongRecOn with
  | _ k ih =>
    intro i j h1 h2
    by_cases hk : k < h.length
    · obtain ⟨m, hm, hd, h3⟩ := (bef_iff h k i hk).1 h1
      rcases h3 with rfl | h3
      · exact (bef_iff h k j hk).2 ⟨m, hm, hd, .inr h2⟩
      · exact (bef_iff h k j hk).2 ⟨m, hm, hd, .inr (ih m hm i j h3 h2)⟩
    · rw [bef_none h k i (by omega)] at h1; cases h1
/-- How many of the first n events are of a member. -/
def cnt (h : List Ev) (m : Int) (n : Nat) : Nat := ((h.take n).filter fun e => decide (e.1 = m)).length
theorem cnt_zero (h : List Ev) (m : Int) : cnt h m 0 = 0 := by simp [cnt]
theorem cnt_succ (h : List Ev) (m : Int) (n : Nat) (hn : n < h.length) : cnt h m (n + 1) = cnt h m n + if h[n].1 = m then 1 else 0 := by
  unfold cnt
  rw [List.take_succ_eq_append_getElem hn, List.filter_append, List.length_append]
  congr 1
  by_cases he : h[n].1 = m <;> simp [he]
theorem cnt_le (h : List Ev) (m : Int) (n : Nat) : cnt h m n ≤ n := by
  unfold cnt
  exact Nat.le_trans (List.length_filter_le _ _) (by simp; omega)
/-- Is event k taken by a cut? -/
def takenB (h : List Ev) (many : List Int) (k : Nat) : Bool := decide (((cnt h (evAt h k).1 k : Nat) : Int) < many.getD (evAt h k).1.toNat 0)
def cutBadAt (h : List Ev) (many : List Int) (i : Nat) : Bool := decide (many.getD i 0 < 0) || decide (((cnt h (i : Int) h.length : Nat) : Int) < many.getD i 0)
def cutErr (h : List Ev) (many : List Int) : Nat :=
  if (histR h).2 ≠ 0 then (histR h).2 else if many.length ≠ 5 then 3 else if (List.range 5).any (cutBadAt h many) = true then 1 else 0
def cutB (h : List Ev) (many : List Int) : Bool := decide (∀ k, k < h.length → takenB h many k = true → ∀ i, i < k → bef h k i = true → takenB h many i = true)
end Go.Proofs.YtdfjbnfdknpahaaGreatDoor
/- Rows of records, and tables: a row of slice values each of which owns what it points to. -/
namespace Go.Proofs.YtdfjbnfdknpahaaGreatDoor
set_option linter.unusedVariables false
set_option linter.unusedSimpArgs false
open Go.RowKit
section
variable {α : Type}
theorem cells_len (f : α → List Value) (sz : Nat) (hf : ∀ x, (f x).length = sz) (l : List α) : (l.flatMap f).length = l.length * sz := by
  induction l with
  | nil => simp
  | cons x r ih => rw [List.flatMap_cons, List.length_append, ih, hf, List.length_cons, Nat.add_mul]; omega
theorem cells_get (f : α → List Value) (sz : Nat) (hf : ∀ x, (f x).length = sz) : ∀ (l : List α) (k j : Nat) (hk : k < l.length) (_hj : j < sz), (l.flatMap f)[k * sz + j]? = (f l[k])[j]?
  | x :: r, 0, j, _, hj => by
    rw [List.flatMap_cons, List.getElem?_append_left (by rw [hf]; omega)]; simp
  | x :: r, k + 1, j, hk, hj => by
    rw [List.flatMap_cons, List.getElem?_append_right (by rw [hf, Nat.add_mul]; omega)]
    rw [show (k + 1) * sz + j - (f x).length = k * sz + j from by rw [hf, Nat.add_mul]; omega]
    exact cells_get f sz hf r k j (by simpa using hk) hj
/-- A table: rs.length slots from off on in block rb, slot i holding val rs[i]; f rs[i] owned beside it. -/
def TabO (f : α → HProp) (val : α → Value) (ty : TypeId) (rb off cap : Nat) (rs : List α) : HProp := SlAt ty 1 rb off rs.length cap (rs.map val) * starL f rs
theorem Own.tab_facts {f : α → HProp} {val : α → Value} {ty : TypeId} {w0 w : World} {rb off cap : Nat} {rs : List α} {R : HProp} (h : Own w0 (TabO f val ty rb off cap rs * R) w) :
    (∀ (i : Nat) r, rs[i]? = some r → w.cell? ⟨rb, off + i, none⟩ = some (val r)) ∧ (∀ i s, w.frozen? ⟨rb, i, s⟩ = false) ∧ rs.length ≤ cap ∧ cap ≤ maxLen := by
  have h2 : Own w0 (SlAt ty 1 rb off rs.length cap (rs.map val) * (starL f rs * R)) w := h.perm (by unfold TabO; ac_rfl)
  have h3 := h2.slAt_facts
  exact ⟨fun i r hi => h3.2.2.2.1 i _ (by simp [hi]), h3.2.2.2.2.1, h3.1, h3.2.1⟩
/-- One row out of the table, for the while; and back. -/
theorem Own.tab_take {f : α → HProp} {val : α → Value} {ty : TypeId} {w0 w : World} {rb off cap : Nat} {rs : List α} {R : HProp} (h : Own w0 (TabO f val ty rb off cap rs * R) w) {k : Nat} (hk : k < rs.length) :
    Own w0 (f rs[k] * (SlAt ty 1 rb off rs.length cap (rs.map val) * (starL f (rs.eraseIdx k) * R))) w :=
  h.perm (by unfold TabO; rw [starL_split f rs k hk]; ac_rfl)
theorem Own.tab_put {f : α → HProp} {val : α → Value} {ty : TypeId} {w0 w : World} {rb off cap : Nat} {rs : List α} {R : HProp} {k : Nat} (hk : k < rs.length) {y : α}
    (h : Own w0 (f y * (SlAt ty 1 rb off rs.length cap (rs.map val) * (starL f (rs.eraseIdx k) * R))) w) : Own w0 (TabO f val ty rb off cap (rs.set k y) * R) (w.setCell ⟨rb, off + k, none⟩ (val y)) := by
  have h1 : Own w0 (SlAt ty 1 rb off rs.length cap (rs.map val) * (f y * (starL f (rs.eraseIdx k) * R))) w := h.perm (by ac_rfl)
  exact (h1.slAt_set k (val y) (by simpa using hk)).perm (by unfold TabO; rw [starL_set f rs k hk]; simp only [List.length_set, List.map_set]; ac_rfl)
/-- n empty rows. -/
theorem starL_nils (f : α → HProp) (x : α) (hx : f x = emp) (n : Nat) : starL f (List.replicate n x) = emp := by
  induction n with
  | zero => rfl
  | succ n ih => rw [List.replicate_succ]; show f x * starL f (List.replicate n x) = emp; rw [hx, ih, emp_star]
end
/-- The front cut off. -/
theorem Own.sl_drop {w0 w : World} {ty : TypeId} {size n k : Nat} {b off cap : Nat} {xs : List Value} {R : HProp} (hk : k ≤ n) (h : Own w0 (Sl ty size (.slice (some ⟨b, off, none⟩) n cap) n xs * R) w) :
    Own w0 (Sl ty size (.slice (some ⟨b, off + k * size, none⟩) (n - k) (cap - k)) (n - k) (xs.drop (k * size)) * R) w := by
  rcases h.sl_cases with ⟨h1, _⟩ | ⟨b', off', cap', cs, h1, h2, h3, h4, h5, h6, ho⟩
  · cases h1
  · injection h1 with e1 e2 e3
    injection e1 with e1
    injection e1 with e1 e4
    subst e1; subst e4; subst e3
    have hm : k * size ≤ n * size := Nat.mul_le_mul_right _ hk
    have hm2 : n * size ≤ cap * size := Nat.mul_le_mul_right _ h2
    refine Own.sl_mk (by omega) (by omega) (by rw [List.length_drop, h4, Nat.sub_mul]) (by rw [Nat.sub_mul]; omega) (fun i hi => ?_) ho
    rw [List.length_drop] at hi
    rw [List.getElem?_drop, Nat.add_assoc]
    exact h6 (k * size + i) (by omega)
section
variable {P : Program}
end
/-- What a slice of ints is, cut at n. -/
def cutA (ad : Option Addr) (cp n : Nat) : Option Addr := if cp = n then ad else ad.map (·.add n)
def cutV (ad : Option Addr) (len cp n : Nat) : Value := .slice (cutA ad cp n) (len - n) (cp - n)
theorem cut_front {P : Program} {t e : TypeId} (ht : P.underlying t = some (.slice e)) (hs : ∀ w, (sizeOf e).run P w = .ok 1 w) {ad : Option Addr} {len cp n : Nat} (h1 : n ≤ len) (h2 : len ≤ cp) (w : World) :
    (Instr.sliceAt t (.slice ad len cp) (some (.int .i64 n)) none none).run P w = .ok (cutV ad len cp n) w := by
  simp [Instr.sliceAt, Instr.slice, Instr.sliceBounds, Instr.sliceBound, asIntOf, run_underlying ht, hs, h1, cutV, cutA, Result.andThen]
theorem cut_back {P : Program} {t e : TypeId} (ht : P.underlying t = some (.slice e)) (hs : ∀ w, (sizeOf e).run P w = .ok 1 w) {ad : Option Addr} {len cp n : Nat} (h1 : n ≤ len) (h2 : len ≤ cp) (w : World) :
    (Instr.sliceAt t (.slice ad len cp) none (some (.int .i64 n)) none).run P w = .ok (.slice ad n cp) w := by
  have h3 : n ≤ cp := by omega
  simp [Instr.sliceAt, Instr.slice, Instr.sliceBounds, Instr.sliceBound, asIntOf, run_underlying ht, hs, h3, Result.andThen]
  intro _
  cases ad <;> simp [Addr.add]
theorem Own.sl_cut {w0 w : World} {ty : TypeId} {len cp n : Nat} {ad : Option Addr} {xs : List Value} {R : HProp} (hk : n ≤ len) (h : Own w0 (Sl ty 1 (.slice ad len cp) len xs * R) w) :
    Own w0 (Sl ty 1 (cutV ad len cp n) (len - n) (xs.drop n) * R) w := by
  rcases h.sl_cases with ⟨h1, h2, h3, ho⟩ | ⟨b', off', cap', cs, h1, h2, h3, h4, h5, h6, ho⟩
  · injection h1 with e1 e2 e3
    subst e1; subst e2; subst e3; subst h3
    have : n = 0 := by omega
    subst this
    simpa [cutV, cutA] using ho.sl_nil ty 1
  · injection h1 with e1 e2 e3
    subst e1; subst e3
    unfold cutV cutA
    by_cases hc : cp = n
    · have hl : len = n := by omega
      subst hl
      rw [if_pos hc]
      have hx : xs.drop len = [] := List.drop_eq_nil_of_le (by omega)
      rw [hx]
      refine Own.sl_mk (by omega) (by omega) (by simp) ?_ (fun i hi => by simp at hi) ho
      omega
    · rw [if_neg hc]
      have := h.sl_drop hk
      rw [Nat.mul_one] at this
      rw [Option.map_some, Addr.add_lit]
      exact this
end Go.Proofs.YtdfjbnfdknpahaaGreatDoor
/- How arguments that hold structs read, as plain facts: events, views. -/
namespace Go.Proofs.YtdfjbnfdknpahaaGreatDoor
set_option linter.unusedVariables false
set_option linter.unusedSimpArgs false
open Go.ChangeShapes Go.WideShapes Go.ChangeAt Go.RowKit Go.Deep
open Go.ChangeMaps (open_string shut_string)
variable {H : Type} {enc : TypeId × Value → H} {w : World} {b0 : Nat} {d : DataW H} {p : List MemPlace} {v : Value}
def evCells (e : Ev) : List Value := [.int .i64 e.1, .int .i64 e.2.1, .int .i64 e.2.2]
def goodEv (e : Ev) : Prop := I64 e.1 ∧ I64 e.2.1 ∧ I64 e.2.2
def Evs (w : World) (v : Value) (h : List Ev) : Prop := Rd w v h.length (h.flatMap evCells) ∧ ∀ e ∈ h, goodEv e
end Go.Proofs.YtdfjbnfdknpahaaGreatDoor
/- A law for a drawn region: the first n operations read, the others come in a given order; slots may be moved early. -/
namespace Go.Proofs.YtdfjbnfdknpahaaGreatDoor
set_option linter.unusedVariables false
set_option linter.unusedSimpArgs false
open Go.RowKit
section
variable {P : Program} {ops : Array Oper} {md : Region.Mode}

theorem asks_move {o : Oper} (hm : (match o.op with | .move _ => true | .assign _ => true | _ => false) = true) {a : Act} {w : World} : ¬ o.asks P a w := by
  obtain ⟨dst, op, ty, pos, after, guard⟩ := o
  intro h
  cases op <;> simp at hm <;> exact absurd h.1 (by simp [execOp]; exact nofun)

def isMv (o : Oper) : Bool := match o.op with | .move _ => true | .assign _ => true | _ => false
/-- An order of what is left: each is the only one that may come up, or moves a slot and may come first. -/
def ordB (md : Region.Mode) (ops : Array Oper) : List Nat → Array Bool → Bool
  | [], listed => (Region.ready md ops listed).isEmpty
  | k :: r, listed => (decide (Region.ready md ops listed = [k]) || ((Region.ready md ops listed).contains k && Region.free md ops listed k && ((ops[k]?).map isMv).getD false)) && ordB md ops r (listed.setIfInBounds k true)
def pick (l : List Oper) : List Nat → List Oper
  | [] => []
  | k :: r => (l[k]?).toList ++ pick l r

theorem wpAny_of_ord {l : List Oper} {Q : Exit → Act → World → Prop} (hsel : Region.noSelect l.toArray = true) (hQ : ∀ d v c a w, Q (.panic c) (Act.put a d v) w → Q (.panic c) a w) :
    ∀ (r : List Nat) (listed : Array Bool) (a : Act) (w : World), ordB md l.toArray r listed = true → wpList P l.toArray Q (pick l r) a w → wpAny P md l.toArray Q r.length listed a w
  | [], _, _, _, hB, h => ⟨by simpa [ordB] using hB, h⟩
  | k :: r, listed, a, w, hB, h => by
    simp only [ordB, Bool.and_eq_true, Bool.or_eq_true, decide_eq_true_eq] at hB
    obtain ⟨hk, hB⟩ := hB
    cases ho : l[k]? with
    | none =>
      exfalso
      rcases hk with hk | hk
      · have : k ∈ Region.ready md l.toArray listed := by rw [hk]; simp
        obtain ⟨_, o, h2, _⟩ := mem_ready.1 this
        simp [ho] at h2
      · simp [ho] at hk
    | some o =>
      have ho' : l.toArray[k]? = some o := by simpa using ho
      simp only [pick, ho, Option.toList, List.cons_append, List.nil_append] at h
      rcases hk with hk | ⟨⟨hk1, hk2⟩, hk3⟩
      · refine ⟨fun h1 => (by rw [hk] at h1; cases h1), fun i hi => ?_⟩
        rw [hk] at hi
        have hik : i = k := by simpa using hi
        subst hik
        refine wpOp_mono (K := wpList P l.toArray Q (pick l r)) (fun a' w' h' => wpAny_of_ord hsel hQ r _ a' w' hB h') ?_
        unfold wpOp; simp only [ho']; exact h
      · have hmv : isMv o = true := by simpa [ho] using hk3
        unfold wpList at h
        have step : ∀ v, Yields P l.toArray o v a → wpList P l.toArray Q (pick l r) (a.put o.dst v) w → wpAny P md l.toArray Q (r.length + 1) listed a w := fun v hy hw =>
          wpAny_take ho' hsel hk2 hk1 (fun c a w => hQ o.dst v c a w) hy (wpAny_of_ord hsel hQ r _ _ w hB hw)
        by_cases hw : Region.wanted o (yielded l.toArray a.tmps) = true
        · rw [if_pos hw] at h
          rcases h with h | h
          · obtain ⟨dst, op, ty, pos, after, guard⟩ := o
            cases op <;> simp [isMv] at hmv
            · exact step _ (.inl ⟨hw, fun _ => rfl⟩) h
            · exact step _ (.inl ⟨hw, fun _ => rfl⟩) h
          · exact absurd h.1 (asks_move hmv)
        · rw [if_neg hw] at h
          exact step _ (.inr ⟨by simpa using hw, rfl⟩) h

theorem ordB_ready {n : Nat} {r : List Nat} {listed : Array Bool} (h : ordB md ops r listed = true) (inv : ∀ i < n, listed.getD i true = true) : ∀ j ∈ Region.ready md ops listed, n ≤ j := by
  intro j hj
  refine Nat.le_of_not_lt fun hlt => ?_
  have := (mem_ready.1 hj).1
  rw [inv j hlt] at this
  cases this

end
end Go.Proofs.YtdfjbnfdknpahaaGreatDoor
/- Contracts of package vector, the second part; the comparison of lists. -/
namespace Go.Proofs.YtdfjbnfdknpahaaGreatDoor
set_option linter.unusedVariables false
set_option linter.unusedSimpArgs false
open Go.RowKit
theorem Own.drewN {w0 w : World} {P : HProp} (h : Own w0 P w) (n : Nat) : Own w0 P (w.drewN n) := h.same rfl rfl rfl rfl
theorem Own.int_shape {w0 w : World} {v : Value} {l : List Int} {R : HProp} (h : Own w0 (IntSl v l * R) w) : ∃ ad cap, v = .slice ad l.length cap := by
  obtain ⟨ad, cap, h1, _⟩ := Own.rd h
  exact ⟨ad, cap, h1⟩
end Go.Proofs.YtdfjbnfdknpahaaGreatDoor
