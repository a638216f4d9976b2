/- Sets of ints as maps; where an int is in a list; parts of a list of ints. -/
import Derived.Test.YtldmdenojpnldaaDoorTab
import Derived.Test.YtldmdenojpnldaaDoorMap
import Derived.Test.YtldmdenojpnldaaDoorStable
namespace Go.Proofs.YtldmdenojpnldaaDoor
set_option linter.unusedVariables false
set_option linter.unusedSimpArgs false
open Go.RowKit
def setM (ss : List Int) : List (Int × Value) := ss.map fun x => (x, Value.bool true)
theorem mget_setM (ss : List Int) (x : Int) : (mget (setM ss) x).getD (.bool false) = .bool (decide (x ∈ ss)) := by
  induction ss with
  | nil => rfl
  | cons y r ih =>
    unfold setM at ih ⊢
    rw [List.map_cons]; unfold mget
    by_cases h : y = x
    · simp [h]
    · rw [if_neg h, ih]
      have h' : ¬ x = y := fun e => h e.symm
      simp [h']
theorem mput_setM {ss : List Int} {x : Int} (h : x ∉ ss) : mput (setM ss) x (.bool true) = setM (ss ++ [x]) := by
  unfold setM
  rw [mput_new (by intro p hp e; obtain ⟨y, hy, rfl⟩ := List.mem_map.1 hp; simp at e; exact h (e ▸ hy)), List.map_append]; rfl
abbrev IMp := Mp (fun n : Int => Value.int .i64 n) I64
theorem mapint_made : ∀ w, (Instr.makeMap 165 none).run Tryd.prog w = .ok (.map (some w.heap.size)) (w.alloc (.map #[] 0)) := fun _ => by kernel_rfl
theorem bool_zero : ∀ w, (zeroValue 4).run Tryd.prog w = .ok (.bool false) w := fun _ => by kernel_rfl
theorem int_kind : Tryd.prog.underlying 3 = some (.int .i64) := by kernel_rfl
theorem mapint_kind : Tryd.prog.underlying 165 = some (.map 3 4) := by kernel_rfl
theorem int_info : (Tryd.prog.info? 3).map (fun i => (i.zero, i.size, i.bytes)) = some (some (.int .i64 0), 1, 8) := by kernel_rfl
theorem isWord_I64 {x : Int} (h : isWord x = true) : I64 x := by simp [isWord] at h; unfold I64; omega
theorem mput_setM_old {ss : List Int} {x : Int} (h : x ∈ ss) : mput (setM ss) x (.bool true) = setM ss := by
  induction ss with
  | nil => cases h
  | cons y r ih =>
    unfold setM at ih ⊢
    rw [List.map_cons]; unfold mput
    by_cases e : y = x
    · simp [e]
    · rw [if_neg e, ih (by rcases List.mem_cons.1 h with h | h
                           · exact absurd h.symm e
                           · exact h)]
/-- x put into a set. -/
def setPut (ss : List Int) (x : Int) : List Int := if x ∈ ss then ss else ss ++ [x]
theorem mput_setPut (ss : List Int) (x : Int) : mput (setM ss) x (.bool true) = setM (setPut ss x) := by
  unfold setPut
  by_cases h : x ∈ ss
  · rw [if_pos h, mput_setM_old h]
  · rw [if_neg h, mput_setM h]
theorem mem_setPut {ss : List Int} {x y : Int} : y ∈ setPut ss x ↔ y ∈ ss ∨ y = x := by
  unfold setPut
  by_cases h : x ∈ ss
  · rw [if_pos h]; exact ⟨.inl, fun hh => hh.elim id (fun e => e ▸ h)⟩
  · rw [if_neg h]; simp
/-- A part of a list of ints. -/
theorem Ints.mid {w : World} {ad : Option Addr} {len cp lo hi : Nat} {l : List Int} (h : Ints w (.slice ad len cp) l) (h1 : lo ≤ hi) (h2 : hi ≤ len) : Ints w (.slice (cutA ad cp lo) (hi - lo) (cp - lo)) ((l.take hi).drop lo) := by
  obtain ⟨⟨ad', cap', e, h3, h4, h5, hc⟩, hi'⟩ := h
  injection e with e1 e2 e3
  subst e1; subst e2; subst e3
  refine ⟨⟨cutA ad cp lo, cp - lo, ?_, ?_, by omega, ?_, fun i u hu => ?_⟩, fun x hx => hi' x (List.mem_of_mem_take (List.mem_of_mem_drop hx))⟩
  · congr 1; simp; omega
  · simp; omega
  · intro hn; unfold cutA at hn; split at hn
    · omega
    · cases ad with
      | none => have := h5 rfl; omega
      | some a => cases hn
  · have hlt : i < hi - lo := by
      rcases Nat.lt_or_ge i (hi - lo) with h | h
      · exact h
      · rw [List.getElem?_eq_none (by simp; omega)] at hu; cases hu
    have hu2 : (l.map (Value.int .i64))[lo + i]? = some u := by
      rw [← hu]; simp [List.getElem?_map, List.getElem?_drop, List.getElem?_take, show lo + i < hi from by omega]
    obtain ⟨a, ha, hcell⟩ := hc _ _ hu2
    subst ha
    have hne : ¬ cp = lo := by omega
    refine ⟨a.add lo, by unfold cutA; rw [if_neg hne]; rfl, ?_⟩
    have : (a.add lo).add i = a.add (lo + i) := by
      unfold Addr.add
      by_cases e1 : lo = 0
      · subst e1; simp
      · by_cases e2 : i = 0
        · subst e2; simp [e1]
        · have : ¬ lo + i = 0 := by omega
          simp [e1, e2, this]; omega
    rw [this]; exact hcell
theorem slice_mid {P : Program} {t e : TypeId} (ht : P.underlying t = some (.slice e)) (hs : ∀ w, (sizeOf e).run P w = .ok 1 w) {ad : Option Addr} {len cp lo hi : Nat} (h1 : lo ≤ hi) (h2 : hi ≤ len) (h3 : len ≤ cp) (w : World) :
    (Instr.sliceAt t (.slice ad len cp) (some (.int .i64 lo)) (some (.int .i64 hi)) none).run P w = .ok (.slice (cutA ad cp lo) (hi - lo) (cp - lo)) w := by
  have h4 : hi ≤ cp := by omega
  have h5 : lo ≤ cp := by omega
  simp [Instr.sliceAt, Instr.slice, Instr.sliceBounds, Instr.sliceBound, asIntOf, run_underlying ht, hs, h1, h4, cutA, Result.andThen]
theorem int_size1 : ∀ w, (sizeOf 3).run Tryd.prog w = .ok 1 w := fun _ => by kernel_rfl
set_option maxRecDepth 100000 in
set_option maxHeartbeats 4000000 in
theorem indexInt_any (v : Value) (l : List Int) (x : Int) (w : World) (hl : Ints w v l) :
    Calls Tryd.prog 97 #[v, .int .i64 x] w fun e w' => e = .returned (.int .i64 (whereIs (fun n => decide (n = x)) l)) ∧ w = w' := by
  obtain ⟨ad, cap, rfl, hlc, hcap⟩ := hl.shape
  have HL := Lib.hid hl
  clear hl
  go_enter Tryd.func97, Tryd.ntmps97
  go_wp2
  go_loop [8] (fun i => ∃ k : Nat, k ≤ l.length ∧ i = .int .i64 k ∧ Hid (∀ j (h : j < k) (h' : j < l.length), decide (l[j] = x) = false)) (fun i => l.length - (intOf i).toNat)
  case atStart => exact ⟨0, Nat.zero_le _, rfl, fun j h => by omega⟩
  case round =>
    obtain ⟨k, hk, rfl, hp⟩ := hrel
    by_cases hlt : k < l.length
    · obtain ⟨a, rfl, hc⟩ := HL.out.at k hlt
      obtain ⟨y, hy⟩ : ∃ y, y = l[k] := ⟨_, rfl⟩
      rw [← hy] at hc
      by_cases hb : x = y
      · have hb' : (x == y) = true := by simp [hb]
        have HB := Lib.hid hb; have HY := Lib.hid hy
        clear hb hy
        go_wp2
        go_ret
        exact ⟨ret_int (whereIs_hit _ l k hlt (fun j h => hp.out j h (by omega)) (by rw [← HY.out, HB.out]; simp)).symm, rfl⟩
      · have hb' : (x == y) = false := by simp [hb]
        have HB := Lib.hid hb; have HY := Lib.hid hy
        clear hb hy
        go_wp2
        go_round
        case rel => exact ⟨k + 1, by omega, by go_num, fun j h h' => by
          by_cases hj : j < k
          · exact hp.out j hj h'
          · have : j = k := by omega
            subst this; rw [← HY.out]; simp; exact fun e => HB.out e.symm⟩
        case measure => simp [intOf]; omega
    · go_wp2
      go_ret
      exact ⟨ret_int (whereIs_miss _ l (fun j h => hp.out j (by omega) h)).symm, rfl⟩
set_option maxRecDepth 100000 in
set_option maxHeartbeats 4000000 in
theorem containsInt_any (v : Value) (l : List Int) (x : Int) (w : World) (hl : Ints w v l) :
    Calls Tryd.prog 81 #[v, .int .i64 x] w fun e w' => e = .returned (.bool (decide (x ∈ l))) ∧ w = w' := by
  have hw := whereIs_neg (fun n => decide (n = x)) l
  have HL := Lib.hid hl; have HW := Lib.hid hw
  clear hl hw
  go_enter Tryd.func81, Tryd.ntmps81
  go_wp2_with fail
  refine (indexInt_any _ l x _ HL.out).mono ?_
  rintro e w' ⟨rfl, rfl⟩
  go_wp2
  go_ret
  refine ⟨ret_bool ?_, rfl⟩
  have h1 := HW.out
  have h2 : (l.any fun n => decide (n = x)) = decide (x ∈ l) := by
    rw [Bool.eq_iff_iff]; simp
  rw [h2] at h1
  by_cases h : x ∈ l
  · simp [h] at h1 ⊢; omega
  · simp [h] at h1 ⊢; omega
/-- The beginning of a list of ints. -/
theorem Ints.front {w : World} {ad : Option Addr} {len cp hi : Nat} {l : List Int} (h : Ints w (.slice ad len cp) l) (h2 : hi ≤ len) : Ints w (.slice ad hi cp) (l.take hi) := by
  have hmi := Ints.mid h (Nat.zero_le _) h2
  have hcut : cutA ad cp 0 = ad := by
    unfold cutA
    split
    · rfl
    · cases ad <;> simp [Addr.add]
  rwa [hcut, List.drop_zero, Nat.sub_zero, Nat.sub_zero] at hmi
/-- A row of a list of lists. -/
theorem Rows2.at {w : World} {ad : Option Addr} {n cap : Nat} {ll : List (List Int)} (h : Rows2 w (.slice ad n cap) ll) (k : Nat) (hk : k < ll.length) :
    ∃ (a : Addr) (ad' : Option Addr) (cap' : Nat), ad = some a ∧ w.cell? (a.add k) = some (.slice ad' ll[k].length cap') ∧ Ints w (.slice ad' ll[k].length cap') ll[k] := by
  obtain ⟨rs, h1, ⟨ad', cap', e, _, _, _, hc⟩, h3⟩ := h
  injection e with e1 e2 e3
  subst e1
  have hr : rs[k]? = some (rs[k]'(by omega)) := by simp [h1, hk]
  obtain ⟨a, ha, hcell⟩ := hc k _ hr
  have hi := h3 k _ ll[k] hr (by simp [hk])
  obtain ⟨ad2, cap2, e2, _, _⟩ := hi.shape
  rw [e2] at hi hcell
  exact ⟨a, ad2, cap2, ha, hcell, hi⟩
theorem Rows2.at_later {w0 : World} {ad : Option Addr} {n cap : Nat} {ll : List (List Int)} (h : Rows2 w0 (.slice ad n cap) ll) (k : Nat) (hk : k < ll.length) :
    ∃ (a : Addr) (ad' : Option Addr) (cap' : Nat), ad = some a ∧ Ints w0 (.slice ad' ll[k].length cap') ll[k] ∧ ∀ (w : World) (P : HProp), Own w0 P w → w.cell? (a.add k) = some (.slice ad' ll[k].length cap') := by
  obtain ⟨a, ad', cap', e, hc, hi⟩ := h.at k hk
  refine ⟨a, ad', cap', e, hi, fun w P ho => ?_⟩
  have hlt : a.block < w0.heap.size := by
    have := World.block_lt_of_cell? _ _ hc
    simpa [Addr.add] using (by unfold Addr.add at this; split at this <;> exact this)
  rw [ho.below.cell (p := a.add k) (by unfold Addr.add; split <;> exact hlt)]; exact hc
theorem Ints.at_later {w0 : World} {ad : Option Addr} {n cap : Nat} {l : List Int} (h : Ints w0 (.slice ad n cap) l) (k : Nat) (hk : k < l.length) :
    ∃ a : Addr, ad = some a ∧ ∀ (w : World) (P : HProp), Own w0 P w → w.cell? (a.add k) = some (.int .i64 l[k]) := by
  obtain ⟨a, e, hc⟩ := h.at k hk
  refine ⟨a, e, fun w P ho => ?_⟩
  obtain ⟨a', e', hc'⟩ := (h.later ho).at k hk
  rw [e] at e'
  injection e' with e'
  rw [e']; exact hc'
theorem Rows2.shape {w : World} {v : Value} {ll : List (List Int)} (h : Rows2 w v ll) : ∃ ad cap, v = .slice ad ll.length cap ∧ ll.length ≤ cap ∧ cap ≤ 9223372036854775807 := by
  obtain ⟨rs, h1, ⟨ad', cap', e, h2, h3, _, hc⟩, _⟩ := h
  exact ⟨_, _, e, h2, by simpa [maxLen] using h3⟩
/-- Distinct numbers from 1 to n: at most n. -/
theorem distinct_le (n : Nat) : ∀ (l : List Int), l.Nodup → (∀ x ∈ l, 1 ≤ x ∧ x ≤ (n : Int)) → l.length ≤ n := by
  induction n with
  | zero =>
    intro l _ h
    cases l with
    | nil => exact Nat.le_refl _
    | cons x r => have := h x (by simp); omega
  | succ n ih =>
    intro l hn h
    by_cases hm : ((n + 1 : Nat) : Int) ∈ l
    · have h1 := ih (l.erase ((n + 1 : Nat) : Int)) (hn.erase _) (fun x hx => by
        have h2 := (hn.mem_erase_iff).1 hx
        have := h x h2.2
        have := h2.1
        omega)
      rw [List.length_erase_of_mem hm] at h1
      omega
    · have := ih l hn (fun x hx => by
        have h2 := h x hx
        have : x ≠ ((n + 1 : Nat) : Int) := fun e => hm (e ▸ hx)
        omega)
      omega
def begins (a b : List Int) : Bool := decide (a.length ≤ b.length) && (a == b.take a.length)
set_option maxRecDepth 100000 in
set_option maxHeartbeats 4000000 in
theorem begins_any (va vb : Value) (a b : List Int) (w : World) (ha : Ints w va a) (hb : Ints w vb b) :
    Calls Tryd.prog 84 #[va, vb] w fun e w' => e = .returned (.bool (begins a b)) ∧ ∃ n, w' = w.drewN n := by
  obtain ⟨ad, cap, rfl, hac, hacap⟩ := ha.shape
  obtain ⟨bd, bcap, rfl, hbc, hbcap⟩ := hb.shape
  by_cases hle : a.length ≤ b.length
  · have hr : begins a b = (a == b.take a.length) := by simp [begins, hle]
    have hd : decide ((a.length : Int) ≤ (b.length : Int)) = true := by simp; omega
    have hsl := fun w => cut_back (P := Tryd.prog) (e := 3) Tryd.underlying36 int_size1 (ad := bd) hle hbc w
    have hf := hb.front hle
    have HA := Lib.hid ha; have HB := Lib.hid hb; have HR := Lib.hid hr; have HF := Lib.hid hf
    clear ha hb hr hf
    go_enter Tryd.func84, Tryd.ntmps84
    go_wp2_with fail
    refine (sameInts_any _ _ a (b.take a.length) _ HA.out HF.out).mono ?_
    rintro e w' ⟨rfl, n, rfl⟩
    go_wp2
    go_ret
    exact ⟨by rw [HR.out]; rfl, n, rfl⟩
  · have hr : begins a b = false := by simp [begins, hle]
    have hd : decide ((a.length : Int) ≤ (b.length : Int)) = false := by simp; omega
    have HA := Lib.hid ha; have HB := Lib.hid hb; have HR := Lib.hid hr
    clear ha hb hr
    go_enter Tryd.func84, Tryd.ntmps84
    go_wp2
    go_ret
    exact ⟨by rw [HR.out]; rfl, 0, rfl⟩
end Go.Proofs.YtldmdenojpnldaaDoor
