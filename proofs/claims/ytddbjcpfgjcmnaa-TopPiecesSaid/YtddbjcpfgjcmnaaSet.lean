/- Sets of ints as maps; where an int is in a list; parts of a list of ints. -/
import Derived.Test.YtddbjcpfgjcmnaaTab
import Derived.Test.YtddbjcpfgjcmnaaMap
import Derived.Test.YtddbjcpfgjcmnaaStable
namespace Go.Proofs.Ytddbjcpfgjcmnaa
set_option linter.unusedVariables false
set_option linter.unusedSimpArgs false
open Go.RowKit
def setM (ss : List Int) : List (Int × Value) := ss.map fun x => (x, Value.bool true)
theorem mget_setM (ss : List Int) (x : Int) : (mget (setM ss) x).getD (.bool false) = .bool (decide (x ∈ ss)) := by
  induction ss with
  | nil => rfl
  | cons y r ih =>
    unfold setM at ih ⊢
    rw [List.map_cons]; unfold mget
    by_cases h : y = x
    · simp [h]
    · rw [if_neg h, ih]
      have h' : ¬ x = y := fun e => h e.symm
      simp [h']
theorem mput_setM {ss : List Int} {x : Int} (h : x ∉ ss) : mput (setM ss) x (.bool true) = setM (ss ++ [x]) := by
  unfold setM
  rw [mput_new (by intro p hp e; obtain ⟨y, hy, rfl⟩ := List.mem_map.1 hp; simp at e; exact h (e ▸ hy)), List.map_append]; rfl
abbrev IMp := Mp (fun n : Int => Value.int .i64 n) I64
theorem bool_zero : ∀ w, (zeroValue 4).run Try.prog w = .ok (.bool false) w := fun _ => by kernel_rfl
theorem int_kind : Try.prog.underlying 3 = some (.int .i64) := by kernel_rfl
theorem int_info : (Try.prog.info? 3).map (fun i => (i.zero, i.size, i.bytes)) = some (some (.int .i64 0), 1, 8) := by kernel_rfl
theorem isWord_I64 {x : Int} (h : isWord x = true) : I64 x := by simp [isWord] at h; unfold I64; omega
theorem mput_setM_old {ss : List Int} {x : Int} (h : x ∈ ss) : mput (setM ss) x (.bool true) = setM ss := by
  induction ss with
  | nil => cases h
  | cons y r ih =>
    unfold setM at ih ⊢
    rw [List.map_cons]; unfold mput
    by_cases e : y = x
    · simp [e]
    · rw [if_neg e, ih (by rcases List.mem_cons.1 h with h | h
                           · exact absurd h.symm e
                           · exact h)]
/-- x put into a set. -/
def setPut (ss : List Int) (x : Int) : List Int := if x ∈ ss then ss else ss ++ [x]
theorem mput_setPut (ss : List Int) (x : Int) : mput (setM ss) x (.bool true) = setM (setPut ss x) := by
  unfold setPut
  by_cases h : x ∈ ss
  · rw [if_pos h, mput_setM_old h]
  · rw [if_neg h, mput_setM h]
theorem mem_setPut {ss : List Int} {x y : Int} : y ∈ setPut ss x ↔ y ∈ ss ∨ y = x := by
  unfold setPut
  by_cases h : x ∈ ss
  · rw [if_pos h]; exact ⟨.inl, fun hh => hh.elim id (fun e => e ▸ h)⟩
  · rw [if_neg h]; simp
/-- A part of a list of ints. -/
theorem Ints.mid {w : World} {ad : Option Addr} {len cp lo hi : Nat} {l : List Int} (h : Ints w (.slice ad len cp) l) (h1 : lo ≤ hi) (h2 : hi ≤ len) : Ints w (.slice (cutA ad cp lo) (hi - lo) (cp - lo)) ((l.take hi).drop lo) := by
  obtain ⟨⟨ad', cap', e, h3, h4, h5, hc⟩, hi'⟩ := h
  injection e with e1 e2 e3
  subst e1; subst e2; subst e3
  refine ⟨⟨cutA ad cp lo, cp - lo, ?_, ?_, by omega, ?_, fun i u hu => ?_⟩, fun x hx => hi' x (List.mem_of_mem_take (List.mem_of_mem_drop hx))⟩
  · congr 1; simp; omega
  · simp; omega
  · intro hn; unfold cutA at hn; split at hn
    · omega
    · cases ad with
      | none => have := h5 rfl; omega
      | some a => cases hn
  · have hlt : i < hi - lo := by
      rcases Nat.lt_or_ge i (hi - lo) with h | h
      · exact h
      · rw [List.getElem?_eq_none (by simp; omega)] at hu; cases hu
    have hu2 : (l.map (Value.int .i64))[lo + i]? = some u := by
      rw [← hu]; simp [List.getElem?_map, List.getElem?_drop, List.getElem?_take, show lo + i < hi from by omega]
    obtain ⟨a, ha, hcell⟩ := hc _ _ hu2
    subst ha
    have hne : ¬ cp = lo := by omega
    refine ⟨a.add lo, by unfold cutA; rw [if_neg hne]; rfl, ?_⟩
    have : (a.add lo).add i = a.add (lo + i) := by
      unfold Addr.add
      by_cases e1 : lo = 0
      · subst e1; simp
      · by_cases e2 : i = 0
        · subst e2; simp [e1]
        · have : ¬ lo + i = 0 := by omega
          simp [e1, e2, this]; omega
    rw [this]; exact hcell
theorem slice_mid {P : Program} {t e : TypeId} (ht : P.underlying t = some (.slice e)) (hs : ∀ w, (sizeOf e).run P w = .ok 1 w) {ad : Option Addr} {len cp lo hi : Nat} (h1 : lo ≤ hi) (h2 : hi ≤ len) (h3 : len ≤ cp) (w : World) :
    (Instr.sliceAt t (.slice ad len cp) (some (.int .i64 lo)) (some (.int .i64 hi)) none).run P w = .ok (.slice (cutA ad cp lo) (hi - lo) (cp - lo)) w := by
  have h4 : hi ≤ cp := by omega
  have h5 : lo ≤ cp := by omega
  simp [Instr.sliceAt, Instr.slice, Instr.sliceBounds, Instr.sliceBound, asIntOf, run_underlying ht, hs, h1, h4, cutA, Result.andThen]
theorem int_size1 : ∀ w, (sizeOf 3).run Try.prog w = .ok 1 w := fun _ => by kernel_rfl
/-- The beginning of a list of ints. -/
theorem Ints.front {w : World} {ad : Option Addr} {len cp hi : Nat} {l : List Int} (h : Ints w (.slice ad len cp) l) (h2 : hi ≤ len) : Ints w (.slice ad hi cp) (l.take hi) := by
  have hmi := Ints.mid h (Nat.zero_le _) h2
  have hcut : cutA ad cp 0 = ad := by
    unfold cutA
    split
    · rfl
    · cases ad <;> simp [Addr.add]
  rwa [hcut, List.drop_zero, Nat.sub_zero, Nat.sub_zero] at hmi
/-- A row of a list of lists. -/
theorem Rows2.at {w : World} {ad : Option Addr} {n cap : Nat} {ll : List (List Int)} (h : Rows2 w (.slice ad n cap) ll) (k : Nat) (hk : k < ll.length) :
    ∃ (a : Addr) (ad' : Option Addr) (cap' : Nat), ad = some a ∧ w.cell? (a.add k) = some (.slice ad' ll[k].length cap') ∧ Ints w (.slice ad' ll[k].length cap') ll[k] := by
  obtain ⟨rs, h1, ⟨ad', cap', e, _, _, _, hc⟩, h3⟩ := h
  injection e with e1 e2 e3
  subst e1
  have hr : rs[k]? = some (rs[k]'(by omega)) := by simp [h1, hk]
  obtain ⟨a, ha, hcell⟩ := hc k _ hr
  have hi := h3 k _ ll[k] hr (by simp [hk])
  obtain ⟨ad2, cap2, e2, _, _⟩ := hi.shape
  rw [e2] at hi hcell
  exact ⟨a, ad2, cap2, ha, hcell, hi⟩
theorem Rows2.at_later {w0 : World} {ad : Option Addr} {n cap : Nat} {ll : List (List Int)} (h : Rows2 w0 (.slice ad n cap) ll) (k : Nat) (hk : k < ll.length) :
    ∃ (a : Addr) (ad' : Option Addr) (cap' : Nat), ad = some a ∧ Ints w0 (.slice ad' ll[k].length cap') ll[k] ∧ ∀ (w : World) (P : HProp), Own w0 P w → w.cell? (a.add k) = some (.slice ad' ll[k].length cap') := by
  obtain ⟨a, ad', cap', e, hc, hi⟩ := h.at k hk
  refine ⟨a, ad', cap', e, hi, fun w P ho => ?_⟩
  have hlt : a.block < w0.heap.size := by
    have := World.block_lt_of_cell? _ _ hc
    simpa [Addr.add] using (by unfold Addr.add at this; split at this <;> exact this)
  rw [ho.below.cell (p := a.add k) (by unfold Addr.add; split <;> exact hlt)]; exact hc
theorem Ints.at_later {w0 : World} {ad : Option Addr} {n cap : Nat} {l : List Int} (h : Ints w0 (.slice ad n cap) l) (k : Nat) (hk : k < l.length) :
    ∃ a : Addr, ad = some a ∧ ∀ (w : World) (P : HProp), Own w0 P w → w.cell? (a.add k) = some (.int .i64 l[k]) := by
  obtain ⟨a, e, hc⟩ := h.at k hk
  refine ⟨a, e, fun w P ho => ?_⟩
  obtain ⟨a', e', hc'⟩ := (h.later ho).at k hk
  rw [e] at e'
  injection e' with e'
  rw [e']; exact hc'
theorem Rows2.shape {w : World} {v : Value} {ll : List (List Int)} (h : Rows2 w v ll) : ∃ ad cap, v = .slice ad ll.length cap ∧ ll.length ≤ cap ∧ cap ≤ 9223372036854775807 := by
  obtain ⟨rs, h1, ⟨ad', cap', e, h2, h3, _, hc⟩, _⟩ := h
  exact ⟨_, _, e, h2, by simpa [maxLen] using h3⟩
/-- Distinct numbers from 1 to n: at most n. -/
theorem distinct_le (n : Nat) : ∀ (l : List Int), l.Nodup → (∀ x ∈ l, 1 ≤ x ∧ x ≤ (n : Int)) → l.length ≤ n := by
  induction n with
  | zero =>
    intro l _ h
    cases l with
    | nil => exact Nat.le_refl _
    | cons x r => have := h x (by simp); omega
  | succ n ih =>
    intro l hn h
    by_cases hm : ((n + 1 : Nat) : Int) ∈ l
    · have h1 := ih (l.erase ((n + 1 : Nat) : Int)) (hn.erase _) (fun x hx => by
        have h2 := (hn.mem_erase_iff).1 hx
        have := h x h2.2
        have := h2.1
        omega)
      rw [List.length_erase_of_mem hm] at h1
      omega
    · have := ih l hn (fun x hx => by
        have h2 := h x hx
        have : x ≠ ((n + 1 : Nat) : Int) := fun e => hm (e ▸ hx)
        omega)
      omega
def begins (a b : List Int) : Bool := decide (a.length ≤ b.length) && (a == b.take a.length)
end Go.Proofs.Ytddbjcpfgjcmnaa
