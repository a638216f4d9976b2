/- A session by text, plainly: the answer to a line, and to a text. -/
import Derived.Test.YtdfjbnfdknpahaaGreatDoorMRunAnswers3
import Derived.Test.YtdfjbnfdknpahaaGreatDoorMRunAnswers4
import Derived.Test.YtdfjbnfdknpahaaGreatDoorMRunAnswers12
import Derived.Test.YtdfjbnfdknpahaaGreatDoorMRunAnswers10
import Derived.Test.YtdfjbnfdknpahaaGreatDoorMRunAnswers1
import Derived.Test.YtdfjbnfdknpahaaGreatDoorMRunAnswers2
import Derived.Test.YtdfjbnfdknpahaaGreatDoorMRunAnswers7
import Derived.Test.YtdfjbnfdknpahaaGreatDoorMRunAnswers5
import Derived.Test.YtdfjbnfdknpahaaGreatDoorMRunAnswers8
namespace Go.Proofs.YtdfjbnfdknpahaaGreatDoor
set_option linter.unusedVariables false
set_option linter.unusedSimpArgs false
open Go.RowKit
def sayW : List UInt8 := [115, 97, 121]
def giveW : List UInt8 := [103, 105, 118, 101]
def dropW : List UInt8 := [100, 114, 111, 112]
def twiceW : List UInt8 := [116, 119, 105, 99, 101]
def wayW : List UInt8 := [119, 97, 121]
def heardW : List UInt8 := [104, 101, 97, 114, 100]
def facesW : List UInt8 := [102, 97, 99, 101, 115]
def clockW : List UInt8 := [99, 108, 111, 99, 107]
def okW : List UInt8 := [111, 107]
def badW : List UInt8 := [98, 97, 100]
/-- How many numbers a word wants. -/
def wantsB (w : List UInt8) : Option Nat :=
  if w = sayW then some 2 else if w = giveW then some 1 else if w = dropW then some 1 else if w = twiceW then some 1 else
  if w = wayW then some 0 else if w = heardW then some 1 else if w = facesW then some 0 else if w = clockW then some 1 else none
def argN (ws : List (List UInt8)) (i : Nat) : Nat := numV (ws.getD i [])
/-- A line that can be read: what is done; the text; the fault. -/
def doR (c : Cs) (w : List UInt8) (a b : Nat) : Cs × List UInt8 × Nat :=
  if w = sayW then (csSay c a b, okW, csSayErr c a b) else
  if w = giveW then (csGive c a, rowT (csGiven c a), csGiveErr c a) else
  if w = dropW then (csDrop c a, okW, ntDropErr c.net a) else
  if w = twiceW then (csTwice c a, okW, ntTwiceErr c.net a) else
  if w = wayW then (c, wayT c.net.all, 0) else
  if w = heardW then (c, rowT (heardE c.hist a), heardErr c.hist a) else
  if w = facesW then (c, faB (facesF c.hist) (facesC c.hist) (facesT c.hist), facesErr c.hist) else
  if (histR c.hist).2 ≠ 0 then (c, [], (histR c.hist).2) else
  if (vecsE c.hist).length ≤ a then (c, [], 1) else (c, rowT ((vecsE c.hist).getD a []), 0)
/-- Can a line be read? -/
def readB (ws : List (List UInt8)) : Bool := ws.tail.all numOk && decide (wantsB (ws.headD []) = some (ws.length - 1))
def lineR (c : Cs) (s : List UInt8) : Cs × List UInt8 × Nat :=
  if readB (cutS 32 s) = true then doR c ((cutS 32 s).headD []) (argN (cutS 32 s).tail 0) (argN (cutS 32 s).tail 1) else (c, [], 9)
def ansB (r : List UInt8 × Nat) : List UInt8 := if r.2 = 9 then badW else if r.2 = 0 then r.1 else nmB r.2
def lineA (c : Cs) (s : List UInt8) : Cs × List UInt8 := ((lineR c s).1, ansB (lineR c s).2)
/-- All answers, a line each. -/
def runA (c : Cs) : List (List UInt8) → List UInt8
  | [] => []
  | s :: r => (lineA c s).2 ++ 10 :: runA (lineA c s).1 r
def runC (c : Cs) : List (List UInt8) → Cs
  | [] => c
  | s :: r => runC (lineA c s).1 r
theorem runC_snoc (c : Cs) (l : List (List UInt8)) (s : List UInt8) : runC c (l ++ [s]) = (lineA (runC c l) s).1 := by
  induction l generalizing c with
  | nil => rfl
  | cons x r ih => exact ih _
theorem runA_snoc (c : Cs) (l : List (List UInt8)) (s : List UInt8) : runA c (l ++ [s]) = runA c l ++ ((lineA (runC c l) s).2 ++ [10]) := by
  induction l generalizing c with
  | nil => rfl
  | cons x r ih =>
    show (lineA c x).2 ++ 10 :: runA (lineA c x).1 (r ++ [s]) = ((lineA c x).2 ++ 10 :: runA (lineA c x).1 r) ++ _
    rw [ih]
    simp only [List.append_assoc, List.cons_append]
    rfl
/-- The lines of a text, each with its end. -/
def rawL : List UInt8 → List (List UInt8)
  | [] => []
  | b :: r => if b = 10 then [10] :: rawL r else match rawL r with
    | [] => [[b]]
    | x :: y => (b :: x) :: y
theorem rawL_seg : ∀ (seg r : List UInt8), (10 : UInt8) ∉ seg → rawL (seg ++ 10 :: r) = (seg ++ [10]) :: rawL r
  | [], r, _ => by rw [List.nil_append, rawL, if_pos rfl]; rfl
  | b :: q, r, h => by
    have hb : b ≠ 10 := fun e => h (by rw [e]; exact List.mem_cons_self ..)
    have hq : (10 : UInt8) ∉ q := fun e => h (List.mem_cons_of_mem _ e)
    rw [List.cons_append, rawL, if_neg hb, rawL_seg q r hq]
    rfl
theorem rawL_last : ∀ (seg : List UInt8), (10 : UInt8) ∉ seg → seg ≠ [] → rawL seg = [seg]
  | [], _, h => absurd rfl h
  | [b], h, _ => by
    have hb : b ≠ 10 := fun e => h (by rw [e]; exact List.mem_cons_self ..)
    rw [rawL, if_neg hb]; rfl
  | b :: d :: q, h, _ => by
    have hb : b ≠ 10 := fun e => h (by rw [e]; exact List.mem_cons_self ..)
    have hq : (10 : UInt8) ∉ d :: q := fun e => h (List.mem_cons_of_mem _ e)
    rw [rawL, if_neg hb, rawL_last (d :: q) hq (by simp)]
/-- The answers to a text. -/
def sessB (t : List UInt8) : List UInt8 := runA (csNew 3) ((rawL t).map trimB)
theorem CZ.line {c : Cs} (h : CZ c) (s : List UInt8) : CZ (lineA c s).1 := by
  show CZ (lineR c s).1
  unfold lineR
  split
  · unfold doR
    repeat' split
    all_goals first | exact h.say _ _ | exact h.give _ | exact h.drop _ | exact h.twice _ | exact h
  · exact h
theorem CZ.runC {c : Cs} (h : CZ c) (l : List (List UInt8)) : CZ (runC c l) := by
  induction l generalizing c with
  | nil => exact h
  | cons x r ih => exact ih (h.line x)
end Go.Proofs.YtdfjbnfdknpahaaGreatDoor
/- run's two: words that are numbers, two at most. -/
namespace Go.Proofs.YtdfjbnfdknpahaaGreatDoor
set_option linter.unusedVariables false
set_option linter.unusedSimpArgs false
open Go.RowKit
def Sts (w : World) (v : Value) (ls : List (List UInt8)) : Prop := Rd w v ls.length (ls.map fun l => Value.string (tx l))
abbrev Ar (b : Nat) (x y : Int) : HProp := blk b (.cells #[.int .i64 x, .int .i64 y] 69 (0, 0))
theorem Own.ar {w0 w : World} {b : Nat} {x y : Int} {R : HProp} (h : Own w0 (Ar b x y * R) w) : w.cell? ⟨b, 0, none⟩ = some (.int .i64 x) ∧ w.cell? ⟨b, 1, none⟩ = some (.int .i64 y) ∧ w.frozen? ⟨b, 0, none⟩ = false ∧ w.frozen? ⟨b, 1, none⟩ = false :=
  ⟨(h.cell 0).trans rfl, (h.cell 1).trans rfl, h.free 0 none, h.free 1 none⟩
theorem Own.ar0 {w0 w : World} {b : Nat} {x y : Int} {R : HProp} (h : Own w0 (Ar b x y * R) w) (z : Int) : Own w0 (Ar b z y * R) (w.setCell ⟨b, 0, none⟩ (.int .i64 z)) := h.setCell
theorem Own.ar1 {w0 w : World} {b : Nat} {x y : Int} {R : HProp} (h : Own w0 (Ar b x y * R) w) (z : Int) : Own w0 (Ar b x z * R) (w.setCell ⟨b, 1, none⟩ (.int .i64 z)) := h.setCell
theorem Rd.at' {w : World} {ad : Option Addr} {n cap m : Nat} {xs : List Value} (h : Rd w (.slice ad n cap) m xs) {i : Nat} {u : Value} (hi : xs[i]? = some u) : ∃ a : Addr, ad = some a ∧ w.cell? (a.add i) = some u := by
  obtain ⟨ad', cap', e, _, _, _, h5⟩ := h
  cases e
  exact h5 i u hi
def twoOk (ls : List (List UInt8)) : Bool := ls.all numOk && decide (ls.length ≤ 2)
theorem argN_at {ls : List (List UInt8)} {i : Nat} (hi : i < ls.length) : argN ls i = numV ls[i] := by
  unfold argN; rw [List.getD_eq_getElem?_getD, List.getElem?_eq_getElem hi]; rfl
theorem argN_out {ls : List (List UInt8)} {i : Nat} (hi : ls.length ≤ i) : argN ls i = 0 := by
  unfold argN; rw [List.getD_eq_getElem?_getD, List.getElem?_eq_none hi]; rfl
theorem all_take {ls : List (List UInt8)} {i : Nat} (hi : i < ls.length) (h : (ls.take i).all numOk = true) (hn : numOk ls[i] = true) : (ls.take (i + 1)).all numOk = true := by
  rw [List.take_succ_eq_append_getElem hi, List.all_append, h]; simp [hn]
theorem all_not {ls : List (List UInt8)} {i : Nat} (hi : i < ls.length) (hn : numOk ls[i] = false) : ls.all numOk = false := by
  rw [List.all_eq_false]
  exact ⟨_, List.getElem_mem hi, by rw [hn]; simp⟩
set_option maxHeartbeats 1000000 in
set_option maxRecDepth 100000 in
set_option maxHeartbeats 4000000 in
theorem ptwo_any {w0 w : World} {R : HProp} (hW : RunW w0) (v : Value) (ls : List (List UInt8)) (hl : ls.length ≤ 90000) (hb : ∀ x ∈ ls, x.length ≤ 90000) (hv : ∀ w, Own w0 R w → Sts w v ls) (h : Own w0 R w) :
    Calls Tryz.prog 51 #[v] w fun e w' => ∃ a b, e = .returned (.tuple #[.agg #[.int .i64 a, .int .i64 b], .bool (twoOk ls)]) ∧ (twoOk ls = true → a = (argN ls 0 : Nat) ∧ b = (argN ls 1 : Nat)) ∧ Own w0 R w' := by
  obtain ⟨n, hn⟩ : ∃ n, n = ls.length := ⟨_, rfl⟩
  obtain ⟨ad, cap, rfl, hc1, hc2, hc3, _⟩ := hv _ h
  rw [← hn] at hc1 ⊢
  have hrd : ∀ (i : Nat) (hi : i < ls.length) (w : World), Own w0 R w → ∃ a : Addr, ad = some a ∧ w.cell? (a.add i) = some (.string (tx ls[i])) := fun i hi w ho => Rd.at' (hv w ho) (by rw [List.getElem?_map, List.getElem?_eq_getElem hi]; rfl)
  have hnm : ∀ (i : Nat) (hi : i < ls.length) (w2 : World) (R' : HProp), Own w0 R' w2 → Calls Tryz.prog 72 #[.string (tx ls[i])] w2 fun e w' => ∃ n, e = .returned (.tuple #[.int .i64 n, .bool (numOk ls[i])]) ∧ (numOk ls[i] = true → n = (numV ls[i] : Nat)) ∧ Own w0 R' w' := fun i hi w2 R' ho => pnum_any hW _ (hb _ (List.getElem_mem hi)) ho
  obtain ⟨T, hT⟩ : ∃ T, T = twoOk ls := ⟨_, rfl⟩
  rw [← hT]
  rw [← hn] at hl
  obtain ⟨b2, hb_b2⟩ : ∃ zz_, zz_ = (w).heap.size := ⟨_, rfl⟩
  obtain ⟨w1, hw_w1⟩ : ∃ zz_, zz_ = (w).alloc (.cells #[.int .i64 0, .int .i64 0] 69 (0, 0)) := ⟨_, rfl⟩
  have h_H1 := (h).alloc (.cells #[.int .i64 0, .int .i64 0] 69 (0, 0))
  rw [← hb_b2, ← hw_w1] at h_H1
  have H1 := Lib.hid h_H1
  clear h_H1
  obtain ⟨b4, hb_b4⟩ : ∃ zz_, zz_ = (w1).heap.size := ⟨_, rfl⟩
  obtain ⟨w2, hw_w2⟩ : ∃ zz_, zz_ = (w1).alloc (.cells #[.int .i64 0, .int .i64 0] 69 (0, 0)) := ⟨_, rfl⟩
  have h_H2 := (H1.out).alloc (.cells #[.int .i64 0, .int .i64 0] 69 (0, 0))
  rw [← hb_b4, ← hw_w2] at h_H2
  have H2 := Lib.hid h_H2
  clear h_H2
  have H := Lib.hid h; have HV := Lib.hid hv; have HN := Lib.hid hn; have HRD := Lib.hid hrd; have HNM := Lib.hid hnm; have HT := Lib.hid hT; have HB := Lib.hid hb
  clear h hv hn hrd hnm hT hb
  go_enter Tryz.func51, Tryz.ntmps51
  go_upto_region 1 with fail
  rw [← hb_b2, ← hw_w1]
  clear hb_b2 hw_w1
  go_upto_region 2 with fail
  rw [← hb_b4, ← hw_w2]
  clear hb_b4 hw_w2
  go_wp2_with fail
  go_loopw [11] (fun iv wr => ∃ (i : Nat) (x y : Int), iv = .int .i64 i ∧ i ≤ 2 ∧ i ≤ n ∧ Hid ((ls.take i).all numOk = true) ∧ (1 ≤ i → x = (argN ls 0 : Nat)) ∧ (i < 1 → x = 0) ∧ (2 ≤ i → y = (argN ls 1 : Nat)) ∧ (i < 2 → y = 0) ∧ Hid (Own w0 (Ar b4 x y * (Ar b2 0 0 * R)) wr)) (fun iv _ => n - (intOf iv).toNat)
  case atStart => exact ⟨0, 0, 0, rfl, by omega, Nat.zero_le _, Lib.hid rfl, by omega, fun _ => rfl, by omega, fun _ => rfl, H2⟩
  case round =>
    clear H1 H2
    obtain ⟨i, x, y, rfl, hi2, hin, HAL, hx1, hx0, hy1, hy0, HO⟩ := hrel
    have HX1 := Lib.hid hx1; have HX0 := Lib.hid hx0; have HY1 := Lib.hid hy1; have HY0 := Lib.hid hy0
    clear hx1 hx0 hy1 hy0
    by_cases hlt : i < n
    · have hil : i < ls.length := by rw [← HN.out]; exact hlt
      obtain ⟨a, rfl, hcell⟩ := HRD.out i hil wr (HO.out.drop.drop)
      have hcall := fun w2 ho => HNM.out i hil w2 (Ar b4 x y * (Ar b2 0 0 * R)) ho
      obtain ⟨S, hS⟩ : ∃ S, S = tx ls[i] := ⟨_, rfl⟩
      obtain ⟨K, hK⟩ : ∃ K, K = numOk ls[i] := ⟨_, rfl⟩
      rw [← hS] at hcell hcall
      rw [← hK] at hcall
      have hc5 := hcall wr HO.out
      have HS := Lib.hid hS; have HK := Lib.hid hK; have HCALL := Lib.hid hcall; have HC5 := Lib.hid hc5
      clear hS hK hcall hc5
      go_wp2_with fail
      refine HC5.out.mono ?_
      rintro e w3 ⟨z, rfl, hz, ho⟩
      have HO3 := Lib.hid ho
      clear ho
      cases K
      · have hTf : T = false := by rw [HT.out]; unfold twoOk; rw [all_not hil HK.out.symm]; rfl
        subst hTf
        obtain ⟨g0, g1, g2, g3⟩ := HO3.out.ar
        have ho2 : Own w0 (Ar b2 0 0 * (Ar b4 x y * R)) w3 := HO3.out.perm (by ac_rfl)
        obtain ⟨e0, e1, e2, e3⟩ := ho2.ar
        have hst := (ho2.ar0 x).ar1 y
        obtain ⟨p0, p1, _, _⟩ := hst.ar
        have HO4 := Lib.hid hst.drop.drop
        clear hst ho2
        go_wp2_with fail
        exact bodyPost_ret (v := .tuple #[.agg #[.int .i64 x, .int .i64 y], .bool false]) (by simp [results, Tryz.results51, go_sem, p0, p1]) rfl ⟨x, y, rfl, fun hc => (by cases hc), HO4.out⟩
      · have hall := all_take hil HAL.out HK.out.symm
        have hz2 : z = (argN ls i : Nat) := (hz rfl).trans (by rw [argN_at hil])
        have HALL := Lib.hid hall
        clear hall
        have HZ := Lib.hid hz
        clear hz
        have HZ2 := Lib.hid hz2
        clear hz2
        by_cases h2 : i < 2
        · obtain ⟨g0, g1, g2, g3⟩ := HO3.out.ar
          rcases (show i = 0 ∨ i = 1 by omega) with rfl | rfl
          · have HO4 := Lib.hid (HO3.out.ar0 z)
            go_wp2_with fail
            go_roundw
            case rel => exact ⟨1, z, y, by go_num, by omega, by omega, HALL, fun _ => HZ2.out, by omega, by omega, fun _ => HY0.out (by omega), HO4⟩
            case measure => simp [intOf]; omega
          · have HO4 := Lib.hid (HO3.out.ar1 z)
            go_wp2_with fail
            go_roundw
            case rel => exact ⟨2, x, z, by go_num, by omega, by omega, HALL, fun _ => HX1.out (by omega), by omega, fun _ => HZ2.out, by omega, HO4⟩
            case measure => simp [intOf]; omega
        · have hi22 : i = 2 := by omega
          subst hi22
          have hTf : T = false := by
            rw [HT.out]; unfold twoOk
            rw [show decide (ls.length ≤ 2) = false by rw [decide_eq_false_iff_not]; omega, Bool.and_false]
          subst hTf
          obtain ⟨g0, g1, g2, g3⟩ := HO3.out.ar
          have ho2 : Own w0 (Ar b2 0 0 * (Ar b4 x y * R)) w3 := HO3.out.perm (by ac_rfl)
          obtain ⟨e0, e1, e2, e3⟩ := ho2.ar
          have hst := (ho2.ar0 x).ar1 y
          obtain ⟨p0, p1, _, _⟩ := hst.ar
          have HO4 := Lib.hid hst.drop.drop
          clear hst ho2
          go_wp2_with fail
          exact bodyPost_ret (v := .tuple #[.agg #[.int .i64 x, .int .i64 y], .bool false]) (by simp [results, Tryz.results51, go_sem, p0, p1]) rfl ⟨x, y, rfl, fun hc => (by cases hc), HO4.out⟩
    · have hin2 : i = n := by omega
      subst hin2
      have hTt : T = true := by
        have h1 := HAL.out
        rw [List.take_of_length_le (by have := HN.out; omega)] at h1
        rw [HT.out]; unfold twoOk
        rw [h1, show decide (ls.length ≤ 2) = true by rw [decide_eq_true_eq]; have := HN.out; omega]; rfl
      subst hTt
      have hxx : x = (argN ls 0 : Nat) := by
        by_cases h1 : 1 ≤ i
        · exact HX1.out h1
        · rw [HX0.out (by omega), argN_out (by have := HN.out; omega)]; rfl
      have hyy : y = (argN ls 1 : Nat) := by
        by_cases h1 : 2 ≤ i
        · exact HY1.out h1
        · rw [HY0.out (by omega), argN_out (by have := HN.out; omega)]; rfl
      have HO3 : Hid (Own w0 (Ar b4 x y * (Ar b2 0 0 * R)) wr) := HO
      obtain ⟨w3, hw3⟩ : ∃ w3, w3 = wr := ⟨_, rfl⟩
      subst hw3
      obtain ⟨g0, g1, g2, g3⟩ := HO3.out.ar
      have ho2 : Own w0 (Ar b2 0 0 * (Ar b4 x y * R)) w3 := HO3.out.perm (by ac_rfl)
      obtain ⟨e0, e1, e2, e3⟩ := ho2.ar
      have hst := (ho2.ar0 x).ar1 y
      obtain ⟨p0, p1, _, _⟩ := hst.ar
      have HO4 := Lib.hid hst.drop.drop
      clear hst ho2
      have HXX := Lib.hid hxx; have HYY := Lib.hid hyy
      clear hxx hyy
      go_wp2_with fail
      exact bodyPost_ret (v := .tuple #[.agg #[.int .i64 x, .int .i64 y], .bool true]) (by simp [results, Tryz.results51, go_sem, p0, p1]) rfl (by first | exact ⟨x, y, rfl, fun _ => ⟨HXX.out, HYY.out⟩, HO4.out⟩ | exact ⟨x, y, rfl, ⟨HXX.out, HYY.out⟩, HO4.out⟩)
end Go.Proofs.YtdfjbnfdknpahaaGreatDoor
/- run's numbers: a row of numbers. -/
namespace Go.Proofs.YtdfjbnfdknpahaaGreatDoor
set_option linter.unusedVariables false
set_option linter.unusedSimpArgs false
open Go.RowKit
def itW (l : List Int) : List (List UInt8) := l.map fun x => Lib.decDigits x.toNat
theorem itoa_nn {x : Int} (h : 0 ≤ x) : Lib.itoa x = Lib.decDigits x.toNat := by unfold Lib.itoa; rw [if_neg (by omega)]
def Small (l : List Int) : Prop := l.length ≤ 1000 ∧ ∀ x ∈ l, 0 ≤ x ∧ x ≤ 1000
theorem itW_join {l : List Int} (h : Small l) : (joinB (itW l)).length ≤ 10000000 := by
  have h1 := joinB_len (ws := itW l) (m := 1001) (fun x hx => by
    obtain ⟨y, hy, rfl⟩ := List.mem_map.1 hx
    have h3 := (h.2 y hy).2
    have h4 := (dec_len y.toNat).2
    omega)
  have h2 := h.1
  have h3 : (itW l).length = l.length := List.length_map ..
  rw [h3] at h1
  omega
theorem rowT_it (l : List Int) : rowT l = rowW (itW l) := rowT_row l
set_option maxRecDepth 100000 in
set_option maxHeartbeats 4000000 in
theorem pnumbers_any {w0 w : World} {R : HProp} (hW : RunW w0) (v : Value) (l : List Int) (hs : Small l) (hv : ∀ w, Own w0 R w → Ints w v l) (h : Own w0 R w) :
    Calls Tryz.prog 54 #[v] w fun e w' => e = .returned (.string (tx (rowT l))) ∧ Own w0 R w' := by
  obtain ⟨n, hn⟩ : ∃ n, n = l.length := ⟨_, rfl⟩
  obtain ⟨ad, cap, rfl, hc1, hc2⟩ := (hv _ h).shape
  rw [← hn]
  have hit : ∀ (x : Int) (w2 : World) (R' : HProp), 0 ≤ x ∧ x ≤ 1000 → Own w0 R' w2 → Calls Tryz.prog 79 #[.int .i64 x] w2 fun e w' => e = .returned (.string (tx (Lib.decDigits x.toNat))) ∧ Own w0 R' w' := fun x w2 R' hx ho => by
    have h1 := itoa_any hW x (by unfold I64; omega) ho
    rw [itoa_nn hx.1] at h1
    exact h1
  have hrd : ∀ (i : Nat) (hi : i < l.length) (w : World), Own w0 R w → ∃ a : Addr, ad = some a ∧ w.cell? (a.add i) = some (.int .i64 l[i]) := fun i hi w ho => Rd.at' (hv w ho).1 (by rw [List.getElem?_map, List.getElem?_eq_getElem hi]; rfl)
  have hln : l.length ≤ 1000 := hs.1
  rw [← hn] at hln hc1
  have HN0 : Hid (Own w0 (StSl (.slice none 0 0) [] * R) w) := Lib.hid (h.sl_nil _ _)
  have hrow : ∀ (v : Value) (w2 : World) (R' : HProp), Own w0 (StSl v (itW l) * R') w2 → Calls Tryz.prog 80 #[v] w2 fun e w' => e = .returned (.string (tx (rowT l))) ∧ Own w0 (StSl v (itW l) * R') w' := fun v w2 R' ho => by
    rw [rowT_it]
    have h3 : (itW l).length = l.length := List.length_map ..
    have h4 := hs.1
    exact prow_any v (itW l) (by omega) (Nat.le_trans (itW_join hs) (by decide)) ho
  obtain ⟨T, hT⟩ : ∃ T, T = tx (rowT l) := ⟨_, rfl⟩
  rw [← hT] at hrow ⊢
  have H := Lib.hid h; have HV := Lib.hid hv; have HN := Lib.hid hn; have HIT := Lib.hid hit; have HRD := Lib.hid hrd; have HROW := Lib.hid hrow; have HT := Lib.hid hT
  clear h hv hn hit hrd hrow hT
  go_enter Tryz.func54, Tryz.ntmps54
  go_wp2_with fail
  go_loopw [3, 8] (fun sv iv wr => ∃ k : Nat, k ≤ n ∧ iv = .int .i64 k ∧ Hid (Own w0 (StSl sv (itW (l.take k)) * R) wr)) (fun _ iv _ => n - (intOf iv).toNat)
  case atStart => exact ⟨0, Nat.zero_le _, rfl, HN0⟩
  case round =>
    clear HN0
    obtain ⟨k, hk, rfl, HO⟩ := hrel
    by_cases hlt : k < n
    · have hkl : k < l.length := by rw [← HN.out]; exact hlt
      obtain ⟨a, rfl, hcell⟩ := HRD.out k hkl wr HO.out.drop
      have htk : itW (l.take (k + 1)) = itW (l.take k) ++ [Lib.decDigits (l[k]).toNat] := by
        unfold itW; rw [List.take_succ_eq_append_getElem hkl, List.map_append]; rfl
      have hkn : (itW (l.take k)).length = k := by unfold itW; rw [List.length_map, List.length_take]; omega
      have hcc := HIT.out l[k] wr _ (hs.2 _ (List.getElem_mem hkl)) HO.out
      obtain ⟨x, hx⟩ : ∃ x, x = l[k] := ⟨_, rfl⟩
      obtain ⟨D, hD⟩ : ∃ D, D = Lib.decDigits x.toNat := ⟨_, rfl⟩
      obtain ⟨S, hS⟩ : ∃ S, S = tx D := ⟨_, rfl⟩
      rw [← hx] at hcell hcc htk
      rw [← hD] at hcc htk
      rw [← hS] at hcc
      obtain ⟨pre, hpre⟩ : ∃ pre, pre = itW (l.take k) := ⟨_, rfl⟩
      rw [← hpre] at hcc htk hkn
      have HCC := Lib.hid hcc; have HX := Lib.hid hx; have HD := Lib.hid hD; have HS := Lib.hid hS; have HTK := Lib.hid htk; have HPRE := Lib.hid hpre
      clear hcc hx hD hS htk hpre
      go_wp2_with fail
      refine HCC.out.mono ?_
      rintro e w2 ⟨rfl, ho⟩
      have HO2 := Lib.hid ho
      clear ho
      go_wp2_with (at_builtin; refine wpList_app rfl _ _ 23 rfl 9 1 16 _ info_str Tryz.underlying23 rfl (by decide) rfl (HO2.out.alloc' _) rfl (by rfl) (Rd_lit (by simp) (by unfold maxLen; omega)) (by intro u hu; simp at hu; subst hu; rfl) (by unfold maxLen; omega) (by omega) ?_; intro v' w4 hown; have HO4 : Hid (Own w0 (StSl v' (pre ++ [D]) * R) w4) := Lib.hid (hown.perm (show _ = StSl v' (pre ++ [D]) * R by unfold StSl; simp [HS.out])); clear hown)
      go_roundw
      case rel => exact ⟨k + 1, by omega, by go_num, by rw [HTK.out]; exact HO4⟩
      case measure => simp [intOf]; omega
    · have hkn : k = n := by omega
      subst hkn
      have ho := HO.out
      rw [List.take_of_length_le (by have := HN.out; omega)] at ho
      have hrr := HROW.out _ _ _ ho
      have HRR := Lib.hid hrr; have HO := Lib.hid ho
      clear hrr ho
      go_wp2_with fail
      refine HRR.out.mono ?_
      rintro e w2 ⟨rfl, ho⟩
      have HO2 := Lib.hid ho
      clear ho
      go_wp2_with fail
      go_ret
      exact ⟨rfl, HO2.out.drop⟩
end Go.Proofs.YtdfjbnfdknpahaaGreatDoor
/- Contracts of package cause, of a member for whom none waits. -/
namespace Go.Proofs.YtdfjbnfdknpahaaGreatDoor
set_option linter.unusedVariables false
set_option linter.unusedSimpArgs false
open Go.RowKit
def CaP (p mb : Nat) (q : Int) (clk : List Int) : HProp :=
  blk p (.cells #[.int .i64 q, .slice (some ⟨mb, 0, none⟩) 5 5, .slice none 0 0] 124 (0, 0)) * IntSl (.slice (some ⟨mb, 0, none⟩) 5 5) clk
set_option maxRecDepth 100000 in
set_option maxHeartbeats 4000000 in
theorem causeNew_yes {w0 w : World} {R : HProp} (me : Int) (hm : isMember me = true) (h : Own w0 R w) :
    Calls Tryz.prog 33 #[.int .i64 me] w fun e w' => ∃ p mb, e = .returned (.tuple #[.pointer (some ⟨p, 0, none⟩), errV 0]) ∧ Own w0 (CaP p mb me zero5 * R) w' := by
  have hmk : ∀ w, (Instr.makeSlice 57 (.int .i64 5) (.int .i64 5)).run Tryz.prog w = .ok (.slice (some ⟨w.heap.size, 0, none⟩) 5 5) (w.alloc (.cells #[.int .i64 0, .int .i64 0, .int .i64 0, .int .i64 0, .int .i64 0] 3)) := fun _ => by kernel_rfl
  have hnew := ((h.alloc (.cells #[.int .i64 0, .int .i64 0, .int .i64 0, .int .i64 0, .int .i64 0] 3)).zero5.alloc (.cells #[.int .i64 me, .slice (some ⟨w.heap.size, 0, none⟩) 5 5, .slice none 0 0] 124))
  rw [World.size_alloc] at hnew
  have HM := Lib.hid hm; have H := Lib.hid h; have HNEW := Lib.hid hnew
  clear hm h hnew
  go_enter Tryz.func33, Tryz.ntmps33
  go_wp2_with fail
  refine (member_any _ _).mono ?_
  rintro e w' ⟨rfl, rfl⟩
  rw [HM.out]
  go_wp2
  go_ret2
  exact ⟨_, w.heap.size, rfl, HNEW.out.perm (by unfold CaP; ac_rfl)⟩
def SdO (b : Nat) (a x : Int) (v : Value) : HProp := blk b (.cells #[.int .i64 a, .int .i64 x, v] 59 (0, 0))
theorem Own.sd {w0 w : World} {b : Nat} {a x : Int} {v : Value} {R : HProp} (h : Own w0 (SdO b a x v * R) w) : w.cell? ⟨b, 0, none⟩ = some (.int .i64 a) ∧ w.cell? ⟨b, 1, none⟩ = some (.int .i64 x) ∧ w.cell? ⟨b, 2, none⟩ = some v ∧ ∀ i s, w.frozen? ⟨b, i, s⟩ = false :=
  ⟨(Own.cell h 0).trans rfl, (Own.cell h 1).trans rfl, (Own.cell h 2).trans rfl, Own.free h⟩
theorem Own.sd_put {w0 w : World} {b : Nat} {a x : Int} {v : Value} {R : HProp} (a' x' : Int) (v' : Value) (h : Own w0 (SdO b a x v * R) w) : Own w0 (SdO b a' x' v' * R) (((w.setCell ⟨b, 0, none⟩ (.int .i64 a')).setCell ⟨b, 1, none⟩ (.int .i64 x')).setCell ⟨b, 2, none⟩ v') :=
  (Own.setCell (i := 2) (v := v') (Own.setCell (i := 1) (v := .int .i64 x') (Own.setCell (i := 0) (v := .int .i64 a') h))).perm rfl
theorem Own.sd_put2 {w0 w : World} {b : Nat} {a x : Int} {v : Value} {R : HProp} (v' : Value) (h : Own w0 (SdO b a x v * R) w) : Own w0 (SdO b a x v' * R) (w.setCell ⟨b, 2, none⟩ v') :=
  (Own.setCell (i := 2) (v := v') h).perm rfl
end Go.Proofs.YtdfjbnfdknpahaaGreatDoor
/- Contracts of package cause, continued: what comes in order is heard at once. -/
namespace Go.Proofs.YtdfjbnfdknpahaaGreatDoor
set_option linter.unusedVariables false
set_option linter.unusedSimpArgs false
open Go.RowKit
set_option maxRecDepth 100000 in
set_option maxHeartbeats 4000000 in
theorem saidIx_none (f : Value) (w : World) :
    Calls Tryz.prog 103 #[.slice none 0 0, f] w fun e w' => e = .returned (.int .i64 (-1)) ∧ w = w' := by
  go_enter Tryz.func103, Tryz.ntmps103
  go_wp2_with fail
  go_loop [8] (fun iv => iv = .int .i64 0) (fun _ => 0)
  case atStart => rfl
  case round =>
    subst hrel
    go_wp2
    go_ret
    exact ⟨rfl, rfl⟩
set_option maxRecDepth 100000 in
set_option maxHeartbeats 4000000 in
theorem saidHas_none (f : Value) (w : World) :
    Calls Tryz.prog 119 #[.slice none 0 0, f] w fun e w' => e = .returned (.bool false) ∧ w = w' := by
  go_enter Tryz.func119, Tryz.ntmps119
  go_wp2_with fail
  refine (saidIx_none f w).mono ?_
  rintro e w' ⟨rfl, rfl⟩
  go_wp2
  go_ret
  exact ⟨rfl, rfl⟩
theorem Own.lit1 {w0 w : World} {b : Nat} {x : Int} {R : HProp} (h : Own w0 (blk b (.cells #[.int .i64 x] 3 (0, 0)) * R) w) : Own w0 (IntSl (.slice (some ⟨b, 0, none⟩) 1 1) [x] * R) w := by
  unfold IntSl
  exact Own.sl_mk (Nat.le_refl _) (by unfold maxLen; omega) (by simp) (by simp) (fun i hi => by simp) h
end Go.Proofs.YtdfjbnfdknpahaaGreatDoor
/- Parts of what is owned brought to the front; a literal of ints. -/
namespace Go.Proofs.YtdfjbnfdknpahaaGreatDoor
set_option linter.unusedVariables false
set_option linter.unusedSimpArgs false
open Go.RowKit
section
variable {w0 w : World} {A B C D E F G H R : HProp}
theorem Own.second (h : Own w0 (A * (B * R)) w) : Own w0 (B * (A * R)) w := h.perm (by ac_rfl)
theorem Own.third (h : Own w0 (A * (B * (C * R))) w) : Own w0 (C * (A * (B * R))) w := h.perm (by ac_rfl)
theorem Own.fourth (h : Own w0 (A * (B * (C * (D * R)))) w) : Own w0 (D * (A * (B * (C * R)))) w := h.perm (by ac_rfl)
theorem Own.fifth (h : Own w0 (A * (B * (C * (D * (E * R))))) w) : Own w0 (E * (A * (B * (C * (D * R))))) w := h.perm (by ac_rfl)
theorem Own.sixth (h : Own w0 (A * (B * (C * (D * (E * (F * R)))))) w) : Own w0 (F * (A * (B * (C * (D * (E * R))))) ) w := h.perm (by ac_rfl)
theorem Own.seventh (h : Own w0 (A * (B * (C * (D * (E * (F * (G * R))))))) w) : Own w0 (G * (A * (B * (C * (D * (E * (F * R)))))) ) w := h.perm (by ac_rfl)
theorem Own.to6 (h : Own w0 (A * (B * (C * (D * (E * (F * R)))))) w) : Own w0 (B * (C * (D * (E * (F * (A * R)))))) w := h.perm (by ac_rfl)
end
theorem Own.only {w0 w : World} {P R : HProp} (h : Own w0 (P * R) w) : Own w0 (P * emp) w := by rw [star_emp]; exact h.drop2
end Go.Proofs.YtdfjbnfdknpahaaGreatDoor
/- Contracts of package cause, of a member for whom words may wait: what it is in memory; ready. -/
namespace Go.Proofs.YtdfjbnfdknpahaaGreatDoor
set_option linter.unusedVariables false
set_option linter.unusedSimpArgs false
open Go.RowKit
/-- A word's box as it lies in a row: the clock's slice, and the word. -/
abbrev SdR := Value × Sd
def sdCells (r : SdR) : List Value := [.int .i64 r.2.who, .int .i64 r.2.word, r.1]
def sdRow (r : SdR) : HProp := IntSl r.1 r.2.clk
abbrev cwBlk (p mb : Nat) (me : Int) (wv : Value) : HProp := blk p (.cells #[.int .i64 me, .slice (some ⟨mb, 0, none⟩) 5 5, wv] 124 (0, 0))
def CwO (p mb : Nat) (wv : Value) (rows : List SdR) (c : Ca) : HProp :=
  cwBlk p mb c.me wv * (IntSl (.slice (some ⟨mb, 0, none⟩) 5 5) c.clk * (Sl 59 3 wv rows.length (rows.flatMap sdCells) * starL sdRow rows))
def CwP (p : Nat) (c : Ca) : HProp := hex fun (x : Nat × Value × List SdR) => pur (x.2.2.map (·.2) = c.waits) * CwO p x.1 x.2.1 x.2.2 c
theorem Own.cw_open {w0 w : World} {p : Nat} {c : Ca} {R : HProp} (h : Own w0 (CwP p c * R) w) : ∃ mb wv rows, rows.map (·.2) = c.waits ∧ Own w0 (CwO p mb wv rows c * R) w := by
  obtain ⟨⟨mb, wv, rows⟩, h⟩ := Own.ex h
  rw [star_assoc] at h
  obtain ⟨he, h⟩ := Own.pur_out h
  exact ⟨mb, wv, rows, he, h⟩
theorem Own.cw_close {w0 w : World} {p mb : Nat} {wv : Value} {rows : List SdR} {c : Ca} {R : HProp} (he : rows.map (·.2) = c.waits) (h : Own w0 (CwO p mb wv rows c * R) w) : Own w0 (CwP p c * R) w := by
  refine Own.ex_mk (mb, wv, rows) ?_
  rw [star_assoc]
  exact Own.pur_mk he h
theorem caReady_no {clk : List Int} {s : Sd} {i : Nat} (hi : i < 5) (h : caOk1 clk s i = false) : caReady clk s = false := by
  unfold caReady
  rw [List.all_eq_false]
  exact ⟨i, List.mem_range.2 hi, by rw [h]; simp⟩
theorem caReady_yes {clk : List Int} {s : Sd} (h : ∀ j, j < 5 → caOk1 clk s j = true) : caReady clk s = true := by
  unfold caReady
  rw [List.all_eq_true]
  exact fun j hj => h j (List.mem_range.1 hj)
set_option maxRecDepth 100000 in
set_option maxHeartbeats 4000000 in
theorem caReady_any {w0 w : World} {R : HProp} (p mb : Nat) (clk : List Int) (s : Sd) (cv : Value) (hs : s.clk.length = 5) (hb : ∀ i, i < 5 → 0 ≤ clk.getD i 0 ∧ clk.getD i 0 ≤ 1000000) (hF : ∀ w', Own w0 R w' → w'.cell? ⟨p, 1, none⟩ = some (.slice (some ⟨mb, 0, none⟩) 5 5) ∧ (∀ i, i < 5 → w'.cell? ⟨mb, i, none⟩ = some (.int .i64 (clk.getD i 0))) ∧ Ints w' cv s.clk) (h : Own w0 R w) :
    Calls Tryz.prog 102 #[.pointer (some ⟨p, 0, none⟩), .agg #[.int .i64 s.who, .int .i64 s.word, cv]] w fun e w' => e = .returned (.bool (caReady clk s)) ∧ Own w0 R w' := by
  obtain ⟨vad, vcap, hcv, hvc1, hvc2⟩ := (hF _ h).2.2.shape
  subst hcv
  obtain ⟨q, hq⟩ : ∃ q, q = s.who := ⟨_, rfl⟩
  rw [hs] at hvc1 hF ⊢
  rw [← hq]
  obtain ⟨b1, hb_b1⟩ : ∃ zz_, zz_ = (w).heap.size := ⟨_, rfl⟩
  obtain ⟨w1, hw_w1⟩ : ∃ zz_, zz_ = (w).alloc (.cells #[.int .i64 q, .int .i64 s.word, .slice vad 5 vcap] 59 (0, 0)) := ⟨_, rfl⟩
  have h_HO := (h).alloc (.cells #[.int .i64 q, .int .i64 s.word, .slice vad 5 vcap] 59 (0, 0))
  rw [← hb_b1, ← hw_w1] at h_HO
  have HO := Lib.hid h_HO
  clear h_HO
  have x0 := (HO.out.cell 0).trans rfl
  have x2 := (HO.out.cell 2).trans rfl
  obtain ⟨c1, hc, hvv⟩ := hF _ HO.out.drop
  have HVV := Lib.hid hvv
  clear hvv
  have H := Lib.hid h; have HF := Lib.hid hF; have HB := Lib.hid hb; have HC := Lib.hid hc; have HQ := Lib.hid hq; have HS := Lib.hid hs
  clear h hF hb hc hq hs
  go_enter Tryz.func102, Tryz.ntmps102
  go_upto_region 1 with fail
  rw [← hb_b1, ← hw_w1]
  clear hb_b1 hw_w1
  go_wp2_with fail
  go_loop [10] (fun iv => ∃ i : Nat, i ≤ 5 ∧ iv = .int .i64 i ∧ Hid (∀ j, j < i → caOk1 clk s j = true)) (fun iv => 5 - (intOf iv).toNat)
  case atStart => exact ⟨0, Nat.zero_le _, rfl, Lib.hid (fun j hj => absurd hj (by omega))⟩
  case round =>
    obtain ⟨i, hi, rfl, HJ⟩ := hrel
    by_cases hlt : i < 5
    rotate_left
    · have hall : caReady clk s = true := caReady_yes (fun j hj => HJ.out j (by omega))
      have HALL := Lib.hid hall
      clear hall
      go_wp2
      go_ret
      exact ⟨(show _ = Ending.returned (.bool true) from rfl).trans (by rw [HALL.out]), HO.out.drop⟩
    obtain ⟨aa, rfl, hca⟩ := HVV.out.at i (by rw [HS.out]; exact hlt)
    obtain ⟨z, hz⟩ : ∃ z, z = s.clk[i]'(by rw [HS.out]; exact hlt) := ⟨_, rfl⟩
    rw [← hz] at hca
    have hzg : s.clk.getD i 0 = z := by rw [hz, List.getD_eq_getElem?_getD, List.getElem?_eq_getElem (by rw [HS.out]; exact hlt)]; rfl
    have d := HC.out i hlt
    obtain ⟨y0, y1⟩ := HB.out i hlt
    obtain ⟨y, hy⟩ : ∃ y, y = clk.getD i 0 := ⟨_, rfl⟩
    rw [← hy] at d y0 y1
    have i0 : (0 : Int) ≤ (i : Int) := Int.natCast_nonneg i
    have i5 : (i : Int) < 5 := by omega
    obtain ⟨B, hB⟩ : ∃ B, B = caOk1 clk s i := ⟨_, rfl⟩
    have hB2 := hB
    unfold caOk1 at hB2
    rw [hzg, ← hy, ← HQ.out] at hB2
    by_cases hiq : (i : Int) = q
    · rw [if_pos hiq] at hB2
      have t1 : ((i : Int) == q) = true := by rw [beq_iff_eq]; exact hiq
      have t2 : ((i : Int) != q) = false := by rw [bne_eq_false_iff_eq]; exact hiq
      cases B
      · have t3 : (z != y + 1) = true := by rw [bne_iff_ne]; exact of_decide_eq_false hB2.symm
        have hno := caReady_no (s := s) (clk := clk) hlt hB.symm
        have HZ := Lib.hid hz; have HZG := Lib.hid hzg; have HY := Lib.hid hy; have HB := Lib.hid hB; have HB2 := Lib.hid hB2; have HIQ := Lib.hid hiq; have HNO := Lib.hid hno
        clear hz hzg hy hB hB2 hiq hno
        go_wp2
        go_ret
        exact ⟨(show _ = Ending.returned (.bool false) from rfl).trans (by rw [HNO.out]), HO.out.drop⟩
      · have t3 : (z != y + 1) = false := by rw [bne_eq_false_iff_eq]; exact of_decide_eq_true hB2.symm
        have hn : ∀ j, j < i + 1 → caOk1 clk s j = true := fun j hj => by
          rcases Nat.lt_succ_iff_lt_or_eq.1 hj with h | h
          · exact HJ.out j h
          · rw [h]; exact hB.symm
        have HZ := Lib.hid hz; have HZG := Lib.hid hzg; have HY := Lib.hid hy; have HB := Lib.hid hB; have HB2 := Lib.hid hB2; have HIQ := Lib.hid hiq; have HN := Lib.hid hn
        clear hz hzg hy hB hB2 hiq hn
        go_wp2
        go_round
        case rel => exact ⟨i + 1, by omega, by go_num, HN⟩
        case measure => simp [intOf]; omega
    · rw [if_neg hiq] at hB2
      have t1 : ((i : Int) == q) = false := by rw [beq_eq_false_iff_ne]; exact hiq
      have t2 : ((i : Int) != q) = true := by rw [bne_iff_ne]; exact hiq
      cases B
      · have t3 : decide (y < z) = true := by have := of_decide_eq_false hB2.symm; simp; omega
        have hno := caReady_no (s := s) (clk := clk) hlt hB.symm
        have HZ := Lib.hid hz; have HZG := Lib.hid hzg; have HY := Lib.hid hy; have HB := Lib.hid hB; have HB2 := Lib.hid hB2; have HIQ := Lib.hid hiq; have HNO := Lib.hid hno
        clear hz hzg hy hB hB2 hiq hno
        go_wp2
        go_ret
        exact ⟨(show _ = Ending.returned (.bool false) from rfl).trans (by rw [HNO.out]), HO.out.drop⟩
      · have t3 : decide (y < z) = false := by have := of_decide_eq_true hB2.symm; simp; omega
        have hn : ∀ j, j < i + 1 → caOk1 clk s j = true := fun j hj => by
          rcases Nat.lt_succ_iff_lt_or_eq.1 hj with h | h
          · exact HJ.out j h
          · rw [h]; exact hB.symm
        have HZ := Lib.hid hz; have HZG := Lib.hid hzg; have HY := Lib.hid hy; have HB := Lib.hid hB; have HB2 := Lib.hid hB2; have HIQ := Lib.hid hiq; have HN := Lib.hid hn
        clear hz hzg hy hB hB2 hiq hn
        go_wp2
        go_round
        case rel => exact ⟨i + 1, by omega, by go_num, HN⟩
        case measure => simp [intOf]; omega
end Go.Proofs.YtdfjbnfdknpahaaGreatDoor
/- Contracts of package cause, continued: the first word of a row of which something is so. -/
namespace Go.Proofs.YtdfjbnfdknpahaaGreatDoor
set_option linter.unusedVariables false
set_option linter.unusedSimpArgs false
open Go.RowKit
def sdV (r : SdR) : Value := .agg #[.int .i64 r.2.who, .int .i64 r.2.word, r.1]
/-- A row's words as every world shows them that owns R. -/
def SdAt (w0 : World) (R : HProp) (sb so : Nat) (rows : List SdR) : Prop := ∀ w', Own w0 R w' → ∀ (k : Nat) (h : k < rows.length), w'.cell? ⟨sb, so + k * 3, none⟩ = some (.int .i64 rows[k].2.who) ∧ w'.cell? ⟨sb, so + k * 3 + 1, none⟩ = some (.int .i64 rows[k].2.word) ∧ w'.cell? ⟨sb, so + k * 3 + 2, none⟩ = some rows[k].1
set_option maxRecDepth 100000 in
set_option maxHeartbeats 4000000 in
theorem sdIx_any {w0 w : World} {R : HProp} (fid : FuncId) (c : Value) (p : SdR → Bool) (sb so cap : Nat) (rows : List SdR) (h : Own w0 R w) (hc1 : rows.length ≤ cap) (hc2 : cap ≤ 9223372036854775807) (ha : SdAt w0 R sb so rows) (hcf : ∀ a w, Sem.run Tryz.prog (callFunc fid a) w = .ok (.enter fid a) w) (hf : ∀ k (_ : k < rows.length) w, Own w0 R w → Calls Tryz.prog fid #[c, sdV rows[k]] w fun e w' => e = .returned (.bool (p rows[k])) ∧ Own w0 R w') :
    Calls Tryz.prog 103 #[.slice (some ⟨sb, so, none⟩) rows.length cap, .func (.func fid) #[c] #[]] w fun e w' => e = .returned (.int .i64 (whereI p rows)) ∧ Own w0 R w' := by
  have H := Lib.hid h; have HA := Lib.hid ha; have HF := Lib.hid hf; have HCF := Lib.hid hcf
  clear h ha hf hcf
  go_enter Tryz.func103, Tryz.ntmps103
  go_wp2_with fail
  go_loopw [8] (fun i wr => ∃ k : Nat, k ≤ rows.length ∧ i = .int .i64 k ∧ Hid (Own w0 R wr) ∧ Hid (∀ j (_ : j < k) (h : j < rows.length), p rows[j] = false)) (fun i _ => rows.length - (intOf i).toNat)
  case atStart => exact ⟨0, Nat.zero_le _, rfl, H, Lib.hid (fun j h => by omega)⟩
  case round =>
    obtain ⟨k, hk, rfl, HO, hp⟩ := hrel
    by_cases hlt : k < rows.length
    rotate_left
    · have hm : whereI p rows = -1 := whereI_miss _ rows (fun j h => hp.out j (by omega) h)
      have HM := Lib.hid hm
      clear hm
      go_wp2
      go_ret
      exact ⟨by rw [HM.out]; rfl, HO.out⟩
    obtain ⟨x0, x1, x2⟩ := HA.out _ HO.out k hlt
    have hfk := HF.out k hlt
    obtain ⟨x, hx⟩ : ∃ x, x = rows[k] := ⟨_, rfl⟩
    rw [← hx] at x0 x1 x2 hfk
    unfold sdV at hfk
    cases hs : p x
    · have hn : ∀ j (_ : j < k + 1) (h : j < rows.length), p rows[j] = false := fun j h1 h2 => by
        by_cases e : j = k
        · subst e; rw [← hx]; exact hs
        · exact hp.out j (by omega) h2
      have HFK := Lib.hid hfk
      clear hfk
      have HN := Lib.hid hn; have HX := Lib.hid hx
      clear hn hx
      go_wp2_with fail
      rw [HCF.out]
      go_wp2_with fail
      refine (HFK.out _ HO.out).mono ?_
      rintro e w' ⟨rfl, ho⟩
      rw [hs]
      have HO2 := Lib.hid ho
      clear ho x0 x1 x2
      go_wp2
      go_round
      case rel => exact ⟨k + 1, by omega, by go_num, HO2, HN⟩
      case measure => simp [intOf]; omega
    · have hm : whereI p rows = k := whereI_hit _ rows k hlt (fun j h => hp.out j h (by omega)) (by rw [← hx]; exact hs)
      have HFK := Lib.hid hfk
      clear hfk
      have HM := Lib.hid hm; have HX := Lib.hid hx
      clear hm hx
      go_wp2_with fail
      rw [HCF.out]
      go_wp2_with fail
      refine (HFK.out _ HO.out).mono ?_
      rintro e w' ⟨rfl, ho⟩
      rw [hs]
      have HO2 := Lib.hid ho
      clear ho x0 x1 x2
      go_wp2
      go_ret
      exact ⟨by rw [HM.out]; rfl, HO2.out⟩
set_option maxRecDepth 100000 in
set_option maxHeartbeats 4000000 in
theorem sdIxC_any {w0 w : World} {R : HProp} (fid : FuncId) (c1 c2 : Value) (p : SdR → Bool) (sb so cap : Nat) (rows : List SdR) (h : Own w0 R w) (hc1 : rows.length ≤ cap) (hc2 : cap ≤ 9223372036854775807) (ha : SdAt w0 R sb so rows) (hcf : ∀ a w, Sem.run Tryz.prog (callFunc fid a) w = .ok (.enter fid a) w) (hf : ∀ k (_ : k < rows.length) w, Own w0 R w → Calls Tryz.prog fid #[sdV rows[k], c1, c2] w fun e w' => e = .returned (.bool (p rows[k])) ∧ Own w0 R w') :
    Calls Tryz.prog 103 #[.slice (some ⟨sb, so, none⟩) rows.length cap, .func (.func fid) #[] #[c1, c2]] w fun e w' => e = .returned (.int .i64 (whereI p rows)) ∧ Own w0 R w' := by
  have H := Lib.hid h; have HA := Lib.hid ha; have HF := Lib.hid hf; have HCF := Lib.hid hcf
  clear h ha hf hcf
  go_enter Tryz.func103, Tryz.ntmps103
  go_wp2_with fail
  go_loopw [8] (fun i wr => ∃ k : Nat, k ≤ rows.length ∧ i = .int .i64 k ∧ Hid (Own w0 R wr) ∧ Hid (∀ j (_ : j < k) (h : j < rows.length), p rows[j] = false)) (fun i _ => rows.length - (intOf i).toNat)
  case atStart => exact ⟨0, Nat.zero_le _, rfl, H, Lib.hid (fun j h => by omega)⟩
  case round =>
    obtain ⟨k, hk, rfl, HO, hp⟩ := hrel
    by_cases hlt : k < rows.length
    rotate_left
    · have hm : whereI p rows = -1 := whereI_miss _ rows (fun j h => hp.out j (by omega) h)
      have HM := Lib.hid hm
      clear hm
      go_wp2
      go_ret
      exact ⟨by rw [HM.out]; rfl, HO.out⟩
    obtain ⟨x0, x1, x2⟩ := HA.out _ HO.out k hlt
    have hfk := HF.out k hlt
    obtain ⟨x, hx⟩ : ∃ x, x = rows[k] := ⟨_, rfl⟩
    rw [← hx] at x0 x1 x2 hfk
    unfold sdV at hfk
    cases hs : p x
    · have hn : ∀ j (_ : j < k + 1) (h : j < rows.length), p rows[j] = false := fun j h1 h2 => by
        by_cases e : j = k
        · subst e; rw [← hx]; exact hs
        · exact hp.out j (by omega) h2
      have HFK := Lib.hid hfk
      clear hfk
      have HN := Lib.hid hn; have HX := Lib.hid hx
      clear hn hx
      go_wp2_with fail
      rw [HCF.out]
      go_wp2_with fail
      refine (HFK.out _ HO.out).mono ?_
      rintro e w' ⟨rfl, ho⟩
      rw [hs]
      have HO2 := Lib.hid ho
      clear ho x0 x1 x2
      go_wp2
      go_round
      case rel => exact ⟨k + 1, by omega, by go_num, HO2, HN⟩
      case measure => simp [intOf]; omega
    · have hm : whereI p rows = k := whereI_hit _ rows k hlt (fun j h => hp.out j h (by omega)) (by rw [← hx]; exact hs)
      have HFK := Lib.hid hfk
      clear hfk
      have HM := Lib.hid hm; have HX := Lib.hid hx
      clear hm hx
      go_wp2_with fail
      rw [HCF.out]
      go_wp2_with fail
      refine (HFK.out _ HO.out).mono ?_
      rintro e w' ⟨rfl, ho⟩
      rw [hs]
      have HO2 := Lib.hid ho
      clear ho x0 x1 x2
      go_wp2
      go_ret
      exact ⟨by rw [HM.out]; rfl, HO2.out⟩
set_option maxRecDepth 100000 in
set_option maxHeartbeats 4000000 in
theorem sdHas_any {w0 w : World} {R : HProp} (fid : FuncId) (c1 c2 : Value) (p : SdR → Bool) (sb so cap : Nat) (rows : List SdR) (h : Own w0 R w) (hc1 : rows.length ≤ cap) (hc2 : cap ≤ 9223372036854775807) (ha : SdAt w0 R sb so rows) (hcf : ∀ a w, Sem.run Tryz.prog (callFunc fid a) w = .ok (.enter fid a) w) (hf : ∀ k (_ : k < rows.length) w, Own w0 R w → Calls Tryz.prog fid #[sdV rows[k], c1, c2] w fun e w' => e = .returned (.bool (p rows[k])) ∧ Own w0 R w') :
    Calls Tryz.prog 119 #[.slice (some ⟨sb, so, none⟩) rows.length cap, .func (.func fid) #[] #[c1, c2]] w fun e w' => e = .returned (.bool (rows.any p)) ∧ Own w0 R w' := by
  have hd : decide ((0 : Int) ≤ whereI p rows) = rows.any p := by rw [Bool.eq_iff_iff]; simpa using whereI_any p rows
  have H := Lib.hid h; have HA := Lib.hid ha; have HF := Lib.hid hf; have HD := Lib.hid hd; have HCF := Lib.hid hcf
  clear h ha hf hd hcf
  go_enter Tryz.func119, Tryz.ntmps119
  go_wp2_with fail
  refine (sdIxC_any fid c1 c2 p sb so cap rows H.out hc1 hc2 HA.out HCF.out HF.out).mono ?_
  rintro e w' ⟨rfl, ho⟩
  have HO2 := Lib.hid ho
  clear ho
  go_wp2
  go_ret
  exact ⟨by rw [← HD.out]; rfl, HO2.out⟩
end Go.Proofs.YtdfjbnfdknpahaaGreatDoor
