/- A range over a function whose body never leaves: what is owned goes through the rounds. -/
import Derived.Test.YtdfjbnfdknpahaaGreatDoorMRunCausal0
import Derived.RangeFuncKeeps
import Derived.RangeFuncLeaves
import Derived.RangeFuncCalls
import Derived.RangeFuncBound
import Derived.Test.YtdfjbnfdknpahaaGreatDoorMRunCausal24
import Derived.Test.YtdfjbnfdknpahaaGreatDoorMRunCausal16
import Derived.Test.YtdfjbnfdknpahaaGreatDoorMRunCausal9
import Derived.OwnWalkIn
import Derived.TacticsInMore
import Derived.OrdersIn
import Derived.TacticsIn
import Derived.Test.YtdfjbnfdknpahaaGreatDoorMRunCausal28
import Derived.Test.YtdfjbnfdknpahaaGreatDoorMRunCausal29
import Derived.Test.YtdfjbnfdknpahaaGreatDoorMRunCausal5
namespace Go.Proofs.YtdfjbnfdknpahaaGreatDoor
set_option linter.unusedVariables false
set_option linter.unusedSimpArgs false
open Go.RowKit

def rgPost (w0 : World) (H : HProp) : Exit → Act → World → Prop
  | .normal, _, W' => Own w0 H W'
  | _, _, _ => False

theorem Own.putObj {w0 w : World} {b : Nat} {o o' : Obj} {R : HProp} (h : Own w0 (blk b o * R) w) : Own w0 (blk b o' * R) (w.putObj b o') :=
  h.set rfl rfl rfl (by simp) (fun k _ hk => World.putObj_heap_other hk) (World.putObj_heap_same h.lt)

/-- The law: `Z` is what the iterator owns ahead of the loop, `Ze` behind it; `I pre` is what the body owns when `pre` has come. -/
theorem wp_rangeOwn {α : Type} {P : Program} {g : Operand} {ps : Array Tmp} {assign body : Code} {Q : Exit → Act → World → Prop} {a : Act} {w w0 : World}
    {gf : Nat} {lb : Array Value} (hg : a.eval g = .func (.func gf) #[] lb) (eg : ∀ args w, (callFunc gf args).run P w = .ok (.enter gf args) w)
    (enc : α → Value) (Z Ze : HProp) (I : List α → HProp) (xs : List α) (h0 : Own w0 (Z * I []) w) (hps : ps.size = 1)
    (hseq : ∀ (l : Nat) (J : List α → HProp) (W : World),
      (∀ (U : HProp) (pre : List α) (x : α) (W1 : World), pre ++ [x] <+: xs → Own w0 (U * J pre) W1 → YieldAt Fence.wide 7 P l #[enc x] W1 fun e W' => e = .returned (.bool true) ∧ Own w0 (U * J (pre ++ [x])) W') →
      Own w0 (Z * J []) W → CallsIn Fence.wide 8 P gf (#[.func (.yield l) #[] #[]] ++ lb) W fun e W' => (∃ v, e = .returned v) ∧ Own w0 (Ze * J xs) W')
    (a₁ : α → Act)
    (hassign : ∀ (l : Nat) (x : α) (W : World) (K : Act → World → Prop), K (a₁ x) W →
      assign.wpIn (Fence.wide.inRound l) 7 P (Exit.then K (fun _ _ _ => False)) { tmps := (ps.zip #[enc x]).foldl (fun t (p, v) => t.setIfInBounds p v) a.tmps, defers := [] } W)
    (hbody : ∀ (l : Nat) (U : HProp) (pre : List α) (x : α) (W : World), pre ++ [x] <+: xs → Own w0 (U * I pre) W → body.wpIn (Fence.wide.inRound l) 7 P (rgPost w0 (U * I (pre ++ [x]))) (a₁ x) W)
    (hdone : ∀ (D : Nat) (W : World), Own w0 (blk D (.deferred (some [])) * (Ze * I xs)) W → Q .normal { a with defers := { target := .collected D, args := #[] } :: a.defers } W) :
    (Code.rangeFunc g ps assign body).wp P Q a w := by
  refine (wpIn_wide (n := 9)).1 ?_
  refine wpIn_rangeFunc ?_
  intro fn hfn
  rw [show Fence.wide.round = none from rfl]
  obtain ⟨rec, hrec⟩ : ∃ rec : LoopState → Option Code → Loop, rec = fun st pe => { state := st, pending := pe, fn, tmps := a.tmps, params := ps, assign, body, defers := w.heap.size } := ⟨_, rfl⟩
  obtain ⟨W1, hW1⟩ : ∃ W1, (w.alloc (.deferred (some []))).alloc (.loop (rec .ready none)) = W1 := ⟨_, rfl⟩
  obtain ⟨D, hD⟩ : ∃ D, w.heap.size = D := ⟨_, rfl⟩
  have hO1 : Own w0 (Z * (blk (D + 1) (.loop (rec .ready none)) * (blk D (.deferred (some [])) * I []))) W1 := by
    rw [← hW1, ← hD]
    have := (h0.alloc (.deferred (some []))).alloc (.loop (rec .ready none))
    rw [World.size_alloc] at this
    exact this.perm (by ac_rfl)
  refine ⟨w.heap.size + 1, [{ target := .collected w.heap.size, args := #[] }], W1, { target := .fn (.func gf) lb, args := #[.func (.yield (w.heap.size + 1)) #[] #[]] }, W1, gf,
    #[.func (.yield (w.heap.size + 1)) #[] #[]] ++ lb, W1, ?_, ?_, ?_, ?_, fun _ => by decide, ?_⟩
  · rw [← hW1, hrec]; exact run_enterLoop_outer _ _ _ _ _
  · simp only [resolve, hg]
    simp [go_sem]
  · intro f' _; trivial
  · simp [invoke, go_sem, eg]
  · rw [hD]
    refine (hseq (D + 1) (fun pre => blk (D + 1) (.loop (rec .ready none)) * (blk D (.deferred (some [])) * I pre)) W1 ?_ hO1).mono ?_
    · intro U pre x W hpre hO
      have hO' : Own w0 (blk (D + 1) (.loop (rec .ready none)) * (U * (blk D (.deferred (some [])) * I pre))) W := hO.perm (by ac_rfl)
      have hl := hO'.blk_at.1
      have hy := run_yield (P := P) (args := #[enc x]) hl (by rw [hrec]; exact hps.symm)
      rw [hrec] at hy
      refine ⟨fn, _, assign, body, hy, roundIn_of_wpIn hfn (hassign _ x W _ ⟨_, run_beginRound hl (by rw [hrec]), ?_⟩)⟩
      have hO2 := hO'.putObj (o' := .loop { rec .ready none with state := .busy })
      refine wpIn_mono (hbody (D + 1) (blk (D + 1) (.loop { rec .ready none with state := .busy }) * (U * blk D (.deferred (some [])))) pre x _ hpre (hO2.perm (by ac_rfl))) ?_
      rintro e a3 W3 hp
      cases e with
      | normal =>
        have hO3 : Own w0 (blk (D + 1) (.loop { rec .ready none with state := .busy }) * (U * (blk D (.deferred (some [])) * I (pre ++ [x])))) W3 := Own.perm hp (by ac_rfl)
        have hl3 := hO3.blk_at.1
        have hr := run_endRound (P := P) none hl3
        have hO4 := hO3.putObj (o' := .loop (rec .ready none))
        rw [hrec] at hr hO4
        exact ⟨_, _, hr, rfl, by rw [hrec]; exact hO4.perm (by ac_rfl)⟩
      | ret => exact hp.elim
      | exit id => exact hp.elim
      | goto t => exact hp.elim
      | panic ch => exact hp.elim
      | outgrown => exact hp.elim
    · rintro e W2 ⟨⟨v, rfl⟩, hO⟩
      have hO' : Own w0 (blk (D + 1) (.loop (rec .ready none)) * (blk D (.deferred (some [])) * (Ze * I xs))) W2 := hO.perm (by ac_rfl)
      have hl := hO'.blk_at.1
      have hr := run_endLoop (P := P) hl (by rw [hrec]; simp)
      rw [hrec] at hr
      exact ⟨none, _, hr, by rw [hD]; exact hdone D _ (hO'.putObj.drop)⟩
end Go.Proofs.YtdfjbnfdknpahaaGreatDoor
/- strings.Lines: its iterator. -/
namespace Go.Proofs.YtdfjbnfdknpahaaGreatDoor
set_option linter.unusedVariables false
set_option linter.unusedSimpArgs false
open Go.RowKit
attribute [local go_sem] Oper.semAt_some
abbrev TbO (b : Nat) (t : List UInt8) : HProp := blk b (.cells #[.string (tx t)] 9 (0, 0))
def leftT (b : Nat) (w : World) : Nat := match w.cell? ⟨b, 0, none⟩ with
  | some (.string s) => s.size
  | _ => 0
theorem Own.tb {w0 w : World} {b : Nat} {t : List UInt8} {R : HProp} (h : Own w0 (TbO b t * R) w) : w.cell? ⟨b, 0, none⟩ = some (.string (tx t)) := (h.cell 0).trans rfl
theorem leftT_own {w0 w : World} {b : Nat} {t : List UInt8} {R : HProp} (h : Own w0 (TbO b t * R) w) : leftT b w = t.length := by
  unfold leftT; rw [h.tb]; exact tx_size t
set_option maxHeartbeats 4000000 in
set_option maxRecDepth 1000000 in
theorem lines_any {w0 w : World} (l b : Nat) (J : List (List UInt8) → HProp) (t : List UInt8) (ht : t.length ≤ 90000)
    (hY : ∀ (U : HProp) (pre : List (List UInt8)) (x : List UInt8) (W1 : World), pre ++ [x] <+: rawL t → Own w0 (U * J pre) W1 → YieldAt Fence.wide 7 Tryz.prog l #[.string (tx x)] W1 fun e W' => e = .returned (.bool true) ∧ Own w0 (U * J (pre ++ [x])) W')
    (h : Own w0 (TbO b t * J []) w) : Calls Tryz.prog 34 #[.func (.yield l) #[] #[], .pointer (some ⟨b, 0, none⟩)] w fun e w' => (∃ v, e = .returned v) ∧ Own w0 (TbO b [] * J (rawL t)) w' := by
  have H := Lib.hid h; have HY := Lib.hid hY
  clear h hY
  go_enter Tryz.func34, Tryz.ntmps34
  go_wp2_with fail
  go_loopw [] (fun wr => ∃ (pre : List (List UInt8)) (rest : List UInt8), rest.length ≤ 90000 ∧ Hid (rawL t = pre ++ rawL rest) ∧ Hid (Own w0 (TbO b rest * J pre) wr)) (fun wr => leftT b wr)
  case atStart => exact ⟨[], t, ht, Lib.hid rfl, H⟩
  case round =>
    clear H
    obtain ⟨pre, rest, hrl, HR, HO⟩ := hrel
    have c0 := HO.out.tb
    have hlt := leftT_own HO.out
    have hln : ∀ (ty : TypeId) (w : World), (Builtin.len_ #[9] ty #[.string (tx rest)]).run Tryz.prog w = .ok (.int .i64 (rest.length : Int)) w := fun ty w => by
      rw [run_len_string w _ _ _ Tryz.underlying9, tx_size]; rfl
    have hix : ∀ w, Calls Tryz.prog 35 #[.string (tx rest), .int .u8 10] w fun e w' => e = .returned (.int .i64 (Lib.indexByte rest 10)) ∧ w = w' := fun w => by
      have h1 := ixb_any (w := w) (tx rest) 10
      rw [tx_list] at h1
      exact h1
    obtain ⟨T, hT⟩ : ∃ T, T = tx rest := ⟨_, rfl⟩
    obtain ⟨n, hn⟩ : ∃ n, n = rest.length := ⟨_, rfl⟩
    by_cases h0 : rest = []
    · subst h0
      rw [show tx ([] : List UInt8) = ⟨#[]⟩ from rfl] at c0
      have hO := HO.out
      rw [show pre = rawL t by rw [HR.out]; simp [rawL]] at hO
      have HO_ := Lib.hid hO
      clear hO
      have HIX := Lib.hid hix; have HT := Lib.hid hT; have HN := Lib.hid hn; have HLT := Lib.hid hlt
      clear hix hT hn hlt
      clear hln
      go_wp2_with fail
      go_end0
      exact ⟨⟨_, rfl⟩, HO_.out⟩
    · have hpos : 0 < n := by rw [hn]; cases rest with
        | nil => exact absurd rfl h0
        | cons x r => simp
      rw [← hT] at c0 hln hix
      rw [← hn] at hln
      have hfz := HO.out.free 0 none
      rcases ixb_cases 10 rest with ⟨e1, e2⟩ | ⟨m, e1, e2, e3, e4⟩
      · have hraw : rawL rest = [rest] := rawL_last rest e2 h0
        rw [e1] at hix
        have hpre : pre ++ [rest] <+: rawL t := by rw [HR.out, hraw]; exact List.prefix_rfl
        have ho2 : Own w0 (TbO b [] * J pre) (wr.setCell ⟨b, 0, none⟩ (.string ⟨#[]⟩)) := HO.out.setCell (i := 0) (v := .string ⟨#[]⟩)
        obtain ⟨w2, hw2⟩ : ∃ w2, w2 = wr.setCell ⟨b, 0, none⟩ (.string ⟨#[]⟩) := ⟨_, rfl⟩
        rw [← hw2] at ho2
        obtain ⟨fn, tmps, assign, body, hy, hR⟩ := HY.out (TbO b []) pre rest w2 hpre ho2
        simp only [← hT] at hy hR
        have hend : rawL t = (pre ++ [rest]) ++ rawL [] := by rw [HR.out, hraw]; simp [rawL]
        have hlt2 : leftT b wr = n := by rw [hlt, hn]
        have HIX := Lib.hid hix; have HT := Lib.hid hT; have HN := Lib.hid hn; have HLT := Lib.hid hlt; have E1 := Lib.hid e1; have E2 := Lib.hid e2; have H0 := Lib.hid h0; have HRAW := Lib.hid hraw; have HPRE := Lib.hid hpre; have HO2 := Lib.hid ho2; have HEND := Lib.hid hend; have HLT2 := Lib.hid hlt2
        clear hix hT hn hlt e1 e2 h0 hraw hpre ho2 hend hlt2
        have HR_ := Lib.hid hR
        clear hR
        go_wp2_with fail
        refine (HIX.out _).mono ?_
        rintro e w3 ⟨rfl, rfl⟩
        go_upto_region 6 with fail
        rw [← hw2]
        clear hw2 c0 hfz
        refine (wpIn_wide (n := 8)).1 ?_
        gi_wp2
        refine HR_.out.mono ?_
        rintro e W3 ⟨rfl, ho3⟩
        have HO3 := Lib.hid ho3
        clear ho3
        gi_wp2
        go_wp2_with fail
        go_roundw
        case rel => exact ⟨pre ++ [rest], [], by simp, HEND, HO3⟩
        case measure => rw [leftT_own HO3.out, HLT2.out]; exact hpos
      · have hm1 : m + 1 ≤ n := by rw [hn]; omega
        have hx : rest.take (m + 1) = rest.take m ++ [10] := by
          rw [List.take_add_one, e4]; rfl
        have hrs : rest = rest.take m ++ 10 :: rest.drop (m + 1) := by
          conv => lhs; rw [← List.take_append_drop (m + 1) rest]
          rw [hx]; simp
        have hraw : rawL rest = rest.take (m + 1) :: rawL (rest.drop (m + 1)) := by
          rw [hx]
          exact (congrArg rawL hrs).trans (rawL_seg _ _ e3)
        obtain ⟨x, hxx⟩ : ∃ x, x = rest.take (m + 1) := ⟨_, rfl⟩
        obtain ⟨r2, hr2⟩ : ∃ r2, r2 = rest.drop (m + 1) := ⟨_, rfl⟩
        have hl2 : r2.length + (m + 1) = n := by rw [hr2, List.length_drop, hn]; omega
        have hs1 : ∀ w, (Instr.slice 9 (.string T) none (some (.int .i64 ((m : Int) + 1))) none).run Tryz.prog w = .ok (.string (tx x)) w := fun w => by
          have hsz : T.size = n := by rw [hT, tx_size, hn]
          rw [run_slice_string_h w 9 T Tryz.underlying9 .i64 _ (by omega) (by omega), show ((m : Int) + 1).toNat = m + 1 by omega, hT, tx_extract, hxx]
          rfl
        have hs2 : ∀ w, (Instr.slice 9 (.string T) (some (.int .i64 ((m : Int) + 1))) none none).run Tryz.prog w = .ok (.string (tx r2)) w := fun w => by
          have hsz : T.size = n := by rw [hT, tx_size, hn]
          rw [run_slice_string_l w 9 T Tryz.underlying9 .i64 _ (by omega) (by omega), show ((m : Int) + 1).toNat = m + 1 by omega, hT, tx_extract, tx_size, List.take_of_length_le (by rw [List.length_drop]; exact Nat.le_refl _), hr2]
        rw [e1] at hix
        rw [← hxx, ← hr2] at hraw
        have hpre : pre ++ [x] <+: rawL t := by
          rw [HR.out, hraw, show pre ++ x :: rawL r2 = (pre ++ [x]) ++ rawL r2 by simp]
          exact List.prefix_append _ _
        have ho2 : Own w0 (TbO b r2 * J pre) ((wr.setCell ⟨b, 0, none⟩ (.string (tx r2))).drew) := (HO.out.setCell (i := 0) (v := .string (tx r2))).drew
        obtain ⟨w2, hw2⟩ : ∃ w2, w2 = (wr.setCell ⟨b, 0, none⟩ (.string (tx r2))).drew := ⟨_, rfl⟩
        rw [← hw2] at ho2
        obtain ⟨fn, tmps, assign, body, hy, hR⟩ := HY.out (TbO b r2) pre x w2 hpre ho2
        obtain ⟨X, hX⟩ : ∃ X, X = tx x := ⟨_, rfl⟩
        obtain ⟨X2, hX2⟩ : ∃ X2, X2 = tx r2 := ⟨_, rfl⟩
        simp only [← hX] at hy hR hs1
        rw [← hX2] at hs2 hw2
        have hend : rawL t = (pre ++ [x]) ++ rawL r2 := by rw [HR.out, hraw]; simp
        have hlt2 : leftT b wr = n := by rw [hlt, hn]
        have hrl2 : r2.length ≤ 90000 := by omega
        have hwr : IntKind.i64.wrap ((m : Int) + 1) = (m : Int) + 1 := IntWalk.i64_in _ (by omega)
        have HIX := Lib.hid hix; have HT := Lib.hid hT; have HN := Lib.hid hn; have HLT := Lib.hid hlt; have E1 := Lib.hid e1; have E2 := Lib.hid e2; have E3 := Lib.hid e3; have E4 := Lib.hid e4; have H0 := Lib.hid h0; have HRAW := Lib.hid hraw; have HPRE := Lib.hid hpre; have HO2 := Lib.hid ho2; have HEND := Lib.hid hend; have HLT2 := Lib.hid hlt2; have HX := Lib.hid hX; have HX2 := Lib.hid hX2; have HX := Lib.hid hx; have HRS := Lib.hid hrs; have HXX := Lib.hid hxx; have HR2 := Lib.hid hr2; have HS1 := Lib.hid hs1; have HS2 := Lib.hid hs2
        clear hix hT hn hlt e1 e2 e3 e4 h0 hraw hpre ho2 hend hlt2 hX hX2 hx hrs hxx hr2 hs1 hs2
        have HR_ := Lib.hid hR
        clear hR
        go_wp2_with fail
        refine (HIX.out _).mono ?_
        rintro e w3 ⟨rfl, rfl⟩
        have hs1 := HS1.out
        have hs2 := HS2.out
        have hq1 : ∀ w, (Instr.sliceAt 9 (.string T) none (some (.int .i64 ((m : Int) + 1))) none).run Tryz.prog w = .ok (.string X) w := fun w => by simp [Instr.sliceAt, hs1]
        have hq2 : ∀ w, (Instr.sliceAt 9 (.string T) (some (.int .i64 ((m : Int) + 1))) none none).run Tryz.prog w = .ok (.string X2) w := fun w => by simp [Instr.sliceAt, hs2]
        go_upto_region 4 with fail
        refine wp_region_planH 9 [] [(true, 0), (true, 1), (true, 2), (true, 3), (true, 4), (true, 5), (true, 6), (true, 7), (false, 8)] [9] (fun wS => wS.cell? ⟨b, 0, none⟩ = some (.string T)) (by kernel_rfl) (by kernel_rfl) (c0) ?_
        simp only [pickH, pick, List.getElem?_cons_succ, List.getElem?_cons_zero, Option.toList, Option.map_some, List.cons_append, List.nil_append]
        repeat (refine wpPure_step ?_ rfl ?_ ?_; rotate_left; (focus (intro _; first | with_reducible rfl | (go_simp; done) | (go_simp; with_reducible rfl) | rfl)); go_simp)
        refine wpPure_nil ?_
        repeat (refine wpMix_read ?_ rfl ?_ ?_; rotate_left; (focus (intro _ hS; obtain s1 := hS; first | with_reducible rfl | (go_simp; done) | (go_simp; with_reducible rfl) | rfl)); go_simp)
        refine wpMix_write (fun K hK => ?_)
        go_simp
        refine hK _ _ ⟨c0, ?_⟩
        clear hK K
        go_simp
        refine wpMix_nil ?_
        go_wp2_with fail
        refine NoPanic.normal ?_
        clear hs1 hs2 hq1 hq2 hwr
        go_upto_region 6 with fail
        rw [← hw2]
        clear hw2 c0 hfz
        refine (wpIn_wide (n := 8)).1 ?_
        gi_wp2
        refine HR_.out.mono ?_
        rintro e W3 ⟨rfl, ho3⟩
        have HO3 := Lib.hid ho3
        clear ho3
        gi_wp2
        go_wp2_with fail
        go_roundw
        case rel => exact ⟨pre ++ [x], r2, hrl2, HEND, HO3⟩
        case measure => rw [leftT_own HO3.out, HLT2.out]; omega
end Go.Proofs.YtdfjbnfdknpahaaGreatDoor
/- A drawn region inside a round: all its orders, one behind the other. -/
namespace Go.Proofs.YtdfjbnfdknpahaaGreatDoor
set_option linter.unusedVariables false
set_option linter.unusedSimpArgs false
open Go.RowKit
/-- All orders in which the operations that are not yet listed may come. -/
def allGo (m : Region.Mode) (ops : Array Oper) : Nat → Array Bool → List (List Nat)
  | 0, _ => [[]]
  | fuel + 1, listed => if Region.ready m ops listed = [] then [[]] else (Region.ready m ops listed).flatMap fun i => (allGo m ops fuel (listed.setIfInBounds i true)).map (i :: ·)
theorem go_mem {m : Region.Mode} {ops : Array Oper} : ∀ (fuel t : Nat) (listed : Array Bool) (acc : List Nat), ∃ L ∈ allGo m ops fuel listed, Region.linearise.go m ops fuel t listed acc = acc.reverse ++ L
  | 0, t, listed, acc => ⟨[], by simp [allGo], by simp [Region.linearise.go]⟩
  | fuel + 1, t, listed, acc => by
    simp only [Region.linearise.go]
    change ∃ L ∈ allGo m ops (fuel + 1) listed, (match (Region.ready m ops listed)[t % (Region.ready m ops listed).length]? with
      | some i => Region.linearise.go m ops fuel (t / (Region.ready m ops listed).length) (listed.setIfInBounds i true) (i :: acc)
      | none => acc.reverse) = acc.reverse ++ L
    cases hi : (Region.ready m ops listed)[t % (Region.ready m ops listed).length]? with
    | none =>
      have hnil : Region.ready m ops listed = [] := by
        cases hr : Region.ready m ops listed with
        | nil => rfl
        | cons x xs =>
          rw [hr] at hi
          have hlt : t % (x :: xs).length < (x :: xs).length := Nat.mod_lt _ (by simp)
          rw [List.getElem?_eq_getElem hlt] at hi
          cases hi
      refine ⟨[], ?_, by simp⟩
      unfold allGo
      rw [if_pos hnil]
      exact List.mem_singleton.2 rfl
    | some i =>
      have hmem : i ∈ Region.ready m ops listed := List.mem_of_getElem? hi
      have hne : Region.ready m ops listed ≠ [] := fun h => by rw [h] at hmem; cases hmem
      obtain ⟨L, hL, he⟩ := go_mem fuel (t / (Region.ready m ops listed).length) (listed.setIfInBounds i true) (i :: acc)
      refine ⟨i :: L, ?_, ?_⟩
      · unfold allGo
        rw [if_neg hne]
        exact List.mem_flatMap.2 ⟨i, hmem, List.mem_map.2 ⟨L, hL, rfl⟩⟩
      · show Region.linearise.go m ops fuel _ _ _ = _
        rw [he]; simp
theorem ops_pick {F : Fence} {n : Nat} {P : Program} {ops : Array Oper} {Q : Exit → Act → World → Prop} : ∀ (L : List Nat) (a : Act) (w : World), wpListIn F n P ops Q (L.filterMap fun i => ops[i]?) a w → wpOpsIn F n P ops Q L a w
  | [], a, w, h => h
  | i :: L, a, w, h => by
    rw [wpOpsIn]
    cases ho : ops[i]? with
    | none =>
      rw [List.filterMap_cons_none ho] at h
      exact ops_pick L a w h
    | some o =>
      rw [List.filterMap_cons_some ho] at h
      show if Region.wanted o (yielded ops a.tmps) then o.wpIn F n P a w (wpOpsIn F n P ops Q L) Q else (∀ f, o.about P w a.eval = some f → F.fn f) ∧ wpOpsIn F n P ops Q L (a.put o.dst undef) w
      unfold wpListIn at h
      split
      · rename_i hw
        rw [if_pos hw] at h
        exact Oper.wpIn_mono (fun a w => ops_pick L a w) h
      · rename_i hw
        rw [if_neg hw] at h
        exact ⟨h.1, ops_pick L _ _ h.2⟩
theorem wpIn_region_all {F : Fence} {n : Nat} {P : Program} {id : Nat} {Q : Exit → Act → World → Prop} {a : Act} {w : World} {l : List Oper} (Ls : List (List Nat)) (hm : P.follows .mixedOrders = true)
    (hA : allGo .any l.toArray l.length (Array.replicate l.length false) = Ls) (h : ∀ L ∈ Ls, wpListIn F n P l.toArray Q (L.filterMap fun i => l[i]?) a w.drew) : (Code.region id l.toArray true).wpIn F n P Q a w := by
  refine wpIn_region_draw fun t => ?_
  simp only [Region.schedule, hm, Bool.true_or, if_true]
  obtain ⟨L, hL, he⟩ := go_mem (m := .any) (ops := l.toArray) l.length t (Array.replicate l.length false) []
  rw [hA] at hL
  have h2 := ops_pick (F := F) (n := n) (P := P) (ops := l.toArray) (Q := Q) L a w.drew (by simpa using h L hL)
  show wpOpsIn F n P l.toArray Q (Region.linearise.go .any l.toArray l.toArray.size t (Array.replicate l.toArray.size false) []) a w.drew
  rw [List.size_toArray, he]
  exact h2
end Go.Proofs.YtdfjbnfdknpahaaGreatDoor
/- run.Run: the answers to a text. -/
namespace Go.Proofs.YtdfjbnfdknpahaaGreatDoor
set_option linter.unusedVariables false
set_option linter.unusedSimpArgs false
open Go.RowKit
attribute [local go_sem] Oper.semAt_some
set_option maxRecDepth 100000 in
set_option maxHeartbeats 4000000 in
theorem linesF_any {w0 w : World} {R : HProp} (t : List UInt8) (h : Own w0 R w) :
    Calls Tryz.prog 12 #[.string (tx t)] w fun e w' => ∃ b, e = .returned (.func (.func 34) #[] #[.pointer (some ⟨b, 0, none⟩)]) ∧ Own w0 (TbO b t * R) w' := by
  obtain ⟨S, hS⟩ : ∃ S, S = tx t := ⟨_, rfl⟩
  rw [← hS]
  obtain ⟨b1, hb_b1⟩ : ∃ zz_, zz_ = (w).heap.size := ⟨_, rfl⟩
  obtain ⟨w1, hw_w1⟩ : ∃ zz_, zz_ = (w).alloc (.cells #[.string S] 9 (0, 0)) := ⟨_, rfl⟩
  have h_H1 := (h).alloc (.cells #[.string S] 9 (0, 0))
  rw [← hb_b1, ← hw_w1] at h_H1
  have H1 := Lib.hid h_H1
  clear h_H1
  have H := Lib.hid h; have HS := Lib.hid hS
  clear h hS
  go_enter Tryz.func12, Tryz.ntmps12
  go_upto_region 1 with fail
  rw [← hb_b1, ← hw_w1]
  clear hb_b1 hw_w1
  go_wp2_with fail
  go_ret
  exact ⟨b1, rfl, by rw [HS.out] at H1; exact H1.out⟩
set_option maxHeartbeats 4000000 in
set_option maxRecDepth 1000000 in
theorem run_any {w : World} (hW : RunW w) (t : List UInt8) : Calls Tryz.prog 6 #[.string (tx t)] w fun e w' => e = .returned (.string (tx (runB t))) ∧ Below w.heap.size w w' := by
  have hln : ∀ (ty : TypeId) (w : World), (Builtin.len_ #[9] ty #[.string (tx t)]).run Tryz.prog w = .ok (.int .i64 (t.length : Int)) w := fun ty w => by
    rw [run_len_string w _ _ _ Tryz.underlying9, tx_size]; rfl
  obtain ⟨n, hn⟩ : ∃ n, n = t.length := ⟨_, rfl⟩
  have hgr : isGrp 3 = true := by decide
  have hnw := csNew_yes (w0 := w) (w := w) 3 hgr (Own.start w)
  have hlf := fun (w2 : World) (R : HProp) (h : Own w R w2) => linesF_any t h
  obtain ⟨T, hT⟩ : ∃ T, T = tx t := ⟨_, rfl⟩
  rw [← hT] at hln hlf ⊢
  rw [← hn] at hln
  obtain ⟨A, hA⟩ : ∃ A, A = tx (runB t) := ⟨_, rfl⟩
  rw [← hA]
  have HGR := Lib.hid hgr; have HNW := Lib.hid hnw; have HT := Lib.hid hT; have HA := Lib.hid hA; have HLF := Lib.hid hlf; have HN := Lib.hid hn
  clear hgr hnw hT hA hlf hn
  refine (callsIn_wide (n := 3)).1 ?_
  refine callsIn_of_wp_marks Tryz.func6 rfl trivial ?_ rfl
  simp only [Tryz.ntmps6, List.size_toArray, List.length_cons, List.length_nil, Nat.reduceAdd, Nat.reduceSub, Array.replicate_succ, Array.replicate_zero, List.push_toArray, List.append_toArray, List.nil_append, List.cons_append]
  refine wpIn_wide.2 ?_
  by_cases h3 : 3000 < n
  · have hr : runB t = tooLong := by unfold runB; rw [if_pos (by rw [← HN.out]; exact h3)]
    have hA2 : A = ⟨#[116, 111, 111, 32, 108, 111, 110, 103, 10]⟩ := by rw [HA.out, hr]; rfl
    have HR := Lib.hid hr; have HA2 := Lib.hid hA2
    clear hr hA2
    go_wp2_with fail
    exact ⟨_, results_tmp rfl _ _ _, by rw [HA2.out]; rfl, Below.refl _ _⟩
  · go_wp2_with fail
    refine HNW.out.mono ?_
    rintro e w2 ⟨p, rfl, ho⟩
    rw [show errV 0 = .nilIface from rfl]
    obtain ⟨b5, hb_b5⟩ : ∃ zz_, zz_ = (w2).heap.size := ⟨_, rfl⟩
    obtain ⟨w5, hw_w5⟩ : ∃ zz_, zz_ = (w2).alloc (.cells #[.pointer (some ⟨p, 0, none⟩)] 38 (0, 0)) := ⟨_, rfl⟩
    have h_H5 := (ho).alloc (.cells #[.pointer (some ⟨p, 0, none⟩)] 38 (0, 0))
    rw [← hb_b5, ← hw_w5] at h_H5
    have H5 := Lib.hid h_H5
    clear h_H5
    obtain ⟨b6, hb_b6⟩ : ∃ zz_, zz_ = (w5).heap.size := ⟨_, rfl⟩
    obtain ⟨w6, hw_w6⟩ : ∃ zz_, zz_ = (w5).alloc (.cells #[.pointer none, .slice none 0 0] 42 (0, 0)) := ⟨_, rfl⟩
    have h_H6 := (H5.out).alloc (.cells #[.pointer none, .slice none 0 0] 42 (0, 0))
    rw [← hb_b6, ← hw_w6] at h_H6
    have H6 := Lib.hid h_H6
    clear h_H6
    have hbu := Own.bu_new H5.out
    rw [← hb_b6, ← hw_w6] at hbu
    have hbu : Own w (BuO b6 [] * (DkO b5 p * (CsP p (csNew 3) * emp))) w6 := hbu
    clear ho H6 H5
    have HBU := Lib.hid hbu
    clear hbu
    go_upto_region 7 with fail
    rw [← hb_b5, ← hw_w5]
    clear hb_b5 hw_w5
    go_upto_region 8 with fail
    rw [← hb_b6, ← hw_w6]
    clear hb_b6 hw_w6
    go_wp2_with fail
    refine (HLF.out _ _ HBU.out).mono ?_
    rintro e w7 ⟨b7, rfl, ho7⟩
    have HO7 := Lib.hid ho7
    clear ho7
    go_wp2_with fail
    have ht3 : t.length ≤ 3000 := by rw [← HN.out]; omega
    obtain ⟨I, hI⟩ : ∃ I : List (List UInt8) → HProp, I = fun pre => BuO b6 (runA (csNew 3) (pre.map trimB)) * (CsP p (runC (csNew 3) (pre.map trimB)) * DkO b5 p) := ⟨_, rfl⟩
    have ho8 : Own w (TbO b7 t * I []) w7 := by
      rw [hI]
      exact HO7.out.perm (show TbO b7 t * (BuO b6 [] * (DkO b5 p * (CsP p (csNew 3) * emp))) = TbO b7 t * (BuO b6 [] * (CsP p (csNew 3) * DkO b5 p)) by rw [star_emp]; ac_rfl)
    have HI := Lib.hid hI
    clear hI
    clear HO7 HBU
    refine wp_rangeOwn (w0 := w) (gf := 34) (lb := #[.pointer (some ⟨b7, 0, none⟩)]) rfl (enters_of Tryz.func34 (by kernel_rfl) rfl) (fun x : List UInt8 => .string (tx x)) (TbO b7 t) (TbO b7 []) I (rawL t) ho8 rfl (fun l J W hY hO => callsIn_wide.2 (lines_any l b7 J t (by omega) hY hO))
      (fun x => { tmps := #[.string T, undef, .string ⟨#[]⟩, .pointer (some ⟨p, 0, none⟩), .nilIface, .pointer (some ⟨b5, 0, none⟩), .pointer (some ⟨b6, 0, none⟩), .string (tx x), .string T, .int .i64 n, .bool (decide (3000 < (n : Int))), .tuple #[.pointer (some ⟨p, 0, none⟩), .nilIface], .tuple #[.pointer (some ⟨p, 0, none⟩), .nilIface], .pointer (some ⟨p, 0, none⟩), .nilIface, .nilIface, .bool false, .pointer (some ⟨p, 0, none⟩), .agg #[.pointer (some ⟨p, 0, none⟩)], .string T, .func (.func 34) #[] #[.pointer (some ⟨b7, 0, none⟩)], .string (tx x), undef, undef, undef, undef, undef, undef, undef], defers := [] }) ?assign ?body ?done
    case assign =>
      intro l x W K hK
      have HK_ := Lib.hid hK
      clear hK
      gi_wp2
      exact HK_.out
    case body =>
      intro l U pre x W hpre hO
      have hxr : x ∈ rawL t := by
        obtain ⟨q, hq⟩ := hpre
        rw [← hq]
        exact List.mem_append_left _ (List.mem_append_right _ (List.mem_singleton.2 rfl))
      have hxl : x.length ≤ 3000 := Nat.le_trans ((rawL_len t).2 x hxr) ht3
      have hpl : pre.length ≤ 3000 := by
        have h1 := hpre.length_le
        rw [List.length_append] at h1
        have h2 := (rawL_len t).1
        omega
      have htl := trimB_len x
      obtain ⟨c, hc⟩ : ∃ c, c = runC (csNew 3) (pre.map trimB) := ⟨_, rfl⟩
      obtain ⟨L, hL⟩ : ∃ L, L = runA (csNew 3) (pre.map trimB) := ⟨_, rfl⟩
      have hcz : CZ c := by rw [hc]; exact cz3.runC _
      have hLl : L.length ≤ 3000 * 10000002 := by
        have h1 := cz3.runLen (pre.map trimB)
        rw [List.length_map] at h1
        rw [hL]
        exact Nat.le_trans h1 (Nat.mul_le_mul_right _ hpl)
      obtain ⟨y, hy⟩ : ∃ y, y = trimB x := ⟨_, rfl⟩
      rw [← hy] at htl
      have hal := hcz.ansLen y
      have hfin : I (pre ++ [x]) = BuO b6 (L ++ ((lineA c y).2 ++ [10])) * (CsP p (lineA c y).1 * DkO b5 p) := by
        rw [HI.out]
        show BuO b6 (runA (csNew 3) ((pre ++ [x]).map trimB)) * (CsP p (runC (csNew 3) ((pre ++ [x]).map trimB)) * DkO b5 p) = _
        rw [List.map_append, List.map_cons, List.map_nil, runA_snoc, runC_snoc, ← hc, ← hL, ← hy]
      rw [hfin]
      have hO1 : Own w (CsP p c * (BuO b6 L * (DkO b5 p * U))) W := by
        rw [HI.out] at hO
        exact hO.perm (show U * (BuO b6 (runA (csNew 3) (pre.map trimB)) * (CsP p (runC (csNew 3) (pre.map trimB)) * DkO b5 p)) = _ by rw [← hc, ← hL]; ac_rfl)
      have hcell : ∀ W, Own w (CsP p c * (BuO b6 L * (DkO b5 p * U))) W → W.cell? ⟨b5, 0, none⟩ = some (.pointer (some ⟨p, 0, none⟩)) := fun W ho => Own.dk (ho.perm (show _ = DkO b5 p * (CsP p c * (BuO b6 L * U)) by ac_rfl))
      have c0 := hcell W hO1
      have htr := fun W => trim_any (w := W) x (by omega)
      rw [← hy] at htr
      have han := fun (W : World) (ho : Own w (CsP p c * (BuO b6 L * (DkO b5 p * U))) W) => pans_any hW p c hcz y (by omega) ho
      obtain ⟨z, hz⟩ : ∃ z, z = (lineA c y).2 := ⟨_, rfl⟩
      obtain ⟨c', hc'⟩ : ∃ c', c' = (lineA c y).1 := ⟨_, rfl⟩
      simp only [← hz, ← hc'] at han hal ⊢
      have hwr := fun (W : World) (ho : Own w (BuO b6 L * (CsP p c' * (DkO b5 p * U))) W) => buWrite_any b6 L (z ++ [10]) (by rw [List.length_append, List.length_singleton]; omega) ho
      obtain ⟨X, hX⟩ : ∃ X, X = tx x := ⟨_, rfl⟩
      obtain ⟨Y, hY⟩ : ∃ Y, Y = tx y := ⟨_, rfl⟩
      obtain ⟨Z, hZ⟩ : ∃ Z, Z = tx z := ⟨_, rfl⟩
      obtain ⟨V, hV⟩ : ∃ V, V = tx (z ++ [10]) := ⟨_, rfl⟩
      have hadd : ∀ w : World, (Op.stringOp .add Z ⟨#[10]⟩).run Tryz.prog w = .ok (.string V) w := fun w => by
        have e : V = Z ++ ⟨#[10]⟩ := by rw [hV, hZ, ← tx_add]; rfl
        rw [e]
        exact run_string_add_sum _ _ _ (by rw [hZ, tx_size]; show z.length + 1 ≤ _; omega)
      simp only [← hX, ← hY] at htr
      simp only [← hY, ← hZ] at han
      simp only [← hV] at hwr
      simp only [← hX]
      have HTR : Hid (∀ W, Calls Tryz.prog 15 #[.string X, .string ⟨#[10]⟩] W fun e w' => e = .returned (.string Y) ∧ W = w') := Lib.hid htr
      have HO := Lib.hid hO; have HO1 := Lib.hid hO1; have HAN := Lib.hid han; have HWR := Lib.hid hwr; have HX := Lib.hid hX; have HY := Lib.hid hY; have HZ := Lib.hid hZ; have HV := Lib.hid hV; have HZ := Lib.hid hz; have HC' := Lib.hid hc'; have HFIN := Lib.hid hfin; have HCZ := Lib.hid hcz; have HC := Lib.hid hc; have HL := Lib.hid hL; have HY := Lib.hid hy; have HCELL := Lib.hid hcell; have HPRE := Lib.hid hpre
      clear hO hO1 han hwr hX hY hZ hV hz hc' hfin hcz hc hL hy hcell hpre
      clear htr hxr
      gi_wp2
      refine wpIn_region_all [[0, 1, 2, 3, 4, 5], [1, 0, 2, 3, 4, 5], [1, 2, 0, 3, 4, 5]] (by kernel_rfl) (by kernel_rfl) ?_
      intro Lo hLo
      obtain ⟨W1, hW1⟩ : ∃ W1, W1 = W.drew := ⟨_, rfl⟩
      have hO2 := HO1.out.drew
      rw [← hW1] at hO2 ⊢
      clear hW1 c0
      have c0 := HCELL.out W1 hO2
      have HO2 := Lib.hid hO2
      clear hO2
      simp only [List.mem_cons, List.not_mem_nil, or_false] at hLo
      rcases hLo with rfl | rfl | rfl
      all_goals
        simp only [List.filterMap_cons, List.filterMap_nil, List.getElem?_cons_zero, List.getElem?_cons_succ]
        gi_wp2
        refine ⟨trivial, ?_⟩
        refine (CallsIn.inRound l (callsIn_wide.2 (HTR.out _))).mono ?_
        rintro e w' ⟨rfl, rfl⟩
        gi_wp2
        refine ⟨trivial, ?_⟩
        refine (CallsIn.inRound l (callsIn_wide.2 (HAN.out _ HO2.out))).mono ?_
        rintro e W2 ⟨rfl, ho⟩
        have HO3 : Hid (Own w (BuO b6 L * (CsP p c' * (DkO b5 p * U))) W2) := Lib.hid (ho.perm (by ac_rfl))
        clear ho
        gi_wp2
        refine ⟨trivial, ?_⟩
        refine (CallsIn.inRound l (callsIn_wide.2 (HWR.out _ HO3.out))).mono ?_
        rintro e W3 ⟨v, rfl, ho⟩
        have HO4 := Lib.hid ho
        clear ho
        gi_wp2
        exact HO4.out.perm (show BuO b6 (L ++ (z ++ [10])) * (CsP p c' * (DkO b5 p * U)) = U * (BuO b6 (L ++ (z ++ [10])) * (CsP p c' * DkO b5 p)) by ac_rfl)
    case done =>
      intro D W hO
      have hr : runB t = sessB t := by unfold runB; rw [if_neg (by omega)]
      have hA2 : tx (sessB t) = A := by rw [HA.out, hr]
      have hO2 : Own w (BuO b6 (sessB t) * (blk D (.deferred (some [])) * (TbO b7 [] * (CsP p (runC (csNew 3) ((rawL t).map trimB)) * DkO b5 p)))) W := by
        rw [HI.out] at hO
        exact hO.perm (show blk D (.deferred (some [])) * (TbO b7 [] * (BuO b6 (sessB t) * (CsP p (runC (csNew 3) ((rawL t).map trimB)) * DkO b5 p))) = _ by ac_rfl)
      have hst := buString_any b6 (sessB t) hO2
      rw [hA2] at hst
      have HO := Lib.hid hO; have HR := Lib.hid hr; have HA2 := Lib.hid hA2; have HO2 := Lib.hid hO2; have HST := Lib.hid hst
      clear hO hr hA2 hO2 hst
      go_wp2_with fail
      refine HST.out.mono ?_
      rintro e W4 ⟨rfl, ho⟩
      have hK := ho.blk_at.1
      have HB : Hid (Below w.heap.size w (W4.putObj D (.deferred none))) := Lib.hid (ho.putObj (o' := .deferred none)).below
      clear ho
      go_wp2_with fail
      refine ⟨by simp, .inl ⟨_, _, rfl, run_takeDeferred hK, ?_⟩⟩
      exact ⟨_, results_tmp rfl _ _ _, rfl, HB.out⟩
end Go.Proofs.YtdfjbnfdknpahaaGreatDoor
/- A session's answers, reckoned: the beginning of RunBegins and of RunCausal. -/
namespace Go.Proofs.YtdfjbnfdknpahaaGreatDoor
set_option linter.unusedVariables false
set_option linter.unusedSimpArgs false
def factT : List UInt8 := [115, 97, 121, 32, 48, 32, 53, 10, 119, 97, 121, 10, 102, 108, 121, 10, 103, 105, 118, 101, 32, 49, 10]
def factA : List UInt8 := [111, 107, 10, 48, 62, 49, 58, 53, 32, 48, 62, 50, 58, 53, 10, 98, 97, 100, 10, 53, 10]
theorem sess_fact : sessB factT = factA := by decide +kernel
theorem sess_zero : sessB [115, 97, 121, 32, 48, 32, 48, 10] = [69, 114, 114, 82, 97, 110, 103, 101, 10] := by decide +kernel
/-- The session of RunCausal. -/
def cauT (q a : Nat) (first : Bool) : List UInt8 :=
  (((([115, 97, 121, 32, 48, 32] ++ Lib.decDigits q) ++ [10, 103, 105, 118, 101, 32, 48, 10, 115, 97, 121, 32, 49, 32]) ++ Lib.decDigits a) ++ [10]) ++
  (if first = true then [103, 105, 118, 101, 32, 50, 10, 103, 105, 118, 101, 32, 48, 10] else [103, 105, 118, 101, 32, 48, 10, 103, 105, 118, 101, 32, 49, 10]) ++ [104, 101, 97, 114, 100, 32, 50, 10, 102, 97, 99, 101, 115, 10]
def cauL (q a : Nat) (first : Bool) : List (List UInt8) := cutS 10 (sessB (cauT q a first))
def cauOk (q a : Nat) (first : Bool) : Bool := decide ((sessB (cauT q a first)).length ≤ 1000) && decide ((cauL q a first).length = 8) && decide ((cauL q a first).getD 5 [] = (Lib.decDigits q ++ [32]) ++ Lib.decDigits a) && decide ((cauL q a first).getD 6 [] = [102, 105, 102, 111, 32, 99, 97, 117, 115, 97, 108, 32, 116, 111, 116, 97, 108])
theorem cau0 : (List.range 5).all (fun i => (List.range 31).all fun a => decide (a = 1 + i ∨ a = 0) || (cauOk (1 + i) a true && cauOk (1 + i) a false)) = true := by decide +kernel
theorem cau1 : (List.range 5).all (fun i => (List.range 31).all fun a => decide (a = 6 + i ∨ a = 0) || (cauOk (6 + i) a true && cauOk (6 + i) a false)) = true := by decide +kernel
theorem cau2 : (List.range 5).all (fun i => (List.range 31).all fun a => decide (a = 11 + i ∨ a = 0) || (cauOk (11 + i) a true && cauOk (11 + i) a false)) = true := by decide +kernel
theorem cau3 : (List.range 5).all (fun i => (List.range 31).all fun a => decide (a = 16 + i ∨ a = 0) || (cauOk (16 + i) a true && cauOk (16 + i) a false)) = true := by decide +kernel
theorem cau4 : (List.range 5).all (fun i => (List.range 31).all fun a => decide (a = 21 + i ∨ a = 0) || (cauOk (21 + i) a true && cauOk (21 + i) a false)) = true := by decide +kernel
theorem cau5 : (List.range 5).all (fun i => (List.range 31).all fun a => decide (a = 26 + i ∨ a = 0) || (cauOk (26 + i) a true && cauOk (26 + i) a false)) = true := by decide +kernel
theorem cau_one {k : Nat} (h : (List.range 5).all (fun i => (List.range 31).all fun a => decide (a = k + i ∨ a = 0) || (cauOk (k + i) a true && cauOk (k + i) a false)) = true) {q a : Nat} (hq : k ≤ q ∧ q < k + 5) (ha : 1 ≤ a ∧ a ≤ 30) (hne : q ≠ a) (f : Bool) : cauOk q a f = true := by
  have h1 := List.all_eq_true.1 h (q - k) (List.mem_range.2 (by omega))
  have h2 := List.all_eq_true.1 h1 a (List.mem_range.2 (by omega))
  rw [show k + (q - k) = q by omega, decide_eq_false (by omega), Bool.false_or, Bool.and_eq_true] at h2
  cases f
  · exact h2.2
  · exact h2.1
theorem cau_all {q a : Nat} (hq : 1 ≤ q ∧ q ≤ 30) (ha : 1 ≤ a ∧ a ≤ 30) (hne : q ≠ a) (f : Bool) : cauOk q a f = true := by
  rcases (show (1 ≤ q ∧ q < 1 + 5) ∨ (6 ≤ q ∧ q < 6 + 5) ∨ (11 ≤ q ∧ q < 11 + 5) ∨ (16 ≤ q ∧ q < 16 + 5) ∨ (21 ≤ q ∧ q < 21 + 5) ∨ (26 ≤ q ∧ q < 26 + 5) by omega) with h | h | h | h | h | h
  · exact cau_one cau0 h ha hne f
  · exact cau_one cau1 h ha hne f
  · exact cau_one cau2 h ha hne f
  · exact cau_one cau3 h ha hne f
  · exact cau_one cau4 h ha hne f
  · exact cau_one cau5 h ha hne f
theorem cau_parts {q a : Nat} {f : Bool} (h : cauOk q a f = true) : (sessB (cauT q a f)).length ≤ 1000 ∧ (cauL q a f).length = 8 ∧ (cauL q a f).getD 5 [] = (Lib.decDigits q ++ [32]) ++ Lib.decDigits a ∧ (cauL q a f).getD 6 [] = [102, 105, 102, 111, 32, 99, 97, 117, 115, 97, 108, 32, 116, 111, 116, 97, 108] := by
  unfold cauOk at h
  simp only [Bool.and_eq_true, decide_eq_true_eq] at h
  exact ⟨h.1.1.1, h.1.1.2, h.1.2, h.2⟩
theorem cau_short {q a : Nat} (hq : q ≤ 30) (ha : a ≤ 30) (f : Bool) : (cauT q a f).length ≤ 3000 := by
  have h1 := (dec_len q).2
  have h2 := (dec_len a).2
  unfold cauT
  simp only [List.length_append, List.length_cons, List.length_nil]
  cases f <;> simp <;> omega
end Go.Proofs.YtdfjbnfdknpahaaGreatDoor
