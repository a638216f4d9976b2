/- Contracts of package fifo. -/
import Derived.Test.YteelldblfmhjlaaDoorTab
import Derived.Test.YteelldblfmhjlaaDoorMap
import Derived.Test.YteelldblfmhjlaaDoorStable
import Derived.DeepKeys3
import Derived.Deep.LoopGhost
import Derived.StillTailTactics
namespace Go.Proofs.YteelldblfmhjlaaDoor
set_option linter.unusedVariables false
set_option linter.unusedSimpArgs false
open Go.RowKit Go.Maps
def ikv (n : Int) : Value := .int .i64 n
/-- A place: whose a word is, and which. -/
def plV (x : Int × Int) : Value := .agg #[.int .i64 x.1, .int .i64 x.2]
def plOk (x : Int × Int) : Prop := I64 x.1 ∧ I64 x.2
theorem place_lits (n : Nat) (a b : Int) (ha : I64 a) (hb : I64 b) : Tryd.prog.keyLits (n + 2) 112 [.int .i64 a, .int .i64 b] = some [.int .i64 a, .int .i64 b] := by
  have h1 : Tryd.prog.cellsOf 112 = 2 := by kernel_rfl
  have h2 : Tryd.prog.cellsOf 3 = 1 := by kernel_rfl
  simp [Program.keyLits, Tryd.underlying112, Tryd.underlying3, h1, h2, I64_wf ha, I64_wf hb]
theorem place_ke : KE Tryd.prog 112 plV plOk where
  keyed := Keyed.of_law (deep_law (m := 2) (by omega) (by kernel_rfl) (by kernel_rfl) (by rw [Tryd.underlying112]))
  has := fun x hx => by
    have h1 : Tryd.prog.cellsOf 112 = 2 := by kernel_rfl
    have h2 : Tryd.prog.keyType 112 = true := by kernel_rfl
    have h3 : 0 < Tryd.prog.types.size := of_decide_eq_true (by kernel_rfl)
    obtain ⟨m, hm⟩ := Nat.exists_eq_succ_of_ne_zero (Nat.ne_of_gt h3)
    refine ⟨.string (keyBytes [.int .i64 x.1, .int .i64 x.2]), ?_⟩
    unfold keyOf
    rw [Tryd.underlying112]
    simp [h2, hm, plV, Value.formed, Tryd.underlying112, h1, Value.cells, place_lits m _ _ hx.1 hx.2]
  inj := fun x y h => by
    unfold plV at h
    simp at h
    exact Prod.ext h.1 h.2
structure Fi where
  next : List Int
  waits : List ((Int × Int) × Int)
abbrev PMp (mb : Nat) (m : List ((Int × Int) × Int)) : HProp := Mp plV plOk mb (mvals ikv m)
def fiCells (f : Fi) (mb : Nat) : List Value := f.next.map (.int .i64) ++ [.map (some mb)]
def FiO (p mb : Nat) (f : Fi) : HProp := blk p (.cells (fiCells f mb).toArray 110 (0, 0)) * PMp mb f.waits
def FiP (p : Nat) (f : Fi) : HProp := hex fun mb => FiO p mb f
theorem Own.fi_open {w0 w : World} {p : Nat} {f : Fi} {R : HProp} (h : Own w0 (FiP p f * R) w) : ∃ mb, Own w0 (FiO p mb f * R) w := Own.ex h
theorem Own.fi_close {w0 w : World} {p mb : Nat} {f : Fi} {R : HProp} (h : Own w0 (FiO p mb f * R) w) : Own w0 (FiP p f * R) w := Own.ex_mk mb h
theorem Own.fi_blk {w0 w : World} {p mb : Nat} {f : Fi} {R : HProp} (h : Own w0 (FiO p mb f * R) w) : Own w0 (blk p (.cells (fiCells f mb).toArray 110 (0, 0)) * (PMp mb f.waits * R)) w := h.perm (by unfold FiO; ac_rfl)
theorem Own.fi_map {w0 w : World} {p mb : Nat} {f : Fi} {R : HProp} (h : Own w0 (FiO p mb f * R) w) : Own w0 (PMp mb f.waits * (blk p (.cells (fiCells f mb).toArray 110 (0, 0)) * R)) w := h.perm (by unfold FiO; ac_rfl)
theorem Own.fi_unmap {w0 w : World} {p mb : Nat} {f : Fi} {R : HProp} {m : List ((Int × Int) × Int)} (h : Own w0 (PMp mb m * (blk p (.cells (fiCells f mb).toArray 110 (0, 0)) * R)) w) : Own w0 (FiO p mb ⟨f.next, m⟩ * R) w := h.perm (by unfold FiO fiCells; ac_rfl)
/-- What the cells of a fifo hold. -/
theorem Own.fi_facts {w0 w : World} {p mb : Nat} {f : Fi} {R : HProp} (h5 : f.next.length = 5) (h : Own w0 (FiO p mb f * R) w) :
    (∀ k, k < 5 → w.cell? ⟨p, k, none⟩ = some (.int .i64 (f.next.getD k 0))) ∧ w.cell? ⟨p, 5, none⟩ = some (.map (some mb)) ∧ (∀ i s, w.frozen? ⟨p, i, s⟩ = false) := by
  refine ⟨fun k hk => ?_, ?_, fun i s => h.fi_blk.free i s⟩
  · rw [h.fi_blk.cell]
    have hk' : k < f.next.length := by omega
    simp [fiCells, hk', List.getElem?_append]
  · rw [h.fi_blk.cell]
    simp [fiCells, h5, List.getElem?_append]
theorem Own.fi_set {w0 w : World} {p mb k : Nat} {f : Fi} {R : HProp} (h5 : f.next.length = 5) (hk : k < 5) (x : Int) (h : Own w0 (FiO p mb f * R) w) :
    Own w0 (FiO p mb ⟨f.next.set k x, f.waits⟩ * R) (w.setCell ⟨p, k, none⟩ (.int .i64 x)) := by
  have h1 := h.fi_blk.setCell (i := k) (v := .int .i64 x)
  refine h1.perm ?_
  have e : (fiCells f mb).toArray.setIfInBounds k (.int .i64 x) = (fiCells ⟨f.next.set k x, f.waits⟩ mb).toArray := by
    have hk' : k < f.next.length := by omega
    simp [fiCells, List.set_append, hk', List.map_set]
  rw [e]; unfold FiO; ac_rfl
def fiN (f : Fi) (who : Int) : Int := f.next.getD who.toNat 0
def fiHas (f : Fi) (who n : Int) : Bool := (mget f.waits (who, n)).isSome || decide (n < fiN f who)
/-- The words that are ready, from the number n on: these, the next number, what waits. -/
def fiDrain (who : Int) : Nat → Int → List ((Int × Int) × Int) → List Int × Int × List ((Int × Int) × Int)
  | 0, n, m => ([], n, m)
  | k + 1, n, m => match mget m (who, n) with
    | none => ([], n, m)
    | some x => let r := fiDrain who k (n + 1) (mdel m (who, n)); (x :: r.1, r.2.1, r.2.2)
def fiErr (f : Fi) (who n word : Int) : Nat :=
  if isMember who = false then 1 else if n < 1 then 1 else if 1000000 < n then 1 else if isWord word = false then 1 else if fiHas f who n = true then 7
  else if n ≠ fiN f who ∧ 40 ≤ f.waits.length then 4 else 0
def fiEnd (f : Fi) (who n word : Int) : List Int × Int × List ((Int × Int) × Int) := fiDrain who (mput f.waits (who, n) word).length (fiN f who) (mput f.waits (who, n) word)
def fiOut (f : Fi) (who n word : Int) : List Int := if fiErr f who n word = 0 then (fiEnd f who n word).1 else []
def fiTake (f : Fi) (who n word : Int) : Fi := if fiErr f who n word = 0 then ⟨f.next.set who.toNat (fiEnd f who n word).2.1, (fiEnd f who n word).2.2⟩ else f
def fiFit (f : Fi) : Prop := f.next.length = 5 ∧ (∀ x ∈ f.next, 1 ≤ x ∧ x ≤ 1000001) ∧ f.waits.length ≤ 40 ∧ (∀ p ∈ f.waits, 1 ≤ p.1.2 ∧ p.1.2 ≤ 1000000 ∧ 1 ≤ p.2 ∧ p.2 ≤ 30)
def fiNew : Fi := ⟨[1, 1, 1, 1, 1], []⟩
theorem mapfi_made : ∀ w, (Instr.makeMap 108 none).run Tryd.prog w = .ok (.map (some w.heap.size)) (w.alloc (.map #[] 0)) := fun _ => by kernel_rfl
theorem mapfi_kind : Tryd.prog.underlying 108 = some (.map 112 3) := by kernel_rfl
theorem fi_zero : ∀ w, (zeroValue 3).run Tryd.prog w = .ok (.int .i64 0) w := fun _ => by kernel_rfl
theorem Own.fi_look {w0 w : World} {p mb : Nat} {f : Fi} {R : HProp} (h : Own w0 (FiO p mb f * R) w) (x : Int × Int) (hx : plOk x) :
    (Instr.lookup 108 (.map (some mb)) (.agg #[.int .i64 x.1, .int .i64 x.2]) true).run Tryd.prog w = .ok (.tuple #[.int .i64 ((mget f.waits x).getD 0), .bool (mget f.waits x).isSome]) w := by
  have h1 := h.fi_map.map_look place_ke mapfi_kind fi_zero (x := x) hx true
  rw [mget_mvals] at h1
  have e1 : ((mget f.waits x).map ikv).getD (.int .i64 0) = .int .i64 ((mget f.waits x).getD 0) := by cases mget f.waits x <;> rfl
  have e2 : ((mget f.waits x).map ikv).isSome = (mget f.waits x).isSome := by cases mget f.waits x <;> rfl
  rw [e1, e2] at h1
  exact h1
theorem Own.fi_len {w0 w : World} {p mb : Nat} {f : Fi} {R : HProp} (h : Own w0 (FiO p mb f * R) w) (ty : TypeId) :
    (Builtin.len_ #[108] ty #[.map (some mb)]).run Tryd.prog w = .ok (.int .i64 f.waits.length) w := by
  have h1 := h.fi_map.map_len mapfi_kind ty
  rwa [mvals_len] at h1
theorem mput_len_le (m : List ((Int × Int) × Int)) (x : Int × Int) (v : Int) : (mput m x v).length ≤ m.length + 1 := by
  have := congrArg List.length (mput_keys m x v)
  simp only [List.length_map] at this
  rw [this]
  split <;> simp
theorem fiNew_start {w0 w : World} {R : HProp} (h : Own w0 R w) :
    Own w0 (FiO (w.heap.size + 1) w.heap.size ⟨List.replicate 0 1 ++ List.replicate (5 - 0) 0, []⟩ * R) ((w.alloc (.map #[] 0)).alloc (.cells #[.int .i64 0, .int .i64 0, .int .i64 0, .int .i64 0, .int .i64 0, .map (some w.heap.size)] 110)) := by
  have h1 := (h.map_new (enc := plV) (ok := plOk)).alloc (.cells #[.int .i64 0, .int .i64 0, .int .i64 0, .int .i64 0, .int .i64 0, .map (some w.heap.size)] 110)
  refine h1.perm ?_
  have e : (fiCells ⟨List.replicate 0 1 ++ List.replicate (5 - 0) 0, []⟩ w.heap.size).toArray = #[.int .i64 0, .int .i64 0, .int .i64 0, .int .i64 0, .int .i64 0, .map (some w.heap.size)] := rfl
  unfold FiO
  rw [e]
  simp only [World.size_alloc, PMp, mvals_nil]
  ac_rfl
theorem fiNew_round {w0 w : World} {R : HProp} {p mb k : Nat} (hk : k < 5) (h : Own w0 (FiO p mb ⟨List.replicate k 1 ++ List.replicate (5 - k) 0, []⟩ * R) w) :
    Hid (Own w0 (FiO p mb ⟨List.replicate (k + 1) 1 ++ List.replicate (5 - (k + 1)) 0, []⟩ * R) (w.setCell ⟨p, k, none⟩ (.int .i64 1))) := by
  have h1 := h.fi_set (by simp; omega) hk 1
  have e : (List.replicate k (1 : Int) ++ List.replicate (5 - k) 0).set k 1 = List.replicate (k + 1) 1 ++ List.replicate (5 - (k + 1)) 0 := by
    have : k = 0 ∨ k = 1 ∨ k = 2 ∨ k = 3 ∨ k = 4 := by omega
    rcases this with rfl | rfl | rfl | rfl | rfl <;> rfl
  simp only [e] at h1
  exact Lib.hid h1
set_option maxRecDepth 100000 in
set_option maxHeartbeats 4000000 in
theorem fiNew_any {w0 w : World} {R : HProp} (h : Own w0 R w) :
    Calls Tryd.prog 25 #[] w fun e w' => ∃ p, e = .returned (.pointer (some ⟨p, 0, none⟩)) ∧ Own w0 (FiP p fiNew * R) w' := by
  have hmm := mapfi_made
  have H := Lib.hid h
  clear h
  go_enter Tryd.func25, Tryd.ntmps25
  go_wp2
  go_loopw [6] (fun i wr => ∃ k : Nat, k ≤ 5 ∧ i = .int .i64 k ∧ Hid (Own w0 (FiO (w.heap.size + 1) w.heap.size ⟨List.replicate k 1 ++ List.replicate (5 - k) 0, []⟩ * R) wr)) (fun i _ => 5 - (intOf i).toNat)
  case atStart =>
    refine ⟨0, by omega, rfl, ?_⟩
    exact Lib.hid (fiNew_start H.out)
  case round =>
    obtain ⟨k, hk, rfl, hp⟩ := hrel
    have hf := hp.out.fi_facts (by simp; omega)
    have hfr := hf.2.2 k none
    by_cases hlt : k < 5
    · have hc := hf.1 k hlt
      have HP := Lib.hid hp.out
      clear hp hf
      go_wp2
      exact ⟨⟨k + 1, by omega, by go_num, fiNew_round hlt HP.out⟩, by simp [intOf] <;> omega⟩
    · have hk5 : k = 5 := by omega
      subst hk5
      have HP := Lib.hid hp.out
      clear hp hf hfr
      go_wp2
      go_ret
      exact ⟨_, rfl, HP.out.fi_close⟩
theorem fiHas_any (p mb : Nat) (f : Fi) (who n : Int) {w0 w : World} {R : HProp} (hw : isMember who = true) (hn : I64 n) (h5 : f.next.length = 5) (h : Own w0 (FiO p mb f * R) w) :
    Calls Tryd.prog 63 #[.pointer (some ⟨p, 0, none⟩), .int .i64 who, .int .i64 n] w fun e w' => e = .returned (.bool (fiHas f who n)) ∧ w = w' := by
  have hw' : 0 ≤ who ∧ who < 5 := by simpa [isMember] using hw
  obtain ⟨k, rfl⟩ := Int.eq_ofNat_of_zero_le hw'.1
  have hk : k < 5 := by omega
  have hlk := h.fi_look ((k : Int), n) ⟨by unfold I64; omega, hn⟩
  obtain ⟨c1, c2, _⟩ := h.fi_facts h5
  have c1k := c1 k hk
  cases hb : (mget f.waits ((k : Int), n)).isSome
  · have hr : fiHas f k n = decide (n < f.next.getD k 0) := by simp [fiHas, fiN, hb]
    rw [hb] at hlk
    have HR := Lib.hid hr; have H := Lib.hid h; have H5 := Lib.hid h5; have HB := Lib.hid hb
    clear hr h h5 hb
    clear c1 hw hw' hn
    go_enter Tryd.func63, Tryd.ntmps63
    go_wp2
    all_goals (go_ret; exact ⟨by rw [HR.out]; rfl, rfl⟩)
  · have hr : fiHas f k n = true := by simp [fiHas, hb]
    rw [hb] at hlk
    have HR := Lib.hid hr; have H := Lib.hid h; have H5 := Lib.hid h5; have HB := Lib.hid hb
    clear hr h h5 hb
    clear c1 hw hw' hn
    go_enter Tryd.func63, Tryd.ntmps63
    go_wp2
    all_goals (go_ret; exact ⟨by rw [HR.out]; rfl, rfl⟩)
theorem mget_mem {m : List ((Int × Int) × Int)} {x : Int × Int} {v : Int} (h : mget m x = some v) : (x, v) ∈ m := by
  induction m with
  | nil => simp [mget] at h
  | cons p r ih =>
    unfold mget at h
    by_cases e : p.1 = x
    · rw [if_pos e] at h; injection h with h
      exact List.mem_cons.2 (.inl (by rw [← e, ← h]))
    · rw [if_neg e] at h; exact List.mem_cons.2 (.inr (ih h))
theorem fi_end0 {w0 w : World} {R : HProp} {p mb k gk : Nat} {f : Fi} {n word ny : Int} {m : List ((Int × Int) × Int)} {out : List Int} {v : Value} {B : Prop}
    (h1 : m.length = gk ∧ B ∧ fiEnd f k n word = (out ++ (fiDrain k m.length ny m).1, (fiDrain k m.length ny m).2.1, (fiDrain k m.length ny m).2.2))
    (h2 : mget m ((k : Int), ny) = none) (h : Own w0 (IntSl v out * (FiO p mb ⟨f.next.set k ny, m⟩ * R)) w) :
    Own w0 (IntSl v (fiEnd f k n word).1 * (FiP p ⟨f.next.set k (fiEnd f k n word).2.1, (fiEnd f k n word).2.2⟩ * R)) w := by
  have e : fiDrain k m.length ny m = ([], ny, m) := by
    cases m.length with
    | zero => rfl
    | succ j => unfold fiDrain; rw [h2]
  rw [h1.2.2, e]
  simp only [List.append_nil]
  exact ((h.perm (star_left_comm _ _ _)).fi_close).perm (star_left_comm _ _ _)
theorem fi_round {w0 w : World} {R : HProp} {p mb k gk : Nat} {f : Fi} {n word ny x : Int} {m : List ((Int × Int) × Int)} {out : List Int} {v : Value} (hk : k < 5) (h5 : f.next.length = 5)
    (h1 : m.length = gk ∧ (∀ q ∈ m, q.1.2 ≤ 1000000) ∧ fiEnd f k n word = (out ++ (fiDrain k m.length ny m).1, (fiDrain k m.length ny m).2.1, (fiDrain k m.length ny m).2.2))
    (h2 : mget m ((k : Int), ny) = some x) (h3 : (mdel m ((k : Int), ny)).length + 1 = gk) (h6 : ny ≤ 1000000) (hny1 : 1 ≤ ny) (hol : out.length + gk ≤ 41)
    (h : Own w0 (Sl 3 1 v (out.length + 1) (out.map (Value.int .i64) ++ [Value.int .i64 x]) * (FiO p mb ⟨f.next.set k ny, mdel m ((k : Int), ny)⟩ * R)) w) :
    ∃ out nx m, 1 ≤ nx ∧ nx ≤ 1000001 ∧ out.length + (gk - 1) ≤ 41 ∧ Hid (m.length = gk - 1 ∧ (∀ q ∈ m, q.1.2 ≤ 1000000) ∧ fiEnd f k n word = (out ++ (fiDrain k m.length nx m).1, (fiDrain k m.length nx m).2.1, (fiDrain k m.length nx m).2.2)) ∧ Hid (Own w0 (IntSl v out * (FiO p mb ⟨f.next.set k nx, m⟩ * R)) (w.setCell ⟨p, k, none⟩ (.int .i64 (ny + 1))).drew) := by
  refine ⟨out ++ [x], ny + 1, mdel m ((k : Int), ny), by omega, by omega, by simp; omega, ⟨by omega, fun q hq => h1.2.1 q (mem_mdel hq), ?_⟩, ?_⟩
  · have e : fiDrain k m.length ny m = (x :: (fiDrain k (mdel m ((k : Int), ny)).length (ny + 1) (mdel m ((k : Int), ny))).1, (fiDrain k (mdel m ((k : Int), ny)).length (ny + 1) (mdel m ((k : Int), ny))).2.1, (fiDrain k (mdel m ((k : Int), ny)).length (ny + 1) (mdel m ((k : Int), ny))).2.2) := by
      have e0 : m.length = (mdel m ((k : Int), ny)).length + 1 := by rw [h1.1, h3]
      rw [e0, fiDrain, h2]
    rw [h1.2.2, e]
    simp
  · have h4 := ((h.perm (star_left_comm _ _ _)).fi_set (by rw [List.length_set]; exact h5) hk (ny + 1)).drew
    simp only [List.set_set] at h4
    refine Lib.hid ((h4.perm (star_left_comm _ _ _)).perm ?_)
    unfold IntSl
    simp
set_option maxRecDepth 100000 in
set_option maxHeartbeats 4000000 in
theorem fiTake_yes {w0 w : World} {R : HProp} (p : Nat) (f : Fi) (k : Nat) (n word : Int) (hk : k < 5) (hn1 : 1 ≤ n) (hn2 : n ≤ 1000000) (hwd : isWord word = true) (hh : fiHas f k n = false) (hfull : ¬ (n ≠ fiN f k ∧ 40 ≤ f.waits.length)) (hfit : fiFit f) (h : Own w0 (FiP p f * R) w) :
    Calls Tryd.prog 26 #[.pointer (some ⟨p, 0, none⟩), .int .i64 (k : Int), .int .i64 n, .int .i64 word] w fun e w' => ∃ v, e = .returned (.tuple #[v, .nilIface]) ∧ Own w0 (IntSl v (fiEnd f k n word).1 * (FiP p ⟨f.next.set k (fiEnd f k n word).2.1, (fiEnd f k n word).2.2⟩ * R)) w' := by
  obtain ⟨mb, ho⟩ := h.fi_open
  obtain ⟨h5, hb1, hb2, hb3⟩ := hfit
  have hm : isMember (k : Int) = true := by simp [isMember]; omega
  obtain ⟨c1, c2, _⟩ := ho.fi_facts h5
  have c1k := c1 k hk
  obtain ⟨nx, hnx⟩ : ∃ nx, nx = f.next.getD k 0 := ⟨_, rfl⟩
  rw [← hnx] at c1k
  have hlen := fun ty => ho.fi_len ty
  have hhas := fiHas_any p mb f k n hm (by unfold I64; omega) h5 ho
  have hful : n = nx ∨ (¬ n = nx ∧ ¬ 40 ≤ f.waits.length) := by
    have : fiN f k = nx := by rw [hnx]; simp [fiN]
    rw [this] at hfull
    omega
  have HM := Lib.hid hm; have HWD := Lib.hid hwd; have HH := Lib.hid hh; have HHAS := Lib.hid hhas; have HO := Lib.hid ho; have H5 := Lib.hid h5; have HNX := Lib.hid hnx; have HB1 := Lib.hid hb1; have HB3 := Lib.hid hb3
  clear hm hwd hh hhas ho h5 hnx hb1 hb3
  clear h c1 hfull
  go_enter Tryd.func26, Tryd.ntmps26
  go_wp2_with fail
  refine (member_any _ _).mono ?_
  rintro e w' ⟨rfl, rfl⟩
  rw [HM.out]
  go_wp2_with fail
  refine (word_any _ _).mono ?_
  rintro e w' ⟨rfl, rfl⟩
  rw [HWD.out]
  go_wp2_with fail
  refine (HHAS.out).mono ?_
  rintro e w' ⟨rfl, rfl⟩
  rw [HH.out]
  have hq : (n != nx) = false ∨ ((n != nx) = true ∧ decide ((40 : Int) ≤ (f.waits.length : Int)) = false) := by
    rcases hful with h | ⟨h1, h2⟩
    · exact .inl (by simp [h])
    · exact .inr ⟨by simp [h1], by simp; omega⟩
  have hx : plOk ((k : Int), n) := ⟨by unfold I64; omega, by unfold I64; omega⟩
  have HX := Lib.hid hx
  clear hful hx
  rcases hq with hq | ⟨hq, hq2⟩
  all_goals
    go_wp2_with (at_mapUpdate; refine wpList_put (v := .int .i64 word) (x := ((k : Int), n)) place_ke mapfi_kind HO.out.fi_map HX.out rfl _ _ _ rfl rfl rfl rfl ?_; intro w1 hown1; rw [show Value.int .i64 word = ikv word from rfl, mput_mvals] at hown1; have ho1 := Lib.hid (Own.fi_unmap hown1); clear hown1 c1k c2 hlen)
    go_loopg [10] ((mput f.waits ((k : Int), n) word).length) (fun g v wr => ∃ out nx m, 1 ≤ nx ∧ nx ≤ 1000001 ∧ out.length + g ≤ 41 ∧ Hid (m.length = g ∧ (∀ q ∈ m, q.1.2 ≤ 1000000) ∧ fiEnd f k n word = (out ++ (fiDrain k m.length nx m).1, (fiDrain k m.length nx m).2.1, (fiDrain k m.length nx m).2.2)) ∧ Hid (Own w0 (IntSl v out * (FiO p mb ⟨f.next.set k nx, m⟩ * R)) wr))
    case atStart =>
      have hnx1 : 1 ≤ nx ∧ nx ≤ 1000001 := HB1.out nx (by rw [HNX.out]; have := H5.out; simp [show k < f.next.length from by omega])
      refine ⟨[], nx, mput f.waits ((k : Int), n) word, hnx1.1, hnx1.2, ?_, ⟨rfl, ?_, ?_⟩, ?_⟩
      · have := mput_len_le f.waits ((k : Int), n) word
        simp; omega
      · intro q hq
        rcases mem_mput hq with hq | rfl
        · exact (HB3.out q hq).2.1
        · exact hn2
      · have : nx = fiN f k := by rw [HNX.out]; simp [fiN]
        simp [fiEnd, this]
      · have e : f.next.set k nx = f.next := by
          rw [HNX.out]
          have := H5.out
          simp [show k < f.next.length from by omega]
        show Own _ _ _
        rw [e]
        exact ho1.out.sl_nil _ _
    case round =>
      obtain ⟨out, ny, m, hny1, hny2, hol, HM2, HP⟩ := hrel
      have hp1 := HP.out.perm (star_left_comm _ _ _)
      have h52 : (f.next.set k ny).length = 5 := by rw [List.length_set]; exact H5.out
      have hcell : (f.next.set k ny).getD k 0 = ny := by have := H5.out; simp [show k < f.next.length from by omega]
      obtain ⟨d1, d2, d3⟩ := hp1.fi_facts h52
      have d1k := d1 k hk
      simp only at d1k
      rw [hcell] at d1k
      have HP1 := Lib.hid hp1; have H52 := Lib.hid h52; have D3 := Lib.hid d3
      clear hp1 d1 h52 hcell hq d3
      have hny : plOk ((k : Int), ny) := ⟨by unfold I64; omega, by unfold I64; omega⟩
      have HNY := Lib.hid hny
      clear hny
      cases hb : mget m ((k : Int), ny)
      · have hlk := fun o n => ((HP1.out.alloc' o).drewN n).fi_look ((k : Int), ny) HNY.out
        have e2 := fun o => ((HP1.out.alloc' o).fi_facts H52.out).2.1
        simp only [hb, Option.getD_none, Option.isSome_none] at hlk
        have HB := Lib.hid hb
        clear hb
        go_wp2_with fail
        go_quiet (fail)
        go_wp2
        go_ret2
        exact ⟨_, rfl, fi_end0 HM2.out HB.out ((HP.out.alloc' _).drewN _)⟩
      · rename_i x
        have hlk := fun o n => ((HP1.out.alloc' o).drewN n).fi_look ((k : Int), ny) HNY.out
        have e2 := fun o => ((HP1.out.alloc' o).fi_facts H52.out).2.1
        simp only [hb, Option.getD_some, Option.isSome_some] at hlk
        have hx6 : ny ≤ 1000000 := HM2.out.2.1 _ (mget_mem hb)
        have hgk := mdel_len hb
        have hg2 : (mdel m ((k : Int), ny)).length + 1 = gk := by rw [← HM2.out.1]; exact hgk
        have HB := Lib.hid hb; have HGK := Lib.hid hgk; have HG2 := Lib.hid hg2
        clear hb hgk hg2
        go_wp2_with fail
        go_quiet (fail)
        go_wp2_with fail
        refine wp_region_tail 5 (by kernel_rfl) (by kernel_rfl) ?_
        simp only [List.take_succ_cons, List.take_zero, List.drop_succ_cons, List.drop_zero]
        repeat still_step
        refine wpStill_nil ?_
        have hny' : (f.next.set k ny).getD k 0 = ny := by have := H5.out; simp [show k < f.next.length from by omega]
        have HNY2 := Lib.hid hny'
        have hk0 : (0 : Int) ≤ (k : Int) := by omega
        have hk5 : (k : Int) < 5 := by omega
        clear hny' hlk
        go_wp2_with (first | (at_delete; refine wpList_del place_ke mapfi_kind (((HP1.out.alloc' _).drewN _).drew).fi_map (x := ((k : Int), ny)) HNY.out rfl _ _ rfl rfl rfl ?_; intro w2 hown2; rw [mdel_mvals] at hown2; have HO2 := Lib.hid (Own.fi_unmap hown2); clear hown2) | (at_builtin; refine wpList_app rfl _ _ 22 rfl 3 1 8 _ info_int Tryd.underlying22 rfl (by decide) rfl ((HO2.out.perm (star_left_comm _ _ _)).alloc' _) rfl (by rfl) (Rd_lit rfl (by unfold maxLen; omega)) (by intro u hu; simp at hu; subst hu; rfl) (by unfold maxLen; omega) (by omega) ?_; intro v' w3 hown3; have g1 := ((hown3.perm (star_left_comm _ _ _)).fi_facts H52.out).1 k hk; simp only [HNY2.out] at g1; have g2 := ((hown3.perm (star_left_comm _ _ _)).fi_facts H52.out).2.2 k none; have HO3 := Lib.hid hown3; clear hown3))
        refine wp_region_tail 10 (by kernel_rfl) (by kernel_rfl) ?_
        simp only [List.take_succ_cons, List.take_zero, List.drop_succ_cons, List.drop_zero]
        repeat still_step
        refine wpStill_nil ?_
        go_wp2
        go_roundg (gk - 1)
        case measure => have := HG2.out; omega
        case rel => exact fi_round hk H5.out HM2.out HB.out HG2.out hx6 hny1 hol HO3.out
theorem fi_errV1 : errV 1 = .iface 99 (.int .i64 1) := rfl
set_option maxRecDepth 100000 in
set_option maxHeartbeats 4000000 in
theorem fiTake_no {w0 w : World} {R : HProp} (p : Nat) (f : Fi) (who n word : Int) (he : fiErr f who n word ≠ 0) (h5 : f.next.length = 5) (h : Own w0 (FiP p f * R) w) :
    Calls Tryd.prog 26 #[.pointer (some ⟨p, 0, none⟩), .int .i64 who, .int .i64 n, .int .i64 word] w fun e w' => e = .returned (.tuple #[.slice none 0 0, errV (fiErr f who n word)]) ∧ w = w' := by
  have HE := Lib.hid he
  clear he
  cases hm : isMember who
  · have ht : fiErr f who n word = 1 := by simp [fiErr, hm]
    have HM := Lib.hid hm; have HT := Lib.hid ht; have H := Lib.hid h; have H5 := Lib.hid h5
    clear hm ht h h5
    go_enter Tryd.func26, Tryd.ntmps26
    go_wp2_with fail
    refine (member_any _ _).mono ?_
    rintro e w' ⟨rfl, rfl⟩
    rw [HM.out]
    go_wp2
    go_ret2
    exact ⟨by rw [HT.out]; rfl, rfl⟩
  by_cases h1 : n < 1
  · have ht : fiErr f who n word = 1 := by simp [fiErr, hm, h1]
    have HM := Lib.hid hm; have HT := Lib.hid ht; have H := Lib.hid h; have H5 := Lib.hid h5
    clear hm ht h h5
    go_enter Tryd.func26, Tryd.ntmps26
    go_wp2_with fail
    refine (member_any _ _).mono ?_
    rintro e w' ⟨rfl, rfl⟩
    rw [HM.out]
    go_wp2
    go_ret2
    exact ⟨by rw [HT.out]; rfl, rfl⟩
  by_cases h2 : 1000000 < n
  · have ht : fiErr f who n word = 1 := by simp [fiErr, hm, h1, h2]
    have HM := Lib.hid hm; have HT := Lib.hid ht; have H := Lib.hid h; have H5 := Lib.hid h5
    clear hm ht h h5
    go_enter Tryd.func26, Tryd.ntmps26
    go_wp2_with fail
    refine (member_any _ _).mono ?_
    rintro e w' ⟨rfl, rfl⟩
    rw [HM.out]
    go_wp2
    go_ret2
    exact ⟨by rw [HT.out]; rfl, rfl⟩
  cases hwd : isWord word
  · have ht : fiErr f who n word = 1 := by simp [fiErr, hm, h1, h2, hwd]
    have HM := Lib.hid hm; have HT := Lib.hid ht; have H := Lib.hid h; have H5 := Lib.hid h5; have HWD := Lib.hid hwd
    clear hm ht h h5 hwd
    go_enter Tryd.func26, Tryd.ntmps26
    go_wp2_with fail
    refine (member_any _ _).mono ?_
    rintro e w' ⟨rfl, rfl⟩
    rw [HM.out]
    go_wp2_with fail
    refine (word_any _ _).mono ?_
    rintro e w' ⟨rfl, rfl⟩
    rw [HWD.out]
    go_wp2
    go_ret2
    exact ⟨by rw [HT.out]; rfl, rfl⟩
  obtain ⟨mb, ho⟩ := h.fi_open
  have hhas := fiHas_any p mb f who n hm (by unfold I64; omega) h5 ho
  cases hh : fiHas f who n
  case true =>
    have ht : fiErr f who n word = 7 := by simp [fiErr, hm, h1, h2, hwd, hh]
    have HM := Lib.hid hm; have HT := Lib.hid ht; have H := Lib.hid h; have H5 := Lib.hid h5; have HWD := Lib.hid hwd; have HH := Lib.hid hh; have HHAS := Lib.hid hhas; have HO := Lib.hid ho
    clear hm ht h h5 hwd hh hhas ho
    go_enter Tryd.func26, Tryd.ntmps26
    go_wp2_with fail
    refine (member_any _ _).mono ?_
    rintro e w' ⟨rfl, rfl⟩
    rw [HM.out]
    go_wp2_with fail
    refine (word_any _ _).mono ?_
    rintro e w' ⟨rfl, rfl⟩
    rw [HWD.out]
    go_wp2_with fail
    refine (HHAS.out).mono ?_
    rintro e w' ⟨rfl, rfl⟩
    rw [HH.out]
    go_wp2
    go_ret2
    exact ⟨by rw [HT.out]; rfl, rfl⟩
  have hful : n ≠ fiN f who ∧ 40 ≤ f.waits.length := by
    have := HE.out
    simp only [fiErr, hm, h1, h2, hwd, hh] at this
    simp at this
    exact this
  have ht : fiErr f who n word = 4 := by simp [fiErr, hm, h1, h2, hwd, hh, hful.1, hful.2]
  have hw' : 0 ≤ who ∧ who < 5 := by simpa [isMember] using hm
  obtain ⟨k, rfl⟩ := Int.eq_ofNat_of_zero_le hw'.1
  have hk : k < 5 := by omega
  obtain ⟨c1, c2, _⟩ := ho.fi_facts h5
  have c1k := c1 k hk
  obtain ⟨nx, hnx⟩ : ∃ nx, nx = f.next.getD k 0 := ⟨_, rfl⟩
  rw [← hnx] at c1k
  have hlen := fun ty => ho.fi_len ty
  have hq : (n != nx) = true := by
    have : fiN f k = nx := by rw [hnx]; simp [fiN]
    rw [← this]; simp [hful.1]
  have hq2 : decide ((40 : Int) ≤ (f.waits.length : Int)) = true := by have := hful.2; simp; omega
  have HM := Lib.hid hm; have HT := Lib.hid ht; have H := Lib.hid h; have H5 := Lib.hid h5; have HWD := Lib.hid hwd; have HH := Lib.hid hh; have HHAS := Lib.hid hhas; have HO := Lib.hid ho; have HNX := Lib.hid hnx; have HFUL := Lib.hid hful
  clear hm ht h h5 hwd hh hhas ho hnx hful
  clear c1 hw'
  go_enter Tryd.func26, Tryd.ntmps26
  go_wp2_with fail
  refine (member_any _ _).mono ?_
  rintro e w' ⟨rfl, rfl⟩
  rw [HM.out]
  go_wp2_with fail
  refine (word_any _ _).mono ?_
  rintro e w' ⟨rfl, rfl⟩
  rw [HWD.out]
  go_wp2_with fail
  refine (HHAS.out).mono ?_
  rintro e w' ⟨rfl, rfl⟩
  rw [HH.out]
  go_wp2
  go_ret2
  exact ⟨by rw [HT.out]; rfl, rfl⟩
theorem fiTake_any {w0 w : World} {R : HProp} (p : Nat) (f : Fi) (who n word : Int) (hfit : fiFit f) (h : Own w0 (FiP p f * R) w) :
    Calls Tryd.prog 26 #[.pointer (some ⟨p, 0, none⟩), .int .i64 who, .int .i64 n, .int .i64 word] w fun e w' => ∃ v, e = .returned (.tuple #[v, errV (fiErr f who n word)]) ∧ Own w0 (IntSl v (fiOut f who n word) * (FiP p (fiTake f who n word) * R)) w' := by
  by_cases he : fiErr f who n word = 0
  · have h1 := he
    unfold fiErr at h1
    split at h1
    · cases h1
    rename_i hm
    split at h1
    · cases h1
    split at h1
    · cases h1
    split at h1
    · cases h1
    rename_i hwd
    split at h1
    · cases h1
    rename_i hh
    split at h1
    · cases h1
    rename_i hful
    have hw' : 0 ≤ who ∧ who < 5 := by simpa [isMember] using hm
    obtain ⟨k, rfl⟩ := Int.eq_ofNat_of_zero_le hw'.1
    refine (fiTake_yes p f k n word (by omega) (by omega) (by omega) (by simpa using hwd) (by simpa using hh) hful hfit h).mono ?_
    rintro e w' ⟨v, rfl, ho⟩
    refine ⟨v, by rw [he]; rfl, ?_⟩
    unfold fiOut fiTake
    rw [if_pos he, if_pos he, Int.toNat_natCast]
    exact ho
  · refine (fiTake_no p f who n word he hfit.1 h).mono ?_
    rintro e w' ⟨rfl, rfl⟩
    refine ⟨_, rfl, ?_⟩
    unfold fiOut fiTake
    rw [if_neg he, if_neg he]
    exact h.sl_nil _ _
set_option maxRecDepth 100000 in
set_option maxHeartbeats 4000000 in
theorem fiWaits_any {w0 w : World} {R : HProp} (p : Nat) (f : Fi) (h5 : f.next.length = 5) (h : Own w0 (FiP p f * R) w) :
    Calls Tryd.prog 27 #[.pointer (some ⟨p, 0, none⟩)] w fun e w' => e = .returned (.int .i64 f.waits.length) ∧ w = w' := by
  obtain ⟨mb, ho⟩ := h.fi_open
  have hlen := fun ty => ho.fi_len ty
  have hc := (ho.fi_facts h5).2.1
  have H5 := Lib.hid h5; have H := Lib.hid h; have HO := Lib.hid ho
  clear h5 h ho
  go_enter Tryd.func27, Tryd.ntmps27
  go_wp2
  go_ret
  exact ⟨rfl, rfl⟩
set_option maxRecDepth 100000 in
set_option maxHeartbeats 4000000 in
theorem fiNext_any {w0 w : World} {R : HProp} (p : Nat) (f : Fi) (h5 : f.next.length = 5) (h : Own w0 (FiP p f * R) w) :
    Calls Tryd.prog 29 #[.pointer (some ⟨p, 0, none⟩)] w fun e w' => ∃ v, e = .returned v ∧ Own w0 (IntSl v f.next * (FiP p f * R)) w' := by
  obtain ⟨mb, ho⟩ := h.fi_open
  have hf := ho.fi_facts h5
  have hrd : Rd w (.slice (some ⟨p, 0, none⟩) 5 5) 5 (f.next.map (Value.int .i64)) := by
    refine Rd_one (fun i u hi => ?_) (Nat.le_refl _) (by unfold maxLen; omega)
    have hlt : i < f.next.length := by
      rcases Nat.lt_or_ge i f.next.length with h | h
      · exact h
      · rw [List.getElem?_eq_none (by simpa using h)] at hi; cases hi
    rw [hf.1 i (by omega)]
    simp [hlt] at hi ⊢
    exact hi
  have e5 : f.next.length = 0 + 5 := by omega
  have H5 := Lib.hid h5; have H := Lib.hid h; have HO := Lib.hid ho; have HF := Lib.hid hf; have HRD := Lib.hid hrd; have E5 := Lib.hid e5
  clear h5 h ho hf hrd e5
  go_enter Tryd.func29, Tryd.ntmps29
  go_wp2_with (at_builtin; refine wpList_app rfl _ _ 22 rfl 3 1 8 _ info_int Tryd.underlying22 rfl (by decide) rfl (H.out.sl_nil _ _) rfl (by simp [H5.out]) HRD.out (int_one _) (by unfold maxLen; omega) (by omega) ?_; intro v' w1 hown'; have HO1 := Lib.hid hown'; clear hown')
  go_ret
  exact ⟨_, rfl, by unfold IntSl; rw [E5.out]; simpa using HO1.out⟩
end Go.Proofs.YteelldblfmhjlaaDoor
