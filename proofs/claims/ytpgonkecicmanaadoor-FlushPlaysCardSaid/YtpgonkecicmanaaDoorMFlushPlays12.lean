/- The reference's Flush: a new one. -/
import Derived.Test.YtpgonkecicmanaaDoorMFlushPlays11
import Derived.Test.YtpgonkecicmanaaDoorMFlushPlays0
import Derived.Test.YtpgonkecicmanaaDoorProg
import Derived.ProofKit
import Derived.OpenShut
import Derived.ShutString
import Derived.ChangeOld
import Derived.Deep.Slices
import Derived.SizedLaws
import Derived.KernelRfl
import Derived.Test.YtpgonkecicmanaaDoorMFlushPlays2
import Derived.Test.YtpgonkecicmanaaDoorMFlushPlays3
import Derived.ChangeArms
import Derived.Deep.Fields
namespace Go.Proofs.YtpgonkecicmanaaDoor
set_option linter.unusedVariables false
set_option linter.unusedSimpArgs false
open Go.RowKit Go.Maps
theorem wpList_mkN {P : Program} {w0 w : World} {R : HProp} {ops : Array Oper} {rest : List Oper} {o : Oper} {a : Act} {Q : Exit → Act → World → Prop}
    (hg : o.guard = none) (l c : Operand) (t : TypeId) (hop : o.op = Op.makeSlice t l c) (e : TypeId) (size bytes : Nat) (z : Value) (ht : P.underlying t = some (.slice e)) (hinf : (P.info? e).map (fun i => (i.zero, i.size, i.bytes)) = some (some z, size, bytes)) (hzs : z.cells.size = size)
    (n : Nat) (hl : a.eval l = .int .i64 (n : Int)) (hc : a.eval c = .int .i64 (n : Int)) (hn : n ≤ 1000) (hb : bytes ≤ 1000) (hp : 0 < n * size) (h : Own w0 R w)
    (hK : ∀ b w', Own w0 (SlAt e size b 0 n n (madeCells z.cells (n * size)).toList * R) w' → wpList P ops Q rest (a.put o.dst (.slice (some ⟨b, 0, none⟩) n n)) w') :
    wpList P ops Q (o :: rest) a w := by
  obtain ⟨i, hi, hz, hsize, hby⟩ := info_parts hinf
  have hb2 : i.bytes * n ≤ 281474976710656 := by
    rw [hby]
    exact Nat.le_trans (Nat.mul_le_mul hb hn) (by decide)
  have hm : n ≤ maxLen := by unfold maxLen; omega
  refine wpList_plain hg fun K hK' => ?_
  obtain ⟨w', hrun, r1, r2⟩ := run_make_full (P := P) w w.heap.size t e i z size ht hi hz hsize .i64 .i64 n hb2 hm (Nat.le_refl _)
  unfold Oper.wp
  simp [execOp, hop, hl, hc, hrun, Result.andThen]
  refine hK' _ _ (hK _ w' ?_)
  obtain ⟨hxl, h1 | ⟨g, cap, cur, hv, hbg, hh, h3, h4, h5, h6⟩⟩ := r1
  · simp at h1
  · injection hv with e1 e2 e3
    injection e1 with e1
    injection e1 with e1 _ _
    subst e1
    subst e3
    have ho := h.new (o := .cells cur e (0, 0)) r2.os r2.tape r2.output r2.size (fun k hk => r2.block k hk (by simp)) hh
    refine ho.cons fun x hx => ⟨cur, Nat.le_refl _, hm, ?_, by rw [h5]; omega, fun j hj => ?_, hx⟩
    · simp [madeCells]
    rw [← h6, List.getElem?_take, if_pos (by simpa [madeCells] using hj)]
    simp
def rf0 (dv : Value) : List Value := .int .i64 0 :: .slice none 0 0 :: (List.replicate 31 (.bool false) ++ [.slice none 0 0, dv])
theorem rf0_is (dv : Value) : RfC (rf0 dv).toArray (.slice none 0 0) (.slice none 0 0) dv 0 [] where
  size := by rw [List.size_toArray]; unfold rf0; rw [List.length_cons, List.length_cons, List.length_append, List.length_replicate]; rfl
  n := rfl
  has := rfl
  was := fun w hw => by
    rw [List.getElem?_toArray]
    unfold rf0
    rw [show 2 + w = (w + 1) + 1 by omega, List.getElem?_cons_succ, List.getElem?_cons_succ, List.getElem?_append_left (by rw [List.length_replicate]; exact hw), List.getElem?_replicate, if_pos hw]
    simp
  said := rfl
  heard := rfl
theorem made5 : (madeCells (Value.agg #[.slice none 0 0, .slice none 0 0, .slice none 0 0, .slice none 0 0, .slice none 0 0]).cells (1 * 5)).toList = (List.replicate 5 nilRow).map (·.1) := by kernel_rfl
set_option maxRecDepth 100000 in
set_option maxHeartbeats 4000000 in
theorem rfNew_any {w0 w : World} {R : HProp} (n : Nat) (hn : n ≤ 5) (h : Own w0 R w) :
    Calls Tryd.prog 32 #[.int .i64 (n : Int)] w fun e w' => ∃ q, e = .returned (.pointer (some ⟨q, 0, none⟩)) ∧ Own w0 (RfP q (flNew n) * R) w' := by
  have H := Lib.hid h
  clear h
  go_enter Tryd.func32, Tryd.ntmps32
  go_upto_region 2 with (at_make; refine wpList_mkN rfl _ _ 88 rfl 39 5 120 _ Tryd.underlying88 info_r5 (by rfl) 1 rfl rfl (by omega) (by omega) (by omega) H.out ?_; intro bd w1 ho1; have HO1 := Lib.hid ho1; clear ho1)
  obtain ⟨q, hb_q⟩ : ∃ zz_, zz_ = (w1).heap.size := ⟨_, rfl⟩
  obtain ⟨w2, hw_w2⟩ : ∃ zz_, zz_ = (w1).alloc (.cells #[.int .i64 0, .slice none 0 0, .bool false, .bool false, .bool false, .bool false, .bool false, .bool false, .bool false, .bool false, .bool false, .bool false, .bool false, .bool false, .bool false, .bool false, .bool false, .bool false, .bool false, .bool false, .bool false, .bool false, .bool false, .bool false, .bool false, .bool false, .bool false, .bool false, .bool false, .bool false, .bool false, .bool false, .bool false, .slice none 0 0, .slice (some ⟨bd, 0, none⟩) 1 1] 90 (0, 0)) := ⟨_, rfl⟩
  have h_HO2 := (HO1.out).alloc (.cells #[.int .i64 0, .slice none 0 0, .bool false, .bool false, .bool false, .bool false, .bool false, .bool false, .bool false, .bool false, .bool false, .bool false, .bool false, .bool false, .bool false, .bool false, .bool false, .bool false, .bool false, .bool false, .bool false, .bool false, .bool false, .bool false, .bool false, .bool false, .bool false, .bool false, .bool false, .bool false, .bool false, .bool false, .bool false, .slice none 0 0, .slice (some ⟨bd, 0, none⟩) 1 1] 90 (0, 0))
  rw [← hb_q, ← hw_w2] at h_HO2
  have HO2 := Lib.hid h_HO2
  clear h_HO2
  rw [← hb_q, ← hw_w2]
  clear hb_q hw_w2
  have hcells : #[.int .i64 0, .slice none 0 0, .bool false, .bool false, .bool false, .bool false, .bool false, .bool false, .bool false, .bool false, .bool false, .bool false, .bool false, .bool false, .bool false, .bool false, .bool false, .bool false, .bool false, .bool false, .bool false, .bool false, .bool false, .bool false, .bool false, .bool false, .bool false, .bool false, .bool false, .bool false, .bool false, .bool false, .bool false, .slice none 0 0, .slice (some ⟨bd, 0, none⟩) 1 1] = (rf0 (.slice (some ⟨bd, 0, none⟩) 1 1)).toArray := rfl
  have h2 := HO2.out
  rw [hcells] at h2
  have hP : Own w0 (RfP q (flNew 0) * R) w2 := by
    have h3 : Own w0 (dSl (.slice (some ⟨bd, 0, none⟩) 1 1) 0 (List.replicate 5 nilRow) * _) w2 := (h2.perm (show _ = SlAt 39 5 bd 0 1 1 ((List.replicate 5 nilRow).map (·.1)) * (rfBlk q (rf0 (.slice (some ⟨bd, 0, none⟩) 1 1)).toArray * R) by rw [star_left_comm, made5])).sl_of_at
    refine Own.rf_close (cs := (rf0 (.slice (some ⟨bd, 0, none⟩) 1 1)).toArray) (hv := .slice none 0 0) (sv := .slice none 0 0) (dv := .slice (some ⟨bd, 0, none⟩) 1 1) (N := 0) (rows := List.replicate 5 nilRow) ⟨rfl, rf0_is _, ⟨rfl, fun k m hk hm => ?_⟩⟩ ?_
    · rw [List.getElem?_replicate, if_pos (by omega)]; rfl
    · have h4 : Own w0 (IntSl (.slice none 0 0) [] * _) w2 := h3.sl_nil 3 1
      have h5 : Own w0 (IntSl (.slice none 0 0) [] * _) w2 := h4.sl_nil 3 1
      rw [rows_nil, emp_star]
      exact h5.perm (by show _ = rfBlk q _ * (IntSl (.slice none 0 0) [] * (IntSl (.slice none 0 0) [] * (dSl _ _ _ * R))); ac_rfl)
  have HP := Lib.hid hP
  clear h2 hP HO2 HO1 hcells
  go_upto_block 0 with fail
  go_wp2_with fail
  go_loopw [4] (fun iv wr => ∃ i : Nat, i ≤ n ∧ iv = .int .i64 (i : Int) ∧ Hid (Own w0 (RfP q (flNew i) * R) wr)) (fun iv _ => n - (intOf iv).toNat)
  case atStart => exact ⟨0, Nat.zero_le _, rfl, HP⟩
  case round =>
    clear HP
    obtain ⟨i, hi, rfl, HP⟩ := hrel
    by_cases hlt : i < n
    rotate_left
    · have hkK : i = n := by omega
      subst hkK
      go_wp2
      go_ret
      exact ⟨q, rfl, HP.out⟩
    have t1 : decide ((i : Int) < (n : Int)) = true := decide_eq_true (by omega)
    obtain ⟨cs, hv, sv, dv, N, rows, he, ho⟩ := HP.out.rf_open
    obtain ⟨ad, cap, hs⟩ := Own.int_shape ho.second
    rw [show (flNew i).has.length = i from upTo_len i] at hs
    subst hs
    have c1 := (ho.rf_cells he.c).2.1
    have H1 : Hid (Own w0 (Sl 3 1 (.slice ad i cap) i ((upTo i).map (Value.int .i64)) * (rfBlk q cs * (IntSl sv [] * (dSl dv N rows * (starL rowP rows * R))))) wr) := Lib.hid (ho.perm (by
      rw [show IntSl (.slice ad i cap) (flNew i).has = Sl 3 1 (.slice ad i cap) i ((upTo i).map (Value.int .i64)) by unfold IntSl; rw [show (flNew i).has.length = i from upTo_len i]; rfl, show (flNew i).said = [] from rfl]
      ac_rfl))
    have HE := Lib.hid he
    clear he ho
    go_wp2_with (at_builtin; refine wpList_app rfl _ _ 38 rfl 3 1 8 _ int_info Tryd.underlying38 rfl (by decide) rfl (H1.out.alloc' _) (by rfl) (by rfl) (Rd_lit (by simp) (by unfold maxLen; omega)) (by intro u hu; simp at hu; subst hu; rfl) (by unfold maxLen; omega) (by omega) ?_; intro v' w5 ho5; obtain ⟨ad5, n5, cp5, hv5⟩ := rf_shape ho5; have g1 : w5.cell? ⟨q, 1, none⟩ = some (.slice ad i cap) := (ho5.second.rf_cells HE.out.c).2.1; have g2 := Own.free ho5.second 1 none; have HS := Lib.hid (show Own w0 (rfBlk q (cs.setIfInBounds 1 v') * _) (w5.setCell ⟨q, 1, none⟩ v') from Own.setCell (i := 1) (v := v') ho5.second); subst hv5; clear ho5 c1)
    go_round
    case rel =>
      refine ⟨i + 1, by omega, by go_num, Lib.hid ?_⟩
      refine Own.rf_close (cs := cs.setIfInBounds 1 (.slice ad5 n5 cp5)) (hv := .slice ad5 n5 cp5) (s := flNew (i + 1)) ⟨HE.out.n, HE.out.c.setHas _, ⟨HE.out.r.len, HE.out.r.at_⟩⟩ (HS.out.perm ?_)
      rw [show (flNew (i + 1)).said = [] from rfl]
      unfold IntSl
      rw [show (flNew (i + 1)).has = upTo i ++ [(i : Int)] from upTo_snoc i, List.length_append, upTo_len, List.map_append]
      show _ = rfBlk q _ * (Sl 3 1 _ (i + 1) ((upTo i).map (Value.int .i64) ++ [.int .i64 (i : Int)]) * _)
      ac_rfl
    case measure => simp [intOf]; omega
end Go.Proofs.YtpgonkecicmanaaDoor
/- How the arguments of a law read, as plain facts on the world in which the call begins. -/
namespace Go.Proofs.YtpgonkecicmanaaDoor
set_option linter.unusedVariables false
set_option linter.unusedSimpArgs false
open Go.ChangeShapes Go.WideShapes Go.ChangeAt Go.RowKit Go.Deep
open Go.ChangeMaps (open_string shut_string)
variable {H : Type} {enc : TypeId × Value → H} {w : World} {b0 : Nat} {d : DataW H} {p : List MemPlace} {v : Value}
set_option maxRecDepth 100000 in
theorem arg_int (hv : Value.okWide Tryd.prog w .any b0 3 v) (h : DataW.Trod enc Tryd.prog w 0 (fun _ => true) true 3 v d p) : ∃ a : Int, v = .int .i64 a ∧ I64 a := by
  obtain ⟨n, e, _, _, hw⟩ := open_int Tryd.underlying3 hv h
  exact ⟨n, e, I64_of_wf hw⟩
set_option maxRecDepth 100000 in
theorem arg_bool (hv : Value.okWide Tryd.prog w .any b0 4 v) (h : DataW.Trod enc Tryd.prog w 0 (fun _ => true) true 4 v d p) : ∃ a : Bool, v = .bool a := by
  obtain ⟨n, e, _⟩ := open_bool Tryd.underlying4 hv h
  exact ⟨n, e⟩
set_option maxRecDepth 100000 in
theorem arg_string (hv : Value.okWide Tryd.prog w .any b0 9 v) (h : DataW.Trod enc Tryd.prog w 0 (fun _ => true) true 9 v d p) : ∃ a : ByteArray, v = .string a ∧ a.size ≤ maxLen := by
  obtain ⟨n, e, _, _, hw⟩ := open_string Tryd.underlying9 hv h
  exact ⟨n, e, hw⟩
theorem cells_int : Tryd.prog.cellsOf 3 = 1 := by kernel_rfl
/-- A slice of ints, off its cells' reading. -/
theorem trod_ints {fuel : Nat} {cs : List Value} {x : DataW H × List MemPlace} (h : DataW.trod enc Tryd.prog w 0 (fun _ => true) true fuel 38 cs = some x) : ∃ v l, cs = [v] ∧ Ints w v l := by
  rcases open_ints Tryd.underlying38 Tryd.underlying3 cells_int h with ⟨rfl, _⟩ | ⟨a, len, cap, zs, rfl, _, hl, hm, hz, _, hc, hw⟩
  · exact ⟨_, [], rfl, Ints_nil _⟩
  · have hz' : zs.length = cap := by simpa using hz
    refine ⟨_, zs.take len, rfl, ⟨some a, cap, by simp; omega, by simp; omega, hm, by simp, fun i u hi => ⟨a, rfl, ?_⟩⟩, fun y hy => I64_of_wf (hw y (List.mem_of_mem_take hy))⟩
    rw [List.getElem?_map, Option.map_eq_some_iff] at hi
    obtain ⟨y, hy, rfl⟩ := hi
    rw [List.getElem?_take] at hy
    split at hy
    · rename_i hlt
      rw [hc i (by omega), List.getD, hy]; rfl
    · cases hy
set_option maxRecDepth 100000 in
theorem arg_ints (hv : Value.okWide Tryd.prog w .any b0 38 v) (h : DataW.Trod enc Tryd.prog w 0 (fun _ => true) true 38 v d p) : ∃ l, Ints w v l := by
  obtain ⟨ad, n, c, rfl⟩ := okWide_slice Tryd.underlying38 hv
  obtain ⟨fuel, hf⟩ := h
  obtain ⟨v', l, he, hr⟩ := trod_ints hf
  simp [Value.cells] at he
  exact ⟨l, he ▸ hr⟩
theorem cells_ints : Tryd.prog.cellsOf 38 = 1 := by kernel_rfl
set_option maxRecDepth 100000 in
theorem arg_rows (hv : Value.okWide Tryd.prog w .any b0 22 v) (h : DataW.Trod enc Tryd.prog w 0 (fun _ => true) true 22 v d p) : ∃ ll, Rows2 w v ll := by
  obtain ⟨ad, n, c, rfl⟩ := okWide_slice Tryd.underlying22 hv
  obtain ⟨fuel, hf⟩ := h
  rcases open_slice1 Tryd.underlying22 cells_ints hf with ⟨he, _⟩ | ⟨a, len, cap, m, k, V, D, Pl, he, _, hl, hm, hmm, _, hx⟩
  · simp [Value.cells] at he
    obtain ⟨rfl, rfl, rfl⟩ := he
    exact ⟨[], Rows2_nil _⟩
  · simp [Value.cells] at he
    obtain ⟨rfl, rfl, rfl⟩ := he
    simp only [if_true] at hmm
    exact Rows2_mk hl hm (fun i hi => (hx i (by omega)).1) (fun i hi => by
      obtain ⟨v', l, he, hr⟩ := trod_ints (hx i (by omega)).2
      simp at he
      exact ⟨l, he ▸ hr⟩)
end Go.Proofs.YtpgonkecicmanaaDoor
/- Histories, plainly: what is right, who is ahead of whom, which cuts could have been. -/
namespace Go.Proofs.YtpgonkecicmanaaDoor
set_option linter.unusedVariables false
set_option linter.unusedSimpArgs false
open Go.RowKit
abbrev Ev := Int × Int × Int
def whereI {α : Type} (p : α → Bool) : List α → Int
  | [] => -1
  | x :: r => if p x then 0 else if whereI p r < 0 then -1 else whereI p r + 1
theorem whereI_hit {α : Type} (p : α → Bool) : ∀ (l : List α) (k : Nat) (hk : k < l.length), (∀ j (h : j < k), p (l[j]'(by omega)) = false) → p l[k] = true → whereI p l = k
  | x :: r, 0, hk, _, h => by unfold whereI; rw [if_pos (by simpa using h)]; rfl
  | x :: r, k + 1, hk, h1, h2 => by
    have ih := whereI_hit p r k (by simpa using hk) (fun j h => by have := h1 (j + 1) (by omega); simpa using this) (by simpa using h2)
    unfold whereI
    rw [if_neg (by have := h1 0 (by omega); simpa using this), ih, if_neg (by omega)]
    omega
theorem whereI_miss {α : Type} (p : α → Bool) : ∀ (l : List α), (∀ j (h : j < l.length), p l[j] = false) → whereI p l = -1
  | [], _ => rfl
  | x :: r, h => by
    have ih := whereI_miss p r (fun j hj => by have := h (j + 1) (by simpa using hj); simpa using this)
    unfold whereI
    rw [if_neg (by have := h 0 (by simp); simpa using this), ih, if_pos (by omega)]
theorem whereI_cases {α : Type} (p : α → Bool) (l : List α) : (whereI p l = -1 ∧ ∀ x ∈ l, p x = false) ∨ ∃ (k : Nat) (hk : k < l.length), whereI p l = k ∧ p l[k] = true ∧ ∀ j (h : j < k), p (l[j]'(by omega)) = false := by
  induction l with
  | nil => exact .inl ⟨rfl, fun x h => by cases h⟩
  | cons x r ih =>
    by_cases hx : p x = true
    · exact .inr ⟨0, by simp, by unfold whereI; rw [if_pos hx]; rfl, by simpa using hx, fun j h => by omega⟩
    rcases ih with ⟨h1, h2⟩ | ⟨k, hk, h1, h2, h3⟩
    · refine .inl ⟨by unfold whereI; rw [if_neg hx, if_pos (by omega)], fun y hy => ?_⟩
      rcases List.mem_cons.1 hy with rfl | hy
      · simpa using hx
      · exact h2 y hy
    · refine .inr ⟨k + 1, by simpa using hk, by unfold whereI; rw [if_neg hx, if_neg (by omega)]; omega, by simpa using h2, fun j h => ?_⟩
      cases j with
      | zero => simpa using hx
      | succ j => simpa using h3 j (by omega)
theorem whereI_any {α : Type} (p : α → Bool) (l : List α) : (0 ≤ whereI p l) ↔ l.any p = true := by
  rcases whereI_cases p l with ⟨h1, h2⟩ | ⟨k, hk, h1, h2, _⟩
  · rw [h1]
    constructor
    · intro h; omega
    · intro h
      obtain ⟨x, hx, hp⟩ := List.any_eq_true.1 h
      rw [h2 x hx] at hp; cases hp
  · rw [h1]
    exact ⟨fun _ => List.any_eq_true.2 ⟨_, List.getElem_mem hk, h2⟩, fun _ => by omega⟩
def rightB (e : Ev) : Bool := isMember e.1 && (if e.2.1 = 1 then decide (e.2.2 = 0) else (decide (e.2.1 = 2) || decide (e.2.1 = 3)) && isWord e.2.2)
def saysB (wd : Int) (e : Ev) : Bool := decide (e.2.1 = 2) && decide (e.2.2 = wd)
def saidAt (h : List Ev) (wd : Int) : Int := whereI (saysB wd) h
def evAt (h : List Ev) (i : Nat) : Ev := h.getD i (0, 0, 0)
def evErr (ahead : List Ev) (e : Ev) : Nat :=
  if rightB e = false then 1
  else if (e.2.1 = 2 ∧ 0 ≤ saidAt ahead e.2.2) ∨ (e.2.1 = 3 ∧ e ∈ ahead) then 7
  else if e.2.1 = 3 ∧ saidAt ahead e.2.2 < 0 then 5
  else if e.2.1 = 3 ∧ (evAt ahead (saidAt ahead e.2.2).toNat).1 = e.1 then 3 else 0
def histGo (ahead : List Ev) : List Ev → Nat × Nat
  | [] => (0, 0)
  | e :: r => if evErr ahead e ≠ 0 then (ahead.length, evErr ahead e) else histGo (ahead ++ [e]) r
def histR (h : List Ev) : Nat × Nat := if 60 < h.length then (0, 4) else histGo [] h
/-- A history that is right. -/
def RightH (h : List Ev) : Prop := h.length ≤ 60 ∧ ∀ k (hk : k < h.length), evErr (h.take k) h[k] = 0
theorem histGo_ok : ∀ (r ahead : List Ev), (histGo ahead r).2 = 0 ↔ ∀ k (hk : k < r.length), evErr (ahead ++ r.take k) r[k] = 0
  | [], ahead => by simp [histGo]
  | e :: r, ahead => by
    unfold histGo
    by_cases he : evErr ahead e = 0
    · rw [if_neg (by simpa using he), histGo_ok r]
      constructor
      · intro h k hk
        cases k with
        | zero => simpa using he
        | succ k => have := h k (by simpa using hk); simpa using this
      · intro h k hk
        have := h (k + 1) (by simpa using hk); simpa using this
    · rw [if_pos he]
      constructor
      · intro h; exact absurd h he
      · intro h; exact absurd (by have := h 0 (by simp); simpa only [List.take_zero, List.append_nil, List.getElem_cons_zero] using this) he
theorem histR_ok (h : List Ev) : (histR h).2 = 0 ↔ RightH h := by
  unfold histR RightH
  by_cases hl : 60 < h.length
  · rw [if_pos hl]; simp; omega
  · rw [if_neg hl, histGo_ok]
    simp; intro _; omega
/-- Is an event straight ahead of another one behind it? -/
def directB (a e : Ev) : Bool := decide (a.1 = e.1) || (decide (e.2.1 = 3) && (decide (a.2.1 = 2) && decide (a.2.2 = e.2.2)))
def orRow (r s : List Bool) : List Bool := List.zipWith (fun a b => a || b) r s
/-- Row k, behind i rounds. -/
def pastRow (h : List Ev) (rows : List (List Bool)) (k : Nat) : Nat → List Bool
  | 0 => List.replicate h.length false
  | i + 1 => if directB (evAt h i) (evAt h k) then orRow ((pastRow h rows k i).set i true) (rows.getD i []) else pastRow h rows k i
def pastsR (h : List Ev) : Nat → List (List Bool)
  | 0 => []
  | k + 1 => pastsR h k ++ [pastRow h (pastsR h k) k k]
theorem pastsR_len (h : List Ev) : ∀ n, (pastsR h n).length = n
  | 0 => rfl
  | n + 1 => by simp [pastsR, pastsR_len h n]
theorem orRow_len {r s : List Bool} (h : r.length = s.length) : (orRow r s).length = r.length := by simp [orRow, h]
theorem pastRow_len (h : List Ev) (rows : List (List Bool)) (k : Nat) (hr : ∀ r ∈ rows, r.length = h.length) : ∀ i, i ≤ rows.length → (pastRow h rows k i).length = h.length
  | 0, _ => by simp [pastRow]
  | i + 1, hi => by
    have ih := pastRow_len h rows k hr i (by omega)
    have hg : (rows.getD i []).length = h.length := by
      rw [List.getD_eq_getElem?_getD, List.getElem?_eq_getElem (by omega), Option.getD_some]
      exact hr _ (List.getElem_mem _)
    unfold pastRow
    split
    · rw [orRow_len (by rw [List.length_set, ih, hg]), List.length_set, ih]
    · exact ih
theorem pastsR_row (h : List Ev) : ∀ n, ∀ r ∈ pastsR h n, r.length = h.length
  | 0, r, hr => by cases hr
  | n + 1, r, hr => by
    simp only [pastsR, List.mem_append, List.mem_singleton] at hr
    rcases hr with hr | rfl
    · exact pastsR_row h n r hr
    · exact pastRow_len h _ n (pastsR_row h n) n (by rw [pastsR_len]; omega)
theorem pastsR_get (h : List Ev) : ∀ n k, k < n → (pastsR h n).getD k [] = pastRow h (pastsR h k) k k
  | n + 1, k, hk => by
    simp only [pastsR]
    rw [List.getD_eq_getElem?_getD]
    by_cases hkn : k < n
    · rw [List.getElem?_append_left (by rw [pastsR_len]; exact hkn), ← List.getD_eq_getElem?_getD]
      exact pastsR_get h n k hkn
    · have : k = n := by omega
      subst this
      rw [List.getElem?_append_right (by rw [pastsR_len]; omega), pastsR_len]
      simp
/-- Is event j ahead of event k? -/
def bef (h : List Ev) (k j : Nat) : Bool := ((pastsR h h.length).getD k []).getD j false
theorem getD_orRow {r s : List Bool} (h : r.length = s.length) (j : Nat) : (orRow r s).getD j false = (r.getD j false || s.getD j false) := by
  simp only [orRow, List.getD_eq_getElem?_getD, List.getElem?_zipWith]
  by_cases hj : j < r.length
  · rw [List.getElem?_eq_getElem hj, List.getElem?_eq_getElem (by omega)]; rfl
  · rw [List.getElem?_eq_none (by omega), List.getElem?_eq_none (by omega)]; rfl
theorem pastRow_get (h : List Ev) (rows : List (List Bool)) (k : Nat) (hr : ∀ r ∈ rows, r.length = h.length) (j : Nat) : ∀ i, i ≤ rows.length → i ≤ h.length →
    ((pastRow h rows k i).getD j false = true ↔ ∃ m, m < i ∧ directB (evAt h m) (evAt h k) = true ∧ (m = j ∨ (rows.getD m []).getD j false = true))
  | 0, _, _ => by
    simp only [pastRow, List.getD_eq_getElem?_getD, List.getElem?_replicate]
    constructor
    · intro hh; split at hh <;> simp at hh
    · rintro ⟨m, hm, _⟩; omega
  | i + 1, hi, hi2 => by
    have ih := pastRow_get h rows k hr j i (by omega) (by omega)
    have hl := pastRow_len h rows k hr i (by omega)
    have hg : (rows.getD i []).length = h.length := by
      rw [List.getD_eq_getElem?_getD, List.getElem?_eq_getElem (by omega), Option.getD_some]
      exact hr _ (List.getElem_mem _)
    unfold pastRow
    by_cases hd : directB (evAt h i) (evAt h k) = true
    · rw [if_pos hd, getD_orRow (by rw [List.length_set, hl, hg]), Bool.or_eq_true]
      have hs : ((pastRow h rows k i).set i true).getD j false = true ↔ (i = j ∨ (pastRow h rows k i).getD j false = true) := by
        simp only [List.getD_eq_getElem?_getD, List.getElem?_set]
        by_cases hij : i = j
        · subst hij; rw [if_pos rfl, if_pos (by omega)]; simp
        · rw [if_neg hij]; simp [hij]
      rw [hs, ih]
      constructor
      · rintro ((h1 | ⟨m, h1, h2, h3⟩) | h1)
        · exact ⟨i, by omega, hd, .inl h1⟩
        · exact ⟨m, by omega, h2, h3⟩
        · exact ⟨i, by omega, hd, .inr h1⟩
      · rintro ⟨m, h1, h2, h3⟩
        by_cases hm : m = i
        · subst hm
          rcases h3 with h3 | h3
          · exact .inl (.inl h3)
          · exact .inr h3
        · exact .inl (.inr ⟨m, by omega, h2, h3⟩)
    · rw [if_neg hd, ih]
      constructor
      · rintro ⟨m, h1, h2, h3⟩; exact ⟨m, by omega, h2, h3⟩
      · rintro ⟨m, h1, h2, h3⟩
        by_cases hm : m = i
        · subst hm; exact absurd h2 hd
        · exact ⟨m, by omega, h2, h3⟩
theorem bef_iff (h : List Ev) (k j : Nat) (hk : k < h.length) : bef h k j = true ↔ ∃ m, m < k ∧ directB (evAt h m) (evAt h k) = true ∧ (m = j ∨ bef h m j = true) := by
  unfold bef
  rw [pastsR_get h _ k hk, pastRow_get h _ k (pastsR_row h k) j k (by rw [pastsR_len]; omega) (by omega)]
  constructor
  · rintro ⟨m, h1, h2, h3⟩
    refine ⟨m, h1, h2, ?_⟩
    rw [pastsR_get h k m h1] at h3
    rw [pastsR_get h _ m (by omega)]
    exact h3
  · rintro ⟨m, h1, h2, h3⟩
    refine ⟨m, h1, h2, ?_⟩
    rw [pastsR_get h k m h1]
    rw [pastsR_get h _ m (by omega)] at h3
    exact h3
theorem bef_none (h : List Ev) (k j : Nat) (hk : h.length ≤ k) : bef h k j = false := by
  unfold bef
  rw [show (pastsR h h.length).getD k [] = [] from by rw [List.getD_eq_getElem?_getD, List.getElem?_eq_none (by rw [pastsR_len]; exact hk)]; rfl]
  rfl
theorem bef_lt (h : List Ev) : ∀ k j, bef h k j = true → j < k := by
  intro k
  induction k using Nat.strongRecOn with
  | _ k ih =>
    intro j hb
    by_cases hk : k < h.length
    · obtain ⟨m, h1, _, h3⟩ := (bef_iff h k j hk).1 hb
      rcases h3 with rfl | h3
      · exact h1
      · have := ih m h1 j h3; omega
    · rw [bef_none h k j (by omega)] at hb; cases hb
theorem bef_trans (h : List Ev) : ∀ k i j, bef h k i = true → bef h i j = true → bef h k j = true := by
  intro k
  induction k using Nat.strongRecOn with
  | _ k ih =>
    intro i j h1 h2
    by_cases hk : k < h.length
    · obtain ⟨m, hm, hd, h3⟩ := (bef_iff h k i hk).1 h1
      rcases h3 with rfl | h3
      · exact (bef_iff h k j hk).2 ⟨m, hm, hd, .inr h2⟩
      · exact (bef_iff h k j hk).2 ⟨m, hm, hd, .inr (ih m hm i j h3 h2)⟩
    · rw [bef_none h k i (by omega)] at h1; cases h1
/-- How many of the first n events are of a member. -/
def cnt (h : List Ev) (m : Int) (n : Nat) : Nat := ((h.take n).filter fun e => decide (e.1 = m)).length
theorem cnt_zero (h : List Ev) (m : Int) : cnt h m 0 = 0 := by simp [cnt]
theorem cnt_succ (h : List Ev) (m : Int) (n : Nat) (hn : n < h.length) : cnt h m (n + 1) = cnt h m n + if h[n].1 = m then 1 else 0 := by
  unfold cnt
  rw [List.take_succ_eq_append_getElem hn, List.filter_append, List.length_append]
  congr 1
  by_cases he : h[n].1 = m <;> simp [he]
theorem cnt_le (h : List Ev) (m : Int) (n : Nat) : cnt h m n ≤ n := by
  unfold cnt
  exact Nat.le_trans (List.length_filter_le _ _) (by simp; omega)
theorem cnt_mono (h : List Ev) (m : Int) : ∀ {a b : Nat}, a ≤ b → cnt h m a ≤ cnt h m b := by
  intro a b hab
  unfold cnt
  have : h.take a = (h.take b).take a := by rw [List.take_take, Nat.min_eq_left hab]
  rw [this]
  exact ((List.take_sublist a _).filter _).length_le
/-- Is event k taken by a cut? -/
def takenB (h : List Ev) (many : List Int) (k : Nat) : Bool := decide (((cnt h (evAt h k).1 k : Nat) : Int) < many.getD (evAt h k).1.toNat 0)
def cutBadAt (h : List Ev) (many : List Int) (i : Nat) : Bool := decide (many.getD i 0 < 0) || decide (((cnt h (i : Int) h.length : Nat) : Int) < many.getD i 0)
def cutErr (h : List Ev) (many : List Int) : Nat :=
  if (histR h).2 ≠ 0 then (histR h).2 else if many.length ≠ 5 then 3 else if (List.range 5).any (cutBadAt h many) = true then 1 else 0
def cutB (h : List Ev) (many : List Int) : Bool := decide (∀ k, k < h.length → takenB h many k = true → ∀ i, i < k → bef h k i = true → takenB h many i = true)
end Go.Proofs.YtpgonkecicmanaaDoor
/- How arguments that hold structs read, as plain facts: events, views. -/
namespace Go.Proofs.YtpgonkecicmanaaDoor
set_option linter.unusedVariables false
set_option linter.unusedSimpArgs false
open Go.ChangeShapes Go.WideShapes Go.ChangeAt Go.RowKit Go.Deep
open Go.ChangeMaps (open_string shut_string)
variable {H : Type} {enc : TypeId × Value → H} {w : World} {b0 : Nat} {d : DataW H} {p : List MemPlace} {v : Value}
/-- A slice of structs, off its cells' reading. -/
theorem trod_recs {α : Type} (cells : α → List Value) (sz : Nat) (hsz : ∀ x, (cells x).length = sz) (hpos : 0 < sz) (good : α → Prop) {t e : TypeId} (ht : Tryd.prog.underlying t = some (.slice e)) (hce : Tryd.prog.cellsOf e = sz)
    (hel : ∀ n cs x, DataW.trod enc Tryd.prog w 0 (fun _ => true) true n e cs = some x → ∃ y, cs = cells y ∧ good y)
    {fuel : Nat} {cs : List Value} {x : DataW H × List MemPlace} (h : DataW.trod enc Tryd.prog w 0 (fun _ => true) true fuel t cs = some x) :
    ∃ (v : Value) (l : List α), cs = [v] ∧ Rd w v l.length (l.flatMap cells) ∧ ∀ x ∈ l, good x := by
  rcases open_slice ht h with ⟨rfl, _⟩ | ⟨a, len, cap, m, n, D, Pl, rfl, _, hl, hm, hmm, _, hx⟩
  · exact ⟨_, [], rfl, ⟨none, 0, rfl, Nat.le_refl _, Nat.zero_le _, fun _ => rfl, fun i u h => by simp at h⟩, fun x h => by cases h⟩
  have hlm : len ≤ m := by rw [hmm]; split <;> omega
  obtain ⟨l, hll, hlx⟩ := list_of len (fun i y => (∀ j, j < sz → w.cell? (a.add (i * sz + j)) = (cells y)[j]?) ∧ good y) (fun i hi => by
    obtain ⟨cs', h1, h2⟩ := hx i (by omega)
    rw [hce] at h1
    obtain ⟨_, hlen, hcell⟩ := World.cells?_some h1
    obtain ⟨y, rfl, hg⟩ := hel _ _ _ h2
    exact ⟨y, fun j hj => by rw [← add_add]; exact hcell j hj, hg⟩)
  refine ⟨_, l, rfl, ?_, fun x hx => ?_⟩
  · rw [hll]
    refine ⟨some a, cap, rfl, hl, hm, by simp, fun i u hu => ⟨a, rfl, ?_⟩⟩
    have hi : i < l.length * sz := by
      have := (List.getElem?_eq_some_iff.1 hu).1
      rwa [cells_len cells sz hsz] at this
    have hk : i / sz < l.length := by rw [Nat.div_lt_iff_lt_mul hpos]; exact hi
    have hj : i % sz < sz := Nat.mod_lt _ hpos
    have hij : i / sz * sz + i % sz = i := by rw [Nat.mul_comm]; exact Nat.div_add_mod i sz
    have h1 := cells_get cells sz hsz l (i / sz) (i % sz) hk hj
    rw [hij, hu] at h1
    have h2 := (hlx (i / sz) l[i / sz] (List.getElem?_eq_getElem hk)).1 (i % sz) hj
    rw [hij] at h2
    rw [h2, ← h1]
  · obtain ⟨i, hi, rfl⟩ := List.getElem_of_mem hx
    exact (hlx i _ (List.getElem?_eq_getElem hi)).2
def evCells (e : Ev) : List Value := [.int .i64 e.1, .int .i64 e.2.1, .int .i64 e.2.2]
def goodEv (e : Ev) : Prop := I64 e.1 ∧ I64 e.2.1 ∧ I64 e.2.2
def Evs (w : World) (v : Value) (h : List Ev) : Prop := Rd w v h.length (h.flatMap evCells) ∧ ∀ e ∈ h, goodEv e
set_option maxRecDepth 100000 in
theorem trod_ev (n : Nat) (cs : List Value) (x : DataW H × List MemPlace) (h : DataW.trod enc Tryd.prog w 0 (fun _ => true) true n 101 cs = some x) : ∃ e : Ev, cs = evCells e ∧ goodEv e := by
  obtain ⟨xs, n, _, _, hl, hxl, hf⟩ := DataW.trod_struct Tryd.underlying101 h
  have hl3 : cs.length = 3 := by rw [hl]; kernel_rfl
  have hx3 : xs.length = 3 := by rw [hxl]; rfl
  match cs, hl3, xs, hx3 with
  | [a, b, c], _, [x0, x1, x2], _ =>
    have g0 : DataW.trod enc Tryd.prog w 0 (fun _ => true) true n 3 ((([a, b, c] : List Value).drop 0).take (Tryd.prog.cellsOf 3)) = some x0 := hf 0 _ rfl
    have g1 : DataW.trod enc Tryd.prog w 0 (fun _ => true) true n 3 ((([a, b, c] : List Value).drop 1).take (Tryd.prog.cellsOf 3)) = some x1 := hf 1 _ rfl
    have g2 : DataW.trod enc Tryd.prog w 0 (fun _ => true) true n 3 ((([a, b, c] : List Value).drop 2).take (Tryd.prog.cellsOf 3)) = some x2 := hf 2 _ rfl
    rw [cells_int] at g0 g1 g2
    obtain ⟨n0, e0, _, w0⟩ := DataW.trod_int Tryd.underlying3 g0
    obtain ⟨n1, e1, _, w1⟩ := DataW.trod_int Tryd.underlying3 g1
    obtain ⟨n2, e2, _, w2⟩ := DataW.trod_int Tryd.underlying3 g2
    simp at e0 e1 e2
    subst e0 e1 e2
    exact ⟨(n0, n1, n2), rfl, I64_of_wf w0, I64_of_wf w1, I64_of_wf w2⟩
set_option maxRecDepth 100000 in
theorem arg_events (hv : Value.okWide Tryd.prog w .any b0 96 v) (h : DataW.Trod enc Tryd.prog w 0 (fun _ => true) true 96 v d p) : ∃ l, Evs w v l := by
  obtain ⟨ad, n, c, rfl⟩ := okWide_slice Tryd.underlying96 hv
  obtain ⟨fuel, hf⟩ := h
  obtain ⟨v', l, he, hr⟩ := trod_recs evCells 3 (fun _ => rfl) (by omega) goodEv Tryd.underlying96 (by kernel_rfl) trod_ev hf
  simp [Value.cells] at he
  exact ⟨l, he ▸ hr⟩
set_option maxRecDepth 100000 in
theorem arg_view (hv : Value.okWide Tryd.prog w .any b0 87 v) (h : DataW.Trod enc Tryd.prog w 0 (fun _ => true) true 87 v d p) : ∃ l : Int × Value × List Int, v = .agg #[.int .i64 l.1, l.2.1] ∧ I64 l.1 ∧ Ints w l.2.1 l.2.2 := by
  obtain ⟨cs, rfl, hsz⟩ := okWide_struct Tryd.underlying87 hv
  obtain ⟨fuel, hf⟩ := h
  obtain ⟨xs, n, _, _, hl, hxl, hf⟩ := DataW.trod_struct Tryd.underlying87 hf
  have hl2 : cs.toList.length = 2 := by simp; rw [hsz]; kernel_rfl
  have hx2 : xs.length = 2 := by rw [hxl]; rfl
  obtain ⟨cs⟩ := cs
  match cs, hl2, xs, hx2 with
  | [a, b], _, [x0, x1], _ =>
    have g0 : DataW.trod enc Tryd.prog w 0 (fun _ => true) true n 3 ((([a, b] : List Value).drop 0).take (Tryd.prog.cellsOf 3)) = some x0 := hf 0 _ rfl
    have g1 : DataW.trod enc Tryd.prog w 0 (fun _ => true) true n 38 ((([a, b] : List Value).drop 1).take (Tryd.prog.cellsOf 38)) = some x1 := hf 1 _ rfl
    rw [cells_int] at g0
    rw [show Tryd.prog.cellsOf 38 = 1 by kernel_rfl] at g1
    obtain ⟨n0, e0, _, w0⟩ := DataW.trod_int Tryd.underlying3 g0
    obtain ⟨v', l, e1, hr⟩ := trod_ints g1
    simp [Value.cells] at e0 e1
    subst e0 e1
    exact ⟨(n0, _, l), rfl, I64_of_wf w0, hr⟩
end Go.Proofs.YtpgonkecicmanaaDoor
