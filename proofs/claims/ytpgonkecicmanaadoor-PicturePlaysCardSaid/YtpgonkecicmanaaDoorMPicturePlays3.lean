/- A picture of members, plainly: its steps keep what holds of it; when all has come it is done. -/
import Derived.Test.YtpgonkecicmanaaDoorMPicturePlays2
import Derived.Test.YtpgonkecicmanaaDoorMPicturePlays1
namespace Go.Proofs.YtpgonkecicmanaaDoor
set_option linter.unusedVariables false
set_option linter.unusedSimpArgs false
open Go.RowKit Go.Maps
theorem pair_eq (a b x y : Int) : ((a, b) = (x, y)) ↔ (x = a ∧ y = b) := by
  constructor
  · intro h; cases h; exact ⟨rfl, rfl⟩
  · rintro ⟨rfl, rfl⟩; rfl
theorem row_put (m : List ((Int × Int) × List Int)) (a b x y : Int) (l : List Int) : (mget (mput m (a, b) l) (x, y)).getD [] = if x = a ∧ y = b then l else (mget m (x, y)).getD [] := by
  rw [mget_mput]
  by_cases h : x = a ∧ y = b
  · rw [if_pos ((pair_eq _ _ _ _).2 h), if_pos h]; rfl
  · rw [if_neg (fun e => h ((pair_eq _ _ _ _).1 e)), if_neg h]
theorem opn_put (m : List ((Int × Int) × Int)) (a b x y : Int) (z : Int) : mget (mput m (a, b) z) (x, y) = if x = a ∧ y = b then some z else mget m (x, y) := by
  rw [mget_mput]
  by_cases h : x = a ∧ y = b
  · rw [if_pos ((pair_eq _ _ _ _).2 h), if_pos h]
  · rw [if_neg (fun e => h ((pair_eq _ _ _ _).1 e)), if_neg h]
theorem opn_del (m : List ((Int × Int) × Int)) (hn : (m.map (·.1)).Nodup) (a b x y : Int) : mget (mdel m (a, b)) (x, y) = if x = a ∧ y = b then none else mget m (x, y) := by
  rw [mget_mdel m hn]
  by_cases h : x = a ∧ y = b
  · rw [if_pos ((pair_eq _ _ _ _).2 h), if_pos h]
  · rw [if_neg (fun e => h ((pair_eq _ _ _ _).1 e)), if_neg h]
theorem pcHas_bd {s : Pic} {m : Int} (h : pcHas s m = true) : 0 ≤ m ∧ m < s.gold.length := by unfold pcHas at h; simpa using h
theorem pv_ext {u v : PV} (h1 : u.n = v.n) (h2 : ∀ m, u.g m = v.g m) (h3 : ∀ a b, u.row a b = v.row a b) (h4 : ∀ m, u.W m = v.W m) (h5 : ∀ a b, u.O a b = v.O a b) (h6 : u.on = v.on) (h7 : u.begun = v.begun) : u = v := by
  cases u; cases v
  simp only at h1 h2 h3 h4 h5 h6 h7
  rw [h1, show _ = _ from funext h2, show _ = _ from funext fun a => funext (h3 a), show _ = _ from funext h4, show _ = _ from funext fun a => funext (h5 a), h6, h7]
theorem pv_pay {s : Pic} {a b n : Int} (h : pcPayErr s a b n = 0) : pvOf (pcPay s a b n) = pvPay (pvOf s) a b n ∧ (pvOf s).way a b ∧ (1 ≤ n ∧ n ≤ 1000) ∧ n ≤ pcG s a ∧ (pcRow s a b).length < 40 := by
  have h' := h
  unfold pcPayErr at h
  by_cases h1 : pcWay s a b = 0
  rotate_left
  · rw [if_pos h1] at h; exact absurd h h1
  rw [if_neg (by simpa using h1)] at h
  by_cases h2 : n < 1 ∨ 1000 < n
  · rw [if_pos h2] at h; cases h
  rw [if_neg h2] at h
  by_cases h3 : pcG s a < n
  · rw [if_pos h3] at h; cases h
  rw [if_neg h3] at h
  by_cases h4 : 40 ≤ (pcRow s a b).length
  · rw [if_pos h4] at h; cases h
  have hw := pcWay0.1 h1
  refine ⟨?_, hw, by omega, by omega, by omega⟩
  unfold pcPay
  rw [if_pos h']
  refine pv_ext (by simp [pvOf, pvPay]) (fun m => gAt_set _ _ _ _ hw.1) (fun x y => row_put _ _ _ _ _ _) (fun _ => rfl) (fun _ _ => rfl) rfl rfl
/-- What is sent, of the first k. -/
structure OutK (s t : Pic) (who : Int) (k : Nat) : Prop where
  gold : t.gold = s.gold
  begun : t.begun = s.begun
  wrote : t.wrote = s.wrote
  on : t.onWay = s.onWay
  row : ∀ x y, pcRow t x y = if x = who ∧ (y ≠ who ∧ 0 ≤ y ∧ y < k) then pcRow s x y ++ [0] else pcRow s x y
  opn : ∀ x y, mget t.opn (x, y) = if y = who ∧ (x ≠ who ∧ 0 ≤ x ∧ x < k) then some 0 else mget s.opn (x, y)
  nd : (s.opn.map (·.1)).Nodup → (t.opn.map (·.1)).Nodup
theorem out_k (s : Pic) (who : Int) : ∀ k : Nat, OutK s ((memN k).foldl (pcOut who) s) who k
  | 0 => ⟨rfl, rfl, rfl, rfl, fun x y => by rw [if_neg (by omega)]; rfl, fun x y => by rw [if_neg (by omega)]; rfl, fun h => h⟩
  | k + 1 => by
    have ih := out_k s who k
    rw [memN_snoc, List.foldl_append]
    obtain ⟨t, ht⟩ : ∃ t, t = (memN k).foldl (pcOut who) s := ⟨_, rfl⟩
    rw [← ht] at ih ⊢
    show OutK s (pcOut who t k) who (k + 1)
    unfold pcOut
    by_cases hk : (k : Int) = who
    · rw [if_pos hk]
      refine ⟨ih.gold, ih.begun, ih.wrote, ih.on, fun x y => ?_, fun x y => ?_, ih.nd⟩
      · rw [ih.row]
        by_cases h : x = who ∧ (y ≠ who ∧ 0 ≤ y ∧ y < k)
        · rw [if_pos h, if_pos ⟨h.1, h.2.1, h.2.2.1, by omega⟩]
        · rw [if_neg h, if_neg (by omega)]
      · rw [ih.opn]
        by_cases h : y = who ∧ (x ≠ who ∧ 0 ≤ x ∧ x < k)
        · rw [if_pos h, if_pos ⟨h.1, h.2.1, h.2.2.1, by omega⟩]
        · rw [if_neg h, if_neg (by omega)]
    · rw [if_neg hk]
      refine ⟨ih.gold, ih.begun, ih.wrote, ih.on, fun x y => ?_, fun x y => ?_, fun h => mput_nodup (ih.nd h)⟩
      · show (mget (mput t.ways (who, (k : Int)) _) (x, y)).getD [] = _
        rw [row_put]
        by_cases h : x = who ∧ y = k
        · rw [if_pos h, if_pos (by omega), ih.row, if_neg (by omega), h.1, h.2]
        · rw [if_neg h]
          show pcRow t x y = _
          rw [ih.row]
          by_cases h' : x = who ∧ (y ≠ who ∧ 0 ≤ y ∧ y < k)
          · rw [if_pos h', if_pos ⟨h'.1, h'.2.1, h'.2.2.1, by omega⟩]
          · rw [if_neg h', if_neg (by omega)]
      · show mget (mput t.opn ((k : Int), who) 0) (x, y) = _
        rw [opn_put]
        by_cases h : x = k ∧ y = who
        · rw [if_pos h, if_pos (by omega)]
        · rw [if_neg h, ih.opn]
          by_cases h' : y = who ∧ (x ≠ who ∧ 0 ≤ x ∧ x < k)
          · rw [if_pos h', if_pos ⟨h'.1, h'.2.1, h'.2.2.1, by omega⟩]
          · rw [if_neg h', if_neg (by omega)]
theorem write_out (s : Pic) (who : Int) : OutK (pcWrite0 s who) (pcWrite s who) who s.gold.length := out_k _ _ _
theorem pv_write {s : Pic} {who : Int} (hb : s.begun = true) (hm : pcHas s who = true) : pvOf (pcWrite s who) = pvWrite (pvOf s) who := by
  have h := write_out s who
  have hm' := pcHas_bd hm
  have hg : (pcWrite s who).gold = s.gold := h.gold
  have hway : ∀ x y, (pvOf s).way x y ↔ ((0 ≤ x ∧ x < s.gold.length) ∧ (0 ≤ y ∧ y < s.gold.length) ∧ x ≠ y) := fun x y => Iff.rfl
  refine pv_ext (by show (pcWrite s who).gold.length = _; rw [hg]; rfl) (fun m => by show gAt (pcWrite s who).gold m = _; rw [hg]; rfl) (fun x y => ?_) (fun m => ?_) (fun x y => ?_) ?_ ?_
  · show pcRow (pcWrite s who) x y = if x = who ∧ (pvOf s).way x y then pcRow s x y ++ [0] else pcRow s x y
    rw [h.row]
    by_cases hc : x = who ∧ (pvOf s).way x y
    · have := (hway x y).1 hc.2
      rw [if_pos ⟨hc.1, by omega⟩, if_pos hc]; rfl
    · rw [if_neg (fun e => hc ⟨e.1, (hway x y).2 (by omega)⟩), if_neg hc]; rfl
  · show mget (pcWrite s who).wrote m = if m = who then some (pcG s who) else mget s.wrote m
    rw [h.wrote]
    show mget (mput s.wrote who (pcG s who)) m = _
    rw [mget_mput]
    by_cases hc : m = who
    · rw [if_pos hc.symm, if_pos hc]
    · rw [if_neg (fun e => hc e.symm), if_neg hc]
  · show mget (pcWrite s who).opn (x, y) = if y = who ∧ (pvOf s).way x y then some 0 else mget s.opn (x, y)
    rw [h.opn]
    by_cases hc : y = who ∧ (pvOf s).way x y
    · have := (hway x y).1 hc.2
      rw [if_pos ⟨hc.1, by omega⟩, if_pos hc]
    · rw [if_neg (fun e => hc ⟨e.1, (hway x y).2 (by omega)⟩), if_neg hc]; rfl
  · exact h.on
  · exact h.begun.trans hb
structure PcInv (all : Int) (s : Pic) : Prop where
  inv : PInv all (pvOf s)
  wnd : (s.wrote.map (·.1)).Nodup
  ond : (s.opn.map (·.1)).Nodup
theorem write_nd {s : Pic} (who : Int) (h1 : (s.wrote.map (·.1)).Nodup) (h2 : (s.opn.map (·.1)).Nodup) : ((pcWrite s who).wrote.map (·.1)).Nodup ∧ ((pcWrite s who).opn.map (·.1)).Nodup := by
  have h := write_out s who
  refine ⟨?_, h.nd h2⟩
  rw [h.wrote]
  exact mput_nodup h1
theorem PcInv.pay {all : Int} {s : Pic} (h : PcInv all s) (a b n : Int) : PcInv all (pcPay s a b n) := by
  by_cases he : pcPayErr s a b n = 0
  · obtain ⟨h1, h2, h3, h4, h5⟩ := pv_pay he
    refine ⟨by rw [h1]; exact h.inv.pay h2 h3 h4 h5, ?_, ?_⟩
    · unfold pcPay; rw [if_pos he]; exact h.wnd
    · unfold pcPay; rw [if_pos he]; exact h.ond
  · unfold pcPay; rw [if_neg he]; exact h
theorem PcInv.beg' {all : Int} {s : Pic} (h : PcInv all s) (hb : s.begun = false) : PcInv all s ∧ ∀ m, mget s.wrote m = none := by
  refine ⟨h, fun m => ?_⟩
  cases hm : mget s.wrote m with
  | none => rfl
  | some x =>
    have := h.inv.beg.2 ⟨m, by show (mget s.wrote m).isSome = true; rw [hm]; rfl⟩
    rw [show (pvOf s).begun = s.begun from rfl, hb] at this; cases this
theorem PcInv.begin {all : Int} {s : Pic} (h : PcInv all s) (who : Int) : PcInv all (pcBegin s who) := by
  unfold pcBegin
  by_cases he : pcBeginErr s who = 0
  · rw [if_pos he]
    unfold pcBeginErr at he
    cases hm : pcHas s who
    · rw [if_pos hm] at he; cases he
    rw [if_neg (by rw [hm]; simp)] at he
    cases hb : s.begun
    · obtain ⟨_, hno⟩ := h.beg' hb
      have hw := write_nd (s := { s with begun := true }) who h.wnd h.ond
      refine ⟨?_, hw.1, hw.2⟩
      rw [pv_write (s := { s with begun := true }) rfl hm]
      have h1 := h.inv.write (who := who) (pcHas_mem.1 hm) (hno who)
      exact h1
    · rw [if_pos hb] at he; cases he
  · rw [if_neg he]; exact h
theorem come_cases (s : Pic) (a b : Int) : (pcComeErr s a b ≠ 0 ∧ pcCome s a b = s) ∨ (∃ n r, pcComeErr s a b = 0 ∧ (pvOf s).way a b ∧ pcRow s a b = n :: r ∧ pcComeVal s a b = n ∧ pcCome s a b = if n = 0 then pcMark (pcPop s a b) a b else pcGet2 (pcGet1 (pcPop s a b) b n) a b n) := by
  by_cases he : pcComeErr s a b = 0
  · right
    have he' := he
    unfold pcComeErr at he
    by_cases h1 : pcWay s a b = 0
    rotate_left
    · rw [if_pos h1] at he; exact absurd he h1
    rw [if_neg (by simpa using h1)] at he
    cases hr : pcRow s a b with
    | nil => rw [if_pos hr] at he; cases he
    | cons n r =>
      have hv : pcComeVal s a b = n := by unfold pcComeVal; rw [if_pos he', hr]; rfl
      refine ⟨n, r, he', pcWay0.1 h1, rfl, hv, ?_⟩
      unfold pcCome
      rw [if_pos he', hv]
  · left
    exact ⟨he, by unfold pcCome; rw [if_neg he]⟩
theorem pv_get {s : Pic} {a b n : Int} {r : List Int} (hw : (pvOf s).way a b) (hr : pcRow s a b = n :: r) : pvOf (pcGet2 (pcGet1 (pcPop s a b) b n) a b n) = pvGet (pvOf s) a b n := by
  have hb := hw.2.1
  unfold pcGet2
  by_cases ho : (mget s.opn (a, b)).isSome = true
  · rw [if_pos (show (mget (pcGet1 (pcPop s a b) b n).opn (a, b)).isSome = true from ho)]
    refine pv_ext (by simp [pvOf, pvGet, pcGet1, pcPop]) (fun m => gAt_set _ _ _ _ hb) (fun x y => row_put _ _ _ _ _ _) (fun _ => rfl) (fun x y => ?_) rfl rfl
    show mget (mput s.opn (a, b) _) (x, y) = if x = a ∧ y = b then (mget s.opn (a, b)).map (· + n) else mget s.opn (x, y)
    rw [opn_put]
    by_cases hc : x = a ∧ y = b
    · rw [if_pos hc, if_pos hc]
      cases hx : mget s.opn (a, b) with
      | none => rw [hx] at ho; cases ho
      | some z => show some ((mget s.opn (a, b)).getD 0 + n) = _; rw [hx]; rfl
    · rw [if_neg hc, if_neg hc]
  · rw [if_neg (show ¬ (mget (pcGet1 (pcPop s a b) b n).opn (a, b)).isSome = true from ho)]
    refine pv_ext (by simp [pvOf, pvGet, pcGet1, pcPop]) (fun m => gAt_set _ _ _ _ hb) (fun x y => row_put _ _ _ _ _ _) (fun _ => rfl) (fun x y => ?_) rfl rfl
    show mget s.opn (x, y) = if x = a ∧ y = b then (mget s.opn (a, b)).map (· + n) else mget s.opn (x, y)
    by_cases hc : x = a ∧ y = b
    · rw [if_pos hc, hc.1, hc.2]
      cases hx : mget s.opn (a, b) with
      | none => rfl
      | some z => rw [hx] at ho; exact absurd rfl ho
    · rw [if_neg hc]
theorem pv_markO {t : Pic} (hn : (t.opn.map (·.1)).Nodup) (a b : Int) : pvOf (pcMarkO t a b) = { pvOf t with O := fun x y => if x = a ∧ y = b then none else (pvOf t).O x y, on := (pvOf t).on + ((pvOf t).O a b).getD 0 } :=
  pv_ext rfl (fun _ => rfl) (fun _ _ => rfl) (fun _ => rfl) (fun x y => opn_del _ hn _ _ _ _) rfl rfl
theorem pv_pop (s : Pic) (a b : Int) : pvOf (pcPop s a b) = { pvOf s with row := fun x y => if x = a ∧ y = b then (pcRow s a b).tail else pcRow s x y } :=
  pv_ext rfl (fun _ => rfl) (fun x y => row_put _ _ _ _ _ _) (fun _ => rfl) (fun _ _ => rfl) rfl rfl
theorem pv_mark {s : Pic} {a b : Int} (hn : (s.opn.map (·.1)).Nodup) (hW : (mget s.wrote b).isSome = true) : pvOf (pcMark (pcPop s a b) a b) = pvMark (pvOf s) a b := by
  unfold pcMark pcMarkW
  rw [if_pos (show (mget (pcPop s a b).wrote b).isSome = true from hW), pv_markO (t := pcPop s a b) hn, pv_pop]
  rfl
theorem pv_markW {s : Pic} {a b : Int} (hb : s.begun = true) (hw : (pvOf s).way a b) (hn : (s.opn.map (·.1)).Nodup) (hW : mget s.wrote b = none) : pvOf (pcMark (pcPop s a b) a b) = pvMark (pvWrite (pvOf s) b) a b := by
  unfold pcMark pcMarkW
  rw [if_neg (show ¬ (mget (pcPop s a b).wrote b).isSome = true by show ¬ (mget s.wrote b).isSome = true; rw [hW]; simp)]
  have hm : pcHas (pcPop s a b) b = true := pcHas_mem.2 hw.2.1
  rw [pv_markO (by
    have h := write_out (pcPop s a b) b
    exact h.nd hn), pv_write (by exact hb) hm, pv_pop]
  refine pv_ext rfl (fun _ => rfl) (fun x y => ?_) (fun _ => rfl) (fun _ _ => rfl) rfl rfl
  have hab := hw.2.2
  show (if x = b ∧ (pvOf s).way x y then (if x = a ∧ y = b then (pcRow s a b).tail else pcRow s x y) ++ [0] else if x = a ∧ y = b then (pcRow s a b).tail else pcRow s x y) = if x = a ∧ y = b then (if a = b ∧ (pvOf s).way a b then pcRow s a b ++ [0] else pcRow s a b).tail else if x = b ∧ (pvOf s).way x y then pcRow s x y ++ [0] else pcRow s x y
  by_cases hx : x = a ∧ y = b
  · rw [if_pos hx, if_pos hx, if_neg (fun e => hab (hx.1.symm.trans e.1)), if_neg (fun e => hab e.1)]
  · rw [if_neg hx, if_neg hx]
/-- What comes, as functions. -/
theorem PcInv.come_pv {all : Int} {s : Pic} (h : PcInv all s) (a b : Int) :
    (pcComeErr s a b ≠ 0 ∧ pcCome s a b = s) ∨ (∃ n r, pcComeErr s a b = 0 ∧ (pvOf s).way a b ∧ pcRow s a b = n :: r ∧ pcComeVal s a b = n ∧ ((n ≠ 0 ∧ pvOf (pcCome s a b) = pvGet (pvOf s) a b n) ∨ (n = 0 ∧ (mget s.wrote b).isSome = true ∧ pvOf (pcCome s a b) = pvMark (pvOf s) a b) ∨ (n = 0 ∧ mget s.wrote b = none ∧ pvOf (pcCome s a b) = pvMark (pvWrite (pvOf s) b) a b))) := by
  rcases come_cases s a b with h1 | ⟨n, r, h1, h2, h3, h4, h5⟩
  · exact .inl h1
  · refine .inr ⟨n, r, h1, h2, h3, h4, ?_⟩
    by_cases h0 : n = 0
    · subst h0
      rw [if_pos rfl] at h5
      rw [h5]
      cases hW : mget s.wrote b with
      | some z => exact .inr (.inl ⟨rfl, by simp, pv_mark h.ond (by rw [hW]; rfl)⟩)
      | none =>
        have hb : s.begun = true := by
          refine h.inv.beg.2 ⟨a, ?_⟩
          cases hx : (pvOf s).W a with
          | none => have := h.inv.mark0 a b hx; rw [show (pvOf s).row a b = pcRow s a b from rfl, h3] at this; simp at this
          | some z => rfl
        exact .inr (.inr ⟨rfl, rfl, pv_markW hb h2 h.ond hW⟩)
    · rw [if_neg h0] at h5
      rw [h5]
      exact .inl ⟨h0, pv_get h2 h3⟩
theorem come_nd {s : Pic} (h1 : (s.wrote.map (·.1)).Nodup) (h2 : (s.opn.map (·.1)).Nodup) (a b : Int) : ((pcCome s a b).wrote.map (·.1)).Nodup ∧ ((pcCome s a b).opn.map (·.1)).Nodup := by
  rcases come_cases s a b with h | ⟨n, r, _, _, _, _, h5⟩
  · rw [h.2]; exact ⟨h1, h2⟩
  · rw [h5]
    split
    · have hw : ((pcMarkW (pcPop s a b) b).wrote.map (·.1)).Nodup ∧ ((pcMarkW (pcPop s a b) b).opn.map (·.1)).Nodup := by
        unfold pcMarkW
        split
        · exact ⟨h1, h2⟩
        · exact write_nd b h1 h2
      exact ⟨hw.1, mdel_nodup hw.2⟩
    · unfold pcGet2
      split
      · exact ⟨h1, mput_nodup h2⟩
      · exact ⟨h1, h2⟩
theorem PcInv.come {all : Int} {s : Pic} (h : PcInv all s) (a b : Int) : PcInv all (pcCome s a b) := by
  have hnd := come_nd h.wnd h.ond a b
  refine ⟨?_, hnd.1, hnd.2⟩
  rcases h.come_pv a b with ⟨_, h1⟩ | ⟨n, r, _, hw, hr, _, ⟨hn, e⟩ | ⟨hn, hW, e⟩ | ⟨hn, hW, e⟩⟩
  · rw [h1]; exact h.inv
  · rw [e]; exact h.inv.get hr hn
  · rw [e]; subst hn; exact h.inv.mark hr hW
  · rw [e]; subst hn
    have hab := hw.2.2
    refine (h.inv.write hw.2.1 hW).mark (r := r) ?_ ?_
    · show (if a = b ∧ _ then _ else pcRow s a b) = _
      rw [if_neg (fun e => hab e.1)]; exact hr
    · show (if b = b then some _ else _).isSome = true
      rw [if_pos rfl]; rfl
theorem PcInv.keysW {all : Int} {s : Pic} (h : PcInv all s) : ∀ p ∈ s.wrote, 0 ≤ p.1 ∧ p.1 < s.gold.length := by
  intro p hp
  obtain ⟨j, hj, rfl⟩ := List.getElem_of_mem hp
  have hg := mget_at h.wnd (j := j) (x := s.wrote[j].1) (u := s.wrote[j].2) (by rw [List.getElem?_eq_getElem hj])
  exact (h.inv.W0 _ _ hg).1
theorem PcInv.had {all : Int} {s : Pic} (h : PcInv all s) : pcHad s = sumU s.gold.length fun m => (mget s.wrote m).getD 0 := mget_sum _ _ h.wnd h.keysW
theorem PcInv.done_iff {all : Int} {s : Pic} (h : PcInv all s) : pcDone s = true ↔ (∀ m, (pvOf s).mem m → ((pvOf s).W m).isSome = true) ∧ ∀ a b, (pvOf s).O a b = none := by
  unfold pcDone
  rw [Bool.and_eq_true, decide_eq_true_eq, decide_eq_true_eq]
  have h1 := mget_count s.gold.length s.wrote h.wnd h.keysW
  have h2 := (sumU_ones s.gold.length fun m => (mget s.wrote m).isSome).2
  refine and_congr ?_ ?_
  · constructor
    · intro e m hm; exact h2.1 (by omega) m hm
    · intro e; have := h2.2 e; omega
  · constructor
    · intro e a b
      show mget s.opn (a, b) = none
      rw [List.eq_nil_of_length_eq_zero e]; rfl
    · intro e
      cases ho : s.opn with
      | nil => rfl
      | cons p r =>
        have := e p.1.1 p.1.2
        rw [show (pvOf s).O p.1.1 p.1.2 = mget s.opn (p.1.1, p.1.2) from rfl, ho] at this
        simp [mget] at this
/-- What is done shows all gold that there is. -/
theorem PcInv.shows {all : Int} {s : Pic} (h : PcInv all s) (hd : pcDone s = true) : pcHad s + s.onWay = all ∧ 0 ≤ pcHad s ∧ 0 ≤ s.onWay := by
  obtain ⟨h1, h2⟩ := h.done_iff.1 hd
  have := h.inv.done h1 h2
  rw [h.had]
  refine ⟨this, sumU_pos _ fun m _ => ?_, h.inv.on0⟩
  cases hx : mget s.wrote m with
  | none => simp
  | some z => exact (h.inv.W0 m z hx).2
theorem pcInv_new (gold : List Int) (hl : 2 ≤ gold.length ∧ gold.length ≤ 5) (h : ∀ x ∈ gold, 0 ≤ x ∧ x ≤ 1000) : PcInv gold.sum (pcNew gold) := by
  refine ⟨?_, by simp [pcNew], by simp [pcNew]⟩
  have hs : sumU gold.length (gAt gold) = gold.sum := sumU_list gold
  have hz : sumUU gold.length (fun _ _ => (0 : Int)) = 0 := sumUU_zero _ fun _ _ => rfl
  constructor
  · exact hl
  · intro m
    show 0 ≤ gAt gold m
    unfold gAt
    split
    · rw [List.getD_eq_getElem?_getD]
      cases hx : gold[m.toNat]? with
      | none => simp
      | some z => exact (h z (List.mem_of_getElem? hx)).1
    · omega
  · intro a b y hy; cases hy
  · intro a b; show (0 : Nat) ≤ _; omega
  · intro a b _; rfl
  · intro m x hx; cases hx
  · intro a b x hx; cases hx
  · intro a b _ hm; cases hm
  · intro a b; show (0 : Nat) ≤ 1; omega
  · intro a b _ hx _; cases hx
  · intro a b _ hx; cases hx
  · show (0 : Int) ≤ 0; omega
  · constructor
    · intro e; cases e
    · rintro ⟨m, hm⟩; cases hm
  · show sumU gold.length (gAt gold) + sumUU gold.length (fun _ _ => (0 : Int)) = _
    rw [hs, hz]; omega
  · show sumU gold.length (gAt gold) + sumUU gold.length (fun _ _ => (0 : Int)) + 0 = _
    rw [hs, hz]; omega
/-! ### Till all has come -/
def pcIt (s : Pic) (a b : Int) : Nat → Pic
  | 0 => s
  | k + 1 => pcCome (pcIt s a b k) a b
theorem pcIt_inv {all : Int} {s : Pic} (h : PcInv all s) (a b : Int) : ∀ k, PcInv all (pcIt s a b k)
  | 0 => h
  | k + 1 => (pcIt_inv h a b k).come a b
theorem pcIt_stop {s : Pic} {a b : Int} {k : Nat} (h : pcComeErr (pcIt s a b k) a b ≠ 0) : ∀ j, pcIt s a b (k + j) = pcIt s a b k
  | 0 => rfl
  | j + 1 => by
    rw [← Nat.add_assoc]
    show pcCome (pcIt s a b (k + j)) a b = _
    rw [pcIt_stop h j]
    unfold pcCome
    rw [if_neg h]
theorem PcInv.come_len {all : Int} {s : Pic} (h : PcInv all s) (a b : Int) : (pcCome s a b).gold.length = s.gold.length ∧ (pcCome s a b).begun = s.begun ∧ (∀ m, ((pvOf s).W m).isSome = true → ((pvOf (pcCome s a b)).W m).isSome = true) := by
  have key : (pvOf (pcCome s a b)).n = (pvOf s).n ∧ (pvOf (pcCome s a b)).begun = (pvOf s).begun ∧ (∀ m, ((pvOf s).W m).isSome = true → ((pvOf (pcCome s a b)).W m).isSome = true) := by
    rcases h.come_pv a b with ⟨_, h1⟩ | ⟨n, r, _, hw, hr, _, ⟨hn, e⟩ | ⟨hn, hW, e⟩ | ⟨hn, hW, e⟩⟩
    · rw [h1]; exact ⟨rfl, rfl, fun m hm => hm⟩
    · rw [e]; exact ⟨rfl, rfl, fun m hm => hm⟩
    · rw [e]; exact ⟨rfl, rfl, fun m hm => hm⟩
    · rw [e]
      refine ⟨rfl, ?_, fun m hm => ?_⟩
      · show true = _
        have : (pvOf s).begun = true := h.inv.beg.2 ⟨a, by
          cases hx : (pvOf s).W a with
          | none => have := h.inv.mark0 a b hx; rw [show (pvOf s).row a b = pcRow s a b from rfl, hr, hn] at this; simp at this
          | some z => rfl⟩
        rw [this]
      · show (if m = b then some _ else (pvOf s).W m).isSome = true
        split
        · rfl
        · exact hm
  exact key
theorem PcInv.come_row {all : Int} {s : Pic} (h : PcInv all s) {a b : Int} (hw : (pvOf s).way a b) : pcRow (pcCome s a b) a b = (pcRow s a b).tail := by
  rcases h.come_pv a b with ⟨h0, h1⟩ | ⟨n, r, _, hw, hr, _, ⟨hn, e⟩ | ⟨hn, hW, e⟩ | ⟨hn, hW, e⟩⟩
  · rw [h1]
    unfold pcComeErr at h0
    rw [if_neg (by simpa using pcWay0.2 hw)] at h0
    by_cases hr : pcRow s a b = []
    · rw [hr]; rfl
    · rw [if_neg hr] at h0; exact absurd rfl h0
  · show (pvOf (pcCome s a b)).row a b = _
    rw [e]; simp [pvGet]; rfl
  · show (pvOf (pcCome s a b)).row a b = _
    rw [e]; simp [pvMark]; rfl
  · show (pvOf (pcCome s a b)).row a b = _
    rw [e]; simp only [pvMark, pvWrite, and_self, if_true]
    rw [if_neg (fun e => hw.2.2 e.1)]; rfl
/-- All have written, if it has begun. -/
def pcAllW (s : Pic) : Prop := s.begun = true → ∀ m, (pvOf s).mem m → ((pvOf s).W m).isSome = true
theorem PcInv.come_allW {all : Int} {s : Pic} (h : PcInv all s) (hA : pcAllW s) (a b : Int) : pcAllW (pcCome s a b) := by
  obtain ⟨h1, h2, h3⟩ := h.come_len a b
  intro hb m hm
  refine h3 m (hA (by rw [← h2]; exact hb) m ?_)
  have hm' : 0 ≤ m ∧ m < ((pcCome s a b).gold.length : Int) := hm
  rw [h1] at hm'
  exact hm'
theorem PcInv.come_other {all : Int} {s : Pic} (h : PcInv all s) (hA : pcAllW s) {a b x y : Int} (hr0 : pcRow s x y = []) : pcRow (pcCome s a b) x y = [] := by
  rcases h.come_pv a b with ⟨h0, h1⟩ | ⟨n, r, _, hw, hr, _, ⟨hn, e⟩ | ⟨hn, hW, e⟩ | ⟨hn, hW, e⟩⟩
  · rw [h1]; exact hr0
  · show (pvOf (pcCome s a b)).row x y = _
    rw [e]; simp only [pvGet]
    split
    · rename_i hc; rw [hc.1, hc.2] at hr0; rw [show (pvOf s).row a b = pcRow s a b from rfl, hr0]; rfl
    · exact hr0
  · show (pvOf (pcCome s a b)).row x y = _
    rw [e]; simp only [pvMark]
    split
    · rename_i hc; rw [hc.1, hc.2] at hr0; rw [show (pvOf s).row a b = pcRow s a b from rfl, hr0]; rfl
    · exact hr0
  · exfalso
    have hb : s.begun = true := h.inv.beg.2 ⟨a, by
      cases hx : (pvOf s).W a with
      | none => have := h.inv.mark0 a b hx; rw [show (pvOf s).row a b = pcRow s a b from rfl, hr, hn] at this; simp at this
      | some z => rfl⟩
    have := hA hb b hw.2.1
    rw [show (pvOf s).W b = mget s.wrote b from rfl, hW] at this; cases this
theorem fold_keep {σ α : Type} (step : σ → α → σ) (I : σ → Prop) (hI : ∀ s a, I s → I (step s a)) : ∀ (l : List α) (s : σ), I s → I (l.foldl step s)
  | [], _, h => h
  | x :: r, s, h => fold_keep step I hI r (step s x) (hI s x h)
theorem fold_gets {σ α : Type} (step : σ → α → σ) (I P : σ → Prop) (hI : ∀ s a, I s → I (step s a)) (hP : ∀ s a, I s → P s → P (step s a)) (x : α) (hx : ∀ s, I s → P (step s x)) : ∀ (l : List α) (s : σ), x ∈ l → I s → P (l.foldl step s)
  | y :: r, s, hm, h => by
    rcases List.mem_cons.1 hm with rfl | hm
    · have := fold_keep step (fun s => I s ∧ P s) (fun s a h => ⟨hI s a h.1, hP s a h.1 h.2⟩) r (step s x) ⟨hI s x h, hx s h⟩
      exact this.2
    · exact fold_gets step I P hI hP x hx r (step s y) hm (hI s y h)
def pcDrainA (n : Nat) (a : Int) (s : Pic) : Pic := (memN n).foldl (fun s b => pcIt s a b 60) s
def pcDrain (n : Nat) (s : Pic) : Pic := (memN n).foldl (fun s a => pcDrainA n a s) s
theorem it_keep {I : Pic → Prop} (hI : ∀ s a b, I s → I (pcCome s a b)) {s : Pic} (h : I s) (a b : Int) : ∀ k, I (pcIt s a b k)
  | 0 => h
  | k + 1 => hI _ a b (it_keep hI h a b k)
theorem drain_keep {I : Pic → Prop} (hI : ∀ s a b, I s → I (pcCome s a b)) (n : Nat) {s : Pic} (h : I s) : I (pcDrain n s) :=
  fold_keep _ I (fun s a h => fold_keep _ I (fun s b h => it_keep hI h a b 60) _ s h) _ s h
theorem drain_gets {I P : Pic → Prop} (hI : ∀ s a b, I s → I (pcCome s a b)) (hP : ∀ s a b, I s → P s → P (pcCome s a b)) (n : Nat) {a b : Int} (ha : a ∈ memN n) (hb : b ∈ memN n) (hx : ∀ s, I s → P (pcIt s a b 60)) {s : Pic} (h : I s) : P (pcDrain n s) := by
  have hIP : ∀ s x y, (I s ∧ P s) → (I (pcCome s x y) ∧ P (pcCome s x y)) := fun s x y h => ⟨hI s x y h.1, hP s x y h.1 h.2⟩
  refine fold_gets (fun s a => pcDrainA n a s) I P (fun s a h => fold_keep _ I (fun s b h => it_keep hI h a b 60) _ s h) (fun s a h hp => ?_) a (fun s h => ?_) _ s ha h
  · exact (fold_keep (fun s b => pcIt s a b 60) (fun s => I s ∧ P s) (fun s b h => it_keep (I := fun s => I s ∧ P s) hIP h a b 60) _ s ⟨h, hp⟩).2
  · exact fold_gets (fun s b => pcIt s a b 60) I P (fun s b h => it_keep hI h a b 60) (fun s y h hp => (it_keep (I := fun s => I s ∧ P s) hIP ⟨h, hp⟩ a y 60).2) b hx _ s hb h
theorem it_row {all : Int} {s : Pic} (h : PcInv all s) {a b : Int} (hw : (pvOf s).way a b) : ∀ k, pcRow (pcIt s a b k) a b = (pcRow s a b).drop k ∧ (pcIt s a b k).gold.length = s.gold.length
  | 0 => ⟨rfl, rfl⟩
  | k + 1 => by
    obtain ⟨h1, h2⟩ := it_row h hw k
    have hi := pcIt_inv h a b k
    have hw' : (pvOf (pcIt s a b k)).way a b := by
      unfold PV.way PV.mem at hw ⊢
      rw [show (pvOf (pcIt s a b k)).n = (pvOf s).n from h2]; exact hw
    refine ⟨?_, (hi.come_len a b).1.trans h2⟩
    show pcRow (pcCome (pcIt s a b k) a b) a b = _
    rw [hi.come_row hw', h1, List.tail_drop]
theorem it_empty {all : Int} {s : Pic} (h : PcInv all s) {a b : Int} (hw : (pvOf s).way a b) : pcRow (pcIt s a b 60) a b = [] := by
  rw [(it_row h hw 60).1, List.drop_of_length_le]
  have := h.inv.rlen a b
  have h2 : (pvOf s).row a b = pcRow s a b := rfl
  rw [h2] at this
  have := (rmax_ge ((pvOf s).W a)).2
  omega
theorem mem_memN {n : Nat} {m : Int} : m ∈ memN n ↔ 0 ≤ m ∧ m < n := by
  unfold memN
  rw [List.mem_map]
  constructor
  · rintro ⟨k, hk, rfl⟩; have := List.mem_range.1 hk; omega
  · intro h; exact ⟨m.toNat, List.mem_range.2 (by omega), by omega⟩
/-- Once around: all have written. -/
theorem drain_one {all : Int} {n : Nat} {s : Pic} (h : PcInv all s) (hn : s.gold.length = n) : PcInv all (pcDrain n s) ∧ (pcDrain n s).gold.length = n ∧ (pcDrain n s).begun = s.begun ∧ pcAllW (pcDrain n s) := by
  have hI : ∀ t x y, (PcInv all t ∧ t.gold.length = n ∧ t.begun = s.begun) → (PcInv all (pcCome t x y) ∧ (pcCome t x y).gold.length = n ∧ (pcCome t x y).begun = s.begun) := fun t x y ht => by
    obtain ⟨h1, h2, _⟩ := ht.1.come_len x y
    exact ⟨ht.1.come x y, h1.trans ht.2.1, h2.trans ht.2.2⟩
  have hk := drain_keep (I := fun t => PcInv all t ∧ t.gold.length = n ∧ t.begun = s.begun) hI n ⟨h, hn, rfl⟩
  refine ⟨hk.1, hk.2.1, hk.2.2, fun hb m hm => ?_⟩
  rw [hk.2.2] at hb
  obtain ⟨a, ha⟩ := h.inv.beg.1 hb
  have ham : (pvOf s).mem a := by
    cases hx : (pvOf s).W a with
    | none => rw [hx] at ha; cases ha
    | some z => exact (h.inv.W0 a z hx).1
  have hI2 : ∀ t x y, (PcInv all t ∧ t.gold.length = n ∧ ((pvOf t).W a).isSome = true) → (PcInv all (pcCome t x y) ∧ (pcCome t x y).gold.length = n ∧ ((pvOf (pcCome t x y)).W a).isSome = true) := fun t x y ht => by
    obtain ⟨h1, h2, h3⟩ := ht.1.come_len x y
    exact ⟨ht.1.come x y, h1.trans ht.2.1, h3 a ht.2.2⟩
  by_cases hma : m = a
  · subst hma
    exact (drain_keep (I := fun t => PcInv all t ∧ t.gold.length = n ∧ ((pvOf t).W m).isSome = true) hI2 n ⟨h, hn, ha⟩).2.2
  · have hm' : 0 ≤ m ∧ m < (n : Int) := by have hm0 : 0 ≤ m ∧ m < ((pcDrain n s).gold.length : Int) := hm; rw [hk.2.1] at hm0; exact hm0
    have ham' : 0 ≤ a ∧ a < (n : Int) := by have hm0 : 0 ≤ a ∧ a < (s.gold.length : Int) := ham; rw [hn] at hm0; exact hm0
    refine drain_gets (I := fun t => PcInv all t ∧ t.gold.length = n ∧ ((pvOf t).W a).isSome = true) (P := fun t => ((pvOf t).W m).isSome = true) hI2 (fun t x y ht hp => (ht.1.come_len x y).2.2 m hp) n (a := a) (b := m) (mem_memN.2 ham') (mem_memN.2 hm') (fun t ht => ?_) ⟨h, hn, ha⟩
    have hw : (pvOf t).way a m := by
      have hnt : ((pvOf t).n : Int) = n := by show (t.gold.length : Int) = n; rw [ht.2.1]
      exact ⟨⟨ham'.1, by rw [hnt]; exact ham'.2⟩, ⟨hm'.1, by rw [hnt]; exact hm'.2⟩, fun e => hma e.symm⟩
    have hi := it_keep (I := fun t => PcInv all t ∧ t.gold.length = n ∧ ((pvOf t).W a).isSome = true) hI2 ht a m 60
    have he := it_empty ht.1 hw
    cases hx : (pvOf (pcIt t a m 60)).W m with
    | some z => rfl
    | none =>
      have hw' : (pvOf (pcIt t a m 60)).way a m := by
        have hnt : ((pvOf (pcIt t a m 60)).n : Int) = n := by show ((pcIt t a m 60).gold.length : Int) = n; rw [hi.2.1]
        exact ⟨⟨ham'.1, by rw [hnt]; exact ham'.2⟩, ⟨hm'.1, by rw [hnt]; exact hm'.2⟩, fun e => hma e.symm⟩
      have := hi.1.inv.mark2 a m hw' hi.2.2 hx
      rw [show (pvOf (pcIt t a m 60)).row a m = pcRow (pcIt t a m 60) a m from rfl, he] at this
      cases this
/-- Twice around: all ways are empty. -/
theorem drain_two {all : Int} {n : Nat} {s : Pic} (h : PcInv all s) (hn : s.gold.length = n) (hA : pcAllW s) : PcInv all (pcDrain n s) ∧ (pcDrain n s).gold.length = n ∧ (pcDrain n s).begun = s.begun ∧ pcAllW (pcDrain n s) ∧ ∀ a b, pcRow (pcDrain n s) a b = [] := by
  have hI : ∀ t x y, (PcInv all t ∧ t.gold.length = n ∧ t.begun = s.begun ∧ pcAllW t) → (PcInv all (pcCome t x y) ∧ (pcCome t x y).gold.length = n ∧ (pcCome t x y).begun = s.begun ∧ pcAllW (pcCome t x y)) := fun t x y ht => by
    obtain ⟨h1, h2, _⟩ := ht.1.come_len x y
    exact ⟨ht.1.come x y, h1.trans ht.2.1, h2.trans ht.2.2.1, ht.1.come_allW ht.2.2.2 x y⟩
  have hk := drain_keep (I := fun t => PcInv all t ∧ t.gold.length = n ∧ t.begun = s.begun ∧ pcAllW t) hI n ⟨h, hn, rfl, hA⟩
  refine ⟨hk.1, hk.2.1, hk.2.2.1, hk.2.2.2, fun a b => ?_⟩
  by_cases hw : 0 ≤ a ∧ a < (n : Int) ∧ 0 ≤ b ∧ b < (n : Int) ∧ a ≠ b
  · refine drain_gets (I := fun t => PcInv all t ∧ t.gold.length = n ∧ t.begun = s.begun ∧ pcAllW t) (P := fun t => pcRow t a b = []) hI (fun t x y ht hp => ht.1.come_other ht.2.2.2 hp) n (a := a) (b := b) (mem_memN.2 ⟨hw.1, hw.2.1⟩) (mem_memN.2 ⟨hw.2.2.1, hw.2.2.2.1⟩) (fun t ht => ?_) ⟨h, hn, rfl, hA⟩
    refine it_empty ht.1 ?_
    have hnt : ((pvOf t).n : Int) = n := by show (t.gold.length : Int) = n; rw [ht.2.1]
    exact ⟨⟨hw.1, by rw [hnt]; exact hw.2.1⟩, ⟨hw.2.2.1, by rw [hnt]; exact hw.2.2.2.1⟩, hw.2.2.2.2⟩
  · refine hk.1.inv.rIn a b fun e => hw ?_
    have hnt : ((pvOf (pcDrain n s)).n : Int) = n := by show ((pcDrain n s).gold.length : Int) = n; rw [hk.2.1]
    obtain ⟨⟨e1, e2⟩, ⟨e3, e4⟩, e5⟩ := e
    rw [hnt] at e2 e4
    exact ⟨e1, e2, e3, e4, e5⟩
theorem drain_three {all : Int} {n : Nat} {s : Pic} (h : PcInv all s) (hn : s.gold.length = n) :
    ∃ t, t = pcDrain n (pcDrain n (pcDrain n s)) ∧ PcInv all t ∧ t.gold.length = n ∧ t.gold.sum = all ∧ pcDone t = s.begun := by
  obtain ⟨a1, a2, a3, a4⟩ := drain_one h hn
  obtain ⟨b1, b2, b3, b4, _⟩ := drain_two a1 a2 a4
  obtain ⟨c1, c2, c3, c4, c5⟩ := drain_two b1 b2 b4
  refine ⟨_, rfl, c1, c2, ?_, ?_⟩
  · have h1 := c1.inv.tot
    rw [sumUU_zero _ (fun a b => by show (pcRow _ a b).sum = 0; rw [c5]; rfl)] at h1
    have h2 : sumU (pvOf (pcDrain n (pcDrain n (pcDrain n s)))).n (pvOf (pcDrain n (pcDrain n (pcDrain n s)))).g = (pcDrain n (pcDrain n (pcDrain n s))).gold.sum := sumU_list _
    omega
  · have hb := c3.trans (b3.trans a3)
    cases hs : s.begun
    · cases hd : pcDone (pcDrain n (pcDrain n (pcDrain n s)))
      · rfl
      · have h1 := (c1.done_iff.1 hd).1 0 ⟨by omega, by have := c1.inv.n5; omega⟩
        have := c1.inv.beg.2 ⟨0, h1⟩
        rw [show (pvOf _).begun = (pcDrain n (pcDrain n (pcDrain n s))).begun from rfl, hb, hs] at this; cases this
    · refine c1.done_iff.2 ⟨c4 (by rw [hb, hs]), fun a b => ?_⟩
      cases hx : (pvOf (pcDrain n (pcDrain n (pcDrain n s)))).O a b with
      | none => rfl
      | some z =>
        have hw := c1.inv.O0 a b z hx
        have ho := (c1.inv.opn a b hw.1 hw.2.2).1 (by rw [hx]; rfl)
        rcases ho with e | e
        · have := c4 (by rw [hb, hs]) a hw.1.1
          rw [e] at this; cases this
        · rw [show (pvOf _).row a b = pcRow (pcDrain n (pcDrain n (pcDrain n s))) a b from rfl, c5] at e; cases e
end Go.Proofs.YtpgonkecicmanaaDoor
/- A map's entry, made and then filled: m[k] = v beside another assignment. -/
namespace Go.Proofs.YtpgonkecicmanaaDoor
set_option linter.unusedVariables false
set_option linter.unusedSimpArgs false
open Go.RowKit Go.Maps
set_option linter.unusedSectionVars false
section
variable {K : Type} [DecidableEq K] {P : Program} {k : TypeId} {enc : K → Value} {ok : K → Prop}
theorem Born.find {es : Array MapEntry} {clock : Nat} (h : Born es.toList clock) {j : Nat} {e : MapEntry} (he : es[j]? = some e) : es.findIdx? (fun x => ((x.born : Nat) : Int) == ((e.born : Nat) : Int)) = some j := by
  obtain ⟨hj, rfl⟩ := Array.getElem?_eq_some_iff.1 he
  rw [Array.findIdx?_eq_some_iff_getElem]
  refine ⟨hj, by simp, fun i hij hb => ?_⟩
  have hb2 : es[i].born = es[j].born := Int.ofNat.inj (eq_of_beq hb)
  have hl : ∀ q (hq : q < es.size), (es.toList.map (·.born))[q]'(by simpa using hq) = es[q].born := fun q hq => by simp
  have h1 := List.pairwise_iff_getElem.1 h.2 i j (by simp; omega) (by simpa using hj) hij
  rw [hl i (by omega), hl j hj] at h1
  exact h1 hb2
theorem modify_last {l : List MapEntry} {a : MapEntry} (f : MapEntry → MapEntry) : (l ++ [a]).modify l.length f = l ++ [f a] := by
  apply List.ext_getElem?
  intro i
  rw [List.getElem?_modify]
  by_cases h1 : i < l.length
  · rw [List.getElem?_append_left h1, List.getElem?_append_left h1]
    have : ¬ l.length = i := by omega
    simp [this]
  · by_cases h2 : i = l.length
    · subst h2; simp
    · rw [List.getElem?_append_right (by omega), List.getElem?_append_right (by omega)]
      have : [a][i - l.length]? = none := List.getElem?_eq_none (by simp; omega)
      have h3 : [f a][i - l.length]? = none := List.getElem?_eq_none (by simp; omega)
      rw [this, h3]; rfl
def setO (w : World) (b : Nat) (o : Obj) : World := { w with heap := w.heap.setIfInBounds b o }
theorem Own.map_obj {w0 w : World} {b : Nat} {o : Obj} {R : HProp} (ho : Own w0 (blk b o * R) w) (o' : Obj) : Own w0 (blk b o' * R) (setO w b o') := by
  refine ho.set rfl rfl rfl (by simp [setO]) (fun q _ hq => by simp [setO, Array.getElem?_setIfInBounds, Ne.symm hq]) ?_
  have := ho.lt
  simp [setO, this]
theorem Own.map_entry (E : KE P k enc ok) {t e : TypeId} (ht : P.underlying t = some (.map k e)) {z : Value} (hz : ∀ w, (zeroValue e).run P w = .ok z w) {w0 w : World} {b : Nat} {m : List (K × Value)} {R : HProp}
    (h : Own w0 (Mp enc ok b m * R) w) {x : K} (hx : ok x) (v : Value) : ∃ w1 s, (Instr.mapEntry t (.map (some b)) (enc x)).run P w = .ok (.tuple #[(mget m x).getD z, s]) w1 ∧ ∃ w2, (Instr.entryStore t (.map (some b)) s v).run P w1 = .ok () w2 ∧ Own w0 (Mp enc ok b (mput m x v) * R) w2 := by
  obtain ⟨es, clock, hm, hbn, ho⟩ := h.map_at
  have hb := ho.blk_at.1
  obtain ⟨l, hl⟩ := E.has x hx
  have hkeep : ∀ p ∈ mput m x v, ok p.1 := fun p hp => by
    rcases mem_mput hp with hp | rfl
    · exact hm.2.2 p hp
    · exact hx
  rcases hm.find E w hx with ⟨h1, h2, h3⟩ | ⟨j, en, h1, h2, h3, h4⟩
  · have hg : mget m x = none := mget_none.2 h3
    obtain ⟨es1, he1⟩ : ∃ e1, e1 = es.push ⟨enc x, z, clock⟩ := ⟨_, rfl⟩
    obtain ⟨w1, hw1⟩ : ∃ w1, w1 = setO w b (.map es1 (clock + 1)) := ⟨_, rfl⟩
    have ho1 := ho.map_obj (.map es1 (clock + 1))
    rw [← hw1] at ho1
    have ha : ∀ c : Int, Sem.run P (asIntOf (.int .i64 c)) w1 = .ok (.i64, c) w1 := fun _ => rfl
    have hb1 := ho1.blk_at.1
    have hf : es1.findIdx? (fun y => ((y.born : Nat) : Int) == ((clock : Nat) : Int)) = some es.size := by
      rw [he1]
      exact (born_push hbn (k := enc x) (v := z)).find (e := ⟨enc x, z, clock⟩) (by simp)
    have ho2 := ho1.map_obj (.map (es1.modify es.size (fun e' => { e' with val := v })) (clock + 1))
    have hme : es1.modify es.size (fun e' => { e' with val := v }) = es.push ⟨enc x, v, clock⟩ := by
      rw [he1]
      apply Array.ext'
      rw [Array.toList_modify, Array.toList_push, Array.toList_push]
      exact modify_last _
    refine ⟨w1, .int .i64 clock, ?_, setO w1 b (.map (es.push ⟨enc x, v, clock⟩) (clock + 1)), ?_, Own.map_mk (es := es.push ⟨enc x, v, clock⟩) (clock := clock + 1) ⟨?_, mput_nodup hm.2.1, hkeep⟩ (born_push hbn) (by rw [hme] at ho2; exact ho2)⟩
    · rw [hw1, he1]
      simp [Instr.mapEntry, run_underlying ht, MapKept.run_getObj_map hb, E.keyed.check w _ hl, h1, hz, hg, MapKept.run_setObj_map _ hb, Result.andThen, goInt, setO]
    · rw [← hme]
      simp [Instr.entryStore, MapKept.run_getObj_map hb1, MapKept.run_setObj_map _ hb1, Result.andThen, asInt, ha, hf, setO]
    · rw [mput_new h3, Array.toList_push, List.map_append, List.map_append, hm.1]; rfl
  · have hj : es[j]? = some en := by simpa using h2
    have hg : mget m x = some en.val := mget_at hm.2.1 h4
    obtain ⟨es1, he1⟩ : ∃ e1, e1 = es.modify j (fun e' => { e' with key := enc x }) := ⟨_, rfl⟩
    obtain ⟨w1, hw1⟩ : ∃ w1, w1 = setO w b (.map es1 clock) := ⟨_, rfl⟩
    have ho1 := ho.map_obj (.map es1 clock)
    rw [← hw1] at ho1
    have ha : ∀ c : Int, Sem.run P (asIntOf (.int .i64 c)) w1 = .ok (.i64, c) w1 := fun _ => rfl
    have hb1 := ho1.blk_at.1
    have hbn1 : Born es1.toList clock := by rw [he1, Array.toList_modify]; exact born_modify hbn j _ (fun _ => rfl)
    have hj1 : es1[j]? = some { en with key := enc x } := by rw [he1, Array.getElem?_modify, if_pos rfl, hj]; rfl
    have hf : es1.findIdx? (fun y => ((y.born : Nat) : Int) == ((en.born : Nat) : Int)) = some j := hbn1.find (e := { en with key := enc x }) hj1
    have ho2 := ho1.map_obj (.map (es1.modify j (fun e' => { e' with val := v })) clock)
    have hml : (es1.modify j (fun e' => { e' with val := v })).toList = es.toList.modify j (fun e' => { e' with key := enc x, val := v }) := by
      rw [he1, Array.toList_modify, Array.toList_modify]
      apply List.ext_getElem?
      intro i
      simp only [List.getElem?_modify]
      cases es.toList[i]? with
      | none => simp
      | some y => by_cases h : j = i <;> simp [h]
    refine ⟨w1, .int .i64 en.born, ?_, setO w1 b (.map (es1.modify j (fun e' => { e' with val := v })) clock), ?_, Own.map_mk (es := es1.modify j (fun e' => { e' with val := v })) (clock := clock) ⟨?_, mput_nodup hm.2.1, hkeep⟩ (by rw [Array.toList_modify]; exact born_modify hbn1 j _ (fun _ => rfl)) ho2⟩
    · rw [hw1, he1]
      simp [Instr.mapEntry, run_underlying ht, MapKept.run_getObj_map hb, E.keyed.check w _ hl, h1, hj, h3, E.keyed.stays w hl, hg, MapKept.run_setObj_map _ hb, Result.andThen, goInt, setO]
    · simp [Instr.entryStore, MapKept.run_getObj_map hb1, MapKept.run_setObj_map _ hb1, Result.andThen, asInt, ha, hf, setO]
    · rw [hml, mput_at hm.2.1 h4, Go.ChangeMaps.modify_eq_set _ _ _ _ h2, List.map_set, List.map_set, hm.1]
end
end Go.Proofs.YtpgonkecicmanaaDoor
