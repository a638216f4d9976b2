/- The reference's Fifo takes a word as the program's fifo does: the contract. -/
import Derived.Test.YteelldblfmhjlaaDoorRefFifo
import Derived.Deep.DeepCutAuto
import Derived.Deep.CutBlock
namespace Go.Proofs.YteelldblfmhjlaaDoor
set_option linter.unusedVariables false
set_option linter.unusedSimpArgs false
open Go.RowKit
set_option maxRecDepth 100000 in
set_option maxHeartbeats 4000000 in
theorem refFi_no {w0 w : World} {R : HProp} (p : Nat) (f : Fi) (who n word : Int) (hfit : fiFit f) (hb : isMember who = false ∨ n < 1 ∨ 1000000 < n ∨ isWord word = false) (h : Own w0 (RfP p f * R) w) :
    Calls Tryd.prog 28 #[.pointer (some ⟨p, 0, none⟩), .int .i64 who, .int .i64 n, .int .i64 word] w fun e w' => e = .returned (.tuple #[.slice none 0 0, .int .i64 (fiErr f who n word : Nat)]) ∧ w = w' := by
  have he : fiErr f who n word = 1 := by
    unfold fiErr
    by_cases h1 : isMember who = false
    · rw [if_pos h1]
    by_cases h2 : n < 1
    · rw [if_neg h1, if_pos h2]
    by_cases h3 : 1000000 < n
    · rw [if_neg h1, if_neg h2, if_pos h3]
    · rw [if_neg h1, if_neg h2, if_neg h3, if_pos (hb.elim (fun h => absurd h h1) fun hb => hb.elim (fun h => absurd h h2) fun hb => hb.elim (fun h => absurd h h3) id)]
  have hc : who < 0 ∨ (¬ who < 0 ∧ 4 < who) ∨ (¬ who < 0 ∧ ¬ 4 < who ∧ n < 1) ∨ (¬ who < 0 ∧ ¬ 4 < who ∧ ¬ n < 1 ∧ 1000000 < n) ∨ (¬ who < 0 ∧ ¬ 4 < who ∧ ¬ n < 1 ∧ ¬ 1000000 < n ∧ word < 1) ∨ (¬ who < 0 ∧ ¬ 4 < who ∧ ¬ n < 1 ∧ ¬ 1000000 < n ∧ ¬ word < 1 ∧ 30 < word) := by
    simp [isMember, isWord] at hb; omega
  have HE := Lib.hid he; have H := Lib.hid h; have HFIT := Lib.hid hfit
  clear he h hfit
  clear hb
  rcases hc with h1 | ⟨h1, h2⟩ | ⟨h1, h2, h3⟩ | ⟨h1, h2, h3, h4⟩ | ⟨h1, h2, h3, h4, h5⟩ | ⟨h1, h2, h3, h4, h5, h6⟩
  all_goals
    go_enter Tryd.func28, Tryd.ntmps28
    go_wp2
    go_ret2
    exact ⟨by rw [HE.out]; rfl, rfl⟩
theorem rf_out {w0 w : World} {R : HProp} {p k : Nat} {v vv : Value} {f : Fi} {n word hx : Int} {m : List ((Int × Int) × Int)} {out : List Int} (hi : RfInv f k n word out hx m) (h2 : mget m ((k : Int), hx + 1) = none) (he : fiErr f k n word = 0)
    (h : Own w0 (IntSl v out * (RfO p vv ⟨f.next.set k (hx + 1), m⟩ * R)) w) : Own w0 (IntSl v (fiOut f k n word) * (RfP p (fiTake f k n word) * R)) w := by
  have e := hi.done h2
  unfold fiOut fiTake
  rw [if_pos he, if_pos he, e, Int.toNat_natCast]
  exact ((h.perm (star_left_comm _ _ _)).rf_close).perm (star_left_comm _ _ _)
def RfC (W : World) (c : Value) (wx : World) : Prop := c = .bool false ∧ wx = W
set_option maxRecDepth 100000 in
set_option maxHeartbeats 4000000 in
theorem refFi_yes {w0 w : World} {R : HProp} (p : Nat) (f : Fi) (k : Nat) (n word : Int) (hfit : fiFit f) (hk : k < 5) (hn1 : 1 ≤ n) (hn2 : n ≤ 1000000) (hwd : isWord word = true) (h : Own w0 (RfP p f * R) w) :
    Calls Tryd.prog 28 #[.pointer (some ⟨p, 0, none⟩), .int .i64 (k : Int), .int .i64 n, .int .i64 word] w fun e w' => ∃ v, e = .returned (.tuple #[v, .int .i64 (fiErr f k n word : Nat)]) ∧ Own w0 (IntSl v (fiOut f k n word) * (RfP p (fiTake f k n word) * R)) w' := by
  obtain ⟨v0, ho⟩ := h.rf_open
  have HH := Lib.hid h
  obtain ⟨h5, hb1, hb2, hb3⟩ := hfit
  have hw1 : 1 ≤ word ∧ word ≤ 30 := by simpa [isWord] using hwd
  have hm : isMember (k : Int) = true := by simp [isMember]; omega
  obtain ⟨c1, c2, _⟩ := ho.rf_facts h5
  have c1k := c1 k hk
  obtain ⟨hx, hhx⟩ : ∃ hx, f.next.getD k 0 = hx + 1 := ⟨f.next.getD k 0 - 1, by omega⟩
  have hxb : 0 ≤ hx ∧ hx ≤ 1000000 := by
    have := hb1 (f.next.getD k 0) (by simp [show k < f.next.length from by omega])
    omega
  rw [hhx, Int.add_sub_cancel] at c1k
  have hfn : fiN f k = hx + 1 := by unfold fiN; rw [Int.toNat_natCast]; exact hhx
  have hik0 : (0 : Int) ≤ (k : Int) := by omega
  have hik5 : (k : Int) < 5 := by omega
  have hik4 : ¬ ((4 : Int) < (k : Int)) := by omega
  have err0 : fiErr f k n word = if fiHas f k n = true then 7 else if n ≠ hx + 1 ∧ 40 ≤ f.waits.length then 4 else 0 := by
    unfold fiErr
    rw [if_neg (by rw [hm]; simp), if_neg (by omega), if_neg (by omega), if_neg (by rw [hwd]; simp), hfn]
  have same : fiErr f k n word ≠ 0 → Own w0 (IntSl (.slice none 0 0) (fiOut f k n word) * (RfP p (fiTake f k n word) * R)) w := fun e => by
    unfold fiOut fiTake
    rw [if_neg e, if_neg e]
    exact HH.out.sl_nil _ _
  obtain ⟨ad, cap, hv0, hcap1, hcap2⟩ := ho.rf_shape
  by_cases hold : n ≤ hx
  · have he : fiErr f k n word = 7 := by rw [err0, if_pos]; unfold fiHas; rw [hfn]; simp; omega
    have H := Lib.hid h; have HO := Lib.hid ho; have H5 := Lib.hid h5; have HB1 := Lib.hid hb1; have HB3 := Lib.hid hb3; have HHX := Lib.hid hhx; have HFN := Lib.hid hfn; have ERR0 := Lib.hid err0; have HE := Lib.hid he; have SAME := Lib.hid same; have HM := Lib.hid hm; have HWD := Lib.hid hwd; have HV0 := Lib.hid hv0
    clear h ho h5 hb1 hb3 hhx hfn err0 he same hm hwd hv0
    clear c1
    go_enter Tryd.func28, Tryd.ntmps28
    go_wp2
    go_ret2
    exact ⟨_, by rw [HE.out]; rfl, SAME.out (by rw [HE.out]; simp)⟩
  have hgt : hx + 1 ≤ n := by omega
  subst hv0
  have H := Lib.hid h; have HO := Lib.hid ho; have H5 := Lib.hid h5; have HB1 := Lib.hid hb1; have HB3 := Lib.hid hb3; have HHX := Lib.hid hhx; have HFN := Lib.hid hfn; have ERR0 := Lib.hid err0; have SAME := Lib.hid same; have HM := Lib.hid hm; have HWD := Lib.hid hwd
  clear h ho h5 hb1 hb3 hhx hfn err0 same hm hwd
  clear c1
  go_enter Tryd.func28, Tryd.ntmps28
  go_wp2_with fail
  go_loop [10] (fun i => ∃ j : Nat, j ≤ f.waits.length ∧ i = .int .i64 j ∧ Hid (∀ l (_ : l < j) (hl : l < f.waits.length), f.waits[l].1 ≠ ((k : Int), n))) (fun i => f.waits.length - (intOf i).toNat)
  case atStart => exact ⟨0, Nat.zero_le _, rfl, fun l h => by omega⟩
  case round =>
    obtain ⟨j, hj, rfl, hp⟩ := hrel
    by_cases hlt : j < f.waits.length
    · skip
      obtain ⟨b, off, cp, hv, hcp, hcell⟩ := HO.out.rf_at (by omega)
      injection hv with e1 e2 e3
      subst e1; subst e3
      obtain ⟨d1, d2, d3⟩ := hcell j hlt
      obtain ⟨a, ha⟩ : ∃ a, a = f.waits[j].1.1 := ⟨_, rfl⟩
      obtain ⟨z, hz⟩ : ∃ a, a = f.waits[j].1.2 := ⟨_, rfl⟩
      rw [← ha] at d1
      rw [← hz] at d2
      have next : ¬ (a = (k : Int) ∧ z = n) → ∀ l (_ : l < j + 1) (hl : l < f.waits.length), f.waits[l].1 ≠ ((k : Int), n) := fun hne l h1 h2 => by
        by_cases hl : l < j
        · exact hp.out l hl h2
        · have : l = j := by omega
          subst this
          intro e
          exact hne ⟨by rw [ha, e], by rw [hz, e]⟩
      have HA := Lib.hid ha; have HZ := Lib.hid hz; have NEXT := Lib.hid next
      clear ha hz next
      clear hcell d3
      by_cases h1 : a = (k : Int)
      · have t1 : (a == (k : Int)) = true := by rw [beq_iff_eq]; exact h1
        by_cases h2 : z = n
        · have t2 : (z == n) = true := by rw [beq_iff_eq]; exact h2
          have he : fiErr f k n word = 7 := by
            rw [ERR0.out, if_pos]
            unfold fiHas
            have : mget f.waits ((k : Int), n) ≠ none := fun hnone => by
              have := mget_none.1 hnone f.waits[j] (List.getElem_mem hlt)
              exact this (Prod.ext (by rw [← HA.out, h1]) (by rw [← HZ.out, h2]))
            cases hmg : mget f.waits ((k : Int), n) with
            | none => exact absurd hmg this
            | some y => rfl
          have H1 := Lib.hid h1; have H2 := Lib.hid h2; have HE := Lib.hid he
          clear h1 h2 he
          go_wp2
          go_ret2
          exact ⟨_, by rw [HE.out]; rfl, SAME.out (by rw [HE.out]; simp)⟩
        · have t2 : (z == n) = false := by rw [beq_eq_false_iff_ne]; exact h2
          have H1 := Lib.hid h1; have H2 := Lib.hid h2
          clear h1 h2
          go_wp2
          go_round
          case rel => exact ⟨j + 1, by omega, by go_num, Lib.hid (NEXT.out fun h => H2.out h.2)⟩
          case measure => simp [intOf]; omega
      · have t1 : (a == (k : Int)) = false := by rw [beq_eq_false_iff_ne]; exact h1
        have H1 := Lib.hid h1
        clear h1
        go_wp2
        go_round
        case rel => exact ⟨j + 1, by omega, by go_num, Lib.hid (NEXT.out fun h => H1.out h.1)⟩
        case measure => simp [intOf]; omega
    have hnone : mget f.waits ((k : Int), n) = none := mget_none_at fun l hl => hp.out l (by omega) hl
    have hhas : fiHas f k n = false := by unfold fiHas; rw [hnone, HFN.out]; simp; omega
    have err1 : fiErr f k n word = if n ≠ hx + 1 ∧ 40 ≤ f.waits.length then 4 else 0 := by rw [ERR0.out, hhas]; rfl
    by_cases hfull : hx + 1 < n ∧ 40 ≤ f.waits.length
    · have he : fiErr f k n word = 4 := by rw [err1, if_pos (by omega)]
      have t1 : decide (hx + 1 < n) = true := by simp; omega
      have t2 : decide ((40 : Int) ≤ (f.waits.length : Int)) = true := by simp; omega
      have HNONE := Lib.hid hnone; have HHAS := Lib.hid hhas; have ERR1 := Lib.hid err1; have HFULL := Lib.hid hfull; have HE := Lib.hid he
      clear hnone hhas err1 hfull he
      go_wp2
      go_ret2
      exact ⟨_, by rw [HE.out]; rfl, SAME.out (by rw [HE.out]; simp)⟩
    have he : fiErr f k n word = 0 := by rw [err1, if_neg (by omega)]
    have hput : mput f.waits ((k : Int), n) word = f.waits ++ [(((k : Int), n), word)] := mput_new (mget_none.1 hnone)
    have htt : decide (hx + 1 < n) = false ∨ (decide (hx + 1 < n) = true ∧ decide ((40 : Int) ≤ (f.waits.length : Int)) = false) := by
      by_cases h1 : hx + 1 < n
      · exact .inr ⟨by simpa using h1, by simp; omega⟩
      · exact .inl (by simpa using h1)
    have HNONE := Lib.hid hnone; have HHAS := Lib.hid hhas; have ERR1 := Lib.hid err1; have HFULL := Lib.hid hfull; have HE := Lib.hid he; have HPUT := Lib.hid hput
    clear hnone hhas err1 hfull he hput
    go_upto_region 10 with fail
    go_cut [92] (fun c wx => RfC w c wx)
    case first =>
      rcases htt with t1 | ⟨t1, t2⟩ <;> (go_wp2_with fail; go_meet; exact ⟨rfl, rfl⟩)
    case rest =>
    obtain ⟨rfl, rfl⟩ := hcut
    go_wp2_with (at_builtin; refine wpList_app rfl _ _ 52 rfl 72 3 24 _ info_came Tryd.underlying52 rfl (by decide) rfl ((HO.out.alloc' _).rf_sl) rfl (by rfl) (Rd_lit (by simp) (by unfold maxLen; omega)) (by intro u hu; simp at hu; rcases hu with rfl | rfl | rfl <;> rfl) (by unfold maxLen; omega) (by omega) ?_; intro v1 w1 hown; obtain ⟨ad1, cp1, rfl, _⟩ := Own.rd hown; have hn1 := cm_snoc (x := (((k : Int), n), word)) rfl hown; have hm1 := hn1.rf_mid H5.out; obtain ⟨hm1, hm2⟩ := hm1; have HN1 := Lib.hid hn1; clear hown hn1)
    have hq0 := (HN1.out.rf_put' H5.out)
    have hset : f.next.set k (hx + 1) = f.next := by
      rw [← HHX.out]
      have := H5.out
      simp [show k < f.next.length from by omega]
    have HINV : Hid (RfInv f k n word [] hx (f.waits ++ [(((k : Int), n), word)])) := Lib.hid ⟨fun q hq => by
      rcases List.mem_append.1 hq with hq | hq
      · exact (HB3.out q hq).2.1
      · simp at hq; subst hq; exact hn2, by
      rw [← HPUT.out]
      unfold fiEnd
      rw [HFN.out]
      simp⟩
    have HP0 : Hid (Own w0 (IntSl (.slice none 0 0) [] * (RfO p (.slice ad1 (f.waits.length + 1) cp1) ⟨f.next.set k (hx + 1), f.waits ++ [(((k : Int), n), word)]⟩ * R)) (w1.setCell ⟨p, 5, none⟩ (.slice ad1 (f.waits.length + 1) cp1))) := Lib.hid (by
      rw [hset]
      exact hq0.sl_nil _ _)
    have hlen0 : (f.waits ++ [(((k : Int), n), word)]).length = f.waits.length + 1 := by simp
    have HSET := Lib.hid hset; have HLEN0 := Lib.hid hlen0
    clear hset hlen0
    clear hq0
    clear hm1 hm2
    go_loopg [11, 12] (2 * (f.waits.length + 1) + 1) (fun g ov av wr => ∃ (ag : Bool) (out : List Int) (hy : Int) (m : List ((Int × Int) × Int)) (vv : Value), 0 ≤ hy ∧ hy ≤ 1000000 ∧ out.length + m.length ≤ 41 ∧ av = .bool ag ∧ 2 * m.length + ag.toNat = g ∧ Hid (RfInv f k n word out hy m) ∧ Hid (ag = false → mget m ((k : Int), hy + 1) = none) ∧ Hid (Own w0 (IntSl ov out * (RfO p vv ⟨f.next.set k (hy + 1), m⟩ * R)) wr))
    case atStart => exact ⟨true, [], hx, _, _, hxb.1, hxb.2, by simp; omega, rfl, by rw [HLEN0.out]; rfl, HINV, Lib.hid (fun h => by cases h), HP0⟩
    case round =>
      obtain ⟨ag, out, hy, m, vv, hy1, hy2, hol, rfl, hgk, HI, HN, HP⟩ := hrel
      cases ag
      · have HN2 := Lib.hid (HN.out rfl)
        clear HN hgk
        go_wp2
        go_ret2
        exact ⟨_, by rw [HE.out]; rfl, rf_out HI.out HN2.out HE.out HP.out⟩
      have HGK := Lib.hid (show 2 * m.length + 1 = gk from hgk)
      clear hgk HN
      go_wp2_with fail
      obtain ⟨G, rfl⟩ : ∃ G, G = gk := ⟨_, rfl⟩
      go_loopg [11, 12, 13] (m.length + 1) (fun g ov av iv wr => ∃ (ag : Bool) (j : Nat) (out : List Int) (hy : Int) (m : List ((Int × Int) × Int)) (vv : Value), 0 ≤ hy ∧ hy ≤ 1000000 ∧ out.length + m.length ≤ 41 ∧ j ≤ 42 ∧ av = .bool ag ∧ iv = .int .i64 j ∧ Hid ((if ag then 0 else m.length + 1 - j) = g) ∧ Hid (2 * m.length + ag.toNat < G) ∧ Hid (RfInv f k n word out hy m) ∧ Hid (ag = false → j ≤ m.length ∧ ∀ l (_ : l < j) (hl : l < m.length), m[l].1 ≠ ((k : Int), hy + 1)) ∧ Hid (Own w0 (IntSl ov out * (RfO p vv ⟨f.next.set k (hy + 1), m⟩ * R)) wr))
      case atStart => exact ⟨false, 0, out, hy, m, vv, hy1, hy2, hol, Nat.zero_le _, rfl, rfl, Lib.hid rfl, Lib.hid (by have := HGK.out; simp; omega), HI, Lib.hid (fun _ => ⟨Nat.zero_le _, fun l h => by omega⟩), HP⟩
      case round =>
        clear HI HP HGK hy1 hy2 hol
        obtain ⟨ag, j, out, hy, m, vv, hy1, hy2, hol, hj42, rfl, rfl, HG, HLT, HI, HNM, HP⟩ := hrel
        have h52 : (f.next.set k (hy + 1)).length = 5 := by rw [List.length_set]; exact H5.out
        have hck : (f.next.set k (hy + 1)).getD k 0 - 1 = hy := by have := H5.out; simp [show k < f.next.length from by omega]
        have hp1 := HP.out.perm (star_left_comm _ _ _)
        obtain ⟨c1, c2, c3⟩ := hp1.rf_facts h52
        have c1k := c1 k hk
        dsimp only at c1k
        rw [hck] at c1k
        obtain ⟨ad, cap, hvv, hcap1, hcap2⟩ := hp1.rf_shape
        dsimp only at hvv hcap1
        have H52 := Lib.hid h52; have HCK := Lib.hid hck; have HP1 := Lib.hid hp1; have C3 := Lib.hid c3
        clear h52 hck hp1 c3
        clear c1
        cases ag
        rotate_left
        · skip
          subst hvv
          have hm41 : m.length ≤ 41 := by omega
          by_cases hjl : j < m.length
          all_goals
            go_wp2_with fail
            go_roundg (2 * m.length + 1)
            case measure => exact HLT.out
            case rel => exact ⟨true, out, hy, m, _, hy1, hy2, hol, rfl, rfl, HI, Lib.hid (fun h => by cases h), HP⟩
        by_cases hjl : j < m.length
        rotate_left
        · skip
          subst hvv
          have hnm := HNM.out rfl
          have HNONE2 := Lib.hid (mget_none_at (m := m) (x := ((k : Int), hy + 1)) fun l hl => hnm.2 l (Nat.lt_of_lt_of_le hl (Nat.le_of_not_lt hjl)) hl)
          clear hnm
          go_wp2_with fail
          go_roundg (2 * m.length)
          case measure => exact HLT.out
          case rel => exact ⟨false, out, hy, m, _, hy1, hy2, hol, rfl, rfl, HI, Lib.hid (fun h => HNONE2.out), HP⟩
        obtain ⟨b, off, cp, hv, hcp, hcell⟩ := HP1.out.rf_at (show 0 < m.length by omega)
        dsimp only at hv hcp hcell
        rw [hvv] at hv
        injection hv with e1 e2 e3
        subst e1; subst e3; subst hvv
        obtain ⟨d1, d2, d3⟩ := hcell j hjl
        obtain ⟨a, ha⟩ : ∃ a, a = m[j].1.1 := ⟨_, rfl⟩
        obtain ⟨z, hz⟩ : ∃ a, a = m[j].1.2 := ⟨_, rfl⟩
        obtain ⟨x, hxx⟩ : ∃ a, a = m[j].2 := ⟨_, rfl⟩
        rw [← ha] at d1
        rw [← hz] at d2
        rw [← hxx] at d3
        have hnm := HNM.out rfl
        have next : ¬ (a = (k : Int) ∧ z = hy + 1) → j + 1 ≤ m.length ∧ ∀ l (_ : l < j + 1) (hl : l < m.length), m[l].1 ≠ ((k : Int), hy + 1) := fun hne => ⟨by omega, fun l h1 h2 => by
          by_cases hl : l < j
          · exact hnm.2 l hl h2
          · have : l = j := by omega
            subst this
            intro e
            exact hne ⟨by rw [ha, e], by rw [hz, e]⟩⟩
        have hG2 : m.length + 1 - j = gk := HG.out
        have hm41 : m.length ≤ 41 := by omega
        have HMS := Lib.hid (show (m.length + 1 - (j + 1)) < gk by omega)
        have HMS0 := Lib.hid (show 0 < gk by omega)
        have HNM' := Lib.hid hnm
        clear hnm
        have HA := Lib.hid ha; have HZ := Lib.hid hz; have HXX := Lib.hid hxx; have NEXT := Lib.hid next; have HG2 := Lib.hid hG2
        clear ha hz hxx next hG2
        clear hcell HNM HG
        by_cases h1 : a = (k : Int)
        rotate_left
        · skip
          have t1 : (a == (k : Int)) = false := by rw [beq_eq_false_iff_ne]; exact h1
          have H1 := Lib.hid h1
          clear h1
          go_wp2_with fail
          go_quiet (fail)
          go_wp2_with fail
          go_roundg (m.length + 1 - (j + 1))
          case measure => exact HMS.out
          case rel => exact ⟨false, j + 1, out, hy, m, _, hy1, hy2, hol, by omega, rfl, by go_num, Lib.hid rfl, HLT, HI, Lib.hid (fun _ => NEXT.out fun h => H1.out h.1), Lib.hid (HP.out.drewN _)⟩
        have t1 : (a == (k : Int)) = true := by rw [beq_iff_eq]; exact h1
        by_cases h2 : z = hy + 1
        rotate_left
        · skip
          have t2 : (z == hy + 1) = false := by rw [beq_eq_false_iff_ne]; exact h2
          have H1 := Lib.hid h1; have H2 := Lib.hid h2
          clear h1 h2
          go_wp2_with fail
          go_quiet (fail)
          go_wp2_with fail
          go_roundg (m.length + 1 - (j + 1))
          case measure => exact HMS.out
          case rel => exact ⟨false, j + 1, out, hy, m, _, hy1, hy2, hol, by omega, rfl, by go_num, Lib.hid rfl, HLT, HI, Lib.hid (fun _ => NEXT.out fun h => H2.out h.2), Lib.hid (HP.out.drewN _)⟩
        have t2 : (z == hy + 1) = true := by rw [beq_iff_eq]; exact h2
        have hkey : m[j].1 = ((k : Int), hy + 1) := Prod.ext (by rw [← HA.out, h1]) (by rw [← HZ.out, h2])
        have hdel := mdel_idx m ((k : Int), hy + 1) j hjl (fun l a b => HNM'.out.2 l a b) hkey
        have hst := HI.out.step hdel.2
        rw [← HXX.out] at hst
        have HST := Lib.hid hst
        have hy6 : hy + 1 ≤ 1000000 := hst.2.1
        have BND : Hid (0 ≤ hy + 1 ∧ (out ++ [x]).length + (mdel m ((k : Int), hy + 1)).length ≤ 41 ∧ j + 1 ≤ 42 ∧ 2 * (mdel m ((k : Int), hy + 1)).length + true.toNat < G) := Lib.hid (by
          have h1 := hst.2.2
          have h2 : 2 * m.length + false.toNat < G := HLT.out
          have h3 : false.toNat = 0 := rfl
          have h4 : true.toNat = 1 := rfl
          have h5 : (out ++ [x]).length = out.length + 1 := by simp
          exact ⟨by omega, by omega, by omega, by omega⟩)
        have H1 := Lib.hid h1; have H2 := Lib.hid h2; have HKEY := Lib.hid hkey; have HDEL := Lib.hid hdel
        clear h1 h2 hkey hdel
        clear hst
        go_wp2_with fail
        go_quiet (fail)
        go_wp2_with (at_builtin; refine wpList_app rfl _ _ 22 rfl 3 1 8 _ info_int Tryd.underlying22 rfl (by decide) rfl (((HP.out.drewN _).alloc' _)) rfl (by rfl) (Rd_lit (by simp) (by unfold maxLen; omega)) (by intro u hu; simp at hu; subst hu; rfl) (by unfold maxLen; omega) (by omega) ?_; intro v' w' hown; have HN2 := Lib.hid hown; clear hown)
        obtain ⟨ad2, cp2, hv2, _⟩ := Own.rd HN2.out
        subst hv2
        have hn2x : Own w0 (IntSl (.slice ad2 (out.length + 1) cp2) (out ++ [x]) * (RfO p (.slice (some ⟨b, off, none⟩) m.length cap) ⟨f.next.set k (hy + 1), m⟩ * R)) w' := by
          have := HN2.out
          unfold IntSl
          simpa using this
        have hq := hn2x.perm (star_left_comm _ _ _)
        obtain ⟨c1', c2', c3'⟩ := hq.rf_facts H52.out
        clear c2'
        have c1k' := c1' k hk
        dsimp only at c1k'
        rw [HCK.out] at c1k'
        have c3k' := c3' k none
        have hs := ((hq.rf_set H52.out hk (hy + 1)).drew)
        simp only [List.set_set] at hs
        have hs5 := (hs.rf_facts (by rw [List.length_set]; exact H5.out)).2.1
        have HS := Lib.hid hs
        clear hs hn2x hq
        clear c1' c3' HN2 c1k c2 d1 d2 d3
        go_wp2_with fail
        refine wp_region_tail 10 (by kernel_rfl) (by kernel_rfl) ?_
        simp only [List.take_succ_cons, List.take_zero, List.drop_succ_cons, List.drop_zero]
        repeat still_step
        refine wpStill_nil ?_
        go_upto_region 24 with fail
        generalize hW2 : (w'.setCell ⟨p, k, none⟩ (.int .i64 (hy + 1))).drew = W2 at HS hs5 ⊢
        clear hW2 c1k' c3k'
        have htl : (m.take j).length = j := by rw [List.length_take]; omega
        have hr1 := Rd.front3 (Own.rd HS.out.rf_sl) (Nat.le_of_lt hjl)
        have hl1 : ((m.take j).flatMap cmCells).length = j * 3 := by rw [cm_len, htl]
        have hl2 : ((m.drop (j + 1)).flatMap cmCells).length = (m.length - (j + 1)) * 3 := by rw [cm_len, List.length_drop]
        have htl2 : (m.take j).length ≤ 42 := by omega
        have h5s : (f.next.set k (hy + 1 + 1)).length = 5 := by rw [List.length_set]; exact H5.out
        have HTL := Lib.hid htl; have HR1 := Lib.hid hr1; have HL1 := Lib.hid hl1; have HL2 := Lib.hid hl2; have H5S := Lib.hid h5s
        clear htl hr1 hl1 hl2 h5s
        go_upto_region 25 with (at_builtin; refine wpList_app rfl _ _ 52 rfl 72 3 24 _ info_came Tryd.underlying52 rfl (by decide) rfl (HS.out.sl_nil _ _) rfl HL1.out HR1.out (cm_one _) (by unfold maxLen; omega) (by omega) ?_; intro v3 w3 hown; have hn3 := cm_first HTL.out hown; have hf3 := (hn3.perm (star_left_comm _ _ _)).rf_facts H5S.out; have hc3 := hf3.2.1; have hr3 := Rd.back3 rfl (Own.rd (hn3.perm (star_left_comm _ _ _)).rf_sl) hjl; have HR3 := Lib.hid hr3; have HN3 := Lib.hid hn3; clear hown hn3 hf3 hr3)
        have HLA := Lib.hid (Eq.refl (m.take j).length)
        have HLB := Lib.hid (show m.length - (j + 1) = (m.drop (j + 1)).length by rw [List.length_drop])
        by_cases hce : cap = j + 1
        · have HR4 := Lib.hid (show Rd w3 (.slice (some ⟨b, off, none⟩) (m.length - (j + 1)) 0) (m.length - (j + 1)) ((m.drop (j + 1)).flatMap cmCells) by have := HR3.out; rw [cutA3, if_pos hce, show cap - (j + 1) = 0 by omega] at this; exact this)
          go_wp2_with (at_builtin; refine wpList_app rfl _ _ 52 rfl 72 3 24 _ info_came Tryd.underlying52 rfl (by decide) rfl HN3.out rfl HL2.out HR4.out (cm_one _) (by unfold maxLen; omega) (by omega) ?_; intro v4 w4 hown; obtain ⟨ad4, L4, cp4, rfl⟩ := sl_shape hown; have hn4 := cm_join (a := m.take j) (b := m.drop (j + 1)) (n := (m.take j).length) (m := m.length - (j + 1)) HLA.out HLB.out hown; have hf4 := (hn4.perm (star_left_comm _ _ _)).rf_facts H5S.out; have hc4 := hf4.2.1; have hz4 := hf4.2.2 5 none; have HN4 := Lib.hid hn4; clear hown hn4 hf4)
          go_roundg 0
          case measure => exact HMS0.out
          case rel =>
            refine ⟨true, j + 1, out ++ [x], hy + 1, mdel m ((k : Int), hy + 1), (.slice ad4 L4 cp4), ?_, ?_, ?_, ?_, ?_, ?_, ?_, ?_, ?_, ?_, ?_⟩
            · exact BND.out.1
            · exact HST.out.2.1
            · exact BND.out.2.1
            · exact BND.out.2.2.1
            · exact rfl
            · exact (by go_num)
            · exact Lib.hid rfl
            · exact Lib.hid BND.out.2.2.2
            · exact Lib.hid HST.out.1
            · exact Lib.hid (fun h => by cases h)
            · have hpt := HN4.out.rf_put H5S.out
              rw [HDEL.out.1]
              exact Lib.hid (hpt.perm (star_left_comm _ _ _))
        · have HR4 := Lib.hid (show Rd w3 (.slice (some ⟨b, off + (j + 1) * 3, none⟩) (m.length - (j + 1)) (cap - (j + 1))) (m.length - (j + 1)) ((m.drop (j + 1)).flatMap cmCells) by have := HR3.out; rw [cutA3, if_neg hce] at this; simpa [Addr.add_lit] using this)
          go_wp2_with (at_builtin; refine wpList_app rfl _ _ 52 rfl 72 3 24 _ info_came Tryd.underlying52 rfl (by decide) rfl HN3.out rfl HL2.out HR4.out (cm_one _) (by unfold maxLen; omega) (by omega) ?_; intro v4 w4 hown; obtain ⟨ad4, L4, cp4, rfl⟩ := sl_shape hown; have hn4 := cm_join (a := m.take j) (b := m.drop (j + 1)) (n := (m.take j).length) (m := m.length - (j + 1)) HLA.out HLB.out hown; have hf4 := (hn4.perm (star_left_comm _ _ _)).rf_facts H5S.out; have hc4 := hf4.2.1; have hz4 := hf4.2.2 5 none; have HN4 := Lib.hid hn4; clear hown hn4 hf4)
          go_roundg 0
          case measure => exact HMS0.out
          case rel =>
            refine ⟨true, j + 1, out ++ [x], hy + 1, mdel m ((k : Int), hy + 1), (.slice ad4 L4 cp4), ?_, ?_, ?_, ?_, ?_, ?_, ?_, ?_, ?_, ?_, ?_⟩
            · exact BND.out.1
            · exact HST.out.2.1
            · exact BND.out.2.1
            · exact BND.out.2.2.1
            · exact rfl
            · exact (by go_num)
            · exact Lib.hid rfl
            · exact Lib.hid BND.out.2.2.2
            · exact Lib.hid HST.out.1
            · exact Lib.hid (fun h => by cases h)
            · have hpt := HN4.out.rf_put H5S.out
              rw [HDEL.out.1]
              exact Lib.hid (hpt.perm (star_left_comm _ _ _))
/-- The reference's Fifo takes a word. -/
theorem refFi_any {w0 w : World} {R : HProp} (p : Nat) (f : Fi) (who n word : Int) (hfit : fiFit f) (h : Own w0 (RfP p f * R) w) :
    Calls Tryd.prog 28 #[.pointer (some ⟨p, 0, none⟩), .int .i64 who, .int .i64 n, .int .i64 word] w fun e w' => ∃ v, e = .returned (.tuple #[v, .int .i64 (fiErr f who n word : Nat)]) ∧ Own w0 (IntSl v (fiOut f who n word) * (RfP p (fiTake f who n word) * R)) w' := by
  by_cases hb : isMember who = false ∨ n < 1 ∨ 1000000 < n ∨ isWord word = false
  · refine (refFi_no p f who n word hfit hb h).mono ?_
    rintro e w' ⟨rfl, rfl⟩
    refine ⟨_, rfl, ?_⟩
    have he : fiErr f who n word ≠ 0 := by
      unfold fiErr
      by_cases h1 : isMember who = false
      · rw [if_pos h1]; simp
      by_cases h2 : n < 1
      · rw [if_neg h1, if_pos h2]; simp
      by_cases h3 : 1000000 < n
      · rw [if_neg h1, if_neg h2, if_pos h3]; simp
      · rw [if_neg h1, if_neg h2, if_neg h3, if_pos (hb.elim (fun h => absurd h h1) fun hb => hb.elim (fun h => absurd h h2) fun hb => hb.elim (fun h => absurd h h3) id)]; simp
    unfold fiOut fiTake
    rw [if_neg he, if_neg he]
    exact h.sl_nil _ _
  · have h1 : isMember who = true := by cases h : isMember who <;> simp [h] at hb ⊢
    have h2 : isWord word = true := by cases h : isWord word <;> simp [h] at hb ⊢
    have h3 : 1 ≤ n ∧ n ≤ 1000000 := by
      constructor
      · exact Int.not_lt.1 fun h => hb (.inr (.inl h))
      · exact Int.not_lt.1 fun h => hb (.inr (.inr (.inl h)))
    have h4 : 0 ≤ who ∧ who < 5 := by simpa [isMember] using h1
    obtain ⟨k, rfl⟩ := Int.eq_ofNat_of_zero_le h4.1
    exact refFi_yes p f k n word hfit (by omega) h3.1 h3.2 h2 h
end Go.Proofs.YteelldblfmhjlaaDoor
