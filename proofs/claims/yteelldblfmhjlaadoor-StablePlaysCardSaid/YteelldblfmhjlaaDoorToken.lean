/- Contracts of package token. -/
import Derived.Test.YteelldblfmhjlaaDoorSet
namespace Go.Proofs.YteelldblfmhjlaaDoor
set_option linter.unusedVariables false
set_option linter.unusedSimpArgs false
open Go.RowKit
structure Tok where
  most : Nat
  holder : Nat
  waits : List (List Int)
  said : List Int
  placed : Nat
def TokO (p rb off cap mb : Nat) (t : Tok) (rs : List (Value × List Int)) : HProp :=
  blk p (.cells #[.int .i64 t.most, .int .i64 t.holder, .slice (some ⟨rb, off, none⟩) rs.length cap, .map (some mb), .int .i64 t.placed] 121 (0, 0)) *
    (TabO rowP (·.1) 22 rb off cap rs * IMp mb (setM t.said))
def TokP (p : Nat) (t : Tok) : HProp := hex fun (x : (Nat × Nat × Nat × Nat) × List (Value × List Int)) => pur (x.2.map (·.2) = t.waits) * TokO p x.1.1 x.1.2.1 x.1.2.2.1 x.1.2.2.2 t x.2
theorem Own.tok_open {w0 w : World} {p : Nat} {t : Tok} {R : HProp} (h : Own w0 (TokP p t * R) w) : ∃ rb off cap mb rs, rs.map (·.2) = t.waits ∧ Own w0 (TokO p rb off cap mb t rs * R) w := by
  obtain ⟨⟨⟨rb, off, cap, mb⟩, rs⟩, h⟩ := Own.ex h
  rw [star_assoc] at h
  obtain ⟨he, h⟩ := Own.pur_out h
  exact ⟨rb, off, cap, mb, rs, he, h⟩
theorem Own.tok_close {w0 w : World} {p rb off cap mb : Nat} {t : Tok} {rs : List (Value × List Int)} {R : HProp} (he : rs.map (·.2) = t.waits) (h : Own w0 (TokO p rb off cap mb t rs * R) w) : Own w0 (TokP p t * R) w := by
  refine Own.ex_mk ((rb, off, cap, mb), rs) ?_
  rw [star_assoc]
  exact Own.pur_mk he h
/-- What the cells of a token hold. -/
theorem Own.tok_facts {w0 w : World} {p rb off cap mb : Nat} {t : Tok} {rs : List (Value × List Int)} {R : HProp} (h : Own w0 (TokO p rb off cap mb t rs * R) w) :
    w.cell? ⟨p, 0, none⟩ = some (.int .i64 t.most) ∧ w.cell? ⟨p, 1, none⟩ = some (.int .i64 t.holder) ∧ w.cell? ⟨p, 2, none⟩ = some (.slice (some ⟨rb, off, none⟩) rs.length cap) ∧ w.cell? ⟨p, 3, none⟩ = some (.map (some mb)) ∧ w.cell? ⟨p, 4, none⟩ = some (.int .i64 t.placed) ∧
    (∀ i s, w.frozen? ⟨p, i, s⟩ = false) ∧ (∀ (i : Nat) r, rs[i]? = some r → w.cell? ⟨rb, off + i, none⟩ = some r.1) ∧ (∀ i s, w.frozen? ⟨rb, i, s⟩ = false) ∧ rs.length ≤ cap ∧ cap ≤ maxLen := by
  have h1 : Own w0 (blk p (.cells #[.int .i64 t.most, .int .i64 t.holder, .slice (some ⟨rb, off, none⟩) rs.length cap, .map (some mb), .int .i64 t.placed] 121 (0, 0)) * (TabO rowP (·.1) 22 rb off cap rs * IMp mb (setM t.said) * R)) w := h.perm (by unfold TokO; ac_rfl)
  have h2 : Own w0 (TabO rowP (·.1) 22 rb off cap rs * (blk p (.cells #[.int .i64 t.most, .int .i64 t.holder, .slice (some ⟨rb, off, none⟩) rs.length cap, .map (some mb), .int .i64 t.placed] 121 (0, 0)) * IMp mb (setM t.said) * R)) w := h.perm (by unfold TokO; ac_rfl)
  have h3 := h2.tab_facts
  exact ⟨by rw [h1.cell]; rfl, by rw [h1.cell]; rfl, by rw [h1.cell]; rfl, by rw [h1.cell]; rfl, by rw [h1.cell]; rfl, fun i s => h1.free i s, h3.1, h3.2.1, h3.2.2.1, h3.2.2.2⟩
set_option maxHeartbeats 400000 in
theorem tokHas_any (p n cap : Nat) (ad : Option Addr) (who : Int) (w : World) (hc : w.cell? ⟨p, 2, none⟩ = some (.slice ad n cap)) :
    Calls Tryd.prog 64 #[.pointer (some ⟨p, 0, none⟩), .int .i64 who] w fun e w' => e = .returned (.bool (inR who n)) ∧ w = w' := by
  by_cases h0 : 0 ≤ who
  · go_enter Tryd.func64, Tryd.ntmps64
    go_wp2
    all_goals (go_ret; exact ⟨ret_bool (by unfold inR; simp; try omega), rfl⟩)
  · go_enter Tryd.func64, Tryd.ntmps64
    go_wp2
    all_goals (go_ret; exact ⟨ret_bool (by unfold inR; simp; try omega), rfl⟩)
set_option maxHeartbeats 400000 in
theorem tokHolder_any (p : Nat) (n : Int) (w : World) (hc : w.cell? ⟨p, 1, none⟩ = some (.int .i64 n)) :
    Calls Tryd.prog 43 #[.pointer (some ⟨p, 0, none⟩)] w fun e w' => e = .returned (.int .i64 n) ∧ w = w' := by
  go_enter Tryd.func43, Tryd.ntmps43
  go_wp2
  go_ret
  exact ⟨rfl, rfl⟩
theorem ints_made {n : Nat} (h : isGroup n = true) : ∀ w, (Instr.makeSlice 35 (.int .i64 n) (.int .i64 n)).run Tryd.prog w = .ok (.slice (some ⟨w.heap.size, 0, none⟩) n n) (w.alloc (.cells (Array.replicate n (.slice none 0 0)) 22)) := by
  have : n = 2 ∨ n = 3 ∨ n = 4 ∨ n = 5 := by simp [isGroup] at h; omega
  rcases this with rfl | rfl | rfl | rfl <;> (intro w; kernel_rfl)
theorem Own.tab_nils {w0 w : World} {n rb : Nat} {t : TypeId} {R : HProp} (hn : n ≤ maxLen) (h : Own w0 (blk rb (.cells (Array.replicate n (.slice none 0 0)) t (0, 0)) * R) w) (h0 : 0 < n) :
    Own w0 (TabO rowP (·.1) t rb 0 n (List.replicate n (.slice none 0 0, [])) * R) w := by
  have h1 : Own w0 (Sl t 1 (.slice (some ⟨rb, 0, none⟩) n n) n (List.replicate n (.slice none 0 0)) * R) w :=
    Own.sl_mk (Nat.le_refl _) hn (by simp) (by simp) (fun i hi => by simp at hi; simp [hi]) h
  obtain ⟨b, off, cap, e, h2⟩ := h1.slAt (by simpa using h0)
  injection e with e1 e2 e3
  injection e1 with e1
  injection e1 with e1 e4
  subst e1; subst e4; subst e3
  unfold TabO
  rw [starL_nils rowP (.slice none 0 0, []) (by unfold rowP IntSl; exact Sl_nil _ _), star_emp]
  simpa using h2
def tokNew (n most : Nat) : Tok := ⟨most, 0, List.replicate n [], [], 0⟩
def tokBad (n most : Int) : Bool := !isGroup n || decide (most < 1) || decide (10 < most)
set_option maxHeartbeats 1000000 in
theorem tokNew_no (n most : Int) (w : World) (h : tokBad n most = true) :
    Calls Tryd.prog 37 #[.int .i64 n, .int .i64 most] w fun e w' => e = .returned (.tuple #[.pointer none, errV 1]) ∧ w = w' := by
  have H := Lib.hid h
  clear h
  cases hg : isGroup n <;> by_cases h1 : most < 1 <;> by_cases h2 : 10 < most
  all_goals try (have hh := H.out; simp [tokBad, hg, h1, h2] at hh; done)
  all_goals
    have HG := Lib.hid hg
    clear hg
    go_enter Tryd.func37, Tryd.ntmps37
    go_wp2_with fail
    refine (group_any _ _).mono ?_
    rintro e w' ⟨rfl, rfl⟩
    rw [HG.out]
    go_wp2
    go_ret2
    exact ⟨rfl, rfl⟩
set_option maxRecDepth 100000 in
set_option maxHeartbeats 1000000 in
theorem tokNew_yes {w0 w : World} {R : HProp} (n most : Nat) (hb : tokBad n most = false) (h : Own w0 R w) :
    Calls Tryd.prog 37 #[.int .i64 n, .int .i64 most] w fun e w' => ∃ p, e = .returned (.tuple #[.pointer (some ⟨p, 0, none⟩), .nilIface]) ∧ Own w0 (TokP p (tokNew n most) * R) w' := by
  have hg : isGroup n = true := by cases hg : isGroup n <;> simp [tokBad, hg] at hb ⊢
  have h1 : ¬ (most : Int) < 1 := by simp [tokBad, hg] at hb; omega
  have h2 : ¬ (10 : Int) < most := by simp [tokBad, hg] at hb; omega
  have hn5 : 2 ≤ n ∧ n ≤ 5 := by simp [isGroup] at hg; omega
  have hmk := ints_made hg
  have hmm := mapint_made
  have HG := Lib.hid hg; have HH := Lib.hid h
  clear hg h hb
  go_enter Tryd.func37, Tryd.ntmps37
  go_wp2_with fail
  refine (group_any _ _).mono ?_
  rintro e w' ⟨rfl, rfl⟩
  rw [HG.out]
  go_wp2
  go_ret2
  refine ⟨_, rfl, ?_⟩
  have g1 := HH.out.alloc (.cells (Array.replicate n (.slice none 0 0)) 22)
  have g2 := g1.tab_nils (by unfold maxLen; omega) (by omega)
  have g3 := g2.map_new (enc := fun n : Int => Value.int .i64 n) (ok := I64)
  have g4 := g3.alloc (.cells #[.int .i64 most, .int .i64 0, .slice (some ⟨w.heap.size, 0, none⟩) n n, .map (some (w.heap.size + 1)), .int .i64 0] 121)
  refine Own.tok_close (t := tokNew n most) (rb := w.heap.size) (off := 0) (cap := n) (mb := w.heap.size + 1) (rs := List.replicate n (.slice none 0 0, [])) (by simp [tokNew]) ?_
  unfold TokO
  simp [tokNew, setM] at g4 ⊢
  exact g4.perm (by unfold IMp; ac_rfl)
def tokErr (t : Tok) (who word : Int) : Nat := if inR who t.waits.length = false then 1 else if isWord word = false then 1 else if word ∈ t.said then 7 else 0
def tokSay (t : Tok) (who word : Int) : Tok := if tokErr t who word = 0 then { t with said := t.said ++ [word], waits := t.waits.set who.toNat (t.waits.getD who.toNat [] ++ [word]) } else t
def tokFit (t : Tok) : Prop := (2 ≤ t.waits.length ∧ t.waits.length ≤ 5) ∧ t.holder < t.waits.length ∧ (1 ≤ t.most ∧ t.most ≤ 10) ∧ (∀ l ∈ t.waits, l.length ≤ 10000 ∧ ∀ x ∈ l, 1 ≤ x ∧ x ≤ 30) ∧ t.placed ≤ 10000000
theorem Own.tok_map {w0 w : World} {p rb off cap mb : Nat} {t : Tok} {rs : List (Value × List Int)} {R : HProp} (h : Own w0 (TokO p rb off cap mb t rs * R) w) :
    Own w0 (IMp mb (setM t.said) * (blk p (.cells #[.int .i64 t.most, .int .i64 t.holder, .slice (some ⟨rb, off, none⟩) rs.length cap, .map (some mb), .int .i64 t.placed] 121 (0, 0)) * (TabO rowP (·.1) 22 rb off cap rs * R))) w := h.perm (by unfold TokO; ac_rfl)
theorem Own.tok_unmap {w0 w : World} {p rb off cap mb : Nat} {t : Tok} {rs : List (Value × List Int)} {R : HProp} (h : Own w0 (IMp mb (setM t.said) * (blk p (.cells #[.int .i64 t.most, .int .i64 t.holder, .slice (some ⟨rb, off, none⟩) rs.length cap, .map (some mb), .int .i64 t.placed] 121 (0, 0)) * (TabO rowP (·.1) 22 rb off cap rs * R))) w) :
    Own w0 (TokO p rb off cap mb t rs * R) w := h.perm (by unfold TokO; ac_rfl)
/-- Row k out. -/
theorem Own.tok_row {w0 w : World} {p rb off cap mb : Nat} {t : Tok} {rs : List (Value × List Int)} {R : HProp} (h : Own w0 (TokO p rb off cap mb t rs * R) w) {k : Nat} (hk : k < rs.length) :
    Own w0 (IntSl rs[k].1 rs[k].2 * (SlAt 22 1 rb off rs.length cap (rs.map (·.1)) * (starL rowP (rs.eraseIdx k) * (blk p (.cells #[.int .i64 t.most, .int .i64 t.holder, .slice (some ⟨rb, off, none⟩) rs.length cap, .map (some mb), .int .i64 t.placed] 121 (0, 0)) * IMp mb (setM t.said) * R)))) w := by
  have h2 : Own w0 (TabO rowP (·.1) 22 rb off cap rs * (blk p (.cells #[.int .i64 t.most, .int .i64 t.holder, .slice (some ⟨rb, off, none⟩) rs.length cap, .map (some mb), .int .i64 t.placed] 121 (0, 0)) * IMp mb (setM t.said) * R)) w := h.perm (by unfold TokO; ac_rfl)
  exact h2.tab_take hk
theorem Own.tok_rowfacts {w0 w : World} {p rb off cap mb : Nat} {t : Tok} {rs : List (Value × List Int)} {Q S R : HProp} {k : Nat} (hk : k < rs.length)
    (h : Own w0 (Q * (SlAt 22 1 rb off rs.length cap (rs.map (·.1)) * (S * (blk p (.cells #[.int .i64 t.most, .int .i64 t.holder, .slice (some ⟨rb, off, none⟩) rs.length cap, .map (some mb), .int .i64 t.placed] 121 (0, 0)) * IMp mb (setM t.said) * R)))) w) :
    w.cell? ⟨p, 2, none⟩ = some (.slice (some ⟨rb, off, none⟩) rs.length cap) ∧ w.cell? ⟨rb, off + k, none⟩ = some rs[k].1 ∧ w.frozen? ⟨rb, off + k, none⟩ = false := by
  have h1 : Own w0 (blk p (.cells #[.int .i64 t.most, .int .i64 t.holder, .slice (some ⟨rb, off, none⟩) rs.length cap, .map (some mb), .int .i64 t.placed] 121 (0, 0)) * (Q * (SlAt 22 1 rb off rs.length cap (rs.map (·.1)) * (S * (IMp mb (setM t.said) * R))))) w := h.perm (by ac_rfl)
  have h2 := h.tab_facts' (val := fun r : Value × List Int => r.1)
  exact ⟨by rw [h1.cell]; rfl, h2.1 k _ (by simp [hk]), h2.2.1 _ _⟩
/-- A new row k in. -/
theorem Own.tok_putrow {w0 w : World} {p rb off cap mb : Nat} {t : Tok} {rs : List (Value × List Int)} {R : HProp} {k : Nat} (hk : k < rs.length) {v : Value} {l : List Int}
    (h : Own w0 (IntSl v l * (SlAt 22 1 rb off rs.length cap (rs.map (·.1)) * (starL rowP (rs.eraseIdx k) * (blk p (.cells #[.int .i64 t.most, .int .i64 t.holder, .slice (some ⟨rb, off, none⟩) rs.length cap, .map (some mb), .int .i64 t.placed] 121 (0, 0)) * IMp mb (setM t.said) * R)))) w) :
    Own w0 (TokO p rb off cap mb t (rs.set k (v, l)) * R) (w.setCell ⟨rb, off + k, none⟩ v) := by
  have h3 := Own.tab_put (f := rowP) (val := (·.1)) hk (y := (v, l)) h
  exact h3.perm (by unfold TokO; rw [List.length_set]; ac_rfl)
theorem tokSay_end {w0 w : World} {p rb off cap mb : Nat} {t : Tok} {rs : List (Value × List Int)} {R : HProp} {k : Nat} (hk : k < rs.length) {v : Value} {word : Int} (he : rs.map (·.2) = t.waits) (ht : tokErr t (k : Int) word = 0)
    (h : Own w0 (Sl 3 1 v (rs[k].2.length + 1) (rs[k].2.map (Value.int .i64) ++ [Value.int .i64 word]) * (SlAt 22 1 rb off rs.length cap (rs.map (·.1)) * (starL rowP (rs.eraseIdx k) * (blk p (.cells #[.int .i64 t.most, .int .i64 t.holder, .slice (some ⟨rb, off, none⟩) rs.length cap, .map (some mb), .int .i64 t.placed] 121 (0, 0)) * IMp mb (setM (t.said ++ [word])) * R)))) w) :
    Own w0 (TokP p (tokSay t (k : Int) word) * R) (w.setCell ⟨rb, off + k, none⟩ v) := by
  have e1 : rs[k].2.length + 1 = (rs[k].2 ++ [word]).length := by simp
  have e2 : List.map (Value.int .i64) rs[k].2 ++ [Value.int .i64 word] = (rs[k].2 ++ [word]).map (Value.int .i64) := by simp
  rw [e1, e2] at h
  have h2 := Own.tok_putrow (t := { t with said := t.said ++ [word] }) hk (l := rs[k].2 ++ [word]) h
  unfold tokSay
  rw [if_pos ht]
  refine Own.tok_close ?_ (h2 : Own w0 (TokO p rb off cap mb { t with said := t.said ++ [word], waits := _ } _ * R) _)
  rw [List.map_set, he, Int.toNat_natCast]
  have : rs[k].2 = t.waits.getD k [] := by simp [← he, hk]
  rw [this]
set_option maxRecDepth 100000 in
set_option maxHeartbeats 2000000 in
theorem tokSay_any {w0 w : World} {R : HProp} (p : Nat) (t : Tok) (who word : Int) (hfit : tokFit t) (h : Own w0 (TokP p t * R) w) :
    Calls Tryd.prog 38 #[.pointer (some ⟨p, 0, none⟩), .int .i64 who, .int .i64 word] w fun e w' => e = .returned (errV (tokErr t who word)) ∧ Own w0 (TokP p (tokSay t who word) * R) w' := by
  obtain ⟨rb, off, cap, mb, rs, he, ho⟩ := h.tok_open
  have hlen : t.waits.length = rs.length := by rw [← he, List.length_map]
  have hf := ho.tok_facts
  have hc := hf.2.2.1
  have hc3 := hf.2.2.2.1
  have HO := Lib.hid ho; have HF := Lib.hid hf; have HE := Lib.hid he; have HFIT := Lib.hid hfit; have HH := Lib.hid h; have HLEN := Lib.hid hlen
  clear h ho hf he hfit hlen
  cases hin : inR who rs.length
  · have ht : tokErr t who word = 1 := by simp [tokErr, HLEN.out, hin]
    have HT := Lib.hid ht; have HIN := Lib.hid hin
    clear ht hin
    go_enter Tryd.func38, Tryd.ntmps38
    go_wp2_with fail
    refine (tokHas_any _ _ _ _ _ _ hc).mono ?_
    rintro e w' ⟨rfl, rfl⟩
    rw [HIN.out]
    go_wp2
    go_ret
    exact ⟨by rw [HT.out]; rfl, by unfold tokSay; rw [HT.out]; exact HH.out⟩
  cases hwd : isWord word
  · have ht : tokErr t who word = 1 := by simp [tokErr, HLEN.out, hin, hwd]
    have HT := Lib.hid ht; have HIN := Lib.hid hin; have HWD := Lib.hid hwd
    clear ht hin hwd
    go_enter Tryd.func38, Tryd.ntmps38
    go_wp2_with fail
    refine (tokHas_any _ _ _ _ _ _ hc).mono ?_
    rintro e w' ⟨rfl, rfl⟩
    rw [HIN.out]
    go_wp2_with fail
    refine (word_any _ _).mono ?_
    rintro e w' ⟨rfl, rfl⟩
    rw [HWD.out]
    go_wp2
    go_ret
    exact ⟨by rw [HT.out]; rfl, by unfold tokSay; rw [HT.out]; exact HH.out⟩
  have hi := isWord_I64 hwd
  by_cases hs : word ∈ t.said
  · have ht : tokErr t who word = 7 := by simp [tokErr, HLEN.out, hin, hwd, hs]
    have hlk := HO.out.tok_map.map_look (int_ke int_kind) mapint_kind bool_zero hi false
    rw [mget_setM, if_neg (by decide), decide_eq_true hs] at hlk
    have HT := Lib.hid ht; have HIN := Lib.hid hin; have HWD := Lib.hid hwd
    clear ht hin hwd hs
    go_enter Tryd.func38, Tryd.ntmps38
    go_wp2_with fail
    refine (tokHas_any _ _ _ _ _ _ hc).mono ?_
    rintro e w' ⟨rfl, rfl⟩
    rw [HIN.out]
    go_wp2_with fail
    refine (word_any _ _).mono ?_
    rintro e w' ⟨rfl, rfl⟩
    rw [HWD.out]
    go_wp2
    go_ret
    exact ⟨by rw [HT.out]; rfl, by unfold tokSay; rw [HT.out]; exact HH.out⟩
  · have ht : tokErr t who word = 0 := by simp [tokErr, HLEN.out, hin, hwd, hs]
    have hlk := HO.out.tok_map.map_look (int_ke int_kind) mapint_kind bool_zero hi false
    rw [mget_setM, if_neg (by decide), decide_eq_false hs] at hlk
    have hw : 0 ≤ who ∧ who < rs.length := by simpa [inR] using hin
    obtain ⟨k, rfl⟩ := Int.eq_ofNat_of_zero_le hw.1
    have hk : k < rs.length := by omega
    have HT := Lib.hid ht; have HIN := Lib.hid hin; have HWD := Lib.hid hwd; have HS := Lib.hid hs
    clear ht hin hwd hs hw
    have FF : ∀ w', Own w0 (TokO p rb off cap mb { t with said := t.said ++ [word] } rs * R) w' → w'.cell? ⟨p, 2, none⟩ = some (.slice (some ⟨rb, off, none⟩) rs.length cap) ∧ w'.cell? ⟨rb, off + k, none⟩ = some rs[k].1 ∧ w'.frozen? ⟨rb, off + k, none⟩ = false := fun w' hw' => by
      have := hw'.tok_facts; exact ⟨this.2.2.1, this.2.2.2.2.2.2.1 k _ (by simp [hk]), this.2.2.2.2.2.2.2.1 _ _⟩
    have hlen : rs[k].2.length ≤ 10000 := (HFIT.out.2.2.2.1 _ (by rw [← HE.out]; exact List.mem_map.2 ⟨rs[k], List.getElem_mem hk, rfl⟩)).1
    have HL := Lib.hid hlen
    have hlen2 : rs[k].2.length + 1 ≤ maxLen := by unfold maxLen; omega
    have hlen3 : (rs[k].2.length + 1) * 8 ≤ 140737488355328 := by omega
    have GG := Lib.hid FF; have HL2 := Lib.hid hlen2; have HL3 := Lib.hid hlen3
    clear FF hlen hlen2 hlen3
    go_enter Tryd.func38, Tryd.ntmps38
    go_wp2_with fail
    refine (tokHas_any _ _ _ _ _ _ hc).mono ?_
    rintro e w' ⟨rfl, rfl⟩
    rw [HIN.out]
    go_wp2_with fail
    refine (word_any _ _).mono ?_
    rintro e w' ⟨rfl, rfl⟩
    rw [HWD.out]
    go_wp2_with (at_mapUpdate; refine wpList_put (v := .bool true) (int_ke int_kind) mapint_kind HO.out.tok_map hi rfl _ _ _ rfl rfl rfl rfl ?_; intro w1 hown1; rw [mput_setM HS.out] at hown1)
    have ho1 : Own w0 (TokO p rb off cap mb { t with said := t.said ++ [word] } rs * R) w1 := Own.tok_unmap hown1
    have hb1 := ((ho1.tok_row hk).alloc' (.cells #[.int .i64 word] 3)).drew
    have c0 := fun o => Own.tok_rowfacts (t := { t with said := t.said ++ [word] }) hk ((ho1.alloc' o).tok_row hk)
    obtain ⟨c1, c2, c3⟩ := Own.tok_rowfacts (t := { t with said := t.said ++ [word] }) hk (ho1.tok_row hk)
    have d1 := fun o => (c0 o).1
    have d2 := fun o => (c0 o).2.1
    have d3 := fun o => (c0 o).2.2
    obtain ⟨ad, cp, hshape, _⟩ := Own.rd hb1
    unfold IntSl at hb1
    rw [hshape] at hb1 c2
    simp only [hshape] at d2
    have HO1 := Lib.hid hb1
    clear hown1 ho1 hb1 c0
    go_wp2_with fail
    go_region_law ((refine step_app rfl _ _ 22 rfl 3 1 8 _ int_info Tryd.underlying22 rfl (by decide) rfl HO1.out rfl (by rfl) (Rd_lit (by simp) (by unfold maxLen; omega)) (by intro u hu; simp at hu; subst hu; rfl) HL2.out HL3.out ?_; intro v' w2 hown'; obtain ⟨ad', cp', rfl, _⟩ := Own.rd hown'; obtain ⟨g1, g2, g3⟩ := Own.tok_rowfacts (t := { t with said := t.said ++ [word] }) hk hown'; have HW := Lib.hid hown'; clear hown'))
    all_goals
      go_wp2
      go_ret
      exact ⟨by rw [HT.out]; rfl, tokSay_end hk HE.out HT.out HW.out⟩
end Go.Proofs.YteelldblfmhjlaaDoor
