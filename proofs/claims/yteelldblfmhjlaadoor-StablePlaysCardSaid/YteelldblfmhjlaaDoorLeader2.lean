/- Contracts of package leader: New, Say, Lacks, Heard. -/
import Derived.Test.YteelldblfmhjlaaDoorLeader
namespace Go.Proofs.YteelldblfmhjlaaDoor
set_option linter.unusedVariables false
set_option linter.unusedSimpArgs false
open Go.RowKit
/-- A leader in the making. -/
def LdN (p : Nat) (mv : Value) (rs : List LdR) : HProp := blk p (.cells #[.slice none 0 0, mv] 124 (0, 0)) * (Sl 125 1 mv rs.length (rs.map ldV) * starL ldM rs)
theorem info_ldm : (Tryd.prog.info? 125).map (fun i => (i.zero, i.size, i.bytes)) = some (some (.pointer none), 1, 8) := by kernel_rfl
theorem ldN_open {w0 w : World} {p : Nat} {mv : Value} {rs : List LdR} {R : HProp} (h : Own w0 (LdN p mv rs * R) w) :
    Own w0 (blk p (.cells #[.slice none 0 0, mv] 124 (0, 0)) * (Sl 125 1 mv rs.length (rs.map ldV) * (starL ldM rs * R))) w := h.perm (by unfold LdN; ac_rfl)
theorem ldN_app {w0 w : World} {p : Nat} {mv : Value} {rs : List LdR} {R : HProp} (o : Obj) (h : Own w0 (LdN p mv rs * R) w) :
    Own w0 (Sl 125 1 mv rs.length (rs.map ldV) * (blk p (.cells #[.slice none 0 0, mv] 124 (0, 0)) * (starL ldM rs * (ldM ⟨w.heap.size + 1, w.heap.size, [], 0⟩ * R)))) (((w.alloc (.map #[] 0)).alloc (.cells #[.map (some w.heap.size), .int .i64 0] 127)).alloc o) := by
  have h1 := ((h.map_new (enc := fun n : Int => Value.int .i64 n) (ok := I64)).alloc (.cells #[.map (some w.heap.size), .int .i64 0] 127)).alloc' o
  refine h1.perm ?_
  unfold LdN ldM
  simp only [World.size_alloc, setM, List.map_nil]
  unfold IMp
  simp only [Int.natCast_zero]
  ac_rfl
theorem ldN_push {w0 w : World} {p q mb : Nat} {mv v' : Value} {rs : List LdR} {R : HProp}
    (h : Own w0 (Sl 125 1 v' (rs.length + 1) (rs.map ldV ++ [.pointer (some ⟨q, 0, none⟩)]) * (blk p (.cells #[.slice none 0 0, mv] 124 (0, 0)) * (starL ldM rs * (ldM ⟨q, mb, [], 0⟩ * R)))) w) :
    Own w0 (LdN p v' (rs ++ [⟨q, mb, [], 0⟩]) * R) (w.setCell ⟨p, 1, none⟩ v') := by
  have h1 := (h.perm (star_left_comm _ _ _)).setCell (i := 1) (v := v')
  refine h1.perm ?_
  unfold LdN
  rw [starL_snoc, List.length_append, List.map_append]
  simp [ldV]
  ac_rfl
def ldNew (n : Nat) : Ld := ⟨[], List.replicate n ([], 0)⟩
theorem ldN_done {w0 w : World} {p n : Nat} {mv : Value} {rs : List LdR} {R : HProp} (hn : 0 < rs.length) (hl : rs.map ldA = List.replicate n ([], 0)) (h : Own w0 (LdN p mv rs * R) w) : Own w0 (LdP p (ldNew n) * R) w := by
  have h1 := ((ldN_open h).perm (star_left_comm _ _ _))
  obtain ⟨b, off, cap, rfl, h2⟩ := h1.slAt (by simpa using hn)
  have h3 := h2.sl_nil 3 1
  refine Own.ld_close (wv := .slice none 0 0) (rb := b) (off := off) (cap := cap) (rs := rs) hl (h3.perm ?_)
  unfold LdO TabO IntSl
  simp [ldNew]
  ac_rfl
set_option maxRecDepth 100000 in
set_option maxHeartbeats 4000000 in
theorem ldNew_no (n : Int) (w : World) (h : isGroup n = false) :
    Calls Tryd.prog 44 #[.int .i64 n] w fun e w' => e = .returned (.tuple #[.pointer none, errV 1]) ∧ w = w' := by
  have H := Lib.hid h
  clear h
  go_enter Tryd.func44, Tryd.ntmps44
  go_wp2_with fail
  refine (group_any _ _).mono ?_
  rintro e w' ⟨rfl, rfl⟩
  rw [H.out]
  go_wp2
  go_ret2
  exact ⟨rfl, rfl⟩
set_option maxRecDepth 100000 in
set_option maxHeartbeats 4000000 in
theorem ldNew_yes {w0 w : World} {R : HProp} (n : Nat) (hg : isGroup n = true) (h : Own w0 R w) :
    Calls Tryd.prog 44 #[.int .i64 n] w fun e w' => ∃ p, e = .returned (.tuple #[.pointer (some ⟨p, 0, none⟩), .nilIface]) ∧ Own w0 (LdP p (ldNew n) * R) w' := by
  have hn5 : 2 ≤ n ∧ n ≤ 5 := by simp [isGroup] at hg; omega
  have hmm := mapint_made
  have HG := Lib.hid hg; have H := Lib.hid h
  clear hg h
  go_enter Tryd.func44, Tryd.ntmps44
  go_wp2_with fail
  refine (group_any _ _).mono ?_
  rintro e w' ⟨rfl, rfl⟩
  rw [HG.out]
  go_wp2
  go_loopw [12] (fun i wr => ∃ (k : Nat) (mv : Value) (rs : List LdR), k ≤ n ∧ i = .int .i64 k ∧ Hid (rs.length = k ∧ rs.map ldA = List.replicate k ([], 0)) ∧ Hid (Own w0 (LdN w.heap.size mv rs * R) wr)) (fun i _ => n - (intOf i).toNat)
  case atStart =>
    refine ⟨0, .slice none 0 0, [], Nat.zero_le _, rfl, ⟨rfl, rfl⟩, ?_⟩
    refine Lib.hid (((H.out.alloc (.cells #[.slice none 0 0, .slice none 0 0] 124)).sl_nil 125 1).perm ?_)
    unfold LdN
    show _ = _ * (_ * emp) * R
    rw [star_emp]
    simp only [List.length_nil, List.map_nil]
    ac_rfl
  case round =>
    obtain ⟨k, mv, rs, hk, rfl, HRS, HP⟩ := hrel
    by_cases hlt : k < n
    · have h1 := ldN_open HP.out
      have c1 : wr.cell? ⟨w.heap.size, 1, none⟩ = some mv := by rw [h1.cell]; rfl
      have hrl : rs.length = k := HRS.out.1
      obtain ⟨ad, cp, hmv, _⟩ := Own.rd (h1.perm (star_left_comm _ _ _))
      subst hmv
      have c2 := fun o => by have := (h1.alloc' o).cell 1; exact this.trans (show _ = some (Value.slice ad rs.length cp) from rfl)
      have HRL := Lib.hid hrl
      clear hrl
      clear h1
      go_wp2_with (at_builtin; refine wpList_app rfl _ _ 122 rfl 125 1 8 _ info_ldm Tryd.underlying122 rfl (by decide) rfl (ldN_app _ HP.out) rfl (by rfl) (Rd_lit (by simp) (by unfold maxLen; omega)) (by intro u hu; simp at hu; subst hu; rfl) (by have := HRL.out; unfold maxLen; omega) (by have := HRL.out; omega) ?_; intro v' w2 hown'; have g1 := (hown'.perm (star_left_comm _ _ _)).cell 1; have g2 := (hown'.perm (star_left_comm _ _ _)).free 1 none; obtain ⟨ad', cp', hv', _⟩ := Own.rd hown'; rw [hv'] at hown' ⊢; have HW := Lib.hid hown'; clear hown' hv')
      refine ⟨⟨k + 1, _, _, by omega, by go_num, ?_, Lib.hid (ldN_push HW.out)⟩, by simp [intOf] <;> omega⟩
      refine ⟨by simp [HRL.out], ?_⟩
      rw [List.map_append, HRS.out.2]
      exact (List.replicate_succ' ..).symm
    · have hkn : k = n := by omega
      subst hkn
      go_wp2
      go_ret2
      exact ⟨_, rfl, ldN_done (by have := HRS.out.1; omega) HRS.out.2 HP.out⟩
def ldSayErr (l : Ld) (word : Int) : Nat := if isWord word = false then 1 else if word ∈ l.words then 7 else 0
def ldSay (l : Ld) (word : Int) : Ld := if ldSayErr l word = 0 then ⟨l.words ++ [word], l.mem⟩ else l
def ldSayOut (l : Ld) (word : Int) : Int × Int := if ldSayErr l word = 0 then (l.words.length, word) else (0, 0)
theorem ldSay_end {w0 w : World} {p rb off cap : Nat} {wv v' : Value} {l : Ld} {rs : List LdR} {R : HProp} {word : Int} (hm : rs.map ldA = l.mem)
    (h : Own w0 (Sl 3 1 v' (l.words.length + 1) (l.words.map (Value.int .i64) ++ [.int .i64 word]) * (TabO ldM ldV 125 rb off cap rs * (blk p (.cells #[wv, .slice (some ⟨rb, off, none⟩) rs.length cap] 124 (0, 0)) * R))) w) :
    Own w0 (LdP p ⟨l.words ++ [word], l.mem⟩ * R) (w.setCell ⟨p, 0, none⟩ v') := by
  have h1 : Own w0 (blk p (.cells #[wv, .slice (some ⟨rb, off, none⟩) rs.length cap] 124 (0, 0)) * (Sl 3 1 v' (l.words.length + 1) (l.words.map (Value.int .i64) ++ [.int .i64 word]) * (TabO ldM ldV 125 rb off cap rs * R))) w := h.perm (by ac_rfl)
  refine Own.ld_close (wv := v') (rb := rb) (off := off) (cap := cap) (l := ⟨l.words ++ [word], l.mem⟩) hm ((h1.setCell (i := 0) (v := v')).perm ?_)
  unfold LdO IntSl
  simp
  ac_rfl
theorem ldSay_facts {w0 w : World} {p q : Nat} {wv mv : Value} {A T R : HProp} {tp tq : TypeId} {c0 c1 : Value}
    (h : Own w0 (A * (blk q (.cells #[c0, c1] tq (0, 0)) * (T * (blk p (.cells #[wv, mv] tp (0, 0)) * R)))) w) :
    w.cell? ⟨p, 0, none⟩ = some wv ∧ (w.frozen? ⟨p, 0, none⟩ = false) ∧ w.cell? ⟨q, 0, none⟩ = some c0 ∧ w.cell? ⟨q, 1, none⟩ = some c1 ∧ (∀ i s, w.frozen? ⟨q, i, s⟩ = false) ∧ ¬ p = q := by
  have h1 : Own w0 (blk p (.cells #[wv, mv] tp (0, 0)) * (blk q (.cells #[c0, c1] tq (0, 0)) * (A * (T * R)))) w := h.perm (by ac_rfl)
  have h2 := h1.perm (star_left_comm _ _ _)
  exact ⟨by rw [h1.cell]; rfl, h1.free _ _, by rw [h2.cell]; rfl, by rw [h2.cell]; rfl, fun i s => h2.free i s, h1.ne⟩
set_option maxRecDepth 100000 in
set_option maxHeartbeats 4000000 in
theorem ldSay_any {w0 w : World} {R : HProp} (p : Nat) (l : Ld) (word : Int) (hfit : ldFit l) (h : Own w0 (LdP p l * R) w) :
    Calls Tryd.prog 46 #[.pointer (some ⟨p, 0, none⟩), .int .i64 word] w fun e w' => e = .returned (.tuple #[.agg #[.int .i64 (ldSayOut l word).1, .int .i64 (ldSayOut l word).2], errV (ldSayErr l word)]) ∧ Own w0 (LdP p (ldSay l word) * R) w' := by
  obtain ⟨wv, rb, off, cap, rs, hm, ho⟩ := h.ld_open
  obtain ⟨c0, c1, c2, _⟩ := ho.ld_facts
  obtain ⟨ad, cp, hv, hcp1, hcp2, _⟩ := Own.rd ho.ld_words
  have hwI : ∀ x ∈ l.words, I64 x := fun x hx => by have := hfit.2.1 x hx; unfold I64; omega
  subst hv
  cases hwd : isWord word
  · have ht : ldSayErr l word = 1 := by simp [ldSayErr, hwd]
    have H := Lib.hid h; have HO := Lib.hid ho; have HWD := Lib.hid hwd; have HT := Lib.hid ht; have HM := Lib.hid hm; have HWI := Lib.hid hwI; have C2 := Lib.hid c2; have HFIT := Lib.hid hfit
    clear h ho hwd ht hm hwI c2 hfit
    clear c0 c1
    go_enter Tryd.func46, Tryd.ntmps46
    go_wp2_with fail
    refine (word_any _ _).mono ?_
    rintro e w' ⟨rfl, rfl⟩
    rw [HWD.out]
    go_wp2
    exact bodyPost_ret (v := .tuple #[.agg #[.int .i64 0, .int .i64 0], errV 1]) (by simp [results, Tryd.results46, go_sem]; rfl) rfl ⟨by unfold ldSayOut; rw [HT.out]; rfl, by unfold ldSay; rw [HT.out]; exact H.out.alloc' _⟩
  · by_cases hs : word ∈ l.words
    · have ht : ldSayErr l word = 7 := by simp [ldSayErr, hwd, hs]
      have hd : decide (word ∈ l.words) = true := by simp [hs]
      have hio : Ints w (.slice ad l.words.length cp) l.words := ⟨Own.rd ho.ld_words, hwI⟩
      have H := Lib.hid h; have HO := Lib.hid ho; have HWD := Lib.hid hwd; have HT := Lib.hid ht; have HM := Lib.hid hm; have HWI := Lib.hid hwI; have C2 := Lib.hid c2; have HFIT := Lib.hid hfit; have HS := Lib.hid hs; have HD := Lib.hid hd; have HIO := Lib.hid hio
      clear h ho hwd ht hm hwI c2 hfit hs hd hio
      have c0' := fun o => (HO.out.alloc' o).ld_facts.1
      clear c0 c1
      go_enter Tryd.func46, Tryd.ntmps46
      go_wp2_with fail
      refine (word_any _ _).mono ?_
      rintro e w' ⟨rfl, rfl⟩
      rw [HWD.out]
      go_wp2_with fail
      refine (containsInt_any _ _ _ _ (HIO.out.alloc _)).mono ?_
      rintro e w' ⟨rfl, rfl⟩
      rw [HD.out]
      go_wp2
      exact bodyPost_ret (v := .tuple #[.agg #[.int .i64 0, .int .i64 0], errV 7]) (by simp [results, Tryd.results46, go_sem]; rfl) rfl ⟨by unfold ldSayOut; rw [HT.out]; rfl, by unfold ldSay; rw [HT.out]; exact H.out.alloc' _⟩
    · have ht : ldSayErr l word = 0 := by simp [ldSayErr, hwd, hs]
      have hd : decide (word ∈ l.words) = false := by simp [hs]
      have hio : Ints w (.slice ad l.words.length cp) l.words := ⟨Own.rd ho.ld_words, hwI⟩
      obtain ⟨L, hL⟩ : ∃ L, L = l.words.length := ⟨_, rfl⟩
      have hL1 : L ≤ 10000 := by rw [hL]; exact hfit.1
      have H := Lib.hid h; have HO := Lib.hid ho; have HWD := Lib.hid hwd; have HT := Lib.hid ht; have HM := Lib.hid hm; have HWI := Lib.hid hwI; have C2 := Lib.hid c2; have HFIT := Lib.hid hfit; have HS := Lib.hid hs; have HD := Lib.hid hd; have HIO := Lib.hid hio
      clear h ho hwd ht hm hwI c2 hfit hs hd hio
      have c0' := fun o => (HO.out.alloc' o).ld_facts.1
      have c0'' := fun o o' => ((HO.out.alloc' o).alloc' o').ld_facts.1
      rw [← hL] at c0' c0''
      have HLL := Lib.hid hL
      clear c0 c1 hL
      have hsl := HO.out.ld_words
      unfold IntSl at hsl
      rw [← HLL.out] at hsl
      have HSL := Lib.hid hsl
      clear hsl
      go_enter Tryd.func46, Tryd.ntmps46
      go_wp2_with fail
      refine (word_any _ _).mono ?_
      rintro e w' ⟨rfl, rfl⟩
      rw [HWD.out]
      go_wp2_with fail
      refine (containsInt_any _ l.words _ _ (by rw [HLL.out]; exact HIO.out.alloc _)).mono ?_
      rintro e w' ⟨rfl, rfl⟩
      rw [HD.out]
      go_wp2_with (at_builtin; refine wpList_app rfl _ _ 22 rfl 3 1 8 _ info_int Tryd.underlying22 rfl (by decide) rfl (((HSL.out.alloc (.cells #[.int .i64 0, .int .i64 0] 93)).perm (star_left_comm _ _ _)).alloc' _) rfl (by rfl) (Rd_lit (by simp) (by unfold maxLen; omega)) (by intro u hu; simp at hu; subst hu; rfl) (by unfold maxLen; omega) (by omega) ?_; intro v' w2 hown'; obtain ⟨ad', cp', hv', _⟩ := Own.rd hown'; rw [hv'] at hown' ⊢; have g := ldSay_facts hown'; obtain ⟨g1, g2, g3, g4, g5, g6⟩ := g; have HW := Lib.hid hown'; clear hown' hv')
      exact bodyPost_ret (v := .tuple #[.agg #[.int .i64 L, .int .i64 word], .nilIface]) (by simp [results, Tryd.results46, go_sem, *]) rfl ⟨by unfold ldSayOut; rw [HT.out, HLL.out]; rfl, by
        unfold ldSay
        rw [if_pos HT.out]
        have hL' := HLL.out
        subst hL'
        have h1 := ldSay_end (R := blk w.heap.size (.cells #[.int .i64 0, .int .i64 0] 93 (0, 0)) * R) (v' := .slice ad' (l.words.length + 1) cp') HM.out (HW.out.perm (by ac_rfl))
        exact (((h1.perm (star_left_comm _ _ _)).setCell (i := 0) (v := .int .i64 l.words.length)).setCell (i := 1) (v := .int .i64 word)).drop⟩
def ldLacks (l : Ld) (who : Int) : List Int := if inR who l.mem.length then ((List.range l.words.length).map (fun i : Nat => (i : Int))).filter (fun x => decide (x ∉ (ldGet l who).1)) else []
def ldHeard (l : Ld) (who : Int) : List Int := if inR who l.mem.length then l.words.take (ldGet l who).2 else []
theorem lacks_snoc (come : List Int) (k : Nat) : ((List.range (k + 1)).map (fun i : Nat => (i : Int))).filter (fun x => decide (x ∉ come)) = ((List.range k).map (fun i : Nat => (i : Int))).filter (fun x => decide (x ∉ come)) ++ (if (k : Int) ∈ come then [] else [(k : Int)]) := by
  rw [List.range_succ, List.map_append, List.filter_append]
  by_cases h : (k : Int) ∈ come <;> simp [h]
set_option maxRecDepth 100000 in
set_option maxHeartbeats 4000000 in
theorem ldLacks_any {w0 w : World} {R : HProp} (p : Nat) (l : Ld) (who : Int) (hfit : ldFit l) (h : Own w0 (LdP p l * R) w) :
    Calls Tryd.prog 49 #[.pointer (some ⟨p, 0, none⟩), .int .i64 who] w fun e w' => ∃ v, e = .returned (.tuple #[v, errV (inErr who l.mem.length)]) ∧ Own w0 (IntSl v (ldLacks l who) * (LdP p l * R)) w' := by
  obtain ⟨wv, rb, off, cap, rs, hm, ho⟩ := h.ld_open
  have hlen : l.mem.length = rs.length := by rw [← hm, List.length_map]
  obtain ⟨c0, c1, _, c3, _, c5, c6⟩ := ho.ld_facts
  obtain ⟨ad, cp, hv, hcp1, hcp2, _⟩ := Own.rd ho.ld_words
  subst hv
  cases hin : inR who rs.length
  · have ht : inErr who l.mem.length = 1 := by simp [inErr, hlen, hin]
    have ho2 : ldLacks l who = [] := by simp [ldLacks, hlen, hin]
    have HIN := Lib.hid hin; have HT := Lib.hid ht; have H := Lib.hid h; have HO := Lib.hid ho; have HM := Lib.hid hm; have HLEN := Lib.hid hlen; have HO2 := Lib.hid ho2
    clear hin ht h ho hm hlen ho2
    go_enter Tryd.func49, Tryd.ntmps49
    go_wp2_with fail
    refine (ldHas_any _ _ _ _ _ _ c1).mono ?_
    rintro e w' ⟨rfl, rfl⟩
    rw [HIN.out]
    go_wp2
    go_ret2
    exact ⟨_, by rw [HT.out]; rfl, by rw [HO2.out]; exact H.out.sl_nil _ _⟩
  · have hw : 0 ≤ who ∧ who < rs.length := by simpa [inR] using hin
    obtain ⟨k, rfl⟩ := Int.eq_ofNat_of_zero_le hw.1
    have hk : k < rs.length := by omega
    have ht : inErr (k : Int) l.mem.length = 0 := by simp [inErr, hlen, hin]
    have hget : ldGet l k = (rs[k].come, rs[k].heard) := by
      unfold ldGet
      rw [← hm]
      simp [hk, ldA]
    obtain ⟨L, hL⟩ : ∃ L, L = l.words.length := ⟨_, rfl⟩
    have hL1 : L ≤ 10000 := by rw [hL]; exact hfit.1
    have ho2 : ldLacks l k = ((List.range L).map (fun i : Nat => (i : Int))).filter (fun x => decide (x ∉ rs[k].come)) := by
      unfold ldLacks
      rw [hget, hlen, hin, hL]; rfl
    rw [← hL] at c0 ho hcp1
    obtain ⟨C, hCe⟩ : ∃ C, C = rs[k].come := ⟨_, rfl⟩
    rw [← hCe] at ho2
    obtain ⟨mp, hmp⟩ : ∃ mp, mp = rs[k].p := ⟨_, rfl⟩
    obtain ⟨mb, hmb⟩ : ∃ mb, mb = rs[k].mb := ⟨_, rfl⟩
    have HIN := Lib.hid hin; have HT := Lib.hid ht; have H := Lib.hid h; have HM := Lib.hid hm; have HLEN := Lib.hid hlen; have HO2 := Lib.hid ho2; have HGET := Lib.hid hget; have HL := Lib.hid hL; have HFIT := Lib.hid hfit; have HCE := Lib.hid hCe; have HMP := Lib.hid hmp; have HMB := Lib.hid hmb
    clear hin ht h hm hlen ho2 hget hL hfit hCe hmp hmb
    clear hw
    have HO := Lib.hid ho
    clear ho c3
    go_enter Tryd.func49, Tryd.ntmps49
    go_wp2_with fail
    refine (ldHas_any _ _ _ _ _ _ c1).mono ?_
    rintro e w' ⟨rfl, rfl⟩
    rw [HIN.out]
    go_wp2
    go_loopw [6, 18] (fun v i wr => ∃ j : Nat, j ≤ L ∧ i = .int .i64 j ∧ Hid (Own w0 (IntSl v (((List.range j).map (fun i : Nat => (i : Int))).filter (fun x => decide (x ∉ C))) * (LdO p (.slice ad L cp) rb off cap l.words rs * R)) wr)) (fun _ i _ => L - (intOf i).toNat)
    case atStart => exact ⟨0, Nat.zero_le _, rfl, Lib.hid (HO.out.sl_nil _ _)⟩
    case round =>
      obtain ⟨j, hj, rfl, HP⟩ := hrel
      by_cases hlt : j < L
      · have hp1 := HP.out.perm (star_left_comm _ _ _)
        obtain ⟨d0, d1, _, d3, _⟩ := hp1.ld_facts
        have d3k := d3 k rs[k] (by simp [hk])
        have hx := hp1.ld_take hk
        obtain ⟨f0, f1, _⟩ := hx.ldm_facts
        have hlk := hx.ldm_look (j : Int) (by unfold I64; omega)
        unfold ldV at d3k
        rw [← HCE.out] at hlk
        rw [← HMP.out] at d3k f0 f1
        rw [← HMB.out] at f0 hlk
        have hsl := HP.out
        unfold IntSl at hsl
        have hjl : (((List.range j).map (fun i : Nat => (i : Int))).filter (fun x => decide (x ∉ C))).length ≤ j := by
          refine Nat.le_trans (List.length_filter_le _ _) ?_
          simp
        by_cases e : (j : Int) ∈ C
        · rw [decide_eq_true e] at hlk
          have hsn := lacks_snoc C j
          rw [if_pos e, List.append_nil] at hsn
          have HP1 := Lib.hid hp1; have HX := Lib.hid hx; have HSL := Lib.hid hsl; have E := Lib.hid e; have HSN := Lib.hid hsn
          clear hp1 hx hsl e hsn
          clear c0 c1 d3
          go_wp2
          refine ⟨⟨j + 1, by omega, by go_num, ?_⟩, by simp [intOf] <;> omega⟩
          rw [HSN.out]; exact HP
        · rw [decide_eq_false e] at hlk
          have hsn := lacks_snoc C j
          rw [if_neg e] at hsn
          have HP1 := Lib.hid hp1; have HX := Lib.hid hx; have HSL := Lib.hid hsl; have E := Lib.hid e; have HSN := Lib.hid hsn
          clear hp1 hx hsl e hsn
          clear c0 c1 d3
          go_wp2_with (at_builtin; refine wpList_app rfl _ _ 22 rfl 3 1 8 _ info_int Tryd.underlying22 rfl (by decide) rfl (HSL.out.alloc' _) rfl (by rfl) (Rd_lit (by simp) (by unfold maxLen; omega)) (by intro u hu; simp at hu; subst hu; rfl) (by unfold maxLen; omega) (by omega) ?_; intro v' w2 hown'; have HW := Lib.hid hown'; clear hown')
          refine ⟨⟨j + 1, by omega, by go_num, ?_⟩, by simp [intOf] <;> omega⟩
          rw [HSN.out]
          refine Lib.hid (HW.out.perm ?_)
          unfold IntSl
          simp
      · have hkn : j = L := by omega
        subst hkn
        go_wp2
        go_ret2
        refine ⟨_, by rw [HT.out]; rfl, ?_⟩
        rw [HO2.out]
        have h1 := HP.out.perm (star_left_comm _ _ _)
        rw [HL.out] at h1 ⊢
        exact (Own.ld_close HM.out h1).perm (star_left_comm _ _ _)
set_option maxRecDepth 100000 in
set_option maxHeartbeats 4000000 in
theorem ldHeard_any {w0 w : World} {R : HProp} (p : Nat) (l : Ld) (who : Int) (hfit : ldFit l) (h : Own w0 (LdP p l * R) w) :
    Calls Tryd.prog 50 #[.pointer (some ⟨p, 0, none⟩), .int .i64 who] w fun e w' => ∃ v, e = .returned (.tuple #[v, errV (inErr who l.mem.length)]) ∧ Own w0 (IntSl v (ldHeard l who) * (LdP p l * R)) w' := by
  obtain ⟨wv, rb, off, cap, rs, hm, ho⟩ := h.ld_open
  have hlen : l.mem.length = rs.length := by rw [← hm, List.length_map]
  obtain ⟨c0, c1, _, c3, _, c5, c6⟩ := ho.ld_facts
  obtain ⟨ad, cp, hv, hcp1, hcp2, _⟩ := Own.rd ho.ld_words
  have hwI : ∀ x ∈ l.words, I64 x := fun x hx => by have := hfit.2.1 x hx; unfold I64; omega
  subst hv
  cases hin : inR who rs.length
  · have ht : inErr who l.mem.length = 1 := by simp [inErr, hlen, hin]
    have ho2 : ldHeard l who = [] := by simp [ldHeard, hlen, hin]
    have HIN := Lib.hid hin; have HT := Lib.hid ht; have H := Lib.hid h; have HO := Lib.hid ho; have HM := Lib.hid hm; have HLEN := Lib.hid hlen; have HO2 := Lib.hid ho2
    clear hin ht h ho hm hlen ho2
    go_enter Tryd.func50, Tryd.ntmps50
    go_wp2_with fail
    refine (ldHas_any _ _ _ _ _ _ c1).mono ?_
    rintro e w' ⟨rfl, rfl⟩
    rw [HIN.out]
    go_wp2
    go_ret2
    exact ⟨_, by rw [HT.out]; rfl, by rw [HO2.out]; exact H.out.sl_nil _ _⟩
  · have hw : 0 ≤ who ∧ who < rs.length := by simpa [inR] using hin
    obtain ⟨k, rfl⟩ := Int.eq_ofNat_of_zero_le hw.1
    have hk : k < rs.length := by omega
    have ht : inErr (k : Int) l.mem.length = 0 := by simp [inErr, hlen, hin]
    have hget : ldGet l k = (rs[k].come, rs[k].heard) := by
      unfold ldGet
      rw [← hm]
      simp [hk, ldA]
    obtain ⟨hh, hhe⟩ : ∃ hh, hh = rs[k].heard := ⟨_, rfl⟩
    have ho2 : ldHeard l k = l.words.take hh := by
      unfold ldHeard
      rw [hget, hlen, hin, hhe]; rfl
    have hf := (hfit.2.2 (rs[k].come, rs[k].heard) (by rw [← hm]; exact List.mem_map.2 ⟨rs[k], List.getElem_mem hk, rfl⟩)).1
    have hle : hh ≤ l.words.length := by rw [hhe]; exact hf
    have hio : Ints w (.slice ad l.words.length cp) l.words := ⟨Own.rd ho.ld_words, hwI⟩
    have hmi := Ints.mid hio (Nat.zero_le _) hle
    have hcut : cutA ad cp 0 = ad := by
      unfold cutA
      split
      · rfl
      · cases ad <;> simp [Addr.add]
    rw [hcut, List.drop_zero, Nat.sub_zero, Nat.sub_zero] at hmi
    have hsl := fun w => cut_back (P := Tryd.prog) (e := 3) Tryd.underlying22 int_size1 (ad := ad) hle hcp1 w
    have hsm : (l.words.take hh).length ≤ 100000 := by have := hfit.1; simp; omega
    obtain ⟨mp, hmp⟩ : ∃ mp, mp = rs[k].p := ⟨_, rfl⟩
    have c3k := c3 k rs[k] (by simp [hk])
    obtain ⟨f0, f1, _⟩ := (ho.ld_take hk).ldm_facts
    unfold ldV at c3k
    rw [← hmp] at c3k f0 f1
    rw [← hhe] at f1
    have hk0 : (0 : Int) ≤ (k : Int) := by omega
    have hk5 : (k : Int) < (rs.length : Int) := by omega
    have hh0 : (0 : Int) ≤ (hh : Int) := by omega
    have hh2 : (hh : Int) ≤ (cp : Int) := by omega
    have HIN := Lib.hid hin; have HT := Lib.hid ht; have H := Lib.hid h; have HM := Lib.hid hm; have HLEN := Lib.hid hlen; have HO2 := Lib.hid ho2; have HGET := Lib.hid hget; have HFIT := Lib.hid hfit; have HMP := Lib.hid hmp; have HHE := Lib.hid hhe; have HF := Lib.hid hf; have HIO := Lib.hid hio; have HMI := Lib.hid hmi; have HO := Lib.hid ho; have HCUT := Lib.hid hcut; have HWI := Lib.hid hwI
    clear hin ht h hm hlen ho2 hget hfit hmp hhe hf hio hmi ho hcut hwI
    clear hw c3 f0
    go_enter Tryd.func50, Tryd.ntmps50
    go_wp2_with fail
    refine (ldHas_any _ _ _ _ _ _ c1).mono ?_
    rintro e w' ⟨rfl, rfl⟩
    rw [HIN.out]
    go_wp2_with fail
    refine wp_region_tail 15 (by kernel_rfl) (by kernel_rfl) ?_
    simp only [List.take_succ_cons, List.take_zero, List.drop_succ_cons, List.drop_zero]
    repeat still_step
    refine wpStill_nil ?_
    go_wp2_with fail
    refine (cloneInts_any (H.out.drew) _ _ (HMI.out.heap rfl) hsm).mono ?_
    rintro e w2 ⟨v', rfl, ho3⟩
    have HO3 := Lib.hid ho3
    clear ho3
    go_wp2
    go_ret2
    exact ⟨v', by rw [HT.out]; rfl, by rw [HO2.out]; exact HO3.out⟩
end Go.Proofs.YteelldblfmhjlaaDoor
