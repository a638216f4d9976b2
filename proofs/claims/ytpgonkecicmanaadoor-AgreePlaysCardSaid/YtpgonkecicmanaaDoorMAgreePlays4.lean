/- Package agree, plainly, continued: what holds stays when a stamp is given, and when a word is settled. -/
import Derived.Test.YtpgonkecicmanaaDoorMAgreePlays3
namespace Go.Proofs.YtpgonkecicmanaaDoor
set_option linter.unusedVariables false
set_option linter.unusedSimpArgs false
open Go.RowKit Go.Maps
theorem agProp_gv {g : Ag} {who w : Int} (h : agPropErr g who w = 0) (v : Int) : gvOf (agProp g who w) v = if w = v then gvOf g w ++ [((agGet g who).n + 1, who)] else gvOf g v := by
  unfold agProp
  rw [if_pos h]
  show (mget (mput g.given w (gvOf g w ++ [((agGet g who).n + 1, who)])) v).getD [] = _
  rw [mget_mput]
  by_cases e : w = v
  · rw [if_pos e, if_pos e]; rfl
  · rw [if_neg e, if_neg e]; rfl
theorem agProp_len {g : Ag} {who w : Int} : (agProp g who w).mem.length = g.mem.length := by unfold agProp; split <;> simp
theorem agSet_len {g : Ag} {who w : Int} : (agSet g who w).mem.length = g.mem.length := by unfold agSet; split <;> simp
/-- A member for whom nothing turned: another one gave a stamp to a word that was not full. -/
theorem AgMI.other {G G' : Int → List St} {N k : Nat} {m : AgM} (hm : AgMI G N k m) {w : Int} {s : St} (hG : ∀ v, G' v = if w = v then G w ++ [s] else G v) (hl : (G w).length < N) (hs : s.2 ≠ k) : AgMI G' N k m := by
  have hw : w ∉ m.knew := fun h => by have := hm.knewC w h; omega
  have hne : ∀ v ∈ m.knew, G' v = G v := fun v hv => by
    rw [hG, if_neg]
    rintro rfl
    exact hw hv
  have hsub : ∀ v x, x ∈ G v → x ∈ G' v := fun v x hx => by
    rw [hG]
    by_cases e : w = v
    · subst e; rw [if_pos rfl]; exact List.mem_append_left _ hx
    · rw [if_neg e]; exact hx
  refine ⟨hm.pos, hm.keys, hm.disj, hm.nodup, fun v => ?_, hm.knewH, fun v hv => by rw [hne v hv]; exact hm.knewC v hv, fun v hv => by rw [hne v hv]; exact hm.knewN v hv, fun v x hx => ?_, fun v x hx h2 => ?_, fun h hh v x hx => by rw [hne h (hm.knewH h hh)]; exact hm.ord h hh v x hx, ?_, hm.first⟩
  · rw [← hm.has v, hG]
    by_cases e : w = v
    · subst e
      rw [if_pos rfl, List.map_append, List.mem_append]
      refine ⟨fun h => h.elim id (fun h => ?_), .inl⟩
      simp at h; exact absurd h.symm hs
    · rw [if_neg e]
  · obtain ⟨h1, h2, h3⟩ := hm.st v x hx
    refine ⟨h1, fun hb => ?_, fun hb => ⟨hsub _ _ (h3 hb).1, (h3 hb).2⟩⟩
    rw [hne v (of_decide_eq_true (h1.symm.trans hb))]
    exact h2 hb
  · rw [hG] at hx
    by_cases e : w = v
    · subst e
      rw [if_pos rfl] at hx
      rcases List.mem_append.1 hx with hx | hx
      · exact hm.own _ _ hx h2
      · simp at hx; exact absurd (hx ▸ h2) hs
    · rw [if_neg e] at hx; exact hm.own _ _ hx h2
  · refine hm.sorted.imp_of_mem (fun {a b} ha hb h => ?_)
    rw [hne a (hm.knewH a ha), hne b (hm.knewH b hb)]; exact h
/-- The member that gave the stamp. -/
theorem AgMI.gave {G G' : Int → List St} {N k : Nat} {m : AgM} (hm : AgMI G N k m) {w : Int} (hG : ∀ v, G' v = if w = v then G w ++ [(m.n + 1, (k : Int))] else G v) (hl : (G w).length < N) (hk : (k : Int) ∉ (G w).map (·.2))
    (hmx : ∀ v ∈ m.knew, maxSt (G v) ∈ G v) : AgMI G' N k ⟨m.n + 1, mput m.waits w ((m.n + 1, k), false), m.knew, m.heard⟩ := by
  have hw : w ∉ m.knew := fun h => by have := hm.knewC w h; omega
  have hne : ∀ v ∈ m.knew, G' v = G v := fun v hv => by
    rw [hG, if_neg]
    rintro rfl
    exact hw hv
  have hnw : mget m.waits w = none ∧ w ∉ m.heard := by
    have h1 := fun h => hk ((hm.has w).2 h)
    refine ⟨?_, fun h => h1 (.inr h)⟩
    cases hg : mget m.waits w with
    | none => rfl
    | some x => exact absurd (.inl (by rw [hg]; simp)) h1
  have hget : ∀ v x, mget (mput m.waits w ((m.n + 1, (k : Int)), false)) v = some x → (v = w ∧ x = ((m.n + 1, (k : Int)), false)) ∨ (v ≠ w ∧ mget m.waits v = some x) := fun v x h => by
    rw [mget_mput] at h
    by_cases e : w = v
    · rw [if_pos e] at h; cases h; exact .inl ⟨e.symm, rfl⟩
    · rw [if_neg e] at h; exact .inr ⟨fun e' => e e'.symm, h⟩
  have hold : ∀ v x, mget m.waits v = some x → mget (mput m.waits w ((m.n + 1, (k : Int)), false)) v = some x := fun v x h => by
    rw [mget_mput, if_neg]
    · exact h
    · rintro rfl; rw [hnw.1] at h; cases h
  refine ⟨by have := hm.pos; show 0 ≤ m.n + 1; omega, mput_nodup hm.keys, fun v x hx => ?_, hm.nodup, fun v => ?_, hm.knewH, fun v hv => by rw [hne v hv]; exact hm.knewC v hv, fun v hv => by rw [hne v hv]; have := hm.knewN v hv; show _ ≤ m.n + 1; omega, fun v x hx => ?_, fun v s hs h2 => ?_, fun h hh v x hx => ?_, ?_, fun v x hx hb => ?_⟩
  · rcases hget v x hx with ⟨rfl, _⟩ | ⟨_, h⟩
    · exact hnw.2
    · exact hm.disj v x h
  · rw [hG]
    show _ ↔ (mget (mput m.waits w ((m.n + 1, (k : Int)), false)) v ≠ none ∨ v ∈ m.heard)
    by_cases e : w = v
    · subst e
      rw [if_pos rfl, List.map_append, List.mem_append, mget_mput, if_pos rfl]
      simp
    · rw [if_neg e, hm.has v, mget_mput, if_neg e]
  · rcases hget v x hx with ⟨rfl, rfl⟩ | ⟨hv, h⟩
    · refine ⟨?_, (fun h => by cases h), fun _ => ⟨?_, rfl⟩⟩
      · show false = _
        rw [eq_comm, decide_eq_false_iff_not]; exact hw
      · rw [hG, if_pos rfl]; exact List.mem_append_right _ (List.mem_singleton.2 rfl)
    · obtain ⟨h1, h2, h3⟩ := hm.st v x h
      refine ⟨h1, fun hb => ?_, fun hb => ?_⟩
      · rw [hne v (of_decide_eq_true (h1.symm.trans hb))]; exact h2 hb
      · rw [hG, if_neg (fun e => hv e.symm)]; exact h3 hb
  · show s.1 ≤ m.n + 1
    rw [hG] at hs
    by_cases e : w = v
    · subst e
      rw [if_pos rfl] at hs
      rcases List.mem_append.1 hs with hs | hs
      · have := hm.own _ _ hs h2; omega
      · simp at hs; rw [hs]; exact Int.le_refl _
    · rw [if_neg e] at hs
      have := hm.own _ _ hs h2; omega
  · have hh' : h ∈ m.heard := hh
    rw [hne h (hm.knewH h hh')]
    rcases hget v x hx with ⟨rfl, rfl⟩ | ⟨_, hx'⟩
    · have := hm.knewN h (hm.knewH h hh')
      exact .inl (by show _ < m.n + 1; omega)
    · exact hm.ord h hh' v x hx'
  · refine hm.sorted.imp_of_mem (fun {a b} ha hb h => ?_)
    rw [hne a (hm.knewH a ha), hne b (hm.knewH b hb)]; exact h
  · rcases hget v x hx with ⟨rfl, rfl⟩ | ⟨_, h⟩
    · cases hb
    · obtain ⟨w', x', h1, h2, h3⟩ := hm.first v x h hb
      exact ⟨w', x', hold _ _ h1, h2, h3⟩
theorem AgI.knew_max {g : Ag} (h : AgI g) {k : Nat} (hk : k < g.mem.length) {v : Int} (hv : v ∈ g.mem[k].knew) : maxSt (gvOf g v) ∈ gvOf g v := by
  refine maxSt_mem fun hc => ?_
  have := (h.mem k hk).knewC v hv
  rw [hc] at this
  simp at this
  omega
theorem agProp_inv {g : Ag} (h : AgI g) (who w : Int) : AgI (agProp g who w) := by
  by_cases he : agPropErr g who w = 0
  rotate_left
  · unfold agProp; rw [if_neg he]; exact h
  obtain ⟨hc, hnw⟩ := agPropErr0 he
  obtain ⟨⟨hw0, hwl⟩, hword, hsome⟩ := agChk0 hc
  obtain ⟨k, rfl⟩ : ∃ k : Nat, who = (k : Int) := ⟨who.toNat, by omega⟩
  have hk : k < g.mem.length := by omega
  have hG := agProp_gv he
  rw [agGet_at hk] at hG
  rw [h.whos] at hnw
  have hM := h.mem k hk
  have hlen := h.lacks hk hnw
  have hmemE : (agProp g k w).mem = g.mem.set k ⟨g.mem[k].n + 1, mput g.mem[k].waits w ((g.mem[k].n + 1, k), false), g.mem[k].knew, g.mem[k].heard⟩ := by
    unfold agProp; rw [if_pos he, agGet_at hk, Int.toNat_natCast]
  have hown : ∀ v s, s ∈ gvOf g v → s ≠ (g.mem[k].n + 1, (k : Int)) := fun v s hs e => by
    have h1 := hM.own v s hs (by rw [e])
    rw [e] at h1
    simp only at h1
    omega
  refine ⟨fun v => ?_, fun v s hs => ?_, fun v => ?_, fun v v' s hs hs' => ?_, fun v hv => ?_, fun j hj => ?_⟩
  · unfold whoOf
    rw [hG]
    have : (agProp g k w).who = mput g.who w (whoOf g w ++ [(k : Int)]) := by unfold agProp; rw [if_pos he]
    rw [this, mget_mput]
    by_cases e : w = v
    · rw [if_pos e, if_pos e, List.map_append, ← h.whos]; rfl
    · rw [if_neg e, if_neg e]; exact h.whos v
  · rw [hG] at hs
    rw [agProp_len]
    by_cases e : w = v
    · rw [if_pos e] at hs
      rcases List.mem_append.1 hs with hs | hs
      · exact h.range w s hs
      · simp at hs
        rw [hs]
        have h0 : 0 ≤ g.mem[k].n := hM.pos
        exact ⟨by show 1 ≤ g.mem[k].n + 1; omega, by show 0 ≤ (k : Int); omega, by show (k : Int) < _; omega⟩
    · rw [if_neg e] at hs; exact h.range v s hs
  · rw [hG]
    by_cases e : w = v
    · rw [if_pos e, List.map_append]
      refine List.nodup_append.2 ⟨h.nd w, by simp, fun a ha b hb => ?_⟩
      simp at hb
      rintro rfl
      subst hb
      exact hnw ha
    · rw [if_neg e]; exact h.nd v
  · rw [hG] at hs hs'
    by_cases e : w = v
    · subst e
      by_cases e' : w = v'
      · exact e'
      · rw [if_pos rfl] at hs
        rw [if_neg e'] at hs'
        rcases List.mem_append.1 hs with hs | hs
        · exact h.uniq _ _ s hs hs'
        · simp at hs
          exact absurd hs (hown _ s hs')
    · rw [if_neg e] at hs
      by_cases e' : w = v'
      · subst e'
        rw [if_pos rfl] at hs'
        rcases List.mem_append.1 hs' with hs' | hs'
        · exact h.uniq _ _ s hs hs'
        · simp at hs'
          exact absurd hs' (hown _ s hs)
      · rw [if_neg e'] at hs'; exact h.uniq _ _ s hs hs'
  · have : (agProp g k w).given = mput g.given w (gvOf g w ++ [(g.mem[k].n + 1, (k : Int))]) := by unfold agProp; rw [if_pos he, agGet_at hk]
    rw [this, mget_mput] at hv
    by_cases e : w = v
    · subst e; exact hword
    · rw [if_neg e] at hv; exact h.words v hv
  · rw [agProp_len] at hj ⊢
    have e : (agProp g k w).mem[j]'(by rw [agProp_len]; exact hj) = (g.mem.set k ⟨g.mem[k].n + 1, mput g.mem[k].waits w ((g.mem[k].n + 1, k), false), g.mem[k].knew, g.mem[k].heard⟩)[j]'(by simpa using hj) := by congr 1
    rw [e, List.getElem_set]
    by_cases hjk : k = j
    · subst hjk
      rw [if_pos rfl]
      exact hM.gave hG hlen hnw (fun v hv => h.knew_max hk hv)
    · rw [if_neg hjk]
      exact (h.mem j hj).other hG hlen (by show (k : Int) ≠ (j : Int); omega)
end Go.Proofs.YtpgonkecicmanaaDoor
/- Package agree, plainly, continued: a word is settled, and what may be heard is; what all have heard. -/
namespace Go.Proofs.YtpgonkecicmanaaDoor
set_option linter.unusedVariables false
set_option linter.unusedSimpArgs false
open Go.RowKit Go.Maps
/-- As AgMI, in the midst of hearing. -/
structure AgMJ (G : Int → List St) (N k : Nat) (m : AgM) : Prop where
  pos : 0 ≤ m.n
  keys : (m.waits.map (·.1)).Nodup
  disj : ∀ w x, mget m.waits w = some x → w ∉ m.heard
  nodup : m.heard.Nodup
  has : ∀ w, (k : Int) ∈ (G w).map (·.2) ↔ (mget m.waits w ≠ none ∨ w ∈ m.heard)
  knewH : ∀ w ∈ m.heard, w ∈ m.knew
  knewC : ∀ w ∈ m.knew, (G w).length = N
  knewN : ∀ w ∈ m.knew, (maxSt (G w)).1 ≤ m.n
  st : ∀ w x, mget m.waits w = some x → x.2 = decide (w ∈ m.knew) ∧ (x.2 = true → x.1 = maxSt (G w)) ∧ (x.2 = false → x.1 ∈ G w ∧ x.1.2 = k)
  own : ∀ w s, s ∈ G w → s.2 = k → s.1 ≤ m.n
  ord : ∀ h ∈ m.heard, ∀ w x, mget m.waits w = some x → stLt (maxSt (G h)) x.1
  sorted : m.heard.Pairwise (fun a b => stLt (maxSt (G a)) (maxSt (G b)))
theorem AgMI.j {G : Int → List St} {N k : Nat} {m : AgM} (h : AgMI G N k m) : AgMJ G N k m := ⟨h.pos, h.keys, h.disj, h.nodup, h.has, h.knewH, h.knewC, h.knewN, h.st, h.own, h.ord, h.sorted⟩
theorem AgMJ.i {G : Int → List St} {N k : Nat} {m : AgM} (h : AgMJ G N k m) (hf : ∀ w x, mget m.waits w = some x → x.2 = true → ∃ w' x', mget m.waits w' = some x' ∧ x'.2 = false ∧ stLt x'.1 x.1) : AgMI G N k m :=
  ⟨h.pos, h.keys, h.disj, h.nodup, h.has, h.knewH, h.knewC, h.knewN, h.st, h.own, h.ord, h.sorted, hf⟩
/-- What a word's stamps are like, whatever member knows. -/
structure GvI (G : Int → List St) (N : Nat) : Prop where
  uniq : ∀ w w' s, s ∈ G w → s ∈ G w' → w = w'
  words : ∀ w s, s ∈ G w → isWord w = true
  pos : 0 < N
theorem AgI.gv {g : Ag} (h : AgI g) (hp : 0 < g.mem.length) : GvI (gvOf g) g.mem.length := ⟨h.uniq, fun _ _ hs => gvOf_word h hs, hp⟩
section
variable {G : Int → List St} {N k : Nat} {m : AgM}
theorem AgMJ.mem (hG : GvI G N) (hm : AgMJ G N k m) {w : Int} {x : Wt} (hx : mget m.waits w = some x) : x.1 ∈ G w := by
  obtain ⟨h1, h2, h3⟩ := hm.st w x hx
  cases hb : x.2
  · exact (h3 hb).1
  · rw [h2 hb]
    refine maxSt_mem fun hc => ?_
    rw [hb] at h1
    have := hm.knewC w (of_decide_eq_true h1.symm)
    rw [hc] at this
    simp at this
    have := hG.pos
    omega
theorem AgMJ.apart (hG : GvI G N) (hm : AgMJ G N k m) : Apart m.waits := fun w y w' y' hy hy' e => by
  have h1 := hm.mem hG hy
  have h2 := hm.mem hG hy'
  rw [e] at h1
  exact hG.uniq w w' _ h1 h2
theorem AgMJ.word (hG : GvI G N) (hm : AgMJ G N k m) {w : Int} {x : Wt} (hx : mget m.waits w = some x) : isWord w = true := hG.words w _ (hm.mem hG hx)
theorem word_ne0 {w : Int} (h : isWord w = true) : w ≠ 0 := by simp [isWord] at h; omega
theorem agGo_iff (hG : GvI G N) (hm : AgMJ G N k m) : agGo m.waits = true ↔ ∃ f x, mget m.waits f = some x ∧ x.2 = true ∧ ∀ w y, mget m.waits w = some y → ¬ stLt y.1 x.1 := by
  unfold agGo
  rw [Bool.and_eq_true, decide_eq_true_iff]
  constructor
  · rintro ⟨h1, h2⟩
    have hne : m.waits ≠ [] := fun h => h1 (agFirst_nil h)
    obtain ⟨x, hx, hl⟩ := agFirst_least hm.keys hne
    rw [hx] at h2
    exact ⟨_, x, hx, h2, hl⟩
  · rintro ⟨f, x, hx, hs, hl⟩
    have := agFirst_of hm.keys (hm.apart hG) ⟨x, hx, hl⟩
    rw [this, hx]
    exact ⟨word_ne0 (hm.word hG hx), hs⟩
/-- One word more is heard. -/
theorem AgMJ.step (hG : GvI G N) (hm : AgMJ G N k m) (hgo : agGo m.waits = true) : AgMJ G N k ⟨m.n, mdel m.waits (agFirst m.waits), m.knew, m.heard ++ [agFirst m.waits]⟩ := by
  obtain ⟨f, x, hx, hs, hl⟩ := (agGo_iff hG hm).1 hgo
  have hf := agFirst_of hm.keys (hm.apart hG) ⟨x, hx, hl⟩
  rw [hf]
  obtain ⟨st1, st2, _⟩ := hm.st f x hx
  have hkn : f ∈ m.knew := of_decide_eq_true (st1.symm.trans hs)
  have hmx := st2 hs
  have hget : ∀ v y, mget (mdel m.waits f) v = some y → v ≠ f ∧ mget m.waits v = some y := fun v y h => by
    rw [mget_mdel _ hm.keys] at h
    by_cases e : f = v
    · rw [if_pos e] at h; cases h
    · rw [if_neg e] at h; exact ⟨fun e' => e e'.symm, h⟩
  refine ⟨hm.pos, mdel_nodup hm.keys, fun v y hy hc => ?_, ?_, fun v => ?_, fun v hv => ?_, hm.knewC, hm.knewN, fun v y hy => hm.st v y (hget v y hy).2, hm.own, fun h hh v y hy => ?_, ?_⟩
  · obtain ⟨h1, h2⟩ := hget v y hy
    rcases List.mem_append.1 hc with hc | hc
    · exact hm.disj v y h2 hc
    · exact h1 (List.mem_singleton.1 hc)
  · refine List.nodup_append.2 ⟨hm.nodup, by simp, fun a ha b hb => ?_⟩
    rw [List.mem_singleton.1 hb]
    rintro rfl
    exact hm.disj _ x hx ha
  · rw [hm.has v]
    show _ ↔ (mget (mdel m.waits f) v ≠ none ∨ v ∈ m.heard ++ [f])
    rw [mget_mdel _ hm.keys, List.mem_append, List.mem_singleton]
    by_cases e : f = v
    · subst e
      rw [if_pos rfl, hx]
      simp
    · rw [if_neg e]
      have e' : ¬ v = f := fun h => e h.symm
      simp [e']
  · rcases List.mem_append.1 hv with hv | hv
    · exact hm.knewH v hv
    · rw [List.mem_singleton.1 hv]; exact hkn
  · obtain ⟨h1, h2⟩ := hget v y hy
    rcases List.mem_append.1 hh with hh | hh
    · exact hm.ord h hh v y h2
    · rw [List.mem_singleton.1 hh, ← hmx]
      exact stLt_of_not (hl v y h2) (fun e => h1 (hm.apart hG v y f x h2 hx e))
  · refine List.pairwise_append.2 ⟨hm.sorted, List.pairwise_singleton _ _, fun a ha b hb => ?_⟩
    rw [List.mem_singleton.1 hb, ← hmx]
    exact hm.ord a ha f x hx
theorem AgMJ.hear (hG : GvI G N) : ∀ (j : Nat) (m : AgM), m.waits.length ≤ j → AgMJ G N k m → AgMJ G N k ⟨m.n, (agHear j m.waits).1, m.knew, m.heard ++ (agHear j m.waits).2⟩ ∧ agGo (agHear j m.waits).1 = false
  | 0, m, hj, hm => by
    have h0 : m.waits = [] := List.eq_nil_of_length_eq_zero (by omega)
    refine ⟨by unfold agHear; rw [List.append_nil]; exact hm, ?_⟩
    unfold agHear
    rw [h0]; rfl
  | j + 1, m, hj, hm => by
    unfold agHear
    cases hgo : agGo m.waits
    · rw [if_neg (by simp)]
      exact ⟨by rw [List.append_nil]; exact hm, hgo⟩
    · rw [if_pos rfl]
      obtain ⟨f, x, hx, hs, hl⟩ := (agGo_iff hG hm).1 hgo
      have hf := agFirst_of hm.keys (hm.apart hG) ⟨x, hx, hl⟩
      have hlen := mdel_len hx
      have := AgMJ.hear hG j ⟨m.n, mdel m.waits (agFirst m.waits), m.knew, m.heard ++ [agFirst m.waits]⟩ (by show (mdel m.waits (agFirst m.waits)).length ≤ j; rw [hf]; omega) (hm.step hG hgo)
      simp only [List.append_assoc, List.singleton_append] at this
      exact this
theorem AgMJ.done (hG : GvI G N) (hm : AgMJ G N k m) (hgo : agGo m.waits = false) : AgMI G N k m := by
  refine hm.i fun w x hx hs => ?_
  have hne : m.waits ≠ [] := fun h => by rw [h] at hx; cases hx
  obtain ⟨xf, hxf, hl⟩ := agFirst_least hm.keys hne
  have hfs : xf.2 = false := by
    cases hb : xf.2
    · rfl
    · have := (agGo_iff hG hm).2 ⟨_, xf, hxf, hb, hl⟩
      rw [hgo] at this; cases this
  refine ⟨_, xf, hxf, hfs, stLt_of_not (hl w x hx) fun e => ?_⟩
  have := hm.apart hG w x _ xf hx hxf e
  rw [← this, hx] at hxf
  cases hxf
  rw [hs] at hfs; cases hfs
theorem AgMI.settle (hG : GvI G N) (hm : AgMI G N k m) {w : Int} (hfull : (G w).length = N) (hk : (k : Int) ∈ (G w).map (·.2)) (hw : w ∉ m.knew) :
    AgMJ G N k ⟨max m.n (maxSt (G w)).1, mput m.waits w (maxSt (G w), true), setPut m.knew w, m.heard⟩ := by
  have hnh : w ∉ m.heard := fun h => hw (hm.knewH w h)
  obtain ⟨x0, hx0⟩ : ∃ x, mget m.waits w = some x := by
    rcases (hm.has w).1 hk with h | h
    · exact Option.ne_none_iff_exists'.1 h
    · exact absurd h hnh
  obtain ⟨s1, _, s3⟩ := hm.st w x0 hx0
  have hb0 : x0.2 = false := by rw [s1, decide_eq_false_iff_not]; exact hw
  have hx0G := (s3 hb0).1
  have hget : ∀ v y, mget (mput m.waits w (maxSt (G w), true)) v = some y → (v = w ∧ y = (maxSt (G w), true)) ∨ (v ≠ w ∧ mget m.waits v = some y) := fun v y h => by
    rw [mget_mput] at h
    by_cases e : w = v
    · rw [if_pos e] at h; cases h; exact .inl ⟨e.symm, rfl⟩
    · rw [if_neg e] at h; exact .inr ⟨fun e' => e e'.symm, h⟩
  refine ⟨by have := hm.pos; show 0 ≤ max m.n (maxSt (G w)).1; omega, mput_nodup hm.keys, fun v y hy => ?_, hm.nodup, fun v => ?_, fun v hv => mem_setPut.2 (.inl (hm.knewH v hv)), fun v hv => ?_, fun v hv => ?_, fun v y hy => ?_, fun v s hs h2 => ?_, fun h hh v y hy => ?_, hm.sorted⟩
  · rcases hget v y hy with ⟨rfl, _⟩ | ⟨_, h⟩
    · exact hnh
    · exact hm.disj v y h
  · rw [hm.has v]
    show _ ↔ (mget (mput m.waits w (maxSt (G w), true)) v ≠ none ∨ v ∈ m.heard)
    rw [mget_mput]
    by_cases e : w = v
    · subst e; rw [if_pos rfl, hx0]; simp
    · rw [if_neg e]
  · rcases mem_setPut.1 hv with hv | rfl
    · exact hm.knewC v hv
    · exact hfull
  · show _ ≤ max m.n (maxSt (G w)).1
    rcases mem_setPut.1 hv with hv | rfl
    · have := hm.knewN v hv; omega
    · omega
  · show _ = decide (v ∈ setPut m.knew w) ∧ _
    rcases hget v y hy with ⟨rfl, rfl⟩ | ⟨hv, h⟩
    · refine ⟨?_, fun _ => rfl, (fun h => by cases h)⟩
      show true = _
      rw [eq_comm, decide_eq_true_iff]; exact mem_setPut.2 (.inr rfl)
    · obtain ⟨h1, h2, h3⟩ := hm.st v y h
      refine ⟨?_, h2, h3⟩
      rw [h1]
      have : v ∈ setPut m.knew w ↔ v ∈ m.knew := by rw [mem_setPut]; simp [hv]
      simp [this]
  · show s.1 ≤ max m.n (maxSt (G w)).1
    have := hm.own v s hs h2
    omega
  · rcases hget v y hy with ⟨rfl, rfl⟩ | ⟨_, h'⟩
    · exact stLt_le (hm.ord h hh _ x0 hx0) (maxSt_ge hx0G)
    · exact hm.ord h hh v y h'
end
theorem agSet_inv {g : Ag} (h : AgI g) (who w : Int) : AgI (agSet g who w) := by
  by_cases he : agSetErr g who w = 0
  rotate_left
  · unfold agSet; rw [if_neg he]; exact h
  obtain ⟨hc, hfull, hnk⟩ := agSetErr0 he
  obtain ⟨⟨hw0, hwl⟩, hword, hsome⟩ := agChk0 hc
  obtain ⟨k, rfl⟩ : ∃ k : Nat, who = (k : Int) := ⟨who.toNat, by omega⟩
  have hk : k < g.mem.length := by omega
  have hE : agSet g k w = { g with mem := g.mem.set k (agHearM (agSetM g g.mem[k] w)) } := by unfold agSet; rw [if_pos he, agGet_at hk, Int.toNat_natCast]
  rw [agGet_at hk] at hnk
  have hl : (gvOf g w).length = g.mem.length := Nat.le_antisymm (h.len w) hfull
  have hGv := h.gv (show 0 < g.mem.length by omega)
  have hJ := (h.mem k hk).settle hGv hl (h.full hl hk) hnk
  obtain ⟨h1, h2⟩ := AgMJ.hear hGv _ (agSetM g g.mem[k] w) (Nat.le_refl _) hJ
  have hI : AgMI (gvOf g) g.mem.length k (agHearM (agSetM g g.mem[k] w)) := AgMJ.done hGv h1 h2
  rw [hE]
  refine ⟨h.whos, fun v s hs => ?_, h.nd, h.uniq, h.words, fun j hj => ?_⟩
  · show _ ∧ _ ∧ s.2 < ((g.mem.set k _).length : Nat)
    rw [List.length_set]
    exact h.range v s hs
  · have hj' : j < (g.mem.set k (agHearM (agSetM g g.mem[k] w))).length := hj
    have key : ∀ N, N = g.mem.length → AgMI (gvOf g) N j ((g.mem.set k (agHearM (agSetM g g.mem[k] w)))[j]'hj') := by
      rintro N rfl
      rw [List.getElem_set]
      by_cases hjk : k = j
      · subst hjk; rw [if_pos rfl]; exact hI
      · rw [if_neg hjk]; exact h.mem j (by simpa using hj')
    exact key _ (by simp)
/-! ## One order for all -/
/-- Two rising lists, each of which has whatever stands below one of its own: one begins the other. -/
theorem rising_begin (F : Int → St) : ∀ (a b : List Int), a.Pairwise (fun x y => stLt (F x) (F y)) → b.Pairwise (fun x y => stLt (F x) (F y)) →
    (∀ x ∈ a, ∀ y ∈ b, y ∉ a → stLt (F x) (F y)) → (∀ x ∈ b, ∀ y ∈ a, y ∉ b → stLt (F x) (F y)) → a <+: b ∨ b <+: a
  | [], b, _, _, _, _ => .inl List.nil_prefix
  | x :: a, [], _, _, _, _ => .inr List.nil_prefix
  | x :: a, y :: b, ha, hb, h1, h2 => by
    rw [List.pairwise_cons] at ha hb
    have hxy : x = y := by
      rcases Classical.em (x = y) with e | e
      · exact e
      exfalso
      rcases stLt_tri (F x) (F y) with h | h | h
      · have hx : x ∉ y :: b := fun hc => by
          rcases List.mem_cons.1 hc with hc | hc
          · exact e hc
          · exact stLt_irr _ (stLt_trans h (hb.1 x hc))
        exact stLt_irr _ (stLt_trans h (h2 y (List.mem_cons_self ..) x (List.mem_cons_self ..) hx))
      · have hx : x ∉ y :: b := fun hc => by
          rcases List.mem_cons.1 hc with hc | hc
          · exact e hc
          · have := hb.1 x hc; rw [h] at this; exact stLt_irr _ this
        have := h2 y (List.mem_cons_self ..) x (List.mem_cons_self ..) hx
        rw [h] at this; exact stLt_irr _ this
      · have hy : y ∉ x :: a := fun hc => by
          rcases List.mem_cons.1 hc with hc | hc
          · exact e hc.symm
          · exact stLt_irr _ (stLt_trans h (ha.1 y hc))
        exact stLt_irr _ (stLt_trans h (h1 x (List.mem_cons_self ..) y (List.mem_cons_self ..) hy))
    subst hxy
    have hna : ∀ z ∈ a, z ≠ x := fun z hz e => by have := ha.1 z hz; rw [e] at this; exact stLt_irr _ this
    have hnb : ∀ z ∈ b, z ≠ x := fun z hz e => by have := hb.1 z hz; rw [e] at this; exact stLt_irr _ this
    rcases rising_begin F a b ha.2 hb.2 (fun u hu v hv hn => h1 u (List.mem_cons_of_mem _ hu) v (List.mem_cons_of_mem _ hv) (fun hc => by
        rcases List.mem_cons.1 hc with hc | hc
        · exact hnb v hv hc
        · exact hn hc)) (fun u hu v hv hn => h2 u (List.mem_cons_of_mem _ hu) v (List.mem_cons_of_mem _ hv) (fun hc => by
        rcases List.mem_cons.1 hc with hc | hc
        · exact hna v hv hc
        · exact hn hc)) with h | h
    · exact .inl (List.cons_prefix_cons.2 ⟨rfl, h⟩)
    · exact .inr (List.cons_prefix_cons.2 ⟨rfl, h⟩)
/-- What another one heard, and this one did not, stands behind all that this one heard. -/
theorem AgI.behind {g : Ag} (h : AgI g) {j k : Nat} (hj : j < g.mem.length) (hk : k < g.mem.length) : ∀ x ∈ g.mem[j].heard, ∀ y ∈ g.mem[k].heard, y ∉ g.mem[j].heard → stLt (maxSt (gvOf g x)) (maxSt (gvOf g y)) := by
  intro x hx y hy hn
  have hJ := h.mem j hj
  have hK := h.mem k hk
  have hfull := hK.knewC y (hK.knewH y hy)
  rcases (hJ.has y).1 (h.full hfull hj) with hw | hw
  rotate_left
  · exact absurd hw hn
  obtain ⟨s, hs⟩ := Option.ne_none_iff_exists'.1 hw
  have h1 := hJ.ord x hx y s hs
  exact stLt_le h1 (maxSt_ge (hJ.j.mem (h.gv (by omega)) hs))
theorem AgI.alike {g : Ag} (h : AgI g) {j k : Nat} (hj : j < g.mem.length) (hk : k < g.mem.length) : g.mem[j].heard <+: g.mem[k].heard ∨ g.mem[k].heard <+: g.mem[j].heard :=
  rising_begin (fun w => maxSt (gvOf g w)) _ _ (h.mem j hj).sorted (h.mem k hk).sorted (h.behind hj hk) (h.behind hk hj)
/-- Whom nothing waits for heard all words of which it knows the stamps. -/
theorem AgI.heard_all {g : Ag} (h : AgI g) {k : Nat} (hk : k < g.mem.length) (hall : ∀ w, (mget g.given w).isSome → (gvOf g w).length = g.mem.length ∧ w ∈ g.mem[k].knew) : ∀ w, w ∈ g.mem[k].heard ↔ (mget g.given w).isSome := by
  have hM := h.mem k hk
  have hsome : ∀ w s, s ∈ gvOf g w → (mget g.given w).isSome := fun w s hs => by
    unfold gvOf at hs
    cases hg : mget g.given w with
    | none => rw [hg] at hs; cases hs
    | some l => rfl
  have hnone : ∀ w x, mget g.mem[k].waits w = some x → x.2 = true := fun w x hx => by
    have h1 := hsome w _ (hM.j.mem (h.gv (by omega)) hx)
    rw [(hM.st w x hx).1, decide_eq_true_iff]
    exact (hall w h1).2
  have hwait : ∀ w, mget g.mem[k].waits w = none := fun w => by
    cases hx : mget g.mem[k].waits w with
    | none => rfl
    | some x =>
      obtain ⟨w', x', h1, h2, _⟩ := hM.first w x hx (hnone w x hx)
      have := hnone w' x' h1
      rw [h2] at this; cases this
  intro w
  constructor
  · intro hw
    obtain ⟨s, hs, _⟩ := List.mem_map.1 ((hM.has w).2 (.inr hw))
    exact hsome w s hs
  · intro hw
    rcases (hM.has w).1 (h.full (hall w hw).1 hk) with hc | hc
    · exact absurd (hwait w) hc
    · exact hc
end Go.Proofs.YtpgonkecicmanaaDoor
/- Package agree, plainly, continued: what of a group turns when a stamp is given, when a word is settled; how many words were said. -/
namespace Go.Proofs.YtpgonkecicmanaaDoor
set_option linter.unusedVariables false
set_option linter.unusedSimpArgs false
open Go.RowKit Go.Maps
/-- Was a word said? -/
def agSaid (g : Ag) (w : Int) : Bool := (mget g.given w).isSome
def agKnew (g : Ag) (k : Int) : List Int := (agGet g k).knew
theorem agProp_said (g : Ag) (who w v : Int) : agSaid (agProp g who w) v = agSaid g v := by
  by_cases he : agPropErr g who w = 0
  rotate_left
  · unfold agProp; rw [if_neg he]
  have hs := (agChk0 (agPropErr0 he).1).2.2
  unfold agSaid agProp
  rw [if_pos he]
  show (mget (mput g.given w _) v).isSome = _
  rw [mget_mput]
  by_cases e : w = v
  · subst e; rw [if_pos rfl, hs]; rfl
  · rw [if_neg e]
theorem agSet_said (g : Ag) (who w v : Int) : agSaid (agSet g who w) v = agSaid g v := by unfold agSaid agSet; split <;> rfl
theorem agSet_gv (g : Ag) (who w v : Int) : gvOf (agSet g who w) v = gvOf g v := by unfold gvOf agSet; split <;> rfl
theorem agSet_who (g : Ag) (who w v : Int) : whoOf (agSet g who w) v = whoOf g v := by unfold whoOf agSet; split <;> rfl
theorem agProp_who {g : Ag} {who w : Int} (h : agPropErr g who w = 0) (v : Int) : whoOf (agProp g who w) v = if w = v then whoOf g w ++ [who] else whoOf g v := by
  unfold agProp
  rw [if_pos h]
  show (mget (mput g.who w (whoOf g w ++ [who])) v).getD [] = _
  rw [mget_mput]
  by_cases e : w = v
  · rw [if_pos e, if_pos e]; rfl
  · rw [if_neg e, if_neg e]; rfl
theorem agProp_who_sub {g : Ag} {who w v k : Int} (h : k ∈ whoOf g v) : k ∈ whoOf (agProp g who w) v := by
  by_cases he : agPropErr g who w = 0
  · rw [agProp_who he]
    by_cases e : w = v
    · subst e; rw [if_pos rfl]; exact List.mem_append_left _ h
    · rw [if_neg e]; exact h
  · unfold agProp; rw [if_neg he]; exact h
theorem agProp_who_in {g : Ag} {who w v k : Int} (h : k ∈ whoOf (agProp g who w) v) : k ∈ whoOf g v ∨ (k = who ∧ v = w) := by
  by_cases he : agPropErr g who w = 0
  · rw [agProp_who he] at h
    by_cases e : w = v
    · subst e
      rw [if_pos rfl] at h
      rcases List.mem_append.1 h with h | h
      · exact .inl h
      · exact .inr ⟨List.mem_singleton.1 h, rfl⟩
    · rw [if_neg e] at h; exact .inl h
  · unfold agProp at h; rw [if_neg he] at h; exact .inl h
theorem agGet_set {g : Ag} {L : List AgM} {k : Int} {j : Nat} {m : AgM} (hj : j < g.mem.length) (hL : L = g.mem.set j m) (hk : 0 ≤ k) : L.getD k.toNat ⟨0, [], [], []⟩ = if k = (j : Int) then m else agGet g k := by
  subst hL
  unfold agGet
  rw [List.getD_eq_getElem?_getD, List.getElem?_set, List.getD_eq_getElem?_getD]
  by_cases e : k = (j : Int)
  · subst e
    rw [if_pos (by simp), if_pos hj, if_pos rfl]; rfl
  · rw [if_neg (by omega), if_neg e]
theorem agProp_knew (g : Ag) (who w k : Int) (hk : 0 ≤ k) : agKnew (agProp g who w) k = agKnew g k := by
  by_cases he : agPropErr g who w = 0
  rotate_left
  · unfold agProp; rw [if_neg he]
  obtain ⟨⟨h0, h1⟩, _⟩ := agChk0 (agPropErr0 he).1
  obtain ⟨j, rfl⟩ : ∃ j : Nat, who = (j : Int) := ⟨who.toNat, by omega⟩
  have h2 := agGet_set (g := g) (k := k) (j := j) (m := ⟨(agGet g j).n + 1, mput (agGet g j).waits w (((agGet g j).n + 1, (j : Int)), false), (agGet g j).knew, (agGet g j).heard⟩) (by omega) rfl hk
  have h3 : agGet (agProp g j w) k = (g.mem.set j ⟨(agGet g j).n + 1, mput (agGet g j).waits w (((agGet g j).n + 1, (j : Int)), false), (agGet g j).knew, (agGet g j).heard⟩).getD k.toNat ⟨0, [], [], []⟩ := by
    unfold agProp; rw [if_pos he]; rfl
  unfold agKnew
  rw [h3, h2]
  by_cases e : k = (j : Int)
  · rw [if_pos e, e]
  · rw [if_neg e]
theorem agSet_knew {g : Ag} {who w k : Int} (he : agSetErr g who w = 0) (hk : 0 ≤ k) : agKnew (agSet g who w) k = if k = who then setPut (agKnew g who) w else agKnew g k := by
  obtain ⟨⟨h0, h1⟩, _⟩ := agChk0 (agSetErr0 he).1
  obtain ⟨j, rfl⟩ : ∃ j : Nat, who = (j : Int) := ⟨who.toNat, by omega⟩
  have h2 := agGet_set (g := g) (k := k) (j := j) (m := agHearM (agSetM g (agGet g j) w)) (by omega) rfl hk
  have h3 : agGet (agSet g j w) k = (g.mem.set j (agHearM (agSetM g (agGet g j) w))).getD k.toNat ⟨0, [], [], []⟩ := by
    unfold agSet; rw [if_pos he]; rfl
  unfold agKnew
  rw [h3, h2]
  by_cases e : k = (j : Int)
  · rw [if_pos e, if_pos e]; rfl
  · rw [if_neg e, if_neg e]
theorem agSet_knew_sub {g : Ag} {who w k v : Int} (hk : 0 ≤ k) (h : v ∈ agKnew g k) : v ∈ agKnew (agSet g who w) k := by
  by_cases he : agSetErr g who w = 0
  · rw [agSet_knew he hk]
    by_cases e : k = who
    · subst e; rw [if_pos rfl]; exact mem_setPut.2 (.inl h)
    · rw [if_neg e]; exact h
  · unfold agSet; rw [if_neg he]; exact h
/-- A member that may: a stamp is given, or was. -/
theorem agProp_may {g : Ag} {k : Nat} {w : Int} (hk : k < g.mem.length) (hw : isWord w = true) (hs : agSaid g w = true) : agPropErr g k w = if (k : Int) ∈ whoOf g w then 7 else 0 := by
  have hc : agChk g k w = 0 := by
    unfold agChk
    rw [if_neg (by simp [inR]; omega), if_neg (by rw [hw]; simp), if_neg (by show ¬ agSaid g w = false; rw [hs]; simp)]
  unfold agPropErr
  rw [if_neg (by rw [hc]; simp)]
theorem agProp_in {g : Ag} {k : Nat} {w : Int} (hk : k < g.mem.length) (hw : isWord w = true) (hs : agSaid g w = true) : (k : Int) ∈ whoOf (agProp g k w) w := by
  have h := agProp_may hk hw hs
  by_cases hc : (k : Int) ∈ whoOf g w
  · exact agProp_who_sub hc
  · rw [if_neg hc] at h
    rw [agProp_who h, if_pos rfl]
    exact List.mem_append_right _ (List.mem_singleton.2 rfl)
theorem agProp_no {g : Ag} {k : Nat} {w : Int} (hk : k < g.mem.length) (hw : isWord w = true) (hs : agSaid g w = false) : agPropErr g k w = 5 := by
  have hc : agChk g k w = 5 := by
    unfold agChk
    rw [if_neg (by simp [inR]; omega), if_neg (by rw [hw]; simp), if_pos (show (mget g.given w).isSome = false from hs)]
  unfold agPropErr
  rw [if_pos (by rw [hc]; simp), hc]
theorem agSet_may {g : Ag} {k : Nat} {w : Int} (hk : k < g.mem.length) (hw : isWord w = true) (hs : agSaid g w = true) (hf : (gvOf g w).length = g.mem.length) : agSetErr g k w = if w ∈ agKnew g k then 7 else 0 := by
  have hc : agChk g k w = 0 := by
    unfold agChk
    rw [if_neg (by simp [inR]; omega), if_neg (by rw [hw]; simp), if_neg (by show ¬ agSaid g w = false; rw [hs]; simp)]
  unfold agSetErr
  rw [if_neg (by rw [hc]; simp), if_neg (by omega)]
  rfl
theorem agSet_in {g : Ag} {k : Nat} {w : Int} (hk : k < g.mem.length) (hw : isWord w = true) (hs : agSaid g w = true) (hf : (gvOf g w).length = g.mem.length) : w ∈ agKnew (agSet g k w) k := by
  have h := agSet_may hk hw hs hf
  by_cases hc : w ∈ agKnew g k
  · exact agSet_knew_sub (by omega) hc
  · rw [if_neg hc] at h
    rw [agSet_knew h (by omega), if_pos rfl]
    exact mem_setPut.2 (.inr rfl)
/-- A word of which each is a giver is full. -/
theorem AgI.full_of {g : Ag} (h : AgI g) {w : Int} (hall : ∀ k : Nat, k < g.mem.length → (k : Int) ∈ whoOf g w) : (gvOf g w).length = g.mem.length := by
  have h1 := h.len w
  have h2 : ((List.range g.mem.length).map fun i : Nat => (i : Int)).length ≤ ((gvOf g w).map (·.2)).length := by
    refine (nodup_map_inj (fun i : Nat => (i : Int)) (fun x y e => by have e' : (x : Int) = y := e; omega) _ List.nodup_range).length_le_of_subset ?_
    intro x hx
    obtain ⟨k, hk, rfl⟩ := List.mem_map.1 hx
    rw [← h.whos]
    exact hall k (List.mem_range.1 hk)
  simp at h2
  omega
def cntTo (S : Int → Bool) (n : Nat) : Nat := (List.range n).countP fun i : Nat => S ((i : Int) + 1)
theorem cntTo_next (S : Int → Bool) (n : Nat) : cntTo S (n + 1) = cntTo S n + if S ((n : Int) + 1) then 1 else 0 := by
  unfold cntTo
  rw [List.range_succ, List.countP_append, List.countP_singleton]
theorem cntTo_le (S : Int → Bool) (n : Nat) : cntTo S n ≤ n := by
  unfold cntTo
  have := List.countP_le_length (p := fun i : Nat => S ((i : Int) + 1)) (l := List.range n)
  rwa [List.length_range] at this
/-- So many as were said: a list without doubles of all that was said. -/
theorem cntTo_len {S : Int → Bool} {l : List Int} (hn : l.Nodup) (hl : ∀ w, w ∈ l ↔ S w = true) (hw : ∀ w, S w = true → isWord w = true) : l.length = cntTo S 30 := by
  have hp : l.Perm (((List.range 30).filter fun i : Nat => S ((i : Int) + 1)).map fun i : Nat => (i : Int) + 1) := by
    refine (List.perm_ext_iff_of_nodup hn (nodup_map_inj _ (fun x y e => by have e' : (x : Int) + 1 = y + 1 := e; omega) _ (List.nodup_range.filter _))).2 fun w => ?_
    rw [hl w, List.mem_map]
    constructor
    · intro h
      have h1 := hw w h
      simp [isWord] at h1
      refine ⟨(w - 1).toNat, List.mem_filter.2 ⟨List.mem_range.2 (by omega), ?_⟩, by omega⟩
      rw [show (((w - 1).toNat : Nat) : Int) + 1 = w by omega]; exact h
    · rintro ⟨i, hi, rfl⟩
      exact (List.mem_filter.1 hi).2
  rw [hp.length_eq, List.length_map]
  unfold cntTo
  rw [List.countP_eq_length_filter]
/-! ## The words of AgreeOne's end: stamps for all, all settled -/
structure AgN (n : Nat) (g : Ag) : Prop where
  inv : AgI g
  len : g.mem.length = n
theorem AgN.say {n : Nat} {g : Ag} (h : AgN n g) (w : Int) : AgN n (agSay g w) := ⟨agSay_inv h.inv w, by rw [agSay_mem]; exact h.len⟩
theorem AgN.prop {n : Nat} {g : Ag} (h : AgN n g) (k w : Int) : AgN n (agProp g k w) := ⟨agProp_inv h.inv k w, by rw [agProp_len]; exact h.len⟩
theorem AgN.set {n : Nat} {g : Ag} (h : AgN n g) (k w : Int) : AgN n (agSet g k w) := ⟨agSet_inv h.inv k w, by rw [agSet_len]; exact h.len⟩
theorem AgN.new (n : Nat) : AgN n (agNew n) := ⟨agNew_inv n, by simp [agNew]⟩
/-- All below w have stamps of all; w has those of all below m. -/
structure AgPs (n : Nat) (S : Int → Bool) (w m : Nat) (g : Ag) : Prop where
  ag : AgN n g
  said : ∀ v, agSaid g v = S v
  all : ∀ v : Nat, v < w → S ((v : Int) + 1) = true → ∀ k : Nat, k < n → (k : Int) ∈ whoOf g ((v : Int) + 1)
  now : S ((w : Int) + 1) = true → ∀ k : Nat, k < m → (k : Int) ∈ whoOf g ((w : Int) + 1)
theorem AgPs.step {n : Nat} {S : Int → Bool} {w m : Nat} {g : Ag} (h : AgPs n S w m g) (hw : w < 30) (hm : m < n) : AgPs n S w (m + 1) (agProp g m ((w : Int) + 1)) := by
  refine ⟨h.ag.prop _ _, fun v => by rw [agProp_said]; exact h.said v, fun v hv hs k hk => agProp_who_sub (h.all v hv hs k hk), fun hs k hk => ?_⟩
  by_cases e : k = m
  · subst e
    exact agProp_in (by rw [h.ag.len]; exact hm) (by simp [isWord]; omega) (by rw [h.said]; exact hs)
  · exact agProp_who_sub (h.now hs k (by omega))
theorem AgPs.next {n : Nat} {S : Int → Bool} {w : Nat} {g : Ag} (h : AgPs n S w n g) : AgPs n S (w + 1) 0 g := by
  refine ⟨h.ag, h.said, fun v hv hs k hk => ?_, fun _ k hk => by omega⟩
  by_cases e : v = w
  · subst e; exact h.now hs k hk
  · exact h.all v (by omega) hs k hk
theorem AgPs.skip {n : Nat} {S : Int → Bool} {w m : Nat} {g : Ag} (h : AgPs n S w m g) (hs : S ((w : Int) + 1) = false) : AgPs n S (w + 1) 0 g := by
  refine ⟨h.ag, h.said, fun v hv hs' k hk => ?_, fun _ k hk => by omega⟩
  by_cases e : v = w
  · subst e; rw [hs] at hs'; cases hs'
  · exact h.all v (by omega) hs' k hk
structure AgQs (n : Nat) (S : Int → Bool) (w m : Nat) (g : Ag) : Prop where
  ag : AgN n g
  said : ∀ v, agSaid g v = S v
  full : ∀ v, S v = true → (gvOf g v).length = n
  all : ∀ v : Nat, v < w → S ((v : Int) + 1) = true → ∀ k : Nat, k < n → ((v : Int) + 1) ∈ agKnew g k
  now : S ((w : Int) + 1) = true → ∀ k : Nat, k < m → ((w : Int) + 1) ∈ agKnew g k
theorem AgPs.done {n : Nat} {S : Int → Bool} {g : Ag} (h : AgPs n S 30 0 g) : AgQs n S 0 0 g := by
  refine ⟨h.ag, h.said, fun v hv => ?_, fun v hv => by omega, fun _ k hk => by omega⟩
  have hw := h.ag.inv.words v (by have := h.said v; unfold agSaid at this; rw [this]; exact hv)
  simp [isWord] at hw
  rw [← h.ag.len]
  refine h.ag.inv.full_of fun k hk => ?_
  have e : (((v - 1).toNat : Nat) : Int) + 1 = v := by omega
  have := h.all (v - 1).toNat (by omega) (by rw [e]; exact hv) k (by rw [← h.ag.len]; exact hk)
  rwa [e] at this
theorem AgQs.step {n : Nat} {S : Int → Bool} {w m : Nat} {g : Ag} (h : AgQs n S w m g) (hw : w < 30) (hm : m < n) : AgQs n S w (m + 1) (agSet g m ((w : Int) + 1)) := by
  refine ⟨h.ag.set _ _, fun v => by rw [agSet_said]; exact h.said v, fun v hv => by rw [agSet_gv]; exact h.full v hv, fun v hv hs k hk => agSet_knew_sub (by omega) (h.all v hv hs k hk), fun hs k hk => ?_⟩
  by_cases e : k = m
  · subst e
    exact agSet_in (by rw [h.ag.len]; exact hm) (by simp [isWord]; omega) (by rw [h.said]; exact hs) (by rw [h.ag.len]; exact h.full _ hs)
  · exact agSet_knew_sub (by omega) (h.now hs k (by omega))
theorem AgQs.next {n : Nat} {S : Int → Bool} {w : Nat} {g : Ag} (h : AgQs n S w n g) : AgQs n S (w + 1) 0 g := by
  refine ⟨h.ag, h.said, h.full, fun v hv hs k hk => ?_, fun _ k hk => by omega⟩
  by_cases e : v = w
  · subst e; exact h.now hs k hk
  · exact h.all v (by omega) hs k hk
theorem AgQs.len {n : Nat} {S : Int → Bool} {g : Ag} (h : AgQs n S 30 0 g) {k : Nat} (hk : k < n) : (agGet g k).heard.length = cntTo S 30 := by
  have hk' : k < g.mem.length := by rw [h.ag.len]; exact hk
  have hall := h.ag.inv.heard_all hk' (fun w hw => by
    have hS : S w = true := by rw [← h.said w]; exact hw
    have hword := h.ag.inv.words w hw
    simp [isWord] at hword
    refine ⟨by rw [h.ag.len]; exact h.full w hS, ?_⟩
    have e : (((w - 1).toNat : Nat) : Int) + 1 = w := by omega
    have := h.all (w - 1).toNat (by omega) (by rw [e]; exact hS) k hk
    rw [e] at this
    unfold agKnew at this
    rwa [agGet_at hk'] at this)
  rw [agGet_at hk']
  refine cntTo_len (h.ag.inv.mem k hk').nodup (fun w => ?_) (fun w hw => h.ag.inv.words w (by have := h.said w; unfold agSaid at this; rw [this]; exact hw))
  rw [hall w, ← h.said w]; rfl
theorem AgN.alike {n : Nat} {g : Ag} (h : AgN n g) {j k : Nat} (hj : j < n) (hk : k < n) : (agGet g j).heard <+: (agGet g k).heard ∨ (agGet g k).heard <+: (agGet g j).heard := by
  have hj' : j < g.mem.length := by rw [h.len]; exact hj
  have hk' : k < g.mem.length := by rw [h.len]; exact hk
  rw [agGet_at hj', agGet_at hk']
  exact h.inv.alike hj' hk'
theorem begins_of {a b : List Int} (h : a <+: b) : begins a b = true := by
  unfold begins
  rw [Bool.and_eq_true, decide_eq_true_iff]
  refine ⟨h.length_le, ?_⟩
  rw [beq_iff_eq]
  exact List.prefix_iff_eq_take.1 h
theorem AgN.heard_small {n : Nat} {g : Ag} (h : AgN n g) {k : Nat} (hk : k < n) : (agGet g k).heard.length ≤ 30 ∧ ∀ x ∈ (agGet g k).heard, isWord x = true := by
  have hk' : k < g.mem.length := by rw [h.len]; exact hk
  rw [agGet_at hk']
  have hM := h.inv.mem k hk'
  have hw : ∀ x ∈ g.mem[k].heard, isWord x = true := fun x hx => by
    obtain ⟨s, hs, _⟩ := List.mem_map.1 ((hM.has x).2 (.inr hx))
    exact gvOf_word h.inv hs
  refine ⟨distinct_le 30 _ hM.nodup (fun x hx => ?_), hw⟩
  have := hw x hx
  simp [isWord] at this
  omega
end Go.Proofs.YtpgonkecicmanaaDoor
