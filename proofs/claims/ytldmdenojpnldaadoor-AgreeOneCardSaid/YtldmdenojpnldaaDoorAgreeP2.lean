/- Package agree, plainly, continued: what holds stays when a stamp is given, and when a word is settled. -/
import Derived.Test.YtldmdenojpnldaaDoorAgreeP
namespace Go.Proofs.YtldmdenojpnldaaDoor
set_option linter.unusedVariables false
set_option linter.unusedSimpArgs false
open Go.RowKit Go.Maps
theorem agProp_gv {g : Ag} {who w : Int} (h : agPropErr g who w = 0) (v : Int) : gvOf (agProp g who w) v = if w = v then gvOf g w ++ [((agGet g who).n + 1, who)] else gvOf g v := by
  unfold agProp
  rw [if_pos h]
  show (mget (mput g.given w (gvOf g w ++ [((agGet g who).n + 1, who)])) v).getD [] = _
  rw [mget_mput]
  by_cases e : w = v
  · rw [if_pos e, if_pos e]; rfl
  · rw [if_neg e, if_neg e]; rfl
theorem agProp_len {g : Ag} {who w : Int} : (agProp g who w).mem.length = g.mem.length := by unfold agProp; split <;> simp
theorem agSet_len {g : Ag} {who w : Int} : (agSet g who w).mem.length = g.mem.length := by unfold agSet; split <;> simp
/-- A member for whom nothing turned: another one gave a stamp to a word that was not full. -/
theorem AgMI.other {G G' : Int → List St} {N k : Nat} {m : AgM} (hm : AgMI G N k m) {w : Int} {s : St} (hG : ∀ v, G' v = if w = v then G w ++ [s] else G v) (hl : (G w).length < N) (hs : s.2 ≠ k) : AgMI G' N k m := by
  have hw : w ∉ m.knew := fun h => by have := hm.knewC w h; omega
  have hne : ∀ v ∈ m.knew, G' v = G v := fun v hv => by
    rw [hG, if_neg]
    rintro rfl
    exact hw hv
  have hsub : ∀ v x, x ∈ G v → x ∈ G' v := fun v x hx => by
    rw [hG]
    by_cases e : w = v
    · subst e; rw [if_pos rfl]; exact List.mem_append_left _ hx
    · rw [if_neg e]; exact hx
  refine ⟨hm.pos, hm.keys, hm.disj, hm.nodup, fun v => ?_, hm.knewH, fun v hv => by rw [hne v hv]; exact hm.knewC v hv, fun v hv => by rw [hne v hv]; exact hm.knewN v hv, fun v x hx => ?_, fun v x hx h2 => ?_, fun h hh v x hx => by rw [hne h (hm.knewH h hh)]; exact hm.ord h hh v x hx, ?_, hm.first⟩
  · rw [← hm.has v, hG]
    by_cases e : w = v
    · subst e
      rw [if_pos rfl, List.map_append, List.mem_append]
      refine ⟨fun h => h.elim id (fun h => ?_), .inl⟩
      simp at h; exact absurd h.symm hs
    · rw [if_neg e]
  · obtain ⟨h1, h2, h3⟩ := hm.st v x hx
    refine ⟨h1, fun hb => ?_, fun hb => ⟨hsub _ _ (h3 hb).1, (h3 hb).2⟩⟩
    rw [hne v (of_decide_eq_true (h1.symm.trans hb))]
    exact h2 hb
  · rw [hG] at hx
    by_cases e : w = v
    · subst e
      rw [if_pos rfl] at hx
      rcases List.mem_append.1 hx with hx | hx
      · exact hm.own _ _ hx h2
      · simp at hx; exact absurd (hx ▸ h2) hs
    · rw [if_neg e] at hx; exact hm.own _ _ hx h2
  · refine hm.sorted.imp_of_mem (fun {a b} ha hb h => ?_)
    rw [hne a (hm.knewH a ha), hne b (hm.knewH b hb)]; exact h
/-- The member that gave the stamp. -/
theorem AgMI.gave {G G' : Int → List St} {N k : Nat} {m : AgM} (hm : AgMI G N k m) {w : Int} (hG : ∀ v, G' v = if w = v then G w ++ [(m.n + 1, (k : Int))] else G v) (hl : (G w).length < N) (hk : (k : Int) ∉ (G w).map (·.2))
    (hmx : ∀ v ∈ m.knew, maxSt (G v) ∈ G v) : AgMI G' N k ⟨m.n + 1, mput m.waits w ((m.n + 1, k), false), m.knew, m.heard⟩ := by
  have hw : w ∉ m.knew := fun h => by have := hm.knewC w h; omega
  have hne : ∀ v ∈ m.knew, G' v = G v := fun v hv => by
    rw [hG, if_neg]
    rintro rfl
    exact hw hv
  have hnw : mget m.waits w = none ∧ w ∉ m.heard := by
    have h1 := fun h => hk ((hm.has w).2 h)
    refine ⟨?_, fun h => h1 (.inr h)⟩
    cases hg : mget m.waits w with
    | none => rfl
    | some x => exact absurd (.inl (by rw [hg]; simp)) h1
  have hget : ∀ v x, mget (mput m.waits w ((m.n + 1, (k : Int)), false)) v = some x → (v = w ∧ x = ((m.n + 1, (k : Int)), false)) ∨ (v ≠ w ∧ mget m.waits v = some x) := fun v x h => by
    rw [mget_mput] at h
    by_cases e : w = v
    · rw [if_pos e] at h; cases h; exact .inl ⟨e.symm, rfl⟩
    · rw [if_neg e] at h; exact .inr ⟨fun e' => e e'.symm, h⟩
  have hold : ∀ v x, mget m.waits v = some x → mget (mput m.waits w ((m.n + 1, (k : Int)), false)) v = some x := fun v x h => by
    rw [mget_mput, if_neg]
    · exact h
    · rintro rfl; rw [hnw.1] at h; cases h
  refine ⟨by have := hm.pos; show 0 ≤ m.n + 1; omega, mput_nodup hm.keys, fun v x hx => ?_, hm.nodup, fun v => ?_, hm.knewH, fun v hv => by rw [hne v hv]; exact hm.knewC v hv, fun v hv => by rw [hne v hv]; have := hm.knewN v hv; show _ ≤ m.n + 1; omega, fun v x hx => ?_, fun v s hs h2 => ?_, fun h hh v x hx => ?_, ?_, fun v x hx hb => ?_⟩
  · rcases hget v x hx with ⟨rfl, _⟩ | ⟨_, h⟩
    · exact hnw.2
    · exact hm.disj v x h
  · rw [hG]
    show _ ↔ (mget (mput m.waits w ((m.n + 1, (k : Int)), false)) v ≠ none ∨ v ∈ m.heard)
    by_cases e : w = v
    · subst e
      rw [if_pos rfl, List.map_append, List.mem_append, mget_mput, if_pos rfl]
      simp
    · rw [if_neg e, hm.has v, mget_mput, if_neg e]
  · rcases hget v x hx with ⟨rfl, rfl⟩ | ⟨hv, h⟩
    · refine ⟨?_, (fun h => by cases h), fun _ => ⟨?_, rfl⟩⟩
      · show false = _
        rw [eq_comm, decide_eq_false_iff_not]; exact hw
      · rw [hG, if_pos rfl]; exact List.mem_append_right _ (List.mem_singleton.2 rfl)
    · obtain ⟨h1, h2, h3⟩ := hm.st v x h
      refine ⟨h1, fun hb => ?_, fun hb => ?_⟩
      · rw [hne v (of_decide_eq_true (h1.symm.trans hb))]; exact h2 hb
      · rw [hG, if_neg (fun e => hv e.symm)]; exact h3 hb
  · show s.1 ≤ m.n + 1
    rw [hG] at hs
    by_cases e : w = v
    · subst e
      rw [if_pos rfl] at hs
      rcases List.mem_append.1 hs with hs | hs
      · have := hm.own _ _ hs h2; omega
      · simp at hs; rw [hs]; exact Int.le_refl _
    · rw [if_neg e] at hs
      have := hm.own _ _ hs h2; omega
  · have hh' : h ∈ m.heard := hh
    rw [hne h (hm.knewH h hh')]
    rcases hget v x hx with ⟨rfl, rfl⟩ | ⟨_, hx'⟩
    · have := hm.knewN h (hm.knewH h hh')
      exact .inl (by show _ < m.n + 1; omega)
    · exact hm.ord h hh' v x hx'
  · refine hm.sorted.imp_of_mem (fun {a b} ha hb h => ?_)
    rw [hne a (hm.knewH a ha), hne b (hm.knewH b hb)]; exact h
  · rcases hget v x hx with ⟨rfl, rfl⟩ | ⟨_, h⟩
    · cases hb
    · obtain ⟨w', x', h1, h2, h3⟩ := hm.first v x h hb
      exact ⟨w', x', hold _ _ h1, h2, h3⟩
theorem AgI.knew_max {g : Ag} (h : AgI g) {k : Nat} (hk : k < g.mem.length) {v : Int} (hv : v ∈ g.mem[k].knew) : maxSt (gvOf g v) ∈ gvOf g v := by
  refine maxSt_mem fun hc => ?_
  have := (h.mem k hk).knewC v hv
  rw [hc] at this
  simp at this
  omega
theorem agProp_inv {g : Ag} (h : AgI g) (who w : Int) : AgI (agProp g who w) := by
  by_cases he : agPropErr g who w = 0
  rotate_left
  · unfold agProp; rw [if_neg he]; exact h
  obtain ⟨hc, hnw⟩ := agPropErr0 he
  obtain ⟨⟨hw0, hwl⟩, hword, hsome⟩ := agChk0 hc
  obtain ⟨k, rfl⟩ : ∃ k : Nat, who = (k : Int) := ⟨who.toNat, by omega⟩
  have hk : k < g.mem.length := by omega
  have hG := agProp_gv he
  rw [agGet_at hk] at hG
  rw [h.whos] at hnw
  have hM := h.mem k hk
  have hlen := h.lacks hk hnw
  have hmemE : (agProp g k w).mem = g.mem.set k ⟨g.mem[k].n + 1, mput g.mem[k].waits w ((g.mem[k].n + 1, k), false), g.mem[k].knew, g.mem[k].heard⟩ := by
    unfold agProp; rw [if_pos he, agGet_at hk, Int.toNat_natCast]
  have hown : ∀ v s, s ∈ gvOf g v → s ≠ (g.mem[k].n + 1, (k : Int)) := fun v s hs e => by
    have h1 := hM.own v s hs (by rw [e])
    rw [e] at h1
    simp only at h1
    omega
  refine ⟨fun v => ?_, fun v s hs => ?_, fun v => ?_, fun v v' s hs hs' => ?_, fun v hv => ?_, fun j hj => ?_⟩
  · unfold whoOf
    rw [hG]
    have : (agProp g k w).who = mput g.who w (whoOf g w ++ [(k : Int)]) := by unfold agProp; rw [if_pos he]
    rw [this, mget_mput]
    by_cases e : w = v
    · rw [if_pos e, if_pos e, List.map_append, ← h.whos]; rfl
    · rw [if_neg e, if_neg e]; exact h.whos v
  · rw [hG] at hs
    rw [agProp_len]
    by_cases e : w = v
    · rw [if_pos e] at hs
      rcases List.mem_append.1 hs with hs | hs
      · exact h.range w s hs
      · simp at hs
        rw [hs]
        have h0 : 0 ≤ g.mem[k].n := hM.pos
        exact ⟨by show 1 ≤ g.mem[k].n + 1; omega, by show 0 ≤ (k : Int); omega, by show (k : Int) < _; omega⟩
    · rw [if_neg e] at hs; exact h.range v s hs
  · rw [hG]
    by_cases e : w = v
    · rw [if_pos e, List.map_append]
      refine List.nodup_append.2 ⟨h.nd w, by simp, fun a ha b hb => ?_⟩
      simp at hb
      rintro rfl
      subst hb
      exact hnw ha
    · rw [if_neg e]; exact h.nd v
  · rw [hG] at hs hs'
    by_cases e : w = v
    · subst e
      by_cases e' : w = v'
      · exact e'
      · rw [if_pos rfl] at hs
        rw [if_neg e'] at hs'
        rcases List.mem_append.1 hs with hs | hs
        · exact h.uniq _ _ s hs hs'
        · simp at hs
          exact absurd hs (hown _ s hs')
    · rw [if_neg e] at hs
      by_cases e' : w = v'
      · subst e'
        rw [if_pos rfl] at hs'
        rcases List.mem_append.1 hs' with hs' | hs'
        · exact h.uniq _ _ s hs hs'
        · simp at hs'
          exact absurd hs' (hown _ s hs)
      · rw [if_neg e'] at hs'; exact h.uniq _ _ s hs hs'
  · have : (agProp g k w).given = mput g.given w (gvOf g w ++ [(g.mem[k].n + 1, (k : Int))]) := by unfold agProp; rw [if_pos he, agGet_at hk]
    rw [this, mget_mput] at hv
    by_cases e : w = v
    · subst e; exact hword
    · rw [if_neg e] at hv; exact h.words v hv
  · rw [agProp_len] at hj ⊢
    have e : (agProp g k w).mem[j]'(by rw [agProp_len]; exact hj) = (g.mem.set k ⟨g.mem[k].n + 1, mput g.mem[k].waits w ((g.mem[k].n + 1, k), false), g.mem[k].knew, g.mem[k].heard⟩)[j]'(by simpa using hj) := by congr 1
    rw [e, List.getElem_set]
    by_cases hjk : k = j
    · subst hjk
      rw [if_pos rfl]
      exact hM.gave hG hlen hnw (fun v hv => h.knew_max hk hv)
    · rw [if_neg hjk]
      exact (h.mem j hj).other hG hlen (by show (k : Int) ≠ (j : Int); omega)
end Go.Proofs.YtldmdenojpnldaaDoor
