/- Package agree, plainly, continued: a word is settled, and what may be heard is; what all have heard. -/
import Derived.Test.YtldmdenojpnldaaDoorAgreeP2
namespace Go.Proofs.YtldmdenojpnldaaDoor
set_option linter.unusedVariables false
set_option linter.unusedSimpArgs false
open Go.RowKit Go.Maps
/-- As AgMI, in the midst of hearing. -/
structure AgMJ (G : Int → List St) (N k : Nat) (m : AgM) : Prop where
  pos : 0 ≤ m.n
  keys : (m.waits.map (·.1)).Nodup
  disj : ∀ w x, mget m.waits w = some x → w ∉ m.heard
  nodup : m.heard.Nodup
  has : ∀ w, (k : Int) ∈ (G w).map (·.2) ↔ (mget m.waits w ≠ none ∨ w ∈ m.heard)
  knewH : ∀ w ∈ m.heard, w ∈ m.knew
  knewC : ∀ w ∈ m.knew, (G w).length = N
  knewN : ∀ w ∈ m.knew, (maxSt (G w)).1 ≤ m.n
  st : ∀ w x, mget m.waits w = some x → x.2 = decide (w ∈ m.knew) ∧ (x.2 = true → x.1 = maxSt (G w)) ∧ (x.2 = false → x.1 ∈ G w ∧ x.1.2 = k)
  own : ∀ w s, s ∈ G w → s.2 = k → s.1 ≤ m.n
  ord : ∀ h ∈ m.heard, ∀ w x, mget m.waits w = some x → stLt (maxSt (G h)) x.1
  sorted : m.heard.Pairwise (fun a b => stLt (maxSt (G a)) (maxSt (G b)))
theorem AgMI.j {G : Int → List St} {N k : Nat} {m : AgM} (h : AgMI G N k m) : AgMJ G N k m := ⟨h.pos, h.keys, h.disj, h.nodup, h.has, h.knewH, h.knewC, h.knewN, h.st, h.own, h.ord, h.sorted⟩
theorem AgMJ.i {G : Int → List St} {N k : Nat} {m : AgM} (h : AgMJ G N k m) (hf : ∀ w x, mget m.waits w = some x → x.2 = true → ∃ w' x', mget m.waits w' = some x' ∧ x'.2 = false ∧ stLt x'.1 x.1) : AgMI G N k m :=
  ⟨h.pos, h.keys, h.disj, h.nodup, h.has, h.knewH, h.knewC, h.knewN, h.st, h.own, h.ord, h.sorted, hf⟩
/-- What a word's stamps are like, whatever member knows. -/
structure GvI (G : Int → List St) (N : Nat) : Prop where
  uniq : ∀ w w' s, s ∈ G w → s ∈ G w' → w = w'
  words : ∀ w s, s ∈ G w → isWord w = true
  pos : 0 < N
theorem AgI.gv {g : Ag} (h : AgI g) (hp : 0 < g.mem.length) : GvI (gvOf g) g.mem.length := ⟨h.uniq, fun _ _ hs => gvOf_word h hs, hp⟩
section
variable {G : Int → List St} {N k : Nat} {m : AgM}
theorem AgMJ.mem (hG : GvI G N) (hm : AgMJ G N k m) {w : Int} {x : Wt} (hx : mget m.waits w = some x) : x.1 ∈ G w := by
  obtain ⟨h1, h2, h3⟩ := hm.st w x hx
  cases hb : x.2
  · exact (h3 hb).1
  · rw [h2 hb]
    refine maxSt_mem fun hc => ?_
    rw [hb] at h1
    have := hm.knewC w (of_decide_eq_true h1.symm)
    rw [hc] at this
    simp at this
    have := hG.pos
    omega
theorem AgMJ.apart (hG : GvI G N) (hm : AgMJ G N k m) : Apart m.waits := fun w y w' y' hy hy' e => by
  have h1 := hm.mem hG hy
  have h2 := hm.mem hG hy'
  rw [e] at h1
  exact hG.uniq w w' _ h1 h2
theorem AgMJ.word (hG : GvI G N) (hm : AgMJ G N k m) {w : Int} {x : Wt} (hx : mget m.waits w = some x) : isWord w = true := hG.words w _ (hm.mem hG hx)
theorem word_ne0 {w : Int} (h : isWord w = true) : w ≠ 0 := by simp [isWord] at h; omega
theorem agGo_iff (hG : GvI G N) (hm : AgMJ G N k m) : agGo m.waits = true ↔ ∃ f x, mget m.waits f = some x ∧ x.2 = true ∧ ∀ w y, mget m.waits w = some y → ¬ stLt y.1 x.1 := by
  unfold agGo
  rw [Bool.and_eq_true, decide_eq_true_iff]
  constructor
  · rintro ⟨h1, h2⟩
    have hne : m.waits ≠ [] := fun h => h1 (agFirst_nil h)
    obtain ⟨x, hx, hl⟩ := agFirst_least hm.keys hne
    rw [hx] at h2
    exact ⟨_, x, hx, h2, hl⟩
  · rintro ⟨f, x, hx, hs, hl⟩
    have := agFirst_of hm.keys (hm.apart hG) ⟨x, hx, hl⟩
    rw [this, hx]
    exact ⟨word_ne0 (hm.word hG hx), hs⟩
/-- One word more is heard. -/
theorem AgMJ.step (hG : GvI G N) (hm : AgMJ G N k m) (hgo : agGo m.waits = true) : AgMJ G N k ⟨m.n, mdel m.waits (agFirst m.waits), m.knew, m.heard ++ [agFirst m.waits]⟩ := by
  obtain ⟨f, x, hx, hs, hl⟩ := (agGo_iff hG hm).1 hgo
  have hf := agFirst_of hm.keys (hm.apart hG) ⟨x, hx, hl⟩
  rw [hf]
  obtain ⟨st1, st2, _⟩ := hm.st f x hx
  have hkn : f ∈ m.knew := of_decide_eq_true (st1.symm.trans hs)
  have hmx := st2 hs
  have hget : ∀ v y, mget (mdel m.waits f) v = some y → v ≠ f ∧ mget m.waits v = some y := fun v y h => by
    rw [mget_mdel _ hm.keys] at h
    by_cases e : f = v
    · rw [if_pos e] at h; cases h
    · rw [if_neg e] at h; exact ⟨fun e' => e e'.symm, h⟩
  refine ⟨hm.pos, mdel_nodup hm.keys, fun v y hy hc => ?_, ?_, fun v => ?_, fun v hv => ?_, hm.knewC, hm.knewN, fun v y hy => hm.st v y (hget v y hy).2, hm.own, fun h hh v y hy => ?_, ?_⟩
  · obtain ⟨h1, h2⟩ := hget v y hy
    rcases List.mem_append.1 hc with hc | hc
    · exact hm.disj v y h2 hc
    · exact h1 (List.mem_singleton.1 hc)
  · refine List.nodup_append.2 ⟨hm.nodup, by simp, fun a ha b hb => ?_⟩
    rw [List.mem_singleton.1 hb]
    rintro rfl
    exact hm.disj _ x hx ha
  · rw [hm.has v]
    show _ ↔ (mget (mdel m.waits f) v ≠ none ∨ v ∈ m.heard ++ [f])
    rw [mget_mdel _ hm.keys, List.mem_append, List.mem_singleton]
    by_cases e : f = v
    · subst e
      rw [if_pos rfl, hx]
      simp
    · rw [if_neg e]
      have e' : ¬ v = f := fun h => e h.symm
      simp [e']
  · rcases List.mem_append.1 hv with hv | hv
    · exact hm.knewH v hv
    · rw [List.mem_singleton.1 hv]; exact hkn
  · obtain ⟨h1, h2⟩ := hget v y hy
    rcases List.mem_append.1 hh with hh | hh
    · exact hm.ord h hh v y h2
    · rw [List.mem_singleton.1 hh, ← hmx]
      exact stLt_of_not (hl v y h2) (fun e => h1 (hm.apart hG v y f x h2 hx e))
  · refine List.pairwise_append.2 ⟨hm.sorted, List.pairwise_singleton _ _, fun a ha b hb => ?_⟩
    rw [List.mem_singleton.1 hb, ← hmx]
    exact hm.ord a ha f x hx
theorem AgMJ.hear (hG : GvI G N) : ∀ (j : Nat) (m : AgM), m.waits.length ≤ j → AgMJ G N k m → AgMJ G N k ⟨m.n, (agHear j m.waits).1, m.knew, m.heard ++ (agHear j m.waits).2⟩ ∧ agGo (agHear j m.waits).1 = false
  | 0, m, hj, hm => by
    have h0 : m.waits = [] := List.eq_nil_of_length_eq_zero (by omega)
    refine ⟨by unfold agHear; rw [List.append_nil]; exact hm, ?_⟩
    unfold agHear
    rw [h0]; rfl
  | j + 1, m, hj, hm => by
    unfold agHear
    cases hgo : agGo m.waits
    · rw [if_neg (by simp)]
      exact ⟨by rw [List.append_nil]; exact hm, hgo⟩
    · rw [if_pos rfl]
      obtain ⟨f, x, hx, hs, hl⟩ := (agGo_iff hG hm).1 hgo
      have hf := agFirst_of hm.keys (hm.apart hG) ⟨x, hx, hl⟩
      have hlen := mdel_len hx
      have := AgMJ.hear hG j ⟨m.n, mdel m.waits (agFirst m.waits), m.knew, m.heard ++ [agFirst m.waits]⟩ (by show (mdel m.waits (agFirst m.waits)).length ≤ j; rw [hf]; omega) (hm.step hG hgo)
      simp only [List.append_assoc, List.singleton_append] at this
      exact this
theorem AgMJ.done (hG : GvI G N) (hm : AgMJ G N k m) (hgo : agGo m.waits = false) : AgMI G N k m := by
  refine hm.i fun w x hx hs => ?_
  have hne : m.waits ≠ [] := fun h => by rw [h] at hx; cases hx
  obtain ⟨xf, hxf, hl⟩ := agFirst_least hm.keys hne
  have hfs : xf.2 = false := by
    cases hb : xf.2
    · rfl
    · have := (agGo_iff hG hm).2 ⟨_, xf, hxf, hb, hl⟩
      rw [hgo] at this; cases this
  refine ⟨_, xf, hxf, hfs, stLt_of_not (hl w x hx) fun e => ?_⟩
  have := hm.apart hG w x _ xf hx hxf e
  rw [← this, hx] at hxf
  cases hxf
  rw [hs] at hfs; cases hfs
theorem AgMI.settle (hG : GvI G N) (hm : AgMI G N k m) {w : Int} (hfull : (G w).length = N) (hk : (k : Int) ∈ (G w).map (·.2)) (hw : w ∉ m.knew) :
    AgMJ G N k ⟨max m.n (maxSt (G w)).1, mput m.waits w (maxSt (G w), true), setPut m.knew w, m.heard⟩ := by
  have hnh : w ∉ m.heard := fun h => hw (hm.knewH w h)
  obtain ⟨x0, hx0⟩ : ∃ x, mget m.waits w = some x := by
    rcases (hm.has w).1 hk with h | h
    · exact Option.ne_none_iff_exists'.1 h
    · exact absurd h hnh
  obtain ⟨s1, _, s3⟩ := hm.st w x0 hx0
  have hb0 : x0.2 = false := by rw [s1, decide_eq_false_iff_not]; exact hw
  have hx0G := (s3 hb0).1
  have hget : ∀ v y, mget (mput m.waits w (maxSt (G w), true)) v = some y → (v = w ∧ y = (maxSt (G w), true)) ∨ (v ≠ w ∧ mget m.waits v = some y) := fun v y h => by
    rw [mget_mput] at h
    by_cases e : w = v
    · rw [if_pos e] at h; cases h; exact .inl ⟨e.symm, rfl⟩
    · rw [if_neg e] at h; exact .inr ⟨fun e' => e e'.symm, h⟩
  refine ⟨by have := hm.pos; show 0 ≤ max m.n (maxSt (G w)).1; omega, mput_nodup hm.keys, fun v y hy => ?_, hm.nodup, fun v => ?_, fun v hv => mem_setPut.2 (.inl (hm.knewH v hv)), fun v hv => ?_, fun v hv => ?_, fun v y hy => ?_, fun v s hs h2 => ?_, fun h hh v y hy => ?_, hm.sorted⟩
  · rcases hget v y hy with ⟨rfl, _⟩ | ⟨_, h⟩
    · exact hnh
    · exact hm.disj v y h
  · rw [hm.has v]
    show _ ↔ (mget (mput m.waits w (maxSt (G w), true)) v ≠ none ∨ v ∈ m.heard)
    rw [mget_mput]
    by_cases e : w = v
    · subst e; rw [if_pos rfl, hx0]; simp
    · rw [if_neg e]
  · rcases mem_setPut.1 hv with hv | rfl
    · exact hm.knewC v hv
    · exact hfull
  · show _ ≤ max m.n (maxSt (G w)).1
    rcases mem_setPut.1 hv with hv | rfl
    · have := hm.knewN v hv; omega
    · omega
  · show _ = decide (v ∈ setPut m.knew w) ∧ _
    rcases hget v y hy with ⟨rfl, rfl⟩ | ⟨hv, h⟩
    · refine ⟨?_, fun _ => rfl, (fun h => by cases h)⟩
      show true = _
      rw [eq_comm, decide_eq_true_iff]; exact mem_setPut.2 (.inr rfl)
    · obtain ⟨h1, h2, h3⟩ := hm.st v y h
      refine ⟨?_, h2, h3⟩
      rw [h1]
      have : v ∈ setPut m.knew w ↔ v ∈ m.knew := by rw [mem_setPut]; simp [hv]
      simp [this]
  · show s.1 ≤ max m.n (maxSt (G w)).1
    have := hm.own v s hs h2
    omega
  · rcases hget v y hy with ⟨rfl, rfl⟩ | ⟨_, h'⟩
    · exact stLt_le (hm.ord h hh _ x0 hx0) (maxSt_ge hx0G)
    · exact hm.ord h hh v y h'
end
theorem agSet_inv {g : Ag} (h : AgI g) (who w : Int) : AgI (agSet g who w) := by
  by_cases he : agSetErr g who w = 0
  rotate_left
  · unfold agSet; rw [if_neg he]; exact h
  obtain ⟨hc, hfull, hnk⟩ := agSetErr0 he
  obtain ⟨⟨hw0, hwl⟩, hword, hsome⟩ := agChk0 hc
  obtain ⟨k, rfl⟩ : ∃ k : Nat, who = (k : Int) := ⟨who.toNat, by omega⟩
  have hk : k < g.mem.length := by omega
  have hE : agSet g k w = { g with mem := g.mem.set k (agHearM (agSetM g g.mem[k] w)) } := by unfold agSet; rw [if_pos he, agGet_at hk, Int.toNat_natCast]
  rw [agGet_at hk] at hnk
  have hl : (gvOf g w).length = g.mem.length := Nat.le_antisymm (h.len w) hfull
  have hGv := h.gv (show 0 < g.mem.length by omega)
  have hJ := (h.mem k hk).settle hGv hl (h.full hl hk) hnk
  obtain ⟨h1, h2⟩ := AgMJ.hear hGv _ (agSetM g g.mem[k] w) (Nat.le_refl _) hJ
  have hI : AgMI (gvOf g) g.mem.length k (agHearM (agSetM g g.mem[k] w)) := AgMJ.done hGv h1 h2
  rw [hE]
  refine ⟨h.whos, fun v s hs => ?_, h.nd, h.uniq, h.words, fun j hj => ?_⟩
  · show _ ∧ _ ∧ s.2 < ((g.mem.set k _).length : Nat)
    rw [List.length_set]
    exact h.range v s hs
  · have hj' : j < (g.mem.set k (agHearM (agSetM g g.mem[k] w))).length := hj
    have key : ∀ N, N = g.mem.length → AgMI (gvOf g) N j ((g.mem.set k (agHearM (agSetM g g.mem[k] w)))[j]'hj') := by
      rintro N rfl
      rw [List.getElem_set]
      by_cases hjk : k = j
      · subst hjk; rw [if_pos rfl]; exact hI
      · rw [if_neg hjk]; exact h.mem j (by simpa using hj')
    exact key _ (by simp)
/-! ## One order for all -/
/-- Two rising lists, each of which has whatever stands below one of its own: one begins the other. -/
theorem rising_begin (F : Int → St) : ∀ (a b : List Int), a.Pairwise (fun x y => stLt (F x) (F y)) → b.Pairwise (fun x y => stLt (F x) (F y)) →
    (∀ x ∈ a, ∀ y ∈ b, y ∉ a → stLt (F x) (F y)) → (∀ x ∈ b, ∀ y ∈ a, y ∉ b → stLt (F x) (F y)) → a <+: b ∨ b <+: a
  | [], b, _, _, _, _ => .inl List.nil_prefix
  | x :: a, [], _, _, _, _ => .inr List.nil_prefix
  | x :: a, y :: b, ha, hb, h1, h2 => by
    rw [List.pairwise_cons] at ha hb
    have hxy : x = y := by
      rcases Classical.em (x = y) with e | e
      · exact e
      exfalso
      rcases stLt_tri (F x) (F y) with h | h | h
      · have hx : x ∉ y :: b := fun hc => by
          rcases List.mem_cons.1 hc with hc | hc
          · exact e hc
          · exact stLt_irr _ (stLt_trans h (hb.1 x hc))
        exact stLt_irr _ (stLt_trans h (h2 y (List.mem_cons_self ..) x (List.mem_cons_self ..) hx))
      · have hx : x ∉ y :: b := fun hc => by
          rcases List.mem_cons.1 hc with hc | hc
          · exact e hc
          · have := hb.1 x hc; rw [h] at this; exact stLt_irr _ this
        have := h2 y (List.mem_cons_self ..) x (List.mem_cons_self ..) hx
        rw [h] at this; exact stLt_irr _ this
      · have hy : y ∉ x :: a := fun hc => by
          rcases List.mem_cons.1 hc with hc | hc
          · exact e hc.symm
          · exact stLt_irr _ (stLt_trans h (ha.1 y hc))
        exact stLt_irr _ (stLt_trans h (h1 x (List.mem_cons_self ..) y (List.mem_cons_self ..) hy))
    subst hxy
    have hna : ∀ z ∈ a, z ≠ x := fun z hz e => by have := ha.1 z hz; rw [e] at this; exact stLt_irr _ this
    have hnb : ∀ z ∈ b, z ≠ x := fun z hz e => by have := hb.1 z hz; rw [e] at this; exact stLt_irr _ this
    rcases rising_begin F a b ha.2 hb.2 (fun u hu v hv hn => h1 u (List.mem_cons_of_mem _ hu) v (List.mem_cons_of_mem _ hv) (fun hc => by
        rcases List.mem_cons.1 hc with hc | hc
        · exact hnb v hv hc
        · exact hn hc)) (fun u hu v hv hn => h2 u (List.mem_cons_of_mem _ hu) v (List.mem_cons_of_mem _ hv) (fun hc => by
        rcases List.mem_cons.1 hc with hc | hc
        · exact hna v hv hc
        · exact hn hc)) with h | h
    · exact .inl (List.cons_prefix_cons.2 ⟨rfl, h⟩)
    · exact .inr (List.cons_prefix_cons.2 ⟨rfl, h⟩)
/-- What another one heard, and this one did not, stands behind all that this one heard. -/
theorem AgI.behind {g : Ag} (h : AgI g) {j k : Nat} (hj : j < g.mem.length) (hk : k < g.mem.length) : ∀ x ∈ g.mem[j].heard, ∀ y ∈ g.mem[k].heard, y ∉ g.mem[j].heard → stLt (maxSt (gvOf g x)) (maxSt (gvOf g y)) := by
  intro x hx y hy hn
  have hJ := h.mem j hj
  have hK := h.mem k hk
  have hfull := hK.knewC y (hK.knewH y hy)
  rcases (hJ.has y).1 (h.full hfull hj) with hw | hw
  rotate_left
  · exact absurd hw hn
  obtain ⟨s, hs⟩ := Option.ne_none_iff_exists'.1 hw
  have h1 := hJ.ord x hx y s hs
  exact stLt_le h1 (maxSt_ge (hJ.j.mem (h.gv (by omega)) hs))
theorem AgI.alike {g : Ag} (h : AgI g) {j k : Nat} (hj : j < g.mem.length) (hk : k < g.mem.length) : g.mem[j].heard <+: g.mem[k].heard ∨ g.mem[k].heard <+: g.mem[j].heard :=
  rising_begin (fun w => maxSt (gvOf g w)) _ _ (h.mem j hj).sorted (h.mem k hk).sorted (h.behind hj hk) (h.behind hk hj)
/-- Whom nothing waits for heard all words of which it knows the stamps. -/
theorem AgI.heard_all {g : Ag} (h : AgI g) {k : Nat} (hk : k < g.mem.length) (hall : ∀ w, (mget g.given w).isSome → (gvOf g w).length = g.mem.length ∧ w ∈ g.mem[k].knew) : ∀ w, w ∈ g.mem[k].heard ↔ (mget g.given w).isSome := by
  have hM := h.mem k hk
  have hsome : ∀ w s, s ∈ gvOf g w → (mget g.given w).isSome := fun w s hs => by
    unfold gvOf at hs
    cases hg : mget g.given w with
    | none => rw [hg] at hs; cases hs
    | some l => rfl
  have hnone : ∀ w x, mget g.mem[k].waits w = some x → x.2 = true := fun w x hx => by
    have h1 := hsome w _ (hM.j.mem (h.gv (by omega)) hx)
    rw [(hM.st w x hx).1, decide_eq_true_iff]
    exact (hall w h1).2
  have hwait : ∀ w, mget g.mem[k].waits w = none := fun w => by
    cases hx : mget g.mem[k].waits w with
    | none => rfl
    | some x =>
      obtain ⟨w', x', h1, h2, _⟩ := hM.first w x hx (hnone w x hx)
      have := hnone w' x' h1
      rw [h2] at this; cases this
  intro w
  constructor
  · intro hw
    obtain ⟨s, hs, _⟩ := List.mem_map.1 ((hM.has w).2 (.inr hw))
    exact hsome w s hs
  · intro hw
    rcases (hM.has w).1 (h.full (hall w hw).1 hk) with hc | hc
    · exact absurd (hwait w) hc
    · exact hc
end Go.Proofs.YtldmdenojpnldaaDoor
