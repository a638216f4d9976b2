/- Package agree, plainly, continued: what of a group turns when a stamp is given, when a word is settled; how many words were said. -/
import Derived.Test.YtldmdenojpnldaaDoorAgreeP3
namespace Go.Proofs.YtldmdenojpnldaaDoor
set_option linter.unusedVariables false
set_option linter.unusedSimpArgs false
open Go.RowKit Go.Maps
/-- Was a word said? -/
def agSaid (g : Ag) (w : Int) : Bool := (mget g.given w).isSome
def agKnew (g : Ag) (k : Int) : List Int := (agGet g k).knew
theorem agProp_said (g : Ag) (who w v : Int) : agSaid (agProp g who w) v = agSaid g v := by
  by_cases he : agPropErr g who w = 0
  rotate_left
  · unfold agProp; rw [if_neg he]
  have hs := (agChk0 (agPropErr0 he).1).2.2
  unfold agSaid agProp
  rw [if_pos he]
  show (mget (mput g.given w _) v).isSome = _
  rw [mget_mput]
  by_cases e : w = v
  · subst e; rw [if_pos rfl, hs]; rfl
  · rw [if_neg e]
theorem agSet_said (g : Ag) (who w v : Int) : agSaid (agSet g who w) v = agSaid g v := by unfold agSaid agSet; split <;> rfl
theorem agSet_gv (g : Ag) (who w v : Int) : gvOf (agSet g who w) v = gvOf g v := by unfold gvOf agSet; split <;> rfl
theorem agSet_who (g : Ag) (who w v : Int) : whoOf (agSet g who w) v = whoOf g v := by unfold whoOf agSet; split <;> rfl
theorem agProp_who {g : Ag} {who w : Int} (h : agPropErr g who w = 0) (v : Int) : whoOf (agProp g who w) v = if w = v then whoOf g w ++ [who] else whoOf g v := by
  unfold agProp
  rw [if_pos h]
  show (mget (mput g.who w (whoOf g w ++ [who])) v).getD [] = _
  rw [mget_mput]
  by_cases e : w = v
  · rw [if_pos e, if_pos e]; rfl
  · rw [if_neg e, if_neg e]; rfl
theorem agProp_who_sub {g : Ag} {who w v k : Int} (h : k ∈ whoOf g v) : k ∈ whoOf (agProp g who w) v := by
  by_cases he : agPropErr g who w = 0
  · rw [agProp_who he]
    by_cases e : w = v
    · subst e; rw [if_pos rfl]; exact List.mem_append_left _ h
    · rw [if_neg e]; exact h
  · unfold agProp; rw [if_neg he]; exact h
theorem agProp_who_in {g : Ag} {who w v k : Int} (h : k ∈ whoOf (agProp g who w) v) : k ∈ whoOf g v ∨ (k = who ∧ v = w) := by
  by_cases he : agPropErr g who w = 0
  · rw [agProp_who he] at h
    by_cases e : w = v
    · subst e
      rw [if_pos rfl] at h
      rcases List.mem_append.1 h with h | h
      · exact .inl h
      · exact .inr ⟨List.mem_singleton.1 h, rfl⟩
    · rw [if_neg e] at h; exact .inl h
  · unfold agProp at h; rw [if_neg he] at h; exact .inl h
theorem agGet_set {g : Ag} {L : List AgM} {k : Int} {j : Nat} {m : AgM} (hj : j < g.mem.length) (hL : L = g.mem.set j m) (hk : 0 ≤ k) : L.getD k.toNat ⟨0, [], [], []⟩ = if k = (j : Int) then m else agGet g k := by
  subst hL
  unfold agGet
  rw [List.getD_eq_getElem?_getD, List.getElem?_set, List.getD_eq_getElem?_getD]
  by_cases e : k = (j : Int)
  · subst e
    rw [if_pos (by simp), if_pos hj, if_pos rfl]; rfl
  · rw [if_neg (by omega), if_neg e]
theorem agProp_knew (g : Ag) (who w k : Int) (hk : 0 ≤ k) : agKnew (agProp g who w) k = agKnew g k := by
  by_cases he : agPropErr g who w = 0
  rotate_left
  · unfold agProp; rw [if_neg he]
  obtain ⟨⟨h0, h1⟩, _⟩ := agChk0 (agPropErr0 he).1
  obtain ⟨j, rfl⟩ : ∃ j : Nat, who = (j : Int) := ⟨who.toNat, by omega⟩
  have h2 := agGet_set (g := g) (k := k) (j := j) (m := ⟨(agGet g j).n + 1, mput (agGet g j).waits w (((agGet g j).n + 1, (j : Int)), false), (agGet g j).knew, (agGet g j).heard⟩) (by omega) rfl hk
  have h3 : agGet (agProp g j w) k = (g.mem.set j ⟨(agGet g j).n + 1, mput (agGet g j).waits w (((agGet g j).n + 1, (j : Int)), false), (agGet g j).knew, (agGet g j).heard⟩).getD k.toNat ⟨0, [], [], []⟩ := by
    unfold agProp; rw [if_pos he]; rfl
  unfold agKnew
  rw [h3, h2]
  by_cases e : k = (j : Int)
  · rw [if_pos e, e]
  · rw [if_neg e]
theorem agSet_knew {g : Ag} {who w k : Int} (he : agSetErr g who w = 0) (hk : 0 ≤ k) : agKnew (agSet g who w) k = if k = who then setPut (agKnew g who) w else agKnew g k := by
  obtain ⟨⟨h0, h1⟩, _⟩ := agChk0 (agSetErr0 he).1
  obtain ⟨j, rfl⟩ : ∃ j : Nat, who = (j : Int) := ⟨who.toNat, by omega⟩
  have h2 := agGet_set (g := g) (k := k) (j := j) (m := agHearM (agSetM g (agGet g j) w)) (by omega) rfl hk
  have h3 : agGet (agSet g j w) k = (g.mem.set j (agHearM (agSetM g (agGet g j) w))).getD k.toNat ⟨0, [], [], []⟩ := by
    unfold agSet; rw [if_pos he]; rfl
  unfold agKnew
  rw [h3, h2]
  by_cases e : k = (j : Int)
  · rw [if_pos e, if_pos e]; rfl
  · rw [if_neg e, if_neg e]
theorem agSet_knew_sub {g : Ag} {who w k v : Int} (hk : 0 ≤ k) (h : v ∈ agKnew g k) : v ∈ agKnew (agSet g who w) k := by
  by_cases he : agSetErr g who w = 0
  · rw [agSet_knew he hk]
    by_cases e : k = who
    · subst e; rw [if_pos rfl]; exact mem_setPut.2 (.inl h)
    · rw [if_neg e]; exact h
  · unfold agSet; rw [if_neg he]; exact h
/-- A member that may: a stamp is given, or was. -/
theorem agProp_may {g : Ag} {k : Nat} {w : Int} (hk : k < g.mem.length) (hw : isWord w = true) (hs : agSaid g w = true) : agPropErr g k w = if (k : Int) ∈ whoOf g w then 7 else 0 := by
  have hc : agChk g k w = 0 := by
    unfold agChk
    rw [if_neg (by simp [inR]; omega), if_neg (by rw [hw]; simp), if_neg (by show ¬ agSaid g w = false; rw [hs]; simp)]
  unfold agPropErr
  rw [if_neg (by rw [hc]; simp)]
theorem agProp_in {g : Ag} {k : Nat} {w : Int} (hk : k < g.mem.length) (hw : isWord w = true) (hs : agSaid g w = true) : (k : Int) ∈ whoOf (agProp g k w) w := by
  have h := agProp_may hk hw hs
  by_cases hc : (k : Int) ∈ whoOf g w
  · exact agProp_who_sub hc
  · rw [if_neg hc] at h
    rw [agProp_who h, if_pos rfl]
    exact List.mem_append_right _ (List.mem_singleton.2 rfl)
theorem agProp_no {g : Ag} {k : Nat} {w : Int} (hk : k < g.mem.length) (hw : isWord w = true) (hs : agSaid g w = false) : agPropErr g k w = 5 := by
  have hc : agChk g k w = 5 := by
    unfold agChk
    rw [if_neg (by simp [inR]; omega), if_neg (by rw [hw]; simp), if_pos (show (mget g.given w).isSome = false from hs)]
  unfold agPropErr
  rw [if_pos (by rw [hc]; simp), hc]
theorem agSet_may {g : Ag} {k : Nat} {w : Int} (hk : k < g.mem.length) (hw : isWord w = true) (hs : agSaid g w = true) (hf : (gvOf g w).length = g.mem.length) : agSetErr g k w = if w ∈ agKnew g k then 7 else 0 := by
  have hc : agChk g k w = 0 := by
    unfold agChk
    rw [if_neg (by simp [inR]; omega), if_neg (by rw [hw]; simp), if_neg (by show ¬ agSaid g w = false; rw [hs]; simp)]
  unfold agSetErr
  rw [if_neg (by rw [hc]; simp), if_neg (by omega)]
  rfl
theorem agSet_in {g : Ag} {k : Nat} {w : Int} (hk : k < g.mem.length) (hw : isWord w = true) (hs : agSaid g w = true) (hf : (gvOf g w).length = g.mem.length) : w ∈ agKnew (agSet g k w) k := by
  have h := agSet_may hk hw hs hf
  by_cases hc : w ∈ agKnew g k
  · exact agSet_knew_sub (by omega) hc
  · rw [if_neg hc] at h
    rw [agSet_knew h (by omega), if_pos rfl]
    exact mem_setPut.2 (.inr rfl)
/-- A word of which each is a giver is full. -/
theorem AgI.full_of {g : Ag} (h : AgI g) {w : Int} (hall : ∀ k : Nat, k < g.mem.length → (k : Int) ∈ whoOf g w) : (gvOf g w).length = g.mem.length := by
  have h1 := h.len w
  have h2 : ((List.range g.mem.length).map fun i : Nat => (i : Int)).length ≤ ((gvOf g w).map (·.2)).length := by
    refine (nodup_map_inj (fun i : Nat => (i : Int)) (fun x y e => by have e' : (x : Int) = y := e; omega) _ List.nodup_range).length_le_of_subset ?_
    intro x hx
    obtain ⟨k, hk, rfl⟩ := List.mem_map.1 hx
    rw [← h.whos]
    exact hall k (List.mem_range.1 hk)
  simp at h2
  omega
def cntTo (S : Int → Bool) (n : Nat) : Nat := (List.range n).countP fun i : Nat => S ((i : Int) + 1)
theorem cntTo_next (S : Int → Bool) (n : Nat) : cntTo S (n + 1) = cntTo S n + if S ((n : Int) + 1) then 1 else 0 := by
  unfold cntTo
  rw [List.range_succ, List.countP_append, List.countP_singleton]
theorem cntTo_le (S : Int → Bool) (n : Nat) : cntTo S n ≤ n := by
  unfold cntTo
  have := List.countP_le_length (p := fun i : Nat => S ((i : Int) + 1)) (l := List.range n)
  rwa [List.length_range] at this
/-- So many as were said: a list without doubles of all that was said. -/
theorem cntTo_len {S : Int → Bool} {l : List Int} (hn : l.Nodup) (hl : ∀ w, w ∈ l ↔ S w = true) (hw : ∀ w, S w = true → isWord w = true) : l.length = cntTo S 30 := by
  have hp : l.Perm (((List.range 30).filter fun i : Nat => S ((i : Int) + 1)).map fun i : Nat => (i : Int) + 1) := by
    refine (List.perm_ext_iff_of_nodup hn (nodup_map_inj _ (fun x y e => by have e' : (x : Int) + 1 = y + 1 := e; omega) _ (List.nodup_range.filter _))).2 fun w => ?_
    rw [hl w, List.mem_map]
    constructor
    · intro h
      have h1 := hw w h
      simp [isWord] at h1
      refine ⟨(w - 1).toNat, List.mem_filter.2 ⟨List.mem_range.2 (by omega), ?_⟩, by omega⟩
      rw [show (((w - 1).toNat : Nat) : Int) + 1 = w by omega]; exact h
    · rintro ⟨i, hi, rfl⟩
      exact (List.mem_filter.1 hi).2
  rw [hp.length_eq, List.length_map]
  unfold cntTo
  rw [List.countP_eq_length_filter]
/-! ## The words of AgreeOne's end: stamps for all, all settled -/
structure AgN (n : Nat) (g : Ag) : Prop where
  inv : AgI g
  len : g.mem.length = n
theorem AgN.say {n : Nat} {g : Ag} (h : AgN n g) (w : Int) : AgN n (agSay g w) := ⟨agSay_inv h.inv w, by rw [agSay_mem]; exact h.len⟩
theorem AgN.prop {n : Nat} {g : Ag} (h : AgN n g) (k w : Int) : AgN n (agProp g k w) := ⟨agProp_inv h.inv k w, by rw [agProp_len]; exact h.len⟩
theorem AgN.set {n : Nat} {g : Ag} (h : AgN n g) (k w : Int) : AgN n (agSet g k w) := ⟨agSet_inv h.inv k w, by rw [agSet_len]; exact h.len⟩
theorem AgN.new (n : Nat) : AgN n (agNew n) := ⟨agNew_inv n, by simp [agNew]⟩
/-- All below w have stamps of all; w has those of all below m. -/
structure AgPs (n : Nat) (S : Int → Bool) (w m : Nat) (g : Ag) : Prop where
  ag : AgN n g
  said : ∀ v, agSaid g v = S v
  all : ∀ v : Nat, v < w → S ((v : Int) + 1) = true → ∀ k : Nat, k < n → (k : Int) ∈ whoOf g ((v : Int) + 1)
  now : S ((w : Int) + 1) = true → ∀ k : Nat, k < m → (k : Int) ∈ whoOf g ((w : Int) + 1)
theorem AgPs.step {n : Nat} {S : Int → Bool} {w m : Nat} {g : Ag} (h : AgPs n S w m g) (hw : w < 30) (hm : m < n) : AgPs n S w (m + 1) (agProp g m ((w : Int) + 1)) := by
  refine ⟨h.ag.prop _ _, fun v => by rw [agProp_said]; exact h.said v, fun v hv hs k hk => agProp_who_sub (h.all v hv hs k hk), fun hs k hk => ?_⟩
  by_cases e : k = m
  · subst e
    exact agProp_in (by rw [h.ag.len]; exact hm) (by simp [isWord]; omega) (by rw [h.said]; exact hs)
  · exact agProp_who_sub (h.now hs k (by omega))
theorem AgPs.next {n : Nat} {S : Int → Bool} {w : Nat} {g : Ag} (h : AgPs n S w n g) : AgPs n S (w + 1) 0 g := by
  refine ⟨h.ag, h.said, fun v hv hs k hk => ?_, fun _ k hk => by omega⟩
  by_cases e : v = w
  · subst e; exact h.now hs k hk
  · exact h.all v (by omega) hs k hk
theorem AgPs.skip {n : Nat} {S : Int → Bool} {w m : Nat} {g : Ag} (h : AgPs n S w m g) (hs : S ((w : Int) + 1) = false) : AgPs n S (w + 1) 0 g := by
  refine ⟨h.ag, h.said, fun v hv hs' k hk => ?_, fun _ k hk => by omega⟩
  by_cases e : v = w
  · subst e; rw [hs] at hs'; cases hs'
  · exact h.all v (by omega) hs' k hk
structure AgQs (n : Nat) (S : Int → Bool) (w m : Nat) (g : Ag) : Prop where
  ag : AgN n g
  said : ∀ v, agSaid g v = S v
  full : ∀ v, S v = true → (gvOf g v).length = n
  all : ∀ v : Nat, v < w → S ((v : Int) + 1) = true → ∀ k : Nat, k < n → ((v : Int) + 1) ∈ agKnew g k
  now : S ((w : Int) + 1) = true → ∀ k : Nat, k < m → ((w : Int) + 1) ∈ agKnew g k
theorem AgPs.done {n : Nat} {S : Int → Bool} {g : Ag} (h : AgPs n S 30 0 g) : AgQs n S 0 0 g := by
  refine ⟨h.ag, h.said, fun v hv => ?_, fun v hv => by omega, fun _ k hk => by omega⟩
  have hw := h.ag.inv.words v (by have := h.said v; unfold agSaid at this; rw [this]; exact hv)
  simp [isWord] at hw
  rw [← h.ag.len]
  refine h.ag.inv.full_of fun k hk => ?_
  have e : (((v - 1).toNat : Nat) : Int) + 1 = v := by omega
  have := h.all (v - 1).toNat (by omega) (by rw [e]; exact hv) k (by rw [← h.ag.len]; exact hk)
  rwa [e] at this
theorem AgQs.step {n : Nat} {S : Int → Bool} {w m : Nat} {g : Ag} (h : AgQs n S w m g) (hw : w < 30) (hm : m < n) : AgQs n S w (m + 1) (agSet g m ((w : Int) + 1)) := by
  refine ⟨h.ag.set _ _, fun v => by rw [agSet_said]; exact h.said v, fun v hv => by rw [agSet_gv]; exact h.full v hv, fun v hv hs k hk => agSet_knew_sub (by omega) (h.all v hv hs k hk), fun hs k hk => ?_⟩
  by_cases e : k = m
  · subst e
    exact agSet_in (by rw [h.ag.len]; exact hm) (by simp [isWord]; omega) (by rw [h.said]; exact hs) (by rw [h.ag.len]; exact h.full _ hs)
  · exact agSet_knew_sub (by omega) (h.now hs k (by omega))
theorem AgQs.next {n : Nat} {S : Int → Bool} {w : Nat} {g : Ag} (h : AgQs n S w n g) : AgQs n S (w + 1) 0 g := by
  refine ⟨h.ag, h.said, h.full, fun v hv hs k hk => ?_, fun _ k hk => by omega⟩
  by_cases e : v = w
  · subst e; exact h.now hs k hk
  · exact h.all v (by omega) hs k hk
theorem AgQs.len {n : Nat} {S : Int → Bool} {g : Ag} (h : AgQs n S 30 0 g) {k : Nat} (hk : k < n) : (agGet g k).heard.length = cntTo S 30 := by
  have hk' : k < g.mem.length := by rw [h.ag.len]; exact hk
  have hall := h.ag.inv.heard_all hk' (fun w hw => by
    have hS : S w = true := by rw [← h.said w]; exact hw
    have hword := h.ag.inv.words w hw
    simp [isWord] at hword
    refine ⟨by rw [h.ag.len]; exact h.full w hS, ?_⟩
    have e : (((w - 1).toNat : Nat) : Int) + 1 = w := by omega
    have := h.all (w - 1).toNat (by omega) (by rw [e]; exact hS) k hk
    rw [e] at this
    unfold agKnew at this
    rwa [agGet_at hk'] at this)
  rw [agGet_at hk']
  refine cntTo_len (h.ag.inv.mem k hk').nodup (fun w => ?_) (fun w hw => h.ag.inv.words w (by have := h.said w; unfold agSaid at this; rw [this]; exact hw))
  rw [hall w, ← h.said w]; rfl
theorem AgN.alike {n : Nat} {g : Ag} (h : AgN n g) {j k : Nat} (hj : j < n) (hk : k < n) : (agGet g j).heard <+: (agGet g k).heard ∨ (agGet g k).heard <+: (agGet g j).heard := by
  have hj' : j < g.mem.length := by rw [h.len]; exact hj
  have hk' : k < g.mem.length := by rw [h.len]; exact hk
  rw [agGet_at hj', agGet_at hk']
  exact h.inv.alike hj' hk'
theorem begins_of {a b : List Int} (h : a <+: b) : begins a b = true := by
  unfold begins
  rw [Bool.and_eq_true, decide_eq_true_iff]
  refine ⟨h.length_le, ?_⟩
  rw [beq_iff_eq]
  exact List.prefix_iff_eq_take.1 h
theorem AgN.heard_small {n : Nat} {g : Ag} (h : AgN n g) {k : Nat} (hk : k < n) : (agGet g k).heard.length ≤ 30 ∧ ∀ x ∈ (agGet g k).heard, isWord x = true := by
  have hk' : k < g.mem.length := by rw [h.len]; exact hk
  rw [agGet_at hk']
  have hM := h.inv.mem k hk'
  have hw : ∀ x ∈ g.mem[k].heard, isWord x = true := fun x hx => by
    obtain ⟨s, hs, _⟩ := List.mem_map.1 ((hM.has x).2 (.inr hx))
    exact gvOf_word h.inv hs
  refine ⟨distinct_le 30 _ hM.nodup (fun x hx => ?_), hw⟩
  have := hw x hx
  simp [isWord] at this
  omega
end Go.Proofs.YtldmdenojpnldaaDoor
