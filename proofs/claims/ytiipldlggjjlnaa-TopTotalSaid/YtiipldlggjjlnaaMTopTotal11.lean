/- Package agree, plainly, continued: what of a group turns when a stamp is given, when a word is settled; how many words were said. -/
import Derived.Test.YtiipldlggjjlnaaMTopTotal10
import Derived.Test.YtiipldlggjjlnaaMTopTotal2
namespace Go.Proofs.Ytiipldlggjjlnaa
set_option linter.unusedVariables false
set_option linter.unusedSimpArgs false
open Go.RowKit Go.Maps
/-- Was a word said? -/
def agSaid (g : Ag) (w : Int) : Bool := (mget g.given w).isSome
def agKnew (g : Ag) (k : Int) : List Int := (agGet g k).knew
theorem agProp_said (g : Ag) (who w v : Int) : agSaid (agProp g who w) v = agSaid g v := by
  by_cases he : agPropErr g who w = 0
  rotate_left
  · unfold agProp; rw [if_neg he]
  have hs := (agChk0 (agPropErr0 he).1).2.2
  unfold agSaid agProp
  rw [if_pos he]
  show (mget (mput g.given w _) v).isSome = _
  rw [mget_mput]
  by_cases e : w = v
  · subst e; rw [if_pos rfl, hs]; rfl
  · rw [if_neg e]
theorem agSet_said (g : Ag) (who w v : Int) : agSaid (agSet g who w) v = agSaid g v := by unfold agSaid agSet; split <;> rfl
theorem agSet_gv (g : Ag) (who w v : Int) : gvOf (agSet g who w) v = gvOf g v := by unfold gvOf agSet; split <;> rfl
theorem agSet_who (g : Ag) (who w v : Int) : whoOf (agSet g who w) v = whoOf g v := by unfold whoOf agSet; split <;> rfl
theorem agProp_who {g : Ag} {who w : Int} (h : agPropErr g who w = 0) (v : Int) : whoOf (agProp g who w) v = if w = v then whoOf g w ++ [who] else whoOf g v := by
  unfold agProp
  rw [if_pos h]
  show (mget (mput g.who w (whoOf g w ++ [who])) v).getD [] = _
  rw [mget_mput]
  by_cases e : w = v
  · rw [if_pos e, if_pos e]; rfl
  · rw [if_neg e, if_neg e]; rfl
theorem agProp_who_sub {g : Ag} {who w v k : Int} (h : k ∈ whoOf g v) : k ∈ whoOf (agProp g who w) v := by
  by_cases he : agPropErr g who w = 0
  · rw [agProp_who he]
    by_cases e : w = v
    · subst e; rw [if_pos rfl]; exact List.mem_append_left _ h
    · rw [if_neg e]; exact h
  · unfold agProp; rw [if_neg he]; exact h
theorem agProp_who_in {g : Ag} {who w v k : Int} (h : k ∈ whoOf (agProp g who w) v) : k ∈ whoOf g v ∨ (k = who ∧ v = w) := by
  by_cases he : agPropErr g who w = 0
  · rw [agProp_who he] at h
    by_cases e : w = v
    · subst e
      rw [if_pos rfl] at h
      rcases List.mem_append.1 h with h | h
      · exact .inl h
      · exact .inr ⟨List.mem_singleton.1 h, rfl⟩
    · rw [if_neg e] at h; exact .inl h
  · unfold agProp at h; rw [if_neg he] at h; exact .inl h
theorem agGet_set {g : Ag} {L : List AgM} {k : Int} {j : Nat} {m : AgM} (hj : j < g.mem.length) (hL : L = g.mem.set j m) (hk : 0 ≤ k) : L.getD k.toNat ⟨0, [], [], []⟩ = if k = (j : Int) then m else agGet g k := by
  subst hL
  unfold agGet
  rw [List.getD_eq_getElem?_getD, List.getElem?_set, List.getD_eq_getElem?_getD]
  by_cases e : k = (j : Int)
  · subst e
    rw [if_pos (by simp), if_pos hj, if_pos rfl]; rfl
  · rw [if_neg (by omega), if_neg e]
theorem agProp_knew (g : Ag) (who w k : Int) (hk : 0 ≤ k) : agKnew (agProp g who w) k = agKnew g k := by
  by_cases he : agPropErr g who w = 0
  rotate_left
  · unfold agProp; rw [if_neg he]
  obtain ⟨⟨h0, h1⟩, _⟩ := agChk0 (agPropErr0 he).1
  obtain ⟨j, rfl⟩ : ∃ j : Nat, who = (j : Int) := ⟨who.toNat, by omega⟩
  have h2 := agGet_set (g := g) (k := k) (j := j) (m := ⟨(agGet g j).n + 1, mput (agGet g j).waits w (((agGet g j).n + 1, (j : Int)), false), (agGet g j).knew, (agGet g j).heard⟩) (by omega) rfl hk
  have h3 : agGet (agProp g j w) k = (g.mem.set j ⟨(agGet g j).n + 1, mput (agGet g j).waits w (((agGet g j).n + 1, (j : Int)), false), (agGet g j).knew, (agGet g j).heard⟩).getD k.toNat ⟨0, [], [], []⟩ := by
    unfold agProp; rw [if_pos he]; rfl
  unfold agKnew
  rw [h3, h2]
  by_cases e : k = (j : Int)
  · rw [if_pos e, e]
  · rw [if_neg e]
theorem agSet_knew {g : Ag} {who w k : Int} (he : agSetErr g who w = 0) (hk : 0 ≤ k) : agKnew (agSet g who w) k = if k = who then setPut (agKnew g who) w else agKnew g k := by
  obtain ⟨⟨h0, h1⟩, _⟩ := agChk0 (agSetErr0 he).1
  obtain ⟨j, rfl⟩ : ∃ j : Nat, who = (j : Int) := ⟨who.toNat, by omega⟩
  have h2 := agGet_set (g := g) (k := k) (j := j) (m := agHearM (agSetM g (agGet g j) w)) (by omega) rfl hk
  have h3 : agGet (agSet g j w) k = (g.mem.set j (agHearM (agSetM g (agGet g j) w))).getD k.toNat ⟨0, [], [], []⟩ := by
    unfold agSet; rw [if_pos he]; rfl
  unfold agKnew
  rw [h3, h2]
  by_cases e : k = (j : Int)
  · rw [if_pos e, if_pos e]; rfl
  · rw [if_neg e, if_neg e]
theorem agSet_knew_sub {g : Ag} {who w k v : Int} (hk : 0 ≤ k) (h : v ∈ agKnew g k) : v ∈ agKnew (agSet g who w) k := by
  by_cases he : agSetErr g who w = 0
  · rw [agSet_knew he hk]
    by_cases e : k = who
    · subst e; rw [if_pos rfl]; exact mem_setPut.2 (.inl h)
    · rw [if_neg e]; exact h
  · unfold agSet; rw [if_neg he]; exact h
/-- A member that may: a stamp is given, or was. -/
theorem agProp_may {g : Ag} {k : Nat} {w : Int} (hk : k < g.mem.length) (hw : isWord w = true) (hs : agSaid g w = true) : agPropErr g k w = if (k : Int) ∈ whoOf g w then 7 else 0 := by
  have hc : agChk g k w = 0 := by
    unfold agChk
    rw [if_neg (by simp [inR]; omega), if_neg (by rw [hw]; simp), if_neg (by show ¬ agSaid g w = false; rw [hs]; simp)]
  unfold agPropErr
  rw [if_neg (by rw [hc]; simp)]
theorem agProp_in {g : Ag} {k : Nat} {w : Int} (hk : k < g.mem.length) (hw : isWord w = true) (hs : agSaid g w = true) : (k : Int) ∈ whoOf (agProp g k w) w := by
  have h := agProp_may hk hw hs
  by_cases hc : (k : Int) ∈ whoOf g w
  · exact agProp_who_sub hc
  · rw [if_neg hc] at h
    rw [agProp_who h, if_pos rfl]
    exact List.mem_append_right _ (List.mem_singleton.2 rfl)
theorem agProp_no {g : Ag} {k : Nat} {w : Int} (hk : k < g.mem.length) (hw : isWord w = true) (hs : agSaid g w = false) : agPropErr g k w = 5 := by
  have hc : agChk g k w = 5 := by
    unfold agChk
    rw [if_neg (by simp [inR]; omega), if_neg (by rw [hw]; simp), if_pos (show (mget g.given w).isSome = false from hs)]
  unfold agPropErr
  rw [if_pos (by rw [hc]; simp), hc]
theorem agSet_may {g : Ag} {k : Nat} {w : Int} (hk : k < g.mem.length) (hw : isWord w = true) (hs : agSaid g w = true) (hf : (gvOf g w).length = g.mem.length) : agSetErr g k w = if w ∈ agKnew g k then 7 else 0 := by
  have hc : agChk g k w = 0 := by
    unfold agChk
    rw [if_neg (by simp [inR]; omega), if_neg (by rw [hw]; simp), if_neg (by show ¬ agSaid g w = false; rw [hs]; simp)]
  unfold agSetErr
  rw [if_neg (by rw [hc]; simp), if_neg (by omega)]
  rfl
theorem agSet_in {g : Ag} {k : Nat} {w : Int} (hk : k < g.mem.length) (hw : isWord w = true) (hs : agSaid g w = true) (hf : (gvOf g w).length = g.mem.length) : w ∈ agKnew (agSet g k w) k := by
  have h := agSet_may hk hw hs hf
  by_cases hc : w ∈ agKnew g k
  · exact agSet_knew_sub (by omega) hc
  · rw [if_neg hc] at h
    rw [agSet_knew h (by omega), if_pos rfl]
    exact mem_setPut.2 (.inr rfl)
/-- A word of which each is a giver is full. -/
theorem AgI.full_of {g : Ag} (h : AgI g) {w : Int} (hall : ∀ k : Nat, k < g.mem.length → (k : Int) ∈ whoOf g w) : (gvOf g w).length = g.mem.length := by
  have h1 := h.len w
  have h2 : ((List.range g.mem.length).map fun i : Nat => (i : Int)).length ≤ ((gvOf g w).map (·.2)).length := by
    refine (nodup_map_inj (fun i : Nat => (i : Int)) (fun x y e => by have e' : (x : Int) = y := e; omega) _ List.nodup_range).length_le_of_subset ?_
    intro x hx
    obtain ⟨k, hk, rfl⟩ := List.mem_map.1 hx
    rw [← h.whos]
    exact hall k (List.mem_range.1 hk)
  simp at h2
  omega
def cntTo (S : Int → Bool) (n : Nat) : Nat := (List.range n).countP fun i : Nat => S ((i : Int) + 1)
theorem cntTo_next (S : Int → Bool) (n : Nat) : cntTo S (n + 1) = cntTo S n + if S ((n : Int) + 1) then 1 else 0 := by
  unfold cntTo
  rw [List.range_succ, List.countP_append, List.countP_singleton]
theorem cntTo_le (S : Int → Bool) (n : Nat) : cntTo S n ≤ n := by
  unfold cntTo
  have := List.countP_le_length (p := fun i : Nat => S ((i : Int) + 1)) (l := List.range n)
  rwa [List.length_range] at this
/-- So many as were said: a list without doubles of all that was said. -/
theorem cntTo_len {S : Int → Bool} {l : List Int} (hn : l.Nodup) (hl : ∀ w, w ∈ l ↔ S w = true) (hw : ∀ w, S w = true → isWord w = true) : l.length = cntTo S 30 := by
  have hp : l.Perm (((List.range 30).filter fun i : Nat => S ((i : Int) + 1)).map fun i : Nat => (i : Int) + 1) := by
    refine (List.perm_ext_iff_of_nodup hn (nodup_map_inj _ (fun x y e => by have e' : (x : Int) + 1 = y + 1 := e; omega) _ (List.nodup_range.filter _))).2 fun w => ?_
    rw [hl w, List.mem_map]
    constructor
    · intro h
      have h1 := hw w h
      simp [isWord] at h1
      refine ⟨(w - 1).toNat, List.mem_filter.2 ⟨List.mem_range.2 (by omega), ?_⟩, by omega⟩
      rw [show (((w - 1).toNat : Nat) : Int) + 1 = w by omega]; exact h
    · rintro ⟨i, hi, rfl⟩
      exact (List.mem_filter.1 hi).2
  rw [hp.length_eq, List.length_map]
  unfold cntTo
  rw [List.countP_eq_length_filter]
/-! ## The words of AgreeOne's end: stamps for all, all settled -/
structure AgN (n : Nat) (g : Ag) : Prop where
  inv : AgI g
  len : g.mem.length = n
theorem AgN.say {n : Nat} {g : Ag} (h : AgN n g) (w : Int) : AgN n (agSay g w) := ⟨agSay_inv h.inv w, by rw [agSay_mem]; exact h.len⟩
theorem AgN.prop {n : Nat} {g : Ag} (h : AgN n g) (k w : Int) : AgN n (agProp g k w) := ⟨agProp_inv h.inv k w, by rw [agProp_len]; exact h.len⟩
theorem AgN.set {n : Nat} {g : Ag} (h : AgN n g) (k w : Int) : AgN n (agSet g k w) := ⟨agSet_inv h.inv k w, by rw [agSet_len]; exact h.len⟩
theorem AgN.new (n : Nat) : AgN n (agNew n) := ⟨agNew_inv n, by simp [agNew]⟩
/-- All below w have stamps of all; w has those of all below m. -/
structure AgPs (n : Nat) (S : Int → Bool) (w m : Nat) (g : Ag) : Prop where
  ag : AgN n g
  said : ∀ v, agSaid g v = S v
  all : ∀ v : Nat, v < w → S ((v : Int) + 1) = true → ∀ k : Nat, k < n → (k : Int) ∈ whoOf g ((v : Int) + 1)
  now : S ((w : Int) + 1) = true → ∀ k : Nat, k < m → (k : Int) ∈ whoOf g ((w : Int) + 1)
theorem AgPs.step {n : Nat} {S : Int → Bool} {w m : Nat} {g : Ag} (h : AgPs n S w m g) (hw : w < 30) (hm : m < n) : AgPs n S w (m + 1) (agProp g m ((w : Int) + 1)) := by
  refine ⟨h.ag.prop _ _, fun v => by rw [agProp_said]; exact h.said v, fun v hv hs k hk => agProp_who_sub (h.all v hv hs k hk), fun hs k hk => ?_⟩
  by_cases e : k = m
  · subst e
    exact agProp_in (by rw [h.ag.len]; exact hm) (by simp [isWord]; omega) (by rw [h.said]; exact hs)
  · exact agProp_who_sub (h.now hs k (by omega))
theorem AgPs.next {n : Nat} {S : Int → Bool} {w : Nat} {g : Ag} (h : AgPs n S w n g) : AgPs n S (w + 1) 0 g := by
  refine ⟨h.ag, h.said, fun v hv hs k hk => ?_, fun _ k hk => by omega⟩
  by_cases e : v = w
  · subst e; exact h.now hs k hk
  · exact h.all v (by omega) hs k hk
theorem AgPs.skip {n : Nat} {S : Int → Bool} {w m : Nat} {g : Ag} (h : AgPs n S w m g) (hs : S ((w : Int) + 1) = false) : AgPs n S (w + 1) 0 g := by
  refine ⟨h.ag, h.said, fun v hv hs' k hk => ?_, fun _ k hk => by omega⟩
  by_cases e : v = w
  · subst e; rw [hs] at hs'; cases hs'
  · exact h.all v (by omega) hs' k hk
structure AgQs (n : Nat) (S : Int → Bool) (w m : Nat) (g : Ag) : Prop where
  ag : AgN n g
  said : ∀ v, agSaid g v = S v
  full : ∀ v, S v = true → (gvOf g v).length = n
  all : ∀ v : Nat, v < w → S ((v : Int) + 1) = true → ∀ k : Nat, k < n → ((v : Int) + 1) ∈ agKnew g k
  now : S ((w : Int) + 1) = true → ∀ k : Nat, k < m → ((w : Int) + 1) ∈ agKnew g k
theorem AgPs.done {n : Nat} {S : Int → Bool} {g : Ag} (h : AgPs n S 30 0 g) : AgQs n S 0 0 g := by
  refine ⟨h.ag, h.said, fun v hv => ?_, fun v hv => by omega, fun _ k hk => by omega⟩
  have hw := h.ag.inv.words v (by have := h.said v; unfold agSaid at this; rw [this]; exact hv)
  simp [isWord] at hw
  rw [← h.ag.len]
  refine h.ag.inv.full_of fun k hk => ?_
  have e : (((v - 1).toNat : Nat) : Int) + 1 = v := by omega
  have := h.all (v - 1).toNat (by omega) (by rw [e]; exact hv) k (by rw [← h.ag.len]; exact hk)
  rwa [e] at this
theorem AgQs.step {n : Nat} {S : Int → Bool} {w m : Nat} {g : Ag} (h : AgQs n S w m g) (hw : w < 30) (hm : m < n) : AgQs n S w (m + 1) (agSet g m ((w : Int) + 1)) := by
  refine ⟨h.ag.set _ _, fun v => by rw [agSet_said]; exact h.said v, fun v hv => by rw [agSet_gv]; exact h.full v hv, fun v hv hs k hk => agSet_knew_sub (by omega) (h.all v hv hs k hk), fun hs k hk => ?_⟩
  by_cases e : k = m
  · subst e
    exact agSet_in (by rw [h.ag.len]; exact hm) (by simp [isWord]; omega) (by rw [h.said]; exact hs) (by rw [h.ag.len]; exact h.full _ hs)
  · exact agSet_knew_sub (by omega) (h.now hs k (by omega))
theorem AgQs.next {n : Nat} {S : Int → Bool} {w : Nat} {g : Ag} (h : AgQs n S w n g) : AgQs n S (w + 1) 0 g := by
  refine ⟨h.ag, h.said, h.full, fun v hv hs k hk => ?_, fun _ k hk => by omega⟩
  by_cases e : v = w
  · subst e; exact h.now hs k hk
  · exact h.all v (by omega) hs k hk
theorem AgQs.len {n : Nat} {S : Int → Bool} {g : Ag} (h : AgQs n S 30 0 g) {k : Nat} (hk : k < n) : (agGet g k).heard.length = cntTo S 30 := by
  have hk' : k < g.mem.length := by rw [h.ag.len]; exact hk
  have hall := h.ag.inv.heard_all hk' (fun w hw => by
    have hS : S w = true := by rw [← h.said w]; exact hw
    have hword := h.ag.inv.words w hw
    simp [isWord] at hword
    refine ⟨by rw [h.ag.len]; exact h.full w hS, ?_⟩
    have e : (((w - 1).toNat : Nat) : Int) + 1 = w := by omega
    have := h.all (w - 1).toNat (by omega) (by rw [e]; exact hS) k hk
    rw [e] at this
    unfold agKnew at this
    rwa [agGet_at hk'] at this)
  rw [agGet_at hk']
  refine cntTo_len (h.ag.inv.mem k hk').nodup (fun w => ?_) (fun w hw => h.ag.inv.words w (by have := h.said w; unfold agSaid at this; rw [this]; exact hw))
  rw [hall w, ← h.said w]; rfl
theorem AgN.alike {n : Nat} {g : Ag} (h : AgN n g) {j k : Nat} (hj : j < n) (hk : k < n) : (agGet g j).heard <+: (agGet g k).heard ∨ (agGet g k).heard <+: (agGet g j).heard := by
  have hj' : j < g.mem.length := by rw [h.len]; exact hj
  have hk' : k < g.mem.length := by rw [h.len]; exact hk
  rw [agGet_at hj', agGet_at hk']
  exact h.inv.alike hj' hk'
theorem begins_of {a b : List Int} (h : a <+: b) : begins a b = true := by
  unfold begins
  rw [Bool.and_eq_true, decide_eq_true_iff]
  refine ⟨h.length_le, ?_⟩
  rw [beq_iff_eq]
  exact List.prefix_iff_eq_take.1 h
theorem AgN.heard_small {n : Nat} {g : Ag} (h : AgN n g) {k : Nat} (hk : k < n) : (agGet g k).heard.length ≤ 30 ∧ ∀ x ∈ (agGet g k).heard, isWord x = true := by
  have hk' : k < g.mem.length := by rw [h.len]; exact hk
  rw [agGet_at hk']
  have hM := h.inv.mem k hk'
  have hw : ∀ x ∈ g.mem[k].heard, isWord x = true := fun x hx => by
    obtain ⟨s, hs, _⟩ := List.mem_map.1 ((hM.has x).2 (.inr hx))
    exact gvOf_word h.inv hs
  refine ⟨distinct_le 30 _ hM.nodup (fun x hx => ?_), hw⟩
  have := hw x hx
  simp [isWord] at this
  omega
end Go.Proofs.Ytiipldlggjjlnaa
/- AgreeTwo, plainly: two words, to which all give stamps, and which all settle. -/
namespace Go.Proofs.Ytiipldlggjjlnaa
set_option linter.unusedVariables false
set_option linter.unusedSimpArgs false
open Go.RowKit Go.Maps
def isTwo (a b v : Int) : Bool := decide (v = a) || decide (v = b)
structure TwP (n : Nat) (a b : Int) (m : Nat) (g : Ag) : Prop where
  ag : AgN n g
  said : ∀ v, agSaid g v = isTwo a b v
  who : ∀ v k, k ∈ whoOf g v → k < (m : Int)
  has : ∀ k : Nat, k < m → (k : Int) ∈ whoOf g a ∧ (k : Int) ∈ whoOf g b
  knew : ∀ k : Nat, agKnew g k = []
theorem agSay_said {g : Ag} {w : Int} (h : agSayErr g w = 0) (v : Int) : agSaid (agSay g w) v = (decide (v = w) || agSaid g v) := by
  unfold agSaid agSay
  rw [if_pos h]
  show (mget (mput g.given w []) v).isSome = _
  rw [mget_mput]
  by_cases e : w = v
  · subst e; rw [if_pos rfl]; simp
  · rw [if_neg e]
    have e' : ¬ v = w := fun h => e h.symm
    simp [e']
theorem agNew_said (n : Nat) (v : Int) : agSaid (agNew n) v = false := rfl
theorem agSayErr_ok {g : Ag} {w : Int} (hw : isWord w = true) (h : agSaid g w = false) : agSayErr g w = 0 := by
  unfold agSayErr
  rw [if_neg (by rw [hw]; simp), if_neg (by show ¬ agSaid g w = true; rw [h]; simp)]
theorem TwP.start {n : Nat} {a b : Int} (ha : isWord a = true) (hb : isWord b = true) (hab : a ≠ b) :
    agSayErr (agNew n) a = 0 ∧ agSayErr (agSay (agNew n) a) b = 0 ∧ TwP n a b 0 (agSay (agSay (agNew n) a) b) := by
  have h1 := agSayErr_ok (g := agNew n) ha (agNew_said n a)
  have h2 : agSayErr (agSay (agNew n) a) b = 0 := agSayErr_ok hb (by rw [agSay_said h1, agNew_said]; simp; exact fun e => hab e.symm)
  refine ⟨h1, h2, ((AgN.new n).say a).say b, fun v => ?_, fun v k hk => ?_, fun k hk => by omega, fun k => ?_⟩
  · rw [agSay_said h2, agSay_said h1, agNew_said]
    unfold isTwo
    rw [Bool.or_false, Bool.or_comm]
  · unfold whoOf at hk
    rw [agSay_who, agSay_who] at hk
    cases hk
  · unfold agKnew agGet
    rw [agSay_mem, agSay_mem]
    unfold agNew
    simp only
    rw [List.getD_eq_getElem?_getD]
    rcases Nat.lt_or_ge (k : Int).toNat (List.replicate n (⟨0, [], [], []⟩ : AgM)).length with h | h
    · rw [List.getElem?_eq_getElem h]; simp
    · rw [List.getElem?_eq_none h]; rfl
theorem TwP.step {n : Nat} {a b : Int} {m : Nat} {g : Ag} (h : TwP n a b m g) (hm : m < n) (ha : isWord a = true) (hb : isWord b = true) (hab : a ≠ b) {x y : Int} (hxy : (x = a ∧ y = b) ∨ (x = b ∧ y = a)) :
    agPropErr g m x = 0 ∧ agPropErr (agProp g m x) m y = 0 ∧ TwP n a b (m + 1) (agProp (agProp g m x) m y) := by
  have hx : isWord x = true := by rcases hxy with ⟨rfl, _⟩ | ⟨rfl, _⟩ <;> assumption
  have hy : isWord y = true := by rcases hxy with ⟨_, rfl⟩ | ⟨_, rfl⟩ <;> assumption
  have hne : x ≠ y := by
    rcases hxy with ⟨rfl, rfl⟩ | ⟨rfl, rfl⟩
    · exact hab
    · exact fun e => hab e.symm
  have sx : isTwo a b x = true := by unfold isTwo; rcases hxy with ⟨rfl, _⟩ | ⟨rfl, _⟩ <;> simp
  have sy : isTwo a b y = true := by unfold isTwo; rcases hxy with ⟨_, rfl⟩ | ⟨_, rfl⟩ <;> simp
  have hno : ∀ v, (m : Int) ∉ whoOf g v := fun v hc => by have := h.who v _ hc; omega
  have e1 : agPropErr g m x = 0 := by rw [agProp_may (by rw [h.ag.len]; exact hm) hx (by rw [h.said]; exact sx), if_neg (hno x)]
  have hw1 := agProp_who e1
  have e2 : agPropErr (agProp g m x) m y = 0 := by
    rw [agProp_may (by rw [agProp_len, h.ag.len]; exact hm) hy (by rw [agProp_said, h.said]; exact sy), if_neg]
    rw [hw1, if_neg hne]; exact hno y
  have hin1 : (m : Int) ∈ whoOf (agProp (agProp g m x) m y) x := agProp_who_sub (agProp_in (by rw [h.ag.len]; exact hm) hx (by rw [h.said]; exact sx))
  have hin2 : (m : Int) ∈ whoOf (agProp (agProp g m x) m y) y := agProp_in (by rw [agProp_len, h.ag.len]; exact hm) hy (by rw [agProp_said, h.said]; exact sy)
  refine ⟨e1, e2, (h.ag.prop _ _).prop _ _, fun v => by rw [agProp_said, agProp_said]; exact h.said v, fun v k hk => ?_, fun k hk => ?_, fun k => by rw [agProp_knew _ _ _ _ (by omega), agProp_knew _ _ _ _ (by omega)]; exact h.knew k⟩
  · rcases agProp_who_in hk with hk | ⟨rfl, _⟩
    · rcases agProp_who_in hk with hk | ⟨rfl, _⟩
      · have := h.who v k hk; omega
      · omega
    · omega
  · by_cases e : k = m
    · subst e
      rcases hxy with ⟨rfl, rfl⟩ | ⟨rfl, rfl⟩
      · exact ⟨hin1, hin2⟩
      · exact ⟨hin2, hin1⟩
    · have := h.has k (by omega)
      exact ⟨agProp_who_sub (agProp_who_sub this.1), agProp_who_sub (agProp_who_sub this.2)⟩
structure TwS (n : Nat) (a b : Int) (m : Nat) (g : Ag) : Prop where
  ag : AgN n g
  said : ∀ v, agSaid g v = isTwo a b v
  full : ∀ v, isTwo a b v = true → (gvOf g v).length = n
  knew : ∀ k : Nat, k < m → a ∈ agKnew g k ∧ b ∈ agKnew g k
  not : ∀ k : Nat, m ≤ k → agKnew g k = []
theorem TwP.done {n : Nat} {a b : Int} {g : Ag} (h : TwP n a b n g) : TwS n a b 0 g := by
  refine ⟨h.ag, h.said, fun v hv => ?_, fun k hk => by omega, fun k _ => h.knew k⟩
  rw [← h.ag.len]
  refine h.ag.inv.full_of fun k hk => ?_
  rw [h.ag.len] at hk
  unfold isTwo at hv
  simp at hv
  rcases hv with rfl | rfl
  · exact (h.has k hk).1
  · exact (h.has k hk).2
theorem TwS.step {n : Nat} {a b : Int} {m : Nat} {g : Ag} (h : TwS n a b m g) (hm : m < n) (ha : isWord a = true) (hb : isWord b = true) (hab : a ≠ b) :
    agSetErr g m b = 0 ∧ agSetErr (agSet g m b) m a = 0 ∧ TwS n a b (m + 1) (agSet (agSet g m b) m a) := by
  have sa : isTwo a b a = true := by unfold isTwo; simp
  have sb : isTwo a b b = true := by unfold isTwo; simp
  have hml : m < g.mem.length := by rw [h.ag.len]; exact hm
  have e1 : agSetErr g m b = 0 := by
    rw [agSet_may hml hb (by rw [h.said]; exact sb) (by rw [h.ag.len]; exact h.full b sb), h.not m (Nat.le_refl _), if_neg (by simp)]
  have hk1 := fun k hk => agSet_knew (k := k) e1 hk
  have hml2 : m < (agSet g m b).mem.length := by rw [agSet_len]; exact hml
  have hf2 : (gvOf (agSet g m b) a).length = (agSet g m b).mem.length := by rw [agSet_gv, agSet_len, h.ag.len]; exact h.full a sa
  have e2 : agSetErr (agSet g m b) m a = 0 := by
    rw [agSet_may hml2 ha (by rw [agSet_said, h.said]; exact sa) hf2, hk1 m (by omega), if_pos rfl, h.not m (Nat.le_refl _), if_neg]
    rw [mem_setPut]
    simp
    exact hab
  have hk2 := fun k hk => agSet_knew (k := k) e2 hk
  refine ⟨e1, e2, (h.ag.set _ _).set _ _, fun v => by rw [agSet_said, agSet_said]; exact h.said v, fun v hv => by rw [agSet_gv, agSet_gv]; exact h.full v hv, fun k hk => ?_, fun k hk => ?_⟩
  · by_cases e : k = m
    · subst e
      refine ⟨agSet_in hml2 ha (by rw [agSet_said, h.said]; exact sa) hf2, agSet_knew_sub (by omega) (agSet_in hml hb (by rw [h.said]; exact sb) (by rw [h.ag.len]; exact h.full b sb))⟩
    · have := h.knew k (by omega)
      exact ⟨agSet_knew_sub (by omega) (agSet_knew_sub (by omega) this.1), agSet_knew_sub (by omega) (agSet_knew_sub (by omega) this.2)⟩
  · rw [hk2 k (by omega), if_neg (by omega), hk1 k (by omega), if_neg (by omega)]
    exact h.not k (by omega)
theorem TwS.heard {n : Nat} {a b : Int} {g : Ag} (h : TwS n a b n g) (hab : a ≠ b) {k : Nat} (hk : k < n) : (agGet g k).heard.length = 2 := by
  have hk' : k < g.mem.length := by rw [h.ag.len]; exact hk
  have hall := h.ag.inv.heard_all hk' (fun w hw => by
    have hS : isTwo a b w = true := by rw [← h.said w]; exact hw
    refine ⟨by rw [h.ag.len]; exact h.full w hS, ?_⟩
    have := h.knew k hk
    unfold agKnew at this
    rw [agGet_at hk'] at this
    unfold isTwo at hS
    simp at hS
    rcases hS with rfl | rfl
    · exact this.1
    · exact this.2)
  rw [agGet_at hk']
  have hp : g.mem[k].heard.Perm [a, b] := (List.perm_ext_iff_of_nodup (h.ag.inv.mem k hk').nodup (by simp [hab])).2 fun w => by
    rw [hall w]
    show agSaid g w = true ↔ _
    rw [h.said w]
    unfold isTwo
    simp
  exact hp.length_eq
theorem TwS.same {n : Nat} {a b : Int} {g : Ag} (h : TwS n a b n g) (hab : a ≠ b) {j k : Nat} (hj : j < n) (hk : k < n) : (agGet g j).heard = (agGet g k).heard := by
  have h1 := h.heard hab hj
  have h2 := h.heard hab hk
  rcases h.ag.alike hj hk with h3 | h3
  · exact h3.eq_of_length (by omega)
  · exact (h3.eq_of_length (by omega)).symm
end Go.Proofs.Ytiipldlggjjlnaa
/- A map's entry, made and then filled: m[k] = v beside another assignment. -/
namespace Go.Proofs.Ytiipldlggjjlnaa
set_option linter.unusedVariables false
set_option linter.unusedSimpArgs false
open Go.RowKit Go.Maps
set_option linter.unusedSectionVars false
section
variable {K : Type} [DecidableEq K] {P : Program} {k : TypeId} {enc : K → Value} {ok : K → Prop}
theorem Born.find {es : Array MapEntry} {clock : Nat} (h : Born es.toList clock) {j : Nat} {e : MapEntry} (he : es[j]? = some e) : es.findIdx? (fun x => ((x.born : Nat) : Int) == ((e.born : Nat) : Int)) = some j := by
  obtain ⟨hj, rfl⟩ := Array.getElem?_eq_some_iff.1 he
  rw [Array.findIdx?_eq_some_iff_getElem]
  refine ⟨hj, by simp, fun i hij hb => ?_⟩
  have hb2 : es[i].born = es[j].born := Int.ofNat.inj (eq_of_beq hb)
  have hl : ∀ q (hq : q < es.size), (es.toList.map (·.born))[q]'(by simpa using hq) = es[q].born := fun q hq => by simp
  have h1 := List.pairwise_iff_getElem.1 h.2 i j (by simp; omega) (by simpa using hj) hij
  rw [hl i (by omega), hl j hj] at h1
  exact h1 hb2
theorem modify_last {l : List MapEntry} {a : MapEntry} (f : MapEntry → MapEntry) : (l ++ [a]).modify l.length f = l ++ [f a] := by
  apply List.ext_getElem?
  intro i
  rw [List.getElem?_modify]
  by_cases h1 : i < l.length
  · rw [List.getElem?_append_left h1, List.getElem?_append_left h1]
    have : ¬ l.length = i := by omega
    simp [this]
  · by_cases h2 : i = l.length
    · subst h2; simp
    · rw [List.getElem?_append_right (by omega), List.getElem?_append_right (by omega)]
      have : [a][i - l.length]? = none := List.getElem?_eq_none (by simp; omega)
      have h3 : [f a][i - l.length]? = none := List.getElem?_eq_none (by simp; omega)
      rw [this, h3]; rfl
def setO (w : World) (b : Nat) (o : Obj) : World := { w with heap := w.heap.setIfInBounds b o }
theorem Own.map_obj {w0 w : World} {b : Nat} {o : Obj} {R : HProp} (ho : Own w0 (blk b o * R) w) (o' : Obj) : Own w0 (blk b o' * R) (setO w b o') := by
  refine ho.set rfl rfl rfl (by simp [setO]) (fun q _ hq => by simp [setO, Array.getElem?_setIfInBounds, Ne.symm hq]) ?_
  have := ho.lt
  simp [setO, this]
theorem Own.map_entry (E : KE P k enc ok) {t e : TypeId} (ht : P.underlying t = some (.map k e)) {z : Value} (hz : ∀ w, (zeroValue e).run P w = .ok z w) {w0 w : World} {b : Nat} {m : List (K × Value)} {R : HProp}
    (h : Own w0 (Mp enc ok b m * R) w) {x : K} (hx : ok x) (v : Value) : ∃ w1 s, (Instr.mapEntry t (.map (some b)) (enc x)).run P w = .ok (.tuple #[(mget m x).getD z, s]) w1 ∧ ∃ w2, (Instr.entryStore t (.map (some b)) s v).run P w1 = .ok () w2 ∧ Own w0 (Mp enc ok b (mput m x v) * R) w2 := by
  obtain ⟨es, clock, hm, hbn, ho⟩ := h.map_at
  have hb := ho.blk_at.1
  obtain ⟨l, hl⟩ := E.has x hx
  have hkeep : ∀ p ∈ mput m x v, ok p.1 := fun p hp => by
    rcases mem_mput hp with hp | rfl
    · exact hm.2.2 p hp
    · exact hx
  rcases hm.find E w hx with ⟨h1, h2, h3⟩ | ⟨j, en, h1, h2, h3, h4⟩
  · have hg : mget m x = none := mget_none.2 h3
    obtain ⟨es1, he1⟩ : ∃ e1, e1 = es.push ⟨enc x, z, clock⟩ := ⟨_, rfl⟩
    obtain ⟨w1, hw1⟩ : ∃ w1, w1 = setO w b (.map es1 (clock + 1)) := ⟨_, rfl⟩
    have ho1 := ho.map_obj (.map es1 (clock + 1))
    rw [← hw1] at ho1
    have ha : ∀ c : Int, Sem.run P (asIntOf (.int .i64 c)) w1 = .ok (.i64, c) w1 := fun _ => rfl
    have hb1 := ho1.blk_at.1
    have hf : es1.findIdx? (fun y => ((y.born : Nat) : Int) == ((clock : Nat) : Int)) = some es.size := by
      rw [he1]
      exact (born_push hbn (k := enc x) (v := z)).find (e := ⟨enc x, z, clock⟩) (by simp)
    have ho2 := ho1.map_obj (.map (es1.modify es.size (fun e' => { e' with val := v })) (clock + 1))
    have hme : es1.modify es.size (fun e' => { e' with val := v }) = es.push ⟨enc x, v, clock⟩ := by
      rw [he1]
      apply Array.ext'
      rw [Array.toList_modify, Array.toList_push, Array.toList_push]
      exact modify_last _
    refine ⟨w1, .int .i64 clock, ?_, setO w1 b (.map (es.push ⟨enc x, v, clock⟩) (clock + 1)), ?_, Own.map_mk (es := es.push ⟨enc x, v, clock⟩) (clock := clock + 1) ⟨?_, mput_nodup hm.2.1, hkeep⟩ (born_push hbn) (by rw [hme] at ho2; exact ho2)⟩
    · rw [hw1, he1]
      simp [Instr.mapEntry, run_underlying ht, MapKept.run_getObj_map hb, E.keyed.check w _ hl, h1, hz, hg, MapKept.run_setObj_map _ hb, Result.andThen, goInt, setO]
    · rw [← hme]
      simp [Instr.entryStore, MapKept.run_getObj_map hb1, MapKept.run_setObj_map _ hb1, Result.andThen, asInt, ha, hf, setO]
    · rw [mput_new h3, Array.toList_push, List.map_append, List.map_append, hm.1]; rfl
  · have hj : es[j]? = some en := by simpa using h2
    have hg : mget m x = some en.val := mget_at hm.2.1 h4
    obtain ⟨es1, he1⟩ : ∃ e1, e1 = es.modify j (fun e' => { e' with key := enc x }) := ⟨_, rfl⟩
    obtain ⟨w1, hw1⟩ : ∃ w1, w1 = setO w b (.map es1 clock) := ⟨_, rfl⟩
    have ho1 := ho.map_obj (.map es1 clock)
    rw [← hw1] at ho1
    have ha : ∀ c : Int, Sem.run P (asIntOf (.int .i64 c)) w1 = .ok (.i64, c) w1 := fun _ => rfl
    have hb1 := ho1.blk_at.1
    have hbn1 : Born es1.toList clock := by rw [he1, Array.toList_modify]; exact born_modify hbn j _ (fun _ => rfl)
    have hj1 : es1[j]? = some { en with key := enc x } := by rw [he1, Array.getElem?_modify, if_pos rfl, hj]; rfl
    have hf : es1.findIdx? (fun y => ((y.born : Nat) : Int) == ((en.born : Nat) : Int)) = some j := hbn1.find (e := { en with key := enc x }) hj1
    have ho2 := ho1.map_obj (.map (es1.modify j (fun e' => { e' with val := v })) clock)
    have hml : (es1.modify j (fun e' => { e' with val := v })).toList = es.toList.modify j (fun e' => { e' with key := enc x, val := v }) := by
      rw [he1, Array.toList_modify, Array.toList_modify]
      apply List.ext_getElem?
      intro i
      simp only [List.getElem?_modify]
      cases es.toList[i]? with
      | none => simp
      | some y => by_cases h : j = i <;> simp [h]
    refine ⟨w1, .int .i64 en.born, ?_, setO w1 b (.map (es1.modify j (fun e' => { e' with val := v })) clock), ?_, Own.map_mk (es := es1.modify j (fun e' => { e' with val := v })) (clock := clock) ⟨?_, mput_nodup hm.2.1, hkeep⟩ (by rw [Array.toList_modify]; exact born_modify hbn1 j _ (fun _ => rfl)) ho2⟩
    · rw [hw1, he1]
      simp [Instr.mapEntry, run_underlying ht, MapKept.run_getObj_map hb, E.keyed.check w _ hl, h1, hj, h3, E.keyed.stays w hl, hg, MapKept.run_setObj_map _ hb, Result.andThen, goInt, setO]
    · simp [Instr.entryStore, MapKept.run_getObj_map hb1, MapKept.run_setObj_map _ hb1, Result.andThen, asInt, ha, hf, setO]
    · rw [hml, mput_at hm.2.1 h4, Go.ChangeMaps.modify_eq_set _ _ _ _ h2, List.map_set, List.map_set, hm.1]
end
end Go.Proofs.Ytiipldlggjjlnaa
