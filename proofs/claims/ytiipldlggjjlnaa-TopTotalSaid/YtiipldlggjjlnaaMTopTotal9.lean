/- TopTotal, plainly: a history in which all hear the same words in the same order is total, fifo, causal. -/
import Derived.Test.YtiipldlggjjlnaaMTopTotal8
import Derived.Test.YtiipldlggjjlnaaMTopTotal2
import Derived.Maps.RangeRun
namespace Go.Proofs.Ytiipldlggjjlnaa
set_option linter.unusedVariables false
set_option linter.unusedSimpArgs false
open Go.RowKit
def evSay (w : Int) : Ev := (4, 2, w)
def evHear (m : Int) (w : Int) : Ev := (m, 3, w)
def ttSays (all : List Int) : List Ev := all.map evSay
def ttHears (all : List Int) (c : Nat) : List Ev := all.map (evHear 0) ++ (all.map (evHear 1) ++ (all.take c).map (evHear 2))
def ttH (all : List Int) (c : Nat) : List Ev := ttSays all ++ ttHears all c
structure TtW (all : List Int) : Prop where
  nd : all.Nodup
  word : ∀ w ∈ all, isWord w = true
  few : all.length ≤ 10
theorem nodup_ix {α : Type} {l : List α} (hn : l.Nodup) {i j : Nat} (hi : i < l.length) (hj : j < l.length) (e : l[i] = l[j]) : i = j := by
  rw [List.nodup_iff_pairwise_ne, List.pairwise_iff_getElem] at hn
  rcases Nat.lt_trichotomy i j with h | h | h
  · exact absurd e (hn i j hi hj h)
  · exact h
  · exact absurd e.symm (hn j i hj hi h)
theorem heardL_app (a b : List Ev) (who : Int) : heardL (a ++ b) who = heardL a who ++ heardL b who := by
  unfold heardL; rw [List.filter_append, List.map_append]
theorem heardL_hears (l : List Int) (m who : Int) : heardL (l.map (evHear m)) who = if who = m then l else [] := by
  unfold heardL
  split
  · rename_i h
    subst h
    rw [List.filter_eq_self.2 (by intro e he; obtain ⟨w, _, rfl⟩ := List.mem_map.1 he; simp [heardB, evHear]), List.map_map]
    simp [evHear, Function.comp_def]
  · rename_i h
    rw [List.filter_eq_nil_iff.2 (by intro e he; obtain ⟨w, _, rfl⟩ := List.mem_map.1 he; simp [heardB, evHear]; exact decide_eq_false (Ne.symm h))]; rfl
theorem heardL_says (l : List Int) (who : Int) : heardL (ttSays l) who = if who = 4 then l else [] := by
  unfold heardL ttSays
  split
  · rename_i h
    subst h
    rw [List.filter_eq_self.2 (by intro e he; obtain ⟨w, _, rfl⟩ := List.mem_map.1 he; simp [heardB, evSay]), List.map_map]
    simp [evSay, Function.comp_def]
  · rename_i h
    rw [List.filter_eq_nil_iff.2 (by intro e he; obtain ⟨w, _, rfl⟩ := List.mem_map.1 he; simp [heardB, evSay]; exact decide_eq_false (Ne.symm h))]; rfl
theorem ttH_heard (all : List Int) (c : Nat) (who : Int) : ∃ n, heardL (ttH all c) who = all.take n := by
  unfold ttH ttHears
  rw [heardL_app, heardL_app, heardL_app, heardL_says, heardL_hears, heardL_hears, heardL_hears]
  by_cases h4 : who = 4
  · subst h4; exact ⟨all.length, by simp⟩
  by_cases h0 : who = 0
  · subst h0; exact ⟨all.length, by simp⟩
  by_cases h1 : who = 1
  · subst h1; exact ⟨all.length, by simp⟩
  by_cases h2 : who = 2
  · subst h2; exact ⟨c, by simp⟩
  · exact ⟨0, by simp [h4, h0, h1, h2]⟩
theorem mem_ttHears {all : List Int} {c : Nat} {e : Ev} (h : e ∈ ttHears all c) : ∃ m w, e = evHear m w ∧ (m = 0 ∨ m = 1 ∨ m = 2) ∧ w ∈ all := by
  unfold ttHears at h
  rw [List.mem_append, List.mem_append] at h
  rcases h with h | h | h
  · obtain ⟨w, hw, rfl⟩ := List.mem_map.1 h; exact ⟨0, w, rfl, .inl rfl, hw⟩
  · obtain ⟨w, hw, rfl⟩ := List.mem_map.1 h; exact ⟨1, w, rfl, .inr (.inl rfl), hw⟩
  · obtain ⟨w, hw, rfl⟩ := List.mem_map.1 h; exact ⟨2, w, rfl, .inr (.inr rfl), List.mem_of_mem_take hw⟩
theorem evHear_inj (m : Int) : ∀ x y, evHear m x = evHear m y → x = y := fun x y e => by unfold evHear at e; injection e with _ e; injection e
theorem nodup_map_ev {l : List Int} (hn : l.Nodup) (m : Int) : (l.map (evHear m)).Nodup := by
  rw [List.nodup_iff_pairwise_ne] at hn ⊢
  rw [List.pairwise_map]
  exact hn.imp fun h e => h (evHear_inj m _ _ e)
theorem ttHears_nodup {all : List Int} (hn : all.Nodup) (c : Nat) : (ttHears all c).Nodup := by
  unfold ttHears
  have ht : (all.take c).Nodup := hn.sublist (List.take_sublist _ _)
  rw [List.nodup_append, List.nodup_append]
  refine ⟨nodup_map_ev hn 0, ⟨nodup_map_ev hn 1, nodup_map_ev ht 2, ?_⟩, ?_⟩
  · intro a ha b hb e
    obtain ⟨x, _, rfl⟩ := List.mem_map.1 ha
    obtain ⟨y, _, rfl⟩ := List.mem_map.1 hb
    unfold evHear at e; injection e with e; omega
  · intro a ha b hb e
    obtain ⟨x, _, rfl⟩ := List.mem_map.1 ha
    rcases List.mem_append.1 hb with hb | hb
    · obtain ⟨y, _, rfl⟩ := List.mem_map.1 hb
      unfold evHear at e; injection e with e; omega
    · obtain ⟨y, _, rfl⟩ := List.mem_map.1 hb
      unfold evHear at e; injection e with e; omega
theorem ttH_len {all : List Int} (h : all.length ≤ 10) (c : Nat) : (ttH all c).length ≤ 60 := by
  unfold ttH ttSays ttHears
  simp only [List.length_append, List.length_map, List.length_take]
  omega
/-- Nothing is heard but what was said by the fourth. -/
theorem evErr_hear {ahead : List Ev} {m w : Int} (hm : m = 0 ∨ m = 1 ∨ m = 2) (hw : isWord w = true) (hn : evHear m w ∉ ahead) (hs : evSay w ∈ ahead) (h4 : ∀ e ∈ ahead, e.2.1 = 2 → e.1 = 4) : evErr ahead (evHear m w) = 0 := by
  have hmem : isMember m = true := by simp [isMember]; omega
  have hr : rightB (evHear m w) = true := by unfold rightB evHear; simp [hmem, hw]
  have h0 : 0 ≤ saidAt ahead w := (whereI_any _ _).2 (List.any_eq_true.2 ⟨_, hs, by simp [saysB, evSay]⟩)
  have ha : (evAt ahead (saidAt ahead w).toNat).1 = 4 := by
    rcases whereI_cases (saysB w) ahead with ⟨h1, _⟩ | ⟨k, hk, h1, h2, _⟩
    · unfold saidAt at h0; omega
    · unfold saidAt
      rw [h1, Int.toNat_natCast]
      unfold evAt
      rw [List.getD_eq_getElem?_getD, List.getElem?_eq_getElem hk]
      refine h4 _ (List.getElem_mem hk) ?_
      unfold saysB at h2
      simp at h2
      exact h2.1
  unfold evErr
  rw [if_neg (by rw [hr]; simp), if_neg, if_neg, if_neg]
  · intro hc
    have : (evAt ahead (saidAt ahead w).toNat).1 = m := hc.2
    omega
  · intro hc
    have : saidAt ahead w < 0 := hc.2
    omega
  · rintro (⟨hc, _⟩ | ⟨_, hc⟩)
    · simp [evHear] at hc
    · exact hn hc
theorem evErr_say {ahead : List Ev} {w : Int} (hw : isWord w = true) (hn : ∀ e ∈ ahead, e.2.2 ≠ w) : evErr ahead (evSay w) = 0 := by
  have hr : rightB (evSay w) = true := by unfold rightB evSay; simp [hw, isMember]
  have h0 : saidAt ahead w = -1 := by
    rcases whereI_cases (saysB w) ahead with ⟨h1, _⟩ | ⟨k, hk, _, h2, _⟩
    · exact h1
    · unfold saysB at h2
      simp at h2
      exact absurd h2.2 (hn _ (List.getElem_mem hk))
  unfold evErr
  rw [if_neg (by rw [hr]; simp), if_neg, if_neg, if_neg]
  · intro hc; simp [evSay] at hc
  · intro hc; simp [evSay] at hc
  · rintro (⟨_, hc⟩ | ⟨hc, _⟩)
    · have : 0 ≤ saidAt ahead w := hc
      omega
    · simp [evSay] at hc
theorem ttH_right {all : List Int} (h : TtW all) (c : Nat) : RightH (ttH all c) := by
  refine ⟨ttH_len h.few c, fun k hk => ?_⟩
  have hSl : (ttSays all).length = all.length := by unfold ttSays; rw [List.length_map]
  by_cases h1 : k < all.length
  · have e1 : (ttH all c)[k] = evSay all[k] := by
      have : (ttH all c)[k]? = some (evSay all[k]) := by
        unfold ttH
        rw [List.getElem?_append_left (by omega)]
        unfold ttSays
        rw [List.getElem?_map, List.getElem?_eq_getElem h1]; rfl
      rw [List.getElem?_eq_getElem hk] at this
      exact Option.some.inj this
    have e2 : (ttH all c).take k = (all.take k).map evSay := by
      unfold ttH
      rw [List.take_append_of_le_length (by omega)]
      unfold ttSays
      rw [List.map_take]
    rw [e1, e2]
    refine evErr_say (h.word _ (List.getElem_mem h1)) fun e he hc => ?_
    obtain ⟨w, hw, rfl⟩ := List.mem_map.1 he
    obtain ⟨j, hj, rfl⟩ := List.mem_iff_getElem.1 hw
    rw [List.length_take] at hj
    rw [List.getElem_take] at hc
    have hc' : all[j] = all[k] := hc
    have := nodup_ix h.nd _ _ hc'
    omega
  · have hk2 : k - all.length < (ttHears all c).length := by
      unfold ttH at hk
      rw [List.length_append, hSl] at hk
      omega
    obtain ⟨j, hj⟩ : ∃ j, j = k - all.length := ⟨_, rfl⟩
    rw [← hj] at hk2
    have e1 : (ttH all c)[k] = (ttHears all c)[j] := by
      have : (ttH all c)[k]? = some (ttHears all c)[j] := by
        unfold ttH
        rw [List.getElem?_append_right (by omega), hSl, ← hj, List.getElem?_eq_getElem hk2]
      rw [List.getElem?_eq_getElem hk] at this
      exact Option.some.inj this
    have e2 : (ttH all c).take k = ttSays all ++ (ttHears all c).take j := by
      unfold ttH
      rw [List.take_append, List.take_of_length_le (by omega), hSl, hj]
    obtain ⟨m, w, he, hm, hw⟩ := mem_ttHears (List.getElem_mem hk2)
    rw [e1, e2, he]
    refine evErr_hear hm (h.word w hw) ?_ ?_ ?_
    · intro hc
      rcases List.mem_append.1 hc with hc | hc
      · obtain ⟨x, _, e⟩ := List.mem_map.1 (show evHear m w ∈ all.map evSay from hc)
        unfold evSay evHear at e; injection e with _ e; injection e with e _; omega
      · rw [← he] at hc
        obtain ⟨i, hi, e⟩ := List.mem_iff_getElem.1 hc
        rw [List.length_take] at hi
        rw [List.getElem_take] at e
        have := nodup_ix (ttHears_nodup h.nd c) _ _ e
        omega
    · exact List.mem_append_left _ (List.mem_map.2 ⟨w, hw, rfl⟩)
    · intro e he2 h2
      rcases List.mem_append.1 he2 with hc | hc
      · obtain ⟨x, _, rfl⟩ := List.mem_map.1 (show e ∈ all.map evSay from hc); rfl
      · obtain ⟨m', w', rfl, _, _⟩ := mem_ttHears (List.mem_of_mem_take hc)
        simp [evHear] at h2
theorem idx_take {all : List Int} (hn : all.Nodup) {n k : Nat} (hk : k < all.length) (hkn : k < n) : idxI (all.take n) all[k] = k := by
  have hl : k < (all.take n).length := by rw [List.length_take]; omega
  refine idx_mk hl (by rw [List.getElem_take]) fun j hj => ?_
  rw [List.getElem_take]
  intro hc
  have := nodup_ix hn _ _ hc
  omega
theorem ttH_ahead {all : List Int} (h : TtW all) (c : Nat) {i k : Nat} (hi : i < k) (hk : k < all.length) : aheadB (ttH all c) (all[i]'(by omega)) all[k] = true := by
  unfold aheadB
  rw [List.all_eq_true]
  intro e he
  cases hh : hearsB all[k] e
  · rfl
  obtain ⟨n, hn⟩ := ttH_heard all c e.1
  have hmem : all[k] ∈ heardL (ttH all c) e.1 := by
    unfold hearsB at hh
    simp at hh
    unfold heardL
    rw [List.mem_map]
    exact ⟨e, List.mem_filter.2 ⟨he, by simp [heardB, hh.1]⟩, hh.2⟩
  rw [hn] at hmem
  obtain ⟨j, hj, hjk⟩ := List.mem_iff_getElem.1 hmem
  rw [List.length_take] at hj
  rw [List.getElem_take] at hjk
  have e1 := nodup_ix h.nd _ _ hjk
  unfold hasAhead
  rw [hn, idx_take h.nd (by omega) (by omega), idx_take h.nd hk (by omega)]
  simp
  omega
theorem ttH_kind {all : List Int} {c k : Nat} (hk : k < (ttH all c).length) (h2 : (evAt (ttH all c) k).2.1 = 2) : ∃ h : k < all.length, evAt (ttH all c) k = evSay all[k] := by
  have hSl : (ttSays all).length = all.length := by unfold ttSays; rw [List.length_map]
  by_cases h1 : k < all.length
  · refine ⟨h1, ?_⟩
    have : (ttH all c)[k]? = some (evSay all[k]) := by
      unfold ttH
      rw [List.getElem?_append_left (by omega)]
      unfold ttSays
      rw [List.getElem?_map, List.getElem?_eq_getElem h1]; rfl
    unfold evAt
    rw [List.getD_eq_getElem?_getD, this]; rfl
  · exfalso
    have hl : k - all.length < (ttHears all c).length := by
      unfold ttH at hk
      rw [List.length_append, hSl] at hk
      omega
    have : (ttH all c)[k]? = some (ttHears all c)[k - all.length] := by
      unfold ttH
      rw [List.getElem?_append_right (by omega), hSl, List.getElem?_eq_getElem hl]
    obtain ⟨m, w, he, _⟩ := mem_ttHears (List.getElem_mem hl)
    unfold evAt at h2
    rw [List.getD_eq_getElem?_getD, this, he] at h2
    simp [evHear] at h2
theorem ttH_causal {all : List Int} (h : TtW all) (c : Nat) : causalB (ttH all c) = true := by
  unfold causalB
  rw [upTo_iff]
  intro k hk
  rw [upTo_iff]
  intro i hi
  unfold skipB
  by_cases hi2 : (evAt (ttH all c) i).2.1 = 2
  rotate_left
  · simp [hi2]
  by_cases hk2 : (evAt (ttH all c) k).2.1 = 2
  rotate_left
  · simp [hk2]
  obtain ⟨gi, ei⟩ := ttH_kind (by omega) hi2
  obtain ⟨gk, ek⟩ := ttH_kind hk hk2
  rw [ei, ek]
  have := ttH_ahead h c hi gk
  simp [evSay, this]
theorem filter_take {all : List Int} (hn : all.Nodup) (a b : Nat) : (all.take a).filter (fun x => decide (x ∈ all.take b)) = all.take (min a b) := by
  by_cases h : a ≤ b
  · rw [Nat.min_eq_left h, List.filter_eq_self]
    intro x hx
    have : x ∈ all.take b := by
      rw [show a = min a b from (Nat.min_eq_left h).symm, ← List.take_take] at hx
      exact List.mem_of_mem_take hx
    simpa using this
  · have hb : b ≤ a := by omega
    rw [Nat.min_eq_right hb]
    have e : all.take a = all.take b ++ (all.take a).drop b := by
      have := List.take_append_drop b (all.take a)
      rw [List.take_take, Nat.min_eq_left hb] at this
      exact this.symm
    have hn2 : (all.take a).Nodup := hn.sublist (List.take_sublist _ _)
    rw [e] at hn2
    rw [e, List.filter_append, List.filter_eq_self.2 (fun x hx => by simpa using hx), List.filter_eq_nil_iff.2, List.append_nil]
    intro x hx hc
    have hc' : x ∈ all.take b := by simpa using hc
    exact (List.nodup_append.1 hn2).2.2 x hc' x hx rfl
theorem ttH_total {all : List Int} (h : TtW all) (c : Nat) : totalB (ttH all c) = true := by
  unfold totalB totRow
  rw [upTo_iff]
  intro a _
  rw [upTo_iff]
  intro b _
  unfold alikeAt
  obtain ⟨x, hx⟩ := ttH_heard all c (a : Int)
  obtain ⟨y, hy⟩ := ttH_heard all c (b : Int)
  rw [hx, hy]
  unfold alikeB keepB
  rw [filter_take h.nd, filter_take h.nd, Nat.min_comm]
  simp
theorem ttH_faces {all : List Int} (h : TtW all) (c : Nat) : facesErr (ttH all c) = 0 ∧ facesF (ttH all c) = true ∧ facesC (ttH all c) = true ∧ facesT (ttH all c) = true := by
  have h0 : facesErr (ttH all c) = 0 := (histR_ok _).2 (ttH_right h c)
  have hc := ttH_causal h c
  refine ⟨h0, ?_, ?_, ?_⟩
  · unfold facesF; rw [h0, causal_fifo hc]; rfl
  · unfold facesC; rw [h0, hc]; rfl
  · unfold facesT; rw [h0, ttH_total h c]; rfl
end Go.Proofs.Ytiipldlggjjlnaa
/- A loop over a map that the call made: one entry after the other, whichever comes; entries may be deleted on the way. -/
namespace Go.Proofs.Ytiipldlggjjlnaa
set_option linter.unusedVariables false
set_option linter.unusedSimpArgs false
open Go.RowKit Go.Maps
open Go.ChangeMaps (setBlock)
set_option linter.unusedSectionVars false
section
variable {K : Type} [DecidableEq K] {P : Program} {k : TypeId} {enc : K → Value} {ok : K → Prop}
/-- The keys of the entries that have not come yet. -/
def keysLeft (es : Array MapEntry) (seen : Array Nat) : List Value := (leftOf es seen).toList.map (·.key)
/-- A map at b under a loop whose place is at r: left are the keys that are still to come; last: whether the entry that came last is there yet. -/
def MpIt (enc : K → Value) (ok : K → Prop) (b r : Nat) (m : List (K × Value)) (left : List K) (last : Option K) : HProp :=
  hex fun (x : (Array MapEntry × Nat) × (Nat × Array Nat × Nat)) =>
    pur (MapIs enc ok x.1.1.toList m ∧ Born x.1.1.toList x.1.2 ∧ (∀ e ∈ x.1.1.toList, e.born < x.2.1) ∧ (x.2.1 ≤ x.2.2.2 ∧ x.2.1 ≤ x.1.2) ∧ keysLeft x.1.1 x.2.2.1 = left.map enc ∧ (∀ q ∈ left, ok q) ∧
      ∀ q, last = some q → x.2.2.2 = x.1.2 ∧ ∃ e ∈ x.1.1.toList, e.key = enc q ∧ ∃ s : Array Nat, x.2.2.1 = s.push e.born) *
    (blk b (.map x.1.1 x.1.2) * blk r (.mapIter (some b) x.2.1 x.2.2.1 x.2.2.2))
theorem Own.it_open {w0 w : World} {b r : Nat} {m : List (K × Value)} {left : List K} {last : Option K} {R : HProp} (h : Own w0 (MpIt enc ok b r m left last * R) w) :
    ∃ (es : Array MapEntry) (clock since : Nat) (seen : Array Nat) (st : Nat), (MapIs enc ok es.toList m ∧ Born es.toList clock ∧ (∀ e ∈ es.toList, e.born < since) ∧ (since ≤ st ∧ since ≤ clock) ∧ keysLeft es seen = left.map enc ∧ (∀ q ∈ left, ok q) ∧
      ∀ q, last = some q → st = clock ∧ ∃ e ∈ es.toList, e.key = enc q ∧ ∃ s : Array Nat, seen = s.push e.born) ∧ Own w0 (blk b (.map es clock) * (blk r (.mapIter (some b) since seen st) * R)) w := by
  obtain ⟨⟨⟨es, clock⟩, ⟨since, seen, st⟩⟩, h⟩ := Own.ex h
  rw [star_assoc] at h
  obtain ⟨h1, h2⟩ := Own.pur_out h
  exact ⟨es, clock, since, seen, st, h1, h2.perm (star_assoc _ _ _)⟩
theorem Own.it_close {w0 w : World} {b r : Nat} {m : List (K × Value)} {left : List K} {last : Option K} {R : HProp} {es : Array MapEntry} {clock since : Nat} {seen : Array Nat} {st : Nat}
    (hh : MapIs enc ok es.toList m ∧ Born es.toList clock ∧ (∀ e ∈ es.toList, e.born < since) ∧ (since ≤ st ∧ since ≤ clock) ∧ keysLeft es seen = left.map enc ∧ (∀ q ∈ left, ok q) ∧
      ∀ q, last = some q → st = clock ∧ ∃ e ∈ es.toList, e.key = enc q ∧ ∃ s : Array Nat, seen = s.push e.born)
    (h : Own w0 (blk b (.map es clock) * (blk r (.mapIter (some b) since seen st) * R)) w) : Own w0 (MpIt enc ok b r m left last * R) w := by
  refine Own.ex_mk ((es, clock), (since, seen, st)) ?_
  rw [star_assoc]
  exact Own.pur_mk hh (h.perm (star_assoc _ _ _).symm)
/-- The loop begins. -/
theorem Own.it_range {t e : TypeId} (ht : P.underlying t = some (.map k e)) {w0 w : World} {b : Nat} {m : List (K × Value)} {R : HProp} (h : Own w0 (Mp enc ok b m * R) w) :
    ∃ w', (Instr.range t (.map (some b))).run P w = .ok (.pointer (some ⟨w.heap.size, 0, none⟩)) w' ∧ Own w0 (MpIt enc ok b w.heap.size m (m.map (·.1)) none * R) w' := by
  obtain ⟨es, clock, hm, hbn, ho⟩ := h.map_at
  refine ⟨w.alloc (.mapIter (some b) clock #[] clock), ?_, ?_⟩
  · simp [Instr.range, run_underlying ht, MapKept.run_getObj_map ho.blk_at.1, Result.andThen]
  · refine Own.it_close ⟨hm, hbn, hbn.1, ⟨Nat.le_refl _, Nat.le_refl _⟩, ?_, ?_, fun q hq => by cases hq⟩ ((ho.alloc (.mapIter (some b) clock #[] clock)).perm (star_left_comm _ _ _))
    · unfold keysLeft leftOf
      have e1 : es.filter (fun e => !(#[] : Array Nat).contains e.born) = es := Array.filter_eq_self.2 (fun x _ => by simp)
      rw [e1]
      have := congrArg (List.map Prod.fst) hm.1
      simp only [List.map_map] at this
      rw [List.map_map]
      exact this
    · intro q hq
      obtain ⟨p, hp, rfl⟩ := List.mem_map.1 hq
      exact hm.2.2 p hp
theorem own_setBlock {w0 w : World} {b : Nat} {o o' : Obj} {R : HProp} (h : Own w0 (blk b o * R) w) : Own w0 (blk b o' * R) (setBlock w b o') := by
  refine h.set rfl rfl rfl (by simp [setBlock]) (fun q _ hq => by simp [setBlock, Array.getElem?_setIfInBounds, Ne.symm hq]) ?_
  have := h.lt
  simp [setBlock, this]
theorem filter_corr {α β γ : Type} (f : α → γ) (g : β → γ) (p : α → Bool) (q : β → Bool) : ∀ (A : List α) (B : List β), A.map f = B.map g → (∀ a ∈ A, ∀ b ∈ B, f a = g b → p a = q b) → (A.filter p).map f = (B.filter q).map g
  | [], [], _, _ => rfl
  | [], _ :: _, h, _ => by cases h
  | _ :: _, [], h, _ => by cases h
  | a :: A, b :: B, h, hp => by
    simp only [List.map_cons, List.cons.injEq] at h
    have ih := filter_corr f g p q A B h.2 (fun x hx y hy => hp x (List.mem_cons_of_mem _ hx) y (List.mem_cons_of_mem _ hy))
    have h0 := hp a (by simp) b (by simp) h.1
    simp only [List.filter_cons, h0]
    by_cases hq : q b = true
    · rw [if_pos hq, if_pos hq, List.map_cons, List.map_cons, ih, h.1]
    · rw [if_neg hq, if_neg hq, ih]
theorem same_of {α β : Type} (f : α → β) : ∀ (l : List α), (l.map f).Nodup → ∀ a ∈ l, ∀ b ∈ l, f a = f b → a = b
  | x :: r, hn, a, ha, b, hb, e => by
    simp only [List.map_cons, List.nodup_cons] at hn
    rcases List.mem_cons.1 ha with h1 | h1
    · rcases List.mem_cons.1 hb with h2 | h2
      · rw [h1, h2]
      · exact (hn.1 (List.mem_map.2 ⟨b, h2, by rw [← e, h1]⟩)).elim
    · rcases List.mem_cons.1 hb with h2 | h2
      · exact (hn.1 (List.mem_map.2 ⟨a, h1, by rw [e, h2]⟩)).elim
      · exact same_of f r hn.2 a h1 b h2 e
theorem MapIs.keys (E : KE P k enc ok) {es : List MapEntry} {m : List (K × Value)} (h : MapIs enc ok es m) : es.map (·.key) = (m.map (·.1)).map enc := by
  have := congrArg (List.map Prod.fst) h.1
  rw [List.map_map, List.map_map] at this
  rw [List.map_map]
  exact this
theorem nodup_map_inj {α β : Type} (f : α → β) (hf : ∀ x y, f x = f y → x = y) : ∀ (l : List α), l.Nodup → (l.map f).Nodup
  | [], _ => by simp
  | x :: r, h => by
    simp only [List.nodup_cons] at h
    rw [List.map_cons, List.nodup_cons]
    refine ⟨fun hm => ?_, nodup_map_inj f hf r h.2⟩
    obtain ⟨y, hy, e⟩ := List.mem_map.1 hm
    exact h.1 (hf _ _ e ▸ hy)
theorem MapIs.keys_nodup (E : KE P k enc ok) {es : List MapEntry} {m : List (K × Value)} (h : MapIs enc ok es m) : (es.map (·.key)).Nodup := by
  rw [h.keys E]; exact nodup_map_inj enc E.inj _ h.2.1
theorem mem_leftOf {es : Array MapEntry} {seen : Array Nat} {e : MapEntry} (h : e ∈ (leftOf es seen).toList) : e ∈ es.toList := by
  unfold leftOf at h
  simp at h ⊢
  exact h.1
/-- All but x. -/
def dropKey (left : List K) (x : K) : List K := left.filter fun y => decide (y ≠ x)
theorem mem_dropKey {left : List K} {x y : K} : y ∈ dropKey left x ↔ y ∈ left ∧ y ≠ x := by unfold dropKey; simp
theorem dropKey_lt {left : List K} {x : K} (h : x ∈ left) : (dropKey left x).length < left.length := by
  have h0 : (dropKey left x).length ≤ left.length := List.length_filter_le _ _
  rcases Nat.lt_or_ge (dropKey left x).length left.length with h1 | h1
  · exact h1
  · have := List.length_filter_eq_length_iff.1 (Nat.le_antisymm h0 h1) x h
    simp at this
theorem dropKey_le (left : List K) (x : K) : (dropKey left x).length ≤ left.length := List.length_filter_le _ _
/-- One step. -/
theorem Own.it_next (E : KE P k enc ok) {w0 w : World} {b r : Nat} {m : List (K × Value)} {left : List K} {last : Option K} {R : HProp} (ty : TypeId) (h : Own w0 (MpIt enc ok b r m left last * R) w) :
    (left = [] ∧ (Instr.next (.pointer (some ⟨r, 0, none⟩)) false ty).run P w = .ok (.tuple #[.bool false]) w) ∨
    ∃ x v w', (x, v) ∈ m ∧ x ∈ left ∧ (Instr.next (.pointer (some ⟨r, 0, none⟩)) false ty).run P w = .ok (.tuple #[.bool true, enc x, v]) w' ∧ Own w0 (MpIt enc ok b r m (dropKey left x) (some x) * R) w' := by
  obtain ⟨es, clock, since, seen, st, ⟨hm, hbn, hold, hst, hk, hok, _⟩, ho⟩ := h.it_open
  have hr := (ho.perm (star_left_comm _ _ _)).blk_at.1
  rcases run_next_at (P := P) w ty r b since st seen es clock hr ho.blk_at.1 hold hst.1 with ⟨h0, hrun⟩ | ⟨e, he, w1, hw1, hrun⟩
  · refine .inl ⟨?_, hrun⟩
    have : (keysLeft es seen).length = 0 := by unfold keysLeft; simpa using h0
    rw [hk, List.length_map] at this
    exact List.eq_nil_of_length_eq_zero this
  · have hes := mem_leftOf he
    obtain ⟨j, hj, hje⟩ := List.getElem_of_mem hes
    obtain ⟨x, hx, hkx⟩ := hm.entry (j := j) (e := e) (by rw [List.getElem?_eq_getElem hj, hje])
    have hxl : x ∈ left := by
      have : e.key ∈ keysLeft es seen := List.mem_map.2 ⟨e, he, rfl⟩
      rw [hk] at this
      obtain ⟨y, hy, e2⟩ := List.mem_map.1 this
      rw [hkx] at e2
      exact E.inj _ _ e2 ▸ hy
    have ho1 : Own w0 (blk b (.map es clock) * (blk r (.mapIter (some b) since seen st) * R)) w1 := by
      rcases hw1 with rfl | rfl
      · exact ho
      · exact ho.drew
    refine .inr ⟨x, e.val, setBlock w1 r (.mapIter (some b) since (seen.push e.born) clock), List.mem_of_getElem? hx, hxl, by rw [hkx] at hrun; exact hrun, ?_⟩
    have hkn := hm.keys_nodup E
    refine Own.it_close ⟨hm, hbn, hold, ?_, ?_, fun q hq => hok q (List.mem_filter.1 hq).1, fun q hq => ?_⟩ ((own_setBlock (ho1.perm (star_left_comm _ _ _))).perm (star_left_comm _ _ _))
    · exact ⟨hst.2, hst.2⟩
    · unfold keysLeft leftOf
      have e1 : (Array.filter (fun e' => !(seen.push e.born).contains e'.born) es).toList = ((leftOf es seen).toList).filter (fun e' => decide (e'.born ≠ e.born)) := by
        unfold leftOf
        simp only [Array.toList_filter, List.filter_filter]
        apply List.filter_congr
        intro e' _
        simp only [Array.contains_push]
        by_cases hb : e'.born = e.born <;> simp [hb]
      rw [e1]
      exact filter_corr (fun e' : MapEntry => e'.key) enc _ (fun y => decide (y ≠ x)) (leftOf es seen).toList left hk (fun a ha y hy hay => by
        have haes := mem_leftOf ha
        by_cases hyx : y = x
        · subst hyx
          have : a = e := same_of (fun e' : MapEntry => e'.key) _ hkn a haes e hes (by rw [hay, hkx])
          subst this; simp
        · have : a.born ≠ e.born := fun hb => hyx (by
            have h3 : a = e := same_of (fun e' : MapEntry => e'.born) _ hbn.2 a haes e hes hb
            rw [h3, hkx] at hay
            exact (E.inj _ _ hay).symm)
          simp [hyx, this])
    · cases hq
      exact ⟨rfl, e, hes, hkx, seen, rfl⟩
/-- The entry that came, read again. -/
theorem Own.it_entry (E : KE P k enc ok) {w0 w : World} {b r : Nat} {m : List (K × Value)} {left : List K} {x : K} {v : Value} {R : HProp} (h : Own w0 (MpIt enc ok b r m left (some x) * R) w) (hx : (x, v) ∈ m) :
    (Instr.entry (.pointer (some ⟨r, 0, none⟩))).run P w = .ok (.tuple #[enc x, v]) w := by
  obtain ⟨es, clock, since, seen, st, ⟨hm, hbn, hold, hst, hk, hok, hlast⟩, ho⟩ := h.it_open
  obtain ⟨rfl, e, he, hkx, s, rfl⟩ := hlast x rfl
  have hr := (ho.perm (star_left_comm _ _ _)).blk_at.1
  have hrun := run_entry_at (P := P) w r b since s es st e hr ho.blk_at.1 he hbn.2
  obtain ⟨j, hj, hje⟩ := List.getElem_of_mem he
  obtain ⟨y, hy, hky⟩ := hm.entry (j := j) (e := e) (by rw [List.getElem?_eq_getElem hj, hje])
  have hyx : y = x := E.inj _ _ (hky.symm.trans hkx)
  subst hyx
  have : e.val = v := by
    have := same_of (fun p : K × Value => p.1) _ hm.2.1 _ (List.mem_of_getElem? hy) _ hx rfl
    exact congrArg Prod.snd this
  rw [hkx, this] at hrun
  exact hrun
/-- A key deleted on the way. -/
theorem Own.it_del (E : KE P k enc ok) {t e : TypeId} (ht : P.underlying t = some (.map k e)) {w0 w : World} {b r : Nat} {m : List (K × Value)} {left : List K} {last : Option K} {R : HProp} (ty : TypeId)
    (h : Own w0 (MpIt enc ok b r m left last * R) w) {x : K} (hx : ok x) : ∃ w', (Builtin.delete_ #[t, k] ty #[.map (some b), enc x]).run P w = .ok (.tuple #[]) w' ∧ Own w0 (MpIt enc ok b r (mdel m x) (dropKey left x) none * R) w' := by
  obtain ⟨es, clock, since, seen, st, ⟨hm, hbn, hold, hst, hk, hok, hlast⟩, ho⟩ := h.it_open
  have hb := ho.blk_at.1
  obtain ⟨l, hl⟩ := E.has x hx
  have hset : ∀ o', Own w0 (blk b o' * (blk r (.mapIter (some b) since seen st) * R)) { w with heap := w.heap.setIfInBounds b o' } := fun o' => by
    refine ho.set rfl rfl rfl (by simp) (fun q _ hq => by simp [Array.getElem?_setIfInBounds, Ne.symm hq]) ?_
    have := ho.lt
    simp [this]
  have hkeep : ∀ p ∈ mdel m x, ok p.1 := fun p hp => hm.2.2 p (mem_mdel hp)
  have hkn := hm.keys_nodup E
  rcases hm.find E w hx with ⟨h1, h2, h3⟩ | ⟨j, en, h1, h2, h3, h4⟩
  · refine ⟨_, ?_, Own.it_close (es := es) (clock := clock) ⟨⟨?_, mdel_nodup hm.2.1, hkeep⟩, hbn, hold, hst, ?_, fun q hq => hok q (List.mem_filter.1 hq).1, fun q hq => by cases hq⟩ (hset _)⟩
    · simp [Builtin.delete_, run_underlying ht, MapKept.run_getObj_map hb, E.keyed.check w _ hl, h1, MapKept.run_setObj_map _ hb, Result.andThen]
    · rw [mdel_none h3, hm.1]
    · have : left.filter (fun y => decide (y ≠ x)) = left := by
        rw [List.filter_eq_self]
        intro y hy
        have : enc y ∈ keysLeft es seen := by rw [hk]; exact List.mem_map.2 ⟨y, hy, rfl⟩
        obtain ⟨e', he', hke⟩ := List.mem_map.1 this
        simp only [decide_eq_true_eq]
        rintro rfl
        exact h2 e' (mem_leftOf he') hke
      show keysLeft es seen = List.map enc (left.filter fun y => decide (y ≠ x))
      rw [this]; exact hk
  · have hj : es[j]? = some en := by simpa using h2
    have hjl : j < es.size := (Array.getElem?_eq_some_iff.1 hj).1
    have hel : (es.eraseIdxIfInBounds j).toList = es.toList.eraseIdx j := by rw [Array.eraseIdxIfInBounds, dif_pos hjl, Array.toList_eraseIdx]
    refine ⟨_, ?_, Own.it_close (es := es.eraseIdxIfInBounds j) (clock := clock) ⟨⟨?_, mdel_nodup hm.2.1, hkeep⟩, by rw [hel]; exact born_erase hbn j, fun e' he' => hold e' (by rw [hel] at he'; exact List.mem_of_mem_eraseIdx he'), hst, ?_, fun q hq => hok q (List.mem_filter.1 hq).1, fun q hq => by cases hq⟩ (hset _)⟩
    · simp [Builtin.delete_, run_underlying ht, MapKept.run_getObj_map hb, E.keyed.check w _ hl, h1, MapKept.run_setObj_map _ hb, Result.andThen]
    · rw [mdel_at hm.2.1 h4, hel, Go.ChangeMaps.map_eraseIdx, Go.ChangeMaps.map_eraseIdx, hm.1]
    · have e1 : es.toList.eraseIdx j = es.toList.filter (fun e' => decide (e'.born ≠ en.born)) := by
        have hgen : ∀ (L : List MapEntry) (i : Nat), (L.map (·.born)).Nodup → L[i]? = some en → L.eraseIdx i = L.filter (fun e' => decide (e'.born ≠ en.born)) := by
          intro L
          induction L with
          | nil => intro i _ h; simp at h
          | cons y r ih =>
            intro i hn hi
            simp only [List.map_cons, List.nodup_cons] at hn
            cases i with
            | zero =>
              simp at hi; subst hi
              have : r.filter (fun e' => decide (e'.born ≠ y.born)) = r := by
                rw [List.filter_eq_self]
                intro a ha
                simp only [decide_eq_true_eq]
                exact fun hb => hn.1 (List.mem_map.2 ⟨a, ha, hb⟩)
              rw [List.filter_cons, if_neg (by simp), this]; rfl
            | succ i =>
              simp at hi
              have hne : y.born ≠ en.born := fun hb => hn.1 (List.mem_map.2 ⟨en, List.mem_of_getElem? hi, hb.symm⟩)
              rw [List.eraseIdx_cons_succ, ih i hn.2 hi, List.filter_cons, if_pos (by simpa using hne)]
        exact hgen _ _ hbn.2 h2
      have e2 : keysLeft (es.eraseIdxIfInBounds j) seen = ((leftOf es seen).toList.filter (fun e' => decide (e'.born ≠ en.born))).map (fun e' => e'.key) := by
        unfold keysLeft leftOf
        rw [Array.toList_filter, hel, e1, Array.toList_filter, List.filter_filter, List.filter_filter]
        congr 1
        apply List.filter_congr
        intro a _
        rw [Bool.and_comm]
      rw [e2]
      exact filter_corr (fun e' : MapEntry => e'.key) enc _ (fun y => decide (y ≠ x)) (leftOf es seen).toList left hk (fun a ha y hy hay => by
        have haes := mem_leftOf ha
        have hens : en ∈ es.toList := List.mem_of_getElem? h2
        by_cases hyx : y = x
        · subst hyx
          have : a = en := same_of (fun e' : MapEntry => e'.key) _ hkn a haes en hens (by rw [hay, h3])
          subst this; simp
        · have : a.born ≠ en.born := fun hb => hyx (by
            have h5 : a = en := same_of (fun e' : MapEntry => e'.born) _ hbn.2 a haes en hens hb
            rw [h5, h3] at hay
            exact (E.inj _ _ hay).symm)
          simp [hyx, this])
/-- The loop over: the map alone is kept. -/
theorem Own.it_end {w0 w : World} {b r : Nat} {m : List (K × Value)} {left : List K} {last : Option K} {R : HProp} (h : Own w0 (MpIt enc ok b r m left last * R) w) : Own w0 (Mp enc ok b m * R) w := by
  obtain ⟨es, clock, since, seen, st, ⟨hm, hbn, _⟩, ho⟩ := h.it_open
  exact Own.map_mk hm hbn ((ho.perm (star_left_comm _ _ _)).drop)
/-- A look-up on the way. -/
theorem Own.it_look (E : KE P k enc ok) {t e : TypeId} (ht : P.underlying t = some (.map k e)) {z : Value} (hz : ∀ w, (zeroValue e).run P w = .ok z w) {w0 w : World} {b r : Nat} {m : List (K × Value)} {left : List K} {last : Option K} {R : HProp}
    (h : Own w0 (MpIt enc ok b r m left last * R) w) {x : K} (hx : ok x) (c : Bool) : (Instr.lookup t (.map (some b)) (enc x) c).run P w = .ok (if c then .tuple #[(mget m x).getD z, .bool (mget m x).isSome] else (mget m x).getD z) w :=
  h.it_end.map_look E ht hz hx c
/-- The operations. -/
theorem wpList_range {t e : TypeId} (ht : P.underlying t = some (.map k e)) {ops : Array Oper} {rest : List Oper} {o : Oper} {a : Act} {Q : Exit → Act → World → Prop} {w0 w : World} {b : Nat} {m : List (K × Value)} {R : HProp}
    (hown : Own w0 (Mp enc ok b m * R) w) (hg : o.guard = none) (mo : Operand) (hop : o.op = Op.range t mo) (hm : a.eval mo = .map (some b))
    (hK : ∀ w', Own w0 (MpIt enc ok b w.heap.size m (m.map (·.1)) none * R) w' → wpList P ops Q rest (a.put o.dst (.pointer (some ⟨w.heap.size, 0, none⟩))) w') : wpList P ops Q (o :: rest) a w := by
  refine wpList_plain hg fun K' hK' => ?_
  obtain ⟨w', hrun, ho⟩ := hown.it_range ht
  unfold Oper.wp
  simp [execOp, hop, hm, hrun, Result.andThen]
  exact hK' _ _ (hK w' ho)
theorem wpList_next (E : KE P k enc ok) {ops : Array Oper} {rest : List Oper} {o : Oper} {a : Act} {Q : Exit → Act → World → Prop} {w0 w : World} {b r : Nat} {m : List (K × Value)} {left : List K} {last : Option K} {R : HProp}
    (hown : Own w0 (MpIt enc ok b r m left last * R) w) (hg : o.guard = none) (it : Operand) (hop : o.op = Op.next it false) (hit : a.eval it = .pointer (some ⟨r, 0, none⟩))
    (hD : left = [] → wpList P ops Q rest (a.put o.dst (.tuple #[.bool false])) w)
    (hM : ∀ x v w', (x, v) ∈ m → x ∈ left → (Instr.entry (.pointer (some ⟨r, 0, none⟩))).run P w' = .ok (.tuple #[enc x, v]) w' → Own w0 (MpIt enc ok b r m (dropKey left x) (some x) * R) w' → wpList P ops Q rest (a.put o.dst (.tuple #[.bool true, enc x, v])) w') : wpList P ops Q (o :: rest) a w := by
  refine wpList_plain hg fun K' hK' => ?_
  rcases hown.it_next E o.type with ⟨h1, hrun⟩ | ⟨x, v, w', hx, hl, hrun, ho⟩
  · unfold Oper.wp
    simp [execOp, hop, hit, hrun, Result.andThen]
    exact hK' _ _ (hD h1)
  · unfold Oper.wp
    simp [execOp, hop, hit, hrun, Result.andThen]
    exact hK' _ _ (hM x v w' hx hl (ho.it_entry E hx) ho)
theorem wpList_itdel (E : KE P k enc ok) {t e : TypeId} (ht : P.underlying t = some (.map k e)) {ops : Array Oper} {rest : List Oper} {o : Oper} {a : Act} {Q : Exit → Act → World → Prop} {w0 w : World} {b r : Nat} {m : List (K × Value)} {left : List K} {last : Option K} {R : HProp}
    (hown : Own w0 (MpIt enc ok b r m left last * R) w) {x : K} (hx : ok x)
    (hg : o.guard = none) (mo xo : Operand) (hop : o.op = Op.call { callee := Callee.builtin Builtin.delete, args := #[mo, xo], argTypes := #[t, k] }) (hm : a.eval mo = .map (some b)) (hxo : a.eval xo = enc x)
    (hK : ∀ w', Own w0 (MpIt enc ok b r (mdel m x) (dropKey left x) none * R) w' → wpList P ops Q rest (a.put o.dst (.tuple #[])) w') : wpList P ops Q (o :: rest) a w := by
  refine wpList_plain hg fun K' hK' => ?_
  obtain ⟨w', hrun, ho⟩ := hown.it_del E ht o.type hx
  unfold Oper.wp
  simp [execOp, hop, hm, hxo, resolve, invoke, builtin, hrun, Result.andThen]
  exact hK' _ _ (hK w' ho)
end
end Go.Proofs.Ytiipldlggjjlnaa
