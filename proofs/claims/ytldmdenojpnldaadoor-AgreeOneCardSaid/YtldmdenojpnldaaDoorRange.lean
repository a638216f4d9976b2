/- A loop over a map that the call made: one entry after the other, whichever comes; entries may be deleted on the way. -/
import Derived.Test.YtldmdenojpnldaaDoorMap
import Derived.Maps.RangeRun
namespace Go.Proofs.YtldmdenojpnldaaDoor
set_option linter.unusedVariables false
set_option linter.unusedSimpArgs false
open Go.RowKit Go.Maps
open Go.ChangeMaps (setBlock)
set_option linter.unusedSectionVars false
section
variable {K : Type} [DecidableEq K] {P : Program} {k : TypeId} {enc : K → Value} {ok : K → Prop}
/-- The keys of the entries that have not come yet. -/
def keysLeft (es : Array MapEntry) (seen : Array Nat) : List Value := (leftOf es seen).toList.map (·.key)
/-- A map at b under a loop whose place is at r: left are the keys that are still to come; last: whether the entry that came last is there yet. -/
def MpIt (enc : K → Value) (ok : K → Prop) (b r : Nat) (m : List (K × Value)) (left : List K) (last : Option K) : HProp :=
  hex fun (x : (Array MapEntry × Nat) × (Nat × Array Nat × Nat)) =>
    pur (MapIs enc ok x.1.1.toList m ∧ Born x.1.1.toList x.1.2 ∧ (∀ e ∈ x.1.1.toList, e.born < x.2.1) ∧ (x.2.1 ≤ x.2.2.2 ∧ x.2.1 ≤ x.1.2) ∧ keysLeft x.1.1 x.2.2.1 = left.map enc ∧ (∀ q ∈ left, ok q) ∧
      ∀ q, last = some q → x.2.2.2 = x.1.2 ∧ ∃ e ∈ x.1.1.toList, e.key = enc q ∧ ∃ s : Array Nat, x.2.2.1 = s.push e.born) *
    (blk b (.map x.1.1 x.1.2) * blk r (.mapIter (some b) x.2.1 x.2.2.1 x.2.2.2))
theorem Own.it_open {w0 w : World} {b r : Nat} {m : List (K × Value)} {left : List K} {last : Option K} {R : HProp} (h : Own w0 (MpIt enc ok b r m left last * R) w) :
    ∃ (es : Array MapEntry) (clock since : Nat) (seen : Array Nat) (st : Nat), (MapIs enc ok es.toList m ∧ Born es.toList clock ∧ (∀ e ∈ es.toList, e.born < since) ∧ (since ≤ st ∧ since ≤ clock) ∧ keysLeft es seen = left.map enc ∧ (∀ q ∈ left, ok q) ∧
      ∀ q, last = some q → st = clock ∧ ∃ e ∈ es.toList, e.key = enc q ∧ ∃ s : Array Nat, seen = s.push e.born) ∧ Own w0 (blk b (.map es clock) * (blk r (.mapIter (some b) since seen st) * R)) w := by
  obtain ⟨⟨⟨es, clock⟩, ⟨since, seen, st⟩⟩, h⟩ := Own.ex h
  rw [star_assoc] at h
  obtain ⟨h1, h2⟩ := Own.pur_out h
  exact ⟨es, clock, since, seen, st, h1, h2.perm (star_assoc _ _ _)⟩
theorem Own.it_close {w0 w : World} {b r : Nat} {m : List (K × Value)} {left : List K} {last : Option K} {R : HProp} {es : Array MapEntry} {clock since : Nat} {seen : Array Nat} {st : Nat}
    (hh : MapIs enc ok es.toList m ∧ Born es.toList clock ∧ (∀ e ∈ es.toList, e.born < since) ∧ (since ≤ st ∧ since ≤ clock) ∧ keysLeft es seen = left.map enc ∧ (∀ q ∈ left, ok q) ∧
      ∀ q, last = some q → st = clock ∧ ∃ e ∈ es.toList, e.key = enc q ∧ ∃ s : Array Nat, seen = s.push e.born)
    (h : Own w0 (blk b (.map es clock) * (blk r (.mapIter (some b) since seen st) * R)) w) : Own w0 (MpIt enc ok b r m left last * R) w := by
  refine Own.ex_mk ((es, clock), (since, seen, st)) ?_
  rw [star_assoc]
  exact Own.pur_mk hh (h.perm (star_assoc _ _ _).symm)
/-- The loop begins. -/
theorem Own.it_range {t e : TypeId} (ht : P.underlying t = some (.map k e)) {w0 w : World} {b : Nat} {m : List (K × Value)} {R : HProp} (h : Own w0 (Mp enc ok b m * R) w) :
    ∃ w', (Instr.range t (.map (some b))).run P w = .ok (.pointer (some ⟨w.heap.size, 0, none⟩)) w' ∧ Own w0 (MpIt enc ok b w.heap.size m (m.map (·.1)) none * R) w' := by
  obtain ⟨es, clock, hm, hbn, ho⟩ := h.map_at
  refine ⟨w.alloc (.mapIter (some b) clock #[] clock), ?_, ?_⟩
  · simp [Instr.range, run_underlying ht, MapKept.run_getObj_map ho.blk_at.1, Result.andThen]
  · refine Own.it_close ⟨hm, hbn, hbn.1, ⟨Nat.le_refl _, Nat.le_refl _⟩, ?_, ?_, fun q hq => by cases hq⟩ ((ho.alloc (.mapIter (some b) clock #[] clock)).perm (star_left_comm _ _ _))
    · unfold keysLeft leftOf
      have e1 : es.filter (fun e => !(#[] : Array Nat).contains e.born) = es := Array.filter_eq_self.2 (fun x _ => by simp)
      rw [e1]
      have := congrArg (List.map Prod.fst) hm.1
      simp only [List.map_map] at this
      rw [List.map_map]
      exact this
    · intro q hq
      obtain ⟨p, hp, rfl⟩ := List.mem_map.1 hq
      exact hm.2.2 p hp
theorem own_setBlock {w0 w : World} {b : Nat} {o o' : Obj} {R : HProp} (h : Own w0 (blk b o * R) w) : Own w0 (blk b o' * R) (setBlock w b o') := by
  refine h.set rfl rfl rfl (by simp [setBlock]) (fun q _ hq => by simp [setBlock, Array.getElem?_setIfInBounds, Ne.symm hq]) ?_
  have := h.lt
  simp [setBlock, this]
theorem filter_corr {α β γ : Type} (f : α → γ) (g : β → γ) (p : α → Bool) (q : β → Bool) : ∀ (A : List α) (B : List β), A.map f = B.map g → (∀ a ∈ A, ∀ b ∈ B, f a = g b → p a = q b) → (A.filter p).map f = (B.filter q).map g
  | [], [], _, _ => rfl
  | [], _ :: _, h, _ => by cases h
  | _ :: _, [], h, _ => by cases h
  | a :: A, b :: B, h, hp => by
    simp only [List.map_cons, List.cons.injEq] at h
    have ih := filter_corr f g p q A B h.2 (fun x hx y hy => hp x (List.mem_cons_of_mem _ hx) y (List.mem_cons_of_mem _ hy))
    have h0 := hp a (by simp) b (by simp) h.1
    simp only [List.filter_cons, h0]
    by_cases hq : q b = true
    · rw [if_pos hq, if_pos hq, List.map_cons, List.map_cons, ih, h.1]
    · rw [if_neg hq, if_neg hq, ih]
theorem same_of {α β : Type} (f : α → β) : ∀ (l : List α), (l.map f).Nodup → ∀ a ∈ l, ∀ b ∈ l, f a = f b → a = b
  | x :: r, hn, a, ha, b, hb, e => by
    simp only [List.map_cons, List.nodup_cons] at hn
    rcases List.mem_cons.1 ha with h1 | h1
    · rcases List.mem_cons.1 hb with h2 | h2
      · rw [h1, h2]
      · exact (hn.1 (List.mem_map.2 ⟨b, h2, by rw [← e, h1]⟩)).elim
    · rcases List.mem_cons.1 hb with h2 | h2
      · exact (hn.1 (List.mem_map.2 ⟨a, h1, by rw [e, h2]⟩)).elim
      · exact same_of f r hn.2 a h1 b h2 e
theorem MapIs.keys (E : KE P k enc ok) {es : List MapEntry} {m : List (K × Value)} (h : MapIs enc ok es m) : es.map (·.key) = (m.map (·.1)).map enc := by
  have := congrArg (List.map Prod.fst) h.1
  rw [List.map_map, List.map_map] at this
  rw [List.map_map]
  exact this
theorem nodup_map_inj {α β : Type} (f : α → β) (hf : ∀ x y, f x = f y → x = y) : ∀ (l : List α), l.Nodup → (l.map f).Nodup
  | [], _ => by simp
  | x :: r, h => by
    simp only [List.nodup_cons] at h
    rw [List.map_cons, List.nodup_cons]
    refine ⟨fun hm => ?_, nodup_map_inj f hf r h.2⟩
    obtain ⟨y, hy, e⟩ := List.mem_map.1 hm
    exact h.1 (hf _ _ e ▸ hy)
theorem MapIs.keys_nodup (E : KE P k enc ok) {es : List MapEntry} {m : List (K × Value)} (h : MapIs enc ok es m) : (es.map (·.key)).Nodup := by
  rw [h.keys E]; exact nodup_map_inj enc E.inj _ h.2.1
theorem mem_leftOf {es : Array MapEntry} {seen : Array Nat} {e : MapEntry} (h : e ∈ (leftOf es seen).toList) : e ∈ es.toList := by
  unfold leftOf at h
  simp at h ⊢
  exact h.1
/-- All but x. -/
def dropKey (left : List K) (x : K) : List K := left.filter fun y => decide (y ≠ x)
theorem mem_dropKey {left : List K} {x y : K} : y ∈ dropKey left x ↔ y ∈ left ∧ y ≠ x := by unfold dropKey; simp
theorem dropKey_lt {left : List K} {x : K} (h : x ∈ left) : (dropKey left x).length < left.length := by
  have h0 : (dropKey left x).length ≤ left.length := List.length_filter_le _ _
  rcases Nat.lt_or_ge (dropKey left x).length left.length with h1 | h1
  · exact h1
  · have := List.length_filter_eq_length_iff.1 (Nat.le_antisymm h0 h1) x h
    simp at this
theorem dropKey_le (left : List K) (x : K) : (dropKey left x).length ≤ left.length := List.length_filter_le _ _
/-- One step. -/
theorem Own.it_next (E : KE P k enc ok) {w0 w : World} {b r : Nat} {m : List (K × Value)} {left : List K} {last : Option K} {R : HProp} (ty : TypeId) (h : Own w0 (MpIt enc ok b r m left last * R) w) :
    (left = [] ∧ (Instr.next (.pointer (some ⟨r, 0, none⟩)) false ty).run P w = .ok (.tuple #[.bool false]) w) ∨
    ∃ x v w', (x, v) ∈ m ∧ x ∈ left ∧ (Instr.next (.pointer (some ⟨r, 0, none⟩)) false ty).run P w = .ok (.tuple #[.bool true, enc x, v]) w' ∧ Own w0 (MpIt enc ok b r m (dropKey left x) (some x) * R) w' := by
  obtain ⟨es, clock, since, seen, st, ⟨hm, hbn, hold, hst, hk, hok, _⟩, ho⟩ := h.it_open
  have hr := (ho.perm (star_left_comm _ _ _)).blk_at.1
  rcases run_next_at (P := P) w ty r b since st seen es clock hr ho.blk_at.1 hold hst.1 with ⟨h0, hrun⟩ | ⟨e, he, w1, hw1, hrun⟩
  · refine .inl ⟨?_, hrun⟩
    have : (keysLeft es seen).length = 0 := by unfold keysLeft; simpa using h0
    rw [hk, List.length_map] at this
    exact List.eq_nil_of_length_eq_zero this
  · have hes := mem_leftOf he
    obtain ⟨j, hj, hje⟩ := List.getElem_of_mem hes
    obtain ⟨x, hx, hkx⟩ := hm.entry (j := j) (e := e) (by rw [List.getElem?_eq_getElem hj, hje])
    have hxl : x ∈ left := by
      have : e.key ∈ keysLeft es seen := List.mem_map.2 ⟨e, he, rfl⟩
      rw [hk] at this
      obtain ⟨y, hy, e2⟩ := List.mem_map.1 this
      rw [hkx] at e2
      exact E.inj _ _ e2 ▸ hy
    have ho1 : Own w0 (blk b (.map es clock) * (blk r (.mapIter (some b) since seen st) * R)) w1 := by
      rcases hw1 with rfl | rfl
      · exact ho
      · exact ho.drew
    refine .inr ⟨x, e.val, setBlock w1 r (.mapIter (some b) since (seen.push e.born) clock), List.mem_of_getElem? hx, hxl, by rw [hkx] at hrun; exact hrun, ?_⟩
    have hkn := hm.keys_nodup E
    refine Own.it_close ⟨hm, hbn, hold, ?_, ?_, fun q hq => hok q (List.mem_filter.1 hq).1, fun q hq => ?_⟩ ((own_setBlock (ho1.perm (star_left_comm _ _ _))).perm (star_left_comm _ _ _))
    · exact ⟨hst.2, hst.2⟩
    · unfold keysLeft leftOf
      have e1 : (Array.filter (fun e' => !(seen.push e.born).contains e'.born) es).toList = ((leftOf es seen).toList).filter (fun e' => decide (e'.born ≠ e.born)) := by
        unfold leftOf
        simp only [Array.toList_filter, List.filter_filter]
        apply List.filter_congr
        intro e' _
        simp only [Array.contains_push]
        by_cases hb : e'.born = e.born <;> simp [hb]
      rw [e1]
      exact filter_corr (fun e' : MapEntry => e'.key) enc _ (fun y => decide (y ≠ x)) (leftOf es seen).toList left hk (fun a ha y hy hay => by
        have haes := mem_leftOf ha
        by_cases hyx : y = x
        · subst hyx
          have : a = e := same_of (fun e' : MapEntry => e'.key) _ hkn a haes e hes (by rw [hay, hkx])
          subst this; simp
        · have : a.born ≠ e.born := fun hb => hyx (by
            have h3 : a = e := same_of (fun e' : MapEntry => e'.born) _ hbn.2 a haes e hes hb
            rw [h3, hkx] at hay
            exact (E.inj _ _ hay).symm)
          simp [hyx, this])
    · cases hq
      exact ⟨rfl, e, hes, hkx, seen, rfl⟩
/-- The entry that came, read again. -/
theorem Own.it_entry (E : KE P k enc ok) {w0 w : World} {b r : Nat} {m : List (K × Value)} {left : List K} {x : K} {v : Value} {R : HProp} (h : Own w0 (MpIt enc ok b r m left (some x) * R) w) (hx : (x, v) ∈ m) :
    (Instr.entry (.pointer (some ⟨r, 0, none⟩))).run P w = .ok (.tuple #[enc x, v]) w := by
  obtain ⟨es, clock, since, seen, st, ⟨hm, hbn, hold, hst, hk, hok, hlast⟩, ho⟩ := h.it_open
  obtain ⟨rfl, e, he, hkx, s, rfl⟩ := hlast x rfl
  have hr := (ho.perm (star_left_comm _ _ _)).blk_at.1
  have hrun := run_entry_at (P := P) w r b since s es st e hr ho.blk_at.1 he hbn.2
  obtain ⟨j, hj, hje⟩ := List.getElem_of_mem he
  obtain ⟨y, hy, hky⟩ := hm.entry (j := j) (e := e) (by rw [List.getElem?_eq_getElem hj, hje])
  have hyx : y = x := E.inj _ _ (hky.symm.trans hkx)
  subst hyx
  have : e.val = v := by
    have := same_of (fun p : K × Value => p.1) _ hm.2.1 _ (List.mem_of_getElem? hy) _ hx rfl
    exact congrArg Prod.snd this
  rw [hkx, this] at hrun
  exact hrun
/-- A key deleted on the way. -/
theorem Own.it_del (E : KE P k enc ok) {t e : TypeId} (ht : P.underlying t = some (.map k e)) {w0 w : World} {b r : Nat} {m : List (K × Value)} {left : List K} {last : Option K} {R : HProp} (ty : TypeId)
    (h : Own w0 (MpIt enc ok b r m left last * R) w) {x : K} (hx : ok x) : ∃ w', (Builtin.delete_ #[t, k] ty #[.map (some b), enc x]).run P w = .ok (.tuple #[]) w' ∧ Own w0 (MpIt enc ok b r (mdel m x) (dropKey left x) none * R) w' := by
  obtain ⟨es, clock, since, seen, st, ⟨hm, hbn, hold, hst, hk, hok, hlast⟩, ho⟩ := h.it_open
  have hb := ho.blk_at.1
  obtain ⟨l, hl⟩ := E.has x hx
  have hset : ∀ o', Own w0 (blk b o' * (blk r (.mapIter (some b) since seen st) * R)) { w with heap := w.heap.setIfInBounds b o' } := fun o' => by
    refine ho.set rfl rfl rfl (by simp) (fun q _ hq => by simp [Array.getElem?_setIfInBounds, Ne.symm hq]) ?_
    have := ho.lt
    simp [this]
  have hkeep : ∀ p ∈ mdel m x, ok p.1 := fun p hp => hm.2.2 p (mem_mdel hp)
  have hkn := hm.keys_nodup E
  rcases hm.find E w hx with ⟨h1, h2, h3⟩ | ⟨j, en, h1, h2, h3, h4⟩
  · refine ⟨_, ?_, Own.it_close (es := es) (clock := clock) ⟨⟨?_, mdel_nodup hm.2.1, hkeep⟩, hbn, hold, hst, ?_, fun q hq => hok q (List.mem_filter.1 hq).1, fun q hq => by cases hq⟩ (hset _)⟩
    · simp [Builtin.delete_, run_underlying ht, MapKept.run_getObj_map hb, E.keyed.check w _ hl, h1, MapKept.run_setObj_map _ hb, Result.andThen]
    · rw [mdel_none h3, hm.1]
    · have : left.filter (fun y => decide (y ≠ x)) = left := by
        rw [List.filter_eq_self]
        intro y hy
        have : enc y ∈ keysLeft es seen := by rw [hk]; exact List.mem_map.2 ⟨y, hy, rfl⟩
        obtain ⟨e', he', hke⟩ := List.mem_map.1 this
        simp only [decide_eq_true_eq]
        rintro rfl
        exact h2 e' (mem_leftOf he') hke
      show keysLeft es seen = List.map enc (left.filter fun y => decide (y ≠ x))
      rw [this]; exact hk
  · have hj : es[j]? = some en := by simpa using h2
    have hjl : j < es.size := (Array.getElem?_eq_some_iff.1 hj).1
    have hel : (es.eraseIdxIfInBounds j).toList = es.toList.eraseIdx j := by rw [Array.eraseIdxIfInBounds, dif_pos hjl, Array.toList_eraseIdx]
    refine ⟨_, ?_, Own.it_close (es := es.eraseIdxIfInBounds j) (clock := clock) ⟨⟨?_, mdel_nodup hm.2.1, hkeep⟩, by rw [hel]; exact born_erase hbn j, fun e' he' => hold e' (by rw [hel] at he'; exact List.mem_of_mem_eraseIdx he'), hst, ?_, fun q hq => hok q (List.mem_filter.1 hq).1, fun q hq => by cases hq⟩ (hset _)⟩
    · simp [Builtin.delete_, run_underlying ht, MapKept.run_getObj_map hb, E.keyed.check w _ hl, h1, MapKept.run_setObj_map _ hb, Result.andThen]
    · rw [mdel_at hm.2.1 h4, hel, Go.ChangeMaps.map_eraseIdx, Go.ChangeMaps.map_eraseIdx, hm.1]
    · have e1 : es.toList.eraseIdx j = es.toList.filter (fun e' => decide (e'.born ≠ en.born)) := by
        have hgen : ∀ (L : List MapEntry) (i : Nat), (L.map (·.born)).Nodup → L[i]? = some en → L.eraseIdx i = L.filter (fun e' => decide (e'.born ≠ en.born)) := by
          intro L
          induction L with
          | nil => intro i _ h; simp at h
          | cons y r ih =>
            intro i hn hi
            simp only [List.map_cons, List.nodup_cons] at hn
            cases i with
            | zero =>
              simp at hi; subst hi
              have : r.filter (fun e' => decide (e'.born ≠ y.born)) = r := by
                rw [List.filter_eq_self]
                intro a ha
                simp only [decide_eq_true_eq]
                exact fun hb => hn.1 (List.mem_map.2 ⟨a, ha, hb⟩)
              rw [List.filter_cons, if_neg (by simp), this]; rfl
            | succ i =>
              simp at hi
              have hne : y.born ≠ en.born := fun hb => hn.1 (List.mem_map.2 ⟨en, List.mem_of_getElem? hi, hb.symm⟩)
              rw [List.eraseIdx_cons_succ, ih i hn.2 hi, List.filter_cons, if_pos (by simpa using hne)]
        exact hgen _ _ hbn.2 h2
      have e2 : keysLeft (es.eraseIdxIfInBounds j) seen = ((leftOf es seen).toList.filter (fun e' => decide (e'.born ≠ en.born))).map (fun e' => e'.key) := by
        unfold keysLeft leftOf
        rw [Array.toList_filter, hel, e1, Array.toList_filter, List.filter_filter, List.filter_filter]
        congr 1
        apply List.filter_congr
        intro a _
        rw [Bool.and_comm]
      rw [e2]
      exact filter_corr (fun e' : MapEntry => e'.key) enc _ (fun y => decide (y ≠ x)) (leftOf es seen).toList left hk (fun a ha y hy hay => by
        have haes := mem_leftOf ha
        have hens : en ∈ es.toList := List.mem_of_getElem? h2
        by_cases hyx : y = x
        · subst hyx
          have : a = en := same_of (fun e' : MapEntry => e'.key) _ hkn a haes en hens (by rw [hay, h3])
          subst this; simp
        · have : a.born ≠ en.born := fun hb => hyx (by
            have h5 : a = en := same_of (fun e' : MapEntry => e'.born) _ hbn.2 a haes en hens hb
            rw [h5, h3] at hay
            exact (E.inj _ _ hay).symm)
          simp [hyx, this])
/-- The loop over: the map alone is kept. -/
theorem Own.it_end {w0 w : World} {b r : Nat} {m : List (K × Value)} {left : List K} {last : Option K} {R : HProp} (h : Own w0 (MpIt enc ok b r m left last * R) w) : Own w0 (Mp enc ok b m * R) w := by
  obtain ⟨es, clock, since, seen, st, ⟨hm, hbn, _⟩, ho⟩ := h.it_open
  exact Own.map_mk hm hbn ((ho.perm (star_left_comm _ _ _)).drop)
/-- A look-up on the way. -/
theorem Own.it_look (E : KE P k enc ok) {t e : TypeId} (ht : P.underlying t = some (.map k e)) {z : Value} (hz : ∀ w, (zeroValue e).run P w = .ok z w) {w0 w : World} {b r : Nat} {m : List (K × Value)} {left : List K} {last : Option K} {R : HProp}
    (h : Own w0 (MpIt enc ok b r m left last * R) w) {x : K} (hx : ok x) (c : Bool) : (Instr.lookup t (.map (some b)) (enc x) c).run P w = .ok (if c then .tuple #[(mget m x).getD z, .bool (mget m x).isSome] else (mget m x).getD z) w :=
  h.it_end.map_look E ht hz hx c
/-- The operations. -/
theorem wpList_range {t e : TypeId} (ht : P.underlying t = some (.map k e)) {ops : Array Oper} {rest : List Oper} {o : Oper} {a : Act} {Q : Exit → Act → World → Prop} {w0 w : World} {b : Nat} {m : List (K × Value)} {R : HProp}
    (hown : Own w0 (Mp enc ok b m * R) w) (hg : o.guard = none) (mo : Operand) (hop : o.op = Op.range t mo) (hm : a.eval mo = .map (some b))
    (hK : ∀ w', Own w0 (MpIt enc ok b w.heap.size m (m.map (·.1)) none * R) w' → wpList P ops Q rest (a.put o.dst (.pointer (some ⟨w.heap.size, 0, none⟩))) w') : wpList P ops Q (o :: rest) a w := by
  refine wpList_plain hg fun K' hK' => ?_
  obtain ⟨w', hrun, ho⟩ := hown.it_range ht
  unfold Oper.wp
  simp [execOp, hop, hm, hrun, Result.andThen]
  exact hK' _ _ (hK w' ho)
theorem wpList_next (E : KE P k enc ok) {ops : Array Oper} {rest : List Oper} {o : Oper} {a : Act} {Q : Exit → Act → World → Prop} {w0 w : World} {b r : Nat} {m : List (K × Value)} {left : List K} {last : Option K} {R : HProp}
    (hown : Own w0 (MpIt enc ok b r m left last * R) w) (hg : o.guard = none) (it : Operand) (hop : o.op = Op.next it false) (hit : a.eval it = .pointer (some ⟨r, 0, none⟩))
    (hD : left = [] → wpList P ops Q rest (a.put o.dst (.tuple #[.bool false])) w)
    (hM : ∀ x v w', (x, v) ∈ m → x ∈ left → (Instr.entry (.pointer (some ⟨r, 0, none⟩))).run P w' = .ok (.tuple #[enc x, v]) w' → Own w0 (MpIt enc ok b r m (dropKey left x) (some x) * R) w' → wpList P ops Q rest (a.put o.dst (.tuple #[.bool true, enc x, v])) w') : wpList P ops Q (o :: rest) a w := by
  refine wpList_plain hg fun K' hK' => ?_
  rcases hown.it_next E o.type with ⟨h1, hrun⟩ | ⟨x, v, w', hx, hl, hrun, ho⟩
  · unfold Oper.wp
    simp [execOp, hop, hit, hrun, Result.andThen]
    exact hK' _ _ (hD h1)
  · unfold Oper.wp
    simp [execOp, hop, hit, hrun, Result.andThen]
    exact hK' _ _ (hM x v w' hx hl (ho.it_entry E hx) ho)
theorem wpList_itdel (E : KE P k enc ok) {t e : TypeId} (ht : P.underlying t = some (.map k e)) {ops : Array Oper} {rest : List Oper} {o : Oper} {a : Act} {Q : Exit → Act → World → Prop} {w0 w : World} {b r : Nat} {m : List (K × Value)} {left : List K} {last : Option K} {R : HProp}
    (hown : Own w0 (MpIt enc ok b r m left last * R) w) {x : K} (hx : ok x)
    (hg : o.guard = none) (mo xo : Operand) (hop : o.op = Op.call { callee := Callee.builtin Builtin.delete, args := #[mo, xo], argTypes := #[t, k] }) (hm : a.eval mo = .map (some b)) (hxo : a.eval xo = enc x)
    (hK : ∀ w', Own w0 (MpIt enc ok b r (mdel m x) (dropKey left x) none * R) w' → wpList P ops Q rest (a.put o.dst (.tuple #[])) w') : wpList P ops Q (o :: rest) a w := by
  refine wpList_plain hg fun K' hK' => ?_
  obtain ⟨w', hrun, ho⟩ := hown.it_del E ht o.type hx
  unfold Oper.wp
  simp [execOp, hop, hm, hxo, resolve, invoke, builtin, hrun, Result.andThen]
  exact hK' _ _ (hK w' ho)
end
end Go.Proofs.YtldmdenojpnldaaDoor
