/- A loop over a map that the call made: one entry after the other, whichever comes; entries may be deleted on the way. -/
import Derived.Test.YtpgonkecicmanaaDoorMAgreePlays2
import Derived.Maps.RangeRun
namespace Go.Proofs.YtpgonkecicmanaaDoor
set_option linter.unusedVariables false
set_option linter.unusedSimpArgs false
open Go.RowKit Go.Maps
open Go.ChangeMaps (setBlock)
set_option linter.unusedSectionVars false
section
variable {K : Type} [DecidableEq K] {P : Program} {k : TypeId} {enc : K → Value} {ok : K → Prop}
/-- The keys of the entries that have not come yet. -/
def keysLeft (es : Array MapEntry) (seen : Array Nat) : List Value := (leftOf es seen).toList.map (·.key)
/-- A map at b under a loop whose place is at r: left are the keys that are still to come; last: whether the entry that came last is there yet. -/
def MpIt (enc : K → Value) (ok : K → Prop) (b r : Nat) (m : List (K × Value)) (left : List K) (last : Option K) : HProp :=
  hex fun (x : (Array MapEntry × Nat) × (Nat × Array Nat × Nat)) =>
    pur (MapIs enc ok x.1.1.toList m ∧ Born x.1.1.toList x.1.2 ∧ (∀ e ∈ x.1.1.toList, e.born < x.2.1) ∧ (x.2.1 ≤ x.2.2.2 ∧ x.2.1 ≤ x.1.2) ∧ keysLeft x.1.1 x.2.2.1 = left.map enc ∧ (∀ q ∈ left, ok q) ∧
      ∀ q, last = some q → x.2.2.2 = x.1.2 ∧ ∃ e ∈ x.1.1.toList, e.key = enc q ∧ ∃ s : Array Nat, x.2.2.1 = s.push e.born) *
    (blk b (.map x.1.1 x.1.2) * blk r (.mapIter (some b) x.2.1 x.2.2.1 x.2.2.2))
theorem Own.it_open {w0 w : World} {b r : Nat} {m : List (K × Value)} {left : List K} {last : Option K} {R : HProp} (h : Own w0 (MpIt enc ok b r m left last * R) w) :
    ∃ (es : Array MapEntry) (clock since : Nat) (seen : Array Nat) (st : Nat), (MapIs enc ok es.toList m ∧ Born es.toList clock ∧ (∀ e ∈ es.toList, e.born < since) ∧ (since ≤ st ∧ since ≤ clock) ∧ keysLeft es seen = left.map enc ∧ (∀ q ∈ left, ok q) ∧
      ∀ q, last = some q → st = clock ∧ ∃ e ∈ es.toList, e.key = enc q ∧ ∃ s : Array Nat, seen = s.push e.born) ∧ Own w0 (blk b (.map es clock) * (blk r (.mapIter (some b) since seen st) * R)) w := by
  obtain ⟨⟨⟨es, clock⟩, ⟨since, seen, st⟩⟩, h⟩ := Own.ex h
  rw [star_assoc] at h
  obtain ⟨h1, h2⟩ := Own.pur_out h
  exact ⟨es, clock, since, seen, st, h1, h2.perm (star_assoc _ _ _)⟩
theorem Own.it_close {w0 w : World} {b r : Nat} {m : List (K × Value)} {left : List K} {last : Option K} {R : HProp} {es : Array MapEntry} {clock since : Nat} {seen : Array Nat} {st : Nat}
    (hh : MapIs enc ok es.toList m ∧ Born es.toList clock ∧ (∀ e ∈ es.toList, e.born < since) ∧ (since ≤ st ∧ since ≤ clock) ∧ keysLeft es seen = left.map enc ∧ (∀ q ∈ left, ok q) ∧
      ∀ q, last = some q → st = clock ∧ ∃ e ∈ es.toList, e.key = enc q ∧ ∃ s : Array Nat, seen = s.push e.born)
    (h : Own w0 (blk b (.map es clock) * (blk r (.mapIter (some b) since seen st) * R)) w) : Own w0 (MpIt enc ok b r m left last * R) w := by
  refine Own.ex_mk ((es, clock), (since, seen, st)) ?_
  rw [star_assoc]
  exact Own.pur_mk hh (h.perm (star_assoc _ _ _).symm)
/-- The loop begins. -/
theorem Own.it_range {t e : TypeId} (ht : P.underlying t = some (.map k e)) {w0 w : World} {b : Nat} {m : List (K × Value)} {R : HProp} (h : Own w0 (Mp enc ok b m * R) w) :
    ∃ w', (Instr.range t (.map (some b))).run P w = .ok (.pointer (some ⟨w.heap.size, 0, none⟩)) w' ∧ Own w0 (MpIt enc ok b w.heap.size m (m.map (·.1)) none * R) w' := by
  obtain ⟨es, clock, hm, hbn, ho⟩ := h.map_at
  refine ⟨w.alloc (.mapIter (some b) clock #[] clock), ?_, ?_⟩
  · simp [Instr.range, run_underlying ht, MapKept.run_getObj_map ho.blk_at.1, Result.andThen]
  · refine Own.it_close ⟨hm, hbn, hbn.1, ⟨Nat.le_refl _, Nat.le_refl _⟩, ?_, ?_, fun q hq => by cases hq⟩ ((ho.alloc (.mapIter (some b) clock #[] clock)).perm (star_left_comm _ _ _))
    · unfold keysLeft leftOf
      have e1 : es.filter (fun e => !(#[] : Array Nat).contains e.born) = es := Array.filter_eq_self.2 (fun x _ => by simp)
      rw [e1]
      have := congrArg (List.map Prod.fst) hm.1
      simp only [List.map_map] at this
      rw [List.map_map]
      exact this
    · intro q hq
      obtain ⟨p, hp, rfl⟩ := List.mem_map.1 hq
      exact hm.2.2 p hp
theorem own_setBlock {w0 w : World} {b : Nat} {o o' : Obj} {R : HProp} (h : Own w0 (blk b o * R) w) : Own w0 (blk b o' * R) (setBlock w b o') := by
  refine h.set rfl rfl rfl (by simp [setBlock]) (fun q _ hq => by simp [setBlock, Array.getElem?_setIfInBounds, Ne.symm hq]) ?_
  have := h.lt
  simp [setBlock, this]
theorem filter_corr {α β γ : Type} (f : α → γ) (g : β → γ) (p : α → Bool) (q : β → Bool) : ∀ (A : List α) (B : List β), A.map f = B.map g → (∀ a ∈ A, ∀ b ∈ B, f a = g b → p a = q b) → (A.filter p).map f = (B.filter q).map g
  | [], [], _, _ => rfl
  | [], _ :: _, h, _ => by cases h
  | _ :: _, [], h, _ => by cases h
  | a :: A, b :: B, h, hp => by
    simp only [List.map_cons, List.cons.injEq] at h
    have ih := filter_corr f g p q A B h.2 (fun x hx y hy => hp x (List.mem_cons_of_mem _ hx) y (List.mem_cons_of_mem _ hy))
    have h0 := hp a (by simp) b (by simp) h.1
    simp only [List.filter_cons, h0]
    by_cases hq : q b = true
    · rw [if_pos hq, if_pos hq, List.map_cons, List.map_cons, ih, h.1]
    · rw [if_neg hq, if_neg hq, ih]
theorem same_of {α β : Type} (f : α → β) : ∀ (l : List α), (l.map f).Nodup → ∀ a ∈ l, ∀ b ∈ l, f a = f b → a = b
  | x :: r, hn, a, ha, b, hb, e => by
    simp only [List.map_cons, List.nodup_cons] at hn
    rcases List.mem_cons.1 ha with h1 | h1
    · rcases List.mem_cons.1 hb with h2 | h2
      · rw [h1, h2]
      · exact (hn.1 (List.mem_map.2 ⟨b, h2, by rw [← e, h1]⟩)).elim
    · rcases List.mem_cons.1 hb with h2 | h2
      · exact (hn.1 (List.mem_map.2 ⟨a, h1, by rw [e, h2]⟩)).elim
      · exact same_of f r hn.2 a h1 b h2 e
theorem MapIs.keys (E : KE P k enc ok) {es : List MapEntry} {m : List (K × Value)} (h : MapIs enc ok es m) : es.map (·.key) = (m.map (·.1)).map enc := by
  have := congrArg (List.map Prod.fst) h.1
  rw [List.map_map, List.map_map] at this
  rw [List.map_map]
  exact this
theorem nodup_map_inj {α β : Type} (f : α → β) (hf : ∀ x y, f x = f y → x = y) : ∀ (l : List α), l.Nodup → (l.map f).Nodup
  | [], _ => by simp
  | x :: r, h => by
    simp only [List.nodup_cons] at h
    rw [List.map_cons, List.nodup_cons]
    refine ⟨fun hm => ?_, nodup_map_inj f hf r h.2⟩
    obtain ⟨y, hy, e⟩ := List.mem_map.1 hm
    exact h.1 (hf _ _ e ▸ hy)
theorem MapIs.keys_nodup (E : KE P k enc ok) {es : List MapEntry} {m : List (K × Value)} (h : MapIs enc ok es m) : (es.map (·.key)).Nodup := by
  rw [h.keys E]; exact nodup_map_inj enc E.inj _ h.2.1
theorem mem_leftOf {es : Array MapEntry} {seen : Array Nat} {e : MapEntry} (h : e ∈ (leftOf es seen).toList) : e ∈ es.toList := by
  unfold leftOf at h
  simp at h ⊢
  exact h.1
/-- All but x. -/
def dropKey (left : List K) (x : K) : List K := left.filter fun y => decide (y ≠ x)
theorem mem_dropKey {left : List K} {x y : K} : y ∈ dropKey left x ↔ y ∈ left ∧ y ≠ x := by unfold dropKey; simp
theorem dropKey_lt {left : List K} {x : K} (h : x ∈ left) : (dropKey left x).length < left.length := by
  have h0 : (dropKey left x).length ≤ left.length := List.length_filter_le _ _
  rcases Nat.lt_or_ge (dropKey left x).length left.length with h1 | h1
  · exact h1
  · have := List.length_filter_eq_length_iff.1 (Nat.le_antisymm h0 h1) x h
    simp at this
theorem dropKey_le (left : List K) (x : K) : (dropKey left x).length ≤ left.length := List.length_filter_le _ _
/-- One step. -/
theorem Own.it_next (E : KE P k enc ok) {w0 w : World} {b r : Nat} {m : List (K × Value)} {left : List K} {last : Option K} {R : HProp} (ty : TypeId) (h : Own w0 (MpIt enc ok b r m left last * R) w) :
    (left = [] ∧ (Instr.next (.pointer (some ⟨r, 0, none⟩)) false ty).run P w = .ok (.tuple #[.bool false]) w) ∨
    ∃ x v w', (x, v) ∈ m ∧ x ∈ left ∧ (Instr.next (.pointer (some ⟨r, 0, none⟩)) false ty).run P w = .ok (.tuple #[.bool true, enc x, v]) w' ∧ Own w0 (MpIt enc ok b r m (dropKey left x) (some x) * R) w' := by
  obtain ⟨es, clock, since, seen, st, ⟨hm, hbn, hold, hst, hk, hok, _⟩, ho⟩ := h.it_open
  have hr := (ho.perm (star_left_comm _ _ _)).blk_at.1
  rcases run_next_at (P := P) w ty r b since st seen es clock hr ho.blk_at.1 hold hst.1 with ⟨h0, hrun⟩ | ⟨e, he, w1, hw1, hrun⟩
  · refine .inl ⟨?_, hrun⟩
    have : (keysLeft es seen).length = 0 := by unfold keysLeft; simpa using h0
    rw [hk, List.length_map] at this
    exact List.eq_nil_of_length_eq_zero this
  · have hes := mem_leftOf he
    obtain ⟨j, hj, hje⟩ := List.getElem_of_mem hes
    obtain ⟨x, hx, hkx⟩ := hm.entry (j := j) (e := e) (by rw [List.getElem?_eq_getElem hj, hje])
    have hxl : x ∈ left := by
      have : e.key ∈ keysLeft es seen := List.mem_map.2 ⟨e, he, rfl⟩
      rw [hk] at this
      obtain ⟨y, hy, e2⟩ := List.mem_map.1 this
      rw [hkx] at e2
      exact E.inj _ _ e2 ▸ hy
    have ho1 : Own w0 (blk b (.map es clock) * (blk r (.mapIter (some b) since seen st) * R)) w1 := by
      rcases hw1 with rfl | rfl
      · exact ho
      · exact ho.drew
    refine .inr ⟨x, e.val, setBlock w1 r (.mapIter (some b) since (seen.push e.born) clock), List.mem_of_getElem? hx, hxl, by rw [hkx] at hrun; exact hrun, ?_⟩
    have hkn := hm.keys_nodup E
    refine Own.it_close ⟨hm, hbn, hold, ?_, ?_, fun q hq => hok q (List.mem_filter.1 hq).1, fun q hq => ?_⟩ ((own_setBlock (ho1.perm (star_left_comm _ _ _))).perm (star_left_comm _ _ _))
    · exact ⟨hst.2, hst.2⟩
    · unfold keysLeft leftOf
      have e1 : (Array.filter (fun e' => !(seen.push e.born).contains e'.born) es).toList = ((leftOf es seen).toList).filter (fun e' => decide (e'.born ≠ e.born)) := by
        unfold leftOf
        simp only [Array.toList_filter, List.filter_filter]
        apply List.filter_congr
        intro e' _
        simp only [Array.contains_push]
        by_cases hb : e'.born = e.born <;> simp [hb]
      rw [e1]
      exact filter_corr (fun e' : MapEntry => e'.key) enc _ (fun y => decide (y ≠ x)) (leftOf es seen).toList left hk (fun a ha y hy hay => by
        have haes := mem_leftOf ha
        by_cases hyx : y = x
        · subst hyx
          have : a = e := same_of (fun e' : MapEntry => e'.key) _ hkn a haes e hes (by rw [hay, hkx])
          subst this; simp
        · have : a.born ≠ e.born := fun hb => hyx (by
            have h3 : a = e := same_of (fun e' : MapEntry => e'.born) _ hbn.2 a haes e hes hb
            rw [h3, hkx] at hay
            exact (E.inj _ _ hay).symm)
          simp [hyx, this])
    · cases hq
      exact ⟨rfl, e, hes, hkx, seen, rfl⟩
/-- The entry that came, read again. -/
theorem Own.it_entry (E : KE P k enc ok) {w0 w : World} {b r : Nat} {m : List (K × Value)} {left : List K} {x : K} {v : Value} {R : HProp} (h : Own w0 (MpIt enc ok b r m left (some x) * R) w) (hx : (x, v) ∈ m) :
    (Instr.entry (.pointer (some ⟨r, 0, none⟩))).run P w = .ok (.tuple #[enc x, v]) w := by
  obtain ⟨es, clock, since, seen, st, ⟨hm, hbn, hold, hst, hk, hok, hlast⟩, ho⟩ := h.it_open
  obtain ⟨rfl, e, he, hkx, s, rfl⟩ := hlast x rfl
  have hr := (ho.perm (star_left_comm _ _ _)).blk_at.1
  have hrun := run_entry_at (P := P) w r b since s es st e hr ho.blk_at.1 he hbn.2
  obtain ⟨j, hj, hje⟩ := List.getElem_of_mem he
  obtain ⟨y, hy, hky⟩ := hm.entry (j := j) (e := e) (by rw [List.getElem?_eq_getElem hj, hje])
  have hyx : y = x := E.inj _ _ (hky.symm.trans hkx)
  subst hyx
  have : e.val = v := by
    have := same_of (fun p : K × Value => p.1) _ hm.2.1 _ (List.mem_of_getElem? hy) _ hx rfl
    exact congrArg Prod.snd this
  rw [hkx, this] at hrun
  exact hrun
/-- A key deleted on the way. -/
theorem Own.it_del (E : KE P k enc ok) {t e : TypeId} (ht : P.underlying t = some (.map k e)) {w0 w : World} {b r : Nat} {m : List (K × Value)} {left : List K} {last : Option K} {R : HProp} (ty : TypeId)
    (h : Own w0 (MpIt enc ok b r m left last * R) w) {x : K} (hx : ok x) : ∃ w', (Builtin.delete_ #[t, k] ty #[.map (some b), enc x]).run P w = .ok (.tuple #[]) w' ∧ Own w0 (MpIt enc ok b r (mdel m x) (dropKey left x) none * R) w' := by
  obtain ⟨es, clock, since, seen, st, ⟨hm, hbn, hold, hst, hk, hok, hlast⟩, ho⟩ := h.it_open
  have hb := ho.blk_at.1
  obtain ⟨l, hl⟩ := E.has x hx
  have hset : ∀ o', Own w0 (blk b o' * (blk r (.mapIter (some b) since seen st) * R)) { w with heap := w.heap.setIfInBounds b o' } := fun o' => by
    refine ho.set rfl rfl rfl (by simp) (fun q _ hq => by simp [Array.getElem?_setIfInBounds, Ne.symm hq]) ?_
    have := ho.lt
    simp [this]
  have hkeep : ∀ p ∈ mdel m x, ok p.1 := fun p hp => hm.2.2 p (mem_mdel hp)
  have hkn := hm.keys_nodup E
  rcases hm.find E w hx with ⟨h1, h2, h3⟩ | ⟨j, en, h1, h2, h3, h4⟩
  · refine ⟨_, ?_, Own.it_close (es := es) (clock := clock) ⟨⟨?_, mdel_nodup hm.2.1, hkeep⟩, hbn, hold, hst, ?_, fun q hq => hok q (List.mem_filter.1 hq).1, fun q hq => by cases hq⟩ (hset _)⟩
    · simp [Builtin.delete_, run_underlying ht, MapKept.run_getObj_map hb, E.keyed.check w _ hl, h1, MapKept.run_setObj_map _ hb, Result.andThen]
    · rw [mdel_none h3, hm.1]
    · have : left.filter (fun y => decide (y ≠ x)) = left := by
        rw [List.filter_eq_self]
        intro y hy
        have : enc y ∈ keysLeft es seen := by rw [hk]; exact List.mem_map.2 ⟨y, hy, rfl⟩
        obtain ⟨e', he', hke⟩ := List.mem_map.1 this
        simp only [decide_eq_true_eq]
        rintro rfl
        exact h2 e' (mem_leftOf he') hke
      show keysLeft es seen = List.map enc (left.filter fun y => decide (y ≠ x))
      rw [this]; exact hk
  · have hj : es[j]? = some en := by simpa using h2
    have hjl : j < es.size := (Array.getElem?_eq_some_iff.1 hj).1
    have hel : (es.eraseIdxIfInBounds j).toList = es.toList.eraseIdx j := by rw [Array.eraseIdxIfInBounds, dif_pos hjl, Array.toList_eraseIdx]
    refine ⟨_, ?_, Own.it_close (es := es.eraseIdxIfInBounds j) (clock := clock) ⟨⟨?_, mdel_nodup hm.2.1, hkeep⟩, by rw [hel]; exact born_erase hbn j, fun e' he' => hold e' (by rw [hel] at he'; exact List.mem_of_mem_eraseIdx he'), hst, ?_, fun q hq => hok q (List.mem_filter.1 hq).1, fun q hq => by cases hq⟩ (hset _)⟩
    · simp [Builtin.delete_, run_underlying ht, MapKept.run_getObj_map hb, E.keyed.check w _ hl, h1, MapKept.run_setObj_map _ hb, Result.andThen]
    · rw [mdel_at hm.2.1 h4, hel, Go.ChangeMaps.map_eraseIdx, Go.ChangeMaps.map_eraseIdx, hm.1]
    · have e1 : es.toList.eraseIdx j = es.toList.filter (fun e' => decide (e'.born ≠ en.born)) := by
        have hgen : ∀ (L : List MapEntry) (i : Nat), (L.map (·.born)).Nodup → L[i]? = some en → L.eraseIdx i = L.filter (fun e' => decide (e'.born ≠ en.born)) := by
          intro L
          induction L with
          | nil => intro i _ h; simp at h
          | cons y r ih =>
            intro i hn hi
            simp only [List.map_cons, List.nodup_cons] at hn
            cases i with
            | zero =>
              simp at hi; subst hi
              have : r.filter (fun e' => decide (e'.born ≠ y.born)) = r := by
                rw [List.filter_eq_self]
                intro a ha
                simp only [decide_eq_true_eq]
                exact fun hb => hn.1 (List.mem_map.2 ⟨a, ha, hb⟩)
              rw [List.filter_cons, if_neg (by simp), this]; rfl
            | succ i =>
              simp at hi
              have hne : y.born ≠ en.born := fun hb => hn.1 (List.mem_map.2 ⟨en, List.mem_of_getElem? hi, hb.symm⟩)
              rw [List.eraseIdx_cons_succ, ih i hn.2 hi, List.filter_cons, if_pos (by simpa using hne)]
        exact hgen _ _ hbn.2 h2
      have e2 : keysLeft (es.eraseIdxIfInBounds j) seen = ((leftOf es seen).toList.filter (fun e' => decide (e'.born ≠ en.born))).map (fun e' => e'.key) := by
        unfold keysLeft leftOf
        rw [Array.toList_filter, hel, e1, Array.toList_filter, List.filter_filter, List.filter_filter]
        congr 1
        apply List.filter_congr
        intro a _
        rw [Bool.and_comm]
      rw [e2]
      exact filter_corr (fun e' : MapEntry => e'.key) enc _ (fun y => decide (y ≠ x)) (leftOf es seen).toList left hk (fun a ha y hy hay => by
        have haes := mem_leftOf ha
        have hens : en ∈ es.toList := List.mem_of_getElem? h2
        by_cases hyx : y = x
        · subst hyx
          have : a = en := same_of (fun e' : MapEntry => e'.key) _ hkn a haes en hens (by rw [hay, h3])
          subst this; simp
        · have : a.born ≠ en.born := fun hb => hyx (by
            have h5 : a = en := same_of (fun e' : MapEntry => e'.born) _ hbn.2 a haes en hens hb
            rw [h5, h3] at hay
            exact (E.inj _ _ hay).symm)
          simp [hyx, this])
/-- The loop over: the map alone is kept. -/
theorem Own.it_end {w0 w : World} {b r : Nat} {m : List (K × Value)} {left : List K} {last : Option K} {R : HProp} (h : Own w0 (MpIt enc ok b r m left last * R) w) : Own w0 (Mp enc ok b m * R) w := by
  obtain ⟨es, clock, since, seen, st, ⟨hm, hbn, _⟩, ho⟩ := h.it_open
  exact Own.map_mk hm hbn ((ho.perm (star_left_comm _ _ _)).drop)
/-- A look-up on the way. -/
theorem Own.it_look (E : KE P k enc ok) {t e : TypeId} (ht : P.underlying t = some (.map k e)) {z : Value} (hz : ∀ w, (zeroValue e).run P w = .ok z w) {w0 w : World} {b r : Nat} {m : List (K × Value)} {left : List K} {last : Option K} {R : HProp}
    (h : Own w0 (MpIt enc ok b r m left last * R) w) {x : K} (hx : ok x) (c : Bool) : (Instr.lookup t (.map (some b)) (enc x) c).run P w = .ok (if c then .tuple #[(mget m x).getD z, .bool (mget m x).isSome] else (mget m x).getD z) w :=
  h.it_end.map_look E ht hz hx c
/-- The operations. -/
theorem wpList_range {t e : TypeId} (ht : P.underlying t = some (.map k e)) {ops : Array Oper} {rest : List Oper} {o : Oper} {a : Act} {Q : Exit → Act → World → Prop} {w0 w : World} {b : Nat} {m : List (K × Value)} {R : HProp}
    (hown : Own w0 (Mp enc ok b m * R) w) (hg : o.guard = none) (mo : Operand) (hop : o.op = Op.range t mo) (hm : a.eval mo = .map (some b))
    (hK : ∀ w', Own w0 (MpIt enc ok b w.heap.size m (m.map (·.1)) none * R) w' → wpList P ops Q rest (a.put o.dst (.pointer (some ⟨w.heap.size, 0, none⟩))) w') : wpList P ops Q (o :: rest) a w := by
  refine wpList_plain hg fun K' hK' => ?_
  obtain ⟨w', hrun, ho⟩ := hown.it_range ht
  unfold Oper.wp
  simp [execOp, hop, hm, hrun, Result.andThen]
  exact hK' _ _ (hK w' ho)
theorem wpList_next (E : KE P k enc ok) {ops : Array Oper} {rest : List Oper} {o : Oper} {a : Act} {Q : Exit → Act → World → Prop} {w0 w : World} {b r : Nat} {m : List (K × Value)} {left : List K} {last : Option K} {R : HProp}
    (hown : Own w0 (MpIt enc ok b r m left last * R) w) (hg : o.guard = none) (it : Operand) (hop : o.op = Op.next it false) (hit : a.eval it = .pointer (some ⟨r, 0, none⟩))
    (hD : left = [] → wpList P ops Q rest (a.put o.dst (.tuple #[.bool false])) w)
    (hM : ∀ x v w', (x, v) ∈ m → x ∈ left → (Instr.entry (.pointer (some ⟨r, 0, none⟩))).run P w' = .ok (.tuple #[enc x, v]) w' → Own w0 (MpIt enc ok b r m (dropKey left x) (some x) * R) w' → wpList P ops Q rest (a.put o.dst (.tuple #[.bool true, enc x, v])) w') : wpList P ops Q (o :: rest) a w := by
  refine wpList_plain hg fun K' hK' => ?_
  rcases hown.it_next E o.type with ⟨h1, hrun⟩ | ⟨x, v, w', hx, hl, hrun, ho⟩
  · unfold Oper.wp
    simp [execOp, hop, hit, hrun, Result.andThen]
    exact hK' _ _ (hD h1)
  · unfold Oper.wp
    simp [execOp, hop, hit, hrun, Result.andThen]
    exact hK' _ _ (hM x v w' hx hl (ho.it_entry E hx) ho)
theorem wpList_itdel (E : KE P k enc ok) {t e : TypeId} (ht : P.underlying t = some (.map k e)) {ops : Array Oper} {rest : List Oper} {o : Oper} {a : Act} {Q : Exit → Act → World → Prop} {w0 w : World} {b r : Nat} {m : List (K × Value)} {left : List K} {last : Option K} {R : HProp}
    (hown : Own w0 (MpIt enc ok b r m left last * R) w) {x : K} (hx : ok x)
    (hg : o.guard = none) (mo xo : Operand) (hop : o.op = Op.call { callee := Callee.builtin Builtin.delete, args := #[mo, xo], argTypes := #[t, k] }) (hm : a.eval mo = .map (some b)) (hxo : a.eval xo = enc x)
    (hK : ∀ w', Own w0 (MpIt enc ok b r (mdel m x) (dropKey left x) none * R) w' → wpList P ops Q rest (a.put o.dst (.tuple #[])) w') : wpList P ops Q (o :: rest) a w := by
  refine wpList_plain hg fun K' hK' => ?_
  obtain ⟨w', hrun, ho⟩ := hown.it_del E ht o.type hx
  unfold Oper.wp
  simp [execOp, hop, hm, hxo, resolve, invoke, builtin, hrun, Result.andThen]
  exact hK' _ _ (hK w' ho)
end
end Go.Proofs.YtpgonkecicmanaaDoor
/- Package agree, plainly: stamps and their order; a group; what holds of it whatever it is told. -/
namespace Go.Proofs.YtpgonkecicmanaaDoor
set_option linter.unusedVariables false
set_option linter.unusedSimpArgs false
open Go.RowKit Go.Maps
abbrev St := Int × Int
def stLt (a b : St) : Prop := a.1 < b.1 ∨ (a.1 = b.1 ∧ a.2 < b.2)
def stLess (a b : St) : Bool := decide (a.1 < b.1) || (decide (a.1 = b.1) && decide (a.2 < b.2))
theorem stLess_iff {a b : St} : stLess a b = true ↔ stLt a b := by unfold stLess stLt; simp
theorem stLess_no {a b : St} : stLess a b = false ↔ ¬ stLt a b := by rw [← stLess_iff]; simp
theorem stLt_irr (a : St) : ¬ stLt a a := by unfold stLt; omega
theorem stLt_trans {a b c : St} (h1 : stLt a b) (h2 : stLt b c) : stLt a c := by unfold stLt at *; omega
theorem stLt_tri (a b : St) : stLt a b ∨ a = b ∨ stLt b a := by
  obtain ⟨x, y⟩ := a
  obtain ⟨u, v⟩ := b
  unfold stLt
  by_cases h : x = u
  · by_cases h2 : y = v
    · subst h; subst h2; exact .inr (.inl rfl)
    · rcases Int.lt_or_gt_of_ne h2 with h2 | h2
      · exact .inl (.inr ⟨h, h2⟩)
      · exact .inr (.inr (.inr ⟨h.symm, h2⟩))
  · rcases Int.lt_or_gt_of_ne h with h | h
    · exact .inl (.inl h)
    · exact .inr (.inr (.inl h))
theorem stLt_of_not {a b : St} (h : ¬ stLt a b) (hn : a ≠ b) : stLt b a := by
  rcases stLt_tri a b with h1 | h1 | h1
  · exact absurd h1 h
  · exact absurd h1 hn
  · exact h1
theorem stLt_le {a b c : St} (h1 : stLt a b) (h2 : ¬ stLt c b) : stLt a c := by
  rcases stLt_tri b c with h | h | h
  · exact stLt_trans h1 h
  · exact h ▸ h1
  · exact absurd h h2
def stMax (a b : St) : St := if stLess a b then b else a
def maxSt (l : List St) : St := l.foldl stMax (l.headD (0, 0))
theorem maxSt_fold : ∀ (l : List St) (a : St), (l.foldl stMax a = a ∨ l.foldl stMax a ∈ l) ∧ ¬ stLt (l.foldl stMax a) a ∧ ∀ s ∈ l, ¬ stLt (l.foldl stMax a) s
  | [], a => ⟨.inl rfl, stLt_irr a, by simp⟩
  | b :: r, a => by
    obtain ⟨h1, h2, h3⟩ := maxSt_fold r (stMax a b)
    rw [List.foldl_cons]
    obtain ⟨M, hM⟩ : ∃ M, M = r.foldl stMax (stMax a b) := ⟨_, rfl⟩
    rw [← hM] at h1 h2 h3 ⊢
    unfold stMax at h1 h2
    cases hl : stLess a b
    · rw [hl] at h1 h2
      simp only [Bool.false_eq_true, if_false] at h1 h2
      have hab := stLess_no.1 hl
      refine ⟨?_, h2, fun s hs => ?_⟩
      · rcases h1 with h | h
        · exact .inl h
        · exact .inr (List.mem_cons_of_mem _ h)
      · rcases List.mem_cons.1 hs with rfl | hs
        · intro hc
          rcases stLt_tri a M with h | h | h
          · exact hab (stLt_trans h hc)
          · exact hab (h ▸ hc)
          · exact h2 h
        · exact h3 s hs
    · rw [hl] at h1 h2
      simp only [if_true] at h1 h2
      have hab := stLess_iff.1 hl
      refine ⟨?_, fun hc => h2 (stLt_trans hc hab), fun s hs => ?_⟩
      · rcases h1 with h | h
        · exact .inr (h ▸ List.mem_cons_self ..)
        · exact .inr (List.mem_cons_of_mem _ h)
      · rcases List.mem_cons.1 hs with rfl | hs
        · exact h2
        · exact h3 s hs
theorem maxSt_mem {l : List St} (h : l ≠ []) : maxSt l ∈ l := by
  cases l with
  | nil => exact absurd rfl h
  | cons a r =>
    rcases (maxSt_fold (a :: r) a).1 with h1 | h1
    · unfold maxSt; rw [show (a :: r).headD (0, 0) = a from rfl, h1]; exact List.mem_cons_self ..
    · exact h1
theorem maxSt_ge {l : List St} {s : St} (h : s ∈ l) : ¬ stLt (maxSt l) s := (maxSt_fold l _).2.2 s h
/-- A waiting word: its stamp, and whether that is settled. -/
abbrev Wt := St × Bool
structure AgM where
  n : Int
  waits : List (Int × Wt)
  knew : List Int
  heard : List Int
structure Ag where
  mem : List AgM
  given : List (Int × List St)
  who : List (Int × List Int)
def gvOf (g : Ag) (w : Int) : List St := (mget g.given w).getD []
def whoOf (g : Ag) (w : Int) : List Int := (mget g.who w).getD []
def agGet (g : Ag) (k : Int) : AgM := g.mem.getD k.toNat ⟨0, [], [], []⟩
def agPick (a b : Int × Wt) : Int × Wt := if stLess b.2.1 a.2.1 then b else a
def agFirst (W : List (Int × Wt)) : Int := match W with
  | [] => 0
  | p :: r => (r.foldl agPick p).1
/-- Is the first of those that wait settled? -/
def agGo (W : List (Int × Wt)) : Bool := decide (agFirst W ≠ 0) && ((mget W (agFirst W)).getD ((0, 0), false)).2
def agHear : Nat → List (Int × Wt) → List (Int × Wt) × List Int
  | 0, W => (W, [])
  | k + 1, W => if agGo W then ((agHear k (mdel W (agFirst W))).1, agFirst W :: (agHear k (mdel W (agFirst W))).2) else (W, [])
def agSayErr (g : Ag) (w : Int) : Nat := if isWord w = false then 1 else if (mget g.given w).isSome then 7 else 0
def agSay (g : Ag) (w : Int) : Ag := if agSayErr g w = 0 then { g with given := mput g.given w [] } else g
def agChk (g : Ag) (who w : Int) : Nat := if inR who g.mem.length = false then 1 else if isWord w = false then 1 else if (mget g.given w).isSome = false then 5 else 0
def agPropErr (g : Ag) (who w : Int) : Nat := if agChk g who w ≠ 0 then agChk g who w else if who ∈ whoOf g w then 7 else 0
def agProp (g : Ag) (who w : Int) : Ag := if agPropErr g who w = 0 then
    ⟨g.mem.set who.toNat ⟨(agGet g who).n + 1, mput (agGet g who).waits w (((agGet g who).n + 1, who), false), (agGet g who).knew, (agGet g who).heard⟩,
      mput g.given w (gvOf g w ++ [((agGet g who).n + 1, who)]), mput g.who w (whoOf g w ++ [who])⟩ else g
def agPropSt (g : Ag) (who w : Int) : St := if agPropErr g who w = 0 then ((agGet g who).n + 1, who) else (0, 0)
def agSetErr (g : Ag) (who w : Int) : Nat := if agChk g who w ≠ 0 then agChk g who w else if (gvOf g w).length < g.mem.length then 6 else if w ∈ (agGet g who).knew then 7 else 0
def agSetM (g : Ag) (m : AgM) (w : Int) : AgM := ⟨max m.n (maxSt (gvOf g w)).1, mput m.waits w (maxSt (gvOf g w), true), setPut m.knew w, m.heard⟩
def agHearM (m : AgM) : AgM := ⟨m.n, (agHear m.waits.length m.waits).1, m.knew, m.heard ++ (agHear m.waits.length m.waits).2⟩
def agSet (g : Ag) (who w : Int) : Ag := if agSetErr g who w = 0 then { g with mem := g.mem.set who.toNat (agHearM (agSetM g (agGet g who) w)) } else g
def agSetOut (g : Ag) (who w : Int) : List Int := if agSetErr g who w = 0 then (agHear (agSetM g (agGet g who) w).waits.length (agSetM g (agGet g who) w).waits).2 else []
def agNew (n : Nat) : Ag := ⟨List.replicate n ⟨0, [], [], []⟩, [], []⟩
def agHeardErr (g : Ag) (who : Int) : Nat := if inR who g.mem.length then 0 else 1
def agHeard (g : Ag) (who : Int) : List Int := if inR who g.mem.length then (agGet g who).heard else []
/-! ## The first of those that wait -/
theorem mget_mem {K V : Type} [DecidableEq K] {m : List (K × V)} {x : K} {v : V} (h : mget m x = some v) : (x, v) ∈ m := by
  induction m with
  | nil => cases h
  | cons p r ih =>
    unfold mget at h
    by_cases e : p.1 = x
    · rw [if_pos e] at h; cases h; subst e; exact List.mem_cons_self ..
    · rw [if_neg e] at h; exact List.mem_cons_of_mem _ (ih h)
theorem mget_of_mem {K V : Type} [DecidableEq K] {m : List (K × V)} (hn : (m.map (·.1)).Nodup) {x : K} {v : V} (h : (x, v) ∈ m) : mget m x = some v := by
  obtain ⟨j, hj, hjx⟩ := List.getElem_of_mem h
  exact mget_at hn (j := j) (by rw [List.getElem?_eq_getElem hj, hjx])
def Least (W : List (Int × Wt)) (f : Int) : Prop := ∃ x, mget W f = some x ∧ ∀ w y, mget W w = some y → ¬ stLt y.1 x.1
def Apart (W : List (Int × Wt)) : Prop := ∀ w y w' y', mget W w = some y → mget W w' = some y' → y.1 = y'.1 → w = w'
theorem agPick_fold : ∀ (r : List (Int × Wt)) (p : Int × Wt), (r.foldl agPick p = p ∨ r.foldl agPick p ∈ r) ∧ ¬ stLt p.2.1 (r.foldl agPick p).2.1 ∧ ∀ q ∈ r, ¬ stLt q.2.1 (r.foldl agPick p).2.1
  | [], p => ⟨.inl rfl, stLt_irr _, by simp⟩
  | q :: r, p => by
    obtain ⟨h1, h2, h3⟩ := agPick_fold r (agPick p q)
    rw [List.foldl_cons]
    obtain ⟨M, hM⟩ : ∃ M, M = r.foldl agPick (agPick p q) := ⟨_, rfl⟩
    rw [← hM] at h1 h2 h3 ⊢
    unfold agPick at h1 h2
    cases hl : stLess q.2.1 p.2.1
    · rw [hl] at h1 h2
      simp only [Bool.false_eq_true, if_false] at h1 h2
      have hab := stLess_no.1 hl
      refine ⟨?_, h2, fun s hs => ?_⟩
      · rcases h1 with h | h
        · exact .inl h
        · exact .inr (List.mem_cons_of_mem _ h)
      · rcases List.mem_cons.1 hs with rfl | hs
        · intro hc
          rcases stLt_tri p.2.1 M.2.1 with h | h | h
          · exact h2 h
          · exact hab (h ▸ hc)
          · exact hab (stLt_trans hc h)
        · exact h3 s hs
    · rw [hl] at h1 h2
      simp only [if_true] at h1 h2
      have hab := stLess_iff.1 hl
      refine ⟨?_, fun hc => h2 (stLt_trans hab hc), fun s hs => ?_⟩
      · rcases h1 with h | h
        · exact .inr (h ▸ List.mem_cons_self ..)
        · exact .inr (List.mem_cons_of_mem _ h)
      · rcases List.mem_cons.1 hs with rfl | hs
        · exact h2
        · exact h3 s hs
theorem agFirst_least {W : List (Int × Wt)} (hn : (W.map (·.1)).Nodup) (hne : W ≠ []) : Least W (agFirst W) := by
  cases W with
  | nil => exact absurd rfl hne
  | cons p r =>
    obtain ⟨h1, h2, h3⟩ := agPick_fold r p
    obtain ⟨M, hM⟩ : ∃ M, M = r.foldl agPick p := ⟨_, rfl⟩
    have hf : agFirst (p :: r) = M.1 := by rw [hM]; rfl
    rw [hf]
    rw [← hM] at h1 h2 h3
    have hmem : (M.1, M.2) ∈ p :: r := by
      rcases h1 with h | h
      · rw [h]; exact List.mem_cons_self ..
      · exact List.mem_cons_of_mem _ h
    refine ⟨M.2, mget_of_mem hn hmem, fun w y hy => ?_⟩
    rcases List.mem_cons.1 (mget_mem hy) with h | h
    · rw [← h] at h2; exact h2
    · exact h3 _ h
theorem least_unique {W : List (Int × Wt)} (ha : Apart W) {f f' : Int} (h : Least W f) (h' : Least W f') : f = f' := by
  obtain ⟨x, hx, hl⟩ := h
  obtain ⟨x', hx', hl'⟩ := h'
  refine ha f x f' x' hx hx' ?_
  rcases stLt_tri x.1 x'.1 with h | h | h
  · exact absurd h (hl' f x hx)
  · exact h
  · exact absurd h (hl f' x' hx')
theorem agFirst_of {W : List (Int × Wt)} (hn : (W.map (·.1)).Nodup) (ha : Apart W) {f : Int} (h : Least W f) : agFirst W = f := by
  refine least_unique ha (agFirst_least hn ?_) h
  rintro rfl
  obtain ⟨x, hx, _⟩ := h
  cases hx
theorem agFirst_nil {W : List (Int × Wt)} (h : W = []) : agFirst W = 0 := by subst h; rfl
theorem agFirst_key {W : List (Int × Wt)} (hn : (W.map (·.1)).Nodup) (hne : W ≠ []) : ∃ x, mget W (agFirst W) = some x := by
  obtain ⟨x, hx, _⟩ := agFirst_least hn hne
  exact ⟨x, hx⟩
/-! ## What holds of a member -/
/-- G: who gave which stamps to each word; N members; k: this one. -/
structure AgMI (G : Int → List St) (N k : Nat) (m : AgM) : Prop where
  pos : 0 ≤ m.n
  keys : (m.waits.map (·.1)).Nodup
  disj : ∀ w x, mget m.waits w = some x → w ∉ m.heard
  nodup : m.heard.Nodup
  has : ∀ w, (k : Int) ∈ (G w).map (·.2) ↔ (mget m.waits w ≠ none ∨ w ∈ m.heard)
  knewH : ∀ w ∈ m.heard, w ∈ m.knew
  knewC : ∀ w ∈ m.knew, (G w).length = N
  knewN : ∀ w ∈ m.knew, (maxSt (G w)).1 ≤ m.n
  st : ∀ w x, mget m.waits w = some x → x.2 = decide (w ∈ m.knew) ∧ (x.2 = true → x.1 = maxSt (G w)) ∧ (x.2 = false → x.1 ∈ G w ∧ x.1.2 = k)
  own : ∀ w s, s ∈ G w → s.2 = k → s.1 ≤ m.n
  ord : ∀ h ∈ m.heard, ∀ w x, mget m.waits w = some x → stLt (maxSt (G h)) x.1
  sorted : m.heard.Pairwise (fun a b => stLt (maxSt (G a)) (maxSt (G b)))
  first : ∀ w x, mget m.waits w = some x → x.2 = true → ∃ w' x', mget m.waits w' = some x' ∧ x'.2 = false ∧ stLt x'.1 x.1
structure AgI (g : Ag) : Prop where
  whos : ∀ w, whoOf g w = (gvOf g w).map (·.2)
  range : ∀ w s, s ∈ gvOf g w → 1 ≤ s.1 ∧ 0 ≤ s.2 ∧ s.2 < g.mem.length
  nd : ∀ w, ((gvOf g w).map (·.2)).Nodup
  uniq : ∀ w w' s, s ∈ gvOf g w → s ∈ gvOf g w' → w = w'
  words : ∀ w, (mget g.given w).isSome → isWord w = true
  mem : ∀ k (h : k < g.mem.length), AgMI (gvOf g) g.mem.length k g.mem[k]
theorem gvOf_word {g : Ag} (h : AgI g) {w : Int} {s : St} (hs : s ∈ gvOf g w) : isWord w = true := by
  refine h.words w ?_
  unfold gvOf at hs
  cases hg : mget g.given w with
  | none => rw [hg] at hs; cases hs
  | some l => rfl
theorem agNew_get (n : Nat) (w : Int) : gvOf (agNew n) w = [] := rfl
theorem agNew_inv (n : Nat) : AgI (agNew n) where
  whos := fun w => rfl
  range := fun w s h => by cases h
  nd := fun w => List.nodup_nil
  uniq := fun w w' s h => by cases h
  words := fun w h => by cases h
  mem := fun k hk => by
    have hm : (agNew n).mem[k] = ⟨0, [], [], []⟩ := by simp [agNew]
    rw [hm]
    exact ⟨Int.le_refl _, List.nodup_nil, fun w x h => by (cases h), List.nodup_nil, fun w => by rw [agNew_get]; simp [mget], fun w h => by (cases h), fun w h => by (cases h), fun w h => by (cases h), fun w x h => by (cases h), fun w s h => by (rw [agNew_get] at h; cases h), fun h hh => by (cases hh), List.Pairwise.nil, fun w x h => by (cases h)⟩
theorem agSay_gv (g : Ag) (w w' : Int) : gvOf (agSay g w) w' = gvOf g w' := by
  unfold agSay
  by_cases h : agSayErr g w = 0
  · rw [if_pos h]
    unfold gvOf
    simp only
    rw [mget_mput]
    by_cases e : w = w'
    · subst e
      unfold agSayErr at h
      cases hw : isWord w
      · rw [if_pos hw] at h; cases h
      rw [if_neg (by rw [hw]; simp)] at h
      cases hg : mget g.given w with
      | none => rw [if_pos rfl]; rfl
      | some l => rw [hg] at h; simp at h
    · rw [if_neg e]
  · rw [if_neg h]
theorem agSay_mem (g : Ag) (w : Int) : (agSay g w).mem = g.mem := by unfold agSay; split <;> rfl
theorem agSay_who (g : Ag) (w : Int) : (agSay g w).who = g.who := by unfold agSay; split <;> rfl
theorem agSay_inv {g : Ag} (h : AgI g) (w : Int) : AgI (agSay g w) := by
  have hG : gvOf (agSay g w) = gvOf g := funext (agSay_gv g w)
  refine ⟨fun v => ?_, ?_, ?_, ?_, fun v hv => ?_, fun k hk => ?_⟩
  · rw [hG, ← h.whos]; unfold whoOf; rw [agSay_who]
  · rw [hG, agSay_mem]; exact h.range
  · rw [hG]; exact h.nd
  · rw [hG]; exact h.uniq
  · by_cases he : agSayErr g w = 0
    · unfold agSay at hv
      rw [if_pos he] at hv
      simp only at hv
      rw [mget_mput] at hv
      by_cases e : w = v
      · subst e
        unfold agSayErr at he
        cases hw : isWord w
        · rw [if_pos hw] at he; cases he
        · rfl
      · rw [if_neg e] at hv; exact h.words v hv
    · unfold agSay at hv
      rw [if_neg he] at hv
      exact h.words v hv
  · rw [hG]
    have hk' : k < g.mem.length := by rw [← agSay_mem g w]; exact hk
    have := h.mem k hk'
    have e : (agSay g w).mem[k] = g.mem[k] := by congr 1; exact agSay_mem g w
    rw [e, agSay_mem]; exact this
theorem agGet_at {g : Ag} {k : Nat} (hk : k < g.mem.length) : agGet g (k : Int) = g.mem[k] := by
  unfold agGet
  rw [List.getD_eq_getElem?_getD, Int.toNat_natCast, List.getElem?_eq_getElem hk]; rfl
theorem agChk0 {g : Ag} {who w : Int} (h : agChk g who w = 0) : (0 ≤ who ∧ who < g.mem.length) ∧ isWord w = true ∧ (mget g.given w).isSome = true := by
  unfold agChk at h
  cases h1 : inR who g.mem.length
  · rw [if_pos h1] at h; cases h
  rw [if_neg (by rw [h1]; simp)] at h
  cases h2 : isWord w
  · rw [if_pos h2] at h; cases h
  rw [if_neg (by rw [h2]; simp)] at h
  cases h3 : (mget g.given w).isSome
  · rw [if_pos h3] at h; cases h
  exact ⟨by simpa [inR] using h1, rfl, rfl⟩
theorem agPropErr0 {g : Ag} {who w : Int} (h : agPropErr g who w = 0) : agChk g who w = 0 ∧ who ∉ whoOf g w := by
  unfold agPropErr at h
  by_cases h1 : agChk g who w = 0
  · rw [if_neg (by rw [h1]; simp)] at h
    refine ⟨h1, fun hc => ?_⟩
    rw [if_pos hc] at h; cases h
  · rw [if_pos h1] at h; exact absurd h h1
theorem agSetErr0 {g : Ag} {who w : Int} (h : agSetErr g who w = 0) : agChk g who w = 0 ∧ g.mem.length ≤ (gvOf g w).length ∧ w ∉ (agGet g who).knew := by
  unfold agSetErr at h
  by_cases h1 : agChk g who w = 0
  · rw [if_neg (by rw [h1]; simp)] at h
    by_cases h2 : (gvOf g w).length < g.mem.length
    · rw [if_pos h2] at h; cases h
    rw [if_neg h2] at h
    refine ⟨h1, by omega, fun hc => ?_⟩
    rw [if_pos hc] at h; cases h
  · rw [if_pos h1] at h; exact absurd h h1
/-- So many different numbers below n: no more than n. -/
theorem below_len {l : List Int} {n : Nat} (hn : l.Nodup) (hb : ∀ x ∈ l, 0 ≤ x ∧ x < (n : Int)) : l.length ≤ n := by
  have h := distinct_le n (l.map (· + 1)) (nodup_map_inj (· + 1) (fun x y e => by have e' : x + 1 = y + 1 := e; omega) l hn) (fun x hx => by
    obtain ⟨y, hy, rfl⟩ := List.mem_map.1 hx
    have := hb y hy
    omega)
  simpa using h
theorem AgI.len {g : Ag} (h : AgI g) (w : Int) : (gvOf g w).length ≤ g.mem.length := by
  have := below_len (h.nd w) (n := g.mem.length) (fun x hx => by
    obtain ⟨s, hs, rfl⟩ := List.mem_map.1 hx
    exact (h.range w s hs).2)
  simpa using this
/-- One more stamp: a list of givers that lacks one is not full. -/
theorem AgI.lacks {g : Ag} (h : AgI g) {w : Int} {k : Nat} (hk : k < g.mem.length) (hn : (k : Int) ∉ (gvOf g w).map (·.2)) : (gvOf g w).length < g.mem.length := by
  have := below_len (l := (k : Int) :: (gvOf g w).map (·.2)) (n := g.mem.length) (List.nodup_cons.2 ⟨hn, h.nd w⟩) (fun x hx => by
    rcases List.mem_cons.1 hx with rfl | hx
    · omega
    · obtain ⟨s, hs, rfl⟩ := List.mem_map.1 hx
      exact (h.range w s hs).2)
  simp at this
  omega
/-- Where all gave a stamp, each did. -/
theorem AgI.full {g : Ag} (h : AgI g) {w : Int} (hl : (gvOf g w).length = g.mem.length) {k : Nat} (hk : k < g.mem.length) : (k : Int) ∈ (gvOf g w).map (·.2) := by
  rcases Classical.em ((k : Int) ∈ (gvOf g w).map (·.2)) with h1 | h1
  · exact h1
  · have := h.lacks hk h1
    omega
theorem AgMI.apart {g : Ag} (h : AgI g) {k : Nat} {m : AgM} (hm : AgMI (gvOf g) g.mem.length k m) (hpos : 0 < g.mem.length) {w : Int} {x : Wt} (hx : mget m.waits w = some x) : x.1 ∈ gvOf g w := by
  obtain ⟨h1, h2, h3⟩ := hm.st w x hx
  cases hb : x.2
  · exact (h3 hb).1
  · rw [h2 hb]
    refine maxSt_mem fun hc => ?_
    rw [hb] at h1
    have := hm.knewC w (of_decide_eq_true h1.symm)
    rw [hc] at this
    simp at this
    omega
theorem AgMI.apart' {g : Ag} (h : AgI g) {k : Nat} {m : AgM} (hm : AgMI (gvOf g) g.mem.length k m) (hpos : 0 < g.mem.length) : Apart m.waits := fun w y w' y' hy hy' e => by
  have h1 := hm.apart h hpos hy
  have h2 := hm.apart h hpos hy'
  rw [e] at h1
  exact h.uniq w w' _ h1 h2
end Go.Proofs.YtpgonkecicmanaaDoor
