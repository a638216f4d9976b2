/- A loop over a map that the call made: one entry after the other, whichever comes; entries may be deleted on the way. -/
import Derived.Test.YtpgonkecicmanaaDoorMPicturePlays1
import Derived.Maps.RangeRun
import Derived.Test.YtpgonkecicmanaaDoorMPicturePlays11
namespace Go.Proofs.YtpgonkecicmanaaDoor
set_option linter.unusedVariables false
set_option linter.unusedSimpArgs false
open Go.RowKit Go.Maps
open Go.ChangeMaps (setBlock)
set_option linter.unusedSectionVars false
section
variable {K : Type} [DecidableEq K] {P : Program} {k : TypeId} {enc : K → Value} {ok : K → Prop}
/-- The keys of the entries that have not come yet. -/
def keysLeft (es : Array MapEntry) (seen : Array Nat) : List Value := (leftOf es seen).toList.map (·.key)
/-- A map at b under a loop whose place is at r: left are the keys that are still to come; last: whether the entry that came last is there yet. -/
def MpIt (enc : K → Value) (ok : K → Prop) (b r : Nat) (m : List (K × Value)) (left : List K) (last : Option K) : HProp :=
  hex fun (x : (Array MapEntry × Nat) × (Nat × Array Nat × Nat)) =>
    pur (MapIs enc ok x.1.1.toList m ∧ Born x.1.1.toList x.1.2 ∧ (∀ e ∈ x.1.1.toList, e.born < x.2.1) ∧ (x.2.1 ≤ x.2.2.2 ∧ x.2.1 ≤ x.1.2) ∧ keysLeft x.1.1 x.2.2.1 = left.map enc ∧ (∀ q ∈ left, ok q) ∧
      ∀ q, last = some q → x.2.2.2 = x.1.2 ∧ ∃ e ∈ x.1.1.toList, e.key = enc q ∧ ∃ s : Array Nat, x.2.2.1 = s.push e.born) *
    (blk b (.map x.1.1 x.1.2) * blk r (.mapIter (some b) x.2.1 x.2.2.1 x.2.2.2))
theorem Own.it_open {w0 w : World} {b r : Nat} {m : List (K × Value)} {left : List K} {last : Option K} {R : HProp} (h : Own w0 (MpIt enc ok b r m left last * R) w) :
    ∃ (es : Array MapEntry) (clock since : Nat) (seen : Array Nat) (st : Nat), (MapIs enc ok es.toList m ∧ Born es.toList clock ∧ (∀ e ∈ es.toList, e.born < since) ∧ (since ≤ st ∧ since ≤ clock) ∧ keysLeft es seen = left.map enc ∧ (∀ q ∈ left, ok q) ∧
      ∀ q, last = some q → st = clock ∧ ∃ e ∈ es.toList, e.key = enc q ∧ ∃ s : Array Nat, seen = s.push e.born) ∧ Own w0 (blk b (.map es clock) * (blk r (.mapIter (some b) since seen st) * R)) w := by
  obtain ⟨⟨⟨es, clock⟩, ⟨since, seen, st⟩⟩, h⟩ := Own.ex h
  rw [star_assoc] at h
  obtain ⟨h1, h2⟩ := Own.pur_out h
  exact ⟨es, clock, since, seen, st, h1, h2.perm (star_assoc _ _ _)⟩
theorem Own.it_close {w0 w : World} {b r : Nat} {m : List (K × Value)} {left : List K} {last : Option K} {R : HProp} {es : Array MapEntry} {clock since : Nat} {seen : Array Nat} {st : Nat}
    (hh : MapIs enc ok es.toList m ∧ Born es.toList clock ∧ (∀ e ∈ es.toList, e.born < since) ∧ (since ≤ st ∧ since ≤ clock) ∧ keysLeft es seen = left.map enc ∧ (∀ q ∈ left, ok q) ∧
      ∀ q, last = some q → st = clock ∧ ∃ e ∈ es.toList, e.key = enc q ∧ ∃ s : Array Nat, seen = s.push e.born)
    (h : Own w0 (blk b (.map es clock) * (blk r (.mapIter (some b) since seen st) * R)) w) : Own w0 (MpIt enc ok b r m left last * R) w := by
  refine Own.ex_mk ((es, clock), (since, seen, st)) ?_
  rw [star_assoc]
  exact Own.pur_mk hh (h.perm (star_assoc _ _ _).symm)
/-- The loop begins. -/
theorem Own.it_range {t e : TypeId} (ht : P.underlying t = some (.map k e)) {w0 w : World} {b : Nat} {m : List (K × Value)} {R : HProp} (h : Own w0 (Mp enc ok b m * R) w) :
    ∃ w', (Instr.range t (.map (some b))).run P w = .ok (.pointer (some ⟨w.heap.size, 0, none⟩)) w' ∧ Own w0 (MpIt enc ok b w.heap.size m (m.map (·.1)) none * R) w' := by
  obtain ⟨es, clock, hm, hbn, ho⟩ := h.map_at
  refine ⟨w.alloc (.mapIter (some b) clock #[] clock), ?_, ?_⟩
  · simp [Instr.range, run_underlying ht, MapKept.run_getObj_map ho.blk_at.1, Result.andThen]
  · refine Own.it_close ⟨hm, hbn, hbn.1, ⟨Nat.le_refl _, Nat.le_refl _⟩, ?_, ?_, fun q hq => by cases hq⟩ ((ho.alloc (.mapIter (some b) clock #[] clock)).perm (star_left_comm _ _ _))
    · unfold keysLeft leftOf
      have e1 : es.filter (fun e => !(#[] : Array Nat).contains e.born) = es := Array.filter_eq_self.2 (fun x _ => by simp)
      rw [e1]
      have := congrArg (List.map Prod.fst) hm.1
      simp only [List.map_map] at this
      rw [List.map_map]
      exact this
    · intro q hq
      obtain ⟨p, hp, rfl⟩ := List.mem_map.1 hq
      exact hm.2.2 p hp
theorem own_setBlock {w0 w : World} {b : Nat} {o o' : Obj} {R : HProp} (h : Own w0 (blk b o * R) w) : Own w0 (blk b o' * R) (setBlock w b o') := by
  refine h.set rfl rfl rfl (by simp [setBlock]) (fun q _ hq => by simp [setBlock, Array.getElem?_setIfInBounds, Ne.symm hq]) ?_
  have := h.lt
  simp [setBlock, this]
theorem filter_corr {α β γ : Type} (f : α → γ) (g : β → γ) (p : α → Bool) (q : β → Bool) : ∀ (A : List α) (B : List β), A.map f = B.map g → (∀ a ∈ A, ∀ b ∈ B, f a = g b → p a = q b) → (A.filter p).map f = (B.filter q).map g
  | [], [], _, _ => rfl
  | [], _ :: _, h, _ => by cases h
  | _ :: _, [], h, _ => by cases h
  | a :: A, b :: B, h, hp => by
    simp only [List.map_cons, List.cons.injEq] at h
    have ih := filter_corr f g p q A B h.2 (fun x hx y hy => hp x (List.mem_cons_of_mem _ hx) y (List.mem_cons_of_mem _ hy))
    have h0 := hp a (by simp) b (by simp) h.1
    simp only [List.filter_cons, h0]
    by_cases hq : q b = true
    · rw [if_pos hq, if_pos hq, List.map_cons, List.map_cons, ih, h.1]
    · rw [if_neg hq, if_neg hq, ih]
theorem same_of {α β : Type} (f : α → β) : ∀ (l : List α), (l.map f).Nodup → ∀ a ∈ l, ∀ b ∈ l, f a = f b → a = b
  | x :: r, hn, a, ha, b, hb, e => by
    simp only [List.map_cons, List.nodup_cons] at hn
    rcases List.mem_cons.1 ha with h1 | h1
    · rcases List.mem_cons.1 hb with h2 | h2
      · rw [h1, h2]
      · exact (hn.1 (List.mem_map.2 ⟨b, h2, by rw [← e, h1]⟩)).elim
    · rcases List.mem_cons.1 hb with h2 | h2
      · exact (hn.1 (List.mem_map.2 ⟨a, h1, by rw [e, h2]⟩)).elim
      · exact same_of f r hn.2 a h1 b h2 e
theorem MapIs.keys (E : KE P k enc ok) {es : List MapEntry} {m : List (K × Value)} (h : MapIs enc ok es m) : es.map (·.key) = (m.map (·.1)).map enc := by
  have := congrArg (List.map Prod.fst) h.1
  rw [List.map_map, List.map_map] at this
  rw [List.map_map]
  exact this
theorem nodup_map_inj {α β : Type} (f : α → β) (hf : ∀ x y, f x = f y → x = y) : ∀ (l : List α), l.Nodup → (l.map f).Nodup
  | [], _ => by simp
  | x :: r, h => by
    simp only [List.nodup_cons] at h
    rw [List.map_cons, List.nodup_cons]
    refine ⟨fun hm => ?_, nodup_map_inj f hf r h.2⟩
    obtain ⟨y, hy, e⟩ := List.mem_map.1 hm
    exact h.1 (hf _ _ e ▸ hy)
theorem MapIs.keys_nodup (E : KE P k enc ok) {es : List MapEntry} {m : List (K × Value)} (h : MapIs enc ok es m) : (es.map (·.key)).Nodup := by
  rw [h.keys E]; exact nodup_map_inj enc E.inj _ h.2.1
theorem mem_leftOf {es : Array MapEntry} {seen : Array Nat} {e : MapEntry} (h : e ∈ (leftOf es seen).toList) : e ∈ es.toList := by
  unfold leftOf at h
  simp at h ⊢
  exact h.1
/-- All but x. -/
def dropKey (left : List K) (x : K) : List K := left.filter fun y => decide (y ≠ x)
theorem mem_dropKey {left : List K} {x y : K} : y ∈ dropKey left x ↔ y ∈ left ∧ y ≠ x := by unfold dropKey; simp
theorem dropKey_lt {left : List K} {x : K} (h : x ∈ left) : (dropKey left x).length < left.length := by
  have h0 : (dropKey left x).length ≤ left.length := List.length_filter_le _ _
  rcases Nat.lt_or_ge (dropKey left x).length left.length with h1 | h1
  · exact h1
  · have := List.length_filter_eq_length_iff.1 (Nat.le_antisymm h0 h1) x h
    simp at this
theorem dropKey_le (left : List K) (x : K) : (dropKey left x).length ≤ left.length := List.length_filter_le _ _
/-- One step. -/
theorem Own.it_next (E : KE P k enc ok) {w0 w : World} {b r : Nat} {m : List (K × Value)} {left : List K} {last : Option K} {R : HProp} (ty : TypeId) (h : Own w0 (MpIt enc ok b r m left last * R) w) :
    (left = [] ∧ (Instr.next (.pointer (some ⟨r, 0, none⟩)) false ty).run P w = .ok (.tuple #[.bool false]) w) ∨
    ∃ x v w', (x, v) ∈ m ∧ x ∈ left ∧ (Instr.next (.pointer (some ⟨r, 0, none⟩)) false ty).run P w = .ok (.tuple #[.bool true, enc x, v]) w' ∧ Own w0 (MpIt enc ok b r m (dropKey left x) (some x) * R) w' := by
  obtain ⟨es, clock, since, seen, st, ⟨hm, hbn, hold, hst, hk, hok, _⟩, ho⟩ := h.it_open
  have hr := (ho.perm (star_left_comm _ _ _)).blk_at.1
  rcases run_next_at (P := P) w ty r b since st seen es clock hr ho.blk_at.1 hold hst.1 with ⟨h0, hrun⟩ | ⟨e, he, w1, hw1, hrun⟩
  · refine .inl ⟨?_, hrun⟩
    have : (keysLeft es seen).length = 0 := by unfold keysLeft; simpa using h0
    rw [hk, List.length_map] at this
    exact List.eq_nil_of_length_eq_zero this
  · have hes := mem_leftOf he
    obtain ⟨j, hj, hje⟩ := List.getElem_of_mem hes
    obtain ⟨x, hx, hkx⟩ := hm.entry (j := j) (e := e) (by rw [List.getElem?_eq_getElem hj, hje])
    have hxl : x ∈ left := by
      have : e.key ∈ keysLeft es seen := List.mem_map.2 ⟨e, he, rfl⟩
      rw [hk] at this
      obtain ⟨y, hy, e2⟩ := List.mem_map.1 this
      rw [hkx] at e2
      exact E.inj _ _ e2 ▸ hy
    have ho1 : Own w0 (blk b (.map es clock) * (blk r (.mapIter (some b) since seen st) * R)) w1 := by
      rcases hw1 with rfl | rfl
      · exact ho
      · exact ho.drew
    refine .inr ⟨x, e.val, setBlock w1 r (.mapIter (some b) since (seen.push e.born) clock), List.mem_of_getElem? hx, hxl, by rw [hkx] at hrun; exact hrun, ?_⟩
    have hkn := hm.keys_nodup E
    refine Own.it_close ⟨hm, hbn, hold, ?_, ?_, fun q hq => hok q (List.mem_filter.1 hq).1, fun q hq => ?_⟩ ((own_setBlock (ho1.perm (star_left_comm _ _ _))).perm (star_left_comm _ _ _))
    · exact ⟨hst.2, hst.2⟩
    · unfold keysLeft leftOf
      have e1 : (Array.filter (fun e' => !(seen.push e.born).contains e'.born) es).toList = ((leftOf es seen).toList).filter (fun e' => decide (e'.born ≠ e.born)) := by
        unfold leftOf
        simp only [Array.toList_filter, List.filter_filter]
        apply List.filter_congr
        intro e' _
        simp only [Array.contains_push]
        by_cases hb : e'.born = e.born <;> simp [hb]
      rw [e1]
      exact filter_corr (fun e' : MapEntry => e'.key) enc _ (fun y => decide (y ≠ x)) (leftOf es seen).toList left hk (fun a ha y hy hay => by
        have haes := mem_leftOf ha
        by_cases hyx : y = x
        · subst hyx
          have : a = e := same_of (fun e' : MapEntry => e'.key) _ hkn a haes e hes (by rw [hay, hkx])
          subst this; simp
        · have : a.born ≠ e.born := fun hb => hyx (by
            have h3 : a = e := same_of (fun e' : MapEntry => e'.born) _ hbn.2 a haes e hes hb
            rw [h3, hkx] at hay
            exact (E.inj _ _ hay).symm)
          simp [hyx, this])
    · cases hq
      exact ⟨rfl, e, hes, hkx, seen, rfl⟩
/-- The entry that came, read again. -/
theorem Own.it_entry (E : KE P k enc ok) {w0 w : World} {b r : Nat} {m : List (K × Value)} {left : List K} {x : K} {v : Value} {R : HProp} (h : Own w0 (MpIt enc ok b r m left (some x) * R) w) (hx : (x, v) ∈ m) :
    (Instr.entry (.pointer (some ⟨r, 0, none⟩))).run P w = .ok (.tuple #[enc x, v]) w := by
  obtain ⟨es, clock, since, seen, st, ⟨hm, hbn, hold, hst, hk, hok, hlast⟩, ho⟩ := h.it_open
  obtain ⟨rfl, e, he, hkx, s, rfl⟩ := hlast x rfl
  have hr := (ho.perm (star_left_comm _ _ _)).blk_at.1
  have hrun := run_entry_at (P := P) w r b since s es st e hr ho.blk_at.1 he hbn.2
  obtain ⟨j, hj, hje⟩ := List.getElem_of_mem he
  obtain ⟨y, hy, hky⟩ := hm.entry (j := j) (e := e) (by rw [List.getElem?_eq_getElem hj, hje])
  have hyx : y = x := E.inj _ _ (hky.symm.trans hkx)
  subst hyx
  have : e.val = v := by
    have := same_of (fun p : K × Value => p.1) _ hm.2.1 _ (List.mem_of_getElem? hy) _ hx rfl
    exact congrArg Prod.snd this
  rw [hkx, this] at hrun
  exact hrun
/-- A key deleted on the way. -/
theorem Own.it_del (E : KE P k enc ok) {t e : TypeId} (ht : P.underlying t = some (.map k e)) {w0 w : World} {b r : Nat} {m : List (K × Value)} {left : List K} {last : Option K} {R : HProp} (ty : TypeId)
    (h : Own w0 (MpIt enc ok b r m left last * R) w) {x : K} (hx : ok x) : ∃ w', (Builtin.delete_ #[t, k] ty #[.map (some b), enc x]).run P w = .ok (.tuple #[]) w' ∧ Own w0 (MpIt enc ok b r (mdel m x) (dropKey left x) none * R) w' := by
  obtain ⟨es, clock, since, seen, st, ⟨hm, hbn, hold, hst, hk, hok, hlast⟩, ho⟩ := h.it_open
  have hb := ho.blk_at.1
  obtain ⟨l, hl⟩ := E.has x hx
  have hset : ∀ o', Own w0 (blk b o' * (blk r (.mapIter (some b) since seen st) * R)) { w with heap := w.heap.setIfInBounds b o' } := fun o' => by
    refine ho.set rfl rfl rfl (by simp) (fun q _ hq => by simp [Array.getElem?_setIfInBounds, Ne.symm hq]) ?_
    have := ho.lt
    simp [this]
  have hkeep : ∀ p ∈ mdel m x, ok p.1 := fun p hp => hm.2.2 p (mem_mdel hp)
  have hkn := hm.keys_nodup E
  rcases hm.find E w hx with ⟨h1, h2, h3⟩ | ⟨j, en, h1, h2, h3, h4⟩
  · refine ⟨_, ?_, Own.it_close (es := es) (clock := clock) ⟨⟨?_, mdel_nodup hm.2.1, hkeep⟩, hbn, hold, hst, ?_, fun q hq => hok q (List.mem_filter.1 hq).1, fun q hq => by cases hq⟩ (hset _)⟩
    · simp [Builtin.delete_, run_underlying ht, MapKept.run_getObj_map hb, E.keyed.check w _ hl, h1, MapKept.run_setObj_map _ hb, Result.andThen]
    · rw [mdel_none h3, hm.1]
    · have : left.filter (fun y => decide (y ≠ x)) = left := by
        rw [List.filter_eq_self]
        intro y hy
        have : enc y ∈ keysLeft es seen := by rw [hk]; exact List.mem_map.2 ⟨y, hy, rfl⟩
        obtain ⟨e', he', hke⟩ := List.mem_map.1 this
        simp only [decide_eq_true_eq]
        rintro rfl
        exact h2 e' (mem_leftOf he') hke
      show keysLeft es seen = List.map enc (left.filter fun y => decide (y ≠ x))
      rw [this]; exact hk
  · have hj : es[j]? = some en := by simpa using h2
    have hjl : j < es.size := (Array.getElem?_eq_some_iff.1 hj).1
    have hel : (es.eraseIdxIfInBounds j).toList = es.toList.eraseIdx j := by rw [Array.eraseIdxIfInBounds, dif_pos hjl, Array.toList_eraseIdx]
    refine ⟨_, ?_, Own.it_close (es := es.eraseIdxIfInBounds j) (clock := clock) ⟨⟨?_, mdel_nodup hm.2.1, hkeep⟩, by rw [hel]; exact born_erase hbn j, fun e' he' => hold e' (by rw [hel] at he'; exact List.mem_of_mem_eraseIdx he'), hst, ?_, fun q hq => hok q (List.mem_filter.1 hq).1, fun q hq => by cases hq⟩ (hset _)⟩
    · simp [Builtin.delete_, run_underlying ht, MapKept.run_getObj_map hb, E.keyed.check w _ hl, h1, MapKept.run_setObj_map _ hb, Result.andThen]
    · rw [mdel_at hm.2.1 h4, hel, Go.ChangeMaps.map_eraseIdx, Go.ChangeMaps.map_eraseIdx, hm.1]
    · have e1 : es.toList.eraseIdx j = es.toList.filter (fun e' => decide (e'.born ≠ en.born)) := by
        have hgen : ∀ (L : List MapEntry) (i : Nat), (L.map (·.born)).Nodup → L[i]? = some en → L.eraseIdx i = L.filter (fun e' => decide (e'.born ≠ en.born)) := by
          intro L
          induction L with
          | nil => intro i _ h; simp at h
          | cons y r ih =>
            intro i hn hi
            simp only [List.map_cons, List.nodup_cons] at hn
            cases i with
            | zero =>
              simp at hi; subst hi
              have : r.filter (fun e' => decide (e'.born ≠ y.born)) = r := by
                rw [List.filter_eq_self]
                intro a ha
                simp only [decide_eq_true_eq]
                exact fun hb => hn.1 (List.mem_map.2 ⟨a, ha, hb⟩)
              rw [List.filter_cons, if_neg (by simp), this]; rfl
            | succ i =>
              simp at hi
              have hne : y.born ≠ en.born := fun hb => hn.1 (List.mem_map.2 ⟨en, List.mem_of_getElem? hi, hb.symm⟩)
              rw [List.eraseIdx_cons_succ, ih i hn.2 hi, List.filter_cons, if_pos (by simpa using hne)]
        exact hgen _ _ hbn.2 h2
      have e2 : keysLeft (es.eraseIdxIfInBounds j) seen = ((leftOf es seen).toList.filter (fun e' => decide (e'.born ≠ en.born))).map (fun e' => e'.key) := by
        unfold keysLeft leftOf
        rw [Array.toList_filter, hel, e1, Array.toList_filter, List.filter_filter, List.filter_filter]
        congr 1
        apply List.filter_congr
        intro a _
        rw [Bool.and_comm]
      rw [e2]
      exact filter_corr (fun e' : MapEntry => e'.key) enc _ (fun y => decide (y ≠ x)) (leftOf es seen).toList left hk (fun a ha y hy hay => by
        have haes := mem_leftOf ha
        have hens : en ∈ es.toList := List.mem_of_getElem? h2
        by_cases hyx : y = x
        · subst hyx
          have : a = en := same_of (fun e' : MapEntry => e'.key) _ hkn a haes en hens (by rw [hay, h3])
          subst this; simp
        · have : a.born ≠ en.born := fun hb => hyx (by
            have h5 : a = en := same_of (fun e' : MapEntry => e'.born) _ hbn.2 a haes en hens hb
            rw [h5, h3] at hay
            exact (E.inj _ _ hay).symm)
          simp [hyx, this])
/-- The loop over: the map alone is kept. -/
theorem Own.it_end {w0 w : World} {b r : Nat} {m : List (K × Value)} {left : List K} {last : Option K} {R : HProp} (h : Own w0 (MpIt enc ok b r m left last * R) w) : Own w0 (Mp enc ok b m * R) w := by
  obtain ⟨es, clock, since, seen, st, ⟨hm, hbn, _⟩, ho⟩ := h.it_open
  exact Own.map_mk hm hbn ((ho.perm (star_left_comm _ _ _)).drop)
/-- A look-up on the way. -/
theorem Own.it_look (E : KE P k enc ok) {t e : TypeId} (ht : P.underlying t = some (.map k e)) {z : Value} (hz : ∀ w, (zeroValue e).run P w = .ok z w) {w0 w : World} {b r : Nat} {m : List (K × Value)} {left : List K} {last : Option K} {R : HProp}
    (h : Own w0 (MpIt enc ok b r m left last * R) w) {x : K} (hx : ok x) (c : Bool) : (Instr.lookup t (.map (some b)) (enc x) c).run P w = .ok (if c then .tuple #[(mget m x).getD z, .bool (mget m x).isSome] else (mget m x).getD z) w :=
  h.it_end.map_look E ht hz hx c
/-- The operations. -/
theorem wpList_range {t e : TypeId} (ht : P.underlying t = some (.map k e)) {ops : Array Oper} {rest : List Oper} {o : Oper} {a : Act} {Q : Exit → Act → World → Prop} {w0 w : World} {b : Nat} {m : List (K × Value)} {R : HProp}
    (hown : Own w0 (Mp enc ok b m * R) w) (hg : o.guard = none) (mo : Operand) (hop : o.op = Op.range t mo) (hm : a.eval mo = .map (some b))
    (hK : ∀ w', Own w0 (MpIt enc ok b w.heap.size m (m.map (·.1)) none * R) w' → wpList P ops Q rest (a.put o.dst (.pointer (some ⟨w.heap.size, 0, none⟩))) w') : wpList P ops Q (o :: rest) a w := by
  refine wpList_plain hg fun K' hK' => ?_
  obtain ⟨w', hrun, ho⟩ := hown.it_range ht
  unfold Oper.wp
  simp [execOp, hop, hm, hrun, Result.andThen]
  exact hK' _ _ (hK w' ho)
theorem wpList_next (E : KE P k enc ok) {ops : Array Oper} {rest : List Oper} {o : Oper} {a : Act} {Q : Exit → Act → World → Prop} {w0 w : World} {b r : Nat} {m : List (K × Value)} {left : List K} {last : Option K} {R : HProp}
    (hown : Own w0 (MpIt enc ok b r m left last * R) w) (hg : o.guard = none) (it : Operand) (hop : o.op = Op.next it false) (hit : a.eval it = .pointer (some ⟨r, 0, none⟩))
    (hD : left = [] → wpList P ops Q rest (a.put o.dst (.tuple #[.bool false])) w)
    (hM : ∀ x v w', (x, v) ∈ m → x ∈ left → (Instr.entry (.pointer (some ⟨r, 0, none⟩))).run P w' = .ok (.tuple #[enc x, v]) w' → Own w0 (MpIt enc ok b r m (dropKey left x) (some x) * R) w' → wpList P ops Q rest (a.put o.dst (.tuple #[.bool true, enc x, v])) w') : wpList P ops Q (o :: rest) a w := by
  refine wpList_plain hg fun K' hK' => ?_
  rcases hown.it_next E o.type with ⟨h1, hrun⟩ | ⟨x, v, w', hx, hl, hrun, ho⟩
  · unfold Oper.wp
    simp [execOp, hop, hit, hrun, Result.andThen]
    exact hK' _ _ (hD h1)
  · unfold Oper.wp
    simp [execOp, hop, hit, hrun, Result.andThen]
    exact hK' _ _ (hM x v w' hx hl (ho.it_entry E hx) ho)
theorem wpList_itdel (E : KE P k enc ok) {t e : TypeId} (ht : P.underlying t = some (.map k e)) {ops : Array Oper} {rest : List Oper} {o : Oper} {a : Act} {Q : Exit → Act → World → Prop} {w0 w : World} {b r : Nat} {m : List (K × Value)} {left : List K} {last : Option K} {R : HProp}
    (hown : Own w0 (MpIt enc ok b r m left last * R) w) {x : K} (hx : ok x)
    (hg : o.guard = none) (mo xo : Operand) (hop : o.op = Op.call { callee := Callee.builtin Builtin.delete, args := #[mo, xo], argTypes := #[t, k] }) (hm : a.eval mo = .map (some b)) (hxo : a.eval xo = enc x)
    (hK : ∀ w', Own w0 (MpIt enc ok b r (mdel m x) (dropKey left x) none * R) w' → wpList P ops Q rest (a.put o.dst (.tuple #[])) w') : wpList P ops Q (o :: rest) a w := by
  refine wpList_plain hg fun K' hK' => ?_
  obtain ⟨w', hrun, ho⟩ := hown.it_del E ht o.type hx
  unfold Oper.wp
  simp [execOp, hop, hm, hxo, resolve, invoke, builtin, hrun, Result.andThen]
  exact hK' _ _ (hK w' ho)
end
end Go.Proofs.YtpgonkecicmanaaDoor
/- Contracts of package picture: Sum, OnWay, New. -/
namespace Go.Proofs.YtpgonkecicmanaaDoor
set_option linter.unusedVariables false
set_option linter.unusedSimpArgs false
open Go.RowKit Go.Maps
def leftSum (m : List (Int × Int)) (left : List Int) : Int := (left.map fun x => (mget m x).getD 0).sum
theorem dropKey_none {left : List Int} {x : Int} (h : x ∉ left) : dropKey left x = left := by
  unfold dropKey
  rw [List.filter_eq_self]
  intro y hy
  simp only [decide_eq_true_eq]
  rintro rfl; exact h hy
theorem leftSum_drop (m : List (Int × Int)) : ∀ (left : List Int) (x : Int), left.Nodup → x ∈ left → leftSum m left = (mget m x).getD 0 + leftSum m (dropKey left x)
  | y :: r, x, hn, hx => by
    rw [List.nodup_cons] at hn
    by_cases hyx : y = x
    · subst hyx
      have : dropKey (y :: r) y = r := by
        show (y :: r).filter _ = r
        rw [List.filter_cons_of_neg (by simp)]
        exact dropKey_none hn.1
      rw [this]; rfl
    · have hxr : x ∈ r := by rcases List.mem_cons.1 hx with e | e; exact absurd e.symm hyx; exact e
      have ih := leftSum_drop m r x hn.2 hxr
      have : dropKey (y :: r) x = y :: dropKey r x := by
        show (y :: r).filter _ = y :: r.filter _
        rw [List.filter_cons_of_pos (by simpa using hyx)]
      rw [this]
      unfold leftSum at ih ⊢
      simp only [List.map_cons, List.sum_cons]
      omega
theorem leftSum_all : ∀ (m : List (Int × Int)), (m.map (·.1)).Nodup → leftSum m (m.map (·.1)) = (m.map (·.2)).sum := by
  intro m hn
  unfold leftSum
  congr 1
  rw [List.map_map]
  apply List.map_congr_left
  intro p hp
  obtain ⟨j, hj, rfl⟩ := List.getElem_of_mem hp
  have := mget_at hn (j := j) (x := m[j].1) (u := m[j].2) (by rw [List.getElem?_eq_getElem hj])
  show (mget m m[j].1).getD 0 = m[j].2
  rw [this]; rfl
theorem leftSum_bd {m : List (Int × Int)} (hv : ∀ p ∈ m, 0 ≤ p.2 ∧ p.2 ≤ 1000000) : ∀ (left : List Int), 0 ≤ leftSum m left ∧ leftSum m left ≤ 1000000 * left.length
  | [] => by simp [leftSum]
  | x :: r => by
    have ih := leftSum_bd hv r
    have hx : 0 ≤ (mget m x).getD 0 ∧ (mget m x).getD 0 ≤ 1000000 := by
      cases hg : mget m x with
      | none => simp
      | some z =>
        have : ∃ p ∈ m, p.2 = z := by
          clear ih hv
          induction m with
          | nil => cases hg
          | cons q t ih =>
            unfold mget at hg
            split at hg
            · cases hg; exact ⟨q, by simp, rfl⟩
            · obtain ⟨p, hp, e⟩ := ih hg; exact ⟨p, by simp [hp], e⟩
        obtain ⟨p, hp, rfl⟩ := this
        exact hv p hp
    unfold leftSum at ih ⊢
    simp only [List.map_cons, List.sum_cons, List.length_cons]
    omega
abbrev SumB (b : Nat) (x y : Int) : HProp := blk b (.cells #[.int .i64 x, .int .i64 y] 75 (0, 0))
theorem Own.sumb {w0 w : World} {b : Nat} {x y : Int} {R : HProp} (h : Own w0 (SumB b x y * R) w) : w.cell? ⟨b, 0, none⟩ = some (.int .i64 x) ∧ w.cell? ⟨b, 1, none⟩ = some (.int .i64 y) ∧ w.frozen? ⟨b, 0, none⟩ = false ∧ w.frozen? ⟨b, 1, none⟩ = false := ⟨(h.cell 0).trans rfl, (h.cell 1).trans rfl, h.free 0 none, h.free 1 none⟩
theorem Own.sumb_put {w0 w : World} {b : Nat} {x y : Int} {R : HProp} (h : Own w0 (SumB b x y * R) w) (x' y' : Int) : Own w0 (SumB b x' y' * R) ((w.setCell ⟨b, 0, none⟩ (.int .i64 x')).setCell ⟨b, 1, none⟩ (.int .i64 y')) :=
  (h.setCell (i := 0) (v := .int .i64 x')).setCell (i := 1) (v := .int .i64 y')
theorem Own.sumb_put0 {w0 w : World} {b : Nat} {x y : Int} {R : HProp} (h : Own w0 (SumB b x y * R) w) (x' : Int) : Own w0 (SumB b x' y * R) (w.setCell ⟨b, 0, none⟩ (.int .i64 x')) := h.setCell (i := 0) (v := .int .i64 x')
theorem PicOk.hadB {s : Pic} (h : PicOk s) (hn : (s.wrote.map (·.1)).Nodup) : 0 ≤ pcHad s ∧ pcHad s ≤ 5000000 := by
  have h1 := leftSum_bd h.wrote (s.wrote.map (·.1))
  rw [leftSum_all _ hn, List.length_map] at h1
  have := h.few
  unfold pcHad
  omega
theorem it_keys {w0 w : World} {b r : Nat} {l : List (Int × Int)} {left : List Int} {last : Option Int} {R : HProp} (h : Own w0 (MpIt (fun n : Int => Value.int .i64 n) I64 b r (mvals iV l) left last * R) w) : (l.map (·.1)).Nodup := by
  have := h.it_end.map_nodup
  unfold mvals at this
  rw [List.map_map] at this
  exact this
set_option maxRecDepth 100000 in
set_option maxHeartbeats 4000000 in
theorem pSum_any {w0 w : World} {R : HProp} {p mb1 mb2 mb3 gb go gc n : Nat} (s : Pic) (hok : PicOk s) (h : Own w0 (PicA p mb1 mb2 mb3 gb go gc n s * R) w) :
    Calls Tryd.prog 29 #[.pointer (some ⟨p, 0, none⟩)] w fun e w' => e = .returned (.tuple #[.agg #[.int .i64 (if pcDone s = true then pcHad s else 0), .int .i64 (if pcDone s = true then s.onWay else 0)], errV (if pcDone s = true then 0 else 6)]) ∧ Own w0 (PicA p mb1 mb2 mb3 gb go gc n s * R) w' := by
  obtain ⟨b1, hb_b1⟩ : ∃ zz_, zz_ = (w).heap.size := ⟨_, rfl⟩
  obtain ⟨w1, hw_w1⟩ : ∃ zz_, zz_ = (w).alloc (.cells #[.int .i64 0, .int .i64 0] 75 (0, 0)) := ⟨_, rfl⟩
  have h_HO1 := (h).alloc (.cells #[.int .i64 0, .int .i64 0] 75 (0, 0))
  rw [← hb_b1, ← hw_w1] at h_HO1
  have HO1 := Lib.hid h_HO1
  clear h_HO1
  have HP : Hid (Own w0 (PicA p mb1 mb2 mb3 gb go gc n s * (SumB b1 0 0 * R)) w1) := Lib.hid HO1.out.second
  clear HO1 h
  cases hd : pcDone s
  · rw [if_neg (by simp), if_neg (by simp), if_neg (by simp)]
    have HD := Lib.hid hd; have HOK := Lib.hid hok
    clear hd hok
    go_enter Tryd.func29, Tryd.ntmps29
    go_upto_region 1 with fail
    rw [← hb_b1, ← hw_w1]
    clear hb_b1 hw_w1
    go_wp2_with fail
    refine (pDone_any s HP.out).mono ?_
    rintro e w2 ⟨rfl, ho⟩
    rw [HD.out]
    have HB : Hid (Own w0 (SumB b1 0 0 * (PicA p mb1 mb2 mb3 gb go gc n s * R)) w2) := Lib.hid ho.second
    clear ho HP
    obtain ⟨z0, z1, f0, f1⟩ := HB.out.sumb
    have HF := Lib.hid (HB.out.sumb_put 0 0)
    obtain ⟨r0, r1, _⟩ := HF.out.sumb
    go_wp2_with fail
    exact bodyPost_ret (v := .tuple #[.agg #[.int .i64 0, .int .i64 0], errV 6]) (by simp [results, Tryd.results29, go_sem, r0, r1]; rfl) rfl ⟨rfl, HF.out.drop⟩
  rw [if_pos rfl, if_pos rfl, if_pos rfl, errV0]
  obtain ⟨on, hon⟩ : ∃ on, on = s.onWay := ⟨_, rfl⟩
  obtain ⟨T, hT⟩ : ∃ T, T = pcHad s := ⟨_, rfl⟩
  rw [← hon, ← hT]
  have HD := Lib.hid hd; have HOK := Lib.hid hok; have HON := Lib.hid hon; have HT := Lib.hid hT
  clear hd hok hon hT
  go_enter Tryd.func29, Tryd.ntmps29
  go_upto_region 1 with fail
  rw [← hb_b1, ← hw_w1]
  clear hb_b1 hw_w1
  go_wp2_with fail
  refine (pDone_any s HP.out).mono ?_
  rintro e w2 ⟨rfl, ho⟩
  rw [HD.out]
  obtain ⟨m, hm, hq⟩ := ho.pic_open
  obtain ⟨_, _, _, c3, _, c5, _⟩ := hq.pic_facts
  rw [← HON.out] at c5
  obtain ⟨b4, hb_b4⟩ : ∃ zz_, zz_ = (w2).heap.size := ⟨_, rfl⟩
  obtain ⟨w4, hw_w4⟩ : ∃ zz_, zz_ = (w2).alloc (.cells #[.int .i64 0, .int .i64 on] 75 (0, 0)) := ⟨_, rfl⟩
  have h_HO4 := (hq).alloc (.cells #[.int .i64 0, .int .i64 on] 75 (0, 0))
  rw [← hb_b4, ← hw_w4] at h_HO4
  have HO4 := Lib.hid h_HO4
  clear h_HO4
  clear ho HP hq
  have HM := Lib.hid hm
  clear hm
  go_upto_region 4 with fail
  rw [← hb_b4, ← hw_w4]
  clear hb_b4 hw_w4
  clear c3 c5
  obtain ⟨_, _, _, c3, _⟩ := HO4.out.drop.pic_facts
  obtain ⟨rb, hrb⟩ : ∃ rb, rb = w4.heap.size := ⟨_, rfl⟩
  have hnd0 : (s.wrote.map (·.1)).Nodup := by
    have := HO4.out.drop.pic_wrote.map_nodup
    unfold mvals at this
    rw [List.map_map] at this
    exact this
  have hTb := HOK.out.hadB hnd0
  rw [← HT.out] at hTb
  obtain ⟨X, hX⟩ : ∃ X, X = picB p mb1 mb2 mb3 gb go gc n s.begun s.onWay * (goldS gb go gc n s.gold * (waysS mb1 m * (opnS mb3 s.opn * (SumB b1 0 0 * R)))) := ⟨_, rfl⟩
  have HW4 : Hid (Own w0 (wroteS mb2 s.wrote * (SumB b4 0 on * X)) w4) := Lib.hid ((show Own w0 (SumB b4 0 on * (PicO p mb1 mb2 mb3 gb go gc n m s * (SumB b1 0 0 * R))) w4 from HO4.out).perm (by rw [hX]; unfold PicO; ac_rfl))
  have HXE : Hid (∀ w', Own w0 (wroteS mb2 s.wrote * (SumB b4 T on * X)) w' → Own w0 (SumB b1 0 0 * (SumB b4 T on * (PicA p mb1 mb2 mb3 gb go gc n s * R))) w') := Lib.hid (fun w' h => by
    have h1 : Own w0 (PicO p mb1 mb2 mb3 gb go gc n m s * (SumB b1 0 0 * (SumB b4 T on * R))) w' := h.perm (by rw [hX]; unfold PicO; ac_rfl)
    exact (h1.pic_close HM.out).perm (by ac_rfl))
  clear HO4
  have HND0 := Lib.hid hnd0; have HRB := Lib.hid hrb; have HTB := Lib.hid hTb; have HX := Lib.hid hX
  clear hnd0 hrb hTb hX
  go_wp2_with (refine wpList_range mapgi_kind HW4.out rfl _ rfl rfl ?_; intro w5 ho5; rw [← HRB.out] at ho5 ⊢; have HW5 := Lib.hid ho5; clear ho5)
  go_simp
  go_loopg [] (s.wrote.length) (fun g wr => ∃ (left : List Int) (last : Option Int) (H : Int), left.length ≤ g ∧ left.length ≤ 5 ∧ Hid (left.Nodup ∧ H + leftSum s.wrote left = T) ∧ Hid (Own w0 (MpIt (fun n : Int => Value.int .i64 n) I64 mb2 rb (mvals iV s.wrote) left last * (SumB b4 H on * X)) wr))
  case atStart =>
    have hl5 : ((mvals iV s.wrote).map (·.1)).length ≤ 5 := by simp [mvals]; exact HOK.out.few
    have hk : (mvals iV s.wrote).map (·.1) = s.wrote.map (·.1) := by unfold mvals; rw [List.map_map]; rfl
    refine ⟨(mvals iV s.wrote).map (·.1), none, 0, by simp [mvals], hl5, Lib.hid ⟨by rw [hk]; exact HND0.out, ?_⟩, HW5⟩
    rw [hk, leftSum_all _ HND0.out, HT.out]; unfold pcHad; omega
  case round =>
    clear HW5 HW4 c3
    obtain ⟨left, last, H, hlen, h5, HS, HP⟩ := hrel
    obtain ⟨k0, k1, f0, f1⟩ := HP.out.second.sumb
    go_wp2_with (refine wpList_next (int_ke int_kind) HP.out rfl _ rfl rfl ?_ ?_)
    · intro hnil
      subst hnil
      have hHT : H = T := by have := HS.out.2; simp [leftSum] at this; omega
      subst hHT
      have HF := Lib.hid (HXE.out _ HP.out.it_end)
      obtain ⟨z0, z1, g0, g1⟩ := HF.out.sumb
      obtain ⟨y0, y1, _⟩ := HF.out.drop.sumb
      have HFF := Lib.hid (HF.out.sumb_put H on)
      obtain ⟨r0, r1, _⟩ := HFF.out.sumb
      go_wp2_with fail
      exact bodyPost_ret (v := .tuple #[.agg #[.int .i64 H, .int .i64 on], .nilIface]) (by simp [results, Tryd.results29, go_sem, r0, r1]) rfl ⟨rfl, HFF.out.drop.drop⟩
    · intro x v w6 hmem hxl hent ho
      have hlt := dropKey_lt hxl
      obtain ⟨z, rfl, hz⟩ : ∃ z, v = .int .i64 z ∧ (mget s.wrote x).getD 0 = z := by
        unfold mvals at hmem
        obtain ⟨q, hq, e⟩ := List.mem_map.1 hmem
        obtain ⟨j, hj, rfl⟩ := List.getElem_of_mem hq
        cases e
        have := mget_at HND0.out (j := j) (x := s.wrote[j].1) (u := s.wrote[j].2) (by rw [List.getElem?_eq_getElem hj])
        exact ⟨_, rfl, by rw [this]; rfl⟩
      have hdrop := leftSum_drop s.wrote left x HS.out.1 hxl
      have hb := leftSum_bd HOK.out.wrote (dropKey left x)
      have hb2 := leftSum_bd HOK.out.wrote left
      have htot := HS.out.2
      have htb := HTB.out
      rw [hz] at hdrop
      have hlt5 : ((dropKey left x).length : Int) ≤ 5 := by omega
      have hwr : IntKind.i64.wrap (H + z) = H + z := by rw [IntKind.wrap_i64]; omega
      have hnd : (dropKey left x).Nodup := List.Pairwise.filter _ HS.out.1
      have hnew : H + z + leftSum s.wrote (dropKey left x) = T := by omega
      clear k0 k1 f0 f1
      obtain ⟨k0, k1, f0, f1⟩ := ho.second.sumb
      have HNW := Lib.hid (ho.second.sumb_put0 (H + z)).second
      clear ho
      have HMEM := Lib.hid hmem; have HXL := Lib.hid hxl; have HZ := Lib.hid hz; have HDROP := Lib.hid hdrop; have HB := Lib.hid hb; have HB2 := Lib.hid hb2; have HTOT := Lib.hid htot; have HTB := Lib.hid htb; have HND := Lib.hid hnd; have HNEW := Lib.hid hnew
      clear hmem hxl hz hdrop hb hb2 htot htb hnd hnew
      go_wp2
      go_roundg ((dropKey left x).length)
      case measure => omega
      case rel => exact ⟨dropKey left x, some x, H + z, Nat.le_refl _, by omega, Lib.hid ⟨HND.out, HNEW.out⟩, HNW⟩
set_option maxRecDepth 100000 in
set_option maxHeartbeats 4000000 in
theorem pOnWay_any {w0 w : World} {R : HProp} {p mb1 mb2 mb3 gb go gc n : Nat} (s : Pic) (a b : Int) (hok : PicOk s) (h : Own w0 (PicA p mb1 mb2 mb3 gb go gc n s * R) w) :
    Calls Tryd.prog 27 #[.pointer (some ⟨p, 0, none⟩), .int .i64 a, .int .i64 b] w fun e w' => ∃ v', e = .returned (.tuple #[v', errV (pcWay s a b)]) ∧ Own w0 (IntSl v' (if pcWay s a b = 0 then pcRow s a b else []) * (PicA p mb1 mb2 mb3 gb go gc n s * R)) w' := by
  obtain ⟨b1, hb_b1⟩ : ∃ zz_, zz_ = (w).heap.size := ⟨_, rfl⟩
  obtain ⟨w1, hw_w1⟩ : ∃ zz_, zz_ = (w).alloc (.cells #[.int .i64 a, .int .i64 b] 154 (0, 0)) := ⟨_, rfl⟩
  have h_HO1 := (h).alloc (.cells #[.int .i64 a, .int .i64 b] 154 (0, 0))
  rw [← hb_b1, ← hw_w1] at h_HO1
  have HO1 := Lib.hid h_HO1
  clear h_HO1
  have x0 : w1.cell? ⟨b1, 0, none⟩ = some (.int .i64 a) := (HO1.out.cell 0).trans rfl
  have x1 : w1.cell? ⟨b1, 1, none⟩ = some (.int .i64 b) := (HO1.out.cell 1).trans rfl
  have HP : Hid (Own w0 (PicA p mb1 mb2 mb3 gb go gc n s * (blk b1 (.cells #[.int .i64 a, .int .i64 b] 154 (0, 0)) * R)) w1) := Lib.hid HO1.out.second
  clear HO1 h
  by_cases hc : pcWay s a b = 0
  rotate_left
  · obtain ⟨mm, hmm⟩ := errV_some hc
    rw [if_neg hc, hmm]
    have HC := Lib.hid hc; have HMM := Lib.hid hmm; have HOK := Lib.hid hok
    clear hc hmm hok
    go_enter Tryd.func27, Tryd.ntmps27
    go_upto_region 2 with fail
    rw [← hb_b1, ← hw_w1]
    clear hb_b1 hw_w1
    go_wp2_with fail
    refine (pCheck_any s a b HP.out).mono ?_
    rintro e w2 ⟨rfl, ho⟩
    have HF := Lib.hid ho.second.drop
    clear ho
    rw [HMM.out]
    go_wp2
    go_ret2
    exact ⟨_, rfl, HF.out.sl_nil _ _⟩
  have hway := pcWay0.1 hc
  have haI := pcHas_small hok.n5 (pcHas_mem.2 hway.1)
  have hbI := pcHas_small hok.n5 (pcHas_mem.2 hway.2.1)
  have hx : plOk (a, b) := ⟨haI, hbI⟩
  have hrl := hok.row a b
  rw [if_pos hc]
  obtain ⟨L, hL⟩ : ∃ L, L = pcRow s a b := ⟨_, rfl⟩
  rw [← hL] at hrl
  rw [← hL, hc, errV0]
  have hRowI : ∀ y ∈ L, I64 y := fun y hy => by have := hrl.2 y hy; unfold I64; omega
  have HC := Lib.hid hc; have HWAY := Lib.hid hway; have HAI := Lib.hid haI; have HBI := Lib.hid hbI; have HX := Lib.hid hx; have HRL := Lib.hid hrl; have HL := Lib.hid hL; have HROWI := Lib.hid hRowI; have HOK := Lib.hid hok
  clear hc hway haI hbI hx hrl hL hRowI hok
  go_enter Tryd.func27, Tryd.ntmps27
  go_upto_region 2 with fail
  rw [← hb_b1, ← hw_w1]
  clear hb_b1 hw_w1
  go_wp2_with fail
  refine (pCheck_any s a b HP.out).mono ?_
  rintro e w2 ⟨rfl, ho⟩
  rw [HC.out, errV0]
  obtain ⟨m, hm, hq⟩ := ho.pic_open
  obtain ⟨_, c1, _⟩ := hq.drew.pic_facts
  clear x0 x1
  have x0 : w2.drew.cell? ⟨b1, 0, none⟩ = some (.int .i64 a) := (ho.drew.drop.cell 0).trans rfl
  have x1 : w2.drew.cell? ⟨b1, 1, none⟩ = some (.int .i64 b) := (ho.drew.drop.cell 1).trans rfl
  have hlk := hq.drew.pic_row (a, b) HX.out
  have hrd := hq.drew.pic_rd hm a b (by rw [← HL.out]; exact HROWI.out)
  obtain ⟨V, hV⟩ : ∃ V, V = ((mget m (a, b)).getD nilRow).1 := ⟨_, rfl⟩
  rw [← hV] at hlk hrd
  rw [← HL.out] at hrd
  simp only at hlk
  have HOD := Lib.hid ho.drew
  clear ho
  have HM := Lib.hid hm; have HQ := Lib.hid hq; have HV := Lib.hid hV; have HRD := Lib.hid hrd
  clear hm hq hV hrd
  go_upto_region 5 with fail
  refine wp_region_planH 8 [] [(true, 0), (true, 1), (true, 2), (true, 3), (true, 4), (true, 5), (false, 6), (false, 7)] [8] (fun wS => (wS.cell? ⟨p, 1, none⟩ = some (.map (some mb1)) ∧ wS.cell? ⟨b1, 0, none⟩ = some (.int .i64 a) ∧ wS.cell? ⟨b1, 1, none⟩ = some (.int .i64 b)) ∧ (Instr.lookup 148 (.map (some mb1)) (.agg #[.int .i64 a, .int .i64 b]) false).run Tryd.prog wS = .ok V wS) (by kernel_rfl) (by kernel_rfl) (⟨⟨c1, x0, x1⟩, hlk⟩) ?_
  simp only [pickH, pick, List.getElem?_cons_succ, List.getElem?_cons_zero, Option.toList, Option.map_some, List.cons_append, List.nil_append]
  repeat (refine wpPure_step ?_ rfl ?_ ?_; rotate_left; (focus (intro _; first | with_reducible rfl | (go_simp; done) | (go_simp; with_reducible rfl) | rfl)); go_simp)
  refine wpPure_nil ?_
  repeat (refine wpMix_read ?_ rfl ?_ ?_; rotate_left; (focus (intro _ hS; obtain ⟨⟨s1, s2, s3⟩, s4⟩ := hS; first | with_reducible rfl | (go_simp; done) | (go_simp; with_reducible rfl) | rfl)); go_simp)
  refine wpMix_write (fun K hK => ?_)
  go_simp
  refine (cloneInts_any HQ.out.drew V L HRD.out (by have := HRL.out.1; omega)).mono ?_
  rintro e w3 ⟨v3, rfl, ho3⟩
  obtain ⟨_, k1, _⟩ := ho3.drop.pic_facts
  have k0 : w3.cell? ⟨b1, 0, none⟩ = some (.int .i64 a) := (ho3.drop.drop.cell 0).trans rfl
  have k2 : w3.cell? ⟨b1, 1, none⟩ = some (.int .i64 b) := (ho3.drop.drop.cell 1).trans rfl
  have k3 := ho3.drop.pic_row (a, b) HX.out
  rw [← HV.out] at k3
  simp only at k3
  have HO3 : Hid (Own w0 (IntSl v3 L * (PicA p mb1 mb2 mb3 gb go gc n s * R)) w3) := Lib.hid (by
    have h1 : Own w0 (PicO p mb1 mb2 mb3 gb go gc n m s * (IntSl v3 L * R)) w3 := (ho3.perm (show _ = blk b1 (.cells #[.int .i64 a, .int .i64 b] 154 (0, 0)) * (PicO p mb1 mb2 mb3 gb go gc n m s * (IntSl v3 L * R)) by ac_rfl)).drop
    exact (h1.pic_close HM.out).second)
  clear ho3
  refine hK _ _ ⟨⟨⟨k1, k0, k2⟩, k3⟩, ?_⟩
  clear hK K
  go_simp
  refine wpMix_write (fun K hK => ?_)
  go_simp
  refine hK _ _ ⟨⟨⟨k1, k0, k2⟩, k3⟩, ?_⟩
  clear hK K
  go_simp
  refine wpMix_nil ?_
  clear c1 x0 x1 hlk k0 k1 k2 k3
  go_wp2_with fail
  refine NoPanic.normal ?_
  go_wp2
  go_ret2
  exact ⟨_, rfl, HO3.out⟩
end Go.Proofs.YtpgonkecicmanaaDoor
